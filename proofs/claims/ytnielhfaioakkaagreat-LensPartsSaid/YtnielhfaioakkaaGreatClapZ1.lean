/- The checks of the small code against the loaded functions. -/
import Derived.Test.YtnielhfaioakkaaGreatClapG1
set_option linter.unusedVariables false
set_option linter.unusedSimpArgs false
set_option maxHeartbeats 4000000
set_option maxRecDepth 100000
namespace Go.Clap
open Go.IntKind (wrap)
def f26 : Int → Int → Option (Int)
 | v5, v0 => grdP (v0 ≠ 0) (cond (decide ((Int.tmod v5 v0) < 0)) (some (wrap .i64 ((Int.tmod v5 v0) + v0))) (some (Int.tmod v5 v0)))
def C26 (O : Oracle TT) (m : Int → Int → Option (Int)) : Prop :=
 ∀ v0 v5 (Q : Int → Prop) (R : RR) (_ : ∀ v6, Q v6 → R (iD v6) []) (_ : sat (m v0 v5) Q), O 26 [iD v0, iD v5] [] R
def j26 : Fn TT := ⟨14, [.t 4], (sr [qo 4 (.mv (iC 0))] (.seq (sr [qm 5 0,qm 6 1,qo 7 (.bin .rem .num 5 6),qm 0 7] (sr [qm 8 0,qo 9 (.bin .lss .num 8 (iC 0))] (.cond 9 (.reg [qm 10 0,qm 11 1,qo 12 (.bin .add .num 10 11),qm 0 12]) .skip))) (sr [qm 13 0,qm 4 13] .ret)))⟩
theorem w26 {O : Oracle TT} : C26 (fun _ => vcF (S := SS) O j26) f26 := by
 intro v5 v6 Q R hQ h
 unfold f26 at h
 refine ⟨nle rfl, rfl, ?_⟩
 refine kp h fun hb7 h => ?_
 refine kc h ?_ ?_ <;> intro h
 exact kR [] (ND 0) (hQ _ (ss h))
 exact kR [] (ND 0) (hQ _ (ss h))
def f15 : Int → LI → Option (Int × LI)
 | v5, l0 => cond (decide (v5 < 1)) (some (0, l0)) (cond (((l0.length : Nat) : Int) == 0) (some (0, l0)) (getL l0 0 fun v6 => grdP ((0 : Int) ≤ 1 ∧ (1 : Int).toNat ≤ l0.length ∧ l0.length ≤ l0.length) ((f26 v6 v5).bind fun v7 => some (v7, ((l0.drop ((1 : Int).toNat)).take (l0.length - (1 : Int).toNat))))))
def C15 (O : Oracle TT) (m : Int → LI → Option (Int × LI)) : Prop :=
 ∀ v0 l5 (Q : (Int × LI) → Prop) (R : RR) (_ : ∀ v6 l7, Q (v6, l7) → R (iD v6) [eV (.x 0) [.isl .int l7]]) (_ : sat (m v0 l5) Q), O 15 [pX 0, iD v0] [eV (.x 0) [.isl .int l5]] R
def j15 : Fn TT := ⟨33, [.t 4], (sr [qo 4 (.mv (iC 0))] (.seq (sr [qm 6 1,qo 7 (.bin .lss .num 6 (iC 1)),qm 8 7,qf 8 9 (.mv 0),qf 8 10 (.nilck 9),qf 8 11 (.fa 10 0),qf 8 12 (ld 11),qf 8 13 (.len false 12),qf 8 14 (.bin .eql .num 13 (iC 0)),qo 15 (.pick 8 bT 14)] (.cond 15 (sr [qo 4 (.mv (iC 0))] .ret) .skip)) (.seq
 (.reg [qm 16 0,qo 17 (.nilck 16),qo 18 (.fa 17 0),qo 19 (ld 18),qo 20 (.idxA 19 (iC 0) 1),qo 21 (ld 20),qm 5 21]) (sr [qm 22 0,qm 23 0,qo 24 (.nilck 23),qo 25 (.fa 24 0),qo 26 (ld 25),qo 27 (.slc 1 26 (some (iC 1)) none),qo 28 (.nilck 22),qo 29 (.fa 28 0),qp (.store 29 27 1)] (sr [qm 30 5,qm 31 1,
 qo 32 (.call 32 26 [30, 31]),qm 4 32] .ret)))))⟩
theorem w15 {O : Oracle TT} (h26 : C26 O f26) : C15 (fun _ => vcF (S := SS) O j15) f15 := by
 intro v8 l9 Q R hQ h
 unfold f15 at h
 refine ⟨nle rfl, rfl, ?_⟩
 refine kc h ?_ ?_ <;> intro h
 intro hlA
 refine kc h ?_ ?_ <;> intro h
 refine kg (sat_getL h) fun vB huuC h => ?_
 conv => whnf
 obtain ⟨⟨hb5, hb6⟩, h⟩ := sat_grdP h
 refine ⟨hb5, ?_⟩
 conv => whnf
 refine ⟨hb6, ?_⟩
 refine kL [] (h26 _ _ _ _ ?_ (sb h))
 rintro vE h
 exact kR [] (ND 1) (hQ _ _ (ss h))
 exact kR [] (ND 1) (hQ _ _ (ss h))
 exact kR [] (ND 1) (hQ _ _ (ss h))
def f39 : Tp → Option (Tp)
 | .mk k5 m6 lo7 hi8 p9 psA => some (Tp.mk 7 (⟨#[]⟩ : BA) 0 0 (⟨#[]⟩ : BA) ([((⟨#[110, 111, 110, 101]⟩ : BA), (Tp.mk 0 (⟨#[]⟩ : BA) 0 0 (⟨#[]⟩ : BA) [])), ((⟨#[115, 111, 109, 101]⟩ : BA), (Tp.mk k5 m6 lo7 hi8 p9 psA))] : PT))
def C39 (O : Oracle TT) (m : Tp → Option (Tp)) : Prop :=
 ∀ k5 m6 lo7 hi8 p9 psA (Q : Tp → Prop) (R : RR) (_ : ∀ kB mC loD hiE pF psG, Q (Tp.mk kB mC loD hiE pF psG) → R (.agg [ci kB, .str mC, ci loD, ci hiE, .str pF, .isl .part psG]) []) (_ : sat (m (Tp.mk k5 m6 lo7 hi8 p9 psA)) Q), O 39 [.agg [ci k5, .str m6, ci lo7, ci hi8, .str p9, .isl .part psA]] [] R
def j39 : Fn TT := ⟨8, [.cell 2 6 true], (sr [qo 1 (.box 1 0),qo 2 (.alloc 2 zTp)] (sr [qo 3 (.build zPt [((0, 1), (.c (.str (⟨#[110, 111, 110, 101]⟩ : BA))))]),qo 4 (.load 1 6 true),qo 5 (.build zPt [((0, 1), (.c (.str (⟨#[115, 111, 109, 101]⟩ : BA)))), ((1, 6), 4)]),qo 6 (.bsl .part [3, 5]),qo 7 (.build zTp [((0, 1), (iC 7)), ((5, 1), 6)]),
 qp (.store 2 7 6)] .ret))⟩
theorem w39 {O : Oracle TT} : C39 (fun _ => vcF (S := SS) O j39) f39 := by
 intro k5 m6 lo7 hi8 p9 psA Q R hQ h
 unfold f39 at h
 refine ⟨nle rfl, rfl, ?_⟩
 exact kR [] (ND 0) (hQ _ _ _ _ _ _ (ss h))
def f40 : (List Tp) → LI → Option (Tp × LI)
 | l5, l6 => (f15 ((l5.length : Nat) : Int) l6).bind fun (v7, l8) => getL l5 v7 fun uu9 => match uu9 with | .mk kA mB loC hiE pF psG => some ((Tp.mk kA mB loC hiE pF psG), l8)
def C40 (O : Oracle TT) (m : (List Tp) → LI → Option (Tp × LI)) : Prop :=
 ∀ l5 l6 (Q : (Tp × LI) → Prop) (R : RR) (_ : ∀ k7 m8 lo9 hiA pB psC lE, Q ((Tp.mk k7 m8 lo9 hiA pB psC), lE) → R (.agg [ci k7, .str m8, ci lo9, ci hiA, .str pB, .isl .part psC]) [eV (.x 0) [.isl .int lE]]) (_ : sat (m l5 l6) Q), O 40 [pX 0, .c (.isl .typ l5)] [eV (.x 0) [.isl .int l6]] R
def j40 : Fn TT := ⟨12, [.cell 4 6 true], (sr [qo 4 (.alloc 4 zTp)] (sr [qm 5 1,qm 6 0,qm 7 1,qo 8 (.len false 7),qo 9 (.call 9 15 [6, 8]),qo 10 (.idxA 5 9 6),qo 11 (.load 10 6 true),qp (.store 4 11 6)] .ret))⟩
theorem w40 {O : Oracle TT} (h15 : C15 O f15) : C40 (fun _ => vcF (S := SS) O j40) f40 := by
 intro l6 l8 Q R hQ h
 unfold f40 at h
 refine ⟨nle rfl, rfl, ?_⟩
 intro hl9
 refine kL [(.x 0)] (h15 _ _ _ _ ?_ (sb h))
 rintro vA lB h
 refine kg (sat_getL h) fun uu5 huu5 h => ?_
 obtain ⟨kC, mE, loF, hiG, pH, psI⟩ := uu5
 exact kR [] (ND 1) (hQ _ _ _ _ _ _ _ (ss h))
def f21 : LI → Option (PT)
 | lN => sbind (ο := LI × PT) ((f15 (2 : Int) lN).bind fun (vO, l7) => cond (vO == 0) (grdP (([((⟨#[116, 114, 101, 101]⟩ : BA), (Tp.mk 6 (⟨#[]⟩ : BA) 0 0 (⟨#[]⟩ : BA) ([((⟨#[118, 97, 108]⟩ : BA), (Tp.mk 2 (⟨#[]⟩ : BA) 0 9 (⟨#[]⟩ : BA) [])), ((⟨#[107, 105, 100, 115]⟩ : BA), (Tp.mk 8 (⟨#[]⟩ : BA) 0 2 (⟨#[]⟩ : BA) ([((⟨#[]⟩ : BA), (Tp.mk 10 (⟨#[116, 114, 101, 101]⟩ : BA) 0 0 (⟨#[]⟩ : BA) []))] : PT)))] : PT)))] : PT).length ≤ 68719476736) (some (.inr (l7, ([((⟨#[116, 114, 101, 101]⟩ : BA), (Tp.mk 6 (⟨#[]⟩ : BA) 0 0 (⟨#[]⟩ : BA) ([((⟨#[118, 97, 108]⟩ : BA), (Tp.mk 2 (⟨#[]⟩ : BA) 0 9 (⟨#[]⟩ : BA) [])), ((⟨#[107, 105, 100, 115]⟩ : BA), (Tp.mk 8 (⟨#[]⟩ : BA) 0 2 (⟨#[]⟩ : BA) ([((⟨#[]⟩ : BA), (Tp.mk 10 (⟨#[116, 114, 101, 101]⟩ : BA) 0 0 (⟨#[]⟩ : BA) []))] : PT)))] : PT)))] : PT))))) (some (.inr (l7, [])))) (fun (lP, l5) => sbind (ο := LI × PT) ((f15 (2 : Int) lP).bind fun (vQ, l8) => cond (vQ == 0) ((f39 (Tp.mk 2 (⟨#[]⟩ : BA) 0 9 (⟨#[]⟩ : BA) [])).bind fun (.mk k9 mA loB hiC pE psF) => grdP (l5.length + ([((⟨#[109, 97, 121, 98, 101]⟩ : BA), (Tp.mk k9 mA loB hiC pE psF))] : PT).length ≤ 68719476736) (some (.inr (l8, (l5 ++ ([((⟨#[109, 97, 121, 98, 101]⟩ : BA), (Tp.mk k9 mA loB hiC pE psF))] : PT)))))) (some (.inr (l8, l5)))) (fun (lU, l6) => (f15 (3 : Int) lU).bind fun (vV, lW) => cond (vV == 0) ((f40 ([(Tp.mk 2 (⟨#[]⟩ : BA) 0 9 (⟨#[]⟩ : BA) []), (Tp.mk 5 (⟨#[]⟩ : BA) 0 0 (⟨#[91, 97, 45, 99, 93, 42]⟩ : BA) [])] : List Tp) lW).bind fun ((.mk kG mH loI hiJ pK psM), lY) => grdP (l6.length + ([((⟨#[97, 108, 105, 97, 115]⟩ : BA), (Tp.mk kG mH loI hiJ pK psM))] : PT).length ≤ 68719476736) (some (l6 ++ ([((⟨#[97, 108, 105, 97, 115]⟩ : BA), (Tp.mk kG mH loI hiJ pK psM))] : PT)))) (some l6)))
def C21 (O : Oracle TT) (m : LI → Option (PT)) : Prop :=
 ∀ l0 (Q : PT → Prop) (R : RR) (_ : ∀ l3, Q l3 → R (.c (.isl .dfn l3)) []) (_ : sat (m l0) Q), O 21 [.c (.isl .int l0)] [] R
def j21 : Fn TT := ⟨50, [.t 2], (sr [qo 2 (.mv (.c (.nils)))] (sr [qm 7 0,qo 8 (.build [.isl .int []] [((0, 1), 7)]),qo 9 (.box 9 8),qm 3 9] (sr [qo 10 (.build zTp [((0, 1), (iC 2)), ((3, 1), (iC 9))]),qo 4 (.alloc 4 zTp),qp (.store 4 10 6)] (sr [qo 5 (.mv (.c (.nils)))] (.cut [3, 4, 5] [(.s 9), (.s 4), (.sub (.sub (.s 5) 727) 0)] (.aft
 (sr [qm 11 3,qo 12 (.call 12 15 [11, (iC 2)]),qo 13 (.bin .eql .num 12 (iC 0))] (.cond 13 (sr [qo 14 (.build zTp [((0, 1), (iC 10)), ((1, 1), (.c (.str (⟨#[116, 114, 101, 101]⟩ : BA))))]),qo 15 (.build zPt [((1, 6), 14)]),qo 16 (.bsl .part [15]),qo 17 (.build zTp [((0, 1), (iC 8)), ((3, 1), (iC 2)), ((5, 1), 16)]),qo 6 (.alloc 6 zTp),qp (.store 6 17 6)]
 (.reg [qm 18 5,qo 19 (.load 4 6 true),qo 20 (.build zPt [((0, 1), (.c (.str (⟨#[118, 97, 108]⟩ : BA)))), ((1, 6), 19)]),qo 21 (.load 6 6 true),qo 22 (.build zPt [((0, 1), (.c (.str (⟨#[107, 105, 100, 115]⟩ : BA)))), ((1, 6), 21)]),qo 23 (.bsl .part [20, 22]),qo 24 (.build zTp [((0, 1), (iC 6)), ((5, 1), 23)]),
 qo 25 (.build zPt [((0, 1), (.c (.str (⟨#[116, 114, 101, 101]⟩ : BA)))), ((1, 6), 24)]),qo 26 (.bsl .dfn [25]),qo 27 (.app 27 .dfn 68719476736 18 26),qm 5 27])) .skip)) [.own 5 0 .dfn (.sub (.sub (.s 5) 727) 0)]) (.cut [3, 4, 5] [(.s 9), (.s 4), (.sub (.sub (.s 5) 726) 0)] (.aft (sr [qm 28 3,qo 29 (.call 29 15 [28, (iC 2)]),qo 30 (.bin .eql .num 29 (iC 0))]
 (.cond 30 (.reg [qm 31 5,qo 32 (.load 4 6 true),qo 33 (.call 33 39 [32]),qo 34 (.build zPt [((0, 1), (.c (.str (⟨#[109, 97, 121, 98, 101]⟩ : BA)))), ((1, 6), 33)]),qo 35 (.bsl .dfn [34]),qo 36 (.app 36 .dfn 68719476736 31 35),qm 5 36]) .skip)) [.own 5 0 .dfn (.sub (.sub (.s 5) 726) 0)]) (.seq (sr [qm 37 3,qo 38 (.call 38 15 [37, (iC 3)]),
 qo 39 (.bin .eql .num 38 (iC 0))] (.cond 39 (.reg [qm 40 5,qm 41 3,qo 42 (.load 4 6 true),qo 43 (.build zTp [((0, 1), (iC 5)), ((4, 1), (.c (.str (⟨#[91, 97, 45, 99, 93, 42]⟩ : BA))))]),qo 44 (.bsl .typ [42, 43]),qo 45 (.call 45 40 [41, 44]),qo 46 (.build zPt [((0, 1), (.c (.str (⟨#[97, 108, 105, 97, 115]⟩ : BA)))), ((1, 6), 45)]),qo 47 (.bsl .dfn [46]),
 qo 48 (.app 48 .dfn 68719476736 40 47),qm 5 48]) .skip)) (sr [qm 49 5,qm 2 49] (.pre [.frz 2 0 .dfn] .ret)))))))))⟩
theorem w21 {O : Oracle TT} (h15 : C15 O f15) (h39 : C39 O f39) (h40 : C40 O f40) : C21 (fun _ => vcF (S := SS) O j21) f21 := by
 intro lO Q R hQ h
 unfold f21 at h
 refine ⟨nle rfl, rfl, ?_⟩
 obtain ⟨R6, h, a6, b6⟩ := sc h
 refine kX (fun σ => ∃ (l9 : LI) (l5 : PT) (nB : Nat), nB = l5.length ∧ R6 (.inr (l9, l5)) ∧ σ = ⟨[(3, pS 9), pT 4, (5, .c (.osl (.sub (.sub (.s 5) 727) 0) 0 nB))], [eV (.s 9) [.isl .int l9], eV (.s 4) [ci 2, .str eB, ci 0, ci 9, .str eB, .isl .part []], (.sub (.sub (.s 5) 727) 0, (eR .dfn l5))]⟩) ?_ ?_
 refine kL [(.s 9)] (h15 _ _ _ _ ?_ (sb h))
 rintro vP lC h
 refine kc h ?_ ?_ <;> intro h
 conv => whnf
 exact ⟨lC, [], _, LN, ss h, rfl⟩
 conv => whnf
 refine ⟨rfl, ?_⟩
 refine kp h fun hbQ h => ?_
 conv => whnf
 exact ⟨lC, ([((⟨#[116, 114, 101, 101]⟩ : BA), (Tp.mk 6 eB 0 0 eB ([((⟨#[118, 97, 108]⟩ : BA), (Tp.mk 2 eB 0 9 eB [])), ((⟨#[107, 105, 100, 115]⟩ : BA), (Tp.mk 8 eB 0 2 eB ([(eB, (Tp.mk 10 (⟨#[116, 114, 101, 101]⟩ : BA) 0 0 eB []))] : PT)))] : PT)))] : PT), _, LN, ss h, rfl⟩
 rintro _ ⟨l9, l5, _, rfl, h, rfl⟩
 replace h := b6 _ h
 obtain ⟨R7, h, a7, b7⟩ := sc h
 refine kX (fun σ => ∃ (lA : LI) (l8 : PT) (nE : Nat), nE = l8.length ∧ R7 (.inr (lA, l8)) ∧ σ = ⟨[(3, pS 9), pT 4, (5, .c (.osl (.sub (.sub (.s 5) 726) 0) 0 nE))], [eV (.s 9) [.isl .int lA], eV (.s 4) [ci 2, .str eB, ci 0, ci 9, .str eB, .isl .part []], (.sub (.sub (.s 5) 726) 0, (eR .dfn l8))]⟩) ?_ ?_
 refine kL [(.s 9)] (h15 _ _ _ _ ?_ (sb h))
 rintro vU lG h
 refine kc h ?_ ?_ <;> intro h
 conv => whnf
 exact ⟨lG, l5, _, LN, ss h, rfl⟩
 refine kL [] (h39 _ _ _ _ _ _ _ _ ?_ (sb h))
 rintro kH mI loJ hiK pM psN h
 conv => whnf
 refine ⟨LN, rfl, ?_⟩
 conv => whnf
 refine ⟨rfl, ?_⟩
 refine kp h fun hbV h => ?_
 conv => whnf
 exact ⟨lG, (l5 ++ ([((⟨#[109, 97, 121, 98, 101]⟩ : BA), (Tp.mk kH mI loJ hiK pM psN))] : PT)), _, LN, ss h, rfl⟩
 rintro _ ⟨lA, l8, _, rfl, h, rfl⟩
 replace h := b7 _ h
 refine kL [(.s 9)] (h15 _ _ _ _ ?_ (sb h))
 rintro vW lY h
 refine kc h ?_ ?_ <;> intro h
 conv => whnf
 refine ⟨LN, ?_⟩
 exact kR [] (ND 0) (hQ _ (ss h))
 refine kL [(.s 9)] (h40 _ _ _ _ ?_ (sb h))
 rintro kZ m00 lo01 hi02 p03 ps04 l05 h
 conv => whnf
 refine ⟨LN, rfl, ?_⟩
 conv => whnf
 refine ⟨rfl, ?_⟩
 refine kp h fun hb06 h => ?_
 conv => whnf
 refine ⟨LN, ?_⟩
 exact kR [] (ND 0) (hQ _ (ss h))
def f62 : Int → Option (BA)
 | v5 => (f26 v5 (8 : Int)).bind fun v6 => getL ([(⟨#[97]⟩ : BA), (⟨#[98]⟩ : BA), (⟨#[99]⟩ : BA), (⟨#[100]⟩ : BA), (⟨#[101]⟩ : BA), (⟨#[102]⟩ : BA), (⟨#[103]⟩ : BA), (⟨#[104]⟩ : BA)] : LB) v6 fun w7 => some w7
def C62 (O : Oracle TT) (m : Int → Option (BA)) : Prop :=
 ∀ v5 (Q : BA → Prop) (R : RR) (_ : ∀ s6, Q s6 → R (sD s6) []) (_ : sat (m v5) Q), O 62 [iD v5] [] R
def j62 : Fn TT := ⟨7, [.t 2], (sr [qm 2 sE] (.seq
 (.reg [qo 3 (.build [.str eB, .str eB, .str eB, .str eB, .str eB, .str eB, .str eB, .str eB] [((0, 1), (.c (.str (⟨#[97]⟩ : BA)))), ((1, 1), (.c (.str (⟨#[98]⟩ : BA)))), ((2, 1), (.c (.str (⟨#[99]⟩ : BA)))), ((3, 1), (.c (.str (⟨#[100]⟩ : BA)))), ((4, 1), (.c (.str (⟨#[101]⟩ : BA)))), ((5, 1), (.c (.str (⟨#[102]⟩ : BA)))), ((6, 1), (.c (.str (⟨#[103]⟩ : BA)))), ((7, 1), (.c (.str (⟨#[104]⟩ : BA))))]),
 qm 4 0,qo 5 (.call 5 26 [4, (iC 8)]),qo 6 (.idxG 3 5 8),qm 2 6]) .ret))⟩
theorem w62 {O : Oracle TT} (h26 : C26 O f26) : C62 (fun _ => vcF (S := SS) O j62) f62 := by
 intro v7 Q R hQ h
 unfold f62 at h
 refine ⟨nle rfl, rfl, ?_⟩
 refine kL [] (h26 _ _ _ _ ?_ (sb h))
 rintro v8 h
 conv => whnf
 obtain ⟨hbw5, h⟩ := sat_getL h
 refine ⟨hbw5, by decide, fun c6 hc6 => ?_⟩
 obtain ⟨w5, hw5, rfl⟩ := map_get (f := (C.str : _ → C TT)) (xs := ([(⟨#[97]⟩ : BA), (⟨#[98]⟩ : BA), (⟨#[99]⟩ : BA), (⟨#[100]⟩ : BA), (⟨#[101]⟩ : BA), (⟨#[102]⟩ : BA), (⟨#[103]⟩ : BA), (⟨#[104]⟩ : BA)] : LB)) hc6
 replace h := h _ hw5
 exact kR [] (ND 0) (hQ _ (ss h))
def f61 : LB → LI → Option (BA × LI)
 | l5, l6 => (f15 ((l5.length : Nat) : Int) l6).bind fun (v7, l8) => getL l5 v7 fun w9 => some (w9, l8)
def C61 (O : Oracle TT) (m : LB → LI → Option (BA × LI)) : Prop :=
 ∀ l3 l4 (Q : (BA × LI) → Prop) (R : RR) (_ : ∀ s5 l6, Q (s5, l6) → R (sD s5) [eV (.x 0) [.isl .int l6]]) (_ : sat (m l3 l4) Q), O 61 [pX 0, .c (.isl .str l3)] [eV (.x 0) [.isl .int l4]] R
def j61 : Fn TT := ⟨12, [.t 4], (sr [qm 4 sE] (sr [qm 5 1,qm 6 0,qm 7 1,qo 8 (.len false 7),qo 9 (.call 9 15 [6, 8]),qo 10 (.idxA 5 9 1),qo 11 (ld 10),qm 4 11] .ret))⟩
theorem w61 {O : Oracle TT} (h15 : C15 O f15) : C61 (fun _ => vcF (S := SS) O j61) f61 := by
 intro l5 l6 Q R hQ h
 unfold f61 at h
 refine ⟨nle rfl, rfl, ?_⟩
 intro hl8
 refine kL [(.x 0)] (h15 _ _ _ _ ?_ (sb h))
 rintro v9 lA h
 refine kg (sat_getL h) fun wB huuC h => ?_
 exact kR [] (ND 1) (hQ _ _ (ss h))
def f60 : LI → LI → Option (Int × LI)
 | l0, l5 => (f15 ((l0.length : Nat) : Int) l5).bind fun (v6, l7) => getL l0 v6 fun v8 => some (v8, l7)
def C60 (O : Oracle TT) (m : LI → LI → Option (Int × LI)) : Prop :=
 ∀ l0 l5 (Q : (Int × LI) → Prop) (R : RR) (_ : ∀ v6 l7, Q (v6, l7) → R (iD v6) [eV (.x 0) [.isl .int l7]]) (_ : sat (m l0 l5) Q), O 60 [pX 0, .c (.isl .int l0)] [eV (.x 0) [.isl .int l5]] R
def j60 : Fn TT := ⟨12, [.t 4], (sr [qo 4 (.mv (iC 0))] (sr [qm 5 1,qm 6 0,qm 7 1,qo 8 (.len false 7),qo 9 (.call 9 15 [6, 8]),qo 10 (.idxA 5 9 1),qo 11 (ld 10),qm 4 11] .ret))⟩
theorem w60 {O : Oracle TT} (h15 : C15 O f15) : C60 (fun _ => vcF (S := SS) O j60) f60 := by
 intro l5 l6 Q R hQ h
 unfold f60 at h
 refine ⟨nle rfl, rfl, ?_⟩
 intro hl8
 refine kL [(.x 0)] (h15 _ _ _ _ ?_ (sb h))
 rintro v9 lA h
 refine kg (sat_getL h) fun vB huuC h => ?_
 exact kR [] (ND 1) (hQ _ _ (ss h))
def f41_L4 (self41 : PT → Int → LI → Option (Tp × LI)) (l8 : PT) (v9 : Int) : Nat → Int → PT → LI → Option (Sum (Sum (Tp × LI) (Unit)) (LI × PT))
 | 0, v6, l5, l7 => some (.inr (l7, l5))
 | gJ + 1, v6, l5, l7 => (f62 v6).bind fun sA => (self41 l8 (wrap .i64 (v9 - 1)) l7).bind fun ((.mk kB mC loF hiG pH psI), lK) => grdP (l5.length + ([(sA, (Tp.mk kB mC loF hiG pH psI))] : PT).length ≤ 68719476736) (f41_L4 self41 l8 v9 gJ (v6 + 1) (l5 ++ ([(sA, (Tp.mk kB mC loF hiG pH psI))] : PT)) lK)
def f41_L6 (self41 : PT → Int → LI → Option (Tp × LI)) (l8 : PT) (v9 : Int) : Nat → Int → PT → LI → Option (Sum (Tp × LI) (LI × PT))
 | 0, v6, l5, l7 => some (.inr (l7, l5))
 | gJ + 1, v6, l5, l7 => (f62 v6).bind fun sA => (self41 l8 (wrap .i64 (v9 - 1)) l7).bind fun ((.mk kB mC loF hiG pH psI), lK) => grdP (l5.length + ([(sA, (Tp.mk kB mC loF hiG pH psI))] : PT).length ≤ 68719476736) (f41_L6 self41 l8 v9 gJ (v6 + 1) (l5 ++ ([(sA, (Tp.mk kB mC loF hiG pH psI))] : PT)) lK)
def b41 (self41 : PT → Int → LI → Option (Tp × LI)) : PT → Int → LI → Option (Tp × LI)
 | l7, v8, lF => (f15 (14 : Int) lF).bind fun (v9, l5) => sbind (ο := Int) (cond (v8 == 0) (some (.inr (Int.tmod v9 7))) (some (.inr v9))) (fun v6 => sbind (ο := Unit) (cond (v6 == 0) (lft (some ((Tp.mk 0 (⟨#[]⟩ : BA) 0 0 (⟨#[]⟩ : BA) []), l5))) (cond (v6 == 1) ((f60 ([0, 0, 1] : LI) l5).bind fun (vG, lH) => lft (some ((Tp.mk 1 (⟨#[]⟩ : BA) vG 1 (⟨#[]⟩ : BA) []), lH))) (cond (v6 == 2) ((f40 ([(Tp.mk 2 (⟨#[]⟩ : BA) 0 9 (⟨#[]⟩ : BA) []), (Tp.mk 2 (⟨#[]⟩ : BA) 3 3 (⟨#[]⟩ : BA) []), (Tp.mk 2 (⟨#[]⟩ : BA) (-1) 3 (⟨#[]⟩ : BA) []), (Tp.mk 2 (⟨#[]⟩ : BA) (-9007199254740992) 9007199254740992 (⟨#[]⟩ : BA) [])] : List Tp) l5).bind fun ((.mk kI mJ loK hiM pN psO), lP) => lft (some ((Tp.mk kI mJ loK hiM pN psO), lP))) (cond (v6 == 3) ((f60 ([730000, 730003, 730005] : LI) l5).bind fun (vQ, lU) => lft (some ((Tp.mk 4 (⟨#[]⟩ : BA) 730000 vQ (⟨#[]⟩ : BA) []), lU))) (sbind (ο := Bool) (cond (v6 == 4) (some (.inr true)) (cond (v6 == 5) (some (.inr true)) (some (.inr false)))) (fun qV => cond qV ((f61 ([(⟨#[46, 42]⟩ : BA), (⟨#[91, 97, 45, 99, 93, 42]⟩ : BA), (⟨#[40, 91, 97, 45, 99, 93, 42, 41, 45, 40, 91, 48, 45, 57, 93, 42, 41]⟩ : BA), (⟨#[91, 48, 45, 57, 93]⟩ : BA), (⟨#[97, 124, 98, 124, 99]⟩ : BA), (⟨#[91, 97, 45, 99, 93, 42]⟩ : BA)] : LB) l5).bind fun (sW, lY) => lft (some ((Tp.mk 5 (⟨#[]⟩ : BA) 0 0 sW []), lY))) (cond (v6 == 6) (cond (decide (((l7.length : Nat) : Int) > 0)) ((f15 ((l7.length : Nat) : Int) l5).bind fun (vZ, l00) => getL l7 vZ fun uu01 => match uu01 with | (a02, .mk k18 m19 lo1A hi1B p1C ps1D) => lft (some ((Tp.mk 10 a02 0 0 (⟨#[]⟩ : BA) []), l00))) (lft (some ((Tp.mk 3 (⟨#[]⟩ : BA) 0 0 (⟨#[]⟩ : BA) []), l5)))) (cond (v6 == 7) ((f15 (3 : Int) l5).bind fun (vA, l03) => (f15 (3 : Int) l03).bind fun (v04, l05) => (self41 l7 (wrap .i64 (v8 - 1)) l05).bind fun ((.mk k06 m07 lo08 hi09 p0A ps0B), l0C) => lft (some ((Tp.mk 8 (⟨#[]⟩ : BA) vA (wrap .i64 (vA + v04)) (⟨#[]⟩ : BA) ([((⟨#[]⟩ : BA), (Tp.mk k06 m07 lo08 hi09 p0A ps0B))] : PT)), l0C))) (cond (v6 == 8) ((f15 (2 : Int) l5).bind fun (v0D, l0E) => (f15 (2 : Int) l0E).bind fun (v0F, l0G) => (self41 l7 (wrap .i64 (v8 - 1)) l0G).bind fun ((.mk k0H m0I lo0J hi0K p0L ps0M), l0N) => lft (some ((Tp.mk 9 (⟨#[]⟩ : BA) v0D (wrap .i64 ((2 : Int) + v0F)) (⟨#[91, 97, 45, 101, 93]⟩ : BA) ([((⟨#[]⟩ : BA), (Tp.mk k0H m0I lo0J hi0K p0L ps0M))] : PT)), l0N))) (cond (v6 == 9) ((self41 l7 (wrap .i64 (v8 - 1)) l5).bind fun ((.mk k0O m0P lo0Q hi0R p0S ps0T), l0U) => (f39 (Tp.mk k0O m0P lo0Q hi0R p0S ps0T)).bind fun (.mk k0V m0W lo0X hi0Y p0Z ps10) => lft (some ((Tp.mk k0V m0W lo0X hi0Y p0Z ps10), l0U))) (cond (v6 == 10) (sbind (ο := LI × PT) ((f15 (3 : Int) l5).bind fun (vB, l11) => grdP ((wrap .i64 ((1 : Int) + vB)) ≤ 9223372036854775807) (f41_L4 self41 l7 v8 ((wrap .i64 ((1 : Int) + vB)) - 0).toNat 0 [] l11)) (fun (l12, l13) => lft (some ((Tp.mk 7 (⟨#[]⟩ : BA) 0 0 (⟨#[]⟩ : BA) l13), l12)))) (some (.inr ()))))))))))))) (fun () => sbind (ο := LI × PT) ((f15 (5 : Int) l5).bind fun (vC, l14) => grdP (vC ≤ 9223372036854775807) (f41_L6 self41 l7 v8 (vC - 0).toNat 0 [] l14)) (fun (l15, l17) => some ((Tp.mk 6 (⟨#[]⟩ : BA) 0 0 (⟨#[]⟩ : BA) l17), l15))))
def f41 : Nat → PT → Int → LI → Option (Tp × LI)
 | 0 => fun _ _ _ => none
 | n + 1 => b41 (f41 n)
def C41 (O : Oracle TT) (m : PT → Int → LI → Option (Tp × LI)) : Prop :=
 ∀ l5 v6 l7 (Q : (Tp × LI) → Prop) (R : RR) (_ : ∀ k8 m9 loA hiB pC psE lF, Q ((Tp.mk k8 m9 loA hiB pC psE), lF) → R (.agg [ci k8, .str m9, ci loA, ci hiB, .str pC, .isl .part psE]) [eV (.x 0) [.isl .int lF]]) (_ : sat (m l5 v6 l7) Q), O 41 [.c (.isl .dfn l5), pX 0, iD v6] [eV (.x 0) [.isl .int l7]] R
def j41 : Fn TT := ⟨151, [.cell 6 6 true], (sr [qo 6 (.alloc 6 zTp)] (sr [qm 13 1,qo 14 (.call 14 15 [13, (iC 14)]),qm 7 14] (.cut [0, 1, 2, 6, 7] [(.x 0), (.s 6)] (sr [qm 15 2,qo 16 (.bin .eql .num 15 (iC 0))] (.cond 16 (.reg [qm 17 7,qo 18 (.bin .rem .num 17 (iC 7)),qm 7 18]) .skip)) (.cut [0, 1, 2, 6] [(.x 0), (.s 6)] (.seq
 (.reg [qm 19 7]) (.block 0 (sr [qo 21 (.bin .eql .num 19 (iC 0)),qm 20 21] (.cond 20 (sr [qo 22 (.build zTp []),qp (.store 6 22 6)] .ret) (sr [qo 24 (.bin .eql .num 19 (iC 1)),qm 23 24] (.cond 23 (sr [qm 25 1,qo 26 (.bsl .int [(iC 0), (iC 0), (iC 1)]),qo 27 (.call 27 60 [25, 26]),
 qo 28 (.build zTp [((0, 1), (iC 1)), ((2, 1), 27), ((3, 1), (iC 1))]),qp (.store 6 28 6)] .ret) (sr [qo 30 (.bin .eql .num 19 (iC 2)),qm 29 30] (.cond 29 (sr [qm 31 1,qo 32 (.build zTp [((0, 1), (iC 2)), ((3, 1), (iC 9))]),qo 33 (.build zTp [((0, 1), (iC 2)), ((2, 1), (iC 3)), ((3, 1), (iC 3))]),
 qo 34 (.build zTp [((0, 1), (iC 2)), ((2, 1), (iC (-1))), ((3, 1), (iC 3))]),qo 35 (.build zTp [((0, 1), (iC 2)), ((2, 1), (iC (-9007199254740992))), ((3, 1), (iC 9007199254740992))]),qo 36 (.bsl .typ [32, 33, 34, 35]),qo 37 (.call 37 40 [31, 36]),qp (.store 6 37 6)] .ret) (sr [qo 39 (.bin .eql .num 19 (iC 3)),qm 38 39] (.cond 38 (sr [qm 40 1,
 qo 41 (.bsl .int [(iC 730000), (iC 730003), (iC 730005)]),qo 42 (.call 42 60 [40, 41]),qo 43 (.build zTp [((0, 1), (iC 4)), ((2, 1), (iC 730000)), ((3, 1), 42)]),qp (.store 6 43 6)] .ret) (.cut [0, 1, 2, 6, 19, 44] [(.x 0), (.s 6)] (sr [qo 45 (.bin .eql .num 19 (iC 4)),qm 44 45] (.cond 44 .skip (.reg [qo 46 (.bin .eql .num 19 (iC 5)),qm 44 46]))) (.cond 44 (.seq
 (.reg [qm 47 1,qo 48 (.bsl .str [(.c (.str (⟨#[46, 42]⟩ : BA))), (.c (.str (⟨#[91, 97, 45, 99, 93, 42]⟩ : BA))), (.c (.str (⟨#[40, 91, 97, 45, 99, 93, 42, 41, 45, 40, 91, 48, 45, 57, 93, 42, 41]⟩ : BA))), (.c (.str (⟨#[91, 48, 45, 57, 93]⟩ : BA))), (.c (.str (⟨#[97, 124, 98, 124, 99]⟩ : BA))), (.c (.str (⟨#[91, 97, 45, 99, 93, 42]⟩ : BA)))]),
 qo 49 (.call 49 61 [47, 48]),qo 50 (.build zTp [((0, 1), (iC 5)), ((4, 1), 49)]),qp (.store 6 50 6)]) .ret) (sr [qo 52 (.bin .eql .num 19 (iC 6)),qm 51 52] (.cond 51 (.seq (sr [qm 53 0,qo 54 (.len false 53),qo 55 (.bin .gtr .num 54 (iC 0))] (.cond 55 (sr [qm 56 0,qm 57 1,qm 58 0,qo 59 (.len false 58),qo 60 (.call 60 15 [57, 59]),
 qo 61 (.idxA 56 60 7),qo 62 (.fa 61 0),qo 63 (ld 62),qo 64 (.build zTp [((0, 1), (iC 10)), ((1, 1), 63)]),qp (.store 6 64 6)] .ret) .skip)) (sr [qo 65 (.build zTp [((0, 1), (iC 3))]),qp (.store 6 65 6)] .ret)) (sr [qo 67 (.bin .eql .num 19 (iC 7)),qm 66 67] (.cond 66 (sr [qm 68 1,qo 69 (.call 69 15 [68, (iC 3)]),qm 8 69] (.seq
 (.reg [qm 70 8,qm 71 8,qm 72 1,qo 73 (.call 73 15 [72, (iC 3)]),qo 74 (.bin .add .num 71 73),qm 75 0,qm 76 1,qm 77 2,qo 78 (.bin .sub .num 77 (iC 1)),qo 79 (.call 79 41 [75, 76, 78]),qo 80 (.build zPt [((1, 6), 79)]),qo 81 (.bsl .part [80]),qo 82 (.build zTp [((0, 1), (iC 8)), ((2, 1), 70), ((3, 1), 74), ((5, 1), 81)]),qp (.store 6 82 6)]) .ret))
 (sr [qo 84 (.bin .eql .num 19 (iC 8)),qm 83 84] (.cond 83 (sr [qm 85 1,qo 86 (.call 86 15 [85, (iC 2)]),qm 87 1,qo 88 (.call 88 15 [87, (iC 2)]),qo 89 (.bin .add .num (iC 2) 88),qm 90 0,qm 91 1,qm 92 2,qo 93 (.bin .sub .num 92 (iC 1)),qo 94 (.call 94 41 [90, 91, 93]),qo 95 (.build zPt [((1, 6), 94)]),qo 96 (.bsl .part [95]),
 qo 97 (.build zTp [((0, 1), (iC 9)), ((2, 1), 86), ((3, 1), 89), ((4, 1), (.c (.str (⟨#[91, 97, 45, 101, 93]⟩ : BA)))), ((5, 1), 96)]),qp (.store 6 97 6)] .ret) (sr [qo 99 (.bin .eql .num 19 (iC 9)),qm 98 99] (.cond 98 (sr [qm 100 0,qm 101 1,qm 102 2,qo 103 (.bin .sub .num 102 (iC 1)),qo 104 (.call 104 41 [100, 101, 103]),
 qo 105 (.call 105 39 [104]),qp (.store 6 105 6)] .ret) (sr [qo 107 (.bin .eql .num 19 (iC 10)),qm 106 107] (.cond 106 (sr [qo 108 (.build [.int .i64 0, .str eB, .int .i64 0, .int .i64 0, .str eB, .nils] [((0, 1), (iC 7))]),qo 9 (.alloc 9 zTp),qp (.store 9 108 6)] (.cut [6, 9] [(.s 6), (.s 9), (.x 0), (.sub (.sub (.s 9) 600) 5)] (sr [qm 109 1,
 qo 110 (.call 110 15 [109, (iC 3)]),qo 111 (.bin .add .num (iC 1) 110),qo 112 (.mv (iC 0))] (.block 1 (.pre [.ownc (.s 9) 5 .part (.sub (.sub (.s 9) 600) 5)] (.loop (.keep [0, 1, 2, 6, 9, 111, 112] [(.x 0), (.s 6), (.s 9), (.sub (.sub (.s 9) 600) 5)] (.aft (sr [qo 113 (.bin .lss .num 112 111)] (.seq (.cond 113 .skip (.exit 1)) (.seq (.block 2 (sr [qm 114 112,
 qm 10 114] (.drw [(.x 0), (.sub (.sub (.s 9) 600) 5)] (ol [0, 1, 2, 4, 5, 6, 7, 3, 8, 9, 10, 11, 12, 13]) [13] [0, 1, 2, 4, 5, 6, 7, 9, 12] [qo 115 (.fa 9 5),qo 116 (ld 115),qm 117 10,qo 118 (.call 118 62 [117]),qm 119 0,qm 120 1,qm 121 2,qo 122 (.bin .sub .num 121 (iC 1)),qo 123 (.call 123 41 [119, 120, 122]),
 qo 124 (.build zPt [((0, 1), 118), ((1, 6), 123)]),qo 125 (.bsl .part [124]),qo 126 (.app 126 .part 68719476736 116 125),qo 127 (.fa 9 5),qp (.store 127 126 1)]))) (.reg [qo 128 (.bin .add .num 112 (iC 1)),qm 112 128])))) [.keep [0, 1, 2, 6, 9, 111, 112] [(.x 0), (.s 6), (.s 9), (.s 126)], .ownc (.s 9) 5 .part (.sub (.sub (.s 9) 600) 5)])))))) (sr [qo 129 (.load 9 6 true),
 qp (.store 6 129 6)] (.pre [.frzc (.s 6) 5 .part] .ret)))) .skip)))))))))))))))))))))) (sr [qo 130 (.build [.int .i64 0, .str eB, .int .i64 0, .int .i64 0, .str eB, .nils] [((0, 1), (iC 6))]),qo 11 (.alloc 11 zTp),qp (.store 11 130 6)] (.cut [6, 11] [(.s 6), (.s 11), (.x 0), (.sub (.sub (.s 11) 601) 5)] (sr [qm 131 1,qo 132 (.call 132 15 [131, (iC 5)]),
 qo 133 (.mv (iC 0))] (.block 3 (.pre [.ownc (.s 11) 5 .part (.sub (.sub (.s 11) 601) 5)] (.loop (.keep [0, 1, 2, 6, 11, 132, 133] [(.x 0), (.s 6), (.s 11), (.sub (.sub (.s 11) 601) 5)] (.aft (sr [qo 134 (.bin .lss .num 133 132)] (.seq (.cond 134 .skip (.exit 3)) (.seq (.block 4 (sr [qm 135 133,qm 12 135]
 (.drw [(.x 0), (.sub (.sub (.s 11) 601) 5)] (ol [0, 1, 2, 4, 5, 6, 7, 3, 8, 9, 10, 11, 12, 13]) [13] [0, 1, 2, 4, 5, 6, 7, 9, 12] [qo 136 (.fa 11 5),qo 137 (ld 136),qm 138 12,qo 139 (.call 139 62 [138]),qm 140 0,qm 141 1,qm 142 2,qo 143 (.bin .sub .num 142 (iC 1)),qo 144 (.call 144 41 [140, 141, 143]),qo 145 (.build zPt [((0, 1), 139), ((1, 6), 144)]),
 qo 146 (.bsl .part [145]),qo 147 (.app 147 .part 68719476736 137 146),qo 148 (.fa 11 5),qp (.store 148 147 1)]))) (.reg [qo 149 (.bin .add .num 133 (iC 1)),qm 133 149])))) [.keep [0, 1, 2, 6, 11, 132, 133] [(.x 0), (.s 6), (.s 11), (.s 147)], .ownc (.s 11) 5 .part (.sub (.sub (.s 11) 601) 5)])))))) (sr [qo 150 (.load 11 6 true),qp (.store 6 150 6)] (.pre [.frzc (.s 6) 5 .part]
 .ret))))))))⟩
theorem w41 {O : Oracle TT} (self41 : PT → Int → LI → Option (Tp × LI)) (h15 : C15 O f15) (h39 : C39 O f39) (h40 : C40 O f40) (h41 : C41 O self41) (h62 : C62 O f62) (h61 : C61 O f61) (h60 : C60 O f60) : C41 (fun _ => vcF (S := SS) O j41) (b41 self41) := by
 intro lB vC l0V Q R hQ h
 unfold b41 at h
 refine ⟨nle rfl, rfl, ?_⟩
 refine kL [(.x 0)] (h15 _ _ _ _ ?_ (sb h))
 rintro v05 l00 h
 obtain ⟨RO, h, aO, hrRO⟩ := sc h
 refine kX (fun σ => ∃ vP, RO (.inr vP) ∧ σ = ⟨[(0, .c (.isl .dfn lB)), (1, pX 0), (2, iD vC), pT 6, (7, iD vP)], [eV (.x 0) [.isl .int l00], eV (.s 6) zTp]⟩) ?_ ?_
 refine kc h ?_ ?_ <;> intro h
 conv => whnf
 exact ⟨v05, ss h, rfl⟩
 conv => whnf
 refine ⟨by decide, ?_⟩
 conv => whnf
 exact ⟨(Int.tmod v05 7), ss h, rfl⟩
 rintro _ ⟨vP, h, rfl⟩
 replace h := hrRO _ h
 obtain ⟨R5, h, a5, hrR5⟩ := sc h
 refine kX (fun σ => R5 (.inr ()) ∧ σ = ⟨[(0, .c (.isl .dfn lB)), (1, pX 0), (2, iD vC), pT 6], [eV (.x 0) [.isl .int l00], eV (.s 6) zTp]⟩) ?_ ?_
 refine kc h ?_ ?_ <;> intro h
 refine kc h ?_ ?_ <;> intro h
 refine kc h ?_ ?_ <;> intro h
 refine kc h ?_ ?_ <;> intro h
 obtain ⟨RQ, h, aQ, hrRQ⟩ := sc h
 refine kX (fun σ => ∃ qU, RQ (.inr qU) ∧ σ = ⟨[(0, .c (.isl .dfn lB)), (1, pX 0), (2, iD vC), pT 6, (19, iD vP), (44, bD qU)], [eV (.x 0) [.isl .int l00], eV (.s 6) zTp]⟩) ?_ ?_
 refine kc h ?_ ?_ <;> intro h
 refine kc h ?_ ?_ <;> intro h
 conv => whnf
 exact ⟨false, ss h, rfl⟩
 conv => whnf
 exact ⟨true, ss h, rfl⟩
 conv => whnf
 exact ⟨true, ss h, rfl⟩
 rintro _ ⟨qU, h, rfl⟩
 replace h := hrRQ _ h
 cases qU
 replace h := cf h
 refine kc h ?_ ?_ <;> intro h
 refine kc h ?_ ?_ <;> intro h
 refine kc h ?_ ?_ <;> intro h
 refine kc h ?_ ?_ <;> intro h
 refine kc h ?_ ?_ <;> intro h
 conv => whnf
 exact ⟨ss h, rfl⟩
 obtain ⟨RJ, h, aJ, hrRJ⟩ := sc h
 refine kX (fun σ => ∃ (l01 : LI) (lV : PT) (n06 : Nat), n06 = lV.length ∧ RJ (.inr (l01, lV)) ∧ σ = ⟨[pT 6, pT 9], [eV (.s 6) zTp, eV (.s 9) [ci 7, .str eB, ci 0, ci 0, .str eB, .osl (.sub (.sub (.s 9) 600) 5) 0 n06], eV (.x 0) [.isl .int l01], (.sub (.sub (.s 9) 600) 5, (eR .part lV))]⟩) ?_ ?_
 refine kL [(.x 0)] (h15 _ _ _ _ ?_ (sb h))
 rintro v02 l0B h
 obtain ⟨hN0C, h⟩ := sat_grdP h
 refine kX (fun σ n => ∃ (f6 : Nat) (vF : Int) (z : Int) (lH : PT) (lW : LI) (n07 : Nat), f6 = n ∧ f6 = ((wrap .i64 ((1 : Int) + v02)) - vF).toNat ∧ 0 ≤ vF ∧ vF = z ∧ n07 = lH.length ∧ sat (f41_L4 self41 lB vC f6 vF lH lW) RJ ∧ σ.keep [0, 1, 2, 6, 9, 111, 112] [(.x 0), (.s 6), (.s 9), (.sub (.sub (.s 9) 600) 5)] = ⟨[(0, .c (.isl .dfn lB)), (1, pX 0), (2, iD vC), pT 6, pT 9, (111, iD (wrap .i64 ((1 : Int) + v02))), (112, iD z)], [eV (.x 0) [.isl .int lW], eV (.s 6) zTp, eV (.s 9) [ci 7, .str eB, ci 0, ci 0, .str eB, .osl (.sub (.sub (.s 9) 600) 5) 0 n07], (.sub (.sub (.s 9) 600) 5, (eR .part lH))]⟩) ⟨_, _, 0, _, [], l0B, _, rfl, rfl, (by decide), rfl, LN, h, rfl⟩ ?_
 rintro σ n ⟨f6, vF, _, lH, lW, _, rfl, hf6, hpf6, rfl, rfl, h, hσ⟩
 refine kk hσ ?_
 intro tK (htK : tK = decide (vF < (wrap .i64 ((1 : Int) + v02))))
 cases tK
 obtain rfl := il_nil hf6 htK
 rw [f41_L4] at h
 conv => whnf
 exact ⟨lW, lH, _, LN, ss h, rfl⟩
 obtain ⟨g9, rfl, hwg9, hpg9, hfg9⟩ := il_cons hf6 hpf6 htK hN0C
 rw [f41_L4] at h
 refine kL [] (h62 _ _ _ ?_ (sb h))
 rintro s0D h
 refine kL [(.x 0)] (h41 _ _ _ _ _ ?_ (sb h))
 rintro k0E m0F lo0G hi0H p0I ps0J l0K h
 conv => whnf
 refine ⟨LN, rfl, ?_⟩
 conv => whnf
 refine ⟨rfl, ?_⟩
 refine kp h fun hb0W h => ?_
 conv => whnf
 exact ⟨g9, nls, g9, vF + 1, _, (lH ++ ([(s0D, (Tp.mk k0E m0F lo0G hi0H p0I ps0J))] : PT)), l0K, _, rfl, hfg9, hpg9, hwg9.symm, LN, h, rfl⟩
 rintro _ ⟨l01, lV, _, rfl, h, rfl⟩
 replace h := hrRJ _ h
 conv => whnf
 refine ⟨LN, ?_⟩
 replace h := sat_lft a5 h
 exact kR [] (ND 1) (hQ _ _ _ _ _ _ _ (ss h))
 refine kL [(.x 0)] (h41 _ _ _ _ _ ?_ (sb h))
 rintro k0X m0Y lo0Z hi10 p11 ps12 l13 h
 refine kL [] (h39 _ _ _ _ _ _ _ _ ?_ (sb h))
 rintro k14 m15 lo17 hi18 p19 ps1A h
 replace h := sat_lft a5 h
 exact kR [] (ND 1) (hQ _ _ _ _ _ _ _ (ss h))
 refine kL [(.x 0)] (h15 _ _ _ _ ?_ (sb h))
 rintro v1B l1C h
 refine kL [(.x 0)] (h15 _ _ _ _ ?_ (sb h))
 rintro v1D l1E h
 refine kL [(.x 0)] (h41 _ _ _ _ _ ?_ (sb h))
 rintro k1F m1G lo1H hi1I p1J ps1K l1L h
 replace h := sat_lft a5 h
 exact kR [] (ND 1) (hQ _ _ _ _ _ _ _ (ss h))
 refine kL [(.x 0)] (h15 _ _ _ _ ?_ (sb h))
 rintro v1M l1N h
 refine kL [(.x 0)] (h15 _ _ _ _ ?_ (sb h))
 rintro v1O l1P h
 refine kL [(.x 0)] (h41 _ _ _ _ _ ?_ (sb h))
 rintro k1Q m1R lo1S hi1T p1U ps1V l1W h
 replace h := sat_lft a5 h
 exact kR [] (ND 1) (hQ _ _ _ _ _ _ _ (ss h))
 intro hl1X
 refine kc h ?_ ?_ <;> intro h
 replace h := sat_lft a5 h
 exact kR [] (ND 1) (hQ _ _ _ _ _ _ _ (ss h))
 intro hl1Y
 refine kL [(.x 0)] (h15 _ _ _ _ ?_ (sb h))
 rintro v1Z l20 h
 refine kg (sat_getL h) fun uu08 huu08 h => ?_
 obtain ⟨a21, ⟨k22, m23, lo24, hi25, p26, ps27⟩⟩ := uu08
 replace h := sat_lft a5 h
 exact kR [] (ND 1) (hQ _ _ _ _ _ _ _ (ss h))
 replace h := ct h
 refine kL [(.x 0)] (h61 _ _ _ _ ?_ (sb h))
 rintro s28 l29 h
 replace h := sat_lft a5 h
 exact kR [] (ND 1) (hQ _ _ _ _ _ _ _ (ss h))
 refine kL [(.x 0)] (h60 _ _ _ _ ?_ (sb h))
 rintro v2A l2B h
 replace h := sat_lft a5 h
 exact kR [] (ND 1) (hQ _ _ _ _ _ _ _ (ss h))
 refine kL [(.x 0)] (h40 _ _ _ _ ?_ (sb h))
 rintro k2C m2D lo2E hi2F p2G ps2H l2I h
 replace h := sat_lft a5 h
 exact kR [] (ND 1) (hQ _ _ _ _ _ _ _ (ss h))
 refine kL [(.x 0)] (h60 _ _ _ _ ?_ (sb h))
 rintro v2J l2K h
 replace h := sat_lft a5 h
 exact kR [] (ND 1) (hQ _ _ _ _ _ _ _ (ss h))
 replace h := sat_lft a5 h
 exact kR [] (ND 1) (hQ _ _ _ _ _ _ _ (ss h))
 rintro _ ⟨h, rfl⟩
 replace h := hrR5 _ h
 obtain ⟨RM, h, aM, hrRM⟩ := sc h
 refine kX (fun σ => ∃ (l03 : LI) (lY : PT) (n09 : Nat), n09 = lY.length ∧ RM (.inr (l03, lY)) ∧ σ = ⟨[pT 6, pT 11], [eV (.s 6) zTp, eV (.s 11) [ci 6, .str eB, ci 0, ci 0, .str eB, .osl (.sub (.sub (.s 11) 601) 5) 0 n09], eV (.x 0) [.isl .int l03], (.sub (.sub (.s 11) 601) 5, (eR .part lY))]⟩) ?_ ?_
 refine kL [(.x 0)] (h15 _ _ _ _ ?_ (sb h))
 rintro v04 l0L h
 obtain ⟨hN0M, h⟩ := sat_grdP h
 refine kX (fun σ n => ∃ (f8 : Nat) (vG : Int) (z : Int) (lI : PT) (lZ : LI) (n0A : Nat), f8 = n ∧ f8 = (v04 - vG).toNat ∧ 0 ≤ vG ∧ vG = z ∧ n0A = lI.length ∧ sat (f41_L6 self41 lB vC f8 vG lI lZ) RM ∧ σ.keep [0, 1, 2, 6, 11, 132, 133] [(.x 0), (.s 6), (.s 11), (.sub (.sub (.s 11) 601) 5)] = ⟨[(0, .c (.isl .dfn lB)), (1, pX 0), (2, iD vC), pT 6, pT 11, (132, iD v04), (133, iD z)], [eV (.x 0) [.isl .int lZ], eV (.s 6) zTp, eV (.s 11) [ci 6, .str eB, ci 0, ci 0, .str eB, .osl (.sub (.sub (.s 11) 601) 5) 0 n0A], (.sub (.sub (.s 11) 601) 5, (eR .part lI))]⟩) ⟨_, _, 0, _, [], l0L, _, rfl, rfl, (by decide), rfl, LN, h, rfl⟩ ?_
 rintro σ n ⟨f8, vG, _, lI, lZ, _, rfl, hf8, hpf8, rfl, rfl, h, hσ⟩
 refine kk hσ ?_
 intro tN (htN : tN = decide (vG < v04))
 cases tN
 obtain rfl := il_nil hf8 htN
 rw [f41_L6] at h
 conv => whnf
 exact ⟨lZ, lI, _, LN, ss h, rfl⟩
 obtain ⟨gA, rfl, hwgA, hpgA, hfgA⟩ := il_cons hf8 hpf8 htN hN0M
 rw [f41_L6] at h
 refine kL [] (h62 _ _ _ ?_ (sb h))
 rintro s0N h
 refine kL [(.x 0)] (h41 _ _ _ _ _ ?_ (sb h))
 rintro k0O m0P lo0Q hi0R p0S ps0T l0U h
 conv => whnf
 refine ⟨LN, rfl, ?_⟩
 conv => whnf
 refine ⟨rfl, ?_⟩
 refine kp h fun hb2L h => ?_
 conv => whnf
 exact ⟨gA, nls, gA, vG + 1, _, (lI ++ ([(s0N, (Tp.mk k0O m0P lo0Q hi0R p0S ps0T))] : PT)), l0U, _, rfl, hfgA, hpgA, hwgA.symm, LN, h, rfl⟩
 rintro _ ⟨l03, lY, _, rfl, h, rfl⟩
 replace h := hrRM _ h
 conv => whnf
 refine ⟨LN, ?_⟩
 exact kR [] (ND 1) (hQ _ _ _ _ _ _ _ (ss h))
theorem cg41 {P : Program} {fid : Nat → FuncId} (mx : MX P) (k41 : KF P fid 41 j41) (h15 : C15 (SP P fid) f15) (h39 : C39 (SP P fid) f39) (h40 : C40 (SP P fid) f40) (h62 : C62 (SP P fid) f62) (h61 : C61 (SP P fid) f61) (h60 : C60 (SP P fid) f60) : ∀ n, C41 (SP P fid) (f41 n) := by
 intro n
 induction n with
 | zero => exact fun a0 a5 a6 Q R hQ h => (sat_none h).elim
 | succ n ih =>
  have ih0 := ih
  exact fun a0 a5 a6 Q R hQ h => spec_of_vc mx k41 (w41 (f41 n) h15 h39 h40 ih0 h62 h61 h60 a0 a5 a6 Q R hQ h)
theorem c41 {P : Program} {fid : Nat → FuncId} (mx : MX P) (k41 : KF P fid 41 j41) (h15 : C15 (SP P fid) f15) (h39 : C39 (SP P fid) f39) (h40 : C40 (SP P fid) f40) (h62 : C62 (SP P fid) f62) (h61 : C61 (SP P fid) f61) (h60 : C60 (SP P fid) f60) : ∀ n, C41 (SP P fid) (f41 n) := fun n => (cg41 mx k41 h15 h39 h40 h62 h61 h60 n)
def f22 (fuel : Nat) : PT → LI → Option (Tp)
 | l5, l6 => (f41 fuel l5 (3 : Int) l6).bind fun ((.mk k7 m8 lo9 hiA pB psC), lE) => some (Tp.mk k7 m8 lo9 hiA pB psC)
def C22 (O : Oracle TT) (m : PT → LI → Option (Tp)) : Prop :=
 ∀ l5 l6 (Q : Tp → Prop) (R : RR) (_ : ∀ k7 m8 lo9 hiA pB psC, Q (Tp.mk k7 m8 lo9 hiA pB psC) → R (.agg [ci k7, .str m8, ci lo9, ci hiA, .str pB, .isl .part psC]) []) (_ : sat (m l5 l6) Q), O 22 [.c (.isl .dfn l5), .c (.isl .int l6)] [] R
def j22 : Fn TT := ⟨10, [.cell 4 6 true], (sr [qo 4 (.alloc 4 zTp)] (sr [qm 5 0,qm 6 1,qo 7 (.build [.isl .int []] [((0, 1), 6)]),qo 8 (.box 8 7),qo 9 (.call 9 41 [5, 8, (iC 3)]),qp (.store 4 9 6)] .ret))⟩
theorem w22 {O : Oracle TT} (fuel : Nat) (h41 : C41 O (f41 fuel)) : C22 (fun _ => vcF (S := SS) O j22) (f22 fuel) := by
 intro l5 l6 Q R hQ h
 unfold f22 at h
 refine ⟨nle rfl, rfl, ?_⟩
 refine kL [(.s 8)] (h41 _ _ _ _ _ ?_ (sb h))
 rintro k7 m8 lo9 hiA pB psC lE h
 exact kR [] (ND 0) (hQ _ _ _ _ _ _ (ss h))
def f63_L10 (v6 : Int) (s5 : BA) (v7 : Int) (v8 : Int) (s9 : BA) (lA : PT) : PT → Nat → Option (Sum (Sum (Tp) (Int × BA × Int × Int × BA × PT)) (Int × BA × Int × Int × BA × PT))
 | [], jB => some (.inr (v6, s5, v7, v8, s9, lA))
 | ((aC, .mk kF mG loH hiI pJ psK)) :: tlM, jB => cond (aC.toList == s5.toList) (some (.inr (kF, mG, loH, hiI, pJ, psK))) (f63_L10 v6 s5 v7 v8 s9 lA tlM (jB + 1))
def f63_L8 (lB : PT) : Nat → Int → Int → BA → Int → Int → BA → PT → Option (Sum (Tp) (Int × BA × Int × Int × BA × PT))
 | 0, vC, v5, s6, v7, v8, s9, lA => some (.inr (v5, s6, v7, v8, s9, lA))
 | gF + 1, vC, v5, s6, v7, v8, s9, lA => sbind (ο := Int × BA × Int × Int × BA × PT) (cond (v5 != 10) (lft (lft (some (Tp.mk v5 s6 v7 v8 s9 lA)))) (f63_L10 v5 s6 v7 v8 s9 lA lB 0)) (fun (vG, sH, vI, vJ, sK, lL) => f63_L8 lB gF (vC + 1) vG sH vI vJ sK lL)
def f63 : PT → Tp → Option (Tp)
 | l5, .mk k6 m7 lo8 hi9 pA psB => sbind (ο := Int × BA × Int × Int × BA × PT) (grdP ((wrap .i64 (((l5.length : Nat) : Int) + 1)) ≤ 9223372036854775807) (f63_L8 l5 ((wrap .i64 (((l5.length : Nat) : Int) + 1)) - 0).toNat 0 k6 m7 lo8 hi9 pA psB)) (fun (vC, sF, vG, vH, sI, lJ) => some (Tp.mk vC sF vG vH sI lJ))
def C63 (O : Oracle TT) (m : PT → Tp → Option (Tp)) : Prop :=
 ∀ l5 k6 m7 lo8 hi9 pA psB (Q : Tp → Prop) (R : RR) (_ : ∀ kC mE loF hiG pH psI, Q (Tp.mk kC mE loF hiG pH psI) → R (.agg [ci kC, .str mE, ci loF, ci hiG, .str pH, .isl .part psI]) []) (_ : sat (m l5 (Tp.mk k6 m7 lo8 hi9 pA psB)) Q), O 63 [.c (.isl .dfn l5), .agg [ci k6, .str m7, ci lo8, ci hi9, .str pA, .isl .part psB]] [] R
def j63 : Fn TT := ⟨32, [.cell 4 6 true], (sr [qo 3 (.box 3 1),qo 4 (.alloc 4 zTp)] (.cut [3, 4] [(.s 3), (.s 4)] (sr [qm 7 0,qo 8 (.len false 7),qo 9 (.bin .add .num 8 (iC 1)),qo 10 (.mv (iC 0))] (.block 0 (.loop (.keep [0, 3, 4, 9, 10] [(.s 3), (.s 4)] (.aft (sr [qo 11 (.bin .lss .num 10 9)] (.seq (.cond 11 .skip (.exit 0))
 (.cut [0, 3, 4, 9, 10] [(.s 3), (.s 4)] (.block 1 (.seq (sr [qo 12 (.fa 3 0),qo 13 (ld 12),qo 14 (.bin .neq .num 13 (iC 10))] (.cond 14 (sr [qo 15 (.load 3 6 true),qp (.store 4 15 6)] .ret) .skip)) (sr [qm 16 0,qo 17 (.len false 16),qo 18 (.mv (iC 0))] (.block 2 (.loop (.keep [0, 3, 4, 9, 10, 16, 17, 18] [(.s 3), (.s 4)] (.aft (.seq
 (.reg [qo 19 (.bin .lss .num 18 17)]) (.seq (.cond 19 .skip (.exit 2)) (.seq (.block 3 (sr [qo 20 (.idxA 16 18 7),qo 21 (.load 20 7 true),qo 6 (.alloc 6 zPt),qp (.store 6 21 7)] (sr [qo 22 (.fa 6 0),qo 23 (ld 22),qo 24 (.fa 3 1),qo 25 (ld 24),qo 26 (.bin .eql .str 23 25)] (.cond 26 (sr [qo 27 (.fa 6 1),qo 28 (.load 27 6 true),
 qp (.store 3 28 6)] (.exit 2)) .skip)))) (.reg [qo 29 (.bin .add .num 18 (iC 1)),qm 18 29])))) [.keep [0, 3, 4, 9, 10, 16, 17, 18] [(.s 3), (.s 4)]]))))))) (.reg [qo 30 (.bin .add .num 10 (iC 1)),qm 10 30])))) [.keep [0, 3, 4, 9, 10] [(.s 3), (.s 4)]]))))) (sr [qo 31 (.load 3 6 true),qp (.store 4 31 6)] .ret)))⟩
theorem w63 {O : Oracle TT} : C63 (fun _ => vcF (S := SS) O j63) f63 := by
 intro l5 k09 m0A lo0B hi0C p0D ps0E Q R hQ h
 unfold f63 at h
 refine ⟨nle rfl, rfl, ?_⟩
 obtain ⟨RK, h, aK, bK⟩ := sc h
 refine kX (fun σ => ∃ v02 s03 v04 v05 s06 l07, RK (.inr (v02, s03, v04, v05, s06, l07)) ∧ σ = ⟨[pT 3, pT 4], [eV (.s 3) [ci v02, .str s03, ci v04, ci v05, .str s06, .isl .part l07], eV (.s 4) zTp]⟩) ?_ ?_
 intro hl0N
 obtain ⟨hN0F, h⟩ := sat_grdP h
 refine kX (fun σ n => ∃ (f6 : Nat) (v8 : Int) (z : Int) (vA : Int) (sB : BA) (vC : Int) (vG : Int) (sH : BA) (lI : PT), f6 = n ∧ f6 = ((wrap .i64 (((l5.length : Nat) : Int) + 1)) - v8).toNat ∧ 0 ≤ v8 ∧ v8 = z ∧ sat (f63_L8 l5 f6 v8 vA sB vC vG sH lI) RK ∧ σ.keep [0, 3, 4, 9, 10] [(.s 3), (.s 4)] = ⟨[(0, .c (.isl .dfn l5)), pT 3, pT 4, (9, iD (wrap .i64 (((l5.length : Nat) : Int) + 1))), (10, iD z)], [eV (.s 3) [ci vA, .str sB, ci vC, ci vG, .str sH, .isl .part lI], eV (.s 4) zTp]⟩) ⟨_, _, 0, _, k09, m0A, lo0B, hi0C, p0D, ps0E, rfl, rfl, (by decide), rfl, h, rfl⟩ ?_
 rintro σ n ⟨f6, v8, _, vA, sB, vC, vG, sH, lI, rfl, hf6, hpf6, rfl, h, hσ⟩
 refine kk hσ ?_
 intro tO (htO : tO = decide (v8 < (wrap .i64 (((l5.length : Nat) : Int) + 1))))
 cases tO
 obtain rfl := il_nil hf6 htO
 rw [f63_L8] at h
 conv => whnf
 exact ⟨vA, sB, vC, vG, sH, lI, ss h, rfl⟩
 obtain ⟨g9, rfl, hwg9, hpg9, hfg9⟩ := il_cons hf6 hpf6 htO hN0F
 rw [f63_L8] at h
 obtain ⟨RM, h, aM, bM⟩ := sc h
 refine kX (fun σ => ∃ vU sV vW vY sZ l00, RM (.inr (vU, sV, vW, vY, sZ, l00)) ∧ σ = ⟨[(0, .c (.isl .dfn l5)), pT 3, pT 4, (9, iD (wrap .i64 (((l5.length : Nat) : Int) + 1))), (10, iD v8)], [eV (.s 3) [ci vU, .str sV, ci vW, ci vY, .str sZ, .isl .part l00], eV (.s 4) zTp]⟩) ?_ ?_
 refine kc h ?_ ?_ <;> intro h
 intro hl0G
 refine kX (fun σ n => ∃ (remJ : PT) (jN : Nat) (z : Int), n = remJ.length ∧ l5.drop jN = remJ ∧ z = ((jN : Nat) : Int) ∧ sat (f63_L10 vA sB vC vG sH lI remJ jN) RM ∧ σ.keep [0, 3, 4, 9, 10, 16, 17, 18] [(.s 3), (.s 4)] = ⟨[(0, .c (.isl .dfn l5)), pT 3, pT 4, (9, iD (wrap .i64 (((l5.length : Nat) : Int) + 1))), (10, iD v8), (16, .c (.isl .dfn l5)), (17, iD ((l5.length : Nat) : Int)), (18, iD z)], [eV (.s 3) [ci vA, .str sB, ci vC, ci vG, .str sH, .isl .part lI], eV (.s 4) zTp]⟩) ⟨_, l5, 0, _, rfl, rfl, rfl, h, rfl⟩ ?_
 rintro σ n ⟨remJ, jN, _, rfl, hremJ, rfl, h, hσ⟩
 refine kk hσ ?_
 intro tP (htP : tP = decide (((jN : Nat) : Int) < ((l5.length : Nat) : Int)))
 cases tP
 obtain rfl := ll_nil hremJ htP
 rw [f63_L10] at h
 conv => whnf
 exact ⟨vA, sB, vC, vG, sH, lI, ss h, rfl⟩
 obtain ⟨xQ, tl01, rfl, hxQ, htl01⟩ := ll_cons hremJ htP
 obtain ⟨a0O, ⟨k0H, m0I, lo0J, hi0K, p0L, ps0M⟩⟩ := xQ
 rw [f63_L10] at h
 conv => whnf
 refine ⟨lx_bd hxQ, fun uu08 huu08 => ?_⟩
 obtain rfl := lx_eq hxQ huu08
 refine kc h ?_ ?_ <;> intro h
 conv => whnf
 exact ⟨tl01.length, nls, tl01, jN + 1, _, rfl, htl01, lx_wr hxQ hl0G, h, rfl⟩
 conv => whnf
 exact ⟨k0H, m0I, lo0J, hi0K, p0L, ps0M, ss h, rfl⟩
 replace h := sat_lft aM h
 replace h := sat_lft aK h
 exact kR [] (ND 0) (hQ _ _ _ _ _ _ (ss h))
 rintro _ ⟨vU, sV, vW, vY, sZ, l00, h, rfl⟩
 replace h := bM _ h
 conv => whnf
 exact ⟨g9, nls, g9, v8 + 1, _, vU, sV, vW, vY, sZ, l00, rfl, hfg9, hpg9, hwg9.symm, h, rfl⟩
 rintro _ ⟨v02, s03, v04, v05, s06, l07, h, rfl⟩
 replace h := bK _ h
 exact kR [] (ND 0) (hQ _ _ _ _ _ _ (ss h))
def f164 : BA → Int → LI → Option (Int × Int)
 | s6, v5, lA => sbind (ο := Int) (getB s6 v5 fun c8 => cond ((c8.toNat : Int) == 92) (some (.inr (wrap .i64 (v5 + 1)))) (some (.inr v5))) (fun v7 => getB s6 (wrap .i64 ((wrap .i64 (v7 + 1)) - 1)) fun c9 => some ((c9.toNat : Int), (wrap .i64 (v7 + 1))))
def C164 (O : Oracle TT) (m : BA → Int → LI → Option (Int × Int)) : Prop :=
 ∀ s5 v7 l6 (Q : (Int × Int) → Prop) (R : RR) (_ : ∀ v8 v9, Q (v8, v9) → R (.c (.int .u8 v8)) [eV (.x 0) [.str s5, ci v9, .ptr (.x 1) 0 0], eV (.x 1) [.isl .int l6]]) (_ : sat (m s5 v7 l6) Q), O 164 [pX 0] [eV (.x 0) [.str s5, ci v7, .ptr (.x 1) 0 0], eV (.x 1) [.isl .int l6]] R
def j164 : Fn TT := ⟨37, [.t 2], (sr [qo 2 (.mv (.c (.int .u8 0)))] (.cut [0] [(.x 0), (.x 1)] (.seq (.drw [] (oR 10) [] (List.range 10) [qm 3 0,qo 4 (.nilck 3),qo 5 (.fa 4 0),qo 6 (ld 5),qm 7 0,qo 8 (.nilck 7),qo 9 (.fa 8 1),qo 10 (ld 9),qo 11 (.idxS 6 10),qo 12 (.bin .eql .num 11 (.c (.int .u8 92)))]) (.cond 12 (.reg [qm 13 0,
 qo 14 (.nilck 13),qo 15 (.fa 14 1),qo 16 (ld 15),qo 17 (.bin .add .num 16 (iC 1)),qo 18 (.nilck 13),qo 19 (.fa 18 1),qp (.store 19 17 1)]) .skip)) (sr [qm 20 0,qo 21 (.nilck 20),qo 22 (.fa 21 1),qo 23 (ld 22),qo 24 (.bin .add .num 23 (iC 1)),qo 25 (.nilck 20),qo 26 (.fa 25 1),qp (.store 26 24 1)] (.seq
 (.drw [] (oR 11) [] (List.range 11) [qm 27 0,qo 28 (.nilck 27),qo 29 (.fa 28 0),qo 30 (ld 29),qm 31 0,qo 32 (.nilck 31),qo 33 (.fa 32 1),qo 34 (ld 33),qo 35 (.bin .sub .num 34 (iC 1)),qo 36 (.idxS 30 35),qm 2 36]) .ret))))⟩
theorem w164 {O : Oracle TT} : C164 (fun _ => vcF (S := SS) O j164) f164 := by
 intro s8 v7 l9 Q R hQ h
 unfold f164 at h
 refine ⟨nle rfl, rfl, ?_⟩
 obtain ⟨R5, h, a5, b5⟩ := sc h
 refine kX (fun σ => ∃ v6, R5 (.inr v6) ∧ σ = ⟨[(0, pX 0)], [eV (.x 0) [.str s8, ci v6, .ptr (.x 1) 0 0], eV (.x 1) [.isl .int l9]]⟩) ?_ ?_
 refine kg (sat_getB h) fun cA hcA h => ?_
 refine kc h ?_ ?_ <;> intro h
 conv => whnf
 exact ⟨v7, ss h, rfl⟩
 conv => whnf
 exact ⟨(wrap .i64 (v7 + 1)), ss h, rfl⟩
 rintro _ ⟨v6, h, rfl⟩
 replace h := b5 _ h
 refine kg (sat_getB h) fun cB hcB h => ?_
 exact kR [] (ND 2) (hQ _ _ (ss h))
def f153_L10 (v6 : Int) (v7 : Int) : Nat → (List Bool) → Int → Option (Sum (Sum BIL (Int × (List Bool))) (Int × (List Bool)))
 | 0, _, _ => none
 | g8 + 1, l5, v0 => cond (decide (v0 ≤ (wrap .i64 v6))) (grdP ((0 : Int) ≤ v0 ∧ v0 < 256) (getN l5 v0.toNat fun b9 => f153_L10 v6 v7 g8 (l5.set v0.toNat true) (wrap .i64 (v0 + 1)))) (some (.inr (v7, l5)))
def f153_L8 (fuel : Nat) (s5 : BA) (l6 : LI) : Nat → (List Bool) → Int → Option (Sum BIL (Int × (List Bool)))
 | 0, _, _ => none
 | gB + 1, l9, v7 => getB s5 v7 fun cC => cond ((cC.toNat : Int) != 93) (sbind (ο := Int × (List Bool)) ((f164 s5 v7 l6).bind fun (vA, v8) => sbind (ο := Int × Int) (getB s5 v8 fun cF => cond ((cF.toNat : Int) == 45) ((f164 s5 (wrap .i64 (v8 + 1)) l6).bind fun (vG, vH) => some (.inr (vG, vH))) (some (.inr (vA, v8)))) (fun (vI, vJ) => f153_L10 vI vJ fuel l9 (wrap .i64 vA))) (fun (vK, lL) => f153_L8 fuel s5 l6 gB lL vK)) (some (.inr (v7, l9)))
def f153_L12 (l6 : List Bool) : Nat → Int → LI → Option (Sum BIL (LI))
 | 0, v0, l5 => some (.inr l5)
 | g7 + 1, v0, l5 => grdP ((0 : Int) ≤ v0 ∧ v0 < 256) (getN l6 v0.toNat fun b8 => cond b8 (grdP (l5.length + ([(wrap .u8 v0)] : LI).length ≤ 68719476736) (f153_L12 l6 g7 (v0 + 1) (l5 ++ ([(wrap .u8 v0)] : LI)))) (f153_L12 l6 g7 (v0 + 1) l5))
def f153_L22 (v6 : Int) (v7 : Int) : Nat → (List Bool) → Int → Option (Sum (Sum BIL (Int × (List Bool))) (Int × (List Bool)))
 | 0, _, _ => none
 | g8 + 1, l5, v0 => cond (decide (v0 ≤ (wrap .i64 v6))) (grdP ((0 : Int) ≤ v0 ∧ v0 < 256) (getN l5 v0.toNat fun b9 => f153_L22 v6 v7 g8 (l5.set v0.toNat true) (wrap .i64 (v0 + 1)))) (some (.inr (v7, l5)))
def f153_L20 (fuel : Nat) (s5 : BA) (l6 : LI) : Nat → (List Bool) → Int → Option (Sum BIL (Int × (List Bool)))
 | 0, _, _ => none
 | gB + 1, l9, v7 => getB s5 v7 fun cC => cond ((cC.toNat : Int) != 93) (sbind (ο := Int × (List Bool)) ((f164 s5 v7 l6).bind fun (vA, v8) => sbind (ο := Int × Int) (getB s5 v8 fun cF => cond ((cF.toNat : Int) == 45) ((f164 s5 (wrap .i64 (v8 + 1)) l6).bind fun (vG, vH) => some (.inr (vG, vH))) (some (.inr (vA, v8)))) (fun (vI, vJ) => f153_L22 vI vJ fuel l9 (wrap .i64 vA))) (fun (vK, lL) => f153_L20 fuel s5 l6 gB lL vK)) (some (.inr (v7, l9)))
def f153_L24 (l6 : List Bool) : Nat → Int → LI → Option (Sum BIL (LI))
 | 0, v0, l5 => some (.inr l5)
 | g7 + 1, v0, l5 => grdP ((0 : Int) ≤ v0 ∧ v0 < 256) (getN l6 v0.toNat fun b8 => cond b8 (f153_L24 l6 g7 (v0 + 1) l5) (grdP (l5.length + ([(wrap .u8 v0)] : LI).length ≤ 68719476736) (f153_L24 l6 g7 (v0 + 1) (l5 ++ ([(wrap .u8 v0)] : LI)))))
def f153 (fuel : Nat) : BA → Int → LI → Option BIL
 | s6, v7, l5 => getB s6 v7 fun cC => cond ((cC.toNat : Int) == 94) (sbind (ο := Unit) (some (.inr ())) (fun () => sbind (ο := Int × (List Bool)) (f153_L20 fuel s6 l5 fuel (List.replicate 256 false) (wrap .i64 (v7 + 1))) (fun (vF, lG) => sbind (ο := LI) (grdP ((256 : Int) ≤ 9223372036854775807) (f153_L24 lG ((256 : Int) - 0).toNat 0 [])) (fun l8 => (f15 ((l8.length : Nat) : Int) l5).bind fun (v9, lH) => grdP ((0 : Int) ≤ v9 ∧ v9 < ((l8.length : Nat) : Int)) (getN l8 (0 + v9.toNat) fun cI => some ((strOfNums ([cI] : LI)), (wrap .i64 (vF + 1)), lH)))))) (sbind (ο := Unit) (some (.inr ())) (fun () => sbind (ο := Int × (List Bool)) (f153_L8 fuel s6 l5 fuel (List.replicate 256 false) v7) (fun (vJ, lK) => sbind (ο := LI) (grdP ((256 : Int) ≤ 9223372036854775807) (f153_L12 lK ((256 : Int) - 0).toNat 0 [])) (fun lA => (f15 ((lA.length : Nat) : Int) l5).bind fun (vB, lL) => grdP ((0 : Int) ≤ vB ∧ vB < ((lA.length : Nat) : Int)) (getN lA (0 + vB.toNat) fun cM => some ((strOfNums ([cM] : LI)), (wrap .i64 (vJ + 1)), lL))))))
def C153 (O : Oracle TT) (m : BA → Int → LI → Option BIL) : Prop :=
 ∀ s5 v6 l7 (Q : BIL → Prop) (R : RR) (_ : ∀ s8 v9 lA, Q (s8, v9, lA) → R (sD s8) [eV (.x 0) [.str s5, ci v9, .ptr (.x 1) 0 0], eV (.x 1) [.isl .int lA]]) (_ : sat (m s5 v6 l7) Q), O 153 [pX 0] [eV (.x 0) [.str s5, ci v6, .ptr (.x 1) 0 0], eV (.x 1) [.isl .int l7]] R
def j153 : Fn TT := ⟨103, [.t 2], (sr [qm 2 sE] (sr [qo 3 (.allocR 3 .bool 256 false)] (.seq (.drw [] (oR 11) [] (List.range 11) [qm 10 0,qo 11 (.nilck 10),qo 12 (.fa 11 0),qo 13 (ld 12),qm 14 0,qo 15 (.nilck 14),qo 16 (.fa 15 1),qo 17 (ld 16),qo 18 (.idxS 13 17),qo 19 (.bin .eql .num 18 (.c (.int .u8 94))),qm 4 19])
 (.cut [0, 3, 4] [(.x 0), (.s 3), (.x 1)] (sr [qm 20 4] (.cond 20 (.reg [qm 21 0,qo 22 (.nilck 21),qo 23 (.fa 22 1),qo 24 (ld 23),qo 25 (.bin .add .num 24 (iC 1)),qo 26 (.nilck 21),qo 27 (.fa 26 1),qp (.store 27 25 1)]) .skip)) (.cut [0, 3, 4] [(.x 0), (.s 3), (.x 1)] (.block 0 (.loop (.keep [0, 3, 4] [(.x 0), (.s 3), (.x 1)] (.aft (.seq (.seq
 (.drw [] (oR 10) [] (List.range 10) [qm 28 0,qo 29 (.nilck 28),qo 30 (.fa 29 0),qo 31 (ld 30),qm 32 0,qo 33 (.nilck 32),qo 34 (.fa 33 1),qo 35 (ld 34),qo 36 (.idxS 31 35),qo 37 (.bin .neq .num 36 (.c (.int .u8 93)))]) (.cond 37 .skip (.exit 0))) (.cut1 [0, 3, 4] [(.x 0), (.s 3), (.x 1)] (.block 1 (sr [qm 38 0,qo 39 (.call 39 164 [38]),
 qm 5 39] (sr [qm 40 5,qm 6 40] (.cut [0, 3, 4, 5, 6] [(.x 0), (.s 3), (.x 1)] (.seq (.drw [] (oR 10) [] (List.range 10) [qm 41 0,qo 42 (.nilck 41),qo 43 (.fa 42 0),qo 44 (ld 43),qm 45 0,qo 46 (.nilck 45),qo 47 (.fa 46 1),qo 48 (ld 47),qo 49 (.idxS 44 48),qo 50 (.bin .eql .num 49 (.c (.int .u8 45)))]) (.cond 50 (.seq
 (.reg [qm 51 0,qo 52 (.nilck 51),qo 53 (.fa 52 1),qo 54 (ld 53),qo 55 (.bin .add .num 54 (iC 1)),qo 56 (.nilck 51),qo 57 (.fa 56 1),qp (.store 57 55 1)]) (.reg [qm 58 0,qo 59 (.call 59 164 [58]),qm 6 59])) .skip)) (sr [qm 60 5,qo 61 (.conv .i64 60),qm 7 61] (.block 2 (.loop (.keep [0, 3, 4, 6, 7] [(.x 0), (.s 3), (.x 1)] (.aft (.seq
 (sr [qm 62 7,qm 63 6,qo 64 (.conv .i64 63),qo 65 (.bin .leq .num 62 64)] (.cond 65 .skip (.exit 2))) (.seq (.block 3 (.reg [qm 68 7,qo 69 (.idxR 3 68 1 256),qp (.store 69 bT 1)])) (.reg [qm 66 7,qo 67 (.bin .add .num 66 (iC 1)),qm 7 67]))) [.keep [0, 3, 4, 6, 7] [(.x 0), (.s 3), (.x 1)]]))))))))))) [.keep [0, 3, 4] [(.x 0), (.s 3), (.x 1)]])))) (.seq
 (.reg [qm 70 0,qo 71 (.nilck 70),qo 72 (.fa 71 1),qo 73 (ld 72),qo 74 (.bin .add .num 73 (iC 1)),qo 75 (.nilck 70),qo 76 (.fa 75 1),qp (.store 76 74 1)]) (sr [qo 8 (.mv (.c (.nils)))] (.cut [0, 8] [(.x 0), (.sub (.sub (.s 8) 602) 0), (.x 1)] (sr [qo 77 (.mv (iC 0))] (.block 4 (.pre [.own 8 0 .u8 (.sub (.sub (.s 8) 602) 0)]
 (.loop (.keep [0, 3, 4, 8, 77] [(.x 0), (.s 3), (.sub (.sub (.s 8) 602) 0), (.x 1)] (.aft (sr [qo 78 (.bin .lss .num 77 (iC 256))] (.seq (.cond 78 .skip (.exit 4)) (.seq (.block 5 (sr [qm 79 77,qm 9 79] (sr [qm 80 9,qo 81 (.idxR 3 80 1 256),qo 82 (ld 81),qm 83 4,qo 84 (.bin .neq .bool 82 83)] (.cond 84 (.reg [qm 85 8,
 qm 86 9,qo 87 (.conv .u8 86),qo 88 (.bsl .u8 [87]),qo 89 (.app 89 .u8 68719476736 85 88),qm 8 89]) .skip)))) (.reg [qo 90 (.bin .add .num 77 (iC 1)),qm 77 90])))) [.keep [0, 3, 4, 8, 77] [(.x 0), (.s 3), (.sub (.sub (.s 8) 602) 0), (.x 1), (.s 89)], .own 8 0 .u8 (.sub (.sub (.s 8) 602) 0)])))))) (sr [qm 91 8,qm 92 0,qo 93 (.nilck 92),qo 94 (.fa 93 2),
 qo 95 (ld 94),qm 96 8,qo 97 (.len false 96),qo 98 (.call 98 15 [95, 97]),qo 99 (.idxA 91 98 1),qo 100 (ld 99),qo 101 (.bsl .u8 [100]),qo 102 (.b2s 101),qm 2 102] .ret)))))))))⟩
theorem w153 {O : Oracle TT} (fuel : Nat) (h15 : C15 O f15) (h164 : C164 O f164) : C153 (fun _ => vcF (S := SS) O j153) (f153 fuel) := by
 intro s5 v09 l6 Q R hQ h
 unfold f153 at h
 refine ⟨nle rfl, rfl, ?_⟩
 refine kg (sat_getB h) fun c10 hc10 h => ?_
 refine kc h ?_ ?_ <;> intro h
 obtain ⟨R0A, h, a0A, hrR0A⟩ := sc h
 refine kX (fun σ => R0A (.inr ()) ∧ σ = ⟨[(0, pX 0), pT 3, (4, bD false)], [eV (.x 0) [.str s5, ci v09, .ptr (.x 1) 0 0], (.s 3, (eR .bool (List.replicate 256 false))), eV (.x 1) [.isl .int l6]]⟩) ?_ ?_
 conv => whnf
 exact ⟨ss h, rfl⟩
 rintro _ ⟨h, rfl⟩
 replace h := hrR0A _ h
 obtain ⟨RN, h, aN, hrRN⟩ := sc h
 refine kX (fun σ => ∃ vO lP, RN (.inr (vO, lP)) ∧ σ = ⟨[(0, pX 0), pT 3, (4, bD false)], [eV (.x 0) [.str s5, ci vO, .ptr (.x 1) 0 0], (.s 3, (eR .bool lP)), eV (.x 1) [.isl .int l6]]⟩) ?_ ?_
 refine kX (fun σ n => ∃ (f0B : Nat) (lJ : List Bool) (v0C : Int), f0B = n ∧ sat (f153_L8 fuel s5 l6 f0B lJ v0C) RN ∧ σ.keep [0, 3, 4] [(.x 0), (.s 3), (.x 1)] = ⟨[(0, pX 0), pT 3, (4, bD false)], [eV (.x 0) [.str s5, ci v0C, .ptr (.x 1) 0 0], (.s 3, (eR .bool lJ)), eV (.x 1) [.isl .int l6]]⟩) ⟨_, _, (List.replicate 256 false), v09, rfl, h, rfl⟩ ?_
 rintro σ n ⟨f0B, lJ, v0C, rfl, h, hσ⟩
 refine kk hσ ?_
 rcases f0B with _ | g0S
 rw [f153_L8] at h; exact nn h
 rw [f153_L8] at h
 refine kg (sat_getB h) fun c11 hc11 h => ?_
 refine kc h ?_ ?_ <;> intro h
 conv => whnf
 exact ⟨v0C, lJ, ss h, rfl⟩
 obtain ⟨RQ, h, aQ, hrRQ⟩ := sc h
 refine kX (fun σ => ∃ v0D l0E, RQ (.inr (v0D, l0E)) ∧ σ = ⟨[(0, pX 0), pT 3, (4, bD false)], [eV (.x 0) [.str s5, ci v0D, .ptr (.x 1) 0 0], (.s 3, (eR .bool l0E)), eV (.x 1) [.isl .int l6]]⟩) ?_ ?_
 refine kL [(.x 0), (.x 1)] (h164 _ _ _ _ _ ?_ (sb h))
 rintro v0Q v12 h
 obtain ⟨R0F, h, a0F, hrR0F⟩ := sc h
 refine kX (fun σ => ∃ vS vK, R0F (.inr (vS, vK)) ∧ σ = ⟨[(0, pX 0), pT 3, (4, bD false), (5, .c (.int .u8 v0Q)), (6, .c (.int .u8 vS))], [eV (.x 0) [.str s5, ci vK, .ptr (.x 1) 0 0], (.s 3, (eR .bool lJ)), eV (.x 1) [.isl .int l6]]⟩) ?_ ?_
 refine kg (sat_getB h) fun c13 hc13 h => ?_
 refine kc h ?_ ?_ <;> intro h
 conv => whnf
 exact ⟨v0Q, v12, ss h, rfl⟩
 refine kL [(.x 0), (.x 1)] (h164 _ _ _ _ _ ?_ (sb h))
 rintro v14 v15 h
 conv => whnf
 exact ⟨v14, v15, ss h, rfl⟩
 rintro _ ⟨vS, vK, h, rfl⟩
 replace h := hrR0F _ h
 refine kX (fun σ n => ∃ (f0G : Nat) (lU : List Bool) (vW : Int), f0G = n ∧ sat (f153_L10 vS vK f0G lU vW) RQ ∧ σ.keep [0, 3, 4, 6, 7] [(.x 0), (.s 3), (.x 1)] = ⟨[(0, pX 0), pT 3, (4, bD false), (6, .c (.int .u8 vS)), (7, iD vW)], [eV (.x 0) [.str s5, ci vK, .ptr (.x 1) 0 0], (.s 3, (eR .bool lU)), eV (.x 1) [.isl .int l6]]⟩) ⟨_, _, lJ, (wrap .i64 v0Q), rfl, h, rfl⟩ ?_
 rintro σ n ⟨f0G, lU, vW, rfl, h, hσ⟩
 refine kk hσ ?_
 rcases f0G with _ | g0T
 rw [f153_L10] at h; exact nn h
 rw [f153_L10] at h
 refine kc h ?_ ?_ <;> intro h
 conv => whnf
 exact ⟨vK, lU, ss h, rfl⟩
 refine kp h fun hb1I h => ?_
 refine kg (sat_getN h) fun b1J huu1K h => ?_
 refine ⟨true, rfl, ?_⟩
 conv => whnf
 exact ⟨g0T, nls, g0T, (lU.set vW.toNat true), (wrap .i64 (vW + 1)), rfl, h, rfl⟩
 rintro _ ⟨v0D, l0E, h, rfl⟩
 replace h := hrRQ _ h
 conv => whnf
 exact ⟨g0S, nls, g0S, l0E, v0D, rfl, h, rfl⟩
 rintro _ ⟨vO, lP, h, rfl⟩
 replace h := hrRN _ h
 obtain ⟨RY, h, aY, hrRY⟩ := sc h
 refine kX (fun σ => ∃ (l0H : LI) (n0U : Nat), n0U = l0H.length ∧ RY (.inr l0H) ∧ σ = ⟨[(0, pX 0), (8, .c (.osl (.sub (.sub (.s 8) 602) 0) 0 n0U))], [eV (.x 0) [.str s5, ci (wrap .i64 (vO + 1)), .ptr (.x 1) 0 0], (.sub (.sub (.s 8) 602) 0, (eR .u8 l0H)), eV (.x 1) [.isl .int l6]]⟩) ?_ ?_
 obtain ⟨hN17, h⟩ := sat_grdP h
 refine kX (fun σ n => ∃ (fA : Nat) (vB : Int) (z : Int) (lH : LI) (n0V : Nat), fA = n ∧ fA = (256 - vB).toNat ∧ 0 ≤ vB ∧ vB = z ∧ n0V = lH.length ∧ sat (f153_L12 lP fA vB lH) RY ∧ σ.keep [0, 3, 4, 8, 77] [(.x 0), (.s 3), (.sub (.sub (.s 8) 602) 0), (.x 1)] = ⟨[(0, pX 0), pT 3, (4, bD false), (8, .c (.osl (.sub (.sub (.s 8) 602) 0) 0 n0V)), (77, iD z)], [eV (.x 0) [.str s5, ci (wrap .i64 (vO + 1)), .ptr (.x 1) 0 0], (.s 3, (eR .bool lP)), (.sub (.sub (.s 8) 602) 0, (eR .u8 lH)), eV (.x 1) [.isl .int l6]]⟩) ⟨_, _, 0, _, [], _, rfl, rfl, (by decide), rfl, LN, h, rfl⟩ ?_
 rintro σ n ⟨fA, vB, _, lH, _, rfl, hfA, hpfA, rfl, rfl, h, hσ⟩
 refine kk hσ ?_
 intro tZ (htZ : tZ = decide (vB < 256))
 cases tZ
 obtain rfl := il_nil hfA htZ
 rw [f153_L12] at h
 conv => whnf
 exact ⟨lH, _, LN, ss h, rfl⟩
 obtain ⟨g8, rfl, hwg8, hpg8, hfg8⟩ := il_cons hfA hpfA htZ hN17
 rw [f153_L12] at h
 refine kp h fun hb1L h => ?_
 refine kg (sat_getN h) fun b18 huu1M h => ?_
 cases b18
 replace h := cf h
 conv => whnf
 exact ⟨g8, nls, g8, vB + 1, _, lH, _, rfl, hfg8, hpg8, hwg8.symm, LN, h, rfl⟩
 replace h := ct h
 conv => whnf
 refine ⟨LN, rfl, ?_⟩
 conv => whnf
 refine ⟨rfl, ?_⟩
 refine kp h fun hb1N h => ?_
 conv => whnf
 exact ⟨g8, nls, g8, vB + 1, _, (lH ++ ([(wrap .u8 vB)] : LI)), _, rfl, hfg8, hpg8, hwg8.symm, LN, h, rfl⟩
 rintro _ ⟨l0H, _, rfl, h, rfl⟩
 replace h := hrRY _ h
 intro hl1O
 refine kL [(.x 1)] (h15 _ _ _ _ ?_ (sb h))
 rintro v1P l1Q h
 refine kp h fun hb1R h => ?_
 refine kg (sat_getN h) fun c19 huu1S h => ?_
 conv => whnf
 refine ⟨([c19] : LI), rfl, ?_⟩
 exact kR [] (ND 2) (hQ _ _ _ (ss h))
 obtain ⟨R0I, h, a0I, hrR0I⟩ := sc h
 refine kX (fun σ => R0I (.inr ()) ∧ σ = ⟨[(0, pX 0), pT 3, (4, bD true)], [eV (.x 0) [.str s5, ci (wrap .i64 (v09 + 1)), .ptr (.x 1) 0 0], (.s 3, (eR .bool (List.replicate 256 false))), eV (.x 1) [.isl .int l6]]⟩) ?_ ?_
 conv => whnf
 exact ⟨ss h, rfl⟩
 rintro _ ⟨h, rfl⟩
 replace h := hrR0I _ h
 obtain ⟨R00, h, a00, hrR00⟩ := sc h
 refine kX (fun σ => ∃ v01 l02, R00 (.inr (v01, l02)) ∧ σ = ⟨[(0, pX 0), pT 3, (4, bD true)], [eV (.x 0) [.str s5, ci v01, .ptr (.x 1) 0 0], (.s 3, (eR .bool l02)), eV (.x 1) [.isl .int l6]]⟩) ?_ ?_
 refine kX (fun σ n => ∃ (f0J : Nat) (lL : List Bool) (v0K : Int), f0J = n ∧ sat (f153_L20 fuel s5 l6 f0J lL v0K) R00 ∧ σ.keep [0, 3, 4] [(.x 0), (.s 3), (.x 1)] = ⟨[(0, pX 0), pT 3, (4, bD true)], [eV (.x 0) [.str s5, ci v0K, .ptr (.x 1) 0 0], (.s 3, (eR .bool lL)), eV (.x 1) [.isl .int l6]]⟩) ⟨_, _, (List.replicate 256 false), (wrap .i64 (v09 + 1)), rfl, h, rfl⟩ ?_
 rintro σ n ⟨f0J, lL, v0K, rfl, h, hσ⟩
 refine kk hσ ?_
 rcases f0J with _ | g0W
 rw [f153_L20] at h; exact nn h
 rw [f153_L20] at h
 refine kg (sat_getB h) fun c1A hc1A h => ?_
 refine kc h ?_ ?_ <;> intro h
 conv => whnf
 exact ⟨v0K, lL, ss h, rfl⟩
 obtain ⟨R03, h, a03, hrR03⟩ := sc h
 refine kX (fun σ => ∃ v0L l0M, R03 (.inr (v0L, l0M)) ∧ σ = ⟨[(0, pX 0), pT 3, (4, bD true)], [eV (.x 0) [.str s5, ci v0L, .ptr (.x 1) 0 0], (.s 3, (eR .bool l0M)), eV (.x 1) [.isl .int l6]]⟩) ?_ ?_
 refine kL [(.x 0), (.x 1)] (h164 _ _ _ _ _ ?_ (sb h))
 rintro v0R v1B h
 obtain ⟨R0N, h, a0N, hrR0N⟩ := sc h
 refine kX (fun σ => ∃ v04 vM, R0N (.inr (v04, vM)) ∧ σ = ⟨[(0, pX 0), pT 3, (4, bD true), (5, .c (.int .u8 v0R)), (6, .c (.int .u8 v04))], [eV (.x 0) [.str s5, ci vM, .ptr (.x 1) 0 0], (.s 3, (eR .bool lL)), eV (.x 1) [.isl .int l6]]⟩) ?_ ?_
 refine kg (sat_getB h) fun c1C hc1C h => ?_
 refine kc h ?_ ?_ <;> intro h
 conv => whnf
 exact ⟨v0R, v1B, ss h, rfl⟩
 refine kL [(.x 0), (.x 1)] (h164 _ _ _ _ _ ?_ (sb h))
 rintro v1D v1E h
 conv => whnf
 exact ⟨v1D, v1E, ss h, rfl⟩
 rintro _ ⟨v04, vM, h, rfl⟩
 replace h := hrR0N _ h
 refine kX (fun σ n => ∃ (f0O : Nat) (l05 : List Bool) (v06 : Int), f0O = n ∧ sat (f153_L22 v04 vM f0O l05 v06) R03 ∧ σ.keep [0, 3, 4, 6, 7] [(.x 0), (.s 3), (.x 1)] = ⟨[(0, pX 0), pT 3, (4, bD true), (6, .c (.int .u8 v04)), (7, iD v06)], [eV (.x 0) [.str s5, ci vM, .ptr (.x 1) 0 0], (.s 3, (eR .bool l05)), eV (.x 1) [.isl .int l6]]⟩) ⟨_, _, lL, (wrap .i64 v0R), rfl, h, rfl⟩ ?_
 rintro σ n ⟨f0O, l05, v06, rfl, h, hσ⟩
 refine kk hσ ?_
 rcases f0O with _ | g0X
 rw [f153_L22] at h; exact nn h
 rw [f153_L22] at h
 refine kc h ?_ ?_ <;> intro h
 conv => whnf
 exact ⟨vM, l05, ss h, rfl⟩
 refine kp h fun hb1T h => ?_
 refine kg (sat_getN h) fun b1U huu1V h => ?_
 refine ⟨true, rfl, ?_⟩
 conv => whnf
 exact ⟨g0X, nls, g0X, (l05.set v06.toNat true), (wrap .i64 (v06 + 1)), rfl, h, rfl⟩
 rintro _ ⟨v0L, l0M, h, rfl⟩
 replace h := hrR03 _ h
 conv => whnf
 exact ⟨g0W, nls, g0W, l0M, v0L, rfl, h, rfl⟩
 rintro _ ⟨v01, l02, h, rfl⟩
 replace h := hrR00 _ h
 obtain ⟨R07, h, a07, hrR07⟩ := sc h
 refine kX (fun σ => ∃ (l0P : LI) (n0Y : Nat), n0Y = l0P.length ∧ R07 (.inr l0P) ∧ σ = ⟨[(0, pX 0), (8, .c (.osl (.sub (.sub (.s 8) 602) 0) 0 n0Y))], [eV (.x 0) [.str s5, ci (wrap .i64 (v01 + 1)), .ptr (.x 1) 0 0], (.sub (.sub (.s 8) 602) 0, (eR .u8 l0P)), eV (.x 1) [.isl .int l6]]⟩) ?_ ?_
 obtain ⟨hN1F, h⟩ := sat_grdP h
 refine kX (fun σ n => ∃ (fC : Nat) (vG : Int) (z : Int) (lI : LI) (n0Z : Nat), fC = n ∧ fC = (256 - vG).toNat ∧ 0 ≤ vG ∧ vG = z ∧ n0Z = lI.length ∧ sat (f153_L24 l02 fC vG lI) R07 ∧ σ.keep [0, 3, 4, 8, 77] [(.x 0), (.s 3), (.sub (.sub (.s 8) 602) 0), (.x 1)] = ⟨[(0, pX 0), pT 3, (4, bD true), (8, .c (.osl (.sub (.sub (.s 8) 602) 0) 0 n0Z)), (77, iD z)], [eV (.x 0) [.str s5, ci (wrap .i64 (v01 + 1)), .ptr (.x 1) 0 0], (.s 3, (eR .bool l02)), (.sub (.sub (.s 8) 602) 0, (eR .u8 lI)), eV (.x 1) [.isl .int l6]]⟩) ⟨_, _, 0, _, [], _, rfl, rfl, (by decide), rfl, LN, h, rfl⟩ ?_
 rintro σ n ⟨fC, vG, _, lI, _, rfl, hfC, hpfC, rfl, rfl, h, hσ⟩
 refine kk hσ ?_
 intro t08 (ht08 : t08 = decide (vG < 256))
 cases t08
 obtain rfl := il_nil hfC ht08
 rw [f153_L24] at h
 conv => whnf
 exact ⟨lI, _, LN, ss h, rfl⟩
 obtain ⟨g9, rfl, hwg9, hpg9, hfg9⟩ := il_cons hfC hpfC ht08 hN1F
 rw [f153_L24] at h
 refine kp h fun hb1W h => ?_
 refine kg (sat_getN h) fun b1G huu1X h => ?_
 cases b1G
 replace h := cf h
 conv => whnf
 refine ⟨LN, rfl, ?_⟩
 conv => whnf
 refine ⟨rfl, ?_⟩
 refine kp h fun hb1Y h => ?_
 conv => whnf
 exact ⟨g9, nls, g9, vG + 1, _, (lI ++ ([(wrap .u8 vG)] : LI)), _, rfl, hfg9, hpg9, hwg9.symm, LN, h, rfl⟩
 replace h := ct h
 conv => whnf
 exact ⟨g9, nls, g9, vG + 1, _, lI, _, rfl, hfg9, hpg9, hwg9.symm, LN, h, rfl⟩
 rintro _ ⟨l0P, _, rfl, h, rfl⟩
 replace h := hrR07 _ h
 intro hl1Z
 refine kL [(.x 1)] (h15 _ _ _ _ ?_ (sb h))
 rintro v20 l21 h
 refine kp h fun hb22 h => ?_
 refine kg (sat_getN h) fun c1H huu23 h => ?_
 conv => whnf
 refine ⟨([c1H] : LI), rfl, ?_⟩
 exact kR [] (ND 2) (hQ _ _ _ (ss h))
def f82_L2 (self104 : BA → Int → LI → Option BIL) (s6 : BA) : Nat → LB → Int → LI → Option (Sum BIL (Int × LB × LI))
 | 0, _, _, _ => none
 | gA + 1, l7, v5, l8 => cond (decide (v5 < (s6.size : Int))) (getB s6 v5 fun cB => cond ((cB.toNat : Int) == 124) ((self104 s6 (wrap .i64 (v5 + 1)) l8).bind fun (s9, vC, lF) => grdP (l7.length + ([s9] : LB).length ≤ 68719476736) (f82_L2 self104 s6 gA (l7 ++ ([s9] : LB)) vC lF)) (some (.inr (v5, l7, l8)))) (some (.inr (v5, l7, l8)))
def b82 (fuel : Nat) (self104 : BA → Int → LI → Option BIL) : BA → Int → LI → Option BIL
 | s7, v8, l9 => (self104 s7 v8 l9).bind fun (sA, vB, lC) => sbind (ο := Int × LB × LI) (f82_L2 self104 s7 fuel ([sA] : LB) vB lC) (fun (vF, l5, lG) => (f15 ((l5.length : Nat) : Int) lG).bind fun (v6, lH) => grdP ((0 : Int) ≤ v6 ∧ v6 < ((l5.length : Nat) : Int)) (getN l5 (0 + v6.toNat) fun wI => some (wI, vF, lH)))
def f104_L10 (self131 : BA → Int → LI → Option BIL) (s9 : BA) (vA : Int) (vB : Int) : Nat → Int → BA → BA → LI → Option (Sum (Sum BIL BIL) BIL)
 | 0, v6, s5, s7, l8 => some (.inr (s5, vB, l8))
 | gF + 1, v6, s5, s7, l8 => cond (decide (v6 > 0)) ((self131 s9 vA l8).bind fun (sC, vH, lG) => grdP (((s5.size + sC.size : Nat) : Int) ≤ 9223372036854775807) (f104_L10 self131 s9 vA vB gF (v6 + 1) (s5 ++ sC) sC lG)) (grdP (((s5.size + s7.size : Nat) : Int) ≤ 9223372036854775807) (f104_L10 self131 s9 vA vB gF (v6 + 1) (s5 ++ s7) s7 l8))
def f104_L8 (self131 : BA → Int → LI → Option BIL) (s5 : BA) : Nat → BA → Int → LI → Option (Sum BIL BIL)
 | 0, _, _, _ => none
 | gF + 1, s9, v6, lA => cond (decide (v6 < (s5.size : Int))) (getB s5 v6 fun cG => cond ((cG.toNat : Int) != 124) (getB s5 v6 fun cH => cond ((cH.toNat : Int) != 41) (sbind (ο := BA × Int × LI) ((self131 s5 v6 lA).bind fun (sI, v7, l8) => sbind (ο := Int × Int × LI) (cond (decide (v7 < (s5.size : Int))) (getB s5 v7 fun cB => cond ((cB.toNat : Int) == 42) ((f15 (3 : Int) l8).bind fun (vJ, lK) => some (.inr (vJ, (wrap .i64 (v7 + 1)), lK))) (cond ((cB.toNat : Int) == 43) ((f15 (2 : Int) l8).bind fun (vL, lM) => some (.inr ((wrap .i64 ((1 : Int) + vL)), (wrap .i64 (v7 + 1)), lM))) (cond ((cB.toNat : Int) == 63) ((f15 (2 : Int) l8).bind fun (vN, lO) => some (.inr (vN, (wrap .i64 (v7 + 1)), lO))) (some (.inr (1, v7, l8)))))) (some (.inr (1, v7, l8)))) (fun (vC, vP, lQ) => grdP (vC ≤ 9223372036854775807) (f104_L10 self131 s5 v6 vP (vC - 0).toNat 0 s9 sI lQ))) (fun (sR, vS, lT) => f104_L8 self131 s5 gF sR vS lT)) (some (.inr (s9, v6, lA)))) (some (.inr (s9, v6, lA)))) (some (.inr (s9, v6, lA)))
def b104 (fuel : Nat) (self131 : BA → Int → LI → Option BIL) : BA → Int → LI → Option BIL
 | s5, v6, l7 => sbind (ο := BA × Int × LI) (f104_L8 self131 s5 fuel (⟨#[]⟩ : BA) v6 l7) (fun (s8, v9, lA) => some (s8, v9, lA))
def b131 (fuel : Nat) (self82 : BA → Int → LI → Option BIL) : BA → Int → LI → Option BIL
 | s8, v5, l6 => getB s8 v5 fun c7 => cond ((c7.toNat : Int) == 40) ((self82 s8 (wrap .i64 (v5 + 1)) l6).bind fun (s9, vA, lB) => some (s9, (wrap .i64 (vA + 1)), lB)) (cond ((c7.toNat : Int) == 46) ((f61 ([(⟨#[97]⟩ : BA), (⟨#[98]⟩ : BA), (⟨#[45]⟩ : BA), (⟨#[0]⟩ : BA), (⟨#[55]⟩ : BA)] : LB) l6).bind fun (sC, lF) => some (sC, (wrap .i64 (v5 + 1)), lF)) (cond ((c7.toNat : Int) == 91) ((f153 fuel s8 (wrap .i64 (v5 + 1)) l6).bind fun (sG, vH, lI) => some (sG, vH, lI)) (cond ((c7.toNat : Int) == 92) (getB s8 (wrap .i64 (v5 + 1)) fun cJ => some ((strOfNums ([(cJ.toNat : Int)] : LI)), (wrap .i64 ((wrap .i64 (v5 + 1)) + 1)), l6)) (some ((strOfNums ([(c7.toNat : Int)] : LI)), (wrap .i64 (v5 + 1)), l6)))))
def S82 : Nat → (BA → Int → LI → Option BIL) × (BA → Int → LI → Option BIL) × (BA → Int → LI → Option BIL)
 | 0 => (fun _ _ _ => none, fun _ _ _ => none, fun _ _ _ => none)
 | n + 1 => (b82 n (S82 n).2.1, b104 n (S82 n).2.2, b131 n (S82 n).1)
def f82 (n : Nat) : BA → Int → LI → Option BIL := (S82 n).1
def f104 (n : Nat) : BA → Int → LI → Option BIL := (S82 n).2.1
def f131 (n : Nat) : BA → Int → LI → Option BIL := (S82 n).2.2
def C82 (O : Oracle TT) (m : BA → Int → LI → Option BIL) : Prop :=
 ∀ s5 v6 l7 (Q : BIL → Prop) (R : RR) (_ : ∀ s8 v9 lA, Q (s8, v9, lA) → R (sD s8) [eV (.x 0) [.str s5, ci v9, .ptr (.x 1) 0 0], eV (.x 1) [.isl .int lA]]) (_ : sat (m s5 v6 l7) Q), O 82 [pX 0] [eV (.x 0) [.str s5, ci v6, .ptr (.x 1) 0 0], eV (.x 1) [.isl .int l7]] R
def j82 : Fn TT := ⟨51, [.t 2], (sr [qm 2 sE] (sr [qm 4 0,qo 5 (.call 5 104 [4]),qo 6 (.bslice 6 .str [5]),qm 3 6] (.cut [0, 3] [(.x 0), (.sub (.sub (.s 3) 600) 0), (.x 1)] (.block 0 (.pre [.own 3 0 .str (.sub (.sub (.s 3) 600) 0)] (.loop (.keep [0, 3] [(.x 0), (.sub (.sub (.s 3) 600) 0), (.x 1)] (.aft (.seq (.seq
 (.drw [] (oR 22) [] (List.range 22) [qm 7 0,qo 8 (.nilck 7),qo 9 (.fa 8 1),qo 10 (ld 9),qm 11 0,qo 12 (.nilck 11),qo 13 (.fa 12 0),qo 14 (ld 13),qo 15 (.len true 14),qo 16 (.bin .lss .num 10 15),qm 17 16,qg 17 18 (.mv 0),qg 17 19 (.nilck 18),qg 17 20 (.fa 19 0),qg 17 21 (ld 20),qg 17 22 (.mv 0),qg 17 23 (.nilck 22),
 qg 17 24 (.fa 23 1),qg 17 25 (ld 24),qg 17 26 (.idxS 21 25),qg 17 27 (.bin .eql .num 26 (.c (.int .u8 124))),qo 28 (.pick 17 27 bF)]) (.cond 28 .skip (.exit 0))) (.block 1 (sr [qm 29 0,qo 30 (.nilck 29),qo 31 (.fa 30 1),qo 32 (ld 31),qo 33 (.bin .add .num 32 (iC 1)),qo 34 (.nilck 29),qo 35 (.fa 34 1),qp (.store 35 33 1)] (.reg [qm 36 3,
 qm 37 0,qo 38 (.call 38 104 [37]),qo 39 (.bsl .str [38]),qo 40 (.app 40 .str 68719476736 36 39),qm 3 40])))) [.keep [0, 3] [(.x 0), (.s 40), (.x 1)], .own 3 0 .str (.sub (.sub (.s 3) 600) 0)]))))) (sr [qm 41 3,qm 42 0,qo 43 (.nilck 42),qo 44 (.fa 43 2),qo 45 (ld 44),qm 46 3,qo 47 (.len false 46),qo 48 (.call 48 15 [45, 47]),
 qo 49 (.idxA 41 48 1),qo 50 (ld 49),qm 2 50] .ret))))⟩
def C104 (O : Oracle TT) (m : BA → Int → LI → Option BIL) : Prop :=
 ∀ s5 v6 l7 (Q : BIL → Prop) (R : RR) (_ : ∀ s8 v9 lA, Q (s8, v9, lA) → R (sD s8) [eV (.x 0) [.str s5, ci v9, .ptr (.x 1) 0 0], eV (.x 1) [.isl .int lA]]) (_ : sat (m s5 v6 l7) Q), O 104 [pX 0] [eV (.x 0) [.str s5, ci v6, .ptr (.x 1) 0 0], eV (.x 1) [.isl .int l7]] R
def j104 : Fn TT := ⟨136, [.t 2], (sr [qm 2 sE] (sr [qm 3 sE] (.cut [3] [(.x 0), (.x 1)] (.block 0 (.loop (.keep [0, 3] [(.x 0), (.x 1)] (.aft (.seq (.seq (.drw [] (oR 34) [] (List.range 34) [qm 9 0,qo 10 (.nilck 9),qo 11 (.fa 10 1),qo 12 (ld 11),qm 13 0,qo 14 (.nilck 13),qo 15 (.fa 14 0),qo 16 (ld 15),
 qo 17 (.len true 16),qo 18 (.bin .lss .num 12 17),qm 19 18,qg 19 20 (.mv 0),qg 19 21 (.nilck 20),qg 19 22 (.fa 21 0),qg 19 23 (ld 22),qg 19 24 (.mv 0),qg 19 25 (.nilck 24),qg 19 26 (.fa 25 1),qg 19 27 (ld 26),qg 19 28 (.idxS 23 27),qg 19 29 (.bin .neq .num 28 (.c (.int .u8 124))),qo 30 (.pick 19 29 bF),qm 31 30,qg 31 32 (.mv 0),
 qg 31 33 (.nilck 32),qg 31 34 (.fa 33 0),qg 31 35 (ld 34),qg 31 36 (.mv 0),qg 31 37 (.nilck 36),qg 31 38 (.fa 37 1),qg 31 39 (ld 38),qg 31 40 (.idxS 35 39),qg 31 41 (.bin .neq .num 40 (.c (.int .u8 41))),qo 42 (.pick 31 41 bF)]) (.cond 42 .skip (.exit 0))) (.cut1 [0, 3] [(.x 0), (.x 1)] (.block 1 (sr [qm 43 0,qo 44 (.nilck 43),qo 45 (.fa 44 1),
 qo 46 (ld 45),qm 4 46] (sr [qm 47 0,qo 48 (.call 48 131 [47]),qm 5 48] (sr [qo 6 (.mv (iC 1))] (.cut [0, 3, 4, 5, 6] [(.x 0), (.x 1)] (.seq (.drw [] (oR 10) [] (List.range 10) [qm 49 0,qo 50 (.nilck 49),qo 51 (.fa 50 1),qo 52 (ld 51),qm 53 0,qo 54 (.nilck 53),qo 55 (.fa 54 0),qo 56 (ld 55),
 qo 57 (.len true 56),qo 58 (.bin .lss .num 52 57)]) (.cond 58 (.seq (.drw [] (oR 9) [] (List.range 9) [qm 59 0,qo 60 (.nilck 59),qo 61 (.fa 60 0),qo 62 (ld 61),qm 63 0,qo 64 (.nilck 63),qo 65 (.fa 64 1),qo 66 (ld 65),qo 67 (.idxS 62 66)]) (.block 2 (sr [qo 69 (.bin .eql .num 67 (.c (.int .u8 42))),qm 68 69] (.cond 68 (.seq
 (.reg [qm 70 0,qo 71 (.nilck 70),qo 72 (.fa 71 2),qo 73 (ld 72),qo 74 (.call 74 15 [73, (iC 3)]),qm 6 74]) (.reg [qm 75 0,qo 76 (.nilck 75),qo 77 (.fa 76 1),qo 78 (ld 77),qo 79 (.bin .add .num 78 (iC 1)),qo 80 (.nilck 75),qo 81 (.fa 80 1),qp (.store 81 79 1)])) (sr [qo 83 (.bin .eql .num 67 (.c (.int .u8 43))),qm 82 83] (.cond 82
 (sr [qm 84 0,qo 85 (.nilck 84),qo 86 (.fa 85 2),qo 87 (ld 86),qo 88 (.call 88 15 [87, (iC 2)]),qo 89 (.bin .add .num (iC 1) 88),qm 6 89] (.reg [qm 90 0,qo 91 (.nilck 90),qo 92 (.fa 91 1),qo 93 (ld 92),qo 94 (.bin .add .num 93 (iC 1)),qo 95 (.nilck 90),qo 96 (.fa 95 1),qp (.store 96 94 1)])) (.seq
 (.reg [qo 98 (.bin .eql .num 67 (.c (.int .u8 63))),qm 97 98]) (.cond 97 (sr [qm 99 0,qo 100 (.nilck 99),qo 101 (.fa 100 2),qo 102 (ld 101),qo 103 (.call 103 15 [102, (iC 2)]),qm 6 103] (.reg [qm 104 0,qo 105 (.nilck 104),qo 106 (.fa 105 1),qo 107 (ld 106),qo 108 (.bin .add .num 107 (iC 1)),qo 109 (.nilck 104),qo 110 (.fa 109 1),
 qp (.store 110 108 1)])) .skip)))))))) .skip)) (sr [qm 111 0,qo 112 (.nilck 111),qo 113 (.fa 112 1),qo 114 (ld 113),qm 7 114] (sr [qm 115 6,qo 116 (.mv (iC 0))] (.block 3 (.loop (.keep [0, 3, 4, 5, 7, 115, 116] [(.x 0), (.x 1)] (.aft (sr [qo 117 (.bin .lss .num 116 115)] (.seq (.cond 117 .skip (.exit 3)) (.seq (.block 4 (.seq
 (.reg [qm 118 116,qm 8 118]) (.seq (sr [qm 119 8,qo 120 (.bin .gtr .num 119 (iC 0))] (.cond 120 (sr [qm 121 0,qm 122 4,qo 123 (.nilck 121),qo 124 (.fa 123 1),qp (.store 124 122 1)] (sr [qm 125 0,qo 126 (.call 126 131 [125]),qm 5 126] (.reg [qm 127 0,qm 128 7,qo 129 (.nilck 127),qo 130 (.fa 129 1),
 qp (.store 130 128 1)]))) .skip)) (.reg [qm 131 3,qm 132 5,qo 133 (.bin .add .str 131 132),qm 3 133])))) (.reg [qo 134 (.bin .add .num 116 (iC 1)),qm 116 134])))) [.keep [0, 3, 4, 5, 7, 115, 116] [(.x 0), (.x 1)]]))))))))))))) [.keep [0, 3] [(.x 0), (.x 1)]])))) (sr [qm 135 3,qm 2 135] .ret))))⟩
def C131 (O : Oracle TT) (m : BA → Int → LI → Option BIL) : Prop :=
 ∀ s5 v6 l7 (Q : BIL → Prop) (R : RR) (_ : ∀ s8 v9 lA, Q (s8, v9, lA) → R (sD s8) [eV (.x 0) [.str s5, ci v9, .ptr (.x 1) 0 0], eV (.x 1) [.isl .int lA]]) (_ : sat (m s5 v6 l7) Q), O 131 [pX 0] [eV (.x 0) [.str s5, ci v6, .ptr (.x 1) 0 0], eV (.x 1) [.isl .int l7]] R
def j131 : Fn TT := ⟨67, [.t 2], (sr [qm 2 sE] (.seq (.drw [] (oR 10) [] (List.range 10) [qm 5 0,qo 6 (.nilck 5),qo 7 (.fa 6 0),qo 8 (ld 7),qm 9 0,qo 10 (.nilck 9),qo 11 (.fa 10 1),qo 12 (ld 11),qo 13 (.idxS 8 12),qm 3 13]) (sr [qm 14 0,qo 15 (.nilck 14),qo 16 (.fa 15 1),qo 17 (ld 16),
 qo 18 (.bin .add .num 17 (iC 1)),qo 19 (.nilck 14),qo 20 (.fa 19 1),qp (.store 20 18 1)] (.seq (sr [qm 21 3] (.block 0 (sr [qo 23 (.bin .eql .num 21 (.c (.int .u8 40))),qm 22 23] (.cond 22 (sr [qm 24 0,qo 25 (.call 25 82 [24]),qm 4 25] (sr [qm 26 0,qo 27 (.nilck 26),qo 28 (.fa 27 1),qo 29 (ld 28),
 qo 30 (.bin .add .num 29 (iC 1)),qo 31 (.nilck 26),qo 32 (.fa 31 1),qp (.store 32 30 1)] (sr [qm 33 4,qm 2 33] .ret))) (sr [qo 35 (.bin .eql .num 21 (.c (.int .u8 46))),qm 34 35] (.cond 34 (sr [qm 36 0,qo 37 (.nilck 36),qo 38 (.fa 37 2),qo 39 (ld 38),
 qo 40 (.bsl .str [(.c (.str (⟨#[97]⟩ : BA))), (.c (.str (⟨#[98]⟩ : BA))), (.c (.str (⟨#[45]⟩ : BA))), (.c (.str (⟨#[0]⟩ : BA))), (.c (.str (⟨#[55]⟩ : BA)))]),qo 41 (.call 41 61 [39, 40]),qm 2 41] .ret) (sr [qo 43 (.bin .eql .num 21 (.c (.int .u8 91))),qm 42 43] (.cond 42 (sr [qm 44 0,qo 45 (.call 45 153 [44]),
 qm 2 45] .ret) (sr [qo 47 (.bin .eql .num 21 (.c (.int .u8 92))),qm 46 47] (.cond 46 (.seq (.drw [] (oR 10) [] (List.range 10) [qm 48 0,qo 49 (.nilck 48),qo 50 (.fa 49 0),qo 51 (ld 50),qm 52 0,qo 53 (.nilck 52),qo 54 (.fa 53 1),qo 55 (ld 54),qo 56 (.idxS 51 55),qm 3 56]) (.reg [qm 57 0,qo 58 (.nilck 57),
 qo 59 (.fa 58 1),qo 60 (ld 59),qo 61 (.bin .add .num 60 (iC 1)),qo 62 (.nilck 57),qo 63 (.fa 62 1),qp (.store 63 61 1)])) .skip)))))))))) (sr [qm 64 3,qo 65 (.bsl .u8 [64]),qo 66 (.b2s 65),qm 2 66] .ret)))))⟩
theorem w82 {O : Oracle TT} (fuel : Nat) (self104 : BA → Int → LI → Option BIL) (h15 : C15 O f15) (h104 : C104 O self104) : C82 (fun _ => vcF (S := SS) O j82) (b82 fuel self104) := by
 intro sC vS lT Q R hQ h
 unfold b82 at h
 refine ⟨nle rfl, rfl, ?_⟩
 refine kL [(.x 0), (.x 1)] (h104 _ _ _ _ _ ?_ (sb h))
 rintro sK vL lM h
 obtain ⟨R6, h, a6, hrR6⟩ := sc h
 refine kX (fun σ => ∃ (vF : Int) (lA : LB) (lG : LI) (nH : Nat), nH = lA.length ∧ R6 (.inr (vF, lA, lG)) ∧ σ = ⟨[(0, pX 0), (3, .c (.osl (.sub (.sub (.s 3) 600) 0) 0 nH))], [eV (.x 0) [.str sC, ci vF, .ptr (.x 1) 0 0], (.sub (.sub (.s 3) 600) 0, (eR .str lA)), eV (.x 1) [.isl .int lG]]⟩) ?_ ?_
 refine kX (fun σ n => ∃ (fB : Nat) (l5 : LB) (v8 : Int) (l9 : LI) (nI : Nat), fB = n ∧ nI = l5.length ∧ sat (f82_L2 self104 sC fB l5 v8 l9) R6 ∧ σ.keep [0, 3] [(.x 0), (.sub (.sub (.s 3) 600) 0), (.x 1)] = ⟨[(0, pX 0), (3, .c (.osl (.sub (.sub (.s 3) 600) 0) 0 nI))], [eV (.x 0) [.str sC, ci v8, .ptr (.x 1) 0 0], (.sub (.sub (.s 3) 600) 0, (eR .str l5)), eV (.x 1) [.isl .int l9]]⟩) ⟨_, _, ([sK] : LB), vL, lM, _, rfl, LN, h, rfl⟩ ?_
 rintro σ n ⟨fB, l5, v8, l9, _, rfl, rfl, h, hσ⟩
 refine kk hσ ?_
 rcases fB with _ | gJ
 rw [f82_L2] at h; exact nn h
 rw [f82_L2] at h
 refine kc h ?_ ?_ <;> intro h
 conv => whnf
 exact ⟨v8, l5, l9, _, LN, ss h, rfl⟩
 refine kg (sat_getB h) fun cN hcN h => ?_
 refine kc h ?_ ?_ <;> intro h
 conv => whnf
 exact ⟨v8, l5, l9, _, LN, ss h, rfl⟩
 refine kL [(.x 0), (.x 1)] (h104 _ _ _ _ _ ?_ (sb h))
 rintro sO vP lQ h
 conv => whnf
 refine ⟨LN, rfl, ?_⟩
 conv => whnf
 refine ⟨rfl, ?_⟩
 refine kp h fun hbU h => ?_
 conv => whnf
 exact ⟨gJ, nls, gJ, (l5 ++ ([sO] : LB)), vP, lQ, _, rfl, LN, h, rfl⟩
 rintro _ ⟨vF, lA, lG, _, rfl, h, rfl⟩
 replace h := hrR6 _ h
 intro hlW
 refine kL [(.x 1)] (h15 _ _ _ _ ?_ (sb h))
 rintro vY lZ h
 refine kp h fun hb00 h => ?_
 refine kg (sat_getN h) fun w01 huu02 h => ?_
 exact kR [] (ND 2) (hQ _ _ _ (ss h))
theorem w104 {O : Oracle TT} (fuel : Nat) (self131 : BA → Int → LI → Option BIL) (h15 : C15 O f15) (h131 : C131 O self131) : C104 (fun _ => vcF (S := SS) O j104) (b104 fuel self131) := by
 intro sA v03 l04 Q R hQ h
 unfold b104 at h
 refine ⟨nle rfl, rfl, ?_⟩
 obtain ⟨RH, h, aH, hrRH⟩ := sc h
 refine kX (fun σ => ∃ sU vW lY, RH (.inr (sU, vW, lY)) ∧ σ = ⟨[(3, sD sU)], [eV (.x 0) [.str sA, ci vW, .ptr (.x 1) 0 0], eV (.x 1) [.isl .int lY]]⟩) ?_ ?_
 refine kX (fun σ n => ∃ (fN : Nat) (s8 : BA) (v6 : Int) (lC : LI), fN = n ∧ sat (f104_L8 self131 sA fN s8 v6 lC) RH ∧ σ.keep [0, 3] [(.x 0), (.x 1)] = ⟨[(0, pX 0), (3, sD s8)], [eV (.x 0) [.str sA, ci v6, .ptr (.x 1) 0 0], eV (.x 1) [.isl .int lC]]⟩) ⟨_, _, eB, v03, l04, rfl, h, rfl⟩ ?_
 rintro σ n ⟨fN, s8, v6, lC, rfl, h, hσ⟩
 refine kk hσ ?_
 rcases fN with _ | gZ
 rw [f104_L8] at h; exact nn h
 rw [f104_L8] at h
 refine kc h ?_ ?_ <;> intro h
 conv => whnf
 exact ⟨s8, v6, lC, ss h, rfl⟩
 refine kg (sat_getB h) fun c05 hc05 h => ?_
 refine kc h ?_ ?_ <;> intro h
 conv => whnf
 exact ⟨s8, v6, lC, ss h, rfl⟩
 refine kg (sat_getB h) fun c06 hc06 h => ?_
 refine kc h ?_ ?_ <;> intro h
 conv => whnf
 exact ⟨s8, v6, lC, ss h, rfl⟩
 obtain ⟨RI, h, aI, hrRI⟩ := sc h
 refine kX (fun σ => ∃ sO vP lQ, RI (.inr (sO, vP, lQ)) ∧ σ = ⟨[(0, pX 0), (3, sD sO)], [eV (.x 0) [.str sA, ci vP, .ptr (.x 1) 0 0], eV (.x 1) [.isl .int lQ]]⟩) ?_ ?_
 refine kL [(.x 0), (.x 1)] (h131 _ _ _ _ _ ?_ (sb h))
 rintro s00 vJ l01 h
 obtain ⟨RS, h, aS, hrRS⟩ := sc h
 refine kX (fun σ => ∃ vF vB lT, RS (.inr (vF, vB, lT)) ∧ σ = ⟨[(0, pX 0), (3, sD s8), (4, iD v6), (5, sD s00), (6, iD vF)], [eV (.x 0) [.str sA, ci vB, .ptr (.x 1) 0 0], eV (.x 1) [.isl .int lT]]⟩) ?_ ?_
 refine kc h ?_ ?_ <;> intro h
 conv => whnf
 exact ⟨(1 : Int), vJ, l01, ss h, rfl⟩
 refine kg (sat_getB h) fun c07 hc07 h => ?_
 refine kc h ?_ ?_ <;> intro h
 refine kc h ?_ ?_ <;> intro h
 refine kc h ?_ ?_ <;> intro h
 conv => whnf
 exact ⟨(1 : Int), vJ, l01, ss h, rfl⟩
 refine kL [(.x 1)] (h15 _ _ _ _ ?_ (sb h))
 rintro v08 l09 h
 conv => whnf
 exact ⟨v08, (wrap .i64 (vJ + 1)), l09, ss h, rfl⟩
 refine kL [(.x 1)] (h15 _ _ _ _ ?_ (sb h))
 rintro v0A l0B h
 conv => whnf
 exact ⟨(wrap .i64 ((1 : Int) + v0A)), (wrap .i64 (vJ + 1)), l0B, ss h, rfl⟩
 refine kL [(.x 1)] (h15 _ _ _ _ ?_ (sb h))
 rintro v0C l0D h
 conv => whnf
 exact ⟨v0C, (wrap .i64 (vJ + 1)), l0D, ss h, rfl⟩
 rintro _ ⟨vF, vB, lT, h, rfl⟩
 replace h := hrRS _ h
 obtain ⟨hN0E, h⟩ := sat_grdP h
 refine kX (fun σ n => ∃ (f7 : Nat) (v9 : Int) (z : Int) (sG : BA) (sK : BA) (lL : LI), f7 = n ∧ f7 = (vF - v9).toNat ∧ 0 ≤ v9 ∧ v9 = z ∧ sat (f104_L10 self131 sA v6 vB f7 v9 sG sK lL) RI ∧ σ.keep [0, 3, 4, 5, 7, 115, 116] [(.x 0), (.x 1)] = ⟨[(0, pX 0), (3, sD sG), (4, iD v6), (5, sD sK), (7, iD vB), (115, iD vF), (116, iD z)], [eV (.x 0) [.str sA, ci vB, .ptr (.x 1) 0 0], eV (.x 1) [.isl .int lL]]⟩) ⟨_, _, 0, _, s8, s00, lT, rfl, rfl, (by decide), rfl, h, rfl⟩ ?_
 rintro σ n ⟨f7, v9, _, sG, sK, lL, rfl, hf7, hpf7, rfl, h, hσ⟩
 refine kk hσ ?_
 intro tM (htM : tM = decide (v9 < vF))
 cases tM
 obtain rfl := il_nil hf7 htM
 rw [f104_L10] at h
 conv => whnf
 exact ⟨sG, vB, lL, ss h, rfl⟩
 obtain ⟨g5, rfl, hwg5, hpg5, hfg5⟩ := il_cons hf7 hpf7 htM hN0E
 rw [f104_L10] at h
 refine kc h ?_ ?_ <;> intro h
 refine kp h fun hb0G h => ?_
 conv => whnf
 exact ⟨g5, nls, g5, v9 + 1, _, (sG ++ sK), sK, lL, rfl, hfg5, hpg5, hwg5.symm, h, rfl⟩
 refine kL [(.x 0), (.x 1)] (h131 _ _ _ _ _ ?_ (sb h))
 rintro s02 v0H l0F h
 refine kp h fun hb0I h => ?_
 conv => whnf
 exact ⟨g5, nls, g5, v9 + 1, _, (sG ++ s02), s02, l0F, rfl, hfg5, hpg5, hwg5.symm, h, rfl⟩
 rintro _ ⟨sO, vP, lQ, h, rfl⟩
 replace h := hrRI _ h
 conv => whnf
 exact ⟨gZ, nls, gZ, sO, vP, lQ, rfl, h, rfl⟩
 rintro _ ⟨sU, vW, lY, h, rfl⟩
 replace h := hrRH _ h
 exact kR [] (ND 2) (hQ _ _ _ (ss h))
theorem w131 {O : Oracle TT} (fuel : Nat) (self82 : BA → Int → LI → Option BIL) (h61 : C61 O f61) (h82 : C82 O self82) (h153 : C153 O (f153 fuel)) : C131 (fun _ => vcF (S := SS) O j131) (b131 fuel self82) := by
 intro s7 v8 l9 Q R hQ h
 unfold b131 at h
 refine ⟨nle rfl, rfl, ?_⟩
 refine kg (sat_getB h) fun c5 hc5 h => ?_
 refine kc h ?_ ?_ <;> intro h
 refine kc h ?_ ?_ <;> intro h
 refine kc h ?_ ?_ <;> intro h
 refine kc h ?_ ?_ <;> intro h
 conv => whnf
 refine ⟨([(c5.toNat : Int)] : LI), rfl, ?_⟩
 exact kR [] (ND 2) (hQ _ _ _ (ss h))
 refine kg (sat_getB h) fun c6 hc6 h => ?_
 conv => whnf
 refine ⟨([(c6.toNat : Int)] : LI), rfl, ?_⟩
 exact kR [] (ND 2) (hQ _ _ _ (ss h))
 refine kL [(.x 0), (.x 1)] (h153 _ _ _ _ _ ?_ (sb h))
 rintro sA vB lC h
 exact kR [] (ND 2) (hQ _ _ _ (ss h))
 refine kL [(.x 1)] (h61 _ _ _ _ ?_ (sb h))
 rintro sF lG h
 exact kR [] (ND 2) (hQ _ _ _ (ss h))
 refine kL [(.x 0), (.x 1)] (h82 _ _ _ _ _ ?_ (sb h))
 rintro sH vI lJ h
 exact kR [] (ND 2) (hQ _ _ _ (ss h))
theorem cg82 {P : Program} {fid : Nat → FuncId} (mx : MX P) (k82 : KF P fid 82 j82) (k104 : KF P fid 104 j104) (k131 : KF P fid 131 j131) (h15 : C15 (SP P fid) f15) (h61 : C61 (SP P fid) f61) (h153 : ∀ n, C153 (SP P fid) (f153 n)) : ∀ n, C82 (SP P fid) (f82 n) ∧ C104 (SP P fid) (f104 n) ∧ C131 (SP P fid) (f131 n) := by
 intro n
 induction n with
 | zero => exact ⟨fun a0 a5 a6 Q R hQ h => (sat_none h).elim, fun a0 a5 a6 Q R hQ h => (sat_none h).elim, fun a0 a5 a6 Q R hQ h => (sat_none h).elim⟩
 | succ n ih =>
  obtain ⟨ih0, ih5, ih6⟩ := ih
  exact ⟨fun a0 a5 a6 Q R hQ h => spec_of_vc mx k82 (w82 n (f104 n) h15 ih5 a0 a5 a6 Q R hQ h), fun a0 a5 a6 Q R hQ h => spec_of_vc mx k104 (w104 n (f131 n) h15 ih6 a0 a5 a6 Q R hQ h), fun a0 a5 a6 Q R hQ h => spec_of_vc mx k131 (w131 n (f82 n) h61 ih0 (h153 n) a0 a5 a6 Q R hQ h)⟩
theorem c82 {P : Program} {fid : Nat → FuncId} (mx : MX P) (k82 : KF P fid 82 j82) (k104 : KF P fid 104 j104) (k131 : KF P fid 131 j131) (h15 : C15 (SP P fid) f15) (h61 : C61 (SP P fid) f61) (h153 : ∀ n, C153 (SP P fid) (f153 n)) : ∀ n, C82 (SP P fid) (f82 n) := fun n => (cg82 mx k82 k104 k131 h15 h61 h153 n).1
def f65 (fuel : Nat) : BA → LI → Option (BA × LI)
 | s5, l6 => (f82 fuel s5 (0 : Int) l6).bind fun (s7, v9, l8) => some (s7, l8)
def C65 (O : Oracle TT) (m : BA → LI → Option (BA × LI)) : Prop :=
 ∀ s3 l4 (Q : (BA × LI) → Prop) (R : RR) (_ : ∀ s5 l6, Q (s5, l6) → R (sD s5) [eV (.x 0) [.isl .int l6]]) (_ : sat (m s3 l4) Q), O 65 [sD s3, pX 0] [eV (.x 0) [.isl .int l4]] R
def j65 : Fn TT := ⟨12, [.t 4], (sr [qm 4 sE] (sr [qm 6 0,qm 7 1,qo 8 (.build [.str eB, .int .i64 0, .nilp] [((0, 1), 6), ((2, 1), 7)]),qo 9 (.box 9 8),qm 5 9] (sr [qm 10 5,qo 11 (.call 11 82 [10]),qm 4 11] .ret)))⟩
theorem w65 {O : Oracle TT} (fuel : Nat) (h82 : C82 O (f82 fuel)) : C65 (fun _ => vcF (S := SS) O j65) (f65 fuel) := by
 intro s5 l6 Q R hQ h
 unfold f65 at h
 refine ⟨nle rfl, rfl, ?_⟩
 refine kL [(.s 9), (.x 0)] (h82 _ _ _ _ _ ?_ (sb h))
 rintro s7 v8 l9 h
 exact kR [] (ND 1) (hQ _ _ (ss h))
def f64 : Int → LI → Option (V × LI)
 | v5, l6 => cond (v5 == 1) ((f15 (2 : Int) l6).bind fun (v7, l8) => some ((V.mk v5 v7 (⟨#[]⟩ : BA) []), l8)) (cond (v5 == 2) ((f60 ([0, 1, 2, 3, 5, 9, (-1), 7] : LI) l6).bind fun (v9, lA) => some ((V.mk v5 v9 (⟨#[]⟩ : BA) []), lA)) (cond (v5 == 3) ((f60 ([0, 1, (-1), 4607182418800017408, (-4616189618054758400)] : LI) l6).bind fun (vB, lC) => some ((V.mk v5 vB (⟨#[]⟩ : BA) []), lC)) (cond (v5 == 4) ((f15 (6 : Int) l6).bind fun (vF, lG) => some ((V.mk v5 (wrap .i64 ((730000 : Int) + vF)) (⟨#[]⟩ : BA) []), lG)) (cond (v5 == 5) ((f61 ([(⟨#[]⟩ : BA), (⟨#[97]⟩ : BA), (⟨#[98]⟩ : BA), (⟨#[99]⟩ : BA), (⟨#[97, 98]⟩ : BA), (⟨#[98, 45, 99]⟩ : BA), (⟨#[122, 122]⟩ : BA), (⟨#[255, 0]⟩ : BA)] : LB) l6).bind fun (sH, lI) => some ((V.mk v5 0 sH []), lI)) (cond (v5 == 11) ((f15 (4 : Int) l6).bind fun (vJ, lK) => some ((V.mk v5 vJ (⟨#[]⟩ : BA) []), lK)) (some ((V.mk v5 0 (⟨#[]⟩ : BA) []), l6)))))))
def C64 (O : Oracle TT) (m : Int → LI → Option (V × LI)) : Prop :=
 ∀ v5 l6 (Q : (V × LI) → Prop) (R : RR) (_ : ∀ k7 n8 s9 fA lB, Q ((V.mk k7 n8 s9 fA), lB) → R (.agg [ci k7, ci n8, .str s9, .isl .fld fA]) [eV (.x 0) [.isl .int lB]]) (_ : sat (m v5 l6) Q), O 64 [iD v5, pX 0] [eV (.x 0) [.isl .int l6]] R
def j64 : Fn TT := ⟨44, [.cell 4 4 true], (sr [qo 4 (.alloc 4 zV)] (sr [qm 6 0,qo 7 (.build zV [((0, 1), 6)]),qo 5 (.alloc 5 zV),qp (.store 5 7 4)] (.seq (sr [qm 8 0] (.block 0 (sr [qo 10 (.bin .eql .num 8 (iC 1)),qm 9 10] (.cond 9 (.reg [qm 11 1,qo 12 (.call 12 15 [11, (iC 2)]),qo 13 (.fa 5 1),qp (.store 13 12 1)]) (.seq
 (.reg [qo 15 (.bin .eql .num 8 (iC 2)),qm 14 15]) (.cond 14 (.reg [qm 16 1,qo 17 (.bsl .int [(iC 0), (iC 1), (iC 2), (iC 3), (iC 5), (iC 9), (iC (-1)), (iC 7)]),qo 18 (.call 18 60 [16, 17]),qo 19 (.fa 5 1),qp (.store 19 18 1)]) (sr [qo 21 (.bin .eql .num 8 (iC 3)),qm 20 21] (.cond 20 (.reg [qm 22 1,
 qo 23 (.bsl .int [(iC 0), (iC 1), (iC (-1)), (iC 4607182418800017408), (iC (-4616189618054758400))]),qo 24 (.call 24 60 [22, 23]),qo 25 (.fa 5 1),qp (.store 25 24 1)]) (sr [qo 27 (.bin .eql .num 8 (iC 4)),qm 26 27] (.cond 26 (.reg [qm 28 1,qo 29 (.call 29 15 [28, (iC 6)]),qo 30 (.bin .add .num (iC 730000) 29),qo 31 (.fa 5 1),qp (.store 31 30 1)]) (.seq
 (.reg [qo 33 (.bin .eql .num 8 (iC 5)),qm 32 33]) (.cond 32 (.reg [qm 34 1,qo 35 (.bsl .str [sE, (.c (.str (⟨#[97]⟩ : BA))), (.c (.str (⟨#[98]⟩ : BA))), (.c (.str (⟨#[99]⟩ : BA))), (.c (.str (⟨#[97, 98]⟩ : BA))), (.c (.str (⟨#[98, 45, 99]⟩ : BA))), (.c (.str (⟨#[122, 122]⟩ : BA))), (.c (.str (⟨#[255, 0]⟩ : BA)))]),
 qo 36 (.call 36 61 [34, 35]),qo 37 (.fa 5 2),qp (.store 37 36 1)]) (sr [qo 39 (.bin .eql .num 8 (iC 11)),qm 38 39] (.cond 38 (.reg [qm 40 1,qo 41 (.call 41 15 [40, (iC 4)]),qo 42 (.fa 5 1),qp (.store 42 41 1)]) .skip)))))))))))))) (sr [qo 43 (.load 5 4 true),qp (.store 4 43 4)] .ret))))⟩
theorem w64 {O : Oracle TT} (h15 : C15 O f15) (h61 : C61 O f61) (h60 : C60 O f60) : C64 (fun _ => vcF (S := SS) O j64) f64 := by
 intro v5 l6 Q R hQ h
 unfold f64 at h
 refine ⟨nle rfl, rfl, ?_⟩
 refine kc h ?_ ?_ <;> intro h
 refine kc h ?_ ?_ <;> intro h
 refine kc h ?_ ?_ <;> intro h
 refine kc h ?_ ?_ <;> intro h
 refine kc h ?_ ?_ <;> intro h
 refine kc h ?_ ?_ <;> intro h
 exact kR [] (ND 1) (hQ _ _ _ _ _ (ss h))
 refine kL [(.x 0)] (h15 _ _ _ _ ?_ (sb h))
 rintro v7 l8 h
 exact kR [] (ND 1) (hQ _ _ _ _ _ (ss h))
 refine kL [(.x 0)] (h61 _ _ _ _ ?_ (sb h))
 rintro s9 lA h
 exact kR [] (ND 1) (hQ _ _ _ _ _ (ss h))
 refine kL [(.x 0)] (h15 _ _ _ _ ?_ (sb h))
 rintro vB lC h
 exact kR [] (ND 1) (hQ _ _ _ _ _ (ss h))
 refine kL [(.x 0)] (h60 _ _ _ _ ?_ (sb h))
 rintro vF lG h
 exact kR [] (ND 1) (hQ _ _ _ _ _ (ss h))
 refine kL [(.x 0)] (h60 _ _ _ _ ?_ (sb h))
 rintro vH lI h
 exact kR [] (ND 1) (hQ _ _ _ _ _ (ss h))
 refine kL [(.x 0)] (h15 _ _ _ _ ?_ (sb h))
 rintro vJ lK h
 exact kR [] (ND 1) (hQ _ _ _ _ _ (ss h))
def f42_L4 (self42 : PT → Tp → Int → LI → Option (V × LI)) (l9 : PT) (vA : Int) (psB : PT) (v7 : Int) : Nat → Int → FV → LI → Option (Sum (V × LI) (Int × BA × LI × FV))
 | 0, v5, l6, l8 => some (.inr (0, (⟨#[]⟩ : BA), l8, l6))
 | gI + 1, v5, l6, l8 => getL psB 0 fun uuJ => match uuJ with | (aV, .mk kK mM loN hiO pP psQ) => (self42 l9 (Tp.mk kK mM loN hiO pP psQ) (wrap .i64 (vA + 1)) l8).bind fun ((.mk kC nF sG fH), lU) => grdP (l6.length + ([((strOfNums ([(wrap .u8 ((97 : Int) + (wrap .u8 (wrap .i64 (v7 + v5)))))] : LI)), (V.mk kC nF sG fH))] : FV).length ≤ 68719476736) (f42_L4 self42 l9 vA psB v7 gI (v5 + 1) (l6 ++ ([((strOfNums ([(wrap .u8 ((97 : Int) + (wrap .u8 (wrap .i64 (v7 + v5)))))] : LI)), (V.mk kC nF sG fH))] : FV)) lU)
def f42_L5 (self42 : PT → Tp → Int → LI → Option (V × LI)) (l7 : PT) (v8 : Int) (ps9 : PT) : Nat → Int → FV → LI → Option (Sum (V × LI) (Int × BA × LI × FV))
 | 0, vA, l5, l6 => some (.inr (0, (⟨#[]⟩ : BA), l6, l5))
 | gH + 1, vA, l5, l6 => getL ps9 0 fun uuI => match uuI with | (aU, .mk kJ mK loM hiN pO psP) => (self42 l7 (Tp.mk kJ mK loM hiN pO psP) (wrap .i64 (v8 + 1)) l6).bind fun ((.mk kB nC sF fG), lQ) => grdP (l5.length + ([((⟨#[]⟩ : BA), (V.mk kB nC sF fG))] : FV).length ≤ 68719476736) (f42_L5 self42 l7 v8 ps9 gH (vA + 1) (l5 ++ ([((⟨#[]⟩ : BA), (V.mk kB nC sF fG))] : FV)) lQ)
def f42_L6 (self42 : PT → Tp → Int → LI → Option (V × LI)) (l7 : PT) (v8 : Int) : PT → Nat → FV → LI → Option (Sum (V × LI) (Int × BA × LI × FV))
 | [], j9, l5, l6 => some (.inr (0, (⟨#[]⟩ : BA), l6, l5))
 | ((aA, .mk kH mI loJ hiK pM psN)) :: tlO, j9, l5, l6 => (self42 l7 (Tp.mk kH mI loJ hiK pM psN) (wrap .i64 (v8 + 1)) l6).bind fun ((.mk kB nC sF fG), lP) => grdP (l5.length + ([(aA, (V.mk kB nC sF fG))] : FV).length ≤ 68719476736) (f42_L6 self42 l7 v8 tlO (j9 + 1) (l5 ++ ([(aA, (V.mk kB nC sF fG))] : FV)) lP)
def b42 (fuel : Nat) (self42 : PT → Tp → Int → LI → Option (V × LI)) : PT → Tp → Int → LI → Option (V × LI)
 | lB, .mk kI mJ loK hiM pN psO, v9, l6 => (f63 lB (Tp.mk kI mJ loK hiM pN psO)).bind fun (.mk k7 m0T lo5 hi8 pP psA) => sbind (ο := Int × BA × LI × FV) (sbind (ο := Bool) (cond (k7 == 1) (some (.inr true)) (cond (k7 == 2) (some (.inr true)) (cond (k7 == 4) (some (.inr true)) (some (.inr false))))) (fun qQ => cond qQ ((f15 (wrap .i64 ((if 12 < (wrap .i64 (hi8 - lo5)) then 12 else (wrap .i64 (hi8 - lo5))) + 1)) l6).bind fun (vU, lV) => (f15 (4 : Int) lV).bind fun (vW, lF) => cond (vW == 0) (some (.inr (hi8, (⟨#[]⟩ : BA), lF, []))) (some (.inr ((wrap .i64 (lo5 + vU)), (⟨#[]⟩ : BA), lF, [])))) (cond (k7 == 3) ((f64 (3 : Int) l6).bind fun ((.mk k0U nY s0V f0W), lZ) => some (.inr (nY, (⟨#[]⟩ : BA), lZ, []))) (cond (k7 == 5) ((f65 fuel pP l6).bind fun (s00, l01) => some (.inr (0, s00, l01, []))) (cond (k7 == 6) (f42_L6 self42 lB v9 psA 0 [] l6) (cond (k7 == 7) (sbind (ο := Int × LI) (cond (decide (v9 < 8)) ((f15 ((psA.length : Nat) : Int) l6).bind fun (v02, l03) => some (.inr (v02, l03))) (some (.inr (0, l6)))) (fun (vG, l04) => getL psA vG fun uu05 => match uu05 with | (a06, .mk k0X m0Y lo0Z hi10 p11 ps12) => getL psA vG fun uu07 => match uu07 with | (a13, .mk k08 m09 lo0A hi0B p0C ps0D) => (self42 lB (Tp.mk k08 m09 lo0A hi0B p0C ps0D) (wrap .i64 (v9 + 1)) l04).bind fun ((.mk k0E n0F s0G f0H), l0I) => some (.inr (0, (⟨#[]⟩ : BA), l0I, ([(a06, (V.mk k0E n0F s0G f0H))] : FV))))) (cond (k7 == 8) (sbind (ο := Int × LI) (cond (decide (v9 < 4)) ((f15 (wrap .i64 ((if 3 < (wrap .i64 (hi8 - lo5)) then 3 else (wrap .i64 (hi8 - lo5))) + 1)) l6).bind fun (v0J, l0K) => some (.inr ((wrap .i64 (lo5 + v0J)), l0K))) (some (.inr (lo5, l6)))) (fun (vH, l0L) => grdP (vH ≤ 9223372036854775807) (f42_L5 self42 lB v9 psA (vH - 0).toNat 0 [] l0L))) (cond (k7 == 9) ((f15 (wrap .i64 ((if 3 < (wrap .i64 (hi8 - lo5)) then 3 else (wrap .i64 (hi8 - lo5))) + 1)) l6).bind fun (vC, l0M) => (f15 (if (wrap .i64 ((6 : Int) - (wrap .i64 (lo5 + vC)))) > 1 then (wrap .i64 ((6 : Int) - (wrap .i64 (lo5 + vC)))) else 1) l0M).bind fun (v0N, l0O) => grdP ((wrap .i64 (lo5 + vC)) ≤ 9223372036854775807) (f42_L4 self42 lB v9 psA v0N ((wrap .i64 (lo5 + vC)) - 0).toNat 0 [] l0O)) (some (.inr (0, (⟨#[]⟩ : BA), l6, []))))))))))) (fun (v0P, s0Q, l0R, l0S) => some ((V.mk k7 v0P s0Q l0S), l0R))
def f42 : Nat → PT → Tp → Int → LI → Option (V × LI)
 | 0 => fun _ _ _ _ => none
 | n + 1 => b42 n (f42 n)
def C42 (O : Oracle TT) (m : PT → Tp → Int → LI → Option (V × LI)) : Prop :=
 ∀ l5 k6 m7 lo8 hi9 pA psB vC lF (Q : (V × LI) → Prop) (R : RR) (_ : ∀ kG nH sI fJ lK, Q ((V.mk kG nH sI fJ), lK) → R (.agg [ci kG, ci nH, .str sI, .isl .fld fJ]) [eV (.x 0) [.isl .int lK]]) (_ : sat (m l5 (Tp.mk k6 m7 lo8 hi9 pA psB) vC lF) Q), O 42 [.c (.isl .dfn l5), .agg [ci k6, .str m7, ci lo8, ci hi9, .str pA, .isl .part psB], pX 0, iD vC] [eV (.x 0) [.isl .int lF]] R
def j42 : Fn TT := ⟨200, [.cell 8 4 true], (sr [qo 5 (.box 5 1),qo 8 (.alloc 8 zV)] (sr [qm 17 0,qo 18 (.load 5 6 true),qo 19 (.call 19 63 [17, 18]),qp (.store 5 19 6)] (sr [qo 20 (.fa 5 0),qo 21 (ld 20),qo 22 (.build [.int .i64 0, .int .i64 0, .str eB, .nils] [((0, 1), 21)]),qo 9 (.alloc 9 zV),qp (.store 9 22 4)]
 (.cut [8, 9] [(.s 8), (.s 9), (.x 0), (.sub (.sub (.s 9) 1037) 3)] (.aft (sr [qo 23 (.fa 5 0),qo 24 (ld 23)] (.block 0 (.cut [0, 2, 3, 5, 8, 9, 24, 25] [(.x 0), (.s 5), (.s 8), (.s 9)] (sr [qo 26 (.bin .eql .num 24 (iC 1)),qm 25 26] (.cond 25 .skip (sr [qo 27 (.bin .eql .num 24 (iC 2)),qm 25 27] (.cond 25 .skip
 (.reg [qo 28 (.bin .eql .num 24 (iC 4)),qm 25 28]))))) (.cond 25 (.seq (.drw [(.x 0)] (oR 14) [13] [0, 1, 2, 3, 4, 5, 6, 7, 8, 9, 11, 12] [qo 29 (.fa 5 2),qo 30 (ld 29),qm 31 2,qo 32 (.fa 5 3),qo 33 (ld 32),qo 34 (.fa 5 2),qo 35 (ld 34),qo 36 (.bin .sub .num 33 35),qo 37 (.mn [36, (iC 12)]),qo 38 (.bin .add .num 37 (iC 1)),
 qo 39 (.call 39 15 [31, 38]),qo 40 (.bin .add .num 30 39),qo 41 (.fa 9 1),qp (.store 41 40 1)]) (sr [qm 42 2,qo 43 (.call 43 15 [42, (iC 4)]),qo 44 (.bin .eql .num 43 (iC 0))] (.cond 44 (.reg [qo 45 (.fa 5 3),qo 46 (ld 45),qo 47 (.fa 9 1),qp (.store 47 46 1)]) .skip))) (sr [qo 49 (.bin .eql .num 24 (iC 3)),qm 48 49] (.cond 48 (.reg [qm 50 2,
 qo 51 (.call 51 64 [(iC 3), 50]),qo 52 (.fld 51 1 1 false),qo 53 (.fa 9 1),qp (.store 53 52 1)]) (sr [qo 55 (.bin .eql .num 24 (iC 5)),qm 54 55] (.cond 54 (.reg [qo 56 (.fa 5 4),qo 57 (ld 56),qm 58 2,qo 59 (.call 59 65 [57, 58]),qo 60 (.fa 9 2),qp (.store 60 59 1)]) (sr [qo 62 (.bin .eql .num 24 (iC 6)),qm 61 62] (.cond 61 (.seq
 (.reg [qo 63 (.fa 5 5),qo 64 (ld 63),qo 65 (.len false 64),qo 66 (.mv (iC 0))]) (.block 1 (.pre [.ownc (.s 9) 3 .fld (.sub (.sub (.s 9) 600) 3)] (.loop (.keep [0, 2, 3, 8, 9, 64, 65, 66] [(.x 0), (.s 8), (.s 9), (.sub (.sub (.s 9) 600) 3)] (.aft (sr [qo 67 (.bin .lss .num 66 65)] (.seq (.cond 67 .skip (.exit 1)) (.seq (.block 2 (sr [qo 68 (.idxA 64 66 7),
 qo 69 (.load 68 7 true),qo 11 (.alloc 11 zPt),qp (.store 11 69 7)] (.drw [(.x 0), (.sub (.sub (.s 9) 600) 3)] (oR 16) [15] [0, 1, 2, 3, 4, 5, 6, 7, 8, 9, 11, 14] [qo 70 (.fa 9 3),qo 71 (ld 70),qo 72 (.fa 11 0),qo 73 (ld 72),qm 74 0,qo 75 (.fa 11 1),qo 76 (.load 75 6 true),qm 77 2,qm 78 3,qo 79 (.bin .add .num 78 (iC 1)),
 qo 80 (.call 80 42 [74, 76, 77, 79]),qo 81 (.build zFd [((0, 1), 73), ((1, 4), 80)]),qo 82 (.bsl .fld [81]),qo 83 (.app 83 .fld 68719476736 71 82),qo 84 (.fa 9 3),qp (.store 84 83 1)]))) (.reg [qo 85 (.bin .add .num 66 (iC 1)),qm 66 85])))) [.keep [0, 2, 3, 8, 9, 64, 65, 66] [(.x 0), (.s 8), (.s 9), (.s 83)], .ownc (.s 9) 3 .fld (.sub (.sub (.s 9) 600) 3)])))))) (.seq
 (.reg [qo 87 (.bin .eql .num 24 (iC 7)),qm 86 87]) (.cond 86 (sr [qo 12 (.mv (iC 0))] (.cut [0, 2, 3, 5, 8, 9, 12] [(.x 0), (.s 5), (.s 8), (.s 9)] (sr [qm 88 3,qo 89 (.bin .lss .num 88 (iC 8))] (.cond 89 (.reg [qm 90 2,qo 91 (.fa 5 5),qo 92 (ld 91),qo 93 (.len false 92),qo 94 (.call 94 15 [90, 93]),qm 12 94]) .skip))
 (.drw [(.x 0)] (oR 21) [20] [0, 1, 2, 3, 4, 5, 6, 7, 8, 9, 10, 11, 12, 13, 14, 15, 17, 19] [qo 95 (.fa 5 5),qo 96 (ld 95),qm 97 12,qo 98 (.idxA 96 97 7),qo 99 (.fa 98 0),qo 100 (ld 99),qm 101 0,qo 102 (.fa 5 5),qo 103 (ld 102),qm 104 12,qo 105 (.idxA 103 104 7),qo 106 (.fa 105 1),qo 107 (.load 106 6 true),qm 108 2,
 qm 109 3,qo 110 (.bin .add .num 109 (iC 1)),qo 111 (.call 111 42 [101, 107, 108, 110]),qo 112 (.build zFd [((0, 1), 100), ((1, 4), 111)]),qo 113 (.bslice 113 .fld [112]),qo 114 (.fa 9 3),qp (.store 114 113 1)]))) (sr [qo 116 (.bin .eql .num 24 (iC 8)),qm 115 116] (.cond 115 (sr [qo 117 (.fa 5 2),qo 118 (ld 117),qm 13 118]
 (.cut [0, 2, 3, 5, 8, 9, 13] [(.x 0), (.s 5), (.s 8), (.s 9)] (sr [qm 119 3,qo 120 (.bin .lss .num 119 (iC 4))] (.cond 120 (.reg [qm 121 13,qm 122 2,qo 123 (.fa 5 3),qo 124 (ld 123),qo 125 (.fa 5 2),qo 126 (ld 125),qo 127 (.bin .sub .num 124 126),qo 128 (.mn [127, (iC 3)]),qo 129 (.bin .add .num 128 (iC 1)),
 qo 130 (.call 130 15 [122, 129]),qo 131 (.bin .add .num 121 130),qm 13 131]) .skip)) (sr [qm 132 13,qo 133 (.mv (iC 0))] (.block 3 (.pre [.ownc (.s 9) 3 .fld (.sub (.sub (.s 9) 601) 3)] (.loop (.keep [0, 2, 3, 5, 8, 9, 132, 133] [(.x 0), (.s 5), (.s 8), (.s 9), (.sub (.sub (.s 9) 601) 3)] (.aft (sr [qo 134 (.bin .lss .num 133 132)] (.seq (.cond 134 .skip (.exit 3))
 (.seq (.block 4 (.drw [(.x 0), (.sub (.sub (.s 9) 601) 3)] (oR 17) [16] [0, 1, 2, 3, 4, 5, 6, 7, 8, 9, 10, 12, 15] [qo 135 (.fa 9 3),qo 136 (ld 135),qm 137 0,qo 138 (.fa 5 5),qo 139 (ld 138),qo 140 (.idxA 139 (iC 0) 7),qo 141 (.fa 140 1),qo 142 (.load 141 6 true),qm 143 2,qm 144 3,qo 145 (.bin .add .num 144 (iC 1)),
 qo 146 (.call 146 42 [137, 142, 143, 145]),qo 147 (.build zFd [((1, 4), 146)]),qo 148 (.bsl .fld [147]),qo 149 (.app 149 .fld 68719476736 136 148),qo 150 (.fa 9 3),qp (.store 150 149 1)])) (.reg [qo 151 (.bin .add .num 133 (iC 1)),qm 133 151])))) [.keep [0, 2, 3, 5, 8, 9, 132, 133] [(.x 0), (.s 5), (.s 8), (.s 9), (.s 149)], .ownc (.s 9) 3 .fld (.sub (.sub (.s 9) 601) 3)])))))))) (.seq
 (.reg [qo 153 (.bin .eql .num 24 (iC 9)),qm 152 153]) (.cond 152 (.seq (.drw [(.x 0)] (oR 13) [] [0, 1, 2, 3, 4, 5, 6, 7, 8, 9, 11, 12] [qo 154 (.fa 5 2),qo 155 (ld 154),qm 156 2,qo 157 (.fa 5 3),qo 158 (ld 157),qo 159 (.fa 5 2),qo 160 (ld 159),qo 161 (.bin .sub .num 158 160),qo 162 (.mn [161, (iC 3)]),qo 163 (.bin .add .num 162 (iC 1)),
 qo 164 (.call 164 15 [156, 163]),qo 165 (.bin .add .num 155 164),qm 14 165]) (sr [qm 166 2,qm 167 14,qo 168 (.bin .sub .num (iC 6) 167),qo 169 (.mx [(iC 1), 168]),qo 170 (.call 170 15 [166, 169]),qm 15 170] (sr [qm 171 14,qo 172 (.mv (iC 0))] (.block 5 (.pre [.ownc (.s 9) 3 .fld (.sub (.sub (.s 9) 602) 3)]
 (.loop (.keep [0, 2, 3, 5, 8, 9, 15, 171, 172] [(.x 0), (.s 5), (.s 8), (.s 9), (.sub (.sub (.s 9) 602) 3)] (.aft (sr [qo 173 (.bin .lss .num 172 171)] (.seq (.cond 173 .skip (.exit 5)) (.seq (.block 6 (sr [qm 174 172,qm 16 174]
 (.drw [(.x 0), (.sub (.sub (.s 9) 602) 3)] (.go 0 (.go 1 (.go 2 (.go 3 (.go 4 (.go 5 (.go 6 (.go 9 (.go 10 (.go 11 (.go 12 (.go 13 (.go 14 (.go 15 (.go 16 (.go 17 (.alt 7 (.alt 8 (.go 18 (.go 19 (.go 20 (.go 21 (.go 22 (.go 23 .nil)))))) 18 (.go 8 (.go 19 (.go 20 (.go 21 (.go 22 (.go 23 .nil))))))) 18 (.go 7 (.go 8 (.go 19 (.go 20 (.go 21 (.go 22 (.go 23 .nil)))))))))))))))))))))))) [23] [0, 1, 2, 3, 4, 5, 6, 9, 10, 11, 12, 13, 14, 15, 16, 17, 19, 22] [qo 175 (.fa 9 3),
 qo 176 (ld 175),qm 177 15,qm 178 16,qo 179 (.bin .add .num 177 178),qo 180 (.conv .u8 179),qo 181 (.bin .add .num (.c (.int .u8 97)) 180),qo 182 (.bsl .u8 [181]),qo 183 (.b2s 182),qm 184 0,qo 185 (.fa 5 5),qo 186 (ld 185),qo 187 (.idxA 186 (iC 0) 7),qo 188 (.fa 187 1),qo 189 (.load 188 6 true),qm 190 2,qm 191 3,
 qo 192 (.bin .add .num 191 (iC 1)),qo 193 (.call 193 42 [184, 189, 190, 192]),qo 194 (.build zFd [((0, 1), 183), ((1, 4), 193)]),qo 195 (.bsl .fld [194]),qo 196 (.app 196 .fld 68719476736 176 195),qo 197 (.fa 9 3),qp (.store 197 196 1)]))) (.reg [qo 198 (.bin .add .num 172 (iC 1)),
 qm 172 198])))) [.keep [0, 2, 3, 5, 8, 9, 15, 171, 172] [(.x 0), (.s 5), (.s 8), (.s 9), (.s 196)], .ownc (.s 9) 3 .fld (.sub (.sub (.s 9) 602) 3)])))))))) .skip)))))))))))))))) [.ownc (.s 9) 3 .fld (.sub (.sub (.s 9) 1037) 3)]) (sr [qo 199 (.load 9 4 true),qp (.store 8 199 4)] (.pre [.frzc (.s 8) 3 .fld] .ret))))))⟩
theorem w42 {O : Oracle TT} (fuel : Nat) (self42 : PT → Tp → Int → LI → Option (V × LI)) (h15 : C15 O f15) (h42 : C42 O self42) (h63 : C63 O f63) (h65 : C65 O (f65 fuel)) (h64 : C64 O f64) : C42 (fun _ => vcF (S := SS) O j42) (b42 fuel self42) := by
 intro lB k24 m25 lo26 hi27 p28 ps29 vC lW Q R hQ h
 unfold b42 at h
 refine ⟨nle rfl, rfl, ?_⟩
 refine kL [] (h63 _ _ _ _ _ _ _ _ _ ?_ (sb h))
 rintro k8 mY loA hiO pZ ps9 h
 obtain ⟨RK, h, aK, hrRK⟩ := sc h
 refine kX (fun σ => ∃ (v0E : Int) (s0F : BA) (l0G : LI) (l04 : FV) (n0K : Nat), n0K = l04.length ∧ RK (.inr (v0E, s0F, l0G, l04)) ∧ σ = ⟨[pT 8, pT 9], [eV (.s 8) zV, eV (.s 9) [ci k8, ci v0E, .str s0F, .osl (.sub (.sub (.s 9) 1037) 3) 0 n0K], eV (.x 0) [.isl .int l0G], (.sub (.sub (.s 9) 1037) 3, (eR .fld l04))]⟩) ?_ ?_
 obtain ⟨R05, h, a05, hrR05⟩ := sc h
 refine kX (fun σ => ∃ q06, R05 (.inr q06) ∧ σ = ⟨[(0, .c (.isl .dfn lB)), (2, pX 0), (3, iD vC), pT 5, pT 8, pT 9, (24, iD k8), (25, bD q06)], [eV (.x 0) [.isl .int lW], eV (.s 5) [ci k8, .str mY, ci loA, ci hiO, .str pZ, .isl .part ps9], eV (.s 8) zV, eV (.s 9) [ci k8, ci 0, .str eB, .nils]]⟩) ?_ ?_
 refine kc h ?_ ?_ <;> intro h
 refine kc h ?_ ?_ <;> intro h
 refine kc h ?_ ?_ <;> intro h
 conv => whnf
 exact ⟨false, ss h, rfl⟩
 conv => whnf
 exact ⟨true, ss h, rfl⟩
 conv => whnf
 exact ⟨true, ss h, rfl⟩
 conv => whnf
 exact ⟨true, ss h, rfl⟩
 rintro _ ⟨q06, h, rfl⟩
 replace h := hrR05 _ h
 cases q06
 replace h := cf h
 refine kc h ?_ ?_ <;> intro h
 refine kc h ?_ ?_ <;> intro h
 refine kc h ?_ ?_ <;> intro h
 refine kc h ?_ ?_ <;> intro h
 refine kc h ?_ ?_ <;> intro h
 refine kc h ?_ ?_ <;> intro h
 conv => whnf
 exact ⟨(0 : Int), eB, lW, [], _, LN, ss h, rfl⟩
 refine kL [(.x 0)] (h15 _ _ _ _ ?_ (sb h))
 rintro v0H l2A h
 refine kL [(.x 0)] (h15 _ _ _ _ ?_ (sb h))
 rintro vH l0U h
 obtain ⟨hN0V, h⟩ := sat_grdP h
 refine kX (fun σ n => ∃ (fF : Nat) (v6 : Int) (z : Int) (lI : FV) (l07 : LI) (n0L : Nat), fF = n ∧ fF = ((wrap .i64 (loA + v0H)) - v6).toNat ∧ 0 ≤ v6 ∧ v6 = z ∧ n0L = lI.length ∧ sat (f42_L4 self42 lB vC ps9 vH fF v6 lI l07) RK ∧ σ.keep [0, 2, 3, 5, 8, 9, 15, 171, 172] [(.x 0), (.s 5), (.s 8), (.s 9), (.sub (.sub (.s 9) 602) 3)] = ⟨[(0, .c (.isl .dfn lB)), (2, pX 0), (3, iD vC), pT 5, pT 8, pT 9, (15, iD vH), (171, iD (wrap .i64 (loA + v0H))), (172, iD z)], [eV (.x 0) [.isl .int l07], eV (.s 5) [ci k8, .str mY, ci loA, ci hiO, .str pZ, .isl .part ps9], eV (.s 8) zV, eV (.s 9) [ci k8, ci 0, .str eB, .osl (.sub (.sub (.s 9) 602) 3) 0 n0L], (.sub (.sub (.s 9) 602) 3, (eR .fld lI))]⟩) ⟨_, _, 0, _, [], l0U, _, rfl, rfl, (by decide), rfl, LN, h, rfl⟩ ?_
 rintro σ n ⟨fF, v6, _, lI, l07, _, rfl, hfF, hpfF, rfl, rfl, h, hσ⟩
 refine kk hσ ?_
 intro t00 (ht00 : t00 = decide (v6 < (wrap .i64 (loA + v0H))))
 cases t00
 obtain rfl := il_nil hfF ht00
 rw [f42_L4] at h
 conv => whnf
 exact ⟨(0 : Int), eB, l07, lI, _, LN, ss h, rfl⟩
 obtain ⟨g5, rfl, hwg5, hpg5, hfg5⟩ := il_cons hfF hpfF ht00 hN0V
 rw [f42_L4] at h
 refine kg (sat_getL h) fun uu0M huu0M h => ?_
 obtain ⟨a2B, ⟨k2C, m2D, lo2E, hi2F, p2G, ps2H⟩⟩ := uu0M
 conv => whnf
 refine ⟨?_, ?_⟩
 conv => whnf
 refine ⟨?_, ?_⟩
 conv => whnf
 refine ⟨([(wrap .u8 ((97 : Int) + (wrap .u8 (wrap .i64 (vH + v6)))))] : LI), rfl, ?_⟩
 refine kL [(.x 0)] (h42 _ _ _ _ _ _ _ _ _ _ _ ?_ (sb h))
 rintro k0W n0X s0Y f0Z l10 h
 conv => whnf
 refine ⟨LN, rfl, ?_⟩
 conv => whnf
 refine ⟨rfl, ?_⟩
 refine kp h fun hb2I h => ?_
 conv => whnf
 exact ⟨g5, nls, g5, v6 + 1, _, (lI ++ ([((strOfNums ([(wrap .u8 ((97 : Int) + (wrap .u8 (wrap .i64 (vH + v6)))))] : LI)), (V.mk k0W n0X s0Y f0Z))] : FV)), l10, _, rfl, hfg5, hpg5, hwg5.symm, LN, h, rfl⟩
 refine kL [(.x 0)] (h42 _ _ _ _ _ _ _ _ _ _ _ ?_ (sb h))
 rintro k11 n12 s13 f14 l15 h
 conv => whnf
 refine ⟨([(wrap .u8 ((97 : Int) + (wrap .u8 (wrap .i64 (vH + v6)))))] : LI), rfl, ?_⟩
 conv => whnf
 refine ⟨LN, rfl, ?_⟩
 conv => whnf
 refine ⟨rfl, ?_⟩
 refine kp h fun hb2J h => ?_
 conv => whnf
 exact ⟨g5, nls, g5, v6 + 1, _, (lI ++ ([((strOfNums ([(wrap .u8 ((97 : Int) + (wrap .u8 (wrap .i64 (vH + v6)))))] : LI)), (V.mk k11 n12 s13 f14))] : FV)), l15, _, rfl, hfg5, hpg5, hwg5.symm, LN, h, rfl⟩
 refine kL [(.x 0)] (h42 _ _ _ _ _ _ _ _ _ _ _ ?_ (sb h))
 rintro k17 n18 s19 f1A l1B h
 conv => whnf
 refine ⟨([(wrap .u8 ((97 : Int) + (wrap .u8 (wrap .i64 (vH + v6)))))] : LI), rfl, ?_⟩
 conv => whnf
 refine ⟨LN, rfl, ?_⟩
 conv => whnf
 refine ⟨rfl, ?_⟩
 refine kp h fun hb2K h => ?_
 conv => whnf
 exact ⟨g5, nls, g5, v6 + 1, _, (lI ++ ([((strOfNums ([(wrap .u8 ((97 : Int) + (wrap .u8 (wrap .i64 (vH + v6)))))] : LI)), (V.mk k17 n18 s19 f1A))] : FV)), l1B, _, rfl, hfg5, hpg5, hwg5.symm, LN, h, rfl⟩
 obtain ⟨R08, h, a08, hrR08⟩ := sc h
 refine kX (fun σ => ∃ vP l09, R08 (.inr (vP, l09)) ∧ σ = ⟨[(0, .c (.isl .dfn lB)), (2, pX 0), (3, iD vC), pT 5, pT 8, pT 9, (13, iD vP)], [eV (.x 0) [.isl .int l09], eV (.s 5) [ci k8, .str mY, ci loA, ci hiO, .str pZ, .isl .part ps9], eV (.s 8) zV, eV (.s 9) [ci k8, ci 0, .str eB, .nils]]⟩) ?_ ?_
 refine kc h ?_ ?_ <;> intro h
 conv => whnf
 exact ⟨loA, lW, ss h, rfl⟩
 refine kL [(.x 0)] (h15 _ _ _ _ ?_ (sb h))
 rintro v1C l1D h
 conv => whnf
 exact ⟨(wrap .i64 (loA + v1C)), l1D, ss h, rfl⟩
 rintro _ ⟨vP, l09, h, rfl⟩
 replace h := hrR08 _ h
 obtain ⟨hN1E, h⟩ := sat_grdP h
 refine kX (fun σ n => ∃ (fG : Nat) (vM : Int) (z : Int) (lQ : FV) (l0A : LI) (n0N : Nat), fG = n ∧ fG = (vP - vM).toNat ∧ 0 ≤ vM ∧ vM = z ∧ n0N = lQ.length ∧ sat (f42_L5 self42 lB vC ps9 fG vM lQ l0A) RK ∧ σ.keep [0, 2, 3, 5, 8, 9, 132, 133] [(.x 0), (.s 5), (.s 8), (.s 9), (.sub (.sub (.s 9) 601) 3)] = ⟨[(0, .c (.isl .dfn lB)), (2, pX 0), (3, iD vC), pT 5, pT 8, pT 9, (132, iD vP), (133, iD z)], [eV (.x 0) [.isl .int l0A], eV (.s 5) [ci k8, .str mY, ci loA, ci hiO, .str pZ, .isl .part ps9], eV (.s 8) zV, eV (.s 9) [ci k8, ci 0, .str eB, .osl (.sub (.sub (.s 9) 601) 3) 0 n0N], (.sub (.sub (.s 9) 601) 3, (eR .fld lQ))]⟩) ⟨_, _, 0, _, [], l09, _, rfl, rfl, (by decide), rfl, LN, h, rfl⟩ ?_
 rintro σ n ⟨fG, vM, _, lQ, l0A, _, rfl, hfG, hpfG, rfl, rfl, h, hσ⟩
 refine kk hσ ?_
 intro t01 (ht01 : t01 = decide (vM < vP))
 cases t01
 obtain rfl := il_nil hfG ht01
 rw [f42_L5] at h
 conv => whnf
 exact ⟨(0 : Int), eB, l0A, lQ, _, LN, ss h, rfl⟩
 obtain ⟨gJ, rfl, hwgJ, hpgJ, hfgJ⟩ := il_cons hfG hpfG ht01 hN1E
 rw [f42_L5] at h
 refine kg (sat_getL h) fun uu0O huu0O h => ?_
 obtain ⟨a2L, ⟨k2M, m2N, lo2O, hi2P, p2Q, ps2R⟩⟩ := uu0O
 refine kL [(.x 0)] (h42 _ _ _ _ _ _ _ _ _ _ _ ?_ (sb h))
 rintro k1F n1G s1H f1I l1J h
 conv => whnf
 refine ⟨LN, rfl, ?_⟩
 conv => whnf
 refine ⟨rfl, ?_⟩
 refine kp h fun hb2S h => ?_
 conv => whnf
 exact ⟨gJ, nls, gJ, vM + 1, _, (lQ ++ ([(eB, (V.mk k1F n1G s1H f1I))] : FV)), l1J, _, rfl, hfgJ, hpgJ, hwgJ.symm, LN, h, rfl⟩
 obtain ⟨R0B, h, a0B, hrR0B⟩ := sc h
 refine kX (fun σ => ∃ v0I l0J, R0B (.inr (v0I, l0J)) ∧ σ = ⟨[(0, .c (.isl .dfn lB)), (2, pX 0), (3, iD vC), pT 5, pT 8, pT 9, (12, iD v0I)], [eV (.x 0) [.isl .int l0J], eV (.s 5) [ci k8, .str mY, ci loA, ci hiO, .str pZ, .isl .part ps9], eV (.s 8) zV, eV (.s 9) [ci k8, ci 0, .str eB, .nils]]⟩) ?_ ?_
 refine kc h ?_ ?_ <;> intro h
 conv => whnf
 exact ⟨(0 : Int), lW, ss h, rfl⟩
 intro hl2T
 refine kL [(.x 0)] (h15 _ _ _ _ ?_ (sb h))
 rintro v1K l1L h
 conv => whnf
 exact ⟨v1K, l1L, ss h, rfl⟩
 rintro _ ⟨v0I, l0J, h, rfl⟩
 replace h := hrR0B _ h
 refine kg (sat_getL h) fun uu0P huu0P h => ?_
 obtain ⟨a1M, ⟨k2U, m2V, lo2W, hi2X, p2Y, ps2Z⟩⟩ := uu0P
 refine kg (sat_getL h) fun uu0Q huu0Q h => ?_
 obtain ⟨a30, ⟨k31, m32, lo33, hi34, p35, ps36⟩⟩ := uu0Q
 refine kL [(.x 0)] (h42 _ _ _ _ _ _ _ _ _ _ _ ?_ (sb h))
 rintro k1N n1O s1P f1Q l1R h
 conv => whnf
 exact ⟨(0 : Int), eB, l1R, ([(a1M, (V.mk k1N n1O s1P f1Q))] : FV), _, LN, ss h, rfl⟩
 intro hl1S
 refine kX (fun σ n => ∃ (remN : PT) (jU : Nat) (z : Int) (lV : FV) (l0C : LI) (n0R : Nat), n = remN.length ∧ ps9.drop jU = remN ∧ z = ((jU : Nat) : Int) ∧ n0R = lV.length ∧ sat (f42_L6 self42 lB vC remN jU lV l0C) RK ∧ σ.keep [0, 2, 3, 8, 9, 64, 65, 66] [(.x 0), (.s 8), (.s 9), (.sub (.sub (.s 9) 600) 3)] = ⟨[(0, .c (.isl .dfn lB)), (2, pX 0), (3, iD vC), pT 8, pT 9, (64, .c (.isl .part ps9)), (65, iD ((ps9.length : Nat) : Int)), (66, iD z)], [eV (.x 0) [.isl .int l0C], eV (.s 8) zV, eV (.s 9) [ci k8, ci 0, .str eB, .osl (.sub (.sub (.s 9) 600) 3) 0 n0R], (.sub (.sub (.s 9) 600) 3, (eR .fld lV))]⟩) ⟨_, ps9, 0, _, [], lW, _, rfl, rfl, rfl, LN, h, rfl⟩ ?_
 rintro σ n ⟨remN, jU, _, lV, l0C, _, rfl, hremN, rfl, rfl, h, hσ⟩
 refine kk hσ ?_
 intro t02 (ht02 : t02 = decide (((jU : Nat) : Int) < ((ps9.length : Nat) : Int)))
 cases t02
 obtain rfl := ll_nil hremN ht02
 rw [f42_L6] at h
 conv => whnf
 exact ⟨(0 : Int), eB, l0C, lV, _, LN, ss h, rfl⟩
 obtain ⟨x03, tl0D, rfl, hx03, htl0D⟩ := ll_cons hremN ht02
 obtain ⟨a1T, ⟨k37, m38, lo39, hi3A, p3B, ps3C⟩⟩ := x03
 rw [f42_L6] at h
 conv => whnf
 refine ⟨lx_bd hx03, fun uu0S huu0S => ?_⟩
 obtain rfl := lx_eq hx03 huu0S
 refine kL [(.x 0)] (h42 _ _ _ _ _ _ _ _ _ _ _ ?_ (sb h))
 rintro k1U n1V s1W f1X l1Y h
 conv => whnf
 refine ⟨LN, rfl, ?_⟩
 conv => whnf
 refine ⟨rfl, ?_⟩
 refine kp h fun hb3D h => ?_
 conv => whnf
 exact ⟨tl0D.length, nls, tl0D, jU + 1, _, (lV ++ ([(a1T, (V.mk k1U n1V s1W f1X))] : FV)), l1Y, _, rfl, htl0D, lx_wr hx03 hl1S, LN, h, rfl⟩
 refine kL [(.x 0)] (h65 _ _ _ _ ?_ (sb h))
 rintro s1Z l20 h
 conv => whnf
 exact ⟨(0 : Int), s1Z, l20, [], _, LN, ss h, rfl⟩
 refine kL [(.x 0)] (h64 _ _ _ _ ?_ (sb h))
 rintro k3E n21 s3F f3G l22 h
 conv => whnf
 exact ⟨n21, eB, l22, [], _, LN, ss h, rfl⟩
 replace h := ct h
 refine kL [(.x 0)] (h15 _ _ _ _ ?_ (sb h))
 rintro v23 l3H h
 refine kL [(.x 0)] (h15 _ _ _ _ ?_ (sb h))
 rintro v3I l0T h
 refine kc h ?_ ?_ <;> intro h
 conv => whnf
 exact ⟨(wrap .i64 (loA + v23)), eB, l0T, [], _, LN, ss h, rfl⟩
 conv => whnf
 exact ⟨hiO, eB, l0T, [], _, LN, ss h, rfl⟩
 rintro _ ⟨v0E, s0F, l0G, l04, _, rfl, h, rfl⟩
 replace h := hrRK _ h
 conv => whnf
 refine ⟨LN, ?_⟩
 exact kR [] (ND 1) (hQ _ _ _ _ _ (ss h))
theorem cg42 {P : Program} {fid : Nat → FuncId} (mx : MX P) (k42 : KF P fid 42 j42) (h15 : C15 (SP P fid) f15) (h63 : C63 (SP P fid) f63) (h65 : ∀ n, C65 (SP P fid) (f65 n)) (h64 : C64 (SP P fid) f64) : ∀ n, C42 (SP P fid) (f42 n) := by
 intro n
 induction n with
 | zero => exact fun a0 a5 a6 a7 a8 a9 aA aB aC Q R hQ h => (sat_none h).elim
 | succ n ih =>
  have ih0 := ih
  exact fun a0 a5 a6 a7 a8 a9 aA aB aC Q R hQ h => spec_of_vc mx k42 (w42 n (f42 n) h15 ih0 h63 (h65 n) h64 a0 a5 a6 a7 a8 a9 aA aB aC Q R hQ h)
theorem c42 {P : Program} {fid : Nat → FuncId} (mx : MX P) (k42 : KF P fid 42 j42) (h15 : C15 (SP P fid) f15) (h63 : C63 (SP P fid) f63) (h65 : ∀ n, C65 (SP P fid) (f65 n)) (h64 : C64 (SP P fid) f64) : ∀ n, C42 (SP P fid) (f42 n) := fun n => (cg42 mx k42 h15 h63 h65 h64 n)
def f79 : FV → Option (FV)
 | l => grdP (l.length ≤ 68719476736) (some l)
def C79 (O : Oracle TT) (m : FV → Option (FV)) : Prop :=
 ∀ l3 (Q : FV → Prop) (R : RR) (_ : ∀ (l0 : FV) (n0r : Nat) (_ : n0r = l0.length), Q l0 → R (.c (.osl (.x 0) 0 n0r)) [(.x 0, (eR .fld l0))]) (_ : sat (m l3) Q), O 79 [.c (.isl .fld l3)] [] R
def j79 : Fn TT := ⟨8, [.t 2], (sr [qo 2 (.mv (.c (.nils)))] (.seq (sr [qm 3 0,qo 4 (.bin .eql .slice 3 (.c (.nils)))] (.cond 4 (sr [qo 2 (.mv (.c (.nils)))] (.pre [.own 2 0 .fld (.sub (.sub (.s 2) 900) 0)] .ret)) .skip)) (sr [qo 5 (.bslice 5 .fld []),qm 6 0,qo 7 (.app 7 .fld 68719476736 5 6),qm 2 7]
 (.pre [.own 2 0 .fld (.sub (.sub (.s 2) 900) 0)] .ret))))⟩
theorem w79 {O : Oracle TT} : C79 (fun _ => vcF (S := SS) O j79) f79 := by
 intro l0 Q R hQ h
 unfold f79 at h
 obtain ⟨hb, h⟩ := sat_grdP h
 have hq := fun n e => hQ l0 n e (ss h)
 clear h hQ
 have key : ∀ (q : FV) (n : Nat), q = l0 → n = l0.length → R (.c (.osl (.x 0) 0 n)) [(.x 0, (eR .fld q))] := by rintro _ _ rfl hn; exact hq _ hn
 refine ⟨nle rfl, rfl, ?_⟩
 conv => whnf
 intro t (ht : l0 ≠ [] → t = false)
 cases t
 conv => whnf
 refine ⟨rfl, rfl, ?_⟩
 conv => whnf
 refine ⟨rfl, ?_⟩
 conv => whnf
 refine ⟨(by simpa using hb : ([] : FV).length + l0.length ≤ 68719476736), ?_⟩
 conv => whnf
 exact ⟨[(.sub (.sub (.s 2) 900) 0)], (by decide : (lX 0 ++ ([(.sub (.sub (.s 2) 900) 0)] : List Id)).Nodup), key _ _ (List.nil_append l0) (by simp)⟩
 have hn : l0 = [] := by rcases Classical.em (l0 = []) with h | h; exact h; cases ht h
 conv => whnf
 exact ⟨[(.sub (.sub (.s 2) 900) 0)], (by decide : (lX 0 ++ ([(.sub (.sub (.s 2) 900) 0)] : List Id)).Nodup), key _ _ hn.symm (by rw [hn]; rfl)⟩
def f57_L2 (self57 : V → Option (V)) : Nat → Int → FV → Option (Sum (V) (FV))
 | 0, v5, l6 => some (.inr l6)
 | g7 + 1, v5, l6 => grdP ((0 : Int) ≤ v5 ∧ v5 < ((l6.length : Nat) : Int)) (getN l6 (0 + v5.toNat) fun uu8 => match uu8 with | (aM, .mk k9 nA sB fC) => (self57 (V.mk k9 nA sB fC)).bind fun (.mk kF nG sH fI) => grdP ((0 : Int) ≤ v5 ∧ v5 < ((l6.length : Nat) : Int)) (getN l6 (0 + v5.toNat) fun uuJ => match uuJ with | (aK, .mk kN nO sP fQ) => f57_L2 self57 g7 (v5 + 1) (l6.set (0 + v5.toNat) (aK, (V.mk kF nG sH fI)))))
def b57 (self57 : V → Option (V)) : V → Option (V)
 | .mk k6 n7 s8 f9 => (f79 f9).bind fun l5 => sbind (ο := FV) (grdP (((l5.length : Nat) : Int) ≤ 9223372036854775807) (f57_L2 self57 (((l5.length : Nat) : Int) - 0).toNat 0 l5)) (fun lA => some (V.mk k6 n7 s8 lA))
def f57 : Nat → V → Option (V)
 | 0 => fun _ => none
 | n + 1 => b57 (f57 n)
def C57 (O : Oracle TT) (m : V → Option (V)) : Prop :=
 ∀ k5 n6 s7 f8 (Q : V → Prop) (R : RR) (_ : ∀ k9 nA sB fC, Q (V.mk k9 nA sB fC) → R (.agg [ci k9, ci nA, .str sB, .isl .fld fC]) []) (_ : sat (m (V.mk k5 n6 s7 f8)) Q), O 57 [.agg [ci k5, ci n6, .str s7, .isl .fld f8]] [] R
def j57 : Fn TT := ⟨28, [.cell 2 4 true], (sr [qo 1 (.box 1 0),qo 2 (.alloc 2 zV)] (sr [qo 4 (.fa 1 3),qo 5 (ld 4),qo 6 (.call 6 79 [5]),qo 7 (.fa 1 3),qp (.store 7 6 1)] (.cut [1, 2] [(.s 1), (.s 2), (.sub (.s 6) 0)] (sr [qo 8 (.fa 1 3),qo 9 (ld 8),qo 10 (.len false 9),qo 11 (.mv (iC 0))] (.block 0
 (.loop (.keep [1, 2, 10, 11] [(.s 1), (.s 2), (.sub (.s 6) 0)] (.aft (sr [qo 12 (.bin .lss .num 11 10)] (.seq (.cond 12 .skip (.exit 0)) (.seq (.block 1 (sr [qm 13 11,qm 3 13] (.drw [] (oR 13) [12] [0, 1, 2, 3, 4, 5, 6, 7, 8, 10, 11] [qo 14 (.fa 1 3),qo 15 (ld 14),qm 16 3,qo 17 (.fa 1 3),qo 18 (ld 17),qm 19 3,
 qo 20 (.idxA 18 19 5),qo 21 (.fa 20 1),qo 22 (.load 21 4 true),qo 23 (.call 23 57 [22]),qo 24 (.idxA 15 16 5),qo 25 (.fa 24 1),qp (.store 25 23 4)]))) (.reg [qo 26 (.bin .add .num 11 (iC 1)),qm 11 26])))) [.keep [1, 2, 10, 11] [(.s 1), (.s 2), (.sub (.s 6) 0)]]))))) (sr [qo 27 (.load 1 4 true),qp (.store 2 27 4)] (.pre [.frzc (.s 2) 3 .fld] .ret)))))⟩
theorem w57 {O : Oracle TT} (self57 : V → Option (V)) (h57 : C57 O self57) (h79 : C79 O f79) : C57 (fun _ => vcF (S := SS) O j57) (b57 self57) := by
 intro kG nH sI fV Q R hQ h
 unfold b57 at h
 refine ⟨nle rfl, rfl, ?_⟩
 refine kL [] (h79 _ _ _ ?_ (sb h))
 rintro lC _ rfl h
 obtain ⟨RA, h, aA, hrRA⟩ := sc h
 refine kX (fun σ => ∃ (lF : FV) (nJ : Nat), nJ = lF.length ∧ RA (.inr lF) ∧ σ = ⟨[pT 1, pT 2], [eV (.s 1) [ci kG, ci nH, .str sI, .osl (.sub (.s 6) 0) 0 nJ], eV (.s 2) zV, (.sub (.s 6) 0, (eR .fld lF))]⟩) ?_ ?_
 intro hlW
 obtain ⟨hNU, h⟩ := sat_grdP h
 refine kX (fun σ n => ∃ (f5 : Nat) (v6 : Int) (z : Int) (l9 : FV) (nK : Nat), f5 = n ∧ f5 = (((lC.length : Nat) : Int) - v6).toNat ∧ 0 ≤ v6 ∧ v6 = z ∧ nK = l9.length ∧ sat (f57_L2 self57 f5 v6 l9) RA ∧ σ.keep [1, 2, 10, 11] [(.s 1), (.s 2), (.sub (.s 6) 0)] = ⟨[pT 1, pT 2, (10, iD ((lC.length : Nat) : Int)), (11, iD z)], [eV (.s 1) [ci kG, ci nH, .str sI, .osl (.sub (.s 6) 0) 0 nK], eV (.s 2) zV, (.sub (.s 6) 0, (eR .fld l9))]⟩) ⟨_, _, 0, _, lC, _, rfl, rfl, (by decide), rfl, LN, h, rfl⟩ ?_
 rintro σ n ⟨f5, v6, _, l9, _, rfl, hf5, hpf5, rfl, rfl, h, hσ⟩
 refine kk hσ ?_
 intro tB (htB : tB = decide (v6 < ((lC.length : Nat) : Int)))
 cases tB
 obtain rfl := il_nil hf5 htB
 rw [f57_L2] at h
 conv => whnf
 exact ⟨l9, _, LN, ss h, rfl⟩
 obtain ⟨g8, rfl, hwg8, hpg8, hfg8⟩ := il_cons hf5 hpf5 htB hNU
 rw [f57_L2] at h
 refine kp h fun hbY h => ?_
 refine kg (sat_getN h) fun uuM huuM h => ?_
 obtain ⟨aZ, ⟨k00, n01, s02, f03⟩⟩ := uuM
 refine kL [] (h57 _ _ _ _ _ _ ?_ (sb h))
 rintro kN nO sP fQ h
 refine kp h fun hb04 h => ?_
 refine kg (sat_getN h) fun uuS huuS h => ?_
 obtain ⟨aT, ⟨k05, n06, s07, f08⟩⟩ := uuS
 refine ⟨(aT, (V.mk kN nO sP fQ)), rfl, ?_⟩
 conv => whnf
 exact ⟨g8, nls, g8, v6 + 1, _, (l9.set (0 + v6.toNat) (aT, (V.mk kN nO sP fQ))), _, rfl, hfg8, hpg8, hwg8.symm, LN, h, rfl⟩
 rintro _ ⟨lF, _, rfl, h, rfl⟩
 replace h := hrRA _ h
 conv => whnf
 refine ⟨LN, ?_⟩
 exact kR [] (ND 0) (hQ _ _ _ _ (ss h))
theorem cg57 {P : Program} {fid : Nat → FuncId} (mx : MX P) (k57 : KF P fid 57 j57) (h79 : C79 (SP P fid) f79) : ∀ n, C57 (SP P fid) (f57 n) := by
 intro n
 induction n with
 | zero => exact fun a0 a5 a6 a7 Q R hQ h => (sat_none h).elim
 | succ n ih =>
  have ih0 := ih
  exact fun a0 a5 a6 a7 Q R hQ h => spec_of_vc mx k57 (w57 (f57 n) ih0 h79 a0 a5 a6 a7 Q R hQ h)
theorem c57 {P : Program} {fid : Nat → FuncId} (mx : MX P) (k57 : KF P fid 57 j57) (h79 : C79 (SP P fid) f79) : ∀ n, C57 (SP P fid) (f57 n) := fun n => (cg57 mx k57 h79 n)
def f108 : PT → Option (PT)
 | l => grdP (l.length ≤ 68719476736) (some l)
def C108 (O : Oracle TT) (m : PT → Option (PT)) : Prop :=
 ∀ l3 (Q : PT → Prop) (R : RR) (_ : ∀ (l0 : PT) (n0r : Nat) (_ : n0r = l0.length), Q l0 → R (.c (.osl (.x 0) 0 n0r)) [(.x 0, (eR .part l0))]) (_ : sat (m l3) Q), O 108 [.c (.isl .part l3)] [] R
def j108 : Fn TT := ⟨8, [.t 2], (sr [qo 2 (.mv (.c (.nils)))] (.seq (sr [qm 3 0,qo 4 (.bin .eql .slice 3 (.c (.nils)))] (.cond 4 (sr [qo 2 (.mv (.c (.nils)))] (.pre [.own 2 0 .part (.sub (.sub (.s 2) 900) 0)] .ret)) .skip)) (sr [qo 5 (.bslice 5 .part []),qm 6 0,qo 7 (.app 7 .part 68719476736 5 6),qm 2 7]
 (.pre [.own 2 0 .part (.sub (.sub (.s 2) 900) 0)] .ret))))⟩
theorem w108 {O : Oracle TT} : C108 (fun _ => vcF (S := SS) O j108) f108 := by
 intro l0 Q R hQ h
 unfold f108 at h
 obtain ⟨hb, h⟩ := sat_grdP h
 have hq := fun n e => hQ l0 n e (ss h)
 clear h hQ
 have key : ∀ (q : PT) (n : Nat), q = l0 → n = l0.length → R (.c (.osl (.x 0) 0 n)) [(.x 0, (eR .part q))] := by rintro _ _ rfl hn; exact hq _ hn
 refine ⟨nle rfl, rfl, ?_⟩
 conv => whnf
 intro t (ht : l0 ≠ [] → t = false)
 cases t
 conv => whnf
 refine ⟨rfl, rfl, ?_⟩
 conv => whnf
 refine ⟨rfl, ?_⟩
 conv => whnf
 refine ⟨(by simpa using hb : ([] : PT).length + l0.length ≤ 68719476736), ?_⟩
 conv => whnf
 exact ⟨[(.sub (.sub (.s 2) 900) 0)], (by decide : (lX 0 ++ ([(.sub (.sub (.s 2) 900) 0)] : List Id)).Nodup), key _ _ (List.nil_append l0) (by simp)⟩
 have hn : l0 = [] := by rcases Classical.em (l0 = []) with h | h; exact h; cases ht h
 conv => whnf
 exact ⟨[(.sub (.sub (.s 2) 900) 0)], (by decide : (lX 0 ++ ([(.sub (.sub (.s 2) 900) 0)] : List Id)).Nodup), key _ _ hn.symm (by rw [hn]; rfl)⟩
def f156b : BA → Int → Bool → Int → Int → Int → Int → Int → Int → Int → Int → Bool → L4 → L4 → Option (Bool × L4 × L4 × Bool)
 | s7, v8, qA, vB, vC, vF, vG, vH, vI, vJ, vK, q9, r5, r6 => cond q9 (some (false, r5, r6, true)) (cond (decide (v8 < (s7.size : Int))) (some (true, r5, r6, false)) (some (false, r5, r6, false)))
def C156b (O : Oracle TT) (m : BA → Int → Bool → Int → Int → Int → Int → Int → Int → Int → Int → Bool → L4 → L4 → Option (Bool × L4 × L4 × Bool)) : Prop :=
 ∀ s5 vA qB vC vF vG vH vI vJ vK vL qN (r6 : L4) (r7 : L4) (nM : Nat) (enM : nM = r6.length) (n5 : Nat) (en5 : n5 = r7.length) (Q : (Bool × L4 × L4 × Bool) → Prop) (R : RR) (_ : ∀ qO (l8 : L4) (l9 : L4) qP (n0r : Nat) (_ : n0r = l8.length) (n1r : Nat) (_ : n1r = l9.length) (_ : l8.length = r6.length) (_ : l9.length = r7.length), Q (qO, l8, l9, qP) → R (bD qO) [eV (.x 0) [.str s5, ci vA, .osl (.x 1) 0 n0r, .osl (.x 2) 0 n1r, .bool qB, .int .u64 vC, .int .u64 vF, .int .u64 vG, .int .u64 vH, .int .u64 vI, .int .u64 vJ, .int .u64 vK, .int .u64 vL, .bool qP], (.x 1, (eR .set4 l8)), (.x 2, (eR .set4 l9))]) (_ : sat (m s5 vA qB vC vF vG vH vI vJ vK vL qN r6 r7) Q), O 156 [pX 0] [eV (.x 0) [.str s5, ci vA, .osl (.x 1) 0 nM, .osl (.x 2) 0 n5, .bool qB, .int .u64 vC, .int .u64 vF, .int .u64 vG, .int .u64 vH, .int .u64 vI, .int .u64 vJ, .int .u64 vK, .int .u64 vL, .bool qN], (.x 1, (eR .set4 r6)), (.x 2, (eR .set4 r7))] R
def j156b : Fn TT := ⟨20, [.t 2], (sr [qm 2 bF] (.seq (.drw [] (oR 18) [] (List.range 18) [qm 3 0,qo 4 (.nilck 3),qo 5 (.fa 4 13),qo 6 (ld 5),qo 7 (.un .not 6),qm 8 7,qg 8 9 (.mv 0),qg 8 10 (.nilck 9),qg 8 11 (.fa 10 1),qg 8 12 (ld 11),qg 8 13 (.mv 0),qg 8 14 (.nilck 13),qg 8 15 (.fa 14 0),qg 8 16 (ld 15),
 qg 8 17 (.len true 16),qg 8 18 (.bin .lss .num 12 17),qo 19 (.pick 8 18 bF),qm 2 19]) .ret))⟩
theorem w156b {O : Oracle TT} : C156b (fun _ => vcF (S := SS) O j156b) f156b := by
 intro s5 v8 q9 vA vB vC vF vG vH vI vJ q7 rK rL n6 en6 n5 en5 Q R hQ h
 subst en6
 subst en5
 unfold f156b at h
 refine ⟨nle rfl, rfl, ?_⟩
 cases q7
 replace h := cf h
 refine kc h ?_ ?_ <;> intro h
 exact kR [] (ND 3) (hQ _ _ _ _ _ LN _ LN LN LN (ss h))
 exact kR [] (ND 3) (hQ _ _ _ _ _ LN _ LN LN LN (ss h))
 replace h := ct h
 exact kR [] (ND 3) (hQ _ _ _ _ _ LN _ LN LN LN (ss h))
def f157b : BA → Int → Bool → Int → Int → Int → Int → Int → Int → Int → Int → Bool → L4 → L4 → Option (Int × L4 × L4)
 | s5, v6, qA, vB, vC, vF, vG, vH, vI, vJ, vK, qL, r7, r8 => cond (decide (v6 ≥ (s5.size : Int))) (some (0, r7, r8)) (getB s5 v6 fun c9 => some ((c9.toNat : Int), r7, r8))
def C157b (O : Oracle TT) (m : BA → Int → Bool → Int → Int → Int → Int → Int → Int → Int → Int → Bool → L4 → L4 → Option (Int × L4 × L4)) : Prop :=
 ∀ s5 vA qB vC vF vG vH vI vJ vK vL qM (r6 : L4) (r7 : L4) (nN : Nat) (enN : nN = r6.length) (n5 : Nat) (en5 : n5 = r7.length) (Q : (Int × L4 × L4) → Prop) (R : RR) (_ : ∀ vO (l8 : L4) (l9 : L4) (n0r : Nat) (_ : n0r = l8.length) (n1r : Nat) (_ : n1r = l9.length) (_ : l8.length = r6.length) (_ : l9.length = r7.length), Q (vO, l8, l9) → R (.c (.int .u8 vO)) [eV (.x 0) [.str s5, ci vA, .osl (.x 1) 0 n0r, .osl (.x 2) 0 n1r, .bool qB, .int .u64 vC, .int .u64 vF, .int .u64 vG, .int .u64 vH, .int .u64 vI, .int .u64 vJ, .int .u64 vK, .int .u64 vL, .bool qM], (.x 1, (eR .set4 l8)), (.x 2, (eR .set4 l9))]) (_ : sat (m s5 vA qB vC vF vG vH vI vJ vK vL qM r6 r7) Q), O 157 [pX 0] [eV (.x 0) [.str s5, ci vA, .osl (.x 1) 0 nN, .osl (.x 2) 0 n5, .bool qB, .int .u64 vC, .int .u64 vF, .int .u64 vG, .int .u64 vH, .int .u64 vI, .int .u64 vJ, .int .u64 vK, .int .u64 vL, .bool qM], (.x 1, (eR .set4 r6)), (.x 2, (eR .set4 r7))] R
def j157b : Fn TT := ⟨22, [.t 2], (sr [qo 2 (.mv (.c (.int .u8 0)))] (.seq (.seq (.drw [] (oR 10) [] (List.range 10) [qm 3 0,qo 4 (.nilck 3),qo 5 (.fa 4 1),qo 6 (ld 5),qm 7 0,qo 8 (.nilck 7),qo 9 (.fa 8 0),qo 10 (ld 9),qo 11 (.len true 10),qo 12 (.bin .geq .num 6 11)]) (.cond 12 (sr [qo 2 (.mv (.c (.int .u8 0)))] .ret) .skip)) (.seq
 (.drw [] (oR 10) [] (List.range 10) [qm 13 0,qo 14 (.nilck 13),qo 15 (.fa 14 0),qo 16 (ld 15),qm 17 0,qo 18 (.nilck 17),qo 19 (.fa 18 1),qo 20 (ld 19),qo 21 (.idxS 16 20),qm 2 21]) .ret)))⟩
theorem w157b {O : Oracle TT} : C157b (fun _ => vcF (S := SS) O j157b) f157b := by
 intro s5 v8 q9 vA vB vC vF vG vH vI vJ qK rL rM n6 en6 n5 en5 Q R hQ h
 subst en6
 subst en5
 unfold f157b at h
 refine ⟨nle rfl, rfl, ?_⟩
 refine kc h ?_ ?_ <;> intro h
 refine kg (sat_getB h) fun c7 hc7 h => ?_
 exact kR [] (ND 3) (hQ _ _ _ _ LN _ LN LN LN (ss h))
 exact kR [] (ND 3) (hQ _ _ _ _ LN _ LN LN LN (ss h))
def f114 : BA → Int → Option (Int)
 | s5, v6 => some (firstIdx s5 (v6).toNat.toUInt8)
def C114 (O : Oracle TT) (m : BA → Int → Option (Int)) : Prop :=
 ∀ s5 v6 (Q : Int → Prop) (R : RR) (_ : ∀ v7, Q v7 → R (iD v7) []) (_ : sat (m s5 v6) Q), O 114 [sD s5, .c (.int .u8 v6)] [] R
def j114 : Fn TT := ⟨8, [.t 4], (sr [qo 4 (.mv (iC 0))] (sr [qm 5 0,qm 6 1,qo 7 (.xidx 5 6),qm 4 7] .ret))⟩
theorem w114 {O : Oracle TT} : C114 (fun _ => vcF (S := SS) O j114) f114 := by
 intro s5 v6 Q R hQ h
 unfold f114 at h
 refine ⟨nle rfl, rfl, ?_⟩
 exact kR [] (ND 0) (hQ _ (ss h))
def f91 : BA → Int → Option (Int)
 | s5, v6 => (f114 s5 v6).bind fun v7 => some v7
def C91 (O : Oracle TT) (m : BA → Int → Option (Int)) : Prop :=
 ∀ s5 v6 (Q : Int → Prop) (R : RR) (_ : ∀ v7, Q v7 → R (iD v7) []) (_ : sat (m s5 v6) Q), O 91 [sD s5, .c (.int .u8 v6)] [] R
def j91 : Fn TT := ⟨8, [.t 4], (sr [qo 4 (.mv (iC 0))] (sr [qm 5 0,qm 6 1,qo 7 (.call 7 114 [5, 6]),qm 4 7] .ret))⟩
theorem w91 {O : Oracle TT} (h114 : C114 O f114) : C91 (fun _ => vcF (S := SS) O j91) f91 := by
 intro s5 v6 Q R hQ h
 unfold f91 at h
 refine ⟨nle rfl, rfl, ?_⟩
 refine kL [] (h114 _ _ _ _ ?_ (sb h))
 rintro v7 h
 exact kR [] (ND 0) (hQ _ (ss h))
def f178 : Int → Int → Int → Int → Int → Option N4
 | v0, v5, v6, v7, v8 => caseI (wrap .u8 (Int.tdiv v0 64)) [grdP (0 ≤ (Int.tmod v0 64)) (some ((bOr .u64 v5 (bShl .u64 1 (Int.tmod v0 64))), v6, v7, v8)), grdP (0 ≤ (Int.tmod v0 64)) (some (v5, (bOr .u64 v6 (bShl .u64 1 (Int.tmod v0 64))), v7, v8)), grdP (0 ≤ (Int.tmod v0 64)) (some (v5, v6, (bOr .u64 v7 (bShl .u64 1 (Int.tmod v0 64))), v8)), grdP (0 ≤ (Int.tmod v0 64)) (some (v5, v6, v7, (bOr .u64 v8 (bShl .u64 1 (Int.tmod v0 64)))))]
def C178 (O : Oracle TT) (m : Int → Int → Int → Int → Int → Option N4) : Prop :=
 ∀ v0 v5 v6 v7 v8 (Q : N4 → Prop) (R : RR) (_ : ∀ v9 vA vB vC, Q (v9, vA, vB, vC) → R (.tup []) [eV (.x 0) [.int .u64 v9, .int .u64 vA, .int .u64 vB, .int .u64 vC]]) (_ : sat (m v0 v5 v6 v7 v8) Q), O 178 [pX 0, .c (.int .u8 v0)] [eV (.x 0) [.int .u64 v5, .int .u64 v6, .int .u64 v7, .int .u64 v8]] R
def j178 : Fn TT := ⟨16, [], (.drw [] (oR 13) [12] (List.range 12) [qm 4 0,qm 5 1,qo 6 (.bin .quo .num 5 (.c (.int .u8 64))),qo 7 (.nilck 4),qo 8 (.idxC 7 6 1 4),qo 9 (ld 8),qm 10 1,qo 11 (.bin .rem .num 10 (.c (.int .u8 64))),qo 12 (.bin .shl .num (.c (.int .u64 1)) 11),qo 13 (.bin .or .num 9 12),qo 14 (.nilck 4),qo 15 (.idxC 14 6 1 4),
 qp (.store 15 13 1)])⟩
theorem w178 {O : Oracle TT} : C178 (fun _ => vcF (S := SS) O j178) f178 := by
 intro v6 vB vC vE vF Q R hQ h
 unfold f178 at h
 refine ⟨nle rfl, rfl, ?_⟩
 conv => whnf
 refine ⟨by decide, ?_⟩
 conv => whnf
 obtain ⟨hbj5, h⟩ := sat_caseI h
 refine ⟨hbj5, fun j5 hj5 => ?_⟩
 replace h := h j5 hj5
 replace hbj5 : (0 : Int) ≤ (wrap .u8 (Int.tdiv v6 64)) ∧ (wrap .u8 (Int.tdiv v6 64)) < 4 := hbj5
 have hcj5 : j5 = 0 ∨ j5 = 1 ∨ j5 = 2 ∨ j5 = 3 := by omega
 rcases hcj5 with rfl | rfl | rfl | rfl
 replace h := sat_j0 h
 conv => whnf
 refine ⟨by decide, ?_⟩
 refine kp h fun hbG h => ?_
 conv => whnf
 refine ⟨⟨by omega, by omega⟩, fun j7 hj7 => ?_⟩
 obtain rfl : j7 = 0 := by omega
 exact kR [] (ND 1) (hQ _ _ _ _ (ss h))
 replace h := sat_j1 h
 conv => whnf
 refine ⟨by decide, ?_⟩
 refine kp h fun hbH h => ?_
 conv => whnf
 refine ⟨⟨by omega, by omega⟩, fun j8 hj8 => ?_⟩
 obtain rfl : j8 = 1 := by omega
 exact kR [] (ND 1) (hQ _ _ _ _ (ss h))
 replace h := sat_j2 h
 conv => whnf
 refine ⟨by decide, ?_⟩
 refine kp h fun hbI h => ?_
 conv => whnf
 refine ⟨⟨by omega, by omega⟩, fun j9 hj9 => ?_⟩
 obtain rfl : j9 = 2 := by omega
 exact kR [] (ND 1) (hQ _ _ _ _ (ss h))
 replace h := sat_j3 h
 conv => whnf
 refine ⟨by decide, ?_⟩
 refine kp h fun hbJ h => ?_
 conv => whnf
 refine ⟨⟨by omega, by omega⟩, fun jA hjA => ?_⟩
 obtain rfl : jA = 3 := by omega
 exact kR [] (ND 1) (hQ _ _ _ _ (ss h))
def f110 : Int → Bool → Int → Int → Int → Int → Int → Int → Int → Int → Option N4
 | v0, q9, v5, v6, v7, v8, vA, vB, vC, vE => caseI (wrap .i64 (Int.tdiv v0 64)) [grdP (0 ≤ (Int.tmod v0 64)) (some ((bOr .u64 v5 (bShl .u64 1 (Int.tmod v0 64))), v6, v7, v8)), grdP (0 ≤ (Int.tmod v0 64)) (some (v5, (bOr .u64 v6 (bShl .u64 1 (Int.tmod v0 64))), v7, v8)), grdP (0 ≤ (Int.tmod v0 64)) (some (v5, v6, (bOr .u64 v7 (bShl .u64 1 (Int.tmod v0 64))), v8)), grdP (0 ≤ (Int.tmod v0 64)) (some (v5, v6, v7, (bOr .u64 v8 (bShl .u64 1 (Int.tmod v0 64)))))]
def C110 (O : Oracle TT) (m : Int → Bool → Int → Int → Int → Int → Int → Int → Int → Int → Option N4) : Prop :=
 ∀ v9 q0 vA vB vC vE v5 v6 v7 v8 (Q : N4 → Prop) (R : RR) (_ : ∀ vF vG vH vI, Q (vF, vG, vH, vI) → R (.tup []) [eV (.x 0) [.bool q0, .int .u64 vF, .int .u64 vG, .int .u64 vH, .int .u64 vI, .int .u64 v5, .int .u64 v6, .int .u64 v7, .int .u64 v8]]) (_ : sat (m v9 q0 vA vB vC vE v5 v6 v7 v8) Q), O 110 [.c (.ptr (.x 0) 0 1), iD v9] [eV (.x 0) [.bool q0, .int .u64 vA, .int .u64 vB, .int .u64 vC, .int .u64 vE, .int .u64 v5, .int .u64 v6, .int .u64 v7, .int .u64 v8]] R
def j110 : Fn TT := ⟨16, [], (.drw [] (oR 13) [12] (List.range 12) [qm 4 0,qm 5 1,qo 6 (.bin .quo .num 5 (iC 64)),qo 7 (.nilck 4),qo 8 (.idxC 7 6 1 4),qo 9 (ld 8),qm 10 1,qo 11 (.bin .rem .num 10 (iC 64)),qo 12 (.bin .shl .num (.c (.int .u64 1)) 11),qo 13 (.bin .or .num 9 12),qo 14 (.nilck 4),qo 15 (.idxC 14 6 1 4),qp (.store 15 13 1)])⟩
theorem w110 {O : Oracle TT} : C110 (fun _ => vcF (S := SS) O j110) f110 := by
 intro v6 qB vC vE vF vG vH vI vJ vK Q R hQ h
 unfold f110 at h
 refine ⟨nle rfl, rfl, ?_⟩
 conv => whnf
 refine ⟨by decide, ?_⟩
 conv => whnf
 obtain ⟨hbj5, h⟩ := sat_caseI h
 refine ⟨hbj5, fun j5 hj5 => ?_⟩
 replace h := h j5 hj5
 replace hbj5 : (0 : Int) ≤ (wrap .i64 (Int.tdiv v6 64)) ∧ (wrap .i64 (Int.tdiv v6 64)) < 4 := hbj5
 have hcj5 : j5 = 0 ∨ j5 = 1 ∨ j5 = 2 ∨ j5 = 3 := by omega
 rcases hcj5 with rfl | rfl | rfl | rfl
 replace h := sat_j0 h
 conv => whnf
 refine ⟨by decide, ?_⟩
 refine kp h fun hbL h => ?_
 conv => whnf
 refine ⟨⟨by omega, by omega⟩, fun j7 hj7 => ?_⟩
 obtain rfl : j7 = 0 := by omega
 exact kR [] (ND 1) (hQ _ _ _ _ (ss h))
 replace h := sat_j1 h
 conv => whnf
 refine ⟨by decide, ?_⟩
 refine kp h fun hbM h => ?_
 conv => whnf
 refine ⟨⟨by omega, by omega⟩, fun j8 hj8 => ?_⟩
 obtain rfl : j8 = 1 := by omega
 exact kR [] (ND 1) (hQ _ _ _ _ (ss h))
 replace h := sat_j2 h
 conv => whnf
 refine ⟨by decide, ?_⟩
 refine kp h fun hbN h => ?_
 conv => whnf
 refine ⟨⟨by omega, by omega⟩, fun j9 hj9 => ?_⟩
 obtain rfl : j9 = 2 := by omega
 exact kR [] (ND 1) (hQ _ _ _ _ (ss h))
 replace h := sat_j3 h
 conv => whnf
 refine ⟨by decide, ?_⟩
 refine kp h fun hbO h => ?_
 conv => whnf
 refine ⟨⟨by omega, by omega⟩, fun jA hjA => ?_⟩
 obtain rfl : jA = 3 := by omega
 exact kR [] (ND 1) (hQ _ _ _ _ (ss h))
def f110a : Int → Bool → Int → Int → Int → Int → Int → Int → Int → Int → Option N4
 | v0, q9, vA, vB, vC, vE, v5, v6, v7, v8 => caseI (wrap .i64 (Int.tdiv v0 64)) [grdP (0 ≤ (Int.tmod v0 64)) (some ((bOr .u64 v5 (bShl .u64 1 (Int.tmod v0 64))), v6, v7, v8)), grdP (0 ≤ (Int.tmod v0 64)) (some (v5, (bOr .u64 v6 (bShl .u64 1 (Int.tmod v0 64))), v7, v8)), grdP (0 ≤ (Int.tmod v0 64)) (some (v5, v6, (bOr .u64 v7 (bShl .u64 1 (Int.tmod v0 64))), v8)), grdP (0 ≤ (Int.tmod v0 64)) (some (v5, v6, v7, (bOr .u64 v8 (bShl .u64 1 (Int.tmod v0 64)))))]
def C110a (O : Oracle TT) (m : Int → Bool → Int → Int → Int → Int → Int → Int → Int → Int → Option N4) : Prop :=
 ∀ v9 q0 v5 v6 v7 v8 vA vB vC vE (Q : N4 → Prop) (R : RR) (_ : ∀ vF vG vH vI, Q (vF, vG, vH, vI) → R (.tup []) [eV (.x 0) [.bool q0, .int .u64 v5, .int .u64 v6, .int .u64 v7, .int .u64 v8, .int .u64 vF, .int .u64 vG, .int .u64 vH, .int .u64 vI]]) (_ : sat (m v9 q0 v5 v6 v7 v8 vA vB vC vE) Q), O 110 [.c (.ptr (.x 0) 0 5), iD v9] [eV (.x 0) [.bool q0, .int .u64 v5, .int .u64 v6, .int .u64 v7, .int .u64 v8, .int .u64 vA, .int .u64 vB, .int .u64 vC, .int .u64 vE]] R
def j110a : Fn TT := ⟨16, [], (.drw [] (oR 13) [12] (List.range 12) [qm 4 0,qm 5 1,qo 6 (.bin .quo .num 5 (iC 64)),qo 7 (.nilck 4),qo 8 (.idxC 7 6 1 4),qo 9 (ld 8),qm 10 1,qo 11 (.bin .rem .num 10 (iC 64)),qo 12 (.bin .shl .num (.c (.int .u64 1)) 11),qo 13 (.bin .or .num 9 12),qo 14 (.nilck 4),qo 15 (.idxC 14 6 1 4),qp (.store 15 13 1)])⟩
theorem w110a {O : Oracle TT} : C110a (fun _ => vcF (S := SS) O j110a) f110a := by
 intro v6 qB vC vE vF vG vH vI vJ vK Q R hQ h
 unfold f110a at h
 refine ⟨nle rfl, rfl, ?_⟩
 conv => whnf
 refine ⟨by decide, ?_⟩
 conv => whnf
 obtain ⟨hbj5, h⟩ := sat_caseI h
 refine ⟨hbj5, fun j5 hj5 => ?_⟩
 replace h := h j5 hj5
 replace hbj5 : (0 : Int) ≤ (wrap .i64 (Int.tdiv v6 64)) ∧ (wrap .i64 (Int.tdiv v6 64)) < 4 := hbj5
 have hcj5 : j5 = 0 ∨ j5 = 1 ∨ j5 = 2 ∨ j5 = 3 := by omega
 rcases hcj5 with rfl | rfl | rfl | rfl
 replace h := sat_j0 h
 conv => whnf
 refine ⟨by decide, ?_⟩
 refine kp h fun hbL h => ?_
 conv => whnf
 refine ⟨⟨by omega, by omega⟩, fun j7 hj7 => ?_⟩
 obtain rfl : j7 = 0 := by omega
 exact kR [] (ND 1) (hQ _ _ _ _ (ss h))
 replace h := sat_j1 h
 conv => whnf
 refine ⟨by decide, ?_⟩
 refine kp h fun hbM h => ?_
 conv => whnf
 refine ⟨⟨by omega, by omega⟩, fun j8 hj8 => ?_⟩
 obtain rfl : j8 = 1 := by omega
 exact kR [] (ND 1) (hQ _ _ _ _ (ss h))
 replace h := sat_j2 h
 conv => whnf
 refine ⟨by decide, ?_⟩
 refine kp h fun hbN h => ?_
 conv => whnf
 refine ⟨⟨by omega, by omega⟩, fun j9 hj9 => ?_⟩
 obtain rfl : j9 = 2 := by omega
 exact kR [] (ND 1) (hQ _ _ _ _ (ss h))
 replace h := sat_j3 h
 conv => whnf
 refine ⟨by decide, ?_⟩
 refine kp h fun hbO h => ?_
 conv => whnf
 refine ⟨⟨by omega, by omega⟩, fun jA hjA => ?_⟩
 obtain rfl : jA = 3 := by omega
 exact kR [] (ND 1) (hQ _ _ _ _ (ss h))
def f179 : N4 → BA → Int → Bool → Int → Int → Int → Int → Int → Int → Int → Int → Bool → L4 → L4 → Option (Bool × Int × Int × Int × Int × Int × Int × Int × Int × L4 × L4 × Bool)
 | (w7, w8, w9, wA), sM, vN, qO, vP, vQ, vR, vS, vT, vU, vV, vW, qH, r5, r6 => cond (decide (((r5.length : Nat) : Int) > 255)) (some (false, 0, 0, 0, 0, 0, 0, 0, 0, r5, r6, true)) (grdP (r5.length + ([(w7, w8, w9, wA)] : L4).length ≤ 68719476736) (grdP (r6.length + ([(0, 0, 0, 0)] : L4).length ≤ 68719476736) ((f110 ((r5.length : Nat) : Int) false (0 : Int) (0 : Int) (0 : Int) (0 : Int) (0 : Int) (0 : Int) (0 : Int) (0 : Int)).bind fun (vB, vC, vF, vG) => (f110a ((r5.length : Nat) : Int) false vB vC vF vG (0 : Int) (0 : Int) (0 : Int) (0 : Int)).bind fun (vI, vJ, vK, vL) => some (false, vB, vC, vF, vG, vI, vJ, vK, vL, (r5 ++ ([(w7, w8, w9, wA)] : L4)), (r6 ++ ([(0, 0, 0, 0)] : L4)), qH))))
def C179 (O : Oracle TT) (m : N4 → BA → Int → Bool → Int → Int → Int → Int → Int → Int → Int → Int → Bool → L4 → L4 → Option (Bool × Int × Int × Int × Int × Int × Int × Int × Int × L4 × L4 × Bool)) : Prop :=
 ∀ w5 wO wP wQ s6 v7 q8 v9 vA vB vC vF vG vH vI qR (rJ : L4) (rK : L4) (nL : Nat) (enL : nL = rJ.length) (n5 : Nat) (en5 : n5 = rK.length) (Q : (Bool × Int × Int × Int × Int × Int × Int × Int × Int × L4 × L4 × Bool) → Prop) (R : RR) (_ : ∀ qS vT vU vV vW vY vZ v00 v01 (lM : L4) (lN : L4) q02 (n0r : Nat) (_ : n0r = lM.length) (n1r : Nat) (_ : n1r = lN.length), Q (qS, vT, vU, vV, vW, vY, vZ, v00, v01, lM, lN, q02) → R (.agg [.bool qS, .int .u64 vT, .int .u64 vU, .int .u64 vV, .int .u64 vW, .int .u64 vY, .int .u64 vZ, .int .u64 v00, .int .u64 v01]) [eV (.x 0) [.str s6, ci v7, .osl (.x 3) 0 n0r, .osl (.x 4) 0 n1r, .bool q8, .int .u64 v9, .int .u64 vA, .int .u64 vB, .int .u64 vC, .int .u64 vF, .int .u64 vG, .int .u64 vH, .int .u64 vI, .bool q02], (.x 1, none), (.x 2, none), (.x 3, (eR .set4 lM)), (.x 4, (eR .set4 lN))]) (_ : sat (m (w5, wO, wP, wQ) s6 v7 q8 v9 vA vB vC vF vG vH vI qR rJ rK) Q), O 179 [pX 0, .agg [.int .u64 w5, .int .u64 wO, .int .u64 wP, .int .u64 wQ]] [eV (.x 0) [.str s6, ci v7, .osl (.x 1) 0 nL, .osl (.x 2) 0 n5, .bool q8, .int .u64 v9, .int .u64 vA, .int .u64 vB, .int .u64 vC, .int .u64 vF, .int .u64 vG, .int .u64 vH, .int .u64 vI, .bool qR], (.x 1, (eR .set4 rJ)), (.x 2, (eR .set4 rK))] R
def j179 : Fn TT := ⟨50, [.cell 4 9 true], (sr [qo 3 (.box 3 1),qo 4 (.alloc 4 [.bool false, .int .u64 0, .int .u64 0, .int .u64 0, .int .u64 0, .int .u64 0, .int .u64 0, .int .u64 0, .int .u64 0])] (sr [qm 7 0,qo 8 (.nilck 7),qo 9 (.fa 8 2),qo 10 (.fa 9 0),qo 11 (ld 10),qo 12 (.len false 11),qm 5 12] (.seq (sr [qm 13 5,
 qo 14 (.bin .gtr .num 13 (iC 255))] (.cond 14 (sr [qm 15 0,qo 16 (.nilck 15),qo 17 (.fa 16 13),qp (.store 17 bT 1)] (sr [qo 18 (.build [.bool false, .int .u64 0, .int .u64 0, .int .u64 0, .int .u64 0, .int .u64 0, .int .u64 0, .int .u64 0, .int .u64 0] []),qp (.store 4 18 9)]
 (.pre [.ownc (.x 0) 2 .set4 (.sub (.sub (.x 0) 801) 2), .ownc (.x 0) 3 .set4 (.sub (.sub (.x 0) 801) 3)] .ret))) .skip)) (.seq (.drw [(.x 1)] (oR 13) [12] [0, 1, 2, 3, 4, 5, 6, 9, 10, 11] [qm 19 0,qm 20 0,qo 21 (.nilck 20),qo 22 (.fa 21 2),qo 23 (.fa 22 0),qo 24 (ld 23),qo 25 (.load 3 4 true),qo 26 (.bsl .set4 [25]),qo 27 (.app 27 .set4 68719476736 24 26),
 qo 28 (.nilck 19),qo 29 (.fa 28 2),qo 30 (.fa 29 0),qp (.store 30 27 1)]) (sr [qm 31 0,qm 32 0,qo 33 (.nilck 32),qo 34 (.fa 33 2),qo 35 (.fa 34 1),qo 36 (ld 35),qo 37 (.build [.int .u64 0, .int .u64 0, .int .u64 0, .int .u64 0] []),qo 38 (.bsl .set4 [37]),qo 39 (.app 39 .set4 68719476736 36 38),qo 40 (.nilck 31),qo 41 (.fa 40 2),qo 42 (.fa 41 1),
 qp (.store 42 39 1)] (sr [qo 6 (.alloc 6 [.bool false, .int .u64 0, .int .u64 0, .int .u64 0, .int .u64 0, .int .u64 0, .int .u64 0, .int .u64 0, .int .u64 0])] (sr [qo 43 (.fa 6 1),qm 44 5,qo 45 (.call 45 110 [43, 44])] (sr [qo 46 (.fa 6 5),qm 47 5,qo 48 (.call 48 110 [46, 47])] (sr [qo 49 (.load 6 9 true),qp (.store 4 49 9)] .ret)))))))))⟩
theorem w179 {O : Oracle TT} (h110 : C110 O f110) (h110a : C110a O f110a) : C179 (fun _ => vcF (S := SS) O j179) f179 := by
 intro w5 w8 w9 wA sB vC qF vG vH vI vJ vK vL vM vN qO rP rQ n6 en6 n5 en5 Q R hQ h
 subst en6
 subst en5
 unfold f179 at h
 refine ⟨nle rfl, rfl, ?_⟩
 intro hlR
 refine kc h ?_ ?_ <;> intro h
 conv => whnf
 refine ⟨LN, rfl, ?_⟩
 conv => whnf
 refine ⟨rfl, ?_⟩
 refine kp h fun hbS h => ?_
 conv => whnf
 refine ⟨LN, rfl, ?_⟩
 conv => whnf
 refine ⟨rfl, ?_⟩
 refine kp h fun hbT h => ?_
 refine kL [(.s 6)] (h110 _ _ _ _ _ _ _ _ _ _ _ _ ?_ (sb h))
 rintro vU vV vW vX h
 refine kL [(.s 6)] (h110a _ _ _ _ _ _ _ _ _ _ _ _ ?_ (sb h))
 rintro vY vZ v00 v01 h
 exact kR [(.s 27), (.s 39)] (ND 3) (hQ _ _ _ _ _ _ _ _ _ _ _ _ _ LN _ LN (ss h))
 exact kR [(.sub (.sub (.x 0) 801) 2), (.sub (.sub (.x 0) 801) 3)] (ND 3) (hQ _ _ _ _ _ _ _ _ _ _ _ _ _ LN _ LN (ss h))
def f180 : BA → Int → Bool → Int → Int → Int → Int → Int → Int → Int → Int → Bool → L4 → L4 → Option (Int × Int × L4 × L4 × Bool)
 | s7, v5, qF, vG, vH, vI, vJ, vK, vL, vM, vN, qB, r8, r9 => cond (decide (v5 ≥ (s7.size : Int))) (some (0, v5, r8, r9, true)) (getB s7 v5 fun c6 => sbind (ο := Bool) (cond ((c6.toNat : Int) == 93) (some (.inr true)) (cond ((c6.toNat : Int) == 94) (some (.inr true)) (cond ((c6.toNat : Int) == 45) (some (.inr true)) (some (.inr qB))))) (fun qA => cond ((c6.toNat : Int) == 92) (cond (decide ((wrap .i64 (v5 + 1)) ≥ (s7.size : Int))) (some (0, (wrap .i64 (v5 + 1)), r8, r9, true)) (getB s7 (wrap .i64 (v5 + 1)) fun cC => some ((cC.toNat : Int), (wrap .i64 ((wrap .i64 (v5 + 1)) + 1)), r8, r9, qA))) (some ((c6.toNat : Int), (wrap .i64 (v5 + 1)), r8, r9, qA))))
def C180 (O : Oracle TT) (m : BA → Int → Bool → Int → Int → Int → Int → Int → Int → Int → Int → Bool → L4 → L4 → Option (Int × Int × L4 × L4 × Bool)) : Prop :=
 ∀ s5 vM qA vB vC vF vG vH vI vJ vK qN (r6 : L4) (r7 : L4) (nL : Nat) (enL : nL = r6.length) (n5 : Nat) (en5 : n5 = r7.length) (Q : (Int × Int × L4 × L4 × Bool) → Prop) (R : RR) (_ : ∀ vO vP (l8 : L4) (l9 : L4) qQ (n0r : Nat) (_ : n0r = l8.length) (n1r : Nat) (_ : n1r = l9.length) (_ : l8.length = r6.length) (_ : l9.length = r7.length), Q (vO, vP, l8, l9, qQ) → R (.c (.int .u8 vO)) [eV (.x 0) [.str s5, ci vP, .osl (.x 1) 0 n0r, .osl (.x 2) 0 n1r, .bool qA, .int .u64 vB, .int .u64 vC, .int .u64 vF, .int .u64 vG, .int .u64 vH, .int .u64 vI, .int .u64 vJ, .int .u64 vK, .bool qQ], (.x 1, (eR .set4 l8)), (.x 2, (eR .set4 l9))]) (_ : sat (m s5 vM qA vB vC vF vG vH vI vJ vK qN r6 r7) Q), O 180 [pX 0] [eV (.x 0) [.str s5, ci vM, .osl (.x 1) 0 nL, .osl (.x 2) 0 n5, .bool qA, .int .u64 vB, .int .u64 vC, .int .u64 vF, .int .u64 vG, .int .u64 vH, .int .u64 vI, .int .u64 vJ, .int .u64 vK, .bool qN], (.x 1, (eR .set4 r6)), (.x 2, (eR .set4 r7))] R
def j180 : Fn TT := ⟨78, [.t 2], (sr [qo 2 (.mv (.c (.int .u8 0)))] (.seq (.seq (.drw [] (oR 10) [] (List.range 10) [qm 4 0,qo 5 (.nilck 4),qo 6 (.fa 5 1),qo 7 (ld 6),qm 8 0,qo 9 (.nilck 8),qo 10 (.fa 9 0),qo 11 (ld 10),qo 12 (.len true 11),qo 13 (.bin .geq .num 7 12)]) (.cond 13 (sr [qm 14 0,qo 15 (.nilck 14),
 qo 16 (.fa 15 13),qp (.store 16 bT 1)] (sr [qo 2 (.mv (.c (.int .u8 0)))] .ret)) .skip)) (.seq (.drw [] (oR 10) [] (List.range 10) [qm 17 0,qo 18 (.nilck 17),qo 19 (.fa 18 0),qo 20 (ld 19),qm 21 0,qo 22 (.nilck 21),qo 23 (.fa 22 1),qo 24 (ld 23),qo 25 (.idxS 20 24),qm 3 25]) (sr [qm 26 0,qo 27 (.nilck 26),qo 28 (.fa 27 1),
 qo 29 (ld 28),qo 30 (.bin .add .num 29 (iC 1)),qo 31 (.nilck 26),qo 32 (.fa 31 1),qp (.store 32 30 1)] (.cut [0, 3] [(.x 0), (.x 1), (.x 2)] (sr [qm 33 3,qo 34 (.bin .eql .num 33 (.c (.int .u8 93))),qm 35 34,qf 35 36 (.mv 3),qf 35 37 (.bin .eql .num 36 (.c (.int .u8 94))),qo 38 (.pick 35 bT 37),qm 39 38,qf 39 40 (.mv 3),
 qf 39 41 (.bin .eql .num 40 (.c (.int .u8 45))),qo 42 (.pick 39 bT 41)] (.cond 42 (.reg [qm 43 0,qo 44 (.nilck 43),qo 45 (.fa 44 13),qp (.store 45 bT 1)]) .skip)) (.seq (sr [qm 46 3,qo 47 (.bin .eql .num 46 (.c (.int .u8 92)))] (.cond 47 (.seq (.seq (.drw [] (oR 10) [] (List.range 10) [qm 48 0,qo 49 (.nilck 48),qo 50 (.fa 49 1),qo 51 (ld 50),
 qm 52 0,qo 53 (.nilck 52),qo 54 (.fa 53 0),qo 55 (ld 54),qo 56 (.len true 55),qo 57 (.bin .geq .num 51 56)]) (.cond 57 (sr [qm 58 0,qo 59 (.nilck 58),qo 60 (.fa 59 13),qp (.store 60 bT 1)] (sr [qo 2 (.mv (.c (.int .u8 0)))] .ret)) .skip)) (.seq (.drw [] (oR 10) [] (List.range 10) [qm 61 0,qo 62 (.nilck 61),qo 63 (.fa 62 0),
 qo 64 (ld 63),qm 65 0,qo 66 (.nilck 65),qo 67 (.fa 66 1),qo 68 (ld 67),qo 69 (.idxS 64 68),qm 3 69]) (.reg [qm 70 0,qo 71 (.nilck 70),qo 72 (.fa 71 1),qo 73 (ld 72),qo 74 (.bin .add .num 73 (iC 1)),qo 75 (.nilck 70),qo 76 (.fa 75 1),qp (.store 76 74 1)]))) .skip)) (sr [qm 77 3,qm 2 77] .ret)))))))⟩
theorem w180 {O : Oracle TT} : C180 (fun _ => vcF (S := SS) O j180) f180 := by
 intro s5 vC qG vH vI vJ vK vL vM vN vO qP r8 r9 nA enA n5 en5 Q R hQ h
 subst enA
 subst en5
 unfold f180 at h
 refine ⟨nle rfl, rfl, ?_⟩
 refine kc h ?_ ?_ <;> intro h
 refine kg (sat_getB h) fun cB hcB h => ?_
 obtain ⟨R6, h, a6, b6⟩ := sc h
 refine kX (fun σ => ∃ q7, R6 (.inr q7) ∧ σ = ⟨[(0, pX 0), (3, .c (.int .u8 (cB.toNat : Int)))], [eV (.x 0) [.str s5, ci (wrap .i64 (vC + 1)), .osl (.x 1) 0 r8.length, .osl (.x 2) 0 r9.length, .bool qG, .int .u64 vH, .int .u64 vI, .int .u64 vJ, .int .u64 vK, .int .u64 vL, .int .u64 vM, .int .u64 vN, .int .u64 vO, .bool q7], (.x 1, (eR .set4 r8)), (.x 2, (eR .set4 r9))]⟩) ?_ ?_
 refine kc h ?_ ?_ <;> intro h
 refine kc h ?_ ?_ <;> intro h
 refine kc h ?_ ?_ <;> intro h
 conv => whnf
 exact ⟨qP, ss h, rfl⟩
 conv => whnf
 exact ⟨true, ss h, rfl⟩
 conv => whnf
 exact ⟨true, ss h, rfl⟩
 conv => whnf
 exact ⟨true, ss h, rfl⟩
 rintro _ ⟨q7, h, rfl⟩
 replace h := b6 _ h
 refine kc h ?_ ?_ <;> intro h
 exact kR [] (ND 3) (hQ _ _ _ _ _ _ LN _ LN LN LN (ss h))
 refine kc h ?_ ?_ <;> intro h
 refine kg (sat_getB h) fun cQ hcQ h => ?_
 exact kR [] (ND 3) (hQ _ _ _ _ _ _ LN _ LN LN LN (ss h))
 exact kR [] (ND 3) (hQ _ _ _ _ _ _ LN _ LN LN LN (ss h))
 exact kR [] (ND 3) (hQ _ _ _ _ _ _ LN _ LN LN LN (ss h))
def f176_L1 : Nat → Int → Int → Int → Int → Int → Option N4
 | 0, v0, v5, v6, v7, v8 => some (v5, v6, v7, v8)
 | g9 + 1, v0, v5, v6, v7, v8 => caseI v0 [f176_L1 g9 (v0 + 1) (bNot .u64 v5) v6 v7 v8, f176_L1 g9 (v0 + 1) v5 (bNot .u64 v6) v7 v8, f176_L1 g9 (v0 + 1) v5 v6 (bNot .u64 v7) v8, f176_L1 g9 (v0 + 1) v5 v6 v7 (bNot .u64 v8)]
def f176 : Int → Int → Int → Int → Option N4
 | v0, v5, v6, v7 => grdP ((4 : Int) ≤ 9223372036854775807) (f176_L1 ((4 : Int) - 0).toNat 0 v0 v5 v6 v7)
def C176 (O : Oracle TT) (m : Int → Int → Int → Int → Option N4) : Prop :=
 ∀ v0 v5 v6 v7 (Q : N4 → Prop) (R : RR) (_ : ∀ v8 v9 vA vB, Q (v8, v9, vA, vB) → R (.tup []) [eV (.x 0) [.int .u64 v8, .int .u64 v9, .int .u64 vA, .int .u64 vB]]) (_ : sat (m v0 v5 v6 v7) Q), O 176 [pX 0] [eV (.x 0) [.int .u64 v0, .int .u64 v5, .int .u64 v6, .int .u64 v7]] R
def j176 : Fn TT := ⟨17, [], (sr [qo 3 (.mv (iC 0))] (.block 0 (.loop (.keep [0, 3] [(.x 0)] (.aft (sr [qo 4 (.bin .lss .num 3 (iC 4))] (.seq (.cond 4 .skip (.exit 0)) (.seq (.block 1 (sr [qm 5 3,qm 2 5] (.drw [] (oR 11) [10] (List.range 10) [qm 6 0,qm 7 2,qm 8 0,qm 9 2,qo 10 (.nilck 8),qo 11 (.idxC 10 9 1 4),
 qo 12 (ld 11),qo 13 (.un .xor 12),qo 14 (.nilck 6),qo 15 (.idxC 14 7 1 4),qp (.store 15 13 1)]))) (.reg [qo 16 (.bin .add .num 3 (iC 1)),qm 3 16])))) [.keep [0, 3] [(.x 0)]])))))⟩
theorem w176 {O : Oracle TT} : C176 (fun _ => vcF (S := SS) O j176) f176 := by
 intro vI vJ vK vL Q R hQ h
 unfold f176 at h
 refine ⟨nle rfl, rfl, ?_⟩
 obtain ⟨hNM, h⟩ := sat_grdP h
 refine kX (fun σ n => ∃ (f7 : Nat) (v6 : Int) (z : Int) (v8 : Int) (v9 : Int) (vA : Int) (vB : Int), f7 = n ∧ f7 = (4 - v6).toNat ∧ 0 ≤ v6 ∧ v6 = z ∧ sat (f176_L1 f7 v6 v8 v9 vA vB) Q ∧ σ.keep [0, 3] [(.x 0)] = ⟨[(0, pX 0), (3, iD z)], [eV (.x 0) [.int .u64 v8, .int .u64 v9, .int .u64 vA, .int .u64 vB]]⟩) ⟨_, _, 0, _, vI, vJ, vK, vL, rfl, rfl, (by decide), rfl, h, rfl⟩ ?_
 rintro σ n ⟨f7, v6, _, v8, v9, vA, vB, rfl, hf7, hpf7, rfl, h, hσ⟩
 refine kk hσ ?_
 intro tC (htC : tC = decide (v6 < 4))
 cases tC
 obtain rfl := il_nil hf7 htC
 rw [f176_L1] at h
 exact kR [] (ND 1) (hQ _ _ _ _ (ss h))
 obtain ⟨g0, rfl, hwg0, hpg0, hfg0⟩ := il_cons hf7 hpf7 htC hNM
 rw [f176_L1] at h
 conv => whnf
 obtain ⟨hbj5, h⟩ := sat_caseI h
 refine ⟨hbj5, fun j5 hj5 => ?_⟩
 replace h := h j5 hj5
 replace hbj5 : (0 : Int) ≤ v6 ∧ v6 < 4 := hbj5
 have hcj5 : j5 = 0 ∨ j5 = 1 ∨ j5 = 2 ∨ j5 = 3 := by omega
 rcases hcj5 with rfl | rfl | rfl | rfl
 replace h := sat_j0 h
 conv => whnf
 refine ⟨⟨by omega, by omega⟩, fun jE hjE => ?_⟩
 obtain rfl : jE = 0 := by omega
 conv => whnf
 exact ⟨g0, nls, g0, v6 + 1, _, (bNot .u64 v8), v9, vA, vB, rfl, hfg0, hpg0, hwg0.symm, h, rfl⟩
 replace h := sat_j1 h
 conv => whnf
 refine ⟨⟨by omega, by omega⟩, fun jF hjF => ?_⟩
 obtain rfl : jF = 1 := by omega
 conv => whnf
 exact ⟨g0, nls, g0, v6 + 1, _, v8, (bNot .u64 v9), vA, vB, rfl, hfg0, hpg0, hwg0.symm, h, rfl⟩
 replace h := sat_j2 h
 conv => whnf
 refine ⟨⟨by omega, by omega⟩, fun jG hjG => ?_⟩
 obtain rfl : jG = 2 := by omega
 conv => whnf
 exact ⟨g0, nls, g0, v6 + 1, _, v8, v9, (bNot .u64 vA), vB, rfl, hfg0, hpg0, hwg0.symm, h, rfl⟩
 replace h := sat_j3 h
 conv => whnf
 refine ⟨⟨by omega, by omega⟩, fun jH hjH => ?_⟩
 obtain rfl : jH = 3 := by omega
 conv => whnf
 exact ⟨g0, nls, g0, v6 + 1, _, v8, v9, vA, (bNot .u64 vB), rfl, hfg0, hpg0, hwg0.symm, h, rfl⟩
def f177_L10 (vC : Int) (v0 : Int) (l5 : L4) (l6 : L4) : Nat → Int → Bool → Int → Int → Int → Int → Option (Sum (Sum (N4 × Int × L4 × L4 × Bool) (Int × Bool × Int × Int × Int × Int × L4 × L4)) (Int × Bool × Int × Int × Int × Int × L4 × L4))
 | 0, _, _, _, _, _, _ => none
 | gF + 1, v7, qE, v8, v9, vA, vB => cond (decide (v7 ≤ (wrap .i64 vC))) (cond qE (some (.inr (v0, true, v8, v9, vA, vB, l5, l6))) ((f178 (wrap .u8 v7) v8 v9 vA vB).bind fun (vG, vH, vI, vJ) => f177_L10 vC v0 l5 l6 gF (wrap .i64 (v7 + 1)) false vG vH vI vJ)) (some (.inr (v0, qE, v8, v9, vA, vB, l5, l6)))
def f177_L8 (fuel : Nat) (s5 : BA) (q6 : Bool) (v7 : Int) (v8 : Int) (v9 : Int) (vA : Int) (vB : Int) (vC : Int) (vF : Int) (vG : Int) : Nat → L4 → L4 → Int → Bool → Int → Int → Int → Int → Option (Sum (N4 × Int × L4 × L4 × Bool) (Int × Bool × Int × Int × Int × Int × L4 × L4))
 | 0, _, _, _, _, _, _, _, _ => none
 | g03 + 1, l04, l05, vH, q06, vL, vM, vN, vO => sbind (ο := Bool × L4 × L4) ((f156b s5 vH q6 v7 v8 v9 vA vB vC vF vG q06 l04 l05).bind fun (q07, lQ, lR, qI) => cond q07 ((f157b s5 vH q6 v7 v8 v9 vA vB vC vF vG qI lQ lR).bind fun (v08, lS, lT) => cond (v08 != 93) (some (.inr (qI, lS, lT))) (lft (some (.inr (vH, qI, vL, vM, vN, vO, lS, lT))))) (lft (some (.inr (vH, qI, vL, vM, vN, vO, lQ, lR))))) (fun (q09, l0A, l0B) => sbind (ο := Int × Bool × Int × Int × Int × Int × L4 × L4) ((f180 s5 vH q6 v7 v8 v9 vA vB vC vF vG q09 l0A l0B).bind fun (vP, vJ, l0C, l0D, q0E) => sbind (ο := Int × Int × Bool × L4 × L4) (sbind (τ := Sum (Sum (Sum (N4 × Int × L4 × L4 × Bool) (Int × Bool × Int × Int × Int × Int × L4 × L4)) (Int × Bool × Int × Int × Int × Int × L4 × L4)) (Int × Int × Bool × L4 × L4)) (ο := Bool × Bool × L4 × L4) ((f156b s5 vJ q6 v7 v8 v9 vA vB vC vF vG q0E l0C l0D).bind fun (q0F, lU, lV, qK) => cond q0F ((f157b s5 vJ q6 v7 v8 v9 vA vB vC vF vG qK lU lV).bind fun (v0G, lW, lY) => cond (v0G == 45) (some (.inr (true, qK, lW, lY))) (some (.inr (false, qK, lW, lY)))) (some (.inr (false, qK, lU, lV)))) (fun (q0H, qZ, l00, l01) => cond q0H ((f180 s5 (wrap .i64 (vJ + 1)) q6 v7 v8 v9 vA vB vC vF vG qZ l00 l01).bind fun (v0I, v0J, l0K, l0L, q0M) => some (.inr (v0I, v0J, q0M, l0K, l0L))) (some (.inr (vP, vJ, qZ, l00, l01))))) (fun (v02, v0N, q0O, l0P, l0Q) => sbind (ο := Bool) (cond q0O (some (.inr true)) (cond (decide (v02 < vP)) (some (.inr true)) (some (.inr false)))) (fun q0R => f177_L10 v02 v0N l0P l0Q fuel (wrap .i64 vP) q0R vL vM vN vO))) (fun (v0S, q0T, v0U, v0V, v0W, v0X, l0Y, l0Z) => f177_L8 fuel s5 q6 v7 v8 v9 vA vB vC vF vG g03 l0Y l0Z v0S q0T v0U v0V v0W v0X))
def f177 (fuel : Nat) : BA → Int → Bool → Int → Int → Int → Int → Int → Int → Int → Int → Bool → L4 → L4 → Option (N4 × Int × L4 × L4 × Bool)
 | sC, vF, qM, vN, vO, vP, vQ, vR, vS, vT, vU, qV, rW, rY => sbind (ο := Bool × L4 × L4) ((f157b sC vF qM vN vO vP vQ vR vS vT vU qV rW rY).bind fun (vZ, lG, lH) => cond (vZ == 94) (cond (decide (vF < (sC.size : Int))) (some (.inr (true, lG, lH))) (some (.inr (false, lG, lH)))) (some (.inr (false, lG, lH)))) (fun (q00, l01, l02) => sbind (ο := Bool × Int) (cond q00 (some (.inr (true, (wrap .i64 (vF + 1))))) (some (.inr (false, vF)))) (fun (q03, v04) => sbind (ο := Int × Bool × Int × Int × Int × Int × L4 × L4) (f177_L8 fuel sC qM vN vO vP vQ vR vS vT vU fuel l01 l02 v04 qV (0 : Int) (0 : Int) (0 : Int) (0 : Int)) (fun (v5, q05, v6, v7, v8, v9, lA, lB) => sbind (ο := Unit) (cond q05 (lft (some ((v6, v7, v8, v9), v5, lA, lB, true))) (cond (decide (v5 ≥ (sC.size : Int))) (lft (some ((v6, v7, v8, v9), v5, lA, lB, true))) (some (.inr ())))) (fun () => cond q03 ((f176 v6 v7 v8 v9).bind fun (vI, vJ, vK, vL) => cond ((vI == 0) && ((vJ == 0) && ((vK == 0) && ((vL == 0) && (true))))) (some ((vI, vJ, vK, vL), (wrap .i64 (v5 + 1)), lA, lB, true)) (some ((vI, vJ, vK, vL), (wrap .i64 (v5 + 1)), lA, lB, false))) (cond ((v6 == 0) && ((v7 == 0) && ((v8 == 0) && ((v9 == 0) && (true))))) (some ((v6, v7, v8, v9), (wrap .i64 (v5 + 1)), lA, lB, true)) (some ((v6, v7, v8, v9), (wrap .i64 (v5 + 1)), lA, lB, false)))))))
def C177 (O : Oracle TT) (m : BA → Int → Bool → Int → Int → Int → Int → Int → Int → Int → Int → Bool → L4 → L4 → Option (N4 × Int × L4 × L4 × Bool)) : Prop :=
 ∀ s5 vM qA vB vC vF vG vH vI vJ vK qN (r6 : L4) (r7 : L4) (nL : Nat) (enL : nL = r6.length) (n5 : Nat) (en5 : n5 = r7.length) (Q : (N4 × Int × L4 × L4 × Bool) → Prop) (R : RR) (_ : ∀ wO wP wQ wR vS (l8 : L4) (l9 : L4) qT (n0r : Nat) (_ : n0r = l8.length) (n1r : Nat) (_ : n1r = l9.length) (_ : l8.length = r6.length) (_ : l9.length = r7.length), Q ((wO, wP, wQ, wR), vS, l8, l9, qT) → R (.agg [.int .u64 wO, .int .u64 wP, .int .u64 wQ, .int .u64 wR]) [eV (.x 0) [.str s5, ci vS, .osl (.x 1) 0 n0r, .osl (.x 2) 0 n1r, .bool qA, .int .u64 vB, .int .u64 vC, .int .u64 vF, .int .u64 vG, .int .u64 vH, .int .u64 vI, .int .u64 vJ, .int .u64 vK, .bool qT], (.x 1, (eR .set4 l8)), (.x 2, (eR .set4 l9))]) (_ : sat (m s5 vM qA vB vC vF vG vH vI vJ vK qN r6 r7) Q), O 177 [pX 0] [eV (.x 0) [.str s5, ci vM, .osl (.x 1) 0 nL, .osl (.x 2) 0 n5, .bool qA, .int .u64 vB, .int .u64 vC, .int .u64 vF, .int .u64 vG, .int .u64 vH, .int .u64 vI, .int .u64 vJ, .int .u64 vK, .bool qN], (.x 1, (eR .set4 r6)), (.x 2, (eR .set4 r7))] R
def j177 : Fn TT := ⟨127, [.cell 2 4 true], (sr [qo 2 (.alloc 2 [.int .u64 0, .int .u64 0, .int .u64 0, .int .u64 0])] (sr [qo 3 (.alloc 3 [.int .u64 0, .int .u64 0, .int .u64 0, .int .u64 0])] (.cut [0, 2, 3, 4] [(.x 0), (.s 2), (.s 3), (.x 1), (.x 2)]
 (.drw [(.x 0), (.x 1), (.x 2)] (.go 0 (.go 1 (.go 2 (.go 3 (.go 4 (.go 5 (.go 6 (.go 8 (.go 9 (.go 10 (.alt 7 (.go 11 (.go 12 (.go 13 (.go 14 (.go 15 .nil))))) 11 (.go 12 (.go 7 (.go 13 (.go 14 (.go 15 .nil)))))))))))))))) [] [0, 2, 3, 4, 5, 6, 8, 9, 10, 12, 13, 14, 15] [qm 8 0,qo 9 (.call 9 157 [8]),qo 10 (.bin .eql .num 9 (.c (.int .u8 94))),qm 11 10,qg 11 12 (.mv 0),
 qg 11 13 (.nilck 12),qg 11 14 (.fa 13 1),qg 11 15 (ld 14),qg 11 16 (.mv 0),qg 11 17 (.nilck 16),qg 11 18 (.fa 17 0),qg 11 19 (ld 18),qg 11 20 (.len true 19),qg 11 21 (.bin .lss .num 15 20),qo 22 (.pick 11 21 bF),qm 4 22]) (.cut [0, 2, 3, 4] [(.x 0), (.s 2), (.s 3), (.x 1), (.x 2)] (sr [qm 23 4] (.cond 23 (.reg [qm 24 0,qo 25 (.nilck 24),
 qo 26 (.fa 25 1),qo 27 (ld 26),qo 28 (.bin .add .num 27 (iC 1)),qo 29 (.nilck 24),qo 30 (.fa 29 1),qp (.store 30 28 1)]) .skip)) (.cut [0, 2, 3, 4] [(.x 0), (.s 2), (.s 3), (.x 1), (.x 2)] (.block 0 (.loop (.keep [0, 2, 3, 4] [(.x 0), (.s 2), (.s 3), (.x 1), (.x 2)] (.aft (.cut [0, 2, 3, 4] [(.x 0), (.s 2), (.s 3), (.x 1), (.x 2)] (sr [qm 31 0,
 qo 32 (.call 32 156 [31]),qm 33 32,qg 33 34 (.mv 0),qg 33 35 (.call 35 157 [34]),qg 33 36 (.bin .neq .num 35 (.c (.int .u8 93))),qo 37 (.pick 33 36 bF)] (.cond 37 .skip (.exit 0))) (.cut1 [0, 2, 3, 4] [(.x 0), (.s 2), (.s 3), (.x 1), (.x 2)] (.block 1 (sr [qm 38 0,qo 39 (.call 39 180 [38]),qm 5 39] (sr [qm 40 5,qm 6 40]
 (.cut [0, 2, 3, 4, 5, 6] [(.x 0), (.s 2), (.s 3), (.x 1), (.x 2)] (.cut [0, 2, 3, 4, 5, 6, 47] [(.x 0), (.s 2), (.s 3), (.x 1), (.x 2)] (.reg [qm 41 0,qo 42 (.call 42 156 [41]),qm 43 42,qg 43 44 (.mv 0),qg 43 45 (.call 45 157 [44]),qg 43 46 (.bin .eql .num 45 (.c (.int .u8 45))),qo 47 (.pick 43 46 bF)]) (.cond 47 (sr [qm 48 0,qo 49 (.nilck 48),qo 50 (.fa 49 1),
 qo 51 (ld 50),qo 52 (.bin .add .num 51 (iC 1)),qo 53 (.nilck 48),qo 54 (.fa 53 1),qp (.store 54 52 1)] (.reg [qm 55 0,qo 56 (.call 56 180 [55]),qm 6 56])) .skip)) (.cut [0, 2, 3, 4, 5, 6] [(.x 0), (.s 2), (.s 3), (.x 1), (.x 2)] (.reg [qm 57 0,qm 58 0,qo 59 (.nilck 58),qo 60 (.fa 59 13),qo 61 (ld 60),qm 62 61,qf 62 63 (.mv 6),
 qf 62 64 (.mv 5),qf 62 65 (.bin .lss .num 63 64),qo 66 (.pick 62 bT 65),qo 67 (.nilck 57),qo 68 (.fa 67 13),qp (.store 68 66 1)]) (sr [qm 69 5,qo 70 (.conv .i64 69),qm 7 70] (.block 2 (.loop (.keep [0, 2, 3, 4, 6, 7] [(.x 0), (.s 2), (.s 3), (.x 1), (.x 2)] (.aft (.seq (sr [qm 71 7,qm 72 6,qo 73 (.conv .i64 72),qo 74 (.bin .leq .num 71 73),
 qm 75 74,qg 75 76 (.mv 0),qg 75 77 (.nilck 76),qg 75 78 (.fa 77 13),qg 75 79 (ld 78),qg 75 80 (.un .not 79),qo 81 (.pick 75 80 bF)] (.cond 81 .skip (.exit 2))) (.seq (.block 3 (.reg [qm 84 7,qo 85 (.conv .u8 84),qo 86 (.call 86 178 [3, 85])])) (.reg [qm 82 7,qo 83 (.bin .add .num 82 (iC 1)),
 qm 7 83]))) [.keep [0, 2, 3, 4, 6, 7] [(.x 0), (.s 2), (.s 3), (.x 1), (.x 2)]])))))))))))) [.keep [0, 2, 3, 4] [(.x 0), (.s 2), (.s 3), (.x 1), (.x 2)]])))) (.cut [0, 2, 3, 4] [(.x 0), (.s 2), (.s 3), (.x 1), (.x 2)] (.seq (.drw [] (oR 20) [19] (List.range 19) [qm 87 0,qm 88 0,qo 89 (.nilck 88),qo 90 (.fa 89 13),qo 91 (ld 90),qm 92 91,qf 92 93 (.mv 0),
 qf 92 94 (.nilck 93),qf 92 95 (.fa 94 1),qf 92 96 (ld 95),qf 92 97 (.mv 0),qf 92 98 (.nilck 97),qf 92 99 (.fa 98 0),qf 92 100 (ld 99),qf 92 101 (.len true 100),qf 92 102 (.bin .geq .num 96 101),qo 103 (.pick 92 bT 102),qo 104 (.nilck 87),qo 105 (.fa 104 13),qp (.store 105 103 1)]) (sr [qm 106 0,qo 107 (.nilck 106),qo 108 (.fa 107 13),
 qo 109 (ld 108)] (.cond 109 (sr [qo 110 (.load 3 4 true),qp (.store 2 110 4)] .ret) .skip))) (sr [qm 111 0,qo 112 (.nilck 111),qo 113 (.fa 112 1),qo 114 (ld 113),qo 115 (.bin .add .num 114 (iC 1)),qo 116 (.nilck 111),qo 117 (.fa 116 1),qp (.store 117 115 1)] (.seq (sr [qm 118 4] (.cond 118 (.reg [qo 119 (.call 119 176 [3])])
 .skip)) (sr [qm 120 0,qo 121 (.load 3 4 true),qo 122 (.build [.int .u64 0, .int .u64 0, .int .u64 0, .int .u64 0] []),qo 123 (.bin .eql (.two 4) 121 122),qo 124 (.nilck 120),qo 125 (.fa 124 13),qp (.store 125 123 1)] (sr [qo 126 (.load 3 4 true),qp (.store 2 126 4)] .ret))))))))))⟩
theorem w177 {O : Oracle TT} (fuel : Nat) (h178 : C178 O f178) (h156b : C156b O f156b) (h157b : C157b O f157b) (h180 : C180 O f180) (h176 : C176 O f176) : C177 (fun _ => vcF (S := SS) O j177) (f177 fuel) := by
 intro s5 v1C q9 vA vB vC vG vH vI vJ vK q1D rW rY n1M en1M n5 en5 Q R hQ h
 subst en1M
 subst en5
 unfold f177 at h
 refine ⟨nle rfl, rfl, ?_⟩
 obtain ⟨R0L, h, a0L, b0L⟩ := sc h
 refine kX (fun σ => ∃ (q0M : Bool) (lP : L4) (lQ : L4) (n1N : Nat) (n1O : Nat), n1N = lP.length ∧ n1O = lQ.length ∧ lP.length = rW.length ∧ lQ.length = rY.length ∧ R0L (.inr (q0M, lP, lQ)) ∧ σ = ⟨[(0, pX 0), pT 2, pT 3, (4, bD q0M)], [eV (.x 0) [.str s5, ci v1C, .osl (.x 1) 0 n1N, .osl (.x 2) 0 n1O, .bool q9, .int .u64 vA, .int .u64 vB, .int .u64 vC, .int .u64 vG, .int .u64 vH, .int .u64 vI, .int .u64 vJ, .int .u64 vK, .bool q1D], eV (.s 2) [.int .u64 0, .int .u64 0, .int .u64 0, .int .u64 0], eV (.s 3) [.int .u64 0, .int .u64 0, .int .u64 0, .int .u64 0], (.x 1, (eR .set4 lP)), (.x 2, (eR .set4 lQ))]⟩) ?_ ?_
 refine kL [(.x 0), (.x 1), (.x 2)] (h157b _ _ _ _ _ _ _ _ _ _ _ _ _ _ _ LN _ LN _ _ ?_ (sb h))
 rintro v2L lZ l00 _ rfl _ rfl hkrlZ hkrl00 h
 refine kc h ?_ ?_ <;> intro h
 conv => whnf
 refine ⟨?_, ?_⟩
 conv => whnf
 exact ⟨false, lZ, l00, _, _, LN, LN, LN, LN, ss h, rfl⟩
 conv => whnf
 exact ⟨false, lZ, l00, _, _, LN, LN, LN, LN, ss h, rfl⟩
 conv => whnf
 refine ⟨?_, ?_⟩
 refine kc h ?_ ?_ <;> intro h
 conv => whnf
 exact ⟨false, lZ, l00, _, _, LN, LN, LN, LN, ss h, rfl⟩
 conv => whnf
 exact ⟨true, lZ, l00, _, _, LN, LN, LN, LN, ss h, rfl⟩
 refine kc h ?_ ?_ <;> intro h
 conv => whnf
 exact ⟨false, lZ, l00, _, _, LN, LN, LN, LN, ss h, rfl⟩
 conv => whnf
 exact ⟨true, lZ, l00, _, _, LN, LN, LN, LN, ss h, rfl⟩
 rintro _ ⟨q0M, lP, lQ, _, _, rfl, rfl, hkllP, hkllQ, h, rfl⟩
 replace h := b0L _ h
 obtain ⟨R0N, h, a0N, b0N⟩ := sc h
 refine kX (fun σ => ∃ q6 v0O, R0N (.inr (q6, v0O)) ∧ σ = ⟨[(0, pX 0), pT 2, pT 3, (4, bD q6)], [eV (.x 0) [.str s5, ci v0O, .osl (.x 1) 0 lP.length, .osl (.x 2) 0 lQ.length, .bool q9, .int .u64 vA, .int .u64 vB, .int .u64 vC, .int .u64 vG, .int .u64 vH, .int .u64 vI, .int .u64 vJ, .int .u64 vK, .bool q1D], eV (.s 2) [.int .u64 0, .int .u64 0, .int .u64 0, .int .u64 0], eV (.s 3) [.int .u64 0, .int .u64 0, .int .u64 0, .int .u64 0], (.x 1, (eR .set4 lP)), (.x 2, (eR .set4 lQ))]⟩) ?_ ?_
 cases q0M
 replace h := cf h
 conv => whnf
 exact ⟨false, v1C, ss h, rfl⟩
 replace h := ct h
 conv => whnf
 exact ⟨true, (wrap .i64 (v1C + 1)), ss h, rfl⟩
 rintro _ ⟨q6, v0O, h, rfl⟩
 replace h := b0N _ h
 obtain ⟨R0E, h, a0E, b0E⟩ := sc h
 refine kX (fun σ => ∃ (v0P : Int) (q0Q : Bool) (v0R : Int) (v0S : Int) (v0T : Int) (v0U : Int) (lS : L4) (lU : L4) (n1P : Nat) (n1Q : Nat), n1P = lS.length ∧ n1Q = lU.length ∧ lS.length = rW.length ∧ lU.length = rY.length ∧ R0E (.inr (v0P, q0Q, v0R, v0S, v0T, v0U, lS, lU)) ∧ σ = ⟨[(0, pX 0), pT 2, pT 3, (4, bD q6)], [eV (.x 0) [.str s5, ci v0P, .osl (.x 1) 0 n1P, .osl (.x 2) 0 n1Q, .bool q9, .int .u64 vA, .int .u64 vB, .int .u64 vC, .int .u64 vG, .int .u64 vH, .int .u64 vI, .int .u64 vJ, .int .u64 vK, .bool q0Q], eV (.s 2) [.int .u64 0, .int .u64 0, .int .u64 0, .int .u64 0], eV (.s 3) [.int .u64 v0R, .int .u64 v0S, .int .u64 v0T, .int .u64 v0U], (.x 1, (eR .set4 lS)), (.x 2, (eR .set4 lU))]⟩) ?_ ?_
 refine kX (fun σ n => ∃ (f0V : Nat) (l05 : L4) (l06 : L4) (v07 : Int) (q1E : Bool) (vL : Int) (vM : Int) (vN : Int) (vO : Int) (n1R : Nat) (n1S : Nat), f0V = n ∧ n1R = l05.length ∧ n1S = l06.length ∧ l05.length = rW.length ∧ l06.length = rY.length ∧ sat (f177_L8 fuel s5 q9 vA vB vC vG vH vI vJ vK f0V l05 l06 v07 q1E vL vM vN vO) R0E ∧ σ.keep [0, 2, 3, 4] [(.x 0), (.s 2), (.s 3), (.x 1), (.x 2)] = ⟨[(0, pX 0), pT 2, pT 3, (4, bD q6)], [eV (.x 0) [.str s5, ci v07, .osl (.x 1) 0 n1R, .osl (.x 2) 0 n1S, .bool q9, .int .u64 vA, .int .u64 vB, .int .u64 vC, .int .u64 vG, .int .u64 vH, .int .u64 vI, .int .u64 vJ, .int .u64 vK, .bool q1E], eV (.s 2) [.int .u64 0, .int .u64 0, .int .u64 0, .int .u64 0], eV (.s 3) [.int .u64 vL, .int .u64 vM, .int .u64 vN, .int .u64 vO], (.x 1, (eR .set4 l05)), (.x 2, (eR .set4 l06))]⟩) ⟨_, _, lP, lQ, v0O, q1D, (0 : Int), (0 : Int), (0 : Int), (0 : Int), _, _, rfl, LN, LN, LN, LN, h, rfl⟩ ?_
 rintro σ n ⟨f0V, l05, l06, v07, q1E, vL, vM, vN, vO, _, _, rfl, rfl, rfl, hkll05, hkll06, h, hσ⟩
 refine kk hσ ?_
 rcases f0V with _ | g1T
 rw [f177_L8] at h; exact nn h
 rw [f177_L8] at h
 obtain ⟨R08, h, a08, b08⟩ := sc h
 refine kX (fun σ => ∃ (q1F : Bool) (l09 : L4) (l0A : L4) (n1U : Nat) (n1V : Nat), n1U = l09.length ∧ n1V = l0A.length ∧ l09.length = rW.length ∧ l0A.length = rY.length ∧ R08 (.inr (q1F, l09, l0A)) ∧ σ = ⟨[(0, pX 0), pT 2, pT 3, (4, bD q6)], [eV (.x 0) [.str s5, ci v07, .osl (.x 1) 0 n1U, .osl (.x 2) 0 n1V, .bool q9, .int .u64 vA, .int .u64 vB, .int .u64 vC, .int .u64 vG, .int .u64 vH, .int .u64 vI, .int .u64 vJ, .int .u64 vK, .bool q1F], eV (.s 2) [.int .u64 0, .int .u64 0, .int .u64 0, .int .u64 0], eV (.s 3) [.int .u64 vL, .int .u64 vM, .int .u64 vN, .int .u64 vO], (.x 1, (eR .set4 l09)), (.x 2, (eR .set4 l0A))]⟩) ?_ ?_
 refine kL [(.x 0), (.x 1), (.x 2)] (h156b _ _ _ _ _ _ _ _ _ _ _ _ _ _ _ LN _ LN _ _ ?_ (sb h))
 rintro q2A l1W l1X q1G _ rfl _ rfl hkrl1W hkrl1X h
 cases q2A
 replace h := cf h
 replace h := sat_lft a08 h
 conv => whnf
 exact ⟨v07, q1G, vL, vM, vN, vO, l1W, l1X, _, _, LN, LN, LN, LN, ss h, rfl⟩
 replace h := ct h
 refine kL [(.x 0), (.x 1), (.x 2)] (h157b _ _ _ _ _ _ _ _ _ _ _ _ _ _ _ LN _ LN _ _ ?_ (sb h))
 rintro v2M l1H l1I _ rfl _ rfl hkrl1H hkrl1I h
 refine kc h ?_ ?_ <;> intro h
 replace h := sat_lft a08 h
 conv => whnf
 exact ⟨v07, q1G, vL, vM, vN, vO, l1H, l1I, _, _, LN, LN, LN, LN, ss h, rfl⟩
 conv => whnf
 exact ⟨q1G, l1H, l1I, _, _, LN, LN, LN, LN, ss h, rfl⟩
 rintro _ ⟨q1F, l09, l0A, _, _, rfl, rfl, hkll09, hkll0A, h, rfl⟩
 replace h := b08 _ h
 obtain ⟨R0F, h, a0F, b0F⟩ := sc h
 refine kX (fun σ => ∃ (v0W : Int) (q0X : Bool) (v0Y : Int) (v0Z : Int) (v10 : Int) (v11 : Int) (l01 : L4) (l02 : L4) (n1Y : Nat) (n1Z : Nat), n1Y = l01.length ∧ n1Z = l02.length ∧ l01.length = rW.length ∧ l02.length = rY.length ∧ R0F (.inr (v0W, q0X, v0Y, v0Z, v10, v11, l01, l02)) ∧ σ = ⟨[(0, pX 0), pT 2, pT 3, (4, bD q6)], [eV (.x 0) [.str s5, ci v0W, .osl (.x 1) 0 n1Y, .osl (.x 2) 0 n1Z, .bool q9, .int .u64 vA, .int .u64 vB, .int .u64 vC, .int .u64 vG, .int .u64 vH, .int .u64 vI, .int .u64 vJ, .int .u64 vK, .bool q0X], eV (.s 2) [.int .u64 0, .int .u64 0, .int .u64 0, .int .u64 0], eV (.s 3) [.int .u64 v0Y, .int .u64 v0Z, .int .u64 v10, .int .u64 v11], (.x 1, (eR .set4 l01)), (.x 2, (eR .set4 l02))]⟩) ?_ ?_
 refine kL [(.x 0), (.x 1), (.x 2)] (h180 _ _ _ _ _ _ _ _ _ _ _ _ _ _ _ LN _ LN _ _ ?_ (sb h))
 rintro v0B v20 l2B l2C q2N _ rfl _ rfl hkrl2B hkrl2C h
 obtain ⟨R12, h, a12, b12⟩ := sc h
 refine kX (fun σ => ∃ (v0C : Int) (vV : Int) (q13 : Bool) (l7 : L4) (l8 : L4) (n21 : Nat) (n22 : Nat), n21 = l7.length ∧ n22 = l8.length ∧ l7.length = rW.length ∧ l8.length = rY.length ∧ R12 (.inr (v0C, vV, q13, l7, l8)) ∧ σ = ⟨[(0, pX 0), pT 2, pT 3, (4, bD q6), (5, .c (.int .u8 v0B)), (6, .c (.int .u8 v0C))], [eV (.x 0) [.str s5, ci vV, .osl (.x 1) 0 n21, .osl (.x 2) 0 n22, .bool q9, .int .u64 vA, .int .u64 vB, .int .u64 vC, .int .u64 vG, .int .u64 vH, .int .u64 vI, .int .u64 vJ, .int .u64 vK, .bool q13], eV (.s 2) [.int .u64 0, .int .u64 0, .int .u64 0, .int .u64 0], eV (.s 3) [.int .u64 vL, .int .u64 vM, .int .u64 vN, .int .u64 vO], (.x 1, (eR .set4 l7)), (.x 2, (eR .set4 l8))]⟩) ?_ ?_
 obtain ⟨R14, h, a14, b14⟩ := sc h
 refine kX (fun σ => ∃ (q15 : Bool) (q17 : Bool) (l03 : L4) (l04 : L4) (n23 : Nat) (n24 : Nat), n23 = l03.length ∧ n24 = l04.length ∧ l03.length = rW.length ∧ l04.length = rY.length ∧ R14 (.inr (q15, q17, l03, l04)) ∧ σ = ⟨[(0, pX 0), pT 2, pT 3, (4, bD q6), (5, .c (.int .u8 v0B)), (6, .c (.int .u8 v0B)), (47, bD q15)], [eV (.x 0) [.str s5, ci v20, .osl (.x 1) 0 n23, .osl (.x 2) 0 n24, .bool q9, .int .u64 vA, .int .u64 vB, .int .u64 vC, .int .u64 vG, .int .u64 vH, .int .u64 vI, .int .u64 vJ, .int .u64 vK, .bool q17], eV (.s 2) [.int .u64 0, .int .u64 0, .int .u64 0, .int .u64 0], eV (.s 3) [.int .u64 vL, .int .u64 vM, .int .u64 vN, .int .u64 vO], (.x 1, (eR .set4 l03)), (.x 2, (eR .set4 l04))]⟩) ?_ ?_
 refine kL [(.x 0), (.x 1), (.x 2)] (h156b _ _ _ _ _ _ _ _ _ _ _ _ _ _ _ LN _ LN _ _ ?_ (sb h))
 rintro q2D l25 l26 q1J _ rfl _ rfl hkrl25 hkrl26 h
 cases q2D
 replace h := cf h
 conv => whnf
 exact ⟨false, q1J, l25, l26, _, _, LN, LN, LN, LN, ss h, rfl⟩
 replace h := ct h
 refine kL [(.x 0), (.x 1), (.x 2)] (h157b _ _ _ _ _ _ _ _ _ _ _ _ _ _ _ LN _ LN _ _ ?_ (sb h))
 rintro v2O l1K l1L _ rfl _ rfl hkrl1K hkrl1L h
 refine kc h ?_ ?_ <;> intro h
 conv => whnf
 exact ⟨false, q1J, l1K, l1L, _, _, LN, LN, LN, LN, ss h, rfl⟩
 conv => whnf
 exact ⟨true, q1J, l1K, l1L, _, _, LN, LN, LN, LN, ss h, rfl⟩
 rintro _ ⟨q15, q17, l03, l04, _, _, rfl, rfl, hkll03, hkll04, h, rfl⟩
 replace h := b14 _ h
 cases q15
 replace h := cf h
 conv => whnf
 exact ⟨v0B, v20, q17, l03, l04, _, _, LN, LN, LN, LN, ss h, rfl⟩
 replace h := ct h
 refine kL [(.x 0), (.x 1), (.x 2)] (h180 _ _ _ _ _ _ _ _ _ _ _ _ _ _ _ LN _ LN _ _ ?_ (sb h))
 rintro v2E v2F l27 l28 q2G _ rfl _ rfl hkrl27 hkrl28 h
 conv => whnf
 exact ⟨v2E, v2F, q2G, l27, l28, _, _, LN, LN, LN, LN, ss h, rfl⟩
 rintro _ ⟨v0C, vV, q13, l7, l8, _, _, rfl, rfl, hkll7, hkll8, h, rfl⟩
 replace h := b12 _ h
 obtain ⟨R18, h, a18, b18⟩ := sc h
 refine kX (fun σ => ∃ q19, R18 (.inr q19) ∧ σ = ⟨[(0, pX 0), pT 2, pT 3, (4, bD q6), (5, .c (.int .u8 v0B)), (6, .c (.int .u8 v0C))], [eV (.x 0) [.str s5, ci vV, .osl (.x 1) 0 l7.length, .osl (.x 2) 0 l8.length, .bool q9, .int .u64 vA, .int .u64 vB, .int .u64 vC, .int .u64 vG, .int .u64 vH, .int .u64 vI, .int .u64 vJ, .int .u64 vK, .bool q19], eV (.s 2) [.int .u64 0, .int .u64 0, .int .u64 0, .int .u64 0], eV (.s 3) [.int .u64 vL, .int .u64 vM, .int .u64 vN, .int .u64 vO], (.x 1, (eR .set4 l7)), (.x 2, (eR .set4 l8))]⟩) ?_ ?_
 cases q13
 replace h := cf h
 refine kc h ?_ ?_ <;> intro h
 conv => whnf
 exact ⟨false, ss h, rfl⟩
 conv => whnf
 exact ⟨true, ss h, rfl⟩
 replace h := ct h
 conv => whnf
 exact ⟨true, ss h, rfl⟩
 rintro _ ⟨q19, h, rfl⟩
 replace h := b18 _ h
 refine kX (fun σ n => ∃ (f1A : Nat) (v1B : Int) (q0G : Bool) (v0H : Int) (v0I : Int) (v0J : Int) (v0K : Int), f1A = n ∧ sat (f177_L10 v0C vV l7 l8 f1A v1B q0G v0H v0I v0J v0K) R0F ∧ σ.keep [0, 2, 3, 4, 6, 7] [(.x 0), (.s 2), (.s 3), (.x 1), (.x 2)] = ⟨[(0, pX 0), pT 2, pT 3, (4, bD q6), (6, .c (.int .u8 v0C)), (7, iD v1B)], [eV (.x 0) [.str s5, ci vV, .osl (.x 1) 0 l7.length, .osl (.x 2) 0 l8.length, .bool q9, .int .u64 vA, .int .u64 vB, .int .u64 vC, .int .u64 vG, .int .u64 vH, .int .u64 vI, .int .u64 vJ, .int .u64 vK, .bool q0G], eV (.s 2) [.int .u64 0, .int .u64 0, .int .u64 0, .int .u64 0], eV (.s 3) [.int .u64 v0H, .int .u64 v0I, .int .u64 v0J, .int .u64 v0K], (.x 1, (eR .set4 l7)), (.x 2, (eR .set4 l8))]⟩) ⟨_, _, (wrap .i64 v0B), q19, vL, vM, vN, vO, rfl, h, rfl⟩ ?_
 rintro σ n ⟨f1A, v1B, q0G, v0H, v0I, v0J, v0K, rfl, h, hσ⟩
 refine kk hσ ?_
 rcases f1A with _ | g29
 rw [f177_L10] at h; exact nn h
 rw [f177_L10] at h
 refine kc h ?_ ?_ <;> intro h
 conv => whnf
 exact ⟨vV, q0G, v0H, v0I, v0J, v0K, l7, l8, _, _, LN, LN, LN, LN, ss h, rfl⟩
 cases q0G
 replace h := cf h
 refine kL [(.s 3)] (h178 _ _ _ _ _ _ _ ?_ (sb h))
 rintro v2H v2I v2J v2K h
 conv => whnf
 exact ⟨g29, nls, g29, (wrap .i64 (v1B + 1)), false, v2H, v2I, v2J, v2K, rfl, h, rfl⟩
 replace h := ct h
 conv => whnf
 exact ⟨vV, true, v0H, v0I, v0J, v0K, l7, l8, _, _, LN, LN, LN, LN, ss h, rfl⟩
 rintro _ ⟨v0W, q0X, v0Y, v0Z, v10, v11, l01, l02, _, _, rfl, rfl, hkll01, hkll02, h, rfl⟩
 replace h := b0F _ h
 conv => whnf
 exact ⟨g1T, nls, g1T, l01, l02, v0W, q0X, v0Y, v0Z, v10, v11, _, _, rfl, LN, LN, LN, LN, h, rfl⟩
 rintro _ ⟨v0P, q0Q, v0R, v0S, v0T, v0U, lS, lU, _, _, rfl, rfl, hkllS, hkllU, h, rfl⟩
 replace h := b0E _ h
 obtain ⟨R0D, h, a0D, b0D⟩ := sc h
 refine kX (fun σ => R0D (.inr ()) ∧ σ = ⟨[(0, pX 0), pT 2, pT 3, (4, bD q6)], [eV (.x 0) [.str s5, ci v0P, .osl (.x 1) 0 lS.length, .osl (.x 2) 0 lU.length, .bool q9, .int .u64 vA, .int .u64 vB, .int .u64 vC, .int .u64 vG, .int .u64 vH, .int .u64 vI, .int .u64 vJ, .int .u64 vK, .bool false], eV (.s 2) [.int .u64 0, .int .u64 0, .int .u64 0, .int .u64 0], eV (.s 3) [.int .u64 v0R, .int .u64 v0S, .int .u64 v0T, .int .u64 v0U], (.x 1, (eR .set4 lS)), (.x 2, (eR .set4 lU))]⟩) ?_ ?_
 cases q0Q
 replace h := cf h
 refine kc h ?_ ?_ <;> intro h
 conv => whnf
 exact ⟨ss h, rfl⟩
 replace h := sat_lft a0D h
 exact kR [] (ND 3) (hQ _ _ _ _ _ _ _ _ _ LN _ LN LN LN (ss h))
 replace h := ct h
 replace h := sat_lft a0D h
 exact kR [] (ND 3) (hQ _ _ _ _ _ _ _ _ _ LN _ LN LN LN (ss h))
 rintro _ ⟨h, rfl⟩
 replace h := b0D _ h
 cases q6
 replace h := cf h
 refine kc h ?_ ?_ <;> intro h
 exact kR [] (ND 3) (hQ _ _ _ _ _ _ _ _ _ LN _ LN LN LN (ss h))
 exact kR [] (ND 3) (hQ _ _ _ _ _ _ _ _ _ LN _ LN LN LN (ss h))
 replace h := ct h
 refine kL [(.s 3)] (h176 _ _ _ _ _ _ ?_ (sb h))
 rintro v2P v2Q v2R v2S h
 refine kc h ?_ ?_ <;> intro h
 exact kR [] (ND 3) (hQ _ _ _ _ _ _ _ _ _ LN _ LN LN LN (ss h))
 exact kR [] (ND 3) (hQ _ _ _ _ _ _ _ _ _ LN _ LN LN LN (ss h))
def f140 : Int → Int → Int → Int → Int → Option (Bool)
 | v0, v5, v6, v7, v8 => caseI (wrap .i64 (Int.tdiv v0 64)) [grdP (0 ≤ (Int.tmod v0 64)) (cond ((bAnd .u64 (bShr .u64 v5 (Int.tmod v0 64)) 1) == 1) (some true) (some false)), grdP (0 ≤ (Int.tmod v0 64)) (cond ((bAnd .u64 (bShr .u64 v6 (Int.tmod v0 64)) 1) == 1) (some true) (some false)), grdP (0 ≤ (Int.tmod v0 64)) (cond ((bAnd .u64 (bShr .u64 v7 (Int.tmod v0 64)) 1) == 1) (some true) (some false)), grdP (0 ≤ (Int.tmod v0 64)) (cond ((bAnd .u64 (bShr .u64 v8 (Int.tmod v0 64)) 1) == 1) (some true) (some false))]
def C140 (O : Oracle TT) (m : Int → Int → Int → Int → Int → Option (Bool)) : Prop :=
 ∀ v8 v0 v5 v6 v7 (Q : Bool → Prop) (R : RR) (_ : ∀ q9, Q q9 → R (bD q9) [eV (.x 0) [.int .u64 v0, .int .u64 v5, .int .u64 v6, .int .u64 v7]]) (_ : sat (m v8 v0 v5 v6 v7) Q), O 140 [pX 0, iD v8] [eV (.x 0) [.int .u64 v0, .int .u64 v5, .int .u64 v6, .int .u64 v7]] R
def j140 : Fn TT := ⟨16, [.t 4], (sr [qm 4 bF] (sr [qm 5 0,qm 6 1,qo 7 (.bin .quo .num 6 (iC 64)),qo 8 (.nilck 5),qo 9 (.idxC 8 7 1 4),qo 10 (ld 9),qm 11 1,qo 12 (.bin .rem .num 11 (iC 64)),qo 13 (.bin .shr .num 10 12),qo 14 (.bin .and .num 13 (.c (.int .u64 1))),qo 15 (.bin .eql .num 14 (.c (.int .u64 1))),qm 4 15] .ret))⟩
theorem w140 {O : Oracle TT} : C140 (fun _ => vcF (S := SS) O j140) f140 := by
 intro v6 v7 v8 v9 vA Q R hQ h
 unfold f140 at h
 refine ⟨nle rfl, rfl, ?_⟩
 conv => whnf
 refine ⟨by decide, ?_⟩
 conv => whnf
 obtain ⟨hbj5, h⟩ := sat_caseI h
 refine ⟨hbj5, fun j5 hj5 => ?_⟩
 replace h := h j5 hj5
 replace hbj5 : (0 : Int) ≤ (wrap .i64 (Int.tdiv v6 64)) ∧ (wrap .i64 (Int.tdiv v6 64)) < 4 := hbj5
 have hcj5 : j5 = 0 ∨ j5 = 1 ∨ j5 = 2 ∨ j5 = 3 := by omega
 rcases hcj5 with rfl | rfl | rfl | rfl
 replace h := sat_j0 h
 conv => whnf
 refine ⟨by decide, ?_⟩
 refine kp h fun hbB h => ?_
 refine kc h ?_ ?_ <;> intro h
 exact kR [] (ND 1) (hQ _ (ss h))
 exact kR [] (ND 1) (hQ _ (ss h))
 replace h := sat_j1 h
 conv => whnf
 refine ⟨by decide, ?_⟩
 refine kp h fun hbC h => ?_
 refine kc h ?_ ?_ <;> intro h
 exact kR [] (ND 1) (hQ _ (ss h))
 exact kR [] (ND 1) (hQ _ (ss h))
 replace h := sat_j2 h
 conv => whnf
 refine ⟨by decide, ?_⟩
 refine kp h fun hbE h => ?_
 refine kc h ?_ ?_ <;> intro h
 exact kR [] (ND 1) (hQ _ (ss h))
 exact kR [] (ND 1) (hQ _ (ss h))
 replace h := sat_j3 h
 conv => whnf
 refine ⟨by decide, ?_⟩
 refine kp h fun hbF h => ?_
 refine kc h ?_ ?_ <;> intro h
 exact kR [] (ND 1) (hQ _ (ss h))
 exact kR [] (ND 1) (hQ _ (ss h))
def f141_L1 (e6 : Nat) (w9 : Int) (wA : Int) (wC : Int) (wE : Int) : Nat → Int → L4 → Option (L4)
 | 0, v8, l7 => some l7
 | gF + 1, v8, l7 => caseI v8 [getN l7 e6 fun uuG => match uuG with | (wH, w07, w08, w09) => getN l7 e6 fun uuI => match uuI with | (w0A, wJ, wK, wL) => f141_L1 e6 w9 wA wC wE gF (v8 + 1) (l7.set e6 ((bOr .u64 wH w9), wJ, wK, wL)), getN l7 e6 fun uuM => match uuM with | (w0B, wN, w0C, w0D) => getN l7 e6 fun uuO => match uuO with | (wP, w0E, wQ, wS) => f141_L1 e6 w9 wA wC wE gF (v8 + 1) (l7.set e6 (wP, (bOr .u64 wN wA), wQ, wS)), getN l7 e6 fun uuT => match uuT with | (w0F, w0G, wU, w0H) => getN l7 e6 fun uuW => match uuW with | (wY, wZ, w0I, w00) => f141_L1 e6 w9 wA wC wE gF (v8 + 1) (l7.set e6 (wY, wZ, (bOr .u64 wU wC), w00)), getN l7 e6 fun uu01 => match uu01 with | (w0J, w0K, w0L, w02) => getN l7 e6 fun uu03 => match uu03 with | (w04, w05, w06, w0M) => f141_L1 e6 w9 wA wC wE gF (v8 + 1) (l7.set e6 (w04, w05, w06, (bOr .u64 w02 wE)))]
def f141 : Nat → N4 → L4 → Option (L4)
 | e6, (w7, w8, w9, wA), rC => grdP ((4 : Int) ≤ 9223372036854775807) (f141_L1 e6 w7 w8 w9 wA ((4 : Int) - 0).toNat 0 rC)
def C141 (O : Oracle TT) (m : Nat → N4 → L4 → Option (L4)) : Prop :=
 ∀ (e8 : Nat) w9 wA wC wE (r6 : L4) (Q : L4 → Prop) (R : RR) (_ : ∀ (l7 : L4) (_ : l7.length = r6.length), Q l7 → R (.tup []) [(.x 0, (eR .set4 l7))]) (_ : sat (m e8 (w9, wA, wC, wE) r6) Q), O 141 [.c (.ptr (.x 0) e8 0), .agg [.int .u64 w9, .int .u64 wA, .int .u64 wC, .int .u64 wE]] [(.x 0, (eR .set4 r6))] R
def j141 : Fn TT := ⟨20, [], (sr [qo 3 (.box 3 1)] (sr [qo 5 (.mv (iC 0))] (.block 0 (.loop (.keep [0, 3, 5] [(.x 0), (.s 3)] (.aft (sr [qo 6 (.bin .lss .num 5 (iC 4))] (.seq (.cond 6 .skip (.exit 0)) (.seq (.block 1 (sr [qm 7 5,qm 4 7] (.drw [] (oR 12) [11] (List.range 11) [qm 8 0,qm 9 4,qo 10 (.nilck 8),qo 11 (.idxC 10 9 1 4),
 qo 12 (ld 11),qm 13 4,qo 14 (.idxC 3 13 1 4),qo 15 (ld 14),qo 16 (.bin .or .num 12 15),qo 17 (.nilck 8),qo 18 (.idxC 17 9 1 4),qp (.store 18 16 1)]))) (.reg [qo 19 (.bin .add .num 5 (iC 1)),qm 5 19])))) [.keep [0, 3, 5] [(.x 0), (.s 3)]]))))))⟩
theorem w141 {O : Oracle TT} : C141 (fun _ => vcF (S := SS) O j141) f141 := by
 intro eC wF wG wH wI rJ Q R hQ h
 unfold f141 at h
 refine ⟨nle rfl, rfl, ?_⟩
 obtain ⟨hN0J, h⟩ := sat_grdP h
 refine kX (fun σ n => ∃ (f9 : Nat) (v8 : Int) (z : Int) (lA : L4), f9 = n ∧ f9 = (4 - v8).toNat ∧ 0 ≤ v8 ∧ v8 = z ∧ lA.length = rJ.length ∧ sat (f141_L1 eC wF wG wH wI f9 v8 lA) Q ∧ σ.keep [0, 3, 5] [(.x 0), (.s 3)] = ⟨[(0, .c (.ptr (.x 0) eC 0)), pT 3, (5, iD z)], [(.x 0, (eR .set4 lA)), eV (.s 3) [.int .u64 wF, .int .u64 wG, .int .u64 wH, .int .u64 wI]]⟩) ⟨_, _, 0, _, rJ, rfl, rfl, (by decide), rfl, LN, h, rfl⟩ ?_
 rintro σ n ⟨f9, v8, _, lA, rfl, hf9, hpf9, rfl, hkllA, h, hσ⟩
 refine kk hσ ?_
 intro tE (htE : tE = decide (v8 < 4))
 cases tE
 obtain rfl := il_nil hf9 htE
 rw [f141_L1] at h
 exact kR [] (ND 1) (hQ _ LN (ss h))
 obtain ⟨g6, rfl, hwg6, hpg6, hfg6⟩ := il_cons hf9 hpf9 htE hN0J
 rw [f141_L1] at h
 conv => whnf
 obtain ⟨hbj7, h⟩ := sat_caseI h
 refine ⟨hbj7, fun j7 hj7 => ?_⟩
 replace h := h j7 hj7
 replace hbj7 : (0 : Int) ≤ v8 ∧ v8 < 4 := hbj7
 have hcj7 : j7 = 0 ∨ j7 = 1 ∨ j7 = 2 ∨ j7 = 3 := by omega
 rcases hcj7 with rfl | rfl | rfl | rfl
 replace h := sat_j0 h
 refine kg (sat_getN h) fun uuK huuK h => ?_
 obtain ⟨wL, w0K, w0L, w0M⟩ := uuK
 conv => whnf
 refine ⟨⟨by omega, by omega⟩, fun jM hjM => ?_⟩
 obtain rfl : jM = 0 := by omega
 conv => whnf
 refine ⟨⟨by omega, by omega⟩, fun jN hjN => ?_⟩
 obtain rfl : jN = 0 := by omega
 refine kg (sat_getN h) fun uuO huuO h => ?_
 obtain ⟨w0N, wP, wQ, wS⟩ := uuO
 refine ⟨((bOr .u64 wL wF), wP, wQ, wS), rfl, ?_⟩
 conv => whnf
 exact ⟨g6, nls, g6, v8 + 1, _, (lA.set eC ((bOr .u64 wL wF), wP, wQ, wS)), rfl, hfg6, hpg6, hwg6.symm, LN, h, rfl⟩
 replace h := sat_j1 h
 refine kg (sat_getN h) fun uuT huuT h => ?_
 obtain ⟨w0O, wU, w0P, w0Q⟩ := uuT
 conv => whnf
 refine ⟨⟨by omega, by omega⟩, fun jW hjW => ?_⟩
 obtain rfl : jW = 1 := by omega
 conv => whnf
 refine ⟨⟨by omega, by omega⟩, fun jY hjY => ?_⟩
 obtain rfl : jY = 1 := by omega
 refine kg (sat_getN h) fun uuZ huuZ h => ?_
 obtain ⟨w00, w0R, w01, w02⟩ := uuZ
 refine ⟨(w00, (bOr .u64 wU wG), w01, w02), rfl, ?_⟩
 conv => whnf
 exact ⟨g6, nls, g6, v8 + 1, _, (lA.set eC (w00, (bOr .u64 wU wG), w01, w02)), rfl, hfg6, hpg6, hwg6.symm, LN, h, rfl⟩
 replace h := sat_j2 h
 refine kg (sat_getN h) fun uu03 huu03 h => ?_
 obtain ⟨w0S, w0T, w04, w0U⟩ := uu03
 conv => whnf
 refine ⟨⟨by omega, by omega⟩, fun j05 hj05 => ?_⟩
 obtain rfl : j05 = 2 := by omega
 conv => whnf
 refine ⟨⟨by omega, by omega⟩, fun j06 hj06 => ?_⟩
 obtain rfl : j06 = 2 := by omega
 refine kg (sat_getN h) fun uu07 huu07 h => ?_
 obtain ⟨w08, w09, w0V, w0A⟩ := uu07
 refine ⟨(w08, w09, (bOr .u64 w04 wH), w0A), rfl, ?_⟩
 conv => whnf
 exact ⟨g6, nls, g6, v8 + 1, _, (lA.set eC (w08, w09, (bOr .u64 w04 wH), w0A)), rfl, hfg6, hpg6, hwg6.symm, LN, h, rfl⟩
 replace h := sat_j3 h
 refine kg (sat_getN h) fun uu0B huu0B h => ?_
 obtain ⟨w0W, w0X, w0Y, w0C⟩ := uu0B
 conv => whnf
 refine ⟨⟨by omega, by omega⟩, fun j0D hj0D => ?_⟩
 obtain rfl : j0D = 3 := by omega
 conv => whnf
 refine ⟨⟨by omega, by omega⟩, fun j0E hj0E => ?_⟩
 obtain rfl : j0E = 3 := by omega
 refine kg (sat_getN h) fun uu0F huu0F h => ?_
 obtain ⟨w0G, w0H, w0I, w0Z⟩ := uu0F
 refine ⟨(w0G, w0H, w0I, (bOr .u64 w0C wI)), rfl, ?_⟩
 conv => whnf
 exact ⟨g6, nls, g6, v8 + 1, _, (lA.set eC (w0G, w0H, w0I, (bOr .u64 w0C wI))), rfl, hfg6, hpg6, hwg6.symm, LN, h, rfl⟩
def f169_L1 (w7 : Int) (w8 : Int) (w9 : Int) (wA : Int) (wB : Int) (wC : Int) (wE : Int) (wF : Int) (rG : L4) : Nat → Int → L4 → Option (L4 × L4)
 | 0, v5, l6 => some (rG, l6)
 | gH + 1, v5, l6 => (f140 v5 w7 w8 w9 wA).bind fun qI => cond qI (grdP ((0 : Int) ≤ v5 ∧ v5 < ((l6.length : Nat) : Int)) ((f141 (0 + v5.toNat) (wB, wC, wE, wF) l6).bind fun lJ => f169_L1 w7 w8 w9 wA wB wC wE wF rG gH (v5 + 1) lJ)) (f169_L1 w7 w8 w9 wA wB wC wE wF rG gH (v5 + 1) l6)
def f169 : N4 → N4 → BA → Int → Bool → Int → Int → Int → Int → Int → Int → Int → Int → Bool → L4 → L4 → Option (L4 × L4)
 | (w6, w7, w8, w9), (wA, wB, wC, wF), sH, vI, qJ, vK, vL, vM, vN, vO, vP, vQ, vR, qS, rG, r5 => grdP (((r5.length : Nat) : Int) ≤ 9223372036854775807) (f169_L1 w6 w7 w8 w9 wA wB wC wF rG (((r5.length : Nat) : Int) - 0).toNat 0 r5)
def C169 (O : Oracle TT) (m : N4 → N4 → BA → Int → Bool → Int → Int → Int → Int → Int → Int → Int → Int → Bool → L4 → L4 → Option (L4 × L4)) : Prop :=
 ∀ w5 wP wQ wR wS wT wU wV sA vB qC vF vG vH vI vJ vK vL vM qN (r6 : L4) (r7 : L4) (nO : Nat) (enO : nO = r6.length) (n5 : Nat) (en5 : n5 = r7.length) (Q : (L4 × L4) → Prop) (R : RR) (_ : ∀ (l8 : L4) (l9 : L4) (n0r : Nat) (_ : n0r = l8.length) (n1r : Nat) (_ : n1r = l9.length) (_ : l8.length = r6.length) (_ : l9.length = r7.length), Q (l8, l9) → R (.tup []) [eV (.x 0) [.str sA, ci vB, .osl (.x 1) 0 n0r, .osl (.x 2) 0 n1r, .bool qC, .int .u64 vF, .int .u64 vG, .int .u64 vH, .int .u64 vI, .int .u64 vJ, .int .u64 vK, .int .u64 vL, .int .u64 vM, .bool qN], (.x 1, (eR .set4 l8)), (.x 2, (eR .set4 l9))]) (_ : sat (m (w5, wP, wQ, wR) (wS, wT, wU, wV) sA vB qC vF vG vH vI vJ vK vL vM qN r6 r7) Q), O 169 [pX 0, .agg [.int .u64 w5, .int .u64 wP, .int .u64 wQ, .int .u64 wR], .agg [.int .u64 wS, .int .u64 wT, .int .u64 wU, .int .u64 wV]] [eV (.x 0) [.str sA, ci vB, .osl (.x 1) 0 nO, .osl (.x 2) 0 n5, .bool qC, .int .u64 vF, .int .u64 vG, .int .u64 vH, .int .u64 vI, .int .u64 vJ, .int .u64 vK, .int .u64 vL, .int .u64 vM, .bool qN], (.x 1, (eR .set4 r6)), (.x 2, (eR .set4 r7))] R
def j169 : Fn TT := ⟨28, [], (sr [qo 4 (.box 4 1),qo 5 (.box 5 2)] (sr [qm 7 0,qo 8 (.nilck 7),qo 9 (.fa 8 2),qo 10 (.fa 9 1),qo 11 (ld 10),qo 12 (.len false 11),qo 13 (.mv (iC 0))] (.block 0 (.loop (.keep [0, 4, 5, 12, 13] [(.x 0), (.s 4), (.s 5), (.x 1), (.x 2)] (.aft (sr [qo 14 (.bin .lss .num 13 12)] (.seq (.cond 14 .skip (.exit 0)) (.seq
 (.block 1 (sr [qm 15 13,qm 6 15] (sr [qm 16 6,qo 17 (.call 17 140 [4, 16])] (.cond 17 (.drw [(.x 2)] (oR 9) [] (List.range 8) [qm 18 0,qo 19 (.nilck 18),qo 20 (.fa 19 2),qo 21 (.fa 20 1),qo 22 (ld 21),qm 23 6,qo 24 (.idxA 22 23 4),qo 25 (.load 5 4 true),qo 26 (.call 26 141 [24, 25])]) .skip))))
 (.reg [qo 27 (.bin .add .num 13 (iC 1)),qm 13 27])))) [.keep [0, 4, 5, 12, 13] [(.x 0), (.s 4), (.s 5), (.x 1), (.x 2)]]))))))⟩
theorem w169 {O : Oracle TT} (h140 : C140 O f140) (h141 : C141 O f141) : C169 (fun _ => vcF (S := SS) O j169) f169 := by
 intro wA wG wH wI wJ wK wL wM sQ vR qS vT vU vV vW vY vZ v00 v01 q02 rF rB nN enN nA enA Q R hQ h
 subst enN
 subst enA
 unfold f169 at h
 refine ⟨nle rfl, rfl, ?_⟩
 intro hl05
 obtain ⟨hN03, h⟩ := sat_grdP h
 refine kX (fun σ n => ∃ (f6 : Nat) (v8 : Int) (z : Int) (l9 : L4) (nO : Nat), f6 = n ∧ f6 = (((rB.length : Nat) : Int) - v8).toNat ∧ 0 ≤ v8 ∧ v8 = z ∧ nO = l9.length ∧ l9.length = rB.length ∧ sat (f169_L1 wA wG wH wI wJ wK wL wM rF f6 v8 l9) Q ∧ σ.keep [0, 4, 5, 12, 13] [(.x 0), (.s 4), (.s 5), (.x 1), (.x 2)] = ⟨[(0, pX 0), pT 4, pT 5, (12, iD ((rB.length : Nat) : Int)), (13, iD z)], [eV (.x 0) [.str sQ, ci vR, .osl (.x 1) 0 rF.length, .osl (.x 2) 0 nO, .bool qS, .int .u64 vT, .int .u64 vU, .int .u64 vV, .int .u64 vW, .int .u64 vY, .int .u64 vZ, .int .u64 v00, .int .u64 v01, .bool q02], eV (.s 4) [.int .u64 wA, .int .u64 wG, .int .u64 wH, .int .u64 wI], eV (.s 5) [.int .u64 wJ, .int .u64 wK, .int .u64 wL, .int .u64 wM], (.x 1, (eR .set4 rF)), (.x 2, (eR .set4 l9))]⟩) ⟨_, _, 0, _, rB, _, rfl, rfl, (by decide), rfl, LN, LN, h, rfl⟩ ?_
 rintro σ n ⟨f6, v8, _, l9, _, rfl, hf6, hpf6, rfl, rfl, hkll9, h, hσ⟩
 refine kk hσ ?_
 intro tC (htC : tC = decide (v8 < ((rB.length : Nat) : Int)))
 cases tC
 obtain rfl := il_nil hf6 htC
 rw [f169_L1] at h
 exact kR [] (ND 3) (hQ _ _ _ LN _ LN LN LN (ss h))
 obtain ⟨g5, rfl, hwg5, hpg5, hfg5⟩ := il_cons hf6 hpf6 htC hN03
 rw [f169_L1] at h
 refine kL [(.s 4)] (h140 _ _ _ _ _ _ _ ?_ (sb h))
 rintro q04 h
 cases q04
 replace h := cf h
 conv => whnf
 exact ⟨g5, nls, g5, v8 + 1, _, l9, _, rfl, hfg5, hpg5, hwg5.symm, LN, LN, h, rfl⟩
 replace h := ct h
 refine kp h fun hb06 h => ?_
 refine kL [(.x 2)] (h141 _ _ _ _ _ _ _ _ ?_ (sb h))
 rintro lP hkrlP h
 conv => whnf
 exact ⟨g5, nls, g5, v8 + 1, _, lP, _, rfl, hfg5, hpg5, hwg5.symm, LN, LN, h, rfl⟩
def f141a_L1 (wA : Int) (wB : Int) (wC : Int) (wE : Int) : Nat → Int → Int → Int → Int → Int → Option N4
 | 0, v5, v6, v7, v8, v9 => some (v6, v7, v8, v9)
 | gF + 1, v5, v6, v7, v8, v9 => caseI v5 [f141a_L1 wA wB wC wE gF (v5 + 1) (bOr .u64 v6 wA) v7 v8 v9, f141a_L1 wA wB wC wE gF (v5 + 1) v6 (bOr .u64 v7 wB) v8 v9, f141a_L1 wA wB wC wE gF (v5 + 1) v6 v7 (bOr .u64 v8 wC) v9, f141a_L1 wA wB wC wE gF (v5 + 1) v6 v7 v8 (bOr .u64 v9 wE)]
def f141a : N4 → Bool → Int → Int → Int → Int → Int → Int → Int → Int → Option N4
 | (w5, w6, w7, w8), qE, v9, vA, vB, vC, vF, vG, vH, vI => grdP ((4 : Int) ≤ 9223372036854775807) (f141a_L1 w5 w6 w7 w8 ((4 : Int) - 0).toNat 0 v9 vA vB vC)
def C141a (O : Oracle TT) (m : N4 → Bool → Int → Int → Int → Int → Int → Int → Int → Int → Option N4) : Prop :=
 ∀ wA wB wC wE q5 vF vG vH vI v6 v7 v8 v9 (Q : N4 → Prop) (R : RR) (_ : ∀ vJ vK vL vM, Q (vJ, vK, vL, vM) → R (.tup []) [eV (.x 0) [.bool q5, .int .u64 vJ, .int .u64 vK, .int .u64 vL, .int .u64 vM, .int .u64 v6, .int .u64 v7, .int .u64 v8, .int .u64 v9]]) (_ : sat (m (wA, wB, wC, wE) q5 vF vG vH vI v6 v7 v8 v9) Q), O 141 [.c (.ptr (.x 0) 0 1), .agg [.int .u64 wA, .int .u64 wB, .int .u64 wC, .int .u64 wE]] [eV (.x 0) [.bool q5, .int .u64 vF, .int .u64 vG, .int .u64 vH, .int .u64 vI, .int .u64 v6, .int .u64 v7, .int .u64 v8, .int .u64 v9]] R
def j141a : Fn TT := ⟨20, [], (sr [qo 3 (.box 3 1)] (sr [qo 5 (.mv (iC 0))] (.block 0 (.loop (.keep [0, 3, 5] [(.x 0), (.s 3)] (.aft (sr [qo 6 (.bin .lss .num 5 (iC 4))] (.seq (.cond 6 .skip (.exit 0)) (.seq (.block 1 (sr [qm 7 5,qm 4 7] (.drw [] (oR 12) [11] (List.range 11) [qm 8 0,qm 9 4,qo 10 (.nilck 8),qo 11 (.idxC 10 9 1 4),
 qo 12 (ld 11),qm 13 4,qo 14 (.idxC 3 13 1 4),qo 15 (ld 14),qo 16 (.bin .or .num 12 15),qo 17 (.nilck 8),qo 18 (.idxC 17 9 1 4),qp (.store 18 16 1)]))) (.reg [qo 19 (.bin .add .num 5 (iC 1)),qm 5 19])))) [.keep [0, 3, 5] [(.x 0), (.s 3)]]))))))⟩
theorem w141a {O : Oracle TT} : C141a (fun _ => vcF (S := SS) O j141a) f141a := by
 intro wF wG wH wI qR vS vT vU vV vW vX vY vZ Q R hQ h
 unfold f141a at h
 refine ⟨nle rfl, rfl, ?_⟩
 obtain ⟨hN00, h⟩ := sat_grdP h
 refine kX (fun σ n => ∃ (f8 : Nat) (v7 : Int) (z : Int) (v9 : Int) (vA : Int) (vB : Int) (vC : Int), f8 = n ∧ f8 = (4 - v7).toNat ∧ 0 ≤ v7 ∧ v7 = z ∧ sat (f141a_L1 wF wG wH wI f8 v7 v9 vA vB vC) Q ∧ σ.keep [0, 3, 5] [(.x 0), (.s 3)] = ⟨[(0, .c (.ptr (.x 0) 0 1)), pT 3, (5, iD z)], [eV (.x 0) [.bool qR, .int .u64 v9, .int .u64 vA, .int .u64 vB, .int .u64 vC, .int .u64 vW, .int .u64 vX, .int .u64 vY, .int .u64 vZ], eV (.s 3) [.int .u64 wF, .int .u64 wG, .int .u64 wH, .int .u64 wI]]⟩) ⟨_, _, 0, _, vS, vT, vU, vV, rfl, rfl, (by decide), rfl, h, rfl⟩ ?_
 rintro σ n ⟨f8, v7, _, v9, vA, vB, vC, rfl, hf8, hpf8, rfl, h, hσ⟩
 refine kk hσ ?_
 intro tE (htE : tE = decide (v7 < 4))
 cases tE
 obtain rfl := il_nil hf8 htE
 rw [f141a_L1] at h
 exact kR [] (ND 1) (hQ _ _ _ _ (ss h))
 obtain ⟨g5, rfl, hwg5, hpg5, hfg5⟩ := il_cons hf8 hpf8 htE hN00
 rw [f141a_L1] at h
 conv => whnf
 obtain ⟨hbj6, h⟩ := sat_caseI h
 refine ⟨hbj6, fun j6 hj6 => ?_⟩
 replace h := h j6 hj6
 replace hbj6 : (0 : Int) ≤ v7 ∧ v7 < 4 := hbj6
 have hcj6 : j6 = 0 ∨ j6 = 1 ∨ j6 = 2 ∨ j6 = 3 := by omega
 rcases hcj6 with rfl | rfl | rfl | rfl
 replace h := sat_j0 h
 conv => whnf
 refine ⟨⟨by omega, by omega⟩, fun jJ hjJ => ?_⟩
 obtain rfl : jJ = 0 := by omega
 conv => whnf
 refine ⟨⟨by omega, by omega⟩, fun jK hjK => ?_⟩
 obtain rfl : jK = 0 := by omega
 conv => whnf
 exact ⟨g5, nls, g5, v7 + 1, _, (bOr .u64 v9 wF), vA, vB, vC, rfl, hfg5, hpg5, hwg5.symm, h, rfl⟩
 replace h := sat_j1 h
 conv => whnf
 refine ⟨⟨by omega, by omega⟩, fun jL hjL => ?_⟩
 obtain rfl : jL = 1 := by omega
 conv => whnf
 refine ⟨⟨by omega, by omega⟩, fun jM hjM => ?_⟩
 obtain rfl : jM = 1 := by omega
 conv => whnf
 exact ⟨g5, nls, g5, v7 + 1, _, v9, (bOr .u64 vA wG), vB, vC, rfl, hfg5, hpg5, hwg5.symm, h, rfl⟩
 replace h := sat_j2 h
 conv => whnf
 refine ⟨⟨by omega, by omega⟩, fun jN hjN => ?_⟩
 obtain rfl : jN = 2 := by omega
 conv => whnf
 refine ⟨⟨by omega, by omega⟩, fun jO hjO => ?_⟩
 obtain rfl : jO = 2 := by omega
 conv => whnf
 exact ⟨g5, nls, g5, v7 + 1, _, v9, vA, (bOr .u64 vB wH), vC, rfl, hfg5, hpg5, hwg5.symm, h, rfl⟩
 replace h := sat_j3 h
 conv => whnf
 refine ⟨⟨by omega, by omega⟩, fun jP hjP => ?_⟩
 obtain rfl : jP = 3 := by omega
 conv => whnf
 refine ⟨⟨by omega, by omega⟩, fun jQ hjQ => ?_⟩
 obtain rfl : jQ = 3 := by omega
 conv => whnf
 exact ⟨g5, nls, g5, v7 + 1, _, v9, vA, vB, (bOr .u64 vC wI), rfl, hfg5, hpg5, hwg5.symm, h, rfl⟩
def f141b_L1 (wA : Int) (wB : Int) (wC : Int) (wE : Int) : Nat → Int → Int → Int → Int → Int → Option N4
 | 0, v5, v6, v7, v8, v9 => some (v6, v7, v8, v9)
 | gF + 1, v5, v6, v7, v8, v9 => caseI v5 [f141b_L1 wA wB wC wE gF (v5 + 1) (bOr .u64 v6 wA) v7 v8 v9, f141b_L1 wA wB wC wE gF (v5 + 1) v6 (bOr .u64 v7 wB) v8 v9, f141b_L1 wA wB wC wE gF (v5 + 1) v6 v7 (bOr .u64 v8 wC) v9, f141b_L1 wA wB wC wE gF (v5 + 1) v6 v7 v8 (bOr .u64 v9 wE)]
def f141b : N4 → Bool → Int → Int → Int → Int → Int → Int → Int → Int → Option N4
 | (w5, w6, w7, w8), qE, vF, vG, vH, vI, v9, vA, vB, vC => grdP ((4 : Int) ≤ 9223372036854775807) (f141b_L1 w5 w6 w7 w8 ((4 : Int) - 0).toNat 0 v9 vA vB vC)
def C141b (O : Oracle TT) (m : N4 → Bool → Int → Int → Int → Int → Int → Int → Int → Int → Option N4) : Prop :=
 ∀ wA wB wC wE q5 v6 v7 v8 v9 vF vG vH vI (Q : N4 → Prop) (R : RR) (_ : ∀ vJ vK vL vM, Q (vJ, vK, vL, vM) → R (.tup []) [eV (.x 0) [.bool q5, .int .u64 v6, .int .u64 v7, .int .u64 v8, .int .u64 v9, .int .u64 vJ, .int .u64 vK, .int .u64 vL, .int .u64 vM]]) (_ : sat (m (wA, wB, wC, wE) q5 v6 v7 v8 v9 vF vG vH vI) Q), O 141 [.c (.ptr (.x 0) 0 5), .agg [.int .u64 wA, .int .u64 wB, .int .u64 wC, .int .u64 wE]] [eV (.x 0) [.bool q5, .int .u64 v6, .int .u64 v7, .int .u64 v8, .int .u64 v9, .int .u64 vF, .int .u64 vG, .int .u64 vH, .int .u64 vI]] R
def j141b : Fn TT := ⟨20, [], (sr [qo 3 (.box 3 1)] (sr [qo 5 (.mv (iC 0))] (.block 0 (.loop (.keep [0, 3, 5] [(.x 0), (.s 3)] (.aft (sr [qo 6 (.bin .lss .num 5 (iC 4))] (.seq (.cond 6 .skip (.exit 0)) (.seq (.block 1 (sr [qm 7 5,qm 4 7] (.drw [] (oR 12) [11] (List.range 11) [qm 8 0,qm 9 4,qo 10 (.nilck 8),qo 11 (.idxC 10 9 1 4),
 qo 12 (ld 11),qm 13 4,qo 14 (.idxC 3 13 1 4),qo 15 (ld 14),qo 16 (.bin .or .num 12 15),qo 17 (.nilck 8),qo 18 (.idxC 17 9 1 4),qp (.store 18 16 1)]))) (.reg [qo 19 (.bin .add .num 5 (iC 1)),qm 5 19])))) [.keep [0, 3, 5] [(.x 0), (.s 3)]]))))))⟩
theorem w141b {O : Oracle TT} : C141b (fun _ => vcF (S := SS) O j141b) f141b := by
 intro wF wG wH wI qR vS vT vU vV vW vX vY vZ Q R hQ h
 unfold f141b at h
 refine ⟨nle rfl, rfl, ?_⟩
 obtain ⟨hN00, h⟩ := sat_grdP h
 refine kX (fun σ n => ∃ (f8 : Nat) (v7 : Int) (z : Int) (v9 : Int) (vA : Int) (vB : Int) (vC : Int), f8 = n ∧ f8 = (4 - v7).toNat ∧ 0 ≤ v7 ∧ v7 = z ∧ sat (f141b_L1 wF wG wH wI f8 v7 v9 vA vB vC) Q ∧ σ.keep [0, 3, 5] [(.x 0), (.s 3)] = ⟨[(0, .c (.ptr (.x 0) 0 5)), pT 3, (5, iD z)], [eV (.x 0) [.bool qR, .int .u64 vS, .int .u64 vT, .int .u64 vU, .int .u64 vV, .int .u64 v9, .int .u64 vA, .int .u64 vB, .int .u64 vC], eV (.s 3) [.int .u64 wF, .int .u64 wG, .int .u64 wH, .int .u64 wI]]⟩) ⟨_, _, 0, _, vW, vX, vY, vZ, rfl, rfl, (by decide), rfl, h, rfl⟩ ?_
 rintro σ n ⟨f8, v7, _, v9, vA, vB, vC, rfl, hf8, hpf8, rfl, h, hσ⟩
 refine kk hσ ?_
 intro tE (htE : tE = decide (v7 < 4))
 cases tE
 obtain rfl := il_nil hf8 htE
 rw [f141b_L1] at h
 exact kR [] (ND 1) (hQ _ _ _ _ (ss h))
 obtain ⟨g5, rfl, hwg5, hpg5, hfg5⟩ := il_cons hf8 hpf8 htE hN00
 rw [f141b_L1] at h
 conv => whnf
 obtain ⟨hbj6, h⟩ := sat_caseI h
 refine ⟨hbj6, fun j6 hj6 => ?_⟩
 replace h := h j6 hj6
 replace hbj6 : (0 : Int) ≤ v7 ∧ v7 < 4 := hbj6
 have hcj6 : j6 = 0 ∨ j6 = 1 ∨ j6 = 2 ∨ j6 = 3 := by omega
 rcases hcj6 with rfl | rfl | rfl | rfl
 replace h := sat_j0 h
 conv => whnf
 refine ⟨⟨by omega, by omega⟩, fun jJ hjJ => ?_⟩
 obtain rfl : jJ = 0 := by omega
 conv => whnf
 refine ⟨⟨by omega, by omega⟩, fun jK hjK => ?_⟩
 obtain rfl : jK = 0 := by omega
 conv => whnf
 exact ⟨g5, nls, g5, v7 + 1, _, (bOr .u64 v9 wF), vA, vB, vC, rfl, hfg5, hpg5, hwg5.symm, h, rfl⟩
 replace h := sat_j1 h
 conv => whnf
 refine ⟨⟨by omega, by omega⟩, fun jL hjL => ?_⟩
 obtain rfl : jL = 1 := by omega
 conv => whnf
 refine ⟨⟨by omega, by omega⟩, fun jM hjM => ?_⟩
 obtain rfl : jM = 1 := by omega
 conv => whnf
 exact ⟨g5, nls, g5, v7 + 1, _, v9, (bOr .u64 vA wG), vB, vC, rfl, hfg5, hpg5, hwg5.symm, h, rfl⟩
 replace h := sat_j2 h
 conv => whnf
 refine ⟨⟨by omega, by omega⟩, fun jN hjN => ?_⟩
 obtain rfl : jN = 2 := by omega
 conv => whnf
 refine ⟨⟨by omega, by omega⟩, fun jO hjO => ?_⟩
 obtain rfl : jO = 2 := by omega
 conv => whnf
 exact ⟨g5, nls, g5, v7 + 1, _, v9, vA, (bOr .u64 vB wH), vC, rfl, hfg5, hpg5, hwg5.symm, h, rfl⟩
 replace h := sat_j3 h
 conv => whnf
 refine ⟨⟨by omega, by omega⟩, fun jP hjP => ?_⟩
 obtain rfl : jP = 3 := by omega
 conv => whnf
 refine ⟨⟨by omega, by omega⟩, fun jQ hjQ => ?_⟩
 obtain rfl : jQ = 3 := by omega
 conv => whnf
 exact ⟨g5, nls, g5, v7 + 1, _, v9, vA, vB, (bOr .u64 vC wI), rfl, hfg5, hpg5, hwg5.symm, h, rfl⟩
def f138_L2 (self155 : BA → Int → Bool → Int → Int → Int → Int → Int → Int → Int → Int → Bool → L4 → L4 → Option (Bool × Int × Int × Int × Int × Int × Int × Int × Int × Int × L4 × L4 × Bool)) (s6 : BA) (q7 : Bool) (v8 : Int) (v9 : Int) (vA : Int) (vB : Int) (vC : Int) (vF : Int) (vG : Int) (vH : Int) : Nat → L4 → L4 → Int → Bool → Bool → Int → Int → Int → Int → Int → Int → Int → Int → Option (Sum (Bool × Int × Int × Int × Int × Int × Int × Int × Int × Int × L4 × L4 × Bool) (Bool × Int × Int × Int × Int × Int × Int × Int × Int × Int × Bool × L4 × L4))
 | 0, _, _, _, _, _, _, _, _, _, _, _, _, _ => none
 | g02 + 1, l03, l04, v5, q05, qN, vO, vP, vQ, vR, vI, vJ, vK, vL => sbind (ο := Bool × L4 × L4) ((f156b s6 v5 q7 v8 v9 vA vB vC vF vG vH q05 l03 l04).bind fun (q06, lT, lU, qM) => cond q06 ((f157b s6 v5 q7 v8 v9 vA vB vC vF vG vH qM lT lU).bind fun (v07, lV, lW) => cond (v07 == 124) (some (.inr (qM, lV, lW))) (lft (some (.inr (qN, vO, vP, vQ, vR, vI, vJ, vK, vL, v5, qM, lV, lW))))) (lft (some (.inr (qN, vO, vP, vQ, vR, vI, vJ, vK, vL, v5, qM, lT, lU))))) (fun (q08, l09, l0A) => (self155 s6 (wrap .i64 (v5 + 1)) q7 v8 v9 vA vB vC vF vG vH q08 l09 l0A).bind fun (q0B, v0C, v0D, v0E, v0F, v0G, v0H, v0I, v0J, v0K, l0L, l0M, q0N) => sbind (ο := Bool) (cond qN (some (.inr true)) (some (.inr q0B))) (fun qS => (f141a (v0C, v0D, v0E, v0F) qS vO vP vQ vR vI vJ vK vL).bind fun (vY, vZ, v00, v01) => (f141b (v0G, v0H, v0I, v0J) qS vY vZ v00 v01 vI vJ vK vL).bind fun (v0O, v0P, v0Q, v0R) => f138_L2 self155 s6 q7 v8 v9 vA vB vC vF vG vH g02 l0L l0M v0K q0N qS vY vZ v00 v01 v0O v0P v0Q v0R))
def b138 (fuel : Nat) (self155 : BA → Int → Bool → Int → Int → Int → Int → Int → Int → Int → Int → Bool → L4 → L4 → Option (Bool × Int × Int × Int × Int × Int × Int × Int × Int × Int × L4 × L4 × Bool)) : BA → Int → Bool → Int → Int → Int → Int → Int → Int → Int → Int → Bool → L4 → L4 → Option (Bool × Int × Int × Int × Int × Int × Int × Int × Int × Int × L4 × L4 × Bool)
 | s5, vH, q6, v7, v8, v9, vA, vB, vC, vF, vG, qI, rJ, rK => (self155 s5 vH q6 v7 v8 v9 vA vB vC vF vG qI rJ rK).bind fun (qL, vM, vN, vO, vP, vQ, vR, vS, vT, vU, lV, lW, qY) => sbind (ο := Bool × Int × Int × Int × Int × Int × Int × Int × Int × Int × Bool × L4 × L4) (f138_L2 self155 s5 q6 v7 v8 v9 vA vB vC vF vG fuel lV lW vU qY qL vM vN vO vP vQ vR vS vT) (fun (qZ, v00, v01, v02, v03, v04, v05, v06, v07, v08, q09, l0A, l0B) => some (qZ, v00, v01, v02, v03, v04, v05, v06, v07, v08, l0A, l0B, q09))
def f155_L2 (self168 : BA → Int → Bool → Int → Int → Int → Int → Int → Int → Int → Int → Bool → L4 → L4 → Option (Bool × Int × Int × Int × Int × Int × Int × Int × Int × Int × L4 × L4 × Bool)) (s5 : BA) (q6 : Bool) (v7 : Int) (v8 : Int) (v9 : Int) (vA : Int) (vB : Int) (vC : Int) (vF : Int) (vG : Int) : Nat → L4 → L4 → Int → Bool → Bool → Int → Int → Int → Int → Int → Int → Int → Int → Option (Sum (Bool × Int × Int × Int × Int × Int × Int × Int × Int × Int × L4 × L4 × Bool) (Bool × Int × Int × Int × Int × Int × Int × Int × Int × Int × Bool × L4 × L4))
 | 0, _, _, _, _, _, _, _, _, _, _, _, _, _ => none
 | gZ + 1, l0H, l0I, vH, q0J, qR, vN, vO, vP, vQ, vI, vJ, vK, vL => sbind (ο := Bool × L4 × L4) ((f156b s5 vH q6 v7 v8 v9 vA vB vC vF vG q0J l0H l0I).bind fun (q0K, l00, l01, qM) => cond q0K ((f157b s5 vH q6 v7 v8 v9 vA vB vC vF vG qM l00 l01).bind fun (v0L, l02, l03) => cond (v0L != 124) ((f157b s5 vH q6 v7 v8 v9 vA vB vC vF vG qM l02 l03).bind fun (v0M, l04, l05) => cond (v0M != 41) (some (.inr (qM, l04, l05))) (lft (some (.inr (qR, vN, vO, vP, vQ, vI, vJ, vK, vL, vH, qM, l04, l05))))) (lft (some (.inr (qR, vN, vO, vP, vQ, vI, vJ, vK, vL, vH, qM, l02, l03))))) (lft (some (.inr (qR, vN, vO, vP, vQ, vI, vJ, vK, vL, vH, qM, l00, l01))))) (fun (q0N, l0O, l0P) => (self168 s5 vH q6 v7 v8 v9 vA vB vC vF vG q0N l0O l0P).bind fun (q0Q, v06, v07, v08, v09, v0R, v0S, v0T, v0U, vS, l0V, l0W, qT) => (f169 (vI, vJ, vK, vL) (v06, v07, v08, v09) s5 vS q6 v7 v8 v9 vA vB vC vF vG qT l0V l0W).bind fun (l0A, l0B) => sbind (ο := Bool × Int × Int × Int × Int) (cond qR ((f141a (v06, v07, v08, v09) true vN vO vP vQ vI vJ vK vL).bind fun (v0X, v0Y, v0Z, v10) => some (.inr (true, v0X, v0Y, v0Z, v10))) (some (.inr (false, vN, vO, vP, vQ)))) (fun (q0C, vU, vV, vW, vY) => sbind (ο := Int × Int × Int × Int × Bool) (cond q0Q (some (.inr (vI, vJ, vK, vL, true))) (some (.inr (0, 0, 0, 0, false)))) (fun (v11, v12, v13, v14, q15) => (f141b (v0R, v0S, v0T, v0U) q0C vU vV vW vY v11 v12 v13 v14).bind fun (v0D, v0E, v0F, v0G) => cond q0C (f155_L2 self168 s5 q6 v7 v8 v9 vA vB vC vF vG gZ l0A l0B vS qT q15 vU vV vW vY v0D v0E v0F v0G) (f155_L2 self168 s5 q6 v7 v8 v9 vA vB vC vF vG gZ l0A l0B vS qT false vU vV vW vY v0D v0E v0F v0G))))
def b155 (fuel : Nat) (self168 : BA → Int → Bool → Int → Int → Int → Int → Int → Int → Int → Int → Bool → L4 → L4 → Option (Bool × Int × Int × Int × Int × Int × Int × Int × Int × Int × L4 × L4 × Bool)) : BA → Int → Bool → Int → Int → Int → Int → Int → Int → Int → Int → Bool → L4 → L4 → Option (Bool × Int × Int × Int × Int × Int × Int × Int × Int × Int × L4 × L4 × Bool)
 | s5, v6, q7, v8, v9, vA, vB, vC, vF, vG, vH, qI, rJ, rK => sbind (ο := Bool × Int × Int × Int × Int × Int × Int × Int × Int × Int × Bool × L4 × L4) (f155_L2 self168 s5 q7 v8 v9 vA vB vC vF vG vH fuel rJ rK v6 qI true (0 : Int) (0 : Int) (0 : Int) (0 : Int) (0 : Int) (0 : Int) (0 : Int) (0 : Int)) (fun (qL, vM, vN, vO, vP, vQ, vR, vS, vT, vU, qV, lW, lY) => some (qL, vM, vN, vO, vP, vQ, vR, vS, vT, vU, lW, lY, qV))
def b168 (self173 : BA → Int → Bool → Int → Int → Int → Int → Int → Int → Int → Int → Bool → L4 → L4 → Option (Bool × Int × Int × Int × Int × Int × Int × Int × Int × Int × L4 × L4 × Bool)) : BA → Int → Bool → Int → Int → Int → Int → Int → Int → Int → Int → Bool → L4 → L4 → Option (Bool × Int × Int × Int × Int × Int × Int × Int × Int × Int × L4 × L4 × Bool)
 | sK, v00, qL, vM, vN, vO, vP, vQ, vR, vS, vT, q01, r02, r03 => (self173 sK v00 qL vM vN vO vP vQ vR vS vT q01 r02 r03).bind fun (qU, v7, v8, v9, vA, vB, vC, vF, vG, v5, l04, l05, q06) => (f156b sK v5 qL vM vN vO vP vQ vR vS vT q06 l04 l05).bind fun (q07, lY, lZ, q6) => cond q07 ((f157b sK v5 qL vM vN vO vP vQ vR vS vT q6 lY lZ).bind fun (vH, lI, lJ) => sbind (ο := Unit) (cond (vH != 42) (cond (vH != 43) (cond (vH != 63) (lft (some (qU, v7, v8, v9, vA, vB, vC, vF, vG, v5, lI, lJ, q6))) (some (.inr ()))) (some (.inr ()))) (some (.inr ()))) (fun () => cond (vH != 63) ((f169 (vB, vC, vF, vG) (v7, v8, v9, vA) sK (wrap .i64 (v5 + 1)) qL vM vN vO vP vQ vR vS vT q6 lI lJ).bind fun (lV, lW) => cond qU (some (true, v7, v8, v9, vA, vB, vC, vF, vG, (wrap .i64 (v5 + 1)), lV, lW, q6)) (cond (vH != 43) (some (true, v7, v8, v9, vA, vB, vC, vF, vG, (wrap .i64 (v5 + 1)), lV, lW, q6)) (some (false, v7, v8, v9, vA, vB, vC, vF, vG, (wrap .i64 (v5 + 1)), lV, lW, q6)))) (cond qU (some (true, v7, v8, v9, vA, vB, vC, vF, vG, (wrap .i64 (v5 + 1)), lI, lJ, q6)) (cond (vH != 43) (some (true, v7, v8, v9, vA, vB, vC, vF, vG, (wrap .i64 (v5 + 1)), lI, lJ, q6)) (some (false, v7, v8, v9, vA, vB, vC, vF, vG, (wrap .i64 (v5 + 1)), lI, lJ, q6)))))) (some (qU, v7, v8, v9, vA, vB, vC, vF, vG, v5, lY, lZ, q6))
def b173 (fuel : Nat) (self138 : BA → Int → Bool → Int → Int → Int → Int → Int → Int → Int → Int → Bool → L4 → L4 → Option (Bool × Int × Int × Int × Int × Int × Int × Int × Int × Int × L4 × L4 × Bool)) : BA → Int → Bool → Int → Int → Int → Int → Int → Int → Int → Int → Bool → L4 → L4 → Option (Bool × Int × Int × Int × Int × Int × Int × Int × Int × Int × L4 × L4 × Bool)
 | s6, v5, q7, v8, v9, vA, vB, vC, vF, vG, vH, qK, r05, r06 => (f157b s6 v5 q7 v8 v9 vA vB vC vF vG vH qK r05 r06).bind fun (vL, lI, lJ) => cond (vL == 40) ((self138 s6 (wrap .i64 (v5 + 1)) q7 v8 v9 vA vB vC vF vG vH qK lI lJ).bind fun (qP, vQ, vR, vS, vT, vU, vW, vY, vZ, vM, l00, l01, q07) => sbind (ο := Bool × L4 × L4) (cond q07 (some (.inr (true, l00, l01))) ((f157b s6 vM q7 v8 v9 vA vB vC vF vG vH false l00 l01).bind fun (v08, lN, lO) => cond (v08 != 41) (some (.inr (true, lN, lO))) (cond (decide (vM ≥ (s6.size : Int))) (some (.inr (true, lN, lO))) (some (.inr (false, lN, lO)))))) (fun (q09, l02, l03) => cond q09 (some (qP, vQ, vR, vS, vT, vU, vW, vY, vZ, vM, l02, l03, true)) (some (qP, vQ, vR, vS, vT, vU, vW, vY, vZ, (wrap .i64 (vM + 1)), l02, l03, false)))) (cond (vL == 46) ((f176 (0 : Int) (0 : Int) (0 : Int) (0 : Int)).bind fun (v0A, v0B, v0C, v0D) => (f179 (v0A, v0B, v0C, v0D) s6 (wrap .i64 (v5 + 1)) q7 v8 v9 vA vB vC vF vG vH qK lI lJ).bind fun (q0E, v0F, v0G, v0H, v0I, v0J, v0K, v0L, v0M, l0N, l0O, q0P) => some (q0E, v0F, v0G, v0H, v0I, v0J, v0K, v0L, v0M, (wrap .i64 (v5 + 1)), l0N, l0O, q0P)) (cond (vL == 91) ((f177 fuel s6 (wrap .i64 (v5 + 1)) q7 v8 v9 vA vB vC vF vG vH qK lI lJ).bind fun (((w0Q, w0R, w0S, w0T)), v04, l0U, l0V, q0W) => (f179 (w0Q, w0R, w0S, w0T) s6 v04 q7 v8 v9 vA vB vC vF vG vH q0W l0U l0V).bind fun (q0X, v0Y, v0Z, v10, v11, v12, v13, v14, v15, l16, l17, q18) => some (q0X, v0Y, v0Z, v10, v11, v12, v13, v14, v15, v04, l16, l17, q18)) (cond (vL == 92) (cond (decide ((wrap .i64 (v5 + 1)) ≥ (s6.size : Int))) (some (false, 0, 0, 0, 0, 0, 0, 0, 0, (wrap .i64 (v5 + 1)), lI, lJ, true)) (getB s6 (wrap .i64 (v5 + 1)) fun c19 => (f178 (c19.toNat : Int) (0 : Int) (0 : Int) (0 : Int) (0 : Int)).bind fun (v1A, v1B, v1C, v1D) => (f179 (v1A, v1B, v1C, v1D) s6 (wrap .i64 ((wrap .i64 (v5 + 1)) + 1)) q7 v8 v9 vA vB vC vF vG vH qK lI lJ).bind fun (q1E, v1F, v1G, v1H, v1I, v1J, v1K, v1L, v1M, l1N, l1O, q1P) => some (q1E, v1F, v1G, v1H, v1I, v1J, v1K, v1L, v1M, (wrap .i64 ((wrap .i64 (v5 + 1)) + 1)), l1N, l1O, q1P))) ((f91 (⟨#[124, 42, 43, 63, 40, 41, 91, 93]⟩ : BA) vL).bind fun v1Q => cond (decide (v1Q ≥ 0)) (some (false, 0, 0, 0, 0, 0, 0, 0, 0, (wrap .i64 (v5 + 1)), lI, lJ, true)) ((f178 vL (0 : Int) (0 : Int) (0 : Int) (0 : Int)).bind fun (v1R, v1S, v1T, v1U) => (f179 (v1R, v1S, v1T, v1U) s6 (wrap .i64 (v5 + 1)) q7 v8 v9 vA vB vC vF vG vH qK lI lJ).bind fun (q1V, v1W, v1X, v1Y, v1Z, v20, v21, v22, v23, l24, l25, q26) => some (q1V, v1W, v1X, v1Y, v1Z, v20, v21, v22, v23, (wrap .i64 (v5 + 1)), l24, l25, q26))))))
def S138 : Nat → (BA → Int → Bool → Int → Int → Int → Int → Int → Int → Int → Int → Bool → L4 → L4 → Option (Bool × Int × Int × Int × Int × Int × Int × Int × Int × Int × L4 × L4 × Bool)) × (BA → Int → Bool → Int → Int → Int → Int → Int → Int → Int → Int → Bool → L4 → L4 → Option (Bool × Int × Int × Int × Int × Int × Int × Int × Int × Int × L4 × L4 × Bool)) × (BA → Int → Bool → Int → Int → Int → Int → Int → Int → Int → Int → Bool → L4 → L4 → Option (Bool × Int × Int × Int × Int × Int × Int × Int × Int × Int × L4 × L4 × Bool)) × (BA → Int → Bool → Int → Int → Int → Int → Int → Int → Int → Int → Bool → L4 → L4 → Option (Bool × Int × Int × Int × Int × Int × Int × Int × Int × Int × L4 × L4 × Bool))
 | 0 => (fun _ _ _ _ _ _ _ _ _ _ _ _ _ _ => none, fun _ _ _ _ _ _ _ _ _ _ _ _ _ _ => none, fun _ _ _ _ _ _ _ _ _ _ _ _ _ _ => none, fun _ _ _ _ _ _ _ _ _ _ _ _ _ _ => none)
 | n + 1 => (b138 n (S138 n).2.1, b155 n (S138 n).2.2.1, b168 (S138 n).2.2.2, b173 n (S138 n).1)
def f138 (n : Nat) : BA → Int → Bool → Int → Int → Int → Int → Int → Int → Int → Int → Bool → L4 → L4 → Option (Bool × Int × Int × Int × Int × Int × Int × Int × Int × Int × L4 × L4 × Bool) := (S138 n).1
def f155 (n : Nat) : BA → Int → Bool → Int → Int → Int → Int → Int → Int → Int → Int → Bool → L4 → L4 → Option (Bool × Int × Int × Int × Int × Int × Int × Int × Int × Int × L4 × L4 × Bool) := (S138 n).2.1
def f168 (n : Nat) : BA → Int → Bool → Int → Int → Int → Int → Int → Int → Int → Int → Bool → L4 → L4 → Option (Bool × Int × Int × Int × Int × Int × Int × Int × Int × Int × L4 × L4 × Bool) := (S138 n).2.2.1
def f173 (n : Nat) : BA → Int → Bool → Int → Int → Int → Int → Int → Int → Int → Int → Bool → L4 → L4 → Option (Bool × Int × Int × Int × Int × Int × Int × Int × Int × Int × L4 × L4 × Bool) := (S138 n).2.2.2
def C138 (O : Oracle TT) (m : BA → Int → Bool → Int → Int → Int → Int → Int → Int → Int → Int → Bool → L4 → L4 → Option (Bool × Int × Int × Int × Int × Int × Int × Int × Int × Int × L4 × L4 × Bool)) : Prop :=
 ∀ s5 vM q6 v7 v8 v9 vA vB vC vF vG qN (rH : L4) (rI : L4) (nJ : Nat) (enJ : nJ = rH.length) (n5 : Nat) (en5 : n5 = rI.length) (Q : (Bool × Int × Int × Int × Int × Int × Int × Int × Int × Int × L4 × L4 × Bool) → Prop) (R : RR) (_ : ∀ qO vP vQ vR vS vT vU vV vW vY (lK : L4) (lL : L4) qZ (n0r : Nat) (_ : n0r = lK.length) (n1r : Nat) (_ : n1r = lL.length), Q (qO, vP, vQ, vR, vS, vT, vU, vV, vW, vY, lK, lL, qZ) → R (.agg [.bool qO, .int .u64 vP, .int .u64 vQ, .int .u64 vR, .int .u64 vS, .int .u64 vT, .int .u64 vU, .int .u64 vV, .int .u64 vW]) [eV (.x 0) [.str s5, ci vY, .osl (.x 3) 0 n0r, .osl (.x 4) 0 n1r, .bool q6, .int .u64 v7, .int .u64 v8, .int .u64 v9, .int .u64 vA, .int .u64 vB, .int .u64 vC, .int .u64 vF, .int .u64 vG, .bool qZ], (.x 1, none), (.x 2, none), (.x 3, (eR .set4 lK)), (.x 4, (eR .set4 lL))]) (_ : sat (m s5 vM q6 v7 v8 v9 vA vB vC vF vG qN rH rI) Q), O 138 [pX 0] [eV (.x 0) [.str s5, ci vM, .osl (.x 1) 0 nJ, .osl (.x 2) 0 n5, .bool q6, .int .u64 v7, .int .u64 v8, .int .u64 v9, .int .u64 vA, .int .u64 vB, .int .u64 vC, .int .u64 vF, .int .u64 vG, .bool qN], (.x 1, (eR .set4 rH)), (.x 2, (eR .set4 rI))] R
def j138 : Fn TT := ⟨39, [.cell 2 9 true], (sr [qo 2 (.alloc 2 [.bool false, .int .u64 0, .int .u64 0, .int .u64 0, .int .u64 0, .int .u64 0, .int .u64 0, .int .u64 0, .int .u64 0])] (sr [qm 5 0,qo 6 (.call 6 155 [5]),qo 3 (.alloc 3 [.bool false, .int .u64 0, .int .u64 0, .int .u64 0, .int .u64 0, .int .u64 0, .int .u64 0, .int .u64 0, .int .u64 0]),
 qp (.store 3 6 9)] (.cut [2, 3] [(.s 2), (.s 3), (.x 0), (.sub (.sub (.x 0) 600) 2), (.sub (.sub (.x 0) 600) 3)] (.block 0 (.pre [.ownc (.x 0) 2 .set4 (.sub (.sub (.x 0) 600) 2), .ownc (.x 0) 3 .set4 (.sub (.sub (.x 0) 600) 3)] (.loop (.keep [0, 2, 3] [(.x 0), (.s 2), (.s 3), (.sub (.sub (.x 0) 600) 2), (.sub (.sub (.x 0) 600) 3)] (.aft
 (.cut [0, 2, 3] [(.x 0), (.s 2), (.s 3), (.sub (.sub (.x 0) 600) 2), (.sub (.sub (.x 0) 600) 3)] (sr [qm 7 0,qo 8 (.call 8 156 [7]),qm 9 8,qg 9 10 (.mv 0),qg 9 11 (.call 11 157 [10]),qg 9 12 (.bin .eql .num 11 (.c (.int .u8 124))),qo 13 (.pick 9 12 bF)] (.cond 13 .skip (.exit 0))) (.block 1 (sr [qm 14 0,qo 15 (.nilck 14),qo 16 (.fa 15 1),
 qo 17 (ld 16),qo 18 (.bin .add .num 17 (iC 1)),qo 19 (.nilck 14),qo 20 (.fa 19 1),qp (.store 20 18 1)] (sr [qm 21 0,qo 22 (.call 22 155 [21]),qo 4 (.alloc 4 [.bool false, .int .u64 0, .int .u64 0, .int .u64 0, .int .u64 0, .int .u64 0, .int .u64 0, .int .u64 0, .int .u64 0]),qp (.store 4 22 9)]
 (.cut [0, 2, 3, 4] [(.x 0), (.s 2), (.s 3), (.s 4), (.sub (.s 22) 0), (.sub (.s 22) 1)] (.reg [qo 23 (.fa 3 0),qo 24 (ld 23),qm 25 24,qf 25 26 (.fa 4 0),qf 25 27 (ld 26),qo 28 (.pick 25 bT 27),qo 29 (.fa 3 0),qp (.store 29 28 1)]) (sr [qo 30 (.fa 3 1),qo 31 (.fa 4 1),qo 32 (.load 31 4 true),qo 33 (.call 33 141 [30, 32])] (.reg [qo 34 (.fa 3 5),
 qo 35 (.fa 4 5),qo 36 (.load 35 4 true),qo 37 (.call 37 141 [34, 36])]))))))) [.keep [0, 2, 3] [(.x 0), (.s 2), (.s 3), (.sub (.s 22) 0), (.sub (.s 22) 1)], .ownc (.x 0) 2 .set4 (.sub (.sub (.x 0) 600) 2), .ownc (.x 0) 3 .set4 (.sub (.sub (.x 0) 600) 3)]))))) (sr [qo 38 (.load 3 9 true),qp (.store 2 38 9)] .ret))))⟩
def C155 (O : Oracle TT) (m : BA → Int → Bool → Int → Int → Int → Int → Int → Int → Int → Int → Bool → L4 → L4 → Option (Bool × Int × Int × Int × Int × Int × Int × Int × Int × Int × L4 × L4 × Bool)) : Prop :=
 ∀ s5 vM q6 v7 v8 v9 vA vB vC vF vG qN (rH : L4) (rI : L4) (nJ : Nat) (enJ : nJ = rH.length) (n5 : Nat) (en5 : n5 = rI.length) (Q : (Bool × Int × Int × Int × Int × Int × Int × Int × Int × Int × L4 × L4 × Bool) → Prop) (R : RR) (_ : ∀ qO vP vQ vR vS vT vU vV vW vY (lK : L4) (lL : L4) qZ (n0r : Nat) (_ : n0r = lK.length) (n1r : Nat) (_ : n1r = lL.length), Q (qO, vP, vQ, vR, vS, vT, vU, vV, vW, vY, lK, lL, qZ) → R (.agg [.bool qO, .int .u64 vP, .int .u64 vQ, .int .u64 vR, .int .u64 vS, .int .u64 vT, .int .u64 vU, .int .u64 vV, .int .u64 vW]) [eV (.x 0) [.str s5, ci vY, .osl (.x 3) 0 n0r, .osl (.x 4) 0 n1r, .bool q6, .int .u64 v7, .int .u64 v8, .int .u64 v9, .int .u64 vA, .int .u64 vB, .int .u64 vC, .int .u64 vF, .int .u64 vG, .bool qZ], (.x 1, none), (.x 2, none), (.x 3, (eR .set4 lK)), (.x 4, (eR .set4 lL))]) (_ : sat (m s5 vM q6 v7 v8 v9 vA vB vC vF vG qN rH rI) Q), O 155 [pX 0] [eV (.x 0) [.str s5, ci vM, .osl (.x 1) 0 nJ, .osl (.x 2) 0 n5, .bool q6, .int .u64 v7, .int .u64 v8, .int .u64 v9, .int .u64 vA, .int .u64 vB, .int .u64 vC, .int .u64 vF, .int .u64 vG, .bool qN], (.x 1, (eR .set4 rH)), (.x 2, (eR .set4 rI))] R
def j155 : Fn TT := ⟨49, [.cell 2 9 true], (sr [qo 2 (.alloc 2 [.bool false, .int .u64 0, .int .u64 0, .int .u64 0, .int .u64 0, .int .u64 0, .int .u64 0, .int .u64 0, .int .u64 0])] (sr [qo 5 (.build [.bool false, .int .u64 0, .int .u64 0, .int .u64 0, .int .u64 0, .int .u64 0, .int .u64 0, .int .u64 0, .int .u64 0] [((0, 1), bT)]),
 qo 3 (.alloc 3 [.bool false, .int .u64 0, .int .u64 0, .int .u64 0, .int .u64 0, .int .u64 0, .int .u64 0, .int .u64 0, .int .u64 0]),qp (.store 3 5 9)] (.cut [2, 3] [(.s 2), (.s 3), (.x 0), (.sub (.sub (.x 0) 600) 2), (.sub (.sub (.x 0) 600) 3)] (.block 0 (.pre [.ownc (.x 0) 2 .set4 (.sub (.sub (.x 0) 600) 2), .ownc (.x 0) 3 .set4 (.sub (.sub (.x 0) 600) 3)]
 (.loop (.keep [0, 2, 3] [(.x 0), (.s 2), (.s 3), (.sub (.sub (.x 0) 600) 2), (.sub (.sub (.x 0) 600) 3)] (.aft (.cut [0, 2, 3] [(.x 0), (.s 2), (.s 3), (.sub (.sub (.x 0) 600) 2), (.sub (.sub (.x 0) 600) 3)] (sr [qm 6 0,qo 7 (.call 7 156 [6]),qm 8 7,qg 8 9 (.mv 0),qg 8 10 (.call 10 157 [9]),qg 8 11 (.bin .neq .num 10 (.c (.int .u8 124))),qo 12 (.pick 8 11 bF),
 qm 13 12,qg 13 14 (.mv 0),qg 13 15 (.call 15 157 [14]),qg 13 16 (.bin .neq .num 15 (.c (.int .u8 41))),qo 17 (.pick 13 16 bF)] (.cond 17 .skip (.exit 0))) (.block 1 (sr [qm 18 0,qo 19 (.call 19 168 [18]),qo 4 (.alloc 4 [.bool false, .int .u64 0, .int .u64 0, .int .u64 0, .int .u64 0, .int .u64 0, .int .u64 0, .int .u64 0, .int .u64 0]),qp (.store 4 19 9)] (.seq
 (.reg [qm 20 0,qo 21 (.fa 3 5),qo 22 (.load 21 4 true),qo 23 (.fa 4 1),qo 24 (.load 23 4 true),qo 25 (.call 25 169 [20, 22, 24])]) (.cut [0, 2, 3, 4] [(.x 0), (.s 2), (.s 3), (.s 4), (.sub (.s 19) 0), (.sub (.s 19) 1)] (sr [qo 26 (.fa 3 0),qo 27 (ld 26)] (.cond 27 (.reg [qo 28 (.fa 3 1),qo 29 (.fa 4 1),qo 30 (.load 29 4 true),qo 31 (.call 31 141 [28, 30])])
 .skip)) (.cut [0, 2, 3, 4] [(.x 0), (.s 2), (.s 3), (.s 4), (.sub (.s 19) 0), (.sub (.s 19) 1)] (sr [qo 32 (.fa 4 0),qo 33 (ld 32),qo 34 (.un .not 33)] (.cond 34 (.reg [qo 35 (.build [.int .u64 0, .int .u64 0, .int .u64 0, .int .u64 0] []),qo 36 (.fa 3 5),qp (.store 36 35 4)]) .skip)) (sr [qo 37 (.fa 3 5),qo 38 (.fa 4 5),qo 39 (.load 38 4 true),
 qo 40 (.call 40 141 [37, 39])] (.reg [qo 41 (.fa 3 0),qo 42 (ld 41),qm 43 42,qg 43 44 (.fa 4 0),qg 43 45 (ld 44),qo 46 (.pick 43 45 bF),qo 47 (.fa 3 0),qp (.store 47 46 1)])))))))) [.keep [0, 2, 3] [(.x 0), (.s 2), (.s 3), (.sub (.s 19) 0), (.sub (.s 19) 1)], .ownc (.x 0) 2 .set4 (.sub (.sub (.x 0) 600) 2), .ownc (.x 0) 3 .set4 (.sub (.sub (.x 0) 600) 3)])))))
 (sr [qo 48 (.load 3 9 true),qp (.store 2 48 9)] .ret))))⟩
def C168 (O : Oracle TT) (m : BA → Int → Bool → Int → Int → Int → Int → Int → Int → Int → Int → Bool → L4 → L4 → Option (Bool × Int × Int × Int × Int × Int × Int × Int × Int × Int × L4 × L4 × Bool)) : Prop :=
 ∀ s5 vM q6 v7 v8 v9 vA vB vC vF vG qN (rH : L4) (rI : L4) (nJ : Nat) (enJ : nJ = rH.length) (n5 : Nat) (en5 : n5 = rI.length) (Q : (Bool × Int × Int × Int × Int × Int × Int × Int × Int × Int × L4 × L4 × Bool) → Prop) (R : RR) (_ : ∀ qO vP vQ vR vS vT vU vV vW vY (lK : L4) (lL : L4) qZ (n0r : Nat) (_ : n0r = lK.length) (n1r : Nat) (_ : n1r = lL.length), Q (qO, vP, vQ, vR, vS, vT, vU, vV, vW, vY, lK, lL, qZ) → R (.agg [.bool qO, .int .u64 vP, .int .u64 vQ, .int .u64 vR, .int .u64 vS, .int .u64 vT, .int .u64 vU, .int .u64 vV, .int .u64 vW]) [eV (.x 0) [.str s5, ci vY, .osl (.x 3) 0 n0r, .osl (.x 4) 0 n1r, .bool q6, .int .u64 v7, .int .u64 v8, .int .u64 v9, .int .u64 vA, .int .u64 vB, .int .u64 vC, .int .u64 vF, .int .u64 vG, .bool qZ], (.x 1, none), (.x 2, none), (.x 3, (eR .set4 lK)), (.x 4, (eR .set4 lL))]) (_ : sat (m s5 vM q6 v7 v8 v9 vA vB vC vF vG qN rH rI) Q), O 168 [pX 0] [eV (.x 0) [.str s5, ci vM, .osl (.x 1) 0 nJ, .osl (.x 2) 0 n5, .bool q6, .int .u64 v7, .int .u64 v8, .int .u64 v9, .int .u64 vA, .int .u64 vB, .int .u64 vC, .int .u64 vF, .int .u64 vG, .bool qN], (.x 1, (eR .set4 rH)), (.x 2, (eR .set4 rI))] R
def j168 : Fn TT := ⟨47, [.cell 2 9 true], (sr [qo 2 (.alloc 2 [.bool false, .int .u64 0, .int .u64 0, .int .u64 0, .int .u64 0, .int .u64 0, .int .u64 0, .int .u64 0, .int .u64 0])] (sr [qm 5 0,qo 6 (.call 6 173 [5]),qo 3 (.alloc 3 [.bool false, .int .u64 0, .int .u64 0, .int .u64 0, .int .u64 0, .int .u64 0, .int .u64 0, .int .u64 0, .int .u64 0]),
 qp (.store 3 6 9)] (.seq (sr [qm 7 0,qo 8 (.call 8 156 [7]),qo 9 (.un .not 8)] (.cond 9 (sr [qo 10 (.load 3 9 true),qp (.store 2 10 9)] .ret) .skip)) (sr [qm 11 0,qo 12 (.call 12 157 [11]),qm 4 12] (.cut [0, 2, 3, 4] [(.x 0), (.s 2), (.s 3), (.sub (.s 6) 0), (.sub (.s 6) 1)] (sr [qm 13 4,qo 14 (.bin .neq .num 13 (.c (.int .u8 42))),
 qm 15 14,qg 15 16 (.mv 4),qg 15 17 (.bin .neq .num 16 (.c (.int .u8 43))),qo 18 (.pick 15 17 bF),qm 19 18,qg 19 20 (.mv 4),qg 19 21 (.bin .neq .num 20 (.c (.int .u8 63))),qo 22 (.pick 19 21 bF)] (.cond 22 (sr [qo 23 (.load 3 9 true),qp (.store 2 23 9)] .ret) .skip)) (sr [qm 24 0,qo 25 (.nilck 24),qo 26 (.fa 25 1),qo 27 (ld 26),
 qo 28 (.bin .add .num 27 (iC 1)),qo 29 (.nilck 24),qo 30 (.fa 29 1),qp (.store 30 28 1)] (.seq (sr [qm 31 4,qo 32 (.bin .neq .num 31 (.c (.int .u8 63)))] (.cond 32 (.reg [qm 33 0,qo 34 (.fa 3 5),qo 35 (.load 34 4 true),qo 36 (.fa 3 1),qo 37 (.load 36 4 true),qo 38 (.call 38 169 [33, 35, 37])]) .skip)) (sr [qo 39 (.fa 3 0),qo 40 (ld 39),
 qm 41 40,qf 41 42 (.mv 4),qf 41 43 (.bin .neq .num 42 (.c (.int .u8 43))),qo 44 (.pick 41 bT 43),qo 45 (.fa 3 0),qp (.store 45 44 1)] (sr [qo 46 (.load 3 9 true),qp (.store 2 46 9)] .ret)))))))))⟩
def C173 (O : Oracle TT) (m : BA → Int → Bool → Int → Int → Int → Int → Int → Int → Int → Int → Bool → L4 → L4 → Option (Bool × Int × Int × Int × Int × Int × Int × Int × Int × Int × L4 × L4 × Bool)) : Prop :=
 ∀ s5 vM q6 v7 v8 v9 vA vB vC vF vG qN (rH : L4) (rI : L4) (nJ : Nat) (enJ : nJ = rH.length) (n5 : Nat) (en5 : n5 = rI.length) (Q : (Bool × Int × Int × Int × Int × Int × Int × Int × Int × Int × L4 × L4 × Bool) → Prop) (R : RR) (_ : ∀ qO vP vQ vR vS vT vU vV vW vY (lK : L4) (lL : L4) qZ (n0r : Nat) (_ : n0r = lK.length) (n1r : Nat) (_ : n1r = lL.length), Q (qO, vP, vQ, vR, vS, vT, vU, vV, vW, vY, lK, lL, qZ) → R (.agg [.bool qO, .int .u64 vP, .int .u64 vQ, .int .u64 vR, .int .u64 vS, .int .u64 vT, .int .u64 vU, .int .u64 vV, .int .u64 vW]) [eV (.x 0) [.str s5, ci vY, .osl (.x 3) 0 n0r, .osl (.x 4) 0 n1r, .bool q6, .int .u64 v7, .int .u64 v8, .int .u64 v9, .int .u64 vA, .int .u64 vB, .int .u64 vC, .int .u64 vF, .int .u64 vG, .bool qZ], (.x 1, none), (.x 2, none), (.x 3, (eR .set4 lK)), (.x 4, (eR .set4 lL))]) (_ : sat (m s5 vM q6 v7 v8 v9 vA vB vC vF vG qN rH rI) Q), O 173 [pX 0] [eV (.x 0) [.str s5, ci vM, .osl (.x 1) 0 nJ, .osl (.x 2) 0 n5, .bool q6, .int .u64 v7, .int .u64 v8, .int .u64 v9, .int .u64 vA, .int .u64 vB, .int .u64 vC, .int .u64 vF, .int .u64 vG, .bool qN], (.x 1, (eR .set4 rH)), (.x 2, (eR .set4 rI))] R
def j173 : Fn TT := ⟨113, [.cell 2 9 true], (sr [qo 2 (.alloc 2 [.bool false, .int .u64 0, .int .u64 0, .int .u64 0, .int .u64 0, .int .u64 0, .int .u64 0, .int .u64 0, .int .u64 0])] (sr [qm 6 0,qo 7 (.call 7 157 [6]),qm 3 7] (sr [qm 8 0,qo 9 (.nilck 8),qo 10 (.fa 9 1),qo 11 (ld 10),qo 12 (.bin .add .num 11 (iC 1)),
 qo 13 (.nilck 8),qo 14 (.fa 13 1),qp (.store 14 12 1)] (sr [qo 4 (.alloc 4 [.int .u64 0, .int .u64 0, .int .u64 0, .int .u64 0])] (.seq (.block 0 (sr [qm 18 3,qo 19 (.bin .eql .num 18 (.c (.int .u8 40))),qm 17 19] (.cond 17 (sr [qm 20 0,qo 21 (.call 21 138 [20]),
 qo 5 (.alloc 5 [.bool false, .int .u64 0, .int .u64 0, .int .u64 0, .int .u64 0, .int .u64 0, .int .u64 0, .int .u64 0, .int .u64 0]),qp (.store 5 21 9)] (.seq (.cut [0, 2, 5] [(.x 0), (.s 2), (.s 5), (.x 1), (.x 2), (.sub (.s 21) 0), (.sub (.s 21) 1)]
 (.drw [(.x 0), (.x 1), (.x 2), (.sub (.s 21) 0), (.sub (.s 21) 1)] (.go 0 (.go 1 (.go 2 (.go 3 (.go 4 (.go 5 (.go 6 (.go 7 (.go 8 (.go 9 (.go 10 (.go 11 (.go 12 (.go 13 (.go 15 (.go 16 (.go 17 (.alt 14 (.go 18 (.go 19 (.go 20 (.go 21 (.go 22 (.go 23 (.go 24 .nil))))))) 18 (.go 19 (.go 14 (.go 20 (.go 21 (.go 22 (.go 23 (.go 24 .nil))))))))))))))))))))))))) [24] [0, 1, 2, 3, 5, 6, 8, 9, 10, 11, 12, 13, 15, 16, 17, 19, 20, 21, 22, 23] [qm 22 0,
 qm 23 0,qo 24 (.nilck 23),qo 25 (.fa 24 13),qo 26 (ld 25),qm 27 26,qf 27 28 (.mv 0),qf 27 29 (.call 29 157 [28]),qf 27 30 (.bin .neq .num 29 (.c (.int .u8 41))),qo 31 (.pick 27 bT 30),qm 32 31,qf 32 33 (.mv 0),qf 32 34 (.nilck 33),qf 32 35 (.fa 34 1),qf 32 36 (ld 35),qf 32 37 (.mv 0),qf 32 38 (.nilck 37),qf 32 39 (.fa 38 0),
 qf 32 40 (ld 39),qf 32 41 (.len true 40),qf 32 42 (.bin .geq .num 36 41),qo 43 (.pick 32 bT 42),qo 44 (.nilck 22),qo 45 (.fa 44 13),qp (.store 45 43 1)]) (sr [qm 46 0,qo 47 (.nilck 46),qo 48 (.fa 47 13),qo 49 (ld 48),qo 50 (.un .not 49)] (.cond 50 (.reg [qm 51 0,qo 52 (.nilck 51),qo 53 (.fa 52 1),qo 54 (ld 53),
 qo 55 (.bin .add .num 54 (iC 1)),qo 56 (.nilck 51),qo 57 (.fa 56 1),qp (.store 57 55 1)]) .skip))) (sr [qo 58 (.load 5 9 true),qp (.store 2 58 9)] (.pre [.ownc (.x 0) 2 .set4 (.sub (.sub (.x 0) 801) 2), .ownc (.x 0) 3 .set4 (.sub (.sub (.x 0) 801) 3)] .ret)))) (sr [qm 60 3,qo 61 (.bin .eql .num 60 (.c (.int .u8 46))),qm 59 61] (.cond 59
 (.reg [qo 62 (.call 62 176 [4])]) (sr [qm 64 3,qo 65 (.bin .eql .num 64 (.c (.int .u8 91))),qm 63 65] (.cond 63 (.reg [qm 66 0,qo 67 (.call 67 177 [66]),qp (.store 4 67 4)]) (sr [qm 69 3,qo 70 (.bin .eql .num 69 (.c (.int .u8 92))),qm 68 70] (.cond 68 (.seq (.seq (.drw [] (oR 10) [] (List.range 10) [qm 71 0,qo 72 (.nilck 71),
 qo 73 (.fa 72 1),qo 74 (ld 73),qm 75 0,qo 76 (.nilck 75),qo 77 (.fa 76 0),qo 78 (ld 77),qo 79 (.len true 78),qo 80 (.bin .geq .num 74 79)]) (.cond 80 (sr [qm 81 0,qo 82 (.nilck 81),qo 83 (.fa 82 13),qp (.store 83 bT 1)] (.seq
 (.reg [qo 84 (.build [.bool false, .int .u64 0, .int .u64 0, .int .u64 0, .int .u64 0, .int .u64 0, .int .u64 0, .int .u64 0, .int .u64 0] []),qp (.store 2 84 9)]) (.pre [.ownc (.x 0) 2 .set4 (.sub (.sub (.x 0) 801) 2), .ownc (.x 0) 3 .set4 (.sub (.sub (.x 0) 801) 3)] .ret))) .skip)) (.seq (.drw [(.s 4)] (oR 10) [] (List.range 9) [qm 85 0,qo 86 (.nilck 85),qo 87 (.fa 86 0),
 qo 88 (ld 87),qm 89 0,qo 90 (.nilck 89),qo 91 (.fa 90 1),qo 92 (ld 91),qo 93 (.idxS 88 92),qo 94 (.call 94 178 [4, 93])]) (.reg [qm 95 0,qo 96 (.nilck 95),qo 97 (.fa 96 1),qo 98 (ld 97),qo 99 (.bin .add .num 98 (iC 1)),qo 100 (.nilck 95),qo 101 (.fa 100 1),qp (.store 101 99 1)]))) (sr [qm 103 3,
 qo 104 (.call 104 91 [(.c (.str (⟨#[124, 42, 43, 63, 40, 41, 91, 93]⟩ : BA))), 103]),qo 105 (.bin .geq .num 104 (iC 0)),qm 102 105] (.cond 102 (sr [qm 106 0,qo 107 (.nilck 106),qo 108 (.fa 107 13),qp (.store 108 bT 1)] (.seq
 (.reg [qo 109 (.build [.bool false, .int .u64 0, .int .u64 0, .int .u64 0, .int .u64 0, .int .u64 0, .int .u64 0, .int .u64 0, .int .u64 0] []),qp (.store 2 109 9)]) (.pre [.ownc (.x 0) 2 .set4 (.sub (.sub (.x 0) 801) 2), .ownc (.x 0) 3 .set4 (.sub (.sub (.x 0) 801) 3)] .ret))) (.reg [qm 15 3,qo 16 (.call 16 178 [4, 15])])))))))))))) (sr [qm 110 0,qo 111 (.load 4 4 true),
 qo 112 (.call 112 179 [110, 111]),qp (.store 2 112 9)] .ret))))))⟩
theorem w138 {O : Oracle TT} (fuel : Nat) (self155 : BA → Int → Bool → Int → Int → Int → Int → Int → Int → Int → Int → Bool → L4 → L4 → Option (Bool × Int × Int × Int × Int × Int × Int × Int × Int × Int × L4 × L4 × Bool)) (h155 : C155 O self155) (h156b : C156b O f156b) (h157b : C157b O f157b) (h141a : C141a O f141a) (h141b : C141b O f141b) : C138 (fun _ => vcF (S := SS) O j138) (b138 fuel self155) := by
 intro s5 v1U qJ vK vL vM vN vO vP vQ vS q1V r1W r1X n0M en0M n5 en5 Q R hQ h
 subst en0M
 subst en5
 unfold b138 at h
 refine ⟨nle rfl, rfl, ?_⟩
 refine kL [(.x 0), (.x 1), (.x 2)] (h155 _ _ _ _ _ _ _ _ _ _ _ _ _ _ _ LN _ LN _ _ ?_ (sb h))
 rintro q0Z v10 v11 v12 v13 v14 v15 v17 v18 v19 l1A l1B q1C _ rfl _ rfl h
 obtain ⟨RT, h, aT, hrRT⟩ := sc h
 refine kX (fun σ => ∃ (q04 : Bool) (v05 : Int) (v06 : Int) (v07 : Int) (v08 : Int) (v09 : Int) (v0A : Int) (v0B : Int) (v0C : Int) (v0D : Int) (q0E : Bool) (lU : L4) (lV : L4) (n0N : Nat) (n0O : Nat), n0N = lU.length ∧ n0O = lV.length ∧ RT (.inr (q04, v05, v06, v07, v08, v09, v0A, v0B, v0C, v0D, q0E, lU, lV)) ∧ σ = ⟨[pT 2, pT 3], [eV (.s 2) [.bool false, .int .u64 0, .int .u64 0, .int .u64 0, .int .u64 0, .int .u64 0, .int .u64 0, .int .u64 0, .int .u64 0], eV (.s 3) [.bool q04, .int .u64 v05, .int .u64 v06, .int .u64 v07, .int .u64 v08, .int .u64 v09, .int .u64 v0A, .int .u64 v0B, .int .u64 v0C], eV (.x 0) [.str s5, ci v0D, .osl (.sub (.sub (.x 0) 600) 2) 0 n0N, .osl (.sub (.sub (.x 0) 600) 3) 0 n0O, .bool qJ, .int .u64 vK, .int .u64 vL, .int .u64 vM, .int .u64 vN, .int .u64 vO, .int .u64 vP, .int .u64 vQ, .int .u64 vS, .bool q0E], (.sub (.sub (.x 0) 600) 2, (eR .set4 lU)), (.sub (.sub (.x 0) 600) 3, (eR .set4 lV))]⟩) ?_ ?_
 refine kX (fun σ n => ∃ (fW : Nat) (lY : L4) (lZ : L4) (vH : Int) (q0F : Bool) (q6 : Bool) (v7 : Int) (v8 : Int) (v9 : Int) (vA : Int) (vB : Int) (vC : Int) (vF : Int) (vG : Int) (n0P : Nat) (n0Q : Nat), fW = n ∧ n0P = lY.length ∧ n0Q = lZ.length ∧ sat (f138_L2 self155 s5 qJ vK vL vM vN vO vP vQ vS fW lY lZ vH q0F q6 v7 v8 v9 vA vB vC vF vG) RT ∧ σ.keep [0, 2, 3] [(.x 0), (.s 2), (.s 3), (.sub (.sub (.x 0) 600) 2), (.sub (.sub (.x 0) 600) 3)] = ⟨[(0, pX 0), pT 2, pT 3], [eV (.x 0) [.str s5, ci vH, .osl (.sub (.sub (.x 0) 600) 2) 0 n0P, .osl (.sub (.sub (.x 0) 600) 3) 0 n0Q, .bool qJ, .int .u64 vK, .int .u64 vL, .int .u64 vM, .int .u64 vN, .int .u64 vO, .int .u64 vP, .int .u64 vQ, .int .u64 vS, .bool q0F], eV (.s 2) [.bool false, .int .u64 0, .int .u64 0, .int .u64 0, .int .u64 0, .int .u64 0, .int .u64 0, .int .u64 0, .int .u64 0], eV (.s 3) [.bool q6, .int .u64 v7, .int .u64 v8, .int .u64 v9, .int .u64 vA, .int .u64 vB, .int .u64 vC, .int .u64 vF, .int .u64 vG], (.sub (.sub (.x 0) 600) 2, (eR .set4 lY)), (.sub (.sub (.x 0) 600) 3, (eR .set4 lZ))]⟩) ⟨_, _, l1A, l1B, v19, q1C, q0Z, v10, v11, v12, v13, v14, v15, v17, v18, _, _, rfl, LN, LN, h, rfl⟩ ?_
 rintro σ n ⟨fW, lY, lZ, vH, q0F, q6, v7, v8, v9, vA, vB, vC, vF, vG, _, _, rfl, rfl, rfl, h, hσ⟩
 refine kk hσ ?_
 rcases fW with _ | g0R
 rw [f138_L2] at h; exact nn h
 rw [f138_L2] at h
 obtain ⟨RI, h, aI, hrRI⟩ := sc h
 refine kX (fun σ => ∃ (q0G : Bool) (l00 : L4) (l01 : L4) (n0S : Nat) (n0T : Nat), n0S = l00.length ∧ n0T = l01.length ∧ RI (.inr (q0G, l00, l01)) ∧ σ = ⟨[(0, pX 0), pT 2, pT 3], [eV (.x 0) [.str s5, ci vH, .osl (.sub (.sub (.x 0) 600) 2) 0 n0S, .osl (.sub (.sub (.x 0) 600) 3) 0 n0T, .bool qJ, .int .u64 vK, .int .u64 vL, .int .u64 vM, .int .u64 vN, .int .u64 vO, .int .u64 vP, .int .u64 vQ, .int .u64 vS, .bool q0G], eV (.s 2) [.bool false, .int .u64 0, .int .u64 0, .int .u64 0, .int .u64 0, .int .u64 0, .int .u64 0, .int .u64 0, .int .u64 0], eV (.s 3) [.bool q6, .int .u64 v7, .int .u64 v8, .int .u64 v9, .int .u64 vA, .int .u64 vB, .int .u64 vC, .int .u64 vF, .int .u64 vG], (.sub (.sub (.x 0) 600) 2, (eR .set4 l00)), (.sub (.sub (.x 0) 600) 3, (eR .set4 l01))]⟩) ?_ ?_
 refine kL [(.x 0), (.sub (.sub (.x 0) 600) 2), (.sub (.sub (.x 0) 600) 3)] (h156b _ _ _ _ _ _ _ _ _ _ _ _ _ _ _ LN _ LN _ _ ?_ (sb h))
 rintro q1D l0U l0V q0H _ rfl _ rfl hkrl0U hkrl0V h
 cases q1D
 replace h := cf h
 replace h := sat_lft aI h
 conv => whnf
 exact ⟨q6, v7, v8, v9, vA, vB, vC, vF, vG, vH, q0H, l0U, l0V, _, _, LN, LN, ss h, rfl⟩
 replace h := ct h
 refine kL [(.x 0), (.sub (.sub (.x 0) 600) 2), (.sub (.sub (.x 0) 600) 3)] (h157b _ _ _ _ _ _ _ _ _ _ _ _ _ _ _ LN _ LN _ _ ?_ (sb h))
 rintro v1Y l0I l0J _ rfl _ rfl hkrl0I hkrl0J h
 refine kc h ?_ ?_ <;> intro h
 replace h := sat_lft aI h
 conv => whnf
 exact ⟨q6, v7, v8, v9, vA, vB, vC, vF, vG, vH, q0H, l0I, l0J, _, _, LN, LN, ss h, rfl⟩
 conv => whnf
 exact ⟨q0H, l0I, l0J, _, _, LN, LN, ss h, rfl⟩
 rintro _ ⟨q0G, l00, l01, _, _, rfl, rfl, h, rfl⟩
 replace h := hrRI _ h
 refine kL [(.x 0), (.sub (.sub (.x 0) 600) 2), (.sub (.sub (.x 0) 600) 3)] (h155 _ _ _ _ _ _ _ _ _ _ _ _ _ _ _ LN _ LN _ _ ?_ (sb h))
 rintro q0W v1E v1F v1G v1H v1I v1J v1K v1L v0X l0K l0L q0Y _ rfl _ rfl h
 obtain ⟨R02, h, a02, hrR02⟩ := sc h
 refine kX (fun σ => ∃ q03, R02 (.inr q03) ∧ σ = ⟨[(0, pX 0), pT 2, pT 3, pT 4], [eV (.x 0) [.str s5, ci v0X, .osl (.sub (.s 22) 0) 0 l0K.length, .osl (.sub (.s 22) 1) 0 l0L.length, .bool qJ, .int .u64 vK, .int .u64 vL, .int .u64 vM, .int .u64 vN, .int .u64 vO, .int .u64 vP, .int .u64 vQ, .int .u64 vS, .bool q0Y], eV (.s 2) [.bool false, .int .u64 0, .int .u64 0, .int .u64 0, .int .u64 0, .int .u64 0, .int .u64 0, .int .u64 0, .int .u64 0], eV (.s 3) [.bool q03, .int .u64 v7, .int .u64 v8, .int .u64 v9, .int .u64 vA, .int .u64 vB, .int .u64 vC, .int .u64 vF, .int .u64 vG], eV (.s 4) [.bool q0W, .int .u64 v1E, .int .u64 v1F, .int .u64 v1G, .int .u64 v1H, .int .u64 v1I, .int .u64 v1J, .int .u64 v1K, .int .u64 v1L], (.sub (.s 22) 0, (eR .set4 l0K)), (.sub (.s 22) 1, (eR .set4 l0L))]⟩) ?_ ?_
 cases q6
 replace h := cf h
 conv => whnf
 exact ⟨q0W, ss h, rfl⟩
 replace h := ct h
 conv => whnf
 exact ⟨true, ss h, rfl⟩
 rintro _ ⟨q03, h, rfl⟩
 replace h := hrR02 _ h
 refine kL [(.s 3)] (h141a _ _ _ _ _ _ _ _ _ _ _ _ _ _ _ ?_ (sb h))
 rintro v1M v1N v1O v1P h
 refine kL [(.s 3)] (h141b _ _ _ _ _ _ _ _ _ _ _ _ _ _ _ ?_ (sb h))
 rintro v1Q v1R v1S v1T h
 conv => whnf
 exact ⟨g0R, nls, g0R, l0K, l0L, v0X, q0Y, q03, v1M, v1N, v1O, v1P, v1Q, v1R, v1S, v1T, _, _, rfl, LN, LN, h, rfl⟩
 rintro _ ⟨q04, v05, v06, v07, v08, v09, v0A, v0B, v0C, v0D, q0E, lU, lV, _, _, rfl, rfl, h, rfl⟩
 replace h := hrRT _ h
 exact kR [(.sub (.sub (.x 0) 600) 2), (.sub (.sub (.x 0) 600) 3)] (ND 3) (hQ _ _ _ _ _ _ _ _ _ _ _ _ _ _ LN _ LN (ss h))
theorem w155 {O : Oracle TT} (fuel : Nat) (self168 : BA → Int → Bool → Int → Int → Int → Int → Int → Int → Int → Int → Bool → L4 → L4 → Option (Bool × Int × Int × Int × Int × Int × Int × Int × Int × Int × L4 × L4 × Bool)) (h156b : C156b O f156b) (h157b : C157b O f157b) (h168 : C168 O self168) (h169 : C169 O f169) (h141a : C141a O f141a) (h141b : C141b O f141b) : C155 (fun _ => vcF (S := SS) O j155) (b155 fuel self168) := by
 intro s5 v1O qL vM vN vO vP vQ vS vT vU q1P r1Q r1R n0Z en0Z n5 en5 Q R hQ h
 subst en0Z
 subst en5
 unfold b155 at h
 refine ⟨nle rfl, rfl, ?_⟩
 obtain ⟨R00, h, a00, hrR00⟩ := sc h
 refine kX (fun σ => ∃ (q0G : Bool) (v0H : Int) (v0I : Int) (v0J : Int) (v0K : Int) (v0L : Int) (v0M : Int) (v0N : Int) (v0O : Int) (v0P : Int) (q0Q : Bool) (l02 : L4) (l03 : L4) (n10 : Nat) (n11 : Nat), n10 = l02.length ∧ n11 = l03.length ∧ R00 (.inr (q0G, v0H, v0I, v0J, v0K, v0L, v0M, v0N, v0O, v0P, q0Q, l02, l03)) ∧ σ = ⟨[pT 2, pT 3], [eV (.s 2) [.bool false, .int .u64 0, .int .u64 0, .int .u64 0, .int .u64 0, .int .u64 0, .int .u64 0, .int .u64 0, .int .u64 0], eV (.s 3) [.bool q0G, .int .u64 v0H, .int .u64 v0I, .int .u64 v0J, .int .u64 v0K, .int .u64 v0L, .int .u64 v0M, .int .u64 v0N, .int .u64 v0O], eV (.x 0) [.str s5, ci v0P, .osl (.sub (.sub (.x 0) 600) 2) 0 n10, .osl (.sub (.sub (.x 0) 600) 3) 0 n11, .bool qL, .int .u64 vM, .int .u64 vN, .int .u64 vO, .int .u64 vP, .int .u64 vQ, .int .u64 vS, .int .u64 vT, .int .u64 vU, .bool q0Q], (.sub (.sub (.x 0) 600) 2, (eR .set4 l02)), (.sub (.sub (.x 0) 600) 3, (eR .set4 l03))]⟩) ?_ ?_
 refine kX (fun σ n => ∃ (f04 : Nat) (l05 : L4) (l06 : L4) (vH : Int) (q0R : Bool) (qA : Bool) (vB : Int) (vC : Int) (vF : Int) (vG : Int) (v6 : Int) (v7 : Int) (v8 : Int) (v9 : Int) (n12 : Nat) (n13 : Nat), f04 = n ∧ n12 = l05.length ∧ n13 = l06.length ∧ sat (f155_L2 self168 s5 qL vM vN vO vP vQ vS vT vU f04 l05 l06 vH q0R qA vB vC vF vG v6 v7 v8 v9) R00 ∧ σ.keep [0, 2, 3] [(.x 0), (.s 2), (.s 3), (.sub (.sub (.x 0) 600) 2), (.sub (.sub (.x 0) 600) 3)] = ⟨[(0, pX 0), pT 2, pT 3], [eV (.x 0) [.str s5, ci vH, .osl (.sub (.sub (.x 0) 600) 2) 0 n12, .osl (.sub (.sub (.x 0) 600) 3) 0 n13, .bool qL, .int .u64 vM, .int .u64 vN, .int .u64 vO, .int .u64 vP, .int .u64 vQ, .int .u64 vS, .int .u64 vT, .int .u64 vU, .bool q0R], eV (.s 2) [.bool false, .int .u64 0, .int .u64 0, .int .u64 0, .int .u64 0, .int .u64 0, .int .u64 0, .int .u64 0, .int .u64 0], eV (.s 3) [.bool qA, .int .u64 vB, .int .u64 vC, .int .u64 vF, .int .u64 vG, .int .u64 v6, .int .u64 v7, .int .u64 v8, .int .u64 v9], (.sub (.sub (.x 0) 600) 2, (eR .set4 l05)), (.sub (.sub (.x 0) 600) 3, (eR .set4 l06))]⟩) ⟨_, _, r1Q, r1R, v1O, q1P, true, (0 : Int), (0 : Int), (0 : Int), (0 : Int), (0 : Int), (0 : Int), (0 : Int), (0 : Int), _, _, rfl, LN, LN, h, rfl⟩ ?_
 rintro σ n ⟨f04, l05, l06, vH, q0R, qA, vB, vC, vF, vG, v6, v7, v8, v9, _, _, rfl, rfl, rfl, h, hσ⟩
 refine kk hσ ?_
 rcases f04 with _ | g07
 rw [f155_L2] at h; exact nn h
 rw [f155_L2] at h
 obtain ⟨RI, h, aI, hrRI⟩ := sc h
 refine kX (fun σ => ∃ (q0S : Bool) (l08 : L4) (l09 : L4) (n14 : Nat) (n15 : Nat), n14 = l08.length ∧ n15 = l09.length ∧ RI (.inr (q0S, l08, l09)) ∧ σ = ⟨[(0, pX 0), pT 2, pT 3], [eV (.x 0) [.str s5, ci vH, .osl (.sub (.sub (.x 0) 600) 2) 0 n14, .osl (.sub (.sub (.x 0) 600) 3) 0 n15, .bool qL, .int .u64 vM, .int .u64 vN, .int .u64 vO, .int .u64 vP, .int .u64 vQ, .int .u64 vS, .int .u64 vT, .int .u64 vU, .bool q0S], eV (.s 2) [.bool false, .int .u64 0, .int .u64 0, .int .u64 0, .int .u64 0, .int .u64 0, .int .u64 0, .int .u64 0, .int .u64 0], eV (.s 3) [.bool qA, .int .u64 vB, .int .u64 vC, .int .u64 vF, .int .u64 vG, .int .u64 v6, .int .u64 v7, .int .u64 v8, .int .u64 v9], (.sub (.sub (.x 0) 600) 2, (eR .set4 l08)), (.sub (.sub (.x 0) 600) 3, (eR .set4 l09))]⟩) ?_ ?_
 refine kL [(.x 0), (.sub (.sub (.x 0) 600) 2), (.sub (.sub (.x 0) 600) 3)] (h156b _ _ _ _ _ _ _ _ _ _ _ _ _ _ _ LN _ LN _ _ ?_ (sb h))
 rintro q1S l17 l18 q0A _ rfl _ rfl hkrl17 hkrl18 h
 cases q1S
 replace h := cf h
 replace h := sat_lft aI h
 conv => whnf
 exact ⟨qA, vB, vC, vF, vG, v6, v7, v8, v9, vH, q0A, l17, l18, _, _, LN, LN, ss h, rfl⟩
 replace h := ct h
 refine kL [(.x 0), (.sub (.sub (.x 0) 600) 2), (.sub (.sub (.x 0) 600) 3)] (h157b _ _ _ _ _ _ _ _ _ _ _ _ _ _ _ LN _ LN _ _ ?_ (sb h))
 rintro v1X l19 l1A _ rfl _ rfl hkrl19 hkrl1A h
 refine kc h ?_ ?_ <;> intro h
 replace h := sat_lft aI h
 conv => whnf
 exact ⟨qA, vB, vC, vF, vG, v6, v7, v8, v9, vH, q0A, l19, l1A, _, _, LN, LN, ss h, rfl⟩
 refine kL [(.x 0), (.sub (.sub (.x 0) 600) 2), (.sub (.sub (.x 0) 600) 3)] (h157b _ _ _ _ _ _ _ _ _ _ _ _ _ _ _ LN _ LN _ _ ?_ (sb h))
 rintro v1Y l0T l0U _ rfl _ rfl hkrl0T hkrl0U h
 refine kc h ?_ ?_ <;> intro h
 replace h := sat_lft aI h
 conv => whnf
 exact ⟨qA, vB, vC, vF, vG, v6, v7, v8, v9, vH, q0A, l0T, l0U, _, _, LN, LN, ss h, rfl⟩
 conv => whnf
 exact ⟨q0A, l0T, l0U, _, _, LN, LN, ss h, rfl⟩
 rintro _ ⟨q0S, l08, l09, _, _, rfl, rfl, h, rfl⟩
 replace h := hrRI _ h
 refine kL [(.x 0), (.sub (.sub (.x 0) 600) 2), (.sub (.sub (.x 0) 600) 3)] (h168 _ _ _ _ _ _ _ _ _ _ _ _ _ _ _ LN _ LN _ _ ?_ (sb h))
 rintro q1B v1C v1D v1E v1F v1G v1H v1I v1J v0B l1Z l20 q0C _ rfl _ rfl h
 refine kL [(.x 0), (.sub (.s 19) 0), (.sub (.s 19) 1)] (h169 _ _ _ _ _ _ _ _ _ _ _ _ _ _ _ _ _ _ _ _ _ _ _ LN _ LN _ _ ?_ (sb h))
 rintro lJ lK _ rfl _ rfl hkrlJ hkrlK h
 obtain ⟨R0D, h, a0D, hrR0D⟩ := sc h
 refine kX (fun σ => ∃ q01 vV vW vY vZ, R0D (.inr (q01, vV, vW, vY, vZ)) ∧ σ = ⟨[(0, pX 0), pT 2, pT 3, pT 4], [eV (.x 0) [.str s5, ci v0B, .osl (.sub (.s 19) 0) 0 lJ.length, .osl (.sub (.s 19) 1) 0 lK.length, .bool qL, .int .u64 vM, .int .u64 vN, .int .u64 vO, .int .u64 vP, .int .u64 vQ, .int .u64 vS, .int .u64 vT, .int .u64 vU, .bool q0C], eV (.s 2) [.bool false, .int .u64 0, .int .u64 0, .int .u64 0, .int .u64 0, .int .u64 0, .int .u64 0, .int .u64 0, .int .u64 0], eV (.s 3) [.bool q01, .int .u64 vV, .int .u64 vW, .int .u64 vY, .int .u64 vZ, .int .u64 v6, .int .u64 v7, .int .u64 v8, .int .u64 v9], eV (.s 4) [.bool q1B, .int .u64 v1C, .int .u64 v1D, .int .u64 v1E, .int .u64 v1F, .int .u64 v1G, .int .u64 v1H, .int .u64 v1I, .int .u64 v1J], (.sub (.s 19) 0, (eR .set4 lJ)), (.sub (.s 19) 1, (eR .set4 lK))]⟩) ?_ ?_
 cases qA
 replace h := cf h
 conv => whnf
 exact ⟨false, vB, vC, vF, vG, ss h, rfl⟩
 replace h := ct h
 refine kL [(.s 3)] (h141a _ _ _ _ _ _ _ _ _ _ _ _ _ _ _ ?_ (sb h))
 rintro v1T v1U v1V v1W h
 conv => whnf
 exact ⟨true, v1T, v1U, v1V, v1W, ss h, rfl⟩
 rintro _ ⟨q01, vV, vW, vY, vZ, h, rfl⟩
 replace h := hrR0D _ h
 obtain ⟨R0E, h, a0E, hrR0E⟩ := sc h
 refine kX (fun σ => ∃ v0V v0W v0X v0Y q0F, R0E (.inr (v0V, v0W, v0X, v0Y, q0F)) ∧ σ = ⟨[(0, pX 0), pT 2, pT 3, pT 4], [eV (.x 0) [.str s5, ci v0B, .osl (.sub (.s 19) 0) 0 lJ.length, .osl (.sub (.s 19) 1) 0 lK.length, .bool qL, .int .u64 vM, .int .u64 vN, .int .u64 vO, .int .u64 vP, .int .u64 vQ, .int .u64 vS, .int .u64 vT, .int .u64 vU, .bool q0C], eV (.s 2) [.bool false, .int .u64 0, .int .u64 0, .int .u64 0, .int .u64 0, .int .u64 0, .int .u64 0, .int .u64 0, .int .u64 0], eV (.s 3) [.bool q01, .int .u64 vV, .int .u64 vW, .int .u64 vY, .int .u64 vZ, .int .u64 v0V, .int .u64 v0W, .int .u64 v0X, .int .u64 v0Y], eV (.s 4) [.bool q0F, .int .u64 v1C, .int .u64 v1D, .int .u64 v1E, .int .u64 v1F, .int .u64 v1G, .int .u64 v1H, .int .u64 v1I, .int .u64 v1J], (.sub (.s 19) 0, (eR .set4 lJ)), (.sub (.s 19) 1, (eR .set4 lK))]⟩) ?_ ?_
 cases q1B
 replace h := cf h
 conv => whnf
 exact ⟨(0 : Int), (0 : Int), (0 : Int), (0 : Int), false, ss h, rfl⟩
 replace h := ct h
 conv => whnf
 exact ⟨v6, v7, v8, v9, true, ss h, rfl⟩
 rintro _ ⟨v0V, v0W, v0X, v0Y, q0F, h, rfl⟩
 replace h := hrR0E _ h
 refine kL [(.s 3)] (h141b _ _ _ _ _ _ _ _ _ _ _ _ _ _ _ ?_ (sb h))
 rintro v1K v1L v1M v1N h
 cases q01
 replace h := cf h
 conv => whnf
 exact ⟨g07, nls, g07, lJ, lK, v0B, q0C, false, vV, vW, vY, vZ, v1K, v1L, v1M, v1N, _, _, rfl, LN, LN, h, rfl⟩
 replace h := ct h
 conv => whnf
 exact ⟨g07, nls, g07, lJ, lK, v0B, q0C, q0F, vV, vW, vY, vZ, v1K, v1L, v1M, v1N, _, _, rfl, LN, LN, h, rfl⟩
 rintro _ ⟨q0G, v0H, v0I, v0J, v0K, v0L, v0M, v0N, v0O, v0P, q0Q, l02, l03, _, _, rfl, rfl, h, rfl⟩
 replace h := hrR00 _ h
 exact kR [(.sub (.sub (.x 0) 600) 2), (.sub (.sub (.x 0) 600) 3)] (ND 3) (hQ _ _ _ _ _ _ _ _ _ _ _ _ _ _ LN _ LN (ss h))
theorem w168 {O : Oracle TT} (self173 : BA → Int → Bool → Int → Int → Int → Int → Int → Int → Int → Int → Bool → L4 → L4 → Option (Bool × Int × Int × Int × Int × Int × Int × Int × Int × Int × L4 × L4 × Bool)) (h156b : C156b O f156b) (h157b : C157b O f157b) (h173 : C173 O self173) (h169 : C169 O f169) : C168 (fun _ => vcF (S := SS) O j168) (b168 self173) := by
 intro s6 v04 qB vC vF vG vH vI vJ vK vL q05 r06 r07 nA enA n6 en6 Q R hQ h
 subst enA
 subst en6
 unfold b168 at h
 refine ⟨nle rfl, rfl, ?_⟩
 refine kL [(.x 0), (.x 1), (.x 2)] (h173 _ _ _ _ _ _ _ _ _ _ _ _ _ _ _ LN _ LN _ _ ?_ (sb h))
 rintro q7 vM vN vO vP vQ vS vT vU vV l08 l09 q0A _ rfl _ rfl h
 refine kL [(.x 0), (.sub (.s 6) 0), (.sub (.s 6) 1)] (h156b _ _ _ _ _ _ _ _ _ _ _ _ _ _ _ LN _ LN _ _ ?_ (sb h))
 rintro qW lY lZ q00 _ rfl _ rfl hkrlY hkrlZ h
 cases qW
 replace h := cf h
 exact kR [(.sub (.s 6) 0), (.sub (.s 6) 1)] (ND 3) (hQ _ _ _ _ _ _ _ _ _ _ _ _ _ _ LN _ LN (ss h))
 replace h := ct h
 refine kL [(.x 0), (.sub (.s 6) 0), (.sub (.s 6) 1)] (h157b _ _ _ _ _ _ _ _ _ _ _ _ _ _ _ LN _ LN _ _ ?_ (sb h))
 rintro v01 l8 l9 _ rfl _ rfl hkrl8 hkrl9 h
 obtain ⟨R5, h, a5, hrR5⟩ := sc h
 refine kX (fun σ => R5 (.inr ()) ∧ σ = ⟨[(0, pX 0), pT 2, pT 3, (4, .c (.int .u8 v01))], [eV (.x 0) [.str s6, ci vV, .osl (.sub (.s 6) 0) 0 l8.length, .osl (.sub (.s 6) 1) 0 l9.length, .bool qB, .int .u64 vC, .int .u64 vF, .int .u64 vG, .int .u64 vH, .int .u64 vI, .int .u64 vJ, .int .u64 vK, .int .u64 vL, .bool q00], eV (.s 2) [.bool false, .int .u64 0, .int .u64 0, .int .u64 0, .int .u64 0, .int .u64 0, .int .u64 0, .int .u64 0, .int .u64 0], eV (.s 3) [.bool q7, .int .u64 vM, .int .u64 vN, .int .u64 vO, .int .u64 vP, .int .u64 vQ, .int .u64 vS, .int .u64 vT, .int .u64 vU], (.sub (.s 6) 0, (eR .set4 l8)), (.sub (.s 6) 1, (eR .set4 l9))]⟩) ?_ ?_
 refine kc h ?_ ?_ <;> intro h
 conv => whnf
 exact ⟨ss h, rfl⟩
 refine kc h ?_ ?_ <;> intro h
 conv => whnf
 exact ⟨ss h, rfl⟩
 refine kc h ?_ ?_ <;> intro h
 conv => whnf
 exact ⟨ss h, rfl⟩
 replace h := sat_lft a5 h
 exact kR [(.sub (.s 6) 0), (.sub (.s 6) 1)] (ND 3) (hQ _ _ _ _ _ _ _ _ _ _ _ _ _ _ LN _ LN (ss h))
 rintro _ ⟨h, rfl⟩
 replace h := hrR5 _ h
 refine kc h ?_ ?_ <;> intro h
 cases q7
 replace h := cf h
 refine kc h ?_ ?_ <;> intro h
 exact kR [(.sub (.s 6) 0), (.sub (.s 6) 1)] (ND 3) (hQ _ _ _ _ _ _ _ _ _ _ _ _ _ _ LN _ LN (ss h))
 exact kR [(.sub (.s 6) 0), (.sub (.s 6) 1)] (ND 3) (hQ _ _ _ _ _ _ _ _ _ _ _ _ _ _ LN _ LN (ss h))
 replace h := ct h
 exact kR [(.sub (.s 6) 0), (.sub (.s 6) 1)] (ND 3) (hQ _ _ _ _ _ _ _ _ _ _ _ _ _ _ LN _ LN (ss h))
 refine kL [(.x 0), (.sub (.s 6) 0), (.sub (.s 6) 1)] (h169 _ _ _ _ _ _ _ _ _ _ _ _ _ _ _ _ _ _ _ _ _ _ _ LN _ LN _ _ ?_ (sb h))
 rintro l02 l03 _ rfl _ rfl hkrl02 hkrl03 h
 cases q7
 replace h := cf h
 refine kc h ?_ ?_ <;> intro h
 exact kR [(.sub (.s 6) 0), (.sub (.s 6) 1)] (ND 3) (hQ _ _ _ _ _ _ _ _ _ _ _ _ _ _ LN _ LN (ss h))
 exact kR [(.sub (.s 6) 0), (.sub (.s 6) 1)] (ND 3) (hQ _ _ _ _ _ _ _ _ _ _ _ _ _ _ LN _ LN (ss h))
 replace h := ct h
 exact kR [(.sub (.s 6) 0), (.sub (.s 6) 1)] (ND 3) (hQ _ _ _ _ _ _ _ _ _ _ _ _ _ _ LN _ LN (ss h))
theorem w173 {O : Oracle TT} (fuel : Nat) (self138 : BA → Int → Bool → Int → Int → Int → Int → Int → Int → Int → Int → Bool → L4 → L4 → Option (Bool × Int × Int × Int × Int × Int × Int × Int × Int × Int × L4 × L4 × Bool)) (h91 : C91 O f91) (h178 : C178 O f178) (h138 : C138 O self138) (h157b : C157b O f157b) (h179 : C179 O f179) (h177 : C177 O (f177 fuel)) (h176 : C176 O f176) : C173 (fun _ => vcF (S := SS) O j173) (b173 fuel self138) := by
 intro s7 v0B qJ vK vL vM vN vO vP vQ vS q0C r0D r0E nC enC n7 en7 Q R hQ h
 subst enC
 subst en7
 unfold b173 at h
 refine ⟨nle rfl, rfl, ?_⟩
 refine kL [(.x 0), (.x 1), (.x 2)] (h157b _ _ _ _ _ _ _ _ _ _ _ _ _ _ _ LN _ LN _ _ ?_ (sb h))
 rintro v0F lT lU _ rfl _ rfl hkrlT hkrlU h
 refine kc h ?_ ?_ <;> intro h
 refine kc h ?_ ?_ <;> intro h
 refine kc h ?_ ?_ <;> intro h
 refine kc h ?_ ?_ <;> intro h
 refine kL [] (h91 _ _ _ _ ?_ (sb h))
 rintro v0G h
 refine kc h ?_ ?_ <;> intro h
 refine kL [(.s 4)] (h178 _ _ _ _ _ _ _ ?_ (sb h))
 rintro v0H v0I v0J v0K h
 refine kL [(.x 0), (.x 1), (.x 2)] (h179 _ _ _ _ _ _ _ _ _ _ _ _ _ _ _ _ _ _ _ LN _ LN _ _ ?_ (sb h))
 rintro q0L v0M v0N v0O v0P v0Q v0R v0S v0T l0U l0V q0W _ rfl _ rfl h
 exact kR [(.sub (.s 112) 0), (.sub (.s 112) 1)] (ND 3) (hQ _ _ _ _ _ _ _ _ _ _ _ _ _ _ LN _ LN (ss h))
 exact kR [(.sub (.sub (.x 0) 801) 2), (.sub (.sub (.x 0) 801) 3)] (ND 3) (hQ _ _ _ _ _ _ _ _ _ _ _ _ _ _ LN _ LN (ss h))
 refine kc h ?_ ?_ <;> intro h
 refine kg (sat_getB h) fun cW hcW h => ?_
 refine kL [(.s 4)] (h178 _ _ _ _ _ _ _ ?_ (sb h))
 rintro v0X v0Y v0Z v10 h
 refine kL [(.x 0), (.x 1), (.x 2)] (h179 _ _ _ _ _ _ _ _ _ _ _ _ _ _ _ _ _ _ _ LN _ LN _ _ ?_ (sb h))
 rintro q11 v12 v13 v14 v15 v17 v18 v19 v1A l1B l1C q1D _ rfl _ rfl h
 exact kR [(.sub (.s 112) 0), (.sub (.s 112) 1)] (ND 3) (hQ _ _ _ _ _ _ _ _ _ _ _ _ _ _ LN _ LN (ss h))
 exact kR [(.sub (.sub (.x 0) 801) 2), (.sub (.sub (.x 0) 801) 3)] (ND 3) (hQ _ _ _ _ _ _ _ _ _ _ _ _ _ _ LN _ LN (ss h))
 refine kL [(.x 0), (.x 1), (.x 2)] (h177 _ _ _ _ _ _ _ _ _ _ _ _ _ _ _ LN _ LN _ _ ?_ (sb h))
 rintro w1E w1F w1G w1H v1I lY lZ q1J _ rfl _ rfl hkrlY hkrlZ h
 refine kL [(.x 0), (.x 1), (.x 2)] (h179 _ _ _ _ _ _ _ _ _ _ _ _ _ _ _ _ _ _ _ LN _ LN _ _ ?_ (sb h))
 rintro q1K v1L v1M v1N v1O v1P v1Q v1R v1S l1T l1U q1V _ rfl _ rfl h
 exact kR [(.sub (.s 112) 0), (.sub (.s 112) 1)] (ND 3) (hQ _ _ _ _ _ _ _ _ _ _ _ _ _ _ LN _ LN (ss h))
 refine kL [(.s 4)] (h176 _ _ _ _ _ _ ?_ (sb h))
 rintro v1W v1X v1Y v1Z h
 refine kL [(.x 0), (.x 1), (.x 2)] (h179 _ _ _ _ _ _ _ _ _ _ _ _ _ _ _ _ _ _ _ LN _ LN _ _ ?_ (sb h))
 rintro q20 v21 v22 v23 v24 v25 v26 v27 v28 l29 l2A q2B _ rfl _ rfl h
 exact kR [(.sub (.s 112) 0), (.sub (.s 112) 1)] (ND 3) (hQ _ _ _ _ _ _ _ _ _ _ _ _ _ _ LN _ LN (ss h))
 refine kL [(.x 0), (.x 1), (.x 2)] (h138 _ _ _ _ _ _ _ _ _ _ _ _ _ _ _ LN _ LN _ _ ?_ (sb h))
 rintro q00 v01 v02 v03 v04 v05 v06 v07 v08 v09 lF lG q0A _ rfl _ rfl h
 obtain ⟨R8, h, a8, hrR8⟩ := sc h
 refine kX (fun σ => ∃ (q9 : Bool) (lA : L4) (lB : L4) (nH : Nat) (nI : Nat), nH = lA.length ∧ nI = lB.length ∧ R8 (.inr (q9, lA, lB)) ∧ σ = ⟨[(0, pX 0), pT 2, pT 5], [eV (.x 0) [.str s7, ci v09, .osl (.sub (.s 21) 0) 0 nH, .osl (.sub (.s 21) 1) 0 nI, .bool qJ, .int .u64 vK, .int .u64 vL, .int .u64 vM, .int .u64 vN, .int .u64 vO, .int .u64 vP, .int .u64 vQ, .int .u64 vS, .bool q9], eV (.s 2) [.bool false, .int .u64 0, .int .u64 0, .int .u64 0, .int .u64 0, .int .u64 0, .int .u64 0, .int .u64 0, .int .u64 0], eV (.s 5) [.bool q00, .int .u64 v01, .int .u64 v02, .int .u64 v03, .int .u64 v04, .int .u64 v05, .int .u64 v06, .int .u64 v07, .int .u64 v08], (.x 1, none), (.x 2, none), (.sub (.s 21) 0, (eR .set4 lA)), (.sub (.s 21) 1, (eR .set4 lB))]⟩) ?_ ?_
 cases q0A
 replace h := cf h
 refine kL [(.x 0), (.sub (.s 21) 0), (.sub (.s 21) 1)] (h157b _ _ _ _ _ _ _ _ _ _ _ _ _ _ _ LN _ LN _ _ ?_ (sb h))
 rintro v2C l5 l6 _ rfl _ rfl hkrl5 hkrl6 h
 refine kc h ?_ ?_ <;> intro h
 conv => whnf
 refine ⟨?_, ?_⟩
 refine kc h ?_ ?_ <;> intro h
 conv => whnf
 exact ⟨false, l5, l6, _, _, LN, LN, ss h, rfl⟩
 conv => whnf
 exact ⟨true, l5, l6, _, _, LN, LN, ss h, rfl⟩
 refine kc h ?_ ?_ <;> intro h
 conv => whnf
 exact ⟨false, l5, l6, _, _, LN, LN, ss h, rfl⟩
 conv => whnf
 exact ⟨true, l5, l6, _, _, LN, LN, ss h, rfl⟩
 conv => whnf
 refine ⟨?_, ?_⟩
 conv => whnf
 exact ⟨true, l5, l6, _, _, LN, LN, ss h, rfl⟩
 conv => whnf
 exact ⟨true, l5, l6, _, _, LN, LN, ss h, rfl⟩
 replace h := ct h
 conv => whnf
 refine ⟨?_, ?_⟩
 conv => whnf
 exact ⟨true, lF, lG, _, _, LN, LN, ss h, rfl⟩
 conv => whnf
 exact ⟨true, lF, lG, _, _, LN, LN, ss h, rfl⟩
 rintro _ ⟨q9, lA, lB, _, _, rfl, rfl, h, rfl⟩
 replace h := hrR8 _ h
 cases q9
 replace h := cf h
 exact kR [(.sub (.sub (.x 0) 801) 2), (.sub (.sub (.x 0) 801) 3)] (ND 3) (hQ _ _ _ _ _ _ _ _ _ _ _ _ _ _ LN _ LN (ss h))
 replace h := ct h
 exact kR [(.sub (.sub (.x 0) 801) 2), (.sub (.sub (.x 0) 801) 3)] (ND 3) (hQ _ _ _ _ _ _ _ _ _ _ _ _ _ _ LN _ LN (ss h))
theorem cg138 {P : Program} {fid : Nat → FuncId} (mx : MX P) (k138 : KF P fid 138 j138) (k155 : KF P fid 155 j155) (k168 : KF P fid 168 j168) (k173 : KF P fid 173 j173) (h156b : C156b (SP P fid) f156b) (h157b : C157b (SP P fid) f157b) (h141a : C141a (SP P fid) f141a) (h141b : C141b (SP P fid) f141b) (h169 : C169 (SP P fid) f169) (h91 : C91 (SP P fid) f91) (h178 : C178 (SP P fid) f178) (h179 : C179 (SP P fid) f179) (h177 : ∀ n, C177 (SP P fid) (f177 n)) (h176 : C176 (SP P fid) f176) : ∀ n, C138 (SP P fid) (f138 n) ∧ C155 (SP P fid) (f155 n) ∧ C168 (SP P fid) (f168 n) ∧ C173 (SP P fid) (f173 n) := by
 intro n
 induction n with
 | zero => exact ⟨fun a6 a7 a8 a9 aA aC aD aE aF aG aH aI aJ aK n6 e6 n7 e7 Q R hQ h => (sat_none h).elim, fun a6 a7 a8 a9 aA aC aD aE aF aG aH aI aJ aK n6 e6 n7 e7 Q R hQ h => (sat_none h).elim, fun a6 a7 a8 a9 aA aC aD aE aF aG aH aI aJ aK n6 e6 n7 e7 Q R hQ h => (sat_none h).elim, fun a6 a7 a8 a9 aA aC aD aE aF aG aH aI aJ aK n6 e6 n7 e7 Q R hQ h => (sat_none h).elim⟩
 | succ n ih =>
  obtain ⟨ih6, ih7, ih8, ih9⟩ := ih
  exact ⟨fun a6 a7 a8 a9 aA aC aD aE aF aG aH aI aJ aK n6 e6 n7 e7 Q R hQ h => spec_of_vc mx k138 (w138 n (f155 n) ih7 h156b h157b h141a h141b a6 a7 a8 a9 aA aC aD aE aF aG aH aI aJ aK n6 e6 n7 e7 Q R hQ h), fun a6 a7 a8 a9 aA aC aD aE aF aG aH aI aJ aK n6 e6 n7 e7 Q R hQ h => spec_of_vc mx k155 (w155 n (f168 n) h156b h157b ih8 h169 h141a h141b a6 a7 a8 a9 aA aC aD aE aF aG aH aI aJ aK n6 e6 n7 e7 Q R hQ h), fun a6 a7 a8 a9 aA aC aD aE aF aG aH aI aJ aK n6 e6 n7 e7 Q R hQ h => spec_of_vc mx k168 (w168 (f173 n) h156b h157b ih9 h169 a6 a7 a8 a9 aA aC aD aE aF aG aH aI aJ aK n6 e6 n7 e7 Q R hQ h), fun a6 a7 a8 a9 aA aC aD aE aF aG aH aI aJ aK n6 e6 n7 e7 Q R hQ h => spec_of_vc mx k173 (w173 n (f138 n) h91 h178 ih6 h157b h179 (h177 n) h176 a6 a7 a8 a9 aA aC aD aE aF aG aH aI aJ aK n6 e6 n7 e7 Q R hQ h)⟩
theorem c138 {P : Program} {fid : Nat → FuncId} (mx : MX P) (k138 : KF P fid 138 j138) (k155 : KF P fid 155 j155) (k168 : KF P fid 168 j168) (k173 : KF P fid 173 j173) (h156b : C156b (SP P fid) f156b) (h157b : C157b (SP P fid) f157b) (h141a : C141a (SP P fid) f141a) (h141b : C141b (SP P fid) f141b) (h169 : C169 (SP P fid) f169) (h91 : C91 (SP P fid) f91) (h178 : C178 (SP P fid) f178) (h179 : C179 (SP P fid) f179) (h177 : ∀ n, C177 (SP P fid) (f177 n)) (h176 : C176 (SP P fid) f176) : ∀ n, C138 (SP P fid) (f138 n) := fun n => (cg138 mx k138 k155 k168 k173 h156b h157b h141a h141b h169 h91 h178 h179 h177 h176 n).1
def f109 (fuel : Nat) : BA → Option (L4 × L4 × Bool × Int × Int × Int × Int × Int × Int × Int × Int × Int)
 | s5 => cond (decide ((s5.size : Int) > 200)) (some ([], [], false, 0, 0, 0, 0, 0, 0, 0, 0, 2)) ((f138 fuel s5 (0 : Int) false (0 : Int) (0 : Int) (0 : Int) (0 : Int) (0 : Int) (0 : Int) (0 : Int) (0 : Int) false ([(0, 0, 0, 0)] : L4) ([(0, 0, 0, 0)] : L4)).bind fun (qB, v7, v8, v9, vA, vC, vF, vG, vH, vI, lJ, l6, qK) => sbind (ο := Unit) (cond qK (lft (some ([], [], false, 0, 0, 0, 0, 0, 0, 0, 0, 14))) (cond (decide (vI < (s5.size : Int))) (lft (some ([], [], false, 0, 0, 0, 0, 0, 0, 0, 0, 14))) (some (.inr ())))) (fun () => grdP ((0 : Int) ≤ 0 ∧ 0 < ((l6.length : Nat) : Int)) (getN l6 (0 + (0 : Int).toNat) fun uuL => match uuL with | (wM, wN, wO, wP) => some (lJ, (l6.set (0 + (0 : Int).toNat) (v7, v8, v9, vA)), qB, v7, v8, v9, vA, vC, vF, vG, vH, 0))))
def C109 (O : Oracle TT) (m : BA → Option (L4 × L4 × Bool × Int × Int × Int × Int × Int × Int × Int × Int × Int)) : Prop :=
 ∀ s5 (Q : (L4 × L4 × Bool × Int × Int × Int × Int × Int × Int × Int × Int × Int) → Prop) (R : RR) (_ : ∀ l6 l7 q8 v9 vA vB vC vF vG vH vI vJ, Q (l6, l7, q8, v9, vA, vB, vC, vF, vG, vH, vI, vJ) → R (.tup [.agg [.isl .set4 l6, .isl .set4 l7, .bool q8, .int .u64 v9, .int .u64 vA, .int .u64 vB, .int .u64 vC, .int .u64 vF, .int .u64 vG, .int .u64 vH, .int .u64 vI], iD vJ]) []) (_ : sat (m s5) Q), O 109 [sD s5] [] R
def j109 : Fn TT := ⟨51, [.cell 2 11 true, .t 3], (sr [qo 2 (.alloc 2 [.isl .set4 [], .isl .set4 [], .bool false, .int .u64 0, .int .u64 0, .int .u64 0, .int .u64 0, .int .u64 0, .int .u64 0, .int .u64 0, .int .u64 0]),qo 3 (.mv (iC 0))] (.seq (sr [qm 6 0,qo 7 (.len true 6),qo 8 (.bin .gtr .num 7 (iC 200))] (.cond 8 (.seq
 (.reg [qo 9 (.build [.isl .set4 [], .isl .set4 [], .bool false, .int .u64 0, .int .u64 0, .int .u64 0, .int .u64 0, .int .u64 0, .int .u64 0, .int .u64 0, .int .u64 0] []),qp (.store 2 9 11),qo 3 (.mv (iC 2))]) .ret) .skip)) (sr [qm 10 0,qo 11 (.build [.int .u64 0, .int .u64 0, .int .u64 0, .int .u64 0] []),qo 12 (.bslice 12 .set4 [11]),
 qo 13 (.build [.int .u64 0, .int .u64 0, .int .u64 0, .int .u64 0] []),qo 14 (.bslice 14 .set4 [13]),qo 15 (.build [.isl .set4 [], .isl .set4 [], .bool false, .int .u64 0, .int .u64 0, .int .u64 0, .int .u64 0, .int .u64 0, .int .u64 0, .int .u64 0, .int .u64 0] [((0, 1), 12), ((1, 1), 14)]),
 qo 16 (.build [.str eB, .int .i64 0, .isl .set4 [], .isl .set4 [], .bool false, .int .u64 0, .int .u64 0, .int .u64 0, .int .u64 0, .int .u64 0, .int .u64 0, .int .u64 0, .int .u64 0, .bool false] [((0, 1), 10), ((2, 11), 15)]),qo 17 (.box 17 16),qm 4 17] (sr [qm 18 4,qo 19 (.call 19 138 [18]),
 qo 5 (.alloc 5 [.bool false, .int .u64 0, .int .u64 0, .int .u64 0, .int .u64 0, .int .u64 0, .int .u64 0, .int .u64 0, .int .u64 0]),qp (.store 5 19 9)] (.cut [2, 4, 5] [(.s 2), (.s 17), (.s 5), (.sub (.s 19) 0), (.sub (.s 19) 1)] (sr [qm 20 4,qo 21 (.nilck 20),qo 22 (.fa 21 13),qo 23 (ld 22),qm 24 23,qf 24 25 (.mv 4),qf 24 26 (.nilck 25),
 qf 24 27 (.fa 26 1),qf 24 28 (ld 27),qf 24 29 (.mv 0),qf 24 30 (.len true 29),qf 24 31 (.bin .lss .num 28 30),qo 32 (.pick 24 bT 31)] (.cond 32 (sr [qo 33 (.build [.isl .set4 [], .isl .set4 [], .bool false, .int .u64 0, .int .u64 0, .int .u64 0, .int .u64 0, .int .u64 0, .int .u64 0, .int .u64 0, .int .u64 0] []),qp (.store 2 33 11),qo 3 (.mv (iC 14))] .ret) .skip))
 (sr [qm 34 4,qo 35 (.load 5 9 true),qo 36 (.nilck 34),qo 37 (.fa 36 2),qo 38 (.fa 37 2),qp (.store 38 35 9)] (.seq (.drw [] (oR 9) [8] (List.range 8) [qm 39 4,qo 40 (.nilck 39),qo 41 (.fa 40 2),qo 42 (.fa 41 1),qo 43 (ld 42),qo 44 (.fa 5 1),qo 45 (.load 44 4 true),qo 46 (.idxA 43 (iC 0) 4),qp (.store 46 45 4)]) (sr [qm 47 4,
 qo 48 (.nilck 47),qo 49 (.fa 48 2),qo 50 (.load 49 11 true),qp (.store 2 50 11),qo 3 (.mv (iC 0))] (.pre [.frzc (.s 2) 0 .set4, .frzc (.s 2) 1 .set4] .ret)))))))))⟩
theorem w109 {O : Oracle TT} (fuel : Nat) (h138 : C138 O (f138 fuel)) : C109 (fun _ => vcF (S := SS) O j109) (f109 fuel) := by
 intro sG Q R hQ h
 unfold f109 at h
 refine ⟨nle rfl, rfl, ?_⟩
 refine kc h ?_ ?_ <;> intro h
 refine kL [(.s 17), (.s 12), (.s 14)] (h138 _ _ _ _ _ _ _ _ _ _ _ _ _ _ _ LN _ LN _ _ ?_ (sb h))
 rintro qH v6 v7 v8 v9 vI vJ vK vL vM lA lB qN _ rfl _ rfl h
 obtain ⟨R5, h, a5, b5⟩ := sc h
 refine kX (fun σ => R5 (.inr ()) ∧ σ = ⟨[pT 2, (4, pS 17), pT 5], [eV (.s 2) [.isl .set4 [], .isl .set4 [], .bool false, .int .u64 0, .int .u64 0, .int .u64 0, .int .u64 0, .int .u64 0, .int .u64 0, .int .u64 0, .int .u64 0], eV (.s 17) [.str sG, ci vM, .osl (.sub (.s 19) 0) 0 lA.length, .osl (.sub (.s 19) 1) 0 lB.length, .bool false, .int .u64 0, .int .u64 0, .int .u64 0, .int .u64 0, .int .u64 0, .int .u64 0, .int .u64 0, .int .u64 0, .bool false], eV (.s 5) [.bool qH, .int .u64 v6, .int .u64 v7, .int .u64 v8, .int .u64 v9, .int .u64 vI, .int .u64 vJ, .int .u64 vK, .int .u64 vL], (.sub (.s 19) 0, (eR .set4 lA)), (.sub (.s 19) 1, (eR .set4 lB))]⟩) ?_ ?_
 cases qN
 replace h := cf h
 refine kc h ?_ ?_ <;> intro h
 conv => whnf
 exact ⟨ss h, rfl⟩
 replace h := sat_lft a5 h
 exact kR [] (ND 0) (hQ _ _ _ _ _ _ _ _ _ _ _ _ (ss h))
 replace h := ct h
 replace h := sat_lft a5 h
 exact kR [] (ND 0) (hQ _ _ _ _ _ _ _ _ _ _ _ _ (ss h))
 rintro _ ⟨h, rfl⟩
 replace h := b5 _ h
 refine kp h fun hbO h => ?_
 refine kg (sat_getN h) fun uuC huuC h => ?_
 obtain ⟨wP, wQ, wS, wU⟩ := uuC
 refine ⟨(v6, v7, v8, v9), rfl, ?_⟩
 conv => whnf
 refine ⟨LN, ?_⟩
 conv => whnf
 refine ⟨LN, ?_⟩
 exact kR [] (ND 0) (hQ _ _ _ _ _ _ _ _ _ _ _ _ (ss h))
 exact kR [] (ND 0) (hQ _ _ _ _ _ _ _ _ _ _ _ _ (ss h))
def f110b : Int → Int → Int → Int → Int → Option N4
 | v0, v5, v6, v7, v8 => caseI (wrap .i64 (Int.tdiv v0 64)) [grdP (0 ≤ (Int.tmod v0 64)) (some ((bOr .u64 v5 (bShl .u64 1 (Int.tmod v0 64))), v6, v7, v8)), grdP (0 ≤ (Int.tmod v0 64)) (some (v5, (bOr .u64 v6 (bShl .u64 1 (Int.tmod v0 64))), v7, v8)), grdP (0 ≤ (Int.tmod v0 64)) (some (v5, v6, (bOr .u64 v7 (bShl .u64 1 (Int.tmod v0 64))), v8)), grdP (0 ≤ (Int.tmod v0 64)) (some (v5, v6, v7, (bOr .u64 v8 (bShl .u64 1 (Int.tmod v0 64)))))]
def C110b (O : Oracle TT) (m : Int → Int → Int → Int → Int → Option N4) : Prop :=
 ∀ v0 v5 v6 v7 v8 (Q : N4 → Prop) (R : RR) (_ : ∀ v9 vA vB vC, Q (v9, vA, vB, vC) → R (.tup []) [eV (.x 0) [.int .u64 v9, .int .u64 vA, .int .u64 vB, .int .u64 vC]]) (_ : sat (m v0 v5 v6 v7 v8) Q), O 110 [pX 0, iD v0] [eV (.x 0) [.int .u64 v5, .int .u64 v6, .int .u64 v7, .int .u64 v8]] R
def j110b : Fn TT := ⟨16, [], (.drw [] (oR 13) [12] (List.range 12) [qm 4 0,qm 5 1,qo 6 (.bin .quo .num 5 (iC 64)),qo 7 (.nilck 4),qo 8 (.idxC 7 6 1 4),qo 9 (ld 8),qm 10 1,qo 11 (.bin .rem .num 10 (iC 64)),qo 12 (.bin .shl .num (.c (.int .u64 1)) 11),qo 13 (.bin .or .num 9 12),qo 14 (.nilck 4),qo 15 (.idxC 14 6 1 4),qp (.store 15 13 1)])⟩
theorem w110b {O : Oracle TT} : C110b (fun _ => vcF (S := SS) O j110b) f110b := by
 intro v6 vB vC vE vF Q R hQ h
 unfold f110b at h
 refine ⟨nle rfl, rfl, ?_⟩
 conv => whnf
 refine ⟨by decide, ?_⟩
 conv => whnf
 obtain ⟨hbj5, h⟩ := sat_caseI h
 refine ⟨hbj5, fun j5 hj5 => ?_⟩
 replace h := h j5 hj5
 replace hbj5 : (0 : Int) ≤ (wrap .i64 (Int.tdiv v6 64)) ∧ (wrap .i64 (Int.tdiv v6 64)) < 4 := hbj5
 have hcj5 : j5 = 0 ∨ j5 = 1 ∨ j5 = 2 ∨ j5 = 3 := by omega
 rcases hcj5 with rfl | rfl | rfl | rfl
 replace h := sat_j0 h
 conv => whnf
 refine ⟨by decide, ?_⟩
 refine kp h fun hbG h => ?_
 conv => whnf
 refine ⟨⟨by omega, by omega⟩, fun j7 hj7 => ?_⟩
 obtain rfl : j7 = 0 := by omega
 exact kR [] (ND 1) (hQ _ _ _ _ (ss h))
 replace h := sat_j1 h
 conv => whnf
 refine ⟨by decide, ?_⟩
 refine kp h fun hbH h => ?_
 conv => whnf
 refine ⟨⟨by omega, by omega⟩, fun j8 hj8 => ?_⟩
 obtain rfl : j8 = 1 := by omega
 exact kR [] (ND 1) (hQ _ _ _ _ (ss h))
 replace h := sat_j2 h
 conv => whnf
 refine ⟨by decide, ?_⟩
 refine kp h fun hbI h => ?_
 conv => whnf
 refine ⟨⟨by omega, by omega⟩, fun j9 hj9 => ?_⟩
 obtain rfl : j9 = 2 := by omega
 exact kR [] (ND 1) (hQ _ _ _ _ (ss h))
 replace h := sat_j3 h
 conv => whnf
 refine ⟨by decide, ?_⟩
 refine kp h fun hbJ h => ?_
 conv => whnf
 refine ⟨⟨by omega, by omega⟩, fun jA hjA => ?_⟩
 obtain rfl : jA = 3 := by omega
 exact kR [] (ND 1) (hQ _ _ _ _ (ss h))
def f139 : N4 → Int → Option (Bool)
 | (v5, v6, v7, v8), v0 => caseI (wrap .u8 (Int.tdiv v0 64)) [grdP (0 ≤ (Int.tmod v0 64)) (cond ((bAnd .u64 (bShr .u64 v5 (Int.tmod v0 64)) 1) == 1) (some true) (some false)), grdP (0 ≤ (Int.tmod v0 64)) (cond ((bAnd .u64 (bShr .u64 v6 (Int.tmod v0 64)) 1) == 1) (some true) (some false)), grdP (0 ≤ (Int.tmod v0 64)) (cond ((bAnd .u64 (bShr .u64 v7 (Int.tmod v0 64)) 1) == 1) (some true) (some false)), grdP (0 ≤ (Int.tmod v0 64)) (cond ((bAnd .u64 (bShr .u64 v8 (Int.tmod v0 64)) 1) == 1) (some true) (some false))]
def C139 (O : Oracle TT) (m : N4 → Int → Option (Bool)) : Prop :=
 ∀ v0 v5 v6 v7 v8 (Q : Bool → Prop) (R : RR) (_ : ∀ q9, Q q9 → R (bD q9) []) (_ : sat (m (v0, v5, v6, v7) v8) Q), O 139 [.c (.iptr .set4 (v0, v5, v6, v7) 0), .c (.int .u8 v8)] [] R
def j139 : Fn TT := ⟨16, [.t 4], (sr [qm 4 bF] (sr [qm 5 0,qm 6 1,qo 7 (.bin .quo .num 6 (.c (.int .u8 64))),qo 8 (.nilck 5),qo 9 (.idxC 8 7 1 4),qo 10 (ld 9),qm 11 1,qo 12 (.bin .rem .num 11 (.c (.int .u8 64))),qo 13 (.bin .shr .num 10 12),qo 14 (.bin .and .num 13 (.c (.int .u64 1))),qo 15 (.bin .eql .num 14 (.c (.int .u64 1))),
 qm 4 15] .ret))⟩
theorem w139 {O : Oracle TT} : C139 (fun _ => vcF (S := SS) O j139) f139 := by
 intro v7 v8 v9 vA v6 Q R hQ h
 unfold f139 at h
 refine ⟨nle rfl, rfl, ?_⟩
 conv => whnf
 refine ⟨by decide, ?_⟩
 conv => whnf
 obtain ⟨hbj5, h⟩ := sat_caseI h
 refine ⟨hbj5, fun j5 hj5 => ?_⟩
 replace h := h j5 hj5
 replace hbj5 : (0 : Int) ≤ (wrap .u8 (Int.tdiv v6 64)) ∧ (wrap .u8 (Int.tdiv v6 64)) < 4 := hbj5
 have hcj5 : j5 = 0 ∨ j5 = 1 ∨ j5 = 2 ∨ j5 = 3 := by omega
 rcases hcj5 with rfl | rfl | rfl | rfl
 replace h := sat_j0 h
 conv => whnf
 refine ⟨by decide, ?_⟩
 refine kp h fun hbB h => ?_
 refine kc h ?_ ?_ <;> intro h
 exact kR [] (ND 0) (hQ _ (ss h))
 exact kR [] (ND 0) (hQ _ (ss h))
 replace h := sat_j1 h
 conv => whnf
 refine ⟨by decide, ?_⟩
 refine kp h fun hbC h => ?_
 refine kc h ?_ ?_ <;> intro h
 exact kR [] (ND 0) (hQ _ (ss h))
 exact kR [] (ND 0) (hQ _ (ss h))
 replace h := sat_j2 h
 conv => whnf
 refine ⟨by decide, ?_⟩
 refine kp h fun hbE h => ?_
 refine kc h ?_ ?_ <;> intro h
 exact kR [] (ND 0) (hQ _ (ss h))
 exact kR [] (ND 0) (hQ _ (ss h))
 replace h := sat_j3 h
 conv => whnf
 refine ⟨by decide, ?_⟩
 refine kp h fun hbF h => ?_
 refine kc h ?_ ?_ <;> intro h
 exact kR [] (ND 0) (hQ _ (ss h))
 exact kR [] (ND 0) (hQ _ (ss h))
def f110c : Nat → Int → L4 → Option (L4)
 | e6, v8, r7 => caseI (wrap .i64 (Int.tdiv v8 64)) [getN r7 e6 fun uu9 => match uu9 with | (wA, w01, w02, w03) => grdP (0 ≤ (Int.tmod v8 64)) (getN r7 e6 fun uuC => match uuC with | (w04, wE, wF, wG) => some (r7.set e6 ((bOr .u64 wA (bShl .u64 1 (Int.tmod v8 64))), wE, wF, wG))), getN r7 e6 fun uuH => match uuH with | (w05, wI, w06, w07) => grdP (0 ≤ (Int.tmod v8 64)) (getN r7 e6 fun uuJ => match uuJ with | (wK, w08, wL, wM) => some (r7.set e6 (wK, (bOr .u64 wI (bShl .u64 1 (Int.tmod v8 64))), wL, wM))), getN r7 e6 fun uuN => match uuN with | (w09, w0A, wO, w0B) => grdP (0 ≤ (Int.tmod v8 64)) (getN r7 e6 fun uuP => match uuP with | (wQ, wS, w0C, wT) => some (r7.set e6 (wQ, wS, (bOr .u64 wO (bShl .u64 1 (Int.tmod v8 64))), wT))), getN r7 e6 fun uuU => match uuU with | (w0D, w0E, w0F, wW) => grdP (0 ≤ (Int.tmod v8 64)) (getN r7 e6 fun uuX => match uuX with | (wY, wZ, w00, w0G) => some (r7.set e6 (wY, wZ, w00, (bOr .u64 wW (bShl .u64 1 (Int.tmod v8 64))))))]
def C110c (O : Oracle TT) (m : Nat → Int → L4 → Option (L4)) : Prop :=
 ∀ (e8 : Nat) v9 (r6 : L4) (Q : L4 → Prop) (R : RR) (_ : ∀ (l7 : L4) (_ : l7.length = r6.length), Q l7 → R (.tup []) [(.x 0, (eR .set4 l7))]) (_ : sat (m e8 v9 r6) Q), O 110 [.c (.ptr (.x 0) e8 0), iD v9] [(.x 0, (eR .set4 r6))] R
def j110c : Fn TT := ⟨16, [], (.drw [] (oR 13) [12] (List.range 12) [qm 4 0,qm 5 1,qo 6 (.bin .quo .num 5 (iC 64)),qo 7 (.nilck 4),qo 8 (.idxC 7 6 1 4),qo 9 (ld 8),qm 10 1,qo 11 (.bin .rem .num 10 (iC 64)),qo 12 (.bin .shl .num (.c (.int .u64 1)) 11),qo 13 (.bin .or .num 9 12),qo 14 (.nilck 4),qo 15 (.idxC 14 6 1 4),qp (.store 15 13 1)])⟩
theorem w110c {O : Oracle TT} : C110c (fun _ => vcF (S := SS) O j110c) f110c := by
 intro e04 v7 r05 Q R hQ h
 unfold f110c at h
 refine ⟨nle rfl, rfl, ?_⟩
 conv => whnf
 refine ⟨by decide, ?_⟩
 conv => whnf
 obtain ⟨hbj6, h⟩ := sat_caseI h
 refine ⟨hbj6, fun j6 hj6 => ?_⟩
 replace h := h j6 hj6
 replace hbj6 : (0 : Int) ≤ (wrap .i64 (Int.tdiv v7 64)) ∧ (wrap .i64 (Int.tdiv v7 64)) < 4 := hbj6
 have hcj6 : j6 = 0 ∨ j6 = 1 ∨ j6 = 2 ∨ j6 = 3 := by omega
 rcases hcj6 with rfl | rfl | rfl | rfl
 replace h := sat_j0 h
 refine kg (sat_getN h) fun uu8 huu8 h => ?_
 obtain ⟨wM, w06, w07, w08⟩ := uu8
 conv => whnf
 refine ⟨by decide, ?_⟩
 refine kp h fun hb09 h => ?_
 conv => whnf
 refine ⟨⟨by omega, by omega⟩, fun j9 hj9 => ?_⟩
 obtain rfl : j9 = 0 := by omega
 refine kg (sat_getN h) fun uuA huuA h => ?_
 obtain ⟨w0A, wN, wO, wP⟩ := uuA
 refine ⟨((bOr .u64 wM (bShl .u64 1 (Int.tmod v7 64))), wN, wO, wP), rfl, ?_⟩
 exact kR [] (ND 1) (hQ _ LN (ss h))
 replace h := sat_j1 h
 refine kg (sat_getN h) fun uuC huuC h => ?_
 obtain ⟨w0B, wQ, w0C, w0D⟩ := uuC
 conv => whnf
 refine ⟨by decide, ?_⟩
 refine kp h fun hb0E h => ?_
 conv => whnf
 refine ⟨⟨by omega, by omega⟩, fun jE hjE => ?_⟩
 obtain rfl : jE = 1 := by omega
 refine kg (sat_getN h) fun uuF huuF h => ?_
 obtain ⟨wS, w0F, wT, wU⟩ := uuF
 refine ⟨(wS, (bOr .u64 wQ (bShl .u64 1 (Int.tmod v7 64))), wT, wU), rfl, ?_⟩
 exact kR [] (ND 1) (hQ _ LN (ss h))
 replace h := sat_j2 h
 refine kg (sat_getN h) fun uuG huuG h => ?_
 obtain ⟨w0G, w0H, wW, w0I⟩ := uuG
 conv => whnf
 refine ⟨by decide, ?_⟩
 refine kp h fun hb0J h => ?_
 conv => whnf
 refine ⟨⟨by omega, by omega⟩, fun jH hjH => ?_⟩
 obtain rfl : jH = 2 := by omega
 refine kg (sat_getN h) fun uuI huuI h => ?_
 obtain ⟨wX, wY, w0K, wZ⟩ := uuI
 refine ⟨(wX, wY, (bOr .u64 wW (bShl .u64 1 (Int.tmod v7 64))), wZ), rfl, ?_⟩
 exact kR [] (ND 1) (hQ _ LN (ss h))
 replace h := sat_j3 h
 refine kg (sat_getN h) fun uuJ huuJ h => ?_
 obtain ⟨w0L, w0M, w0N, w00⟩ := uuJ
 conv => whnf
 refine ⟨by decide, ?_⟩
 refine kp h fun hb0O h => ?_
 conv => whnf
 refine ⟨⟨by omega, by omega⟩, fun jK hjK => ?_⟩
 obtain rfl : jK = 3 := by omega
 refine kg (sat_getN h) fun uuL huuL h => ?_
 obtain ⟨w01, w02, w03, w0P⟩ := uuL
 refine ⟨(w01, w02, w03, (bOr .u64 w00 (bShl .u64 1 (Int.tmod v7 64)))), rfl, ?_⟩
 exact kR [] (ND 1) (hQ _ LN (ss h))
def f111_L10 (v5 : Int) : L4 → Nat → L4 → Option (Sum (Sum (L4) (L4)) (L4))
 | [], j6, l7 => some (.inr l7)
 | ((w9, wA, wB, wC)) :: tl8, j6, l7 => (f139 (w9, wA, wB, wC) (wrap .u8 v5)).bind fun qE => cond qE (grdP ((0 : Int) ≤ v5 ∧ v5 < 256) ((f110c v5.toNat ((j6 : Nat) : Int) l7).bind fun lF => f111_L10 v5 tl8 (j6 + 1) lF)) (f111_L10 v5 tl8 (j6 + 1) l7)
def f111_L8 (l6 : L4) : Nat → Int → L4 → Option (Sum (L4) (L4))
 | 0, v0, l5 => some (.inr l5)
 | g7 + 1, v0, l5 => sbind (ο := L4) (f111_L10 v0 l6 0 l5) (fun l8 => f111_L8 l6 g7 (v0 + 1) l8)
def f111 : L4 → L4 → Bool → Int → Int → Int → Int → Int → Int → Int → Int → Option (L4)
 | l0, l6, q7, v8, v9, vA, vB, vC, vE, vF, vG => sbind (ο := L4) (grdP ((256 : Int) ≤ 9223372036854775807) (f111_L8 l0 ((256 : Int) - 0).toNat 0 (List.replicate 256 ((0, 0, 0, 0) : Int × Int × Int × Int)))) (fun l5 => some l5)
def C111 (O : Oracle TT) (m : L4 → L4 → Bool → Int → Int → Int → Int → Int → Int → Int → Int → Option (L4)) : Prop :=
 ∀ l0 l5 q6 v7 v8 v9 vA vB vC vE vF (Q : L4 → Prop) (R : RR) (_ : ∀ lG, Q lG → R (pX 1) [eV (.x 0) [.isl .set4 l0, .isl .set4 l5, .bool q6, .int .u64 v7, .int .u64 v8, .int .u64 v9, .int .u64 vA, .int .u64 vB, .int .u64 vC, .int .u64 vE, .int .u64 vF], (.x 1, (eR .set4 lG))]) (_ : sat (m l0 l5 q6 v7 v8 v9 vA vB vC vE vF) Q), O 111 [pX 0] [eV (.x 0) [.isl .set4 l0, .isl .set4 l5, .bool q6, .int .u64 v7, .int .u64 v8, .int .u64 v9, .int .u64 vA, .int .u64 vB, .int .u64 vC, .int .u64 vE, .int .u64 vF]] R
def j111 : Fn TT := ⟨32, [.t 2], (sr [qo 2 (.mv (.c (.nilp)))] (sr [qo 3 (.allocR 3 .set4 256 ((0, 0, 0, 0) : Int × Int × Int × Int))] (.cut [3] [(.s 3), (.x 0)] (sr [qo 6 (.mv (iC 0))] (.block 0 (.loop (.keep [0, 3, 6] [(.x 0), (.s 3)] (.aft (sr [qo 7 (.bin .lss .num 6 (iC 256))] (.seq (.cond 7 .skip (.exit 0)) (.cut [0, 3, 6] [(.x 0), (.s 3)] (.block 1
 (sr [qm 8 6,qm 4 8] (sr [qm 9 0,qo 10 (.nilck 9),qo 11 (.fa 10 0),qo 12 (ld 11),qo 13 (.len false 12),qo 14 (.mv (iC 0))] (.block 2 (.loop (.keep [0, 3, 4, 6, 13, 14] [(.x 0), (.s 3)] (.aft (sr [qo 15 (.bin .lss .num 14 13)] (.seq (.cond 15 .skip (.exit 2)) (.seq (.block 3 (sr [qm 16 14,qm 5 16] (.seq
 (.reg [qm 17 0,qo 18 (.nilck 17),qo 19 (.fa 18 0),qo 20 (ld 19),qm 21 5,qo 22 (.idxA 20 21 4),qm 23 4,qo 24 (.conv .u8 23),qo 25 (.call 25 139 [22, 24])]) (.cond 25 (.reg [qm 26 4,qo 27 (.idxR 3 26 4 256),qm 28 5,qo 29 (.call 29 110 [27, 28])]) .skip)))) (.reg [qo 30 (.bin .add .num 14 (iC 1)),
 qm 14 30])))) [.keep [0, 3, 4, 6, 13, 14] [(.x 0), (.s 3)]]))))))) (.reg [qo 31 (.bin .add .num 6 (iC 1)),qm 6 31])))) [.keep [0, 3, 6] [(.x 0), (.s 3)]]))))) (sr [qm 2 3] .ret))))⟩
theorem w111 {O : Oracle TT} (h139 : C139 O f139) (h110c : C110c O f110c) : C111 (fun _ => vcF (S := SS) O j111) f111 := by
 intro l6 lM qN vO vP vQ vS vU vV vW vY Q R hQ h
 unfold f111 at h
 refine ⟨nle rfl, rfl, ?_⟩
 obtain ⟨RG, h, aG, bG⟩ := sc h
 refine kX (fun σ => ∃ l00, RG (.inr l00) ∧ σ = ⟨[pT 3], [(.s 3, (eR .set4 l00)), eV (.x 0) [.isl .set4 l6, .isl .set4 lM, .bool qN, .int .u64 vO, .int .u64 vP, .int .u64 vQ, .int .u64 vS, .int .u64 vU, .int .u64 vV, .int .u64 vW, .int .u64 vY]]⟩) ?_ ?_
 obtain ⟨hN04, h⟩ := sat_grdP h
 refine kX (fun σ n => ∃ (f8 : Nat) (v5 : Int) (z : Int) (lH : L4), f8 = n ∧ f8 = (256 - v5).toNat ∧ 0 ≤ v5 ∧ v5 = z ∧ sat (f111_L8 l6 f8 v5 lH) RG ∧ σ.keep [0, 3, 6] [(.x 0), (.s 3)] = ⟨[(0, pX 0), pT 3, (6, iD z)], [eV (.x 0) [.isl .set4 l6, .isl .set4 lM, .bool qN, .int .u64 vO, .int .u64 vP, .int .u64 vQ, .int .u64 vS, .int .u64 vU, .int .u64 vV, .int .u64 vW, .int .u64 vY], (.s 3, (eR .set4 lH))]⟩) ⟨_, _, 0, _, (List.replicate 256 ((0, 0, 0, 0) : Int × Int × Int × Int)), rfl, rfl, (by decide), rfl, h, rfl⟩ ?_
 rintro σ n ⟨f8, v5, _, lH, rfl, hf8, hpf8, rfl, h, hσ⟩
 refine kk hσ ?_
 intro tI (htI : tI = decide (v5 < 256))
 cases tI
 obtain rfl := il_nil hf8 htI
 rw [f111_L8] at h
 conv => whnf
 exact ⟨lH, ss h, rfl⟩
 obtain ⟨g9, rfl, hwg9, hpg9, hfg9⟩ := il_cons hf8 hpf8 htI hN04
 rw [f111_L8] at h
 obtain ⟨RJ, h, aJ, bJ⟩ := sc h
 refine kX (fun σ => ∃ lZ, RJ (.inr lZ) ∧ σ = ⟨[(0, pX 0), pT 3, (6, iD v5)], [eV (.x 0) [.isl .set4 l6, .isl .set4 lM, .bool qN, .int .u64 vO, .int .u64 vP, .int .u64 vQ, .int .u64 vS, .int .u64 vU, .int .u64 vV, .int .u64 vW, .int .u64 vY], (.s 3, (eR .set4 lZ))]⟩) ?_ ?_
 intro hl01
 refine kX (fun σ n => ∃ (remA : L4) (jB : Nat) (z : Int) (lK : L4), n = remA.length ∧ l6.drop jB = remA ∧ z = ((jB : Nat) : Int) ∧ sat (f111_L10 v5 remA jB lK) RJ ∧ σ.keep [0, 3, 4, 6, 13, 14] [(.x 0), (.s 3)] = ⟨[(0, pX 0), pT 3, (4, iD v5), (6, iD v5), (13, iD ((l6.length : Nat) : Int)), (14, iD z)], [eV (.x 0) [.isl .set4 l6, .isl .set4 lM, .bool qN, .int .u64 vO, .int .u64 vP, .int .u64 vQ, .int .u64 vS, .int .u64 vU, .int .u64 vV, .int .u64 vW, .int .u64 vY], (.s 3, (eR .set4 lK))]⟩) ⟨_, l6, 0, _, lH, rfl, rfl, rfl, h, rfl⟩ ?_
 rintro σ n ⟨remA, jB, _, lK, rfl, hremA, rfl, h, hσ⟩
 refine kk hσ ?_
 intro tL (htL : tL = decide (((jB : Nat) : Int) < ((l6.length : Nat) : Int)))
 cases tL
 obtain rfl := ll_nil hremA htL
 rw [f111_L10] at h
 conv => whnf
 exact ⟨lK, ss h, rfl⟩
 obtain ⟨xE, tlC, rfl, hxE, htlC⟩ := ll_cons hremA htL
 obtain ⟨w06, w07, w08, w09⟩ := xE
 rw [f111_L10] at h
 conv => whnf
 refine ⟨lx_bd hxE, fun uu02 huu02 => ?_⟩
 obtain rfl := lx_eq hxE huu02
 refine kL [] (h139 _ _ _ _ _ _ _ ?_ (sb h))
 rintro q05 h
 cases q05
 replace h := cf h
 conv => whnf
 exact ⟨tlC.length, nls, tlC, jB + 1, _, lK, rfl, htlC, lx_wr hxE hl01, h, rfl⟩
 replace h := ct h
 refine kp h fun hb0A h => ?_
 refine kL [(.s 3)] (h110c _ _ _ _ _ ?_ (sb h))
 rintro l03 hkrl03 h
 conv => whnf
 exact ⟨tlC.length, nls, tlC, jB + 1, _, l03, rfl, htlC, lx_wr hxE hl01, h, rfl⟩
 rintro _ ⟨lZ, h, rfl⟩
 replace h := bJ _ h
 conv => whnf
 exact ⟨g9, nls, g9, v5 + 1, _, lZ, rfl, hfg9, hpg9, hwg9.symm, h, rfl⟩
 rintro _ ⟨l00, h, rfl⟩
 replace h := bG _ h
 exact kR [(.s 3)] (ND 1) (hQ _ (ss h))
end Go.Clap
