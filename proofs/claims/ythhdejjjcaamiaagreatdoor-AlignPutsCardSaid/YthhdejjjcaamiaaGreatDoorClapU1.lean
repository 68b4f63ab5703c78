/- The checks of the small code against the loaded functions. -/
import Derived.Test.YthhdejjjcaamiaaGreatDoorClapG1
set_option linter.unusedVariables false
set_option linter.unusedSimpArgs false
set_option maxHeartbeats 4000000
set_option maxRecDepth 100000
namespace Go.Clap
open Go.IntKind (wrap)
def f26 : Int → Int → Option (Int)
  | v5, v0 => grdP (v0 ≠ 0) (cond (decide ((Int.tmod v5 v0) < 0)) (some (wrap .i64 ((Int.tmod v5 v0) + v0))) (some (Int.tmod v5 v0)))
def C26 (O : Oracle TT) (m : Int → Int → Option (Int)) : Prop :=
  ∀ v0 v5 (Q : Int → Prop) (R : RR) (_ : ∀ v6, Q v6 → R (iD v6) []) (_ : sat (m v0 v5) Q), O 26 [iD v0, iD v5] [] R
def j26 : Fn TT := ⟨14, [.t 4], (sr [qo 4 (.mv (iC 0))] (.seq (sr [qm 5 0,qm 6 1,qo 7 (.bin .rem .num 5 6),qm 0 7] (sr [qm 8 0,qo 9 (.bin .lss .num 8 (iC 0))] (.cond 9 (.reg [qm 10 0,qm 11 1,qo 12 (.bin .add .num 10 11),qm 0 12]) .skip))) (sr [qm 13 0,qm 4 13] .ret)))⟩
theorem w26 {O : Oracle TT} : C26 (fun _ => vcF (S := SS) O j26) f26 := by
 intro v5 v6 Q R hQ h
 unfold f26 at h
 refine ⟨nle rfl, rfl, ?_⟩
 refine kp h fun hb7 h => ?_
 refine kc h ?_ ?_ <;> intro h
 exact kR [] (ND 0) (hQ _ (ss h))
 exact kR [] (ND 0) (hQ _ (ss h))
def f44 : Int → Option (V)
  | v0 => some (V.mk 2 v0 (⟨#[]⟩ : BA) [])
def C44 (O : Oracle TT) (m : Int → Option (V)) : Prop :=
  ∀ v5 (Q : V → Prop) (R : RR) (_ : ∀ k6 n7 s8 f9, Q (V.mk k6 n7 s8 f9) → R (.agg [ci k6, ci n7, .str s8, .isl .fld f9]) []) (_ : sat (m v5) Q), O 44 [iD v5] [] R
def j44 : Fn TT := ⟨5, [.cell 2 4 true], (sr [qo 2 (.alloc 2 zV)] (sr [qm 3 0,qo 4 (.build zV [((0, 1), (iC 2)), ((1, 1), 3)]),qp (.store 2 4 4)] .ret))⟩
theorem w44 {O : Oracle TT} : C44 (fun _ => vcF (S := SS) O j44) f44 := by
 intro v0 Q R hQ h
 unfold f44 at h
 refine ⟨nle rfl, rfl, ?_⟩
 exact kR [] (ND 0) (hQ _ _ _ _ (ss h))
def f325 : Option (Ln) := (f44 (7 : Int)).bind fun (.mk k5 n6 s7 f8) => some (Ln.mk 4 (⟨#[98]⟩ : BA) (⟨#[]⟩ : BA) [] 0 0 0 0 (V.mk k5 n6 s7 f8) [] [])
def C325 (O : Oracle TT) (m : Option (Ln)) : Prop :=
  ∀ (Q : Ln → Prop) (R : RR) (_ : ∀ op5 nm6 to7 ns8 n9 loA hiB sepC kF nG sH fI prsJ ksK, Q (Ln.mk op5 nm6 to7 ns8 n9 loA hiB sepC (V.mk kF nG sH fI) prsJ ksK) → R (.agg [ci op5, .str nm6, .str to7, .isl .str ns8, ci n9, ci loA, ci hiB, .int .u8 sepC, ci kF, ci nG, .str sH, .isl .fld fI, .isl .two prsJ, .isl .lens ksK]) []) (_ : sat (m) Q), O 325 [] [] R
def j325 : Fn TT := ⟨3, [.cell 0 14 true], (sr [qo 0 (.alloc 0 zLn)] (sr [qo 1 (.call 1 44 [(iC 7)]),qo 2 (.build zLn [((0, 1), (iC 4)), ((1, 1), (.c (.str (⟨#[98]⟩ : BA)))), ((8, 4), 1)]),qp (.store 0 2 14)] .ret))⟩
theorem w325 {O : Oracle TT} (h44 : C44 O f44) : C325 (fun _ => vcF (S := SS) O j325) f325 := by
 intro Q R hQ h
 unfold f325 at h
 refine ⟨nle rfl, rfl, ?_⟩
 refine kL [] (h44 _ _ _ ?_ (sb h))
 rintro k5 n6 s7 f8 h
 exact kR [] (ND 0) (hQ _ _ _ _ _ _ _ _ _ _ _ _ _ _ (ss h))
def f25 : Option (Tp) := some (Tp.mk 2 (⟨#[]⟩ : BA) 0 9 (⟨#[]⟩ : BA) [])
def C25 (O : Oracle TT) (m : Option (Tp)) : Prop :=
  ∀ (Q : Tp → Prop) (R : RR) (_ : ∀ k5 m6 lo7 hi8 p9 psA, Q (Tp.mk k5 m6 lo7 hi8 p9 psA) → R (.agg [ci k5, .str m6, ci lo7, ci hi8, .str p9, .isl .part psA]) []) (_ : sat (m) Q), O 25 [] [] R
def j25 : Fn TT := ⟨2, [.cell 0 6 true], (sr [qo 0 (.alloc 0 zTp)] (sr [qo 1 (.build zTp [((0, 1), (iC 2)), ((3, 1), (iC 9))]),qp (.store 0 1 6)] .ret))⟩
theorem w25 {O : Oracle TT} : C25 (fun _ => vcF (S := SS) O j25) f25 := by
 intro Q R hQ h
 unfold f25 at h
 refine ⟨nle rfl, rfl, ?_⟩
 exact kR [] (ND 0) (hQ _ _ _ _ _ _ (ss h))
def f1029 : Option (Tp) := (f25).bind fun (.mk k5 m6 lo7 hi8 p9 psA) => (f25).bind fun (.mk kB mC loD hiE pF psG) => some (Tp.mk 6 (⟨#[]⟩ : BA) 0 0 (⟨#[]⟩ : BA) ([((⟨#[97]⟩ : BA), (Tp.mk k5 m6 lo7 hi8 p9 psA)), ((⟨#[98]⟩ : BA), (Tp.mk kB mC loD hiE pF psG))] : PT))
def C1029 (O : Oracle TT) (m : Option (Tp)) : Prop :=
  ∀ (Q : Tp → Prop) (R : RR) (_ : ∀ k5 m6 lo7 hi8 p9 psA, Q (Tp.mk k5 m6 lo7 hi8 p9 psA) → R (.agg [ci k5, .str m6, ci lo7, ci hi8, .str p9, .isl .part psA]) []) (_ : sat (m) Q), O 1029 [] [] R
def j1029 : Fn TT := ⟨7, [.cell 0 6 true], (sr [qo 0 (.alloc 0 zTp)] (sr [qo 1 (.call 1 25 []),qo 2 (.build zPt [((0, 1), (.c (.str (⟨#[97]⟩ : BA)))), ((1, 6), 1)]),qo 3 (.call 3 25 []),qo 4 (.build zPt [((0, 1), (.c (.str (⟨#[98]⟩ : BA)))), ((1, 6), 3)]),qo 5 (.bsl .part [2, 4]),qo 6 (.build zTp [((0, 1), (iC 6)), ((5, 1), 5)]),qp (.store 0 6 6)] .ret))⟩
theorem w1029 {O : Oracle TT} (h25 : C25 O f25) : C1029 (fun _ => vcF (S := SS) O j1029) f1029 := by
 intro Q R hQ h
 unfold f1029 at h
 refine ⟨nle rfl, rfl, ?_⟩
 refine kL [] (h25 _ _ ?_ (sb h))
 rintro k5 m6 lo7 hi8 p9 psA h
 refine kL [] (h25 _ _ ?_ (sb h))
 rintro kB mC loD hiE pF psG h
 exact kR [] (ND 0) (hQ _ _ _ _ _ _ (ss h))
def f30 : Int → Int → Option (V)
  | v5, v6 => (f44 v5).bind fun (.mk k7 n8 s9 fA) => (f44 v6).bind fun (.mk kB nC sF fG) => some (V.mk 6 0 (⟨#[]⟩ : BA) ([((⟨#[97]⟩ : BA), (V.mk k7 n8 s9 fA)), ((⟨#[98]⟩ : BA), (V.mk kB nC sF fG))] : FV))
def C30 (O : Oracle TT) (m : Int → Int → Option (V)) : Prop :=
  ∀ v5 v6 (Q : V → Prop) (R : RR) (_ : ∀ k7 n8 s9 fA, Q (V.mk k7 n8 s9 fA) → R (.agg [ci k7, ci n8, .str s9, .isl .fld fA]) []) (_ : sat (m v5 v6) Q), O 30 [iD v5, iD v6] [] R
def j30 : Fn TT := ⟨13, [.cell 4 4 true], (sr [qo 4 (.alloc 4 zV)] (sr [qm 5 0,qo 6 (.call 6 44 [5]),qo 7 (.build zFd [((0, 1), (.c (.str (⟨#[97]⟩ : BA)))), ((1, 4), 6)]),qm 8 1,qo 9 (.call 9 44 [8]),qo 10 (.build zFd [((0, 1), (.c (.str (⟨#[98]⟩ : BA)))), ((1, 4), 9)]),qo 11 (.bsl .fld [7, 10]),
 qo 12 (.build zV [((0, 1), (iC 6)), ((3, 1), 11)]),qp (.store 4 12 4)] .ret))⟩
theorem w30 {O : Oracle TT} (h44 : C44 O f44) : C30 (fun _ => vcF (S := SS) O j30) f30 := by
 intro v5 v6 Q R hQ h
 unfold f30 at h
 refine ⟨nle rfl, rfl, ?_⟩
 refine kL [] (h44 _ _ _ ?_ (sb h))
 rintro k7 n8 s9 fA h
 refine kL [] (h44 _ _ _ ?_ (sb h))
 rintro kB nC sF fG h
 exact kR [] (ND 0) (hQ _ _ _ _ (ss h))
def f105_L2 (l0 : PT) : Nat → Option (Sum (Int) (Unit))
  | 0 => none
  | g4 + 1 => cond (decide ((0 : Int) < ((l0.length : Nat) : Int))) (none) (some (.inr ()))
def f105_L4 (l0 : PT) : Nat → Option (Sum (Int) (Unit))
  | 0 => none
  | g4 + 1 => cond (decide ((0 : Int) < ((l0.length : Nat) : Int))) (none) (some (.inr ()))
def f105_L6 (l0 : PT) : Nat → Option (Sum (Int) (Unit))
  | 0 => none
  | g4 + 1 => cond (decide ((0 : Int) < ((l0.length : Nat) : Int))) (none) (some (.inr ()))
def f105 (fuel : Nat) : PT → Option (Int)
  | l0 => cond (decide (((l0.length : Nat) : Int) > 24)) (some 2) (sbind (ο := Unit) (f105_L2 l0 fuel) (fun () => sbind (ο := Unit) (f105_L4 l0 fuel) (fun () => sbind (ο := Unit) (f105_L6 l0 fuel) (fun () => some 0))))
def C105 (O : Oracle TT) (m : PT → Option (Int)) : Prop :=
  ∀ l0 (Q : Int → Prop) (R : RR) (_ : ∀ v5, Q v5 → R (iD v5) []) (_ : sat (m l0) Q), O 105 [.c (.isl .dfn l0)] [] R
def j105 : Fn TT := ⟨64, [.t 2], (sr [qo 2 (.mv (iC 0))] (.seq (sr [qm 12 0,qo 13 (.len false 12),qo 14 (.bin .gtr .num 13 (iC 24))] (.cond 14 (sr [qo 2 (.mv (iC 2))] .ret) .skip)) (.cut [0] [] (sr [qm 15 0,qo 16 (.len false 15),qo 17 (.mv (iC 0))] (.block 0 (.loop (.keep [0, 16, 17] [] (.aft (sr [qo 18 (.bin .lss .num 17 16)]
 (.seq (.cond 18 .dead (.exit 0)) .dead)) [.keep [0, 16, 17] []]))))) (.cut [0] [] (sr [qm 33 0,qo 34 (.len false 33),qo 35 (.mv (iC 0))] (.block 2 (.loop (.keep [0, 34, 35] [] (.aft (sr [qo 36 (.bin .lss .num 35 34)] (.seq (.cond 36 .dead (.exit 2)) .dead)) [.keep [0, 34, 35] []]))))) (.cut [] [] (sr [qm 47 0,qo 48 (.len false 47),qo 49 (.mv (iC 0))]
 (.block 4 (.loop (.keep [48, 49] [] (.aft (sr [qo 50 (.bin .lss .num 49 48)] (.seq (.cond 50 .dead (.exit 4)) .dead)) [.keep [48, 49] []]))))) (sr [qo 2 (.mv (iC 0))] .ret))))))⟩
theorem w105 {O : Oracle TT} (fuel : Nat) : C105 (fun _ => vcF (S := SS) O j105) (f105 fuel) := by
 intro l5 Q R hQ h
 unfold f105 at h
 refine ⟨nle rfl, rfl, ?_⟩
 intro hlE
 refine kc h ?_ ?_ <;> intro h
 obtain ⟨R6, h, a6, b6⟩ := sc h
 refine kX (fun σ => R6 (.inr ()) ∧ σ = ⟨[(0, .c (.isl .dfn l5))], []⟩) ?_ ?_
 intro hlG
 refine kX (fun σ n => ∃ (fA : Nat), fA = n ∧ sat (f105_L2 l5 fA) R6 ∧ σ.keep [0, 16, 17] [] = ⟨[(0, .c (.isl .dfn l5)), (16, iD ((l5.length : Nat) : Int)), (17, iD 0)], []⟩) ⟨_, _, rfl, h, rfl⟩ ?_
 rintro σ n ⟨fA, rfl, h, hσ⟩
 refine kk hσ ?_
 rcases fA with _ | gH
 rw [f105_L2] at h; exact nn h
 rw [f105_L2] at h
 refine kc h ?_ ?_ <;> intro h
 conv => whnf
 exact ⟨ss h, rfl⟩
 exact (sat_none h).elim
 rintro _ ⟨h, rfl⟩
 replace h := b6 _ h
 obtain ⟨R8, h, a8, b8⟩ := sc h
 refine kX (fun σ => R8 (.inr ()) ∧ σ = ⟨[(0, .c (.isl .dfn l5))], []⟩) ?_ ?_
 intro hlI
 refine kX (fun σ n => ∃ (fB : Nat), fB = n ∧ sat (f105_L4 l5 fB) R8 ∧ σ.keep [0, 34, 35] [] = ⟨[(0, .c (.isl .dfn l5)), (34, iD ((l5.length : Nat) : Int)), (35, iD 0)], []⟩) ⟨_, _, rfl, h, rfl⟩ ?_
 rintro σ n ⟨fB, rfl, h, hσ⟩
 refine kk hσ ?_
 rcases fB with _ | gJ
 rw [f105_L4] at h; exact nn h
 rw [f105_L4] at h
 refine kc h ?_ ?_ <;> intro h
 conv => whnf
 exact ⟨ss h, rfl⟩
 exact (sat_none h).elim
 rintro _ ⟨h, rfl⟩
 replace h := b8 _ h
 obtain ⟨R9, h, a9, b9⟩ := sc h
 refine kX (fun σ => R9 (.inr ()) ∧ σ = ⟨[], []⟩) ?_ ?_
 intro hlK
 refine kX (fun σ n => ∃ (fC : Nat), fC = n ∧ sat (f105_L6 l5 fC) R9 ∧ σ.keep [48, 49] [] = ⟨[(48, iD ((l5.length : Nat) : Int)), (49, iD 0)], []⟩) ⟨_, _, rfl, h, rfl⟩ ?_
 rintro σ n ⟨fC, rfl, h, hσ⟩
 refine kk hσ ?_
 rcases fC with _ | gL
 rw [f105_L6] at h; exact nn h
 rw [f105_L6] at h
 refine kc h ?_ ?_ <;> intro h
 conv => whnf
 exact ⟨ss h, rfl⟩
 exact (sat_none h).elim
 rintro _ ⟨h, rfl⟩
 replace h := b9 _ h
 exact kR [] (ND 0) (hQ _ (ss h))
 exact kR [] (ND 0) (hQ _ (ss h))
def f59 : Int → Option (Bool)
  | v0 => cond (v0 != v0) (some true) (some false)
def C59 (O : Oracle TT) (m : Int → Option (Bool)) : Prop :=
  ∀ v0 (Q : Bool → Prop) (R : RR) (_ : ∀ q5, Q q5 → R (bD q5) []) (_ : sat (m v0) Q), O 59 [iD v0] [] R
def j59 : Fn TT := ⟨6, [.t 2], (sr [qm 2 bF] (sr [qm 3 0,qm 4 0,qo 5 (.bin .neq .num 3 4),qm 2 5] .ret))⟩
theorem w59 {O : Oracle TT} : C59 (fun _ => vcF (S := SS) O j59) f59 := by
 intro v0 Q R hQ h
 unfold f59 at h
 refine ⟨nle rfl, rfl, ?_⟩
 refine kc h ?_ ?_ <;> intro h
 exact kR [] (ND 0) (hQ _ (ss h))
 exact kR [] (ND 0) (hQ _ (ss h))
def f38 : Int → Int → Option (Int)
  | v0, v5 => (f59 v0).bind fun q7 => (f59 v5).bind fun q6 => cond q7 (cond q6 (some 0) (some (-1))) (cond q6 (some 1) (cond (decide (v0 < v5)) (some (-1)) (cond (decide (v0 > v5)) (some 1) (some 0))))
def C38 (O : Oracle TT) (m : Int → Int → Option (Int)) : Prop :=
  ∀ v0 v5 (Q : Int → Prop) (R : RR) (_ : ∀ v6, Q v6 → R (iD v6) []) (_ : sat (m v0 v5) Q), O 38 [iD v0, iD v5] [] R
def j38 : Fn TT := ⟨20, [.t 4], (sr [qo 4 (.mv (iC 0))] (sr [qm 7 0,qo 8 (.call 8 59 [7]),qm 5 8] (sr [qm 9 1,qo 10 (.call 10 59 [9]),qm 6 10] (.seq (sr [qm 11 5] (.cond 11 (.seq (sr [qm 12 6] (.cond 12 (sr [qo 4 (.mv (iC 0))] .ret) .skip)) (sr [qo 4 (.mv (iC (-1)))] .ret)) .skip)) (.seq
 (sr [qm 13 6] (.cond 13 (sr [qo 4 (.mv (iC 1))] .ret) .skip)) (.seq (sr [qm 14 0,qm 15 1,qo 16 (.bin .lss .num 14 15)] (.cond 16 (sr [qo 4 (.mv (iC (-1)))] .ret) .skip)) (.seq (sr [qm 17 0,qm 18 1,qo 19 (.bin .gtr .num 17 18)] (.cond 19 (sr [qo 4 (.mv (iC 1))] .ret) .skip)) (sr [qo 4 (.mv (iC 0))]
 .ret))))))))⟩
theorem w38 {O : Oracle TT} (h59 : C59 O f59) : C38 (fun _ => vcF (S := SS) O j38) f38 := by
 intro v6 v7 Q R hQ h
 unfold f38 at h
 refine ⟨nle rfl, rfl, ?_⟩
 refine kL [] (h59 _ _ _ ?_ (sb h))
 rintro q5 h
 refine kL [] (h59 _ _ _ ?_ (sb h))
 rintro q0 h
 cases q5
 replace h := cf h
 cases q0
 replace h := cf h
 refine kc h ?_ ?_ <;> intro h
 refine kc h ?_ ?_ <;> intro h
 exact kR [] (ND 0) (hQ _ (ss h))
 exact kR [] (ND 0) (hQ _ (ss h))
 exact kR [] (ND 0) (hQ _ (ss h))
 replace h := ct h
 exact kR [] (ND 0) (hQ _ (ss h))
 replace h := ct h
 cases q0
 replace h := cf h
 exact kR [] (ND 0) (hQ _ (ss h))
 replace h := ct h
 exact kR [] (ND 0) (hQ _ (ss h))
def f78 : BA → BA → Option (Int)
  | s3, s4 => some (Lib.compareBytes s3.data.toList s4.data.toList)
def C78 (O : Oracle TT) (m : BA → BA → Option (Int)) : Prop :=
  ∀ s5 s6 (Q : Int → Prop) (R : RR) (_ : ∀ v7, Q v7 → R (iD v7) []) (_ : sat (m s5 s6) Q), O 78 [sD s5, sD s6] [] R
def j78 : Fn TT := ⟨8, [.t 4], (sr [qo 4 (.mv (iC 0))] (sr [qm 5 0,qm 6 1,qo 7 (.xcmp 5 6),qm 4 7] .ret))⟩
theorem w78 {O : Oracle TT} : C78 (fun _ => vcF (S := SS) O j78) f78 := by
 intro s3 s4 Q R hQ h
 unfold f78 at h
 refine ⟨nle rfl, rfl, ?_⟩
 exact kR [] (ND 0) (hQ _ (ss h))
def f54 : BA → BA → Option (Int)
  | s5, s6 => (f78 s5 s6).bind fun v7 => some v7
def C54 (O : Oracle TT) (m : BA → BA → Option (Int)) : Prop :=
  ∀ s5 s6 (Q : Int → Prop) (R : RR) (_ : ∀ v7, Q v7 → R (iD v7) []) (_ : sat (m s5 s6) Q), O 54 [sD s5, sD s6] [] R
def j54 : Fn TT := ⟨8, [.t 4], (sr [qo 4 (.mv (iC 0))] (sr [qm 5 0,qm 6 1,qo 7 (.call 7 78 [5, 6]),qm 4 7] .ret))⟩
theorem w54 {O : Oracle TT} (h78 : C78 O f78) : C54 (fun _ => vcF (S := SS) O j54) f54 := by
 intro s5 s6 Q R hQ h
 unfold f54 at h
 refine ⟨nle rfl, rfl, ?_⟩
 refine kL [] (h78 _ _ _ _ ?_ (sb h))
 rintro v7 h
 exact kR [] (ND 0) (hQ _ (ss h))
def f53_L2 : LI → Nat → Option (Sum (Int) (Unit))
  | [], j0 => some (.inr ())
  | v5 :: tl6, j0 => cond (v5 != 0) (lft (some v5)) (f53_L2 tl6 (j0 + 1))
def f53 : LI → Option (Int)
  | l0 => sbind (ο := Unit) (f53_L2 l0 0) (fun () => some 0)
def C53 (O : Oracle TT) (m : LI → Option (Int)) : Prop :=
  ∀ l0 (Q : Int → Prop) (R : RR) (_ : ∀ v5, Q v5 → R (iD v5) []) (_ : sat (m l0) Q), O 53 [.c (.isl .int l0)] [] R
def j53 : Fn TT := ⟨18, [.t 2], (sr [qo 2 (.mv (iC 0))] (sr [qo 3 (.mv (iC 0))] (.cut [3] [] (sr [qm 6 0,qo 7 (.len false 6),qo 8 (.mv (iC 0))] (.block 0 (.loop (.keep [3, 6, 7, 8] [] (.aft (sr [qo 9 (.bin .lss .num 8 7)] (.seq (.cond 9 .skip (.exit 0)) (.seq (.block 1 (sr [qo 10 (.idxA 6 8 1),qo 11 (ld 10),qm 5 11] (.seq
 (.reg [qm 12 5,qm 13 3,qo 14 (.bin .neq .num 12 13)]) (.cond 14 (sr [qm 15 5,qm 2 15] .ret) .skip)))) (.reg [qo 16 (.bin .add .num 8 (iC 1)),qm 8 16])))) [.keep [3, 6, 7, 8] []]))))) (sr [qm 17 3,qm 2 17] .ret))))⟩
theorem w53 {O : Oracle TT} : C53 (fun _ => vcF (S := SS) O j53) f53 := by
 intro l9 Q R hQ h
 unfold f53 at h
 refine ⟨nle rfl, rfl, ?_⟩
 obtain ⟨R6, h, a6, b6⟩ := sc h
 refine kX (fun σ => R6 (.inr ()) ∧ σ = ⟨[(3, iD 0)], []⟩) ?_ ?_
 intro hlG
 refine kX (fun σ n => ∃ (rem5 : LI) (j8 : Nat) (z : Int), n = rem5.length ∧ l9.drop j8 = rem5 ∧ z = ((j8 : Nat) : Int) ∧ sat (f53_L2 rem5 j8) R6 ∧ σ.keep [3, 6, 7, 8] [] = ⟨[(3, iD 0), (6, .c (.isl .int l9)), (7, iD ((l9.length : Nat) : Int)), (8, iD z)], []⟩) ⟨_, l9, 0, _, rfl, rfl, rfl, h, rfl⟩ ?_
 rintro σ n ⟨rem5, j8, _, rfl, hrem5, rfl, h, hσ⟩
 refine kk hσ ?_
 intro tA (htA : tA = decide (((j8 : Nat) : Int) < ((l9.length : Nat) : Int)))
 cases tA
 obtain rfl := ll_nil hrem5 htA
 rw [f53_L2] at h
 conv => whnf
 exact ⟨ss h, rfl⟩
 obtain ⟨vH, tlB, rfl, hxC, htlB⟩ := ll_cons hrem5 htA
 rw [f53_L2] at h
 conv => whnf
 refine ⟨lx_bd hxC, fun uuE huuE => ?_⟩
 obtain rfl := lx_eq hxC huuE
 refine kc h ?_ ?_ <;> intro h
 conv => whnf
 exact ⟨tlB.length, nls, tlB, j8 + 1, _, rfl, htlB, lx_wr hxC hlG, h, rfl⟩
 replace h := sat_lft a6 h
 exact kR [] (ND 0) (hQ _ (ss h))
 rintro _ ⟨h, rfl⟩
 replace h := b6 _ h
 exact kR [] (ND 0) (hQ _ (ss h))
def b34 (self55 : FV → FV → Option (Int)) : V → V → Option (Int)
  | .mk k5 n7 s8 f9, .mk kA nB sC fF => cond (k5 == 3) (none) ((f38 k5 kA).bind fun vG => (f38 n7 nB).bind fun vH => (f54 s8 sC).bind fun vI => (f53 ([vG, vH, vI] : LI)).bind fun v6 => cond (v6 != 0) (some v6) ((self55 f9 fF).bind fun vJ => some vJ))
def f55_L2 (self56 : (BA × V) → (BA × V) → Option (Int)) (l6 : FV) : FV → Nat → Option (Sum (Int) (Unit))
  | [], j5 => some (.inr ())
  | ((a8, .mk k9 nA sB fC)) :: tlF, j5 => cond (decide (((j5 : Nat) : Int) ≥ ((l6.length : Nat) : Int))) (lft (some 1)) (getL l6 ((j5 : Nat) : Int) fun uuG => match uuG with | (aH, .mk kI nJ sK fM) => (self56 (a8, (V.mk k9 nA sB fC)) (aH, (V.mk kI nJ sK fM))).bind fun v7 => cond (v7 != 0) (lft (some v7)) (f55_L2 self56 l6 tlF (j5 + 1)))
def b55 (self56 : (BA × V) → (BA × V) → Option (Int)) : FV → FV → Option (Int)
  | l0, l3 => sbind (ο := Unit) (f55_L2 self56 l3 l0 0) (fun () => cond (decide (((l0.length : Nat) : Int) < ((l3.length : Nat) : Int))) (some (-1)) (some 0))
def b56 (self34 : V → V → Option (Int)) : (BA × V) → (BA × V) → Option (Int)
  | (a5, .mk k6 n7 s8 f9), (aA, .mk kB nC sF fG) => (f54 a5 aA).bind fun vH => (self34 (V.mk k6 n7 s8 f9) (V.mk kB nC sF fG)).bind fun vI => (f53 ([vH, vI] : LI)).bind fun vJ => some vJ
def S34 : Nat → (V → V → Option (Int)) × (FV → FV → Option (Int)) × ((BA × V) → (BA × V) → Option (Int))
  | 0 => (fun _ _ => none, fun _ _ => none, fun _ _ => none)
  | n + 1 => (b34 (S34 n).2.1, b55 (S34 n).2.2, b56 (S34 n).1)
def f34 (n : Nat) : V → V → Option (Int) := (S34 n).1
def f55 (n : Nat) : FV → FV → Option (Int) := (S34 n).2.1
def f56 (n : Nat) : (BA × V) → (BA × V) → Option (Int) := (S34 n).2.2
def C34 (O : Oracle TT) (m : V → V → Option (Int)) : Prop :=
  ∀ k5 n6 s7 f8 k9 nA sB fC (Q : Int → Prop) (R : RR) (_ : ∀ vF, Q vF → R (iD vF) []) (_ : sat (m (V.mk k5 n6 s7 f8) (V.mk k9 nA sB fC)) Q), O 34 [.agg [ci k5, ci n6, .str s7, .isl .fld f8], .agg [ci k9, ci nA, .str sB, .isl .fld fC]] [] R
def j34 : Fn TT := ⟨42, [.t 4], (sr [qo 2 (.box 2 0),qo 3 (.box 3 1),qo 4 (.mv (iC 0))] (.seq (.drw [] (oR 6) [] (List.range 6) [qo 8 (.fa 2 1),qo 9 (ld 8),qo 10 (.fa 3 1),qo 11 (ld 10),qm 5 9,qm 6 11]) (.seq (sr [qo 12 (.fa 2 0),qo 13 (ld 12),qo 14 (.bin .eql .num 13 (iC 3))] (.cond 14 .dead .skip)) (.seq
 (.drw [] (ol [0, 1, 2, 3, 5, 6, 8, 9, 10, 11, 4, 7, 12, 13, 14, 15]) [] [0, 1, 2, 3, 5, 6, 8, 9, 10, 11, 15] [qo 19 (.fa 2 0),qo 20 (ld 19),qo 21 (.fa 3 0),qo 22 (ld 21),qo 23 (.call 23 38 [20, 22]),qm 24 5,qm 25 6,qo 26 (.call 26 38 [24, 25]),qo 27 (.fa 2 2),qo 28 (ld 27),qo 29 (.fa 3 2),qo 30 (ld 29),
 qo 31 (.call 31 54 [28, 30]),qo 32 (.bsl .int [23, 26, 31]),qo 33 (.call 33 53 [32]),qm 7 33]) (.seq (sr [qm 34 7,qo 35 (.bin .neq .num 34 (iC 0))] (.cond 35 (sr [qm 36 7,qm 4 36] .ret) .skip)) (sr [qo 37 (.fa 2 3),qo 38 (ld 37),qo 39 (.fa 3 3),qo 40 (ld 39),qo 41 (.call 41 55 [38, 40, (.c (.fn 56 []))]),
 qm 4 41] .ret))))))⟩
def C55 (O : Oracle TT) (m : FV → FV → Option (Int)) : Prop :=
  ∀ l0 l5 (Q : Int → Prop) (R : RR) (_ : ∀ v6, Q v6 → R (iD v6) []) (_ : sat (m l0 l5) Q), O 55 [.c (.isl .fld l0), .c (.isl .fld l5), .c (.fn 56 [])] [] R
def j55 : Fn TT := ⟨39, [.t 6], (sr [qo 6 (.mv (iC 0))] (.cut [0, 1] [] (sr [qm 11 0,qo 12 (.len false 11),qo 13 (.mv (iC 0))] (.block 0 (.loop (.keep [0, 1, 2, 11, 12, 13] [] (.aft (sr [qo 14 (.bin .lss .num 13 12)] (.seq (.cond 14 .skip (.exit 0)) (.seq (.block 1 (sr [qm 15 13,qo 16 (.idxA 11 13 5),qo 17 (.load 16 5 true),
 qo 8 (.alloc 8 zFd),qm 7 15,qp (.store 8 17 5)] (.seq (sr [qm 18 7,qm 19 1,qo 20 (.len false 19),qo 21 (.bin .geq .num 18 20)] (.cond 21 (sr [qo 6 (.mv (iC 1))] .ret) .skip)) (sr [qm 22 1,qm 23 7,qo 24 (.idxA 22 23 5),qo 25 (.load 24 5 true),qo 9 (.alloc 9 zFd),qp (.store 9 25 5)] (sr [qm 26 2,
 qo 27 (.load 8 5 true),qo 28 (.load 9 5 true),qo 29 (.callv 29 26 [27, 28]),qm 10 29] (sr [qm 30 10,qo 31 (.bin .neq .num 30 (iC 0))] (.cond 31 (sr [qm 32 10,qm 6 32] .ret) .skip))))))) (.reg [qo 33 (.bin .add .num 13 (iC 1)),qm 13 33])))) [.keep [0, 1, 2, 11, 12, 13] []]))))) (.seq (sr [qm 34 0,qo 35 (.len false 34),
 qm 36 1,qo 37 (.len false 36),qo 38 (.bin .lss .num 35 37)] (.cond 38 (sr [qo 6 (.mv (iC (-1)))] .ret) .skip)) (sr [qo 6 (.mv (iC 0))] .ret))))⟩
def C56 (O : Oracle TT) (m : (BA × V) → (BA × V) → Option (Int)) : Prop :=
  ∀ a5 k6 n7 s8 f9 aA kB nC sF fG (Q : Int → Prop) (R : RR) (_ : ∀ vH, Q vH → R (iD vH) []) (_ : sat (m (a5, (V.mk k6 n7 s8 f9)) (aA, (V.mk kB nC sF fG))) Q), O 56 [.agg [.str a5, ci k6, ci n7, .str s8, .isl .fld f9], .agg [.str aA, ci kB, ci nC, .str sF, .isl .fld fG]] [] R
def j56 : Fn TT := ⟨17, [.t 4], (sr [qo 2 (.box 2 0),qo 3 (.box 3 1),qo 4 (.mv (iC 0))] (.seq (.drw [] (ol [0, 1, 2, 3, 5, 6, 7, 8, 4, 9, 10, 11, 12]) [] [0, 1, 2, 3, 5, 6, 7, 8, 12] [qo 5 (.fa 2 0),qo 6 (ld 5),qo 7 (.fa 3 0),qo 8 (ld 7),qo 9 (.call 9 54 [6, 8]),qo 10 (.fa 2 1),qo 11 (.load 10 4 true),qo 12 (.fa 3 1),qo 13 (.load 12 4 true),
 qo 14 (.call 14 34 [11, 13]),qo 15 (.bsl .int [9, 14]),qo 16 (.call 16 53 [15]),qm 4 16]) .ret))⟩
theorem w34 {O : Oracle TT} (self55 : FV → FV → Option (Int)) (h38 : C38 O f38) (h54 : C54 O f54) (h53 : C53 O f53) (h55 : C55 O self55) : C34 (fun _ => vcF (S := SS) O j34) (b34 self55) := by
 intro k5 n6 s7 f8 k9 nA sB fC Q R hQ h
 unfold b34 at h
 refine ⟨nle rfl, rfl, ?_⟩
 refine kc h ?_ ?_ <;> intro h
 refine kL [] (h38 _ _ _ _ ?_ (sb h))
 rintro vF h
 refine kL [] (h38 _ _ _ _ ?_ (sb h))
 rintro vG h
 refine kL [] (h54 _ _ _ _ ?_ (sb h))
 rintro vH h
 refine kL [] (h53 _ _ _ ?_ (sb h))
 rintro vI h
 refine kc h ?_ ?_ <;> intro h
 refine kL [] (h55 _ _ _ _ ?_ (sb h))
 rintro vJ h
 exact kR [] (ND 0) (hQ _ (ss h))
 exact kR [] (ND 0) (hQ _ (ss h))
 exact (sat_none h).elim
theorem w55 {O : Oracle TT} (self56 : (BA × V) → (BA × V) → Option (Int)) (h56 : C56 O self56) : C55 (fun _ => vcF (S := SS) O j55) (b55 self56) := by
 intro l5 lF Q R hQ h
 unfold b55 at h
 refine ⟨nle rfl, rfl, ?_⟩
 obtain ⟨R6, h, a6, hrR6⟩ := sc h
 refine kX (fun σ => R6 (.inr ()) ∧ σ = ⟨[(0, .c (.isl .fld l5)), (1, .c (.isl .fld lF))], []⟩) ?_ ?_
 intro hlI
 refine kX (fun σ n => ∃ (rem8 : FV) (j9 : Nat) (z : Int), n = rem8.length ∧ l5.drop j9 = rem8 ∧ z = ((j9 : Nat) : Int) ∧ sat (f55_L2 self56 lF rem8 j9) R6 ∧ σ.keep [0, 1, 2, 11, 12, 13] [] = ⟨[(0, .c (.isl .fld l5)), (1, .c (.isl .fld lF)), (2, .c (.fn 56 [])), (11, .c (.isl .fld l5)), (12, iD ((l5.length : Nat) : Int)), (13, iD z)], []⟩) ⟨_, l5, 0, _, rfl, rfl, rfl, h, rfl⟩ ?_
 rintro σ n ⟨rem8, j9, _, rfl, hrem8, rfl, h, hσ⟩
 refine kk hσ ?_
 intro tA (htA : tA = decide (((j9 : Nat) : Int) < ((l5.length : Nat) : Int)))
 cases tA
 obtain rfl := ll_nil hrem8 htA
 rw [f55_L2] at h
 conv => whnf
 exact ⟨ss h, rfl⟩
 obtain ⟨xB, tlC, rfl, hxB, htlC⟩ := ll_cons hrem8 htA
 obtain ⟨aJ, ⟨kK, nM, sN, fO⟩⟩ := xB
 rw [f55_L2] at h
 conv => whnf
 refine ⟨lx_bd hxB, fun uuG huuG => ?_⟩
 obtain rfl := lx_eq hxB huuG
 intro hlP
 refine kc h ?_ ?_ <;> intro h
 refine kg (sat_getL h) fun uuH huuH h => ?_
 obtain ⟨aQ, ⟨kS, nT, sU, fV⟩⟩ := uuH
 refine kL [] (h56 _ _ _ _ _ _ _ _ _ _ _ _ ?_ (sb h))
 rintro vW h
 refine kc h ?_ ?_ <;> intro h
 conv => whnf
 exact ⟨tlC.length, nls, tlC, j9 + 1, _, rfl, htlC, lx_wr hxB hlI, h, rfl⟩
 replace h := sat_lft a6 h
 exact kR [] (ND 0) (hQ _ (ss h))
 replace h := sat_lft a6 h
 exact kR [] (ND 0) (hQ _ (ss h))
 rintro _ ⟨h, rfl⟩
 replace h := hrR6 _ h
 intro hlY
 intro hlZ
 refine kc h ?_ ?_ <;> intro h
 exact kR [] (ND 0) (hQ _ (ss h))
 exact kR [] (ND 0) (hQ _ (ss h))
theorem w56 {O : Oracle TT} (self34 : V → V → Option (Int)) (h34 : C34 O self34) (h54 : C54 O f54) (h53 : C53 O f53) : C56 (fun _ => vcF (S := SS) O j56) (b56 self34) := by
 intro a5 k6 n7 s8 f9 aA kB nC sF fG Q R hQ h
 unfold b56 at h
 refine ⟨nle rfl, rfl, ?_⟩
 refine kL [] (h54 _ _ _ _ ?_ (sb h))
 rintro vH h
 refine kL [] (h34 _ _ _ _ _ _ _ _ _ _ ?_ (sb h))
 rintro vI h
 refine kL [] (h53 _ _ _ ?_ (sb h))
 rintro vJ h
 exact kR [] (ND 0) (hQ _ (ss h))
theorem cg34 {P : Program} {fid : Nat → FuncId} (mx : MX P) (k34 : KF P fid 34 j34) (k55 : KF P fid 55 j55) (k56 : KF P fid 56 j56) (h38 : C38 (SP P fid) f38) (h54 : C54 (SP P fid) f54) (h53 : C53 (SP P fid) f53) : ∀ n, C34 (SP P fid) (f34 n) ∧ C55 (SP P fid) (f55 n) ∧ C56 (SP P fid) (f56 n) := by
 intro n
 induction n with
 | zero => exact ⟨fun a0 a5 a6 a7 a8 a9 aA aB Q R hQ h => (sat_none h).elim, fun a0 a5 Q R hQ h => (sat_none h).elim, fun a0 a5 a6 a7 a8 a9 aA aB aC aD Q R hQ h => (sat_none h).elim⟩
 | succ n ih =>
  obtain ⟨ih0, ih5, ih6⟩ := ih
  exact ⟨fun a0 a5 a6 a7 a8 a9 aA aB Q R hQ h => spec_of_vc mx k34 (w34 (f55 n) h38 h54 h53 ih5 a0 a5 a6 a7 a8 a9 aA aB Q R hQ h), fun a0 a5 Q R hQ h => spec_of_vc mx k55 (w55 (f56 n) ih6 a0 a5 Q R hQ h), fun a0 a5 a6 a7 a8 a9 aA aB aC aD Q R hQ h => spec_of_vc mx k56 (w56 (f34 n) ih0 h54 h53 a0 a5 a6 a7 a8 a9 aA aB aC aD Q R hQ h)⟩
theorem c34 {P : Program} {fid : Nat → FuncId} (mx : MX P) (k34 : KF P fid 34 j34) (k55 : KF P fid 55 j55) (k56 : KF P fid 56 j56) (h38 : C38 (SP P fid) f38) (h54 : C54 (SP P fid) f54) (h53 : C53 (SP P fid) f53) : ∀ n, C34 (SP P fid) (f34 n) := fun n => (cg34 mx k34 k55 k56 h38 h54 h53 n).1
def f11 (fuel : Nat) : V → V → Option (Bool)
  | .mk k5 n6 s7 f8, .mk k9 nA sB fC => (f34 fuel (V.mk k5 n6 s7 f8) (V.mk k9 nA sB fC)).bind fun vF => cond (vF == 0) (some true) (some false)
def C11 (O : Oracle TT) (m : V → V → Option (Bool)) : Prop :=
  ∀ k5 n6 s7 f8 k9 nA sB fC (Q : Bool → Prop) (R : RR) (_ : ∀ qF, Q qF → R (bD qF) []) (_ : sat (m (V.mk k5 n6 s7 f8) (V.mk k9 nA sB fC)) Q), O 11 [.agg [ci k5, ci n6, .str s7, .isl .fld f8], .agg [ci k9, ci nA, .str sB, .isl .fld fC]] [] R
def j11 : Fn TT := ⟨9, [.t 4], (sr [qo 2 (.box 2 0),qo 3 (.box 3 1),qm 4 bF] (sr [qo 5 (.load 2 4 true),qo 6 (.load 3 4 true),qo 7 (.call 7 34 [5, 6]),qo 8 (.bin .eql .num 7 (iC 0)),qm 4 8] .ret))⟩
theorem w11 {O : Oracle TT} (fuel : Nat) (h34 : C34 O (f34 fuel)) : C11 (fun _ => vcF (S := SS) O j11) (f11 fuel) := by
 intro k5 n6 s7 f8 k9 nA sB fC Q R hQ h
 unfold f11 at h
 refine ⟨nle rfl, rfl, ?_⟩
 refine kL [] (h34 _ _ _ _ _ _ _ _ _ _ ?_ (sb h))
 rintro vF h
 refine kc h ?_ ?_ <;> intro h
 exact kR [] (ND 0) (hQ _ (ss h))
 exact kR [] (ND 0) (hQ _ (ss h))
def f75_L2 (self75 : V → Option (Int)) : FV → Nat → Int → Option (Sum (Int) (Int))
  | [], j6, v5 => some (.inr v5)
  | ((aF, .mk k7 n8 s9 fA)) :: tlB, j6, v5 => (self75 (V.mk k7 n8 s9 fA)).bind fun vC => f75_L2 self75 tlB (j6 + 1) (wrap .i64 (v5 + vC))
def b75 (self75 : V → Option (Int)) : V → Option (Int)
  | .mk k7 n8 s9 f5 => sbind (ο := Int) (f75_L2 self75 f5 0 (1 : Int)) (fun v6 => some v6)
def f75 : Nat → V → Option (Int)
  | 0 => fun _ => none
  | n + 1 => b75 (f75 n)
def C75 (O : Oracle TT) (m : V → Option (Int)) : Prop :=
  ∀ k5 n6 s7 f8 (Q : Int → Prop) (R : RR) (_ : ∀ v9, Q v9 → R (iD v9) []) (_ : sat (m (V.mk k5 n6 s7 f8)) Q), O 75 [.agg [ci k5, ci n6, .str s7, .isl .fld f8]] [] R
def j75 : Fn TT := ⟨20, [.t 2], (sr [qo 1 (.box 1 0),qo 2 (.mv (iC 0))] (sr [qo 3 (.mv (iC 1))] (.cut [3] [] (sr [qo 6 (.fa 1 3),qo 7 (ld 6),qo 8 (.len false 7),qo 9 (.mv (iC 0))] (.block 0 (.loop (.keep [3, 7, 8, 9] [] (.aft (sr [qo 10 (.bin .lss .num 9 8)] (.seq (.cond 10 .skip (.exit 0)) (.seq (.block 1 (sr [qo 11 (.idxA 7 9 5),
 qo 12 (.load 11 5 true),qo 5 (.alloc 5 zFd),qp (.store 5 12 5)] (.reg [qm 13 3,qo 14 (.fa 5 1),qo 15 (.load 14 4 true),qo 16 (.call 16 75 [15]),qo 17 (.bin .add .num 13 16),qm 3 17]))) (.reg [qo 18 (.bin .add .num 9 (iC 1)),qm 9 18])))) [.keep [3, 7, 8, 9] []]))))) (sr [qm 19 3,qm 2 19] .ret))))⟩
theorem w75 {O : Oracle TT} (self75 : V → Option (Int)) (h75 : C75 O self75) : C75 (fun _ => vcF (S := SS) O j75) (b75 self75) := by
 intro kK nM sN f8 Q R hQ h
 unfold b75 at h
 refine ⟨nle rfl, rfl, ?_⟩
 obtain ⟨R9, h, a9, hrR9⟩ := sc h
 refine kX (fun σ => ∃ vG, R9 (.inr vG) ∧ σ = ⟨[(3, iD vG)], []⟩) ?_ ?_
 intro hlI
 refine kX (fun σ n => ∃ (rem5 : FV) (j6 : Nat) (z : Int) (vA : Int), n = rem5.length ∧ f8.drop j6 = rem5 ∧ z = ((j6 : Nat) : Int) ∧ sat (f75_L2 self75 rem5 j6 vA) R9 ∧ σ.keep [3, 7, 8, 9] [] = ⟨[(3, iD vA), (7, .c (.isl .fld f8)), (8, iD ((f8.length : Nat) : Int)), (9, iD z)], []⟩) ⟨_, f8, 0, _, (1 : Int), rfl, rfl, rfl, h, rfl⟩ ?_
 rintro σ n ⟨rem5, j6, _, vA, rfl, hrem5, rfl, h, hσ⟩
 refine kk hσ ?_
 intro tB (htB : tB = decide (((j6 : Nat) : Int) < ((f8.length : Nat) : Int)))
 cases tB
 obtain rfl := ll_nil hrem5 htB
 rw [f75_L2] at h
 conv => whnf
 exact ⟨vA, ss h, rfl⟩
 obtain ⟨xC, tlF, rfl, hxC, htlF⟩ := ll_cons hrem5 htB
 obtain ⟨aO, ⟨kP, nQ, sS, fT⟩⟩ := xC
 rw [f75_L2] at h
 conv => whnf
 refine ⟨lx_bd hxC, fun uuH huuH => ?_⟩
 obtain rfl := lx_eq hxC huuH
 refine kL [] (h75 _ _ _ _ _ _ ?_ (sb h))
 rintro vJ h
 conv => whnf
 exact ⟨tlF.length, nls, tlF, j6 + 1, _, (wrap .i64 (vA + vJ)), rfl, htlF, lx_wr hxC hlI, h, rfl⟩
 rintro _ ⟨vG, h, rfl⟩
 replace h := hrR9 _ h
 exact kR [] (ND 0) (hQ _ (ss h))
theorem cg75 {P : Program} {fid : Nat → FuncId} (mx : MX P) (k75 : KF P fid 75 j75) : ∀ n, C75 (SP P fid) (f75 n) := by
 intro n
 induction n with
 | zero => exact fun a0 a5 a6 a7 Q R hQ h => (sat_none h).elim
 | succ n ih =>
  have ih0 := ih
  exact fun a0 a5 a6 a7 Q R hQ h => spec_of_vc mx k75 (w75 (f75 n) ih0 a0 a5 a6 a7 Q R hQ h)
theorem c75 {P : Program} {fid : Nat → FuncId} (mx : MX P) (k75 : KF P fid 75 j75) : ∀ n, C75 (SP P fid) (f75 n) := fun n => (cg75 mx k75 n)
def f76_L2 (self76 : V → Option (Int)) : FV → Nat → Int → Option (Sum (Int) (Int))
  | [], j6, v5 => some (.inr v5)
  | ((aF, .mk k8 n9 sA fB)) :: tlC, j6, v5 => (self76 (V.mk k8 n9 sA fB)).bind fun v7 => f76_L2 self76 tlC (j6 + 1) (if v7 > v5 then v7 else v5)
def b76 (self76 : V → Option (Int)) : V → Option (Int)
  | .mk k7 n8 s9 f5 => sbind (ο := Int) (f76_L2 self76 f5 0 (0 : Int)) (fun v6 => some (wrap .i64 (v6 + 1)))
def f76 : Nat → V → Option (Int)
  | 0 => fun _ => none
  | n + 1 => b76 (f76 n)
def C76 (O : Oracle TT) (m : V → Option (Int)) : Prop :=
  ∀ k5 n6 s7 f8 (Q : Int → Prop) (R : RR) (_ : ∀ v9, Q v9 → R (iD v9) []) (_ : sat (m (V.mk k5 n6 s7 f8)) Q), O 76 [.agg [ci k5, ci n6, .str s7, .isl .fld f8]] [] R
def j76 : Fn TT := ⟨21, [.t 2], (sr [qo 1 (.box 1 0),qo 2 (.mv (iC 0))] (sr [qo 3 (.mv (iC 0))] (.cut [3] [] (sr [qo 6 (.fa 1 3),qo 7 (ld 6),qo 8 (.len false 7),qo 9 (.mv (iC 0))] (.block 0 (.loop (.keep [3, 7, 8, 9] [] (.aft (sr [qo 10 (.bin .lss .num 9 8)] (.seq (.cond 10 .skip (.exit 0)) (.seq (.block 1 (sr [qo 11 (.idxA 7 9 5),
 qo 12 (.load 11 5 true),qo 5 (.alloc 5 zFd),qp (.store 5 12 5)] (.reg [qm 13 3,qo 14 (.fa 5 1),qo 15 (.load 14 4 true),qo 16 (.call 16 76 [15]),qo 17 (.mx [13, 16]),qm 3 17]))) (.reg [qo 18 (.bin .add .num 9 (iC 1)),qm 9 18])))) [.keep [3, 7, 8, 9] []]))))) (sr [qm 19 3,qo 20 (.bin .add .num 19 (iC 1)),qm 2 20] .ret))))⟩
theorem w76 {O : Oracle TT} (self76 : V → Option (Int)) (h76 : C76 O self76) : C76 (fun _ => vcF (S := SS) O j76) (b76 self76) := by
 intro kK nM sN f9 Q R hQ h
 unfold b76 at h
 refine ⟨nle rfl, rfl, ?_⟩
 obtain ⟨RA, h, aA, hrRA⟩ := sc h
 refine kX (fun σ => ∃ vG, RA (.inr vG) ∧ σ = ⟨[(3, iD vG)], []⟩) ?_ ?_
 intro hlJ
 refine kX (fun σ n => ∃ (rem5 : FV) (j6 : Nat) (z : Int) (v8 : Int), n = rem5.length ∧ f9.drop j6 = rem5 ∧ z = ((j6 : Nat) : Int) ∧ sat (f76_L2 self76 rem5 j6 v8) RA ∧ σ.keep [3, 7, 8, 9] [] = ⟨[(3, iD v8), (7, .c (.isl .fld f9)), (8, iD ((f9.length : Nat) : Int)), (9, iD z)], []⟩) ⟨_, f9, 0, _, (0 : Int), rfl, rfl, rfl, h, rfl⟩ ?_
 rintro σ n ⟨rem5, j6, _, v8, rfl, hrem5, rfl, h, hσ⟩
 refine kk hσ ?_
 intro tB (htB : tB = decide (((j6 : Nat) : Int) < ((f9.length : Nat) : Int)))
 cases tB
 obtain rfl := ll_nil hrem5 htB
 rw [f76_L2] at h
 conv => whnf
 exact ⟨v8, ss h, rfl⟩
 obtain ⟨xC, tlF, rfl, hxC, htlF⟩ := ll_cons hrem5 htB
 obtain ⟨aO, ⟨kP, nQ, sS, fT⟩⟩ := xC
 rw [f76_L2] at h
 conv => whnf
 refine ⟨lx_bd hxC, fun uuH huuH => ?_⟩
 obtain rfl := lx_eq hxC huuH
 refine kL [] (h76 _ _ _ _ _ _ ?_ (sb h))
 rintro vI h
 conv => whnf
 exact ⟨tlF.length, nls, tlF, j6 + 1, _, (if vI > v8 then vI else v8), rfl, htlF, lx_wr hxC hlJ, h, rfl⟩
 rintro _ ⟨vG, h, rfl⟩
 replace h := hrRA _ h
 exact kR [] (ND 0) (hQ _ (ss h))
theorem cg76 {P : Program} {fid : Nat → FuncId} (mx : MX P) (k76 : KF P fid 76 j76) : ∀ n, C76 (SP P fid) (f76 n) := by
 intro n
 induction n with
 | zero => exact fun a0 a5 a6 a7 Q R hQ h => (sat_none h).elim
 | succ n ih =>
  have ih0 := ih
  exact fun a0 a5 a6 a7 Q R hQ h => spec_of_vc mx k76 (w76 (f76 n) ih0 a0 a5 a6 a7 Q R hQ h)
theorem c76 {P : Program} {fid : Nat → FuncId} (mx : MX P) (k76 : KF P fid 76 j76) : ∀ n, C76 (SP P fid) (f76 n) := fun n => (cg76 mx k76 n)
def f127 : Int → Option (Bool)
  | v0 => cond (decide (v0 ≥ 0)) (cond (decide (v0 ≤ 5)) (some true) (cond (v0 == 11) (some true) (some false))) (cond (v0 == 11) (some true) (some false))
def C127 (O : Oracle TT) (m : Int → Option (Bool)) : Prop :=
  ∀ v0 (Q : Bool → Prop) (R : RR) (_ : ∀ q5, Q q5 → R (bD q5) []) (_ : sat (m v0) Q), O 127 [iD v0] [] R
def j127 : Fn TT := ⟨13, [.t 2], (sr [qm 2 bF] (sr [qm 3 0,qo 4 (.bin .geq .num 3 (iC 0)),qm 5 4,qg 5 6 (.mv 0),qg 5 7 (.bin .leq .num 6 (iC 5)),qo 8 (.pick 5 7 bF),qm 9 8,qf 9 10 (.mv 0),qf 9 11 (.bin .eql .num 10 (iC 11)),qo 12 (.pick 9 bT 11),qm 2 12] .ret))⟩
theorem w127 {O : Oracle TT} : C127 (fun _ => vcF (S := SS) O j127) f127 := by
 intro v0 Q R hQ h
 unfold f127 at h
 refine ⟨nle rfl, rfl, ?_⟩
 refine kc h ?_ ?_ <;> intro h
 refine kc h ?_ ?_ <;> intro h
 exact kR [] (ND 0) (hQ _ (ss h))
 exact kR [] (ND 0) (hQ _ (ss h))
 refine kc h ?_ ?_ <;> intro h
 refine kc h ?_ ?_ <;> intro h
 exact kR [] (ND 0) (hQ _ (ss h))
 exact kR [] (ND 0) (hQ _ (ss h))
 exact kR [] (ND 0) (hQ _ (ss h))
def f99 : V → Option (Bool)
  | .mk k5 n6 s7 f8 => sbind (ο := Bool) (cond (decide (k5 ≥ 1)) (cond (decide (k5 ≤ 4)) (some (.inr true)) (cond (k5 == 11) (some (.inr true)) (some (.inr false)))) (cond (k5 == 11) (some (.inr true)) (some (.inr false)))) (fun q9 => sbind (ο := Bool) (cond q9 (some (.inr false)) (cond (n6 != 0) (some (.inr true)) (some (.inr false)))) (fun qA => sbind (ο := Bool) (cond qA (some (.inr true)) (cond (k5 != 5) (cond (!(s7.toList == (⟨#[]⟩ : BA).toList)) (some (.inr true)) (some (.inr false))) (some (.inr false)))) (fun qB => sbind (ο := Bool) (cond qB (some (.inr true)) ((f127 k5).bind fun qC => cond qC (cond (decide (((f8.length : Nat) : Int) > 0)) (some (.inr true)) (some (.inr false))) (some (.inr false)))) (fun qF => some qF))))
def C99 (O : Oracle TT) (m : V → Option (Bool)) : Prop :=
  ∀ k5 n6 s7 f8 (Q : Bool → Prop) (R : RR) (_ : ∀ q9, Q q9 → R (bD q9) []) (_ : sat (m (V.mk k5 n6 s7 f8)) Q), O 99 [.agg [ci k5, ci n6, .str s7, .isl .fld f8]] [] R
def j99 : Fn TT := ⟨45, [.t 2], (sr [qo 1 (.box 1 0),qm 2 bF] (.cut [1, 3] [(.s 1)] (.reg [qo 4 (.fa 1 0),qo 5 (ld 4),qo 6 (.bin .geq .num 5 (iC 1)),qm 7 6,qg 7 8 (.fa 1 0),qg 7 9 (ld 8),qg 7 10 (.bin .leq .num 9 (iC 4)),qo 11 (.pick 7 10 bF),qm 12 11,qf 12 13 (.fa 1 0),qf 12 14 (ld 13),
 qf 12 15 (.bin .eql .num 14 (iC 11)),qo 16 (.pick 12 bT 15),qm 3 16]) (.seq (.regc [([qm 17 3,qo 18 (.un .not 17),qm 19 18,qg 19 20 (.fa 1 1),qg 19 21 (ld 20),qg 19 22 (.bin .neq .num 21 (iC 0)),qo 23 (.pick 19 22 bF)], [1, 23], [(.s 1)]), ([qm 24 23,qf 24 25 (.fa 1 0),qf 24 26 (ld 25),qf 24 27 (.bin .neq .num 26 (iC 5)),qf 24 28 (.mv 27),
 qg 28 29 (.fa 1 2),qg 28 30 (ld 29),qg 28 31 (.bin .neq .str 30 sE),qf 24 32 (.pick 28 31 bF),qo 33 (.pick 24 bT 32)], [1, 33], [(.s 1)]), ([qm 34 33,qf 34 35 (.fa 1 0),qf 34 36 (ld 35),qf 34 37 (.call 37 127 [36]),qf 34 38 (.mv 37),qg 38 39 (.fa 1 3),qg 38 40 (ld 39),qg 38 41 (.len false 40),qg 38 42 (.bin .gtr .num 41 (iC 0)),
 qf 34 43 (.pick 38 42 bF),qo 44 (.pick 34 bT 43)], [44], [])] [qm 2 44]) .ret)))⟩
theorem w99 {O : Oracle TT} (h127 : C127 O f127) : C99 (fun _ => vcF (S := SS) O j99) f99 := by
 intro kG nH sI fJ Q R hQ h
 unfold f99 at h
 refine ⟨nle rfl, rfl, ?_⟩
 obtain ⟨R5, h, a5, b5⟩ := sc h
 refine kX (fun σ => ∃ q6, R5 (.inr q6) ∧ σ = ⟨[pT 1, (3, bD q6)], [eV (.s 1) [ci kG, ci nH, .str sI, .isl .fld fJ]]⟩) ?_ ?_
 refine kc h ?_ ?_ <;> intro h
 refine kc h ?_ ?_ <;> intro h
 conv => whnf
 exact ⟨false, ss h, rfl⟩
 conv => whnf
 exact ⟨true, ss h, rfl⟩
 refine kc h ?_ ?_ <;> intro h
 refine kc h ?_ ?_ <;> intro h
 conv => whnf
 exact ⟨false, ss h, rfl⟩
 conv => whnf
 exact ⟨true, ss h, rfl⟩
 conv => whnf
 exact ⟨true, ss h, rfl⟩
 rintro _ ⟨q6, h, rfl⟩
 replace h := b5 _ h
 obtain ⟨R8, h, a8, b8⟩ := sc h
 refine kX (fun σ => ∃ q9, R8 (.inr q9) ∧ σ = ⟨[pT 1, (23, bD q9)], [eV (.s 1) [ci kG, ci nH, .str sI, .isl .fld fJ]]⟩) ?_ ?_
 cases q6
 replace h := cf h
 refine kc h ?_ ?_ <;> intro h
 conv => whnf
 exact ⟨false, ss h, rfl⟩
 conv => whnf
 exact ⟨true, ss h, rfl⟩
 replace h := ct h
 conv => whnf
 exact ⟨false, ss h, rfl⟩
 rintro _ ⟨q9, h, rfl⟩
 replace h := b8 _ h
 obtain ⟨RA, h, aA, bA⟩ := sc h
 refine kX (fun σ => ∃ qB, RA (.inr qB) ∧ σ = ⟨[pT 1, (33, bD qB)], [eV (.s 1) [ci kG, ci nH, .str sI, .isl .fld fJ]]⟩) ?_ ?_
 cases q9
 replace h := cf h
 refine kc h ?_ ?_ <;> intro h
 conv => whnf
 exact ⟨false, ss h, rfl⟩
 refine kc h ?_ ?_ <;> intro h
 conv => whnf
 exact ⟨false, ss h, rfl⟩
 conv => whnf
 exact ⟨true, ss h, rfl⟩
 replace h := ct h
 conv => whnf
 exact ⟨true, ss h, rfl⟩
 rintro _ ⟨qB, h, rfl⟩
 replace h := bA _ h
 obtain ⟨RC, h, aC, bC⟩ := sc h
 refine kX (fun σ => ∃ qK, RC (.inr qK) ∧ σ = ⟨[(44, bD qK)], []⟩) ?_ ?_
 cases qB
 replace h := cf h
 refine kL [] (h127 _ _ _ ?_ (sb h))
 rintro qM h
 cases qM
 replace h := cf h
 conv => whnf
 exact ⟨false, ss h, rfl⟩
 replace h := ct h
 intro hlN
 refine kc h ?_ ?_ <;> intro h
 conv => whnf
 exact ⟨false, ss h, rfl⟩
 conv => whnf
 exact ⟨true, ss h, rfl⟩
 replace h := ct h
 conv => whnf
 exact ⟨true, ss h, rfl⟩
 rintro _ ⟨qK, h, rfl⟩
 replace h := bC _ h
 exact kR [] (ND 0) (hQ _ (ss h))
def f100 : V → Option (Bool)
  | .mk k6 n5 s7 f8 => cond (k6 == 1) (cond (n5 == 0) (some true) (cond (n5 == 1) (some true) (some false))) (cond (k6 == 2) (cond (decide (n5 ≥ (-9007199254740992))) (cond (decide (n5 ≤ 9007199254740992)) (some true) (some false)) (some false)) (cond (k6 == 4) (cond (decide (n5 ≥ 0)) (cond (decide (n5 ≤ 4194304)) (some true) (some false)) (some false)) (cond (k6 == 11) (cond (decide (n5 ≥ 0)) (cond (decide (n5 ≤ 9007199254740992)) (some true) (some false)) (some false)) (some true))))
def C100 (O : Oracle TT) (m : V → Option (Bool)) : Prop :=
  ∀ k5 n6 s7 f8 (Q : Bool → Prop) (R : RR) (_ : ∀ q9, Q q9 → R (bD q9) []) (_ : sat (m (V.mk k5 n6 s7 f8)) Q), O 100 [.agg [ci k5, ci n6, .str s7, .isl .fld f8]] [] R
def j100 : Fn TT := ⟨45, [.t 2], (sr [qo 1 (.box 1 0),qm 2 bF] (.seq (sr [qo 3 (.fa 1 0),qo 4 (ld 3)] (.block 0 (sr [qo 6 (.bin .eql .num 4 (iC 1)),qm 5 6] (.cond 5 (sr [qo 7 (.fa 1 1),qo 8 (ld 7),qo 9 (.bin .eql .num 8 (iC 0)),qm 10 9,qf 10 11 (.fa 1 1),qf 10 12 (ld 11),
 qf 10 13 (.bin .eql .num 12 (iC 1)),qo 14 (.pick 10 bT 13),qm 2 14] .ret) (sr [qo 16 (.bin .eql .num 4 (iC 2)),qm 15 16] (.cond 15 (sr [qo 17 (.fa 1 1),qo 18 (ld 17),qo 19 (.bin .geq .num 18 (iC (-9007199254740992))),qm 20 19,qg 20 21 (.fa 1 1),qg 20 22 (ld 21),qg 20 23 (.bin .leq .num 22 (iC 9007199254740992)),
 qo 24 (.pick 20 23 bF),qm 2 24] .ret) (sr [qo 26 (.bin .eql .num 4 (iC 4)),qm 25 26] (.cond 25 (sr [qo 27 (.fa 1 1),qo 28 (ld 27),qo 29 (.bin .geq .num 28 (iC 0)),qm 30 29,qg 30 31 (.fa 1 1),qg 30 32 (ld 31),qg 30 33 (.bin .leq .num 32 (iC 4194304)),qo 34 (.pick 30 33 bF),qm 2 34] .ret) (.seq
 (.reg [qo 36 (.bin .eql .num 4 (iC 11)),qm 35 36]) (.cond 35 (sr [qo 37 (.fa 1 1),qo 38 (ld 37),qo 39 (.bin .geq .num 38 (iC 0)),qm 40 39,qg 40 41 (.fa 1 1),qg 40 42 (ld 41),qg 40 43 (.bin .leq .num 42 (iC 9007199254740992)),qo 44 (.pick 40 43 bF),qm 2 44] .ret) .skip)))))))))) (sr [qm 2 bT] .ret)))⟩
theorem w100 {O : Oracle TT} : C100 (fun _ => vcF (S := SS) O j100) f100 := by
 intro k5 n6 s7 f8 Q R hQ h
 unfold f100 at h
 refine ⟨nle rfl, rfl, ?_⟩
 refine kc h ?_ ?_ <;> intro h
 refine kc h ?_ ?_ <;> intro h
 refine kc h ?_ ?_ <;> intro h
 refine kc h ?_ ?_ <;> intro h
 exact kR [] (ND 0) (hQ _ (ss h))
 refine kc h ?_ ?_ <;> intro h
 exact kR [] (ND 0) (hQ _ (ss h))
 refine kc h ?_ ?_ <;> intro h
 exact kR [] (ND 0) (hQ _ (ss h))
 exact kR [] (ND 0) (hQ _ (ss h))
 refine kc h ?_ ?_ <;> intro h
 exact kR [] (ND 0) (hQ _ (ss h))
 refine kc h ?_ ?_ <;> intro h
 exact kR [] (ND 0) (hQ _ (ss h))
 exact kR [] (ND 0) (hQ _ (ss h))
 refine kc h ?_ ?_ <;> intro h
 exact kR [] (ND 0) (hQ _ (ss h))
 refine kc h ?_ ?_ <;> intro h
 exact kR [] (ND 0) (hQ _ (ss h))
 exact kR [] (ND 0) (hQ _ (ss h))
 refine kc h ?_ ?_ <;> intro h
 refine kc h ?_ ?_ <;> intro h
 exact kR [] (ND 0) (hQ _ (ss h))
 exact kR [] (ND 0) (hQ _ (ss h))
 exact kR [] (ND 0) (hQ _ (ss h))
def f129_L2 (k6 : Int) (f7 : FV) : FV → Nat → Option (Sum (Int) (Unit))
  | [], j5 => some (.inr ())
  | ((a8, .mk kG nH sI fJ)) :: tl9, j5 => cond (k6 == 8) (cond (!(a8.toList == (⟨#[]⟩ : BA).toList)) (lft (some 3)) (cond (k6 == 8) (f129_L2 k6 f7 tl9 (j5 + 1)) (cond (decide ((a8.size : Int) > 4000)) (lft (some 2)) (cond (decide (((j5 : Nat) : Int) > 0)) (getL f7 (wrap .i64 (((j5 : Nat) : Int) - 1)) fun uuC => match uuC with | (aA, .mk kK nM sN fO) => cond ((Op.bytesLess a8.toList aA.toList || a8.toList == aA.toList)) (lft (some 9)) (f129_L2 k6 f7 tl9 (j5 + 1))) (f129_L2 k6 f7 tl9 (j5 + 1)))))) (cond (k6 == 8) (f129_L2 k6 f7 tl9 (j5 + 1)) (cond (decide ((a8.size : Int) > 4000)) (lft (some 2)) (cond (decide (((j5 : Nat) : Int) > 0)) (getL f7 (wrap .i64 (((j5 : Nat) : Int) - 1)) fun uuF => match uuF with | (aB, .mk kP nQ sS fT) => cond ((Op.bytesLess a8.toList aB.toList || a8.toList == aB.toList)) (lft (some 9)) (f129_L2 k6 f7 tl9 (j5 + 1))) (f129_L2 k6 f7 tl9 (j5 + 1)))))
def f129 : V → Option (Int)
  | .mk k6 n7 s8 f5 => sbind (ο := Unit) (f129_L2 k6 f5 f5 0) (fun () => some 0)
def C129 (O : Oracle TT) (m : V → Option (Int)) : Prop :=
  ∀ k5 n6 s7 f8 (Q : Int → Prop) (R : RR) (_ : ∀ v9, Q v9 → R (iD v9) []) (_ : sat (m (V.mk k5 n6 s7 f8)) Q), O 129 [.agg [ci k5, ci n6, .str s7, .isl .fld f8]] [] R
def j129 : Fn TT := ⟨47, [.t 2], (sr [qo 1 (.box 1 0),qo 2 (.mv (iC 0))] (.cut [] [] (sr [qo 5 (.fa 1 3),qo 6 (ld 5),qo 7 (.len false 6),qo 8 (.mv (iC 0))] (.block 0 (.loop (.keep [1, 6, 7, 8] [(.s 1)] (.aft (sr [qo 9 (.bin .lss .num 8 7)] (.seq (.cond 9 .skip (.exit 0)) (.seq (.block 1 (sr [qm 10 8,qo 11 (.idxA 6 8 5),
 qo 12 (.load 11 5 true),qo 4 (.alloc 4 zFd),qm 3 10,qp (.store 4 12 5)] (.block 2 (sr [qo 14 (.fa 1 0),qo 15 (ld 14),qo 16 (.bin .eql .num 15 (iC 8)),qm 17 16,qg 17 18 (.fa 4 0),qg 17 19 (ld 18),qg 17 20 (.bin .neq .str 19 sE),qo 21 (.pick 17 20 bF),qm 13 21] (.cond 13 (sr [qo 2 (.mv (iC 3))] .ret) (sr [qo 23 (.fa 1 0),
 qo 24 (ld 23),qo 25 (.bin .eql .num 24 (iC 8)),qm 22 25] (.cond 22 .skip (sr [qo 27 (.fa 4 0),qo 28 (ld 27),qo 29 (.len true 28),qo 30 (.bin .gtr .num 29 (iC 4000)),qm 26 30] (.cond 26 (sr [qo 2 (.mv (iC 2))] .ret) (.seq (.drw [] (oR 15) [] (List.range 15) [qm 32 3,qo 33 (.bin .gtr .num 32 (iC 0)),qm 34 33,
 qg 34 35 (.fa 4 0),qg 34 36 (ld 35),qg 34 37 (.fa 1 3),qg 34 38 (ld 37),qg 34 39 (.mv 3),qg 34 40 (.bin .sub .num 39 (iC 1)),qg 34 41 (.idxA 38 40 5),qg 34 42 (.fa 41 0),qg 34 43 (ld 42),qg 34 44 (.bin .leq .str 36 43),qo 45 (.pick 34 44 bF),qm 31 45]) (.cond 31 (sr [qo 2 (.mv (iC 9))] .ret) .skip)))))))))))
 (.reg [qo 46 (.bin .add .num 8 (iC 1)),qm 8 46])))) [.keep [1, 6, 7, 8] [(.s 1)]]))))) (sr [qo 2 (.mv (iC 0))] .ret)))⟩
theorem w129 {O : Oracle TT} : C129 (fun _ => vcF (S := SS) O j129) f129 := by
 intro kH nM sN fA Q R hQ h
 unfold f129 at h
 refine ⟨nle rfl, rfl, ?_⟩
 obtain ⟨R8, h, a8, b8⟩ := sc h
 refine kX (fun σ => R8 (.inr ()) ∧ σ = ⟨[], []⟩) ?_ ?_
 intro hlC
 refine kX (fun σ n => ∃ (remB : FV) (j6 : Nat) (z : Int), n = remB.length ∧ fA.drop j6 = remB ∧ z = ((j6 : Nat) : Int) ∧ sat (f129_L2 kH fA remB j6) R8 ∧ σ.keep [1, 6, 7, 8] [(.s 1)] = ⟨[pT 1, (6, .c (.isl .fld fA)), (7, iD ((fA.length : Nat) : Int)), (8, iD z)], [eV (.s 1) [ci kH, ci nM, .str sN, .isl .fld fA]]⟩) ⟨_, fA, 0, _, rfl, rfl, rfl, h, rfl⟩ ?_
 rintro σ n ⟨remB, j6, _, rfl, hremB, rfl, h, hσ⟩
 refine kk hσ ?_
 intro tG (htG : tG = decide (((j6 : Nat) : Int) < ((fA.length : Nat) : Int)))
 cases tG
 obtain rfl := ll_nil hremB htG
 rw [f129_L2] at h
 conv => whnf
 exact ⟨ss h, rfl⟩
 obtain ⟨x9, tl5, rfl, hx9, htl5⟩ := ll_cons hremB htG
 obtain ⟨aO, ⟨kP, nQ, sS, fU⟩⟩ := x9
 rw [f129_L2] at h
 conv => whnf
 refine ⟨lx_bd hx9, fun uuI huuI => ?_⟩
 obtain rfl := lx_eq hx9 huuI
 refine kc h ?_ ?_ <;> intro h
 refine kc h ?_ ?_ <;> intro h
 refine kc h ?_ ?_ <;> intro h
 refine kc h ?_ ?_ <;> intro h
 conv => whnf
 exact ⟨tl5.length, nls, tl5, j6 + 1, _, rfl, htl5, lx_wr hx9 hlC, h, rfl⟩
 refine kg (sat_getL h) fun uuJ huuJ h => ?_
 obtain ⟨aV, ⟨kW, nY, sZ, f00⟩⟩ := uuJ
 refine kc h ?_ ?_ <;> intro h
 conv => whnf
 exact ⟨tl5.length, nls, tl5, j6 + 1, _, rfl, htl5, lx_wr hx9 hlC, h, rfl⟩
 replace h := sat_lft a8 h
 exact kR [] (ND 0) (hQ _ (ss h))
 replace h := sat_lft a8 h
 exact kR [] (ND 0) (hQ _ (ss h))
 conv => whnf
 exact ⟨tl5.length, nls, tl5, j6 + 1, _, rfl, htl5, lx_wr hx9 hlC, h, rfl⟩
 refine kc h ?_ ?_ <;> intro h
 refine kc h ?_ ?_ <;> intro h
 refine kc h ?_ ?_ <;> intro h
 refine kc h ?_ ?_ <;> intro h
 conv => whnf
 exact ⟨tl5.length, nls, tl5, j6 + 1, _, rfl, htl5, lx_wr hx9 hlC, h, rfl⟩
 refine kg (sat_getL h) fun uuK huuK h => ?_
 obtain ⟨a01, ⟨k02, n03, s04, f05⟩⟩ := uuK
 refine kc h ?_ ?_ <;> intro h
 conv => whnf
 exact ⟨tl5.length, nls, tl5, j6 + 1, _, rfl, htl5, lx_wr hx9 hlC, h, rfl⟩
 replace h := sat_lft a8 h
 exact kR [] (ND 0) (hQ _ (ss h))
 replace h := sat_lft a8 h
 exact kR [] (ND 0) (hQ _ (ss h))
 conv => whnf
 exact ⟨tl5.length, nls, tl5, j6 + 1, _, rfl, htl5, lx_wr hx9 hlC, h, rfl⟩
 replace h := sat_lft a8 h
 exact kR [] (ND 0) (hQ _ (ss h))
 rintro _ ⟨h, rfl⟩
 replace h := b8 _ h
 exact kR [] (ND 0) (hQ _ (ss h))
def f132_L2 : LI → Nat → Option (Sum (Bool) (Unit))
  | [], j5 => some (.inr ())
  | c0 :: tl6, j5 => sbind (ο := Bool) (cond (decide (c0 ≥ 97)) (cond (decide (c0 ≤ 122)) (some (.inr true)) (some (.inr false))) (some (.inr false))) (fun q7 => sbind (ο := Bool) (cond q7 (some (.inr true)) (cond (decide (c0 ≥ 48)) (cond (decide (c0 ≤ 57)) (some (.inr true)) (some (.inr false))) (some (.inr false)))) (fun q8 => sbind (ο := Bool) (cond q8 (some (.inr true)) (cond (c0 == 45) (some (.inr true)) (some (.inr false)))) (fun q9 => cond q9 (f132_L2 tl6 (j5 + 1)) (lft (some false)))))
def f132 : BA → Option (Bool)
  | s3 => cond (s3.toList == (⟨#[]⟩ : BA).toList) (some false) (cond (decide ((s3.size : Int) > 16)) (some false) (getB s3 0 fun c4 => cond (decide ((c4.toNat : Int) < 97)) (some false) (getB s3 0 fun c5 => cond (decide ((c5.toNat : Int) > 122)) (some false) (sbind (ο := Unit) (grdP ((s3.size : Nat) ≤ 9223372036854775807) (f132_L2 (bytesJ s3) 0)) (fun () => some true)))))
def C132 (O : Oracle TT) (m : BA → Option (Bool)) : Prop :=
  ∀ s5 (Q : Bool → Prop) (R : RR) (_ : ∀ q6, Q q6 → R (bD q6) []) (_ : sat (m s5) Q), O 132 [sD s5] [] R
def j132 : Fn TT := ⟨49, [.t 2], (sr [qm 2 bF] (.seq (sr [qm 5 0,qo 6 (.bin .eql .str 5 sE),qm 7 6,qf 7 8 (.mv 0),qf 7 9 (.len true 8),qf 7 10 (.bin .gtr .num 9 (iC 16)),qo 11 (.pick 7 bT 10),qm 12 11,qf 12 13 (.mv 0),qf 12 14 (.idxS 13 (iC 0)),qf 12 15 (.bin .lss .num 14 (.c (.int .u8 97))),qo 16 (.pick 12 bT 15),qm 17 16,
 qf 17 18 (.mv 0),qf 17 19 (.idxS 18 (iC 0)),qf 17 20 (.bin .gtr .num 19 (.c (.int .u8 122))),qo 21 (.pick 17 bT 20)] (.cond 21 (sr [qm 2 bF] .ret) .skip)) (.cut [] [] (sr [qm 22 0,qo 23 (.s2b 22),qo 24 (.len false 23),qo 25 (.mv (iC 0))] (.block 0 (.loop (.keep [23, 24, 25] [] (.aft (sr [qo 26 (.bin .lss .num 25 24)] (.seq (.cond 26 .skip (.exit 0))
 (.seq (.block 1 (sr [qo 27 (.idxA 23 25 1),qo 28 (ld 27),qm 4 28] (.seq (.regc [([qm 29 4,qo 30 (.bin .geq .num 29 (.c (.int .u8 97))),qm 31 30,qg 31 32 (.mv 4),qg 31 33 (.bin .leq .num 32 (.c (.int .u8 122))),qo 34 (.pick 31 33 bF)], [4, 23, 24, 25, 34], []), ([qm 35 34,qf 35 36 (.mv 4),qf 35 37 (.bin .geq .num 36 (.c (.int .u8 48))),
 qf 35 38 (.mv 37),qg 38 39 (.mv 4),qg 38 40 (.bin .leq .num 39 (.c (.int .u8 57))),qf 35 41 (.pick 38 40 bF),qo 42 (.pick 35 bT 41)], [4, 23, 24, 25, 42], []), ([qm 43 42,qf 43 44 (.mv 4),qf 43 45 (.bin .eql .num 44 (.c (.int .u8 45))),qo 46 (.pick 43 bT 45)], [23, 24, 25, 46], [])] [qo 47 (.un .not 46)]) (.cond 47 (sr [qm 2 bF] .ret) .skip))))
 (.reg [qo 48 (.bin .add .num 25 (iC 1)),qm 25 48])))) [.keep [23, 24, 25] []]))))) (sr [qm 2 bT] .ret))))⟩
theorem w132 {O : Oracle TT} : C132 (fun _ => vcF (S := SS) O j132) f132 := by
 intro s5 Q R hQ h
 unfold f132 at h
 refine ⟨nle rfl, rfl, ?_⟩
 refine kc h ?_ ?_ <;> intro h
 refine kc h ?_ ?_ <;> intro h
 refine kg (sat_getB h) fun cO hcO h => ?_
 refine kc h ?_ ?_ <;> intro h
 refine kg (sat_getB h) fun cP hcP h => ?_
 refine kc h ?_ ?_ <;> intro h
 obtain ⟨R9, h, a9, b9⟩ := sc h
 refine kX (fun σ => R9 (.inr ()) ∧ σ = ⟨[], []⟩) ?_ ?_
 refine kp h fun hbS h => ?_
 intro hlQ
 refine kX (fun σ n => ∃ (rem8 : LI) (j6 : Nat) (z : Int), n = rem8.length ∧ (bytesJ s5).drop j6 = rem8 ∧ z = ((j6 : Nat) : Int) ∧ sat (f132_L2 rem8 j6) R9 ∧ σ.keep [23, 24, 25] [] = ⟨[(23, .c (.isl .u8 (bytesJ s5))), (24, iD (((bytesJ s5).length : Nat) : Int)), (25, iD z)], []⟩) ⟨_, (bytesJ s5), 0, _, rfl, rfl, rfl, h, rfl⟩ ?_
 rintro σ n ⟨rem8, j6, _, rfl, hrem8, rfl, h, hσ⟩
 refine kk hσ ?_
 intro tA (htA : tA = decide (((j6 : Nat) : Int) < (((bytesJ s5).length : Nat) : Int)))
 cases tA
 obtain rfl := ll_nil hrem8 htA
 rw [f132_L2] at h
 conv => whnf
 exact ⟨ss h, rfl⟩
 obtain ⟨cM, tlB, rfl, hxL, htlB⟩ := ll_cons hrem8 htA
 rw [f132_L2] at h
 conv => whnf
 refine ⟨lx_bd hxL, fun uuN huuN => ?_⟩
 obtain rfl := lx_eq hxL huuN
 obtain ⟨RC, h, aC, bC⟩ := sc h
 refine kX (fun σ => ∃ qG, RC (.inr qG) ∧ σ = ⟨[(4, .c (.int .u8 cM)), (23, .c (.isl .u8 (bytesJ s5))), (24, iD (((bytesJ s5).length : Nat) : Int)), (25, iD ((j6 : Nat) : Int)), (34, bD qG)], []⟩) ?_ ?_
 refine kc h ?_ ?_ <;> intro h
 conv => whnf
 exact ⟨false, ss h, rfl⟩
 refine kc h ?_ ?_ <;> intro h
 conv => whnf
 exact ⟨false, ss h, rfl⟩
 conv => whnf
 exact ⟨true, ss h, rfl⟩
 rintro _ ⟨qG, h, rfl⟩
 replace h := bC _ h
 obtain ⟨RH, h, aH, bH⟩ := sc h
 refine kX (fun σ => ∃ qI, RH (.inr qI) ∧ σ = ⟨[(4, .c (.int .u8 cM)), (23, .c (.isl .u8 (bytesJ s5))), (24, iD (((bytesJ s5).length : Nat) : Int)), (25, iD ((j6 : Nat) : Int)), (42, bD qI)], []⟩) ?_ ?_
 cases qG
 replace h := cf h
 refine kc h ?_ ?_ <;> intro h
 conv => whnf
 exact ⟨false, ss h, rfl⟩
 refine kc h ?_ ?_ <;> intro h
 conv => whnf
 exact ⟨false, ss h, rfl⟩
 conv => whnf
 exact ⟨true, ss h, rfl⟩
 replace h := ct h
 conv => whnf
 exact ⟨true, ss h, rfl⟩
 rintro _ ⟨qI, h, rfl⟩
 replace h := bH _ h
 obtain ⟨RJ, h, aJ, bJ⟩ := sc h
 refine kX (fun σ => ∃ qK, RJ (.inr qK) ∧ σ = ⟨[(23, .c (.isl .u8 (bytesJ s5))), (24, iD (((bytesJ s5).length : Nat) : Int)), (25, iD ((j6 : Nat) : Int)), (46, bD qK)], []⟩) ?_ ?_
 cases qI
 replace h := cf h
 refine kc h ?_ ?_ <;> intro h
 conv => whnf
 exact ⟨false, ss h, rfl⟩
 conv => whnf
 exact ⟨true, ss h, rfl⟩
 replace h := ct h
 conv => whnf
 exact ⟨true, ss h, rfl⟩
 rintro _ ⟨qK, h, rfl⟩
 replace h := bJ _ h
 cases qK
 replace h := cf h
 replace h := sat_lft a9 h
 exact kR [] (ND 0) (hQ _ (ss h))
 replace h := ct h
 conv => whnf
 exact ⟨tlB.length, nls, tlB, j6 + 1, _, rfl, htlB, lx_wr hxL hlQ, h, rfl⟩
 rintro _ ⟨h, rfl⟩
 replace h := b9 _ h
 exact kR [] (ND 0) (hQ _ (ss h))
 exact kR [] (ND 0) (hQ _ (ss h))
 exact kR [] (ND 0) (hQ _ (ss h))
 exact kR [] (ND 0) (hQ _ (ss h))
 exact kR [] (ND 0) (hQ _ (ss h))
def f152 : (BA × V) → BA → Int → Int → BA → FV → Option (Bool)
  | (a5, .mk k7 n8 s9 fA), s6, vB, vC, sF, lG => cond (a5.toList == s6.toList) (some true) (some false)
def C152 (O : Oracle TT) (m : (BA × V) → BA → Int → Int → BA → FV → Option (Bool)) : Prop :=
  ∀ aA kB nC sF fG s5 v6 v7 s8 l9 (Q : Bool → Prop) (R : RR) (_ : ∀ qH, Q qH → R (bD qH) [eV (.x 0) [.str s5, ci v6, ci v7, .str s8, .isl .fld l9]]) (_ : sat (m (aA, (V.mk kB nC sF fG)) s5 v6 v7 s8 l9) Q), O 152 [.agg [.str aA, ci kB, ci nC, .str sF, .isl .fld fG], pX 0] [eV (.x 0) [.str s5, ci v6, ci v7, .str s8, .isl .fld l9]] R
def j152 : Fn TT := ⟨9, [.t 3], (sr [qo 2 (.box 2 0),qm 3 bF] (sr [qo 4 (.fa 2 0),qo 5 (ld 4),qo 6 (.fa 1 0),qo 7 (ld 6),qo 8 (.bin .eql .str 5 7),qm 3 8] .ret))⟩
theorem w152 {O : Oracle TT} : C152 (fun _ => vcF (S := SS) O j152) f152 := by
 intro a5 k6 n7 s8 f9 sA vB vC sF lG Q R hQ h
 unfold f152 at h
 refine ⟨nle rfl, rfl, ?_⟩
 refine kc h ?_ ?_ <;> intro h
 exact kR [] (ND 1) (hQ _ (ss h))
 exact kR [] (ND 1) (hQ _ (ss h))
def f163_L2 (s6 : BA) (v7 : Int) (v8 : Int) (s9 : BA) (lA : FV) : FV → Nat → Option (Sum (Int) (Unit))
  | [], j5 => some (.inr ())
  | ((aB, .mk kC nF sG fH)) :: tlI, j5 => (f152 (aB, (V.mk kC nF sG fH)) s6 v7 v8 s9 lA).bind fun qJ => cond qJ (lft (some ((j5 : Nat) : Int))) (f163_L2 s6 v7 v8 s9 lA tlI (j5 + 1))
def f163 : FV → BA → Int → Int → BA → FV → Option (Int)
  | l5, s6, v7, v8, s9, lA => sbind (ο := Unit) (f163_L2 s6 v7 v8 s9 lA l5 0) (fun () => some (-1))
def C163 (O : Oracle TT) (m : FV → BA → Int → Int → BA → FV → Option (Int)) : Prop :=
  ∀ lA s5 v6 v7 s8 l9 (Q : Int → Prop) (R : RR) (_ : ∀ vB, Q vB → R (iD vB) [eV (.x 0) [.str s5, ci v6, ci v7, .str s8, .isl .fld l9]]) (_ : sat (m lA s5 v6 v7 s8 l9) Q), O 163 [.c (.isl .fld lA), .c (.fn 152 [(.x 0)])] [eV (.x 0) [.str s5, ci v6, ci v7, .str s8, .isl .fld l9]] R
def j163 : Fn TT := ⟨19, [.t 4], (sr [qo 4 (.mv (iC 0))] (.cut [] [(.x 0)] (sr [qm 6 0,qo 7 (.len false 6),qo 8 (.mv (iC 0))] (.block 0 (.loop (.keep [0, 1, 7, 8] [(.x 0)] (.aft (sr [qo 9 (.bin .lss .num 8 7)] (.seq (.cond 9 .skip (.exit 0)) (.seq (.block 1 (sr [qm 10 8,qm 5 10] (sr [qm 11 1,qm 12 0,
 qm 13 5,qo 14 (.idxA 12 13 5),qo 15 (.load 14 5 true),qo 16 (.callv 16 11 [15])] (.cond 16 (sr [qm 17 5,qm 4 17] .ret) .skip)))) (.reg [qo 18 (.bin .add .num 8 (iC 1)),qm 8 18])))) [.keep [0, 1, 7, 8] [(.x 0)]]))))) (sr [qo 4 (.mv (iC (-1)))] .ret)))⟩
theorem w163 {O : Oracle TT} (h152 : C152 O f152) : C163 (fun _ => vcF (S := SS) O j163) f163 := by
 intro l9 sG vH vI sJ lK Q R hQ h
 unfold f163 at h
 refine ⟨nle rfl, rfl, ?_⟩
 obtain ⟨R6, h, a6, b6⟩ := sc h
 refine kX (fun σ => R6 (.inr ()) ∧ σ = ⟨[], [eV (.x 0) [.str sG, ci vH, ci vI, .str sJ, .isl .fld lK]]⟩) ?_ ?_
 intro hlN
 refine kX (fun σ n => ∃ (rem5 : FV) (j8 : Nat) (z : Int), n = rem5.length ∧ l9.drop j8 = rem5 ∧ z = ((j8 : Nat) : Int) ∧ sat (f163_L2 sG vH vI sJ lK rem5 j8) R6 ∧ σ.keep [0, 1, 7, 8] [(.x 0)] = ⟨[(0, .c (.isl .fld l9)), (1, .c (.fn 152 [(.x 0)])), (7, iD ((l9.length : Nat) : Int)), (8, iD z)], [eV (.x 0) [.str sG, ci vH, ci vI, .str sJ, .isl .fld lK]]⟩) ⟨_, l9, 0, _, rfl, rfl, rfl, h, rfl⟩ ?_
 rintro σ n ⟨rem5, j8, _, rfl, hrem5, rfl, h, hσ⟩
 refine kk hσ ?_
 intro tA (htA : tA = decide (((j8 : Nat) : Int) < ((l9.length : Nat) : Int)))
 cases tA
 obtain rfl := ll_nil hrem5 htA
 rw [f163_L2] at h
 conv => whnf
 exact ⟨ss h, rfl⟩
 obtain ⟨xB, tlC, rfl, hxB, htlC⟩ := ll_cons hrem5 htA
 obtain ⟨aP, ⟨kQ, nS, sU, fV⟩⟩ := xB
 rw [f163_L2] at h
 conv => whnf
 refine ⟨lx_bd hxB, fun uuM huuM => ?_⟩
 obtain rfl := lx_eq hxB huuM
 refine kL [(.x 0)] (h152 _ _ _ _ _ _ _ _ _ _ _ _ ?_ (sb h))
 rintro qO h
 cases qO
 replace h := cf h
 conv => whnf
 exact ⟨tlC.length, nls, tlC, j8 + 1, _, rfl, htlC, lx_wr hxB hlN, h, rfl⟩
 replace h := ct h
 replace h := sat_lft a6 h
 exact kR [] (ND 1) (hQ _ (ss h))
 rintro _ ⟨h, rfl⟩
 replace h := b6 _ h
 exact kR [] (ND 1) (hQ _ (ss h))
def f151 : FV → BA → Int → Int → BA → FV → Option (Bool)
  | l5, s6, v7, v8, s9, lA => (f163 l5 s6 v7 v8 s9 lA).bind fun vB => cond (decide (vB ≥ 0)) (some true) (some false)
def C151 (O : Oracle TT) (m : FV → BA → Int → Int → BA → FV → Option (Bool)) : Prop :=
  ∀ lA s5 v6 v7 s8 l9 (Q : Bool → Prop) (R : RR) (_ : ∀ qB, Q qB → R (bD qB) [eV (.x 0) [.str s5, ci v6, ci v7, .str s8, .isl .fld l9]]) (_ : sat (m lA s5 v6 v7 s8 l9) Q), O 151 [.c (.isl .fld lA), .c (.fn 152 [(.x 0)])] [eV (.x 0) [.str s5, ci v6, ci v7, .str s8, .isl .fld l9]] R
def j151 : Fn TT := ⟨9, [.t 4], (sr [qm 4 bF] (sr [qm 5 0,qm 6 1,qo 7 (.call 7 163 [5, 6]),qo 8 (.bin .geq .num 7 (iC 0)),qm 4 8] .ret))⟩
theorem w151 {O : Oracle TT} (h163 : C163 O f163) : C151 (fun _ => vcF (S := SS) O j151) f151 := by
 intro l5 s6 v7 v8 s9 lA Q R hQ h
 unfold f151 at h
 refine ⟨nle rfl, rfl, ?_⟩
 refine kL [(.x 0)] (h163 _ _ _ _ _ _ _ _ ?_ (sb h))
 rintro vB h
 refine kc h ?_ ?_ <;> intro h
 exact kR [] (ND 1) (hQ _ (ss h))
 exact kR [] (ND 1) (hQ _ (ss h))
def f128_L2 (l6 : FV) : FV → Nat → Option (Sum (Int) (Unit))
  | [], j5 => some (.inr ())
  | ((a7, .mk k8 n9 sA fB)) :: tlC, j5 => (f132 a7).bind fun qF => cond qF (grdP ((0 : Int) ≤ ((j5 : Nat) : Int) ∧ 0 ≤ ((j5 : Nat) : Int).toNat ∧ ((j5 : Nat) : Int).toNat ≤ l6.length) ((f151 ((l6.drop 0).take (((j5 : Nat) : Int).toNat - 0)) a7 k8 n9 sA fB).bind fun qG => cond qG (lft (some 5)) (f128_L2 l6 tlC (j5 + 1)))) (lft (some 15))
def f128 : FV → Option (Int)
  | l0 => sbind (ο := Unit) (f128_L2 l0 l0 0) (fun () => some 0)
def C128 (O : Oracle TT) (m : FV → Option (Int)) : Prop :=
  ∀ l0 (Q : Int → Prop) (R : RR) (_ : ∀ v5, Q v5 → R (iD v5) []) (_ : sat (m l0) Q), O 128 [.c (.isl .fld l0)] [] R
def j128 : Fn TT := ⟨22, [.t 2], (sr [qo 2 (.mv (iC 0))] (.cut [] [] (sr [qm 5 0,qo 6 (.len false 5),qo 7 (.mv (iC 0))] (.block 0 (.loop (.keep [0, 5, 6, 7] [] (.aft (sr [qo 8 (.bin .lss .num 7 6)] (.seq (.cond 8 .skip (.exit 0)) (.seq (.block 1 (sr [qm 9 7,qo 10 (.idxA 5 7 5),qo 11 (.load 10 5 true),qo 4 (.alloc 4 zFd),qm 3 9,
 qp (.store 4 11 5)] (.seq (sr [qo 12 (.fa 4 0),qo 13 (ld 12),qo 14 (.call 14 132 [13]),qo 15 (.un .not 14)] (.cond 15 (sr [qo 2 (.mv (iC 15))] .ret) .skip)) (sr [qm 16 0,qm 17 3,qo 18 (.slc 5 16 none (some 17)),qo 19 (.mkf 152 [4]),qo 20 (.call 20 151 [18, 19])] (.cond 20 (sr [qo 2 (.mv (iC 5))] .ret) .skip)))))
 (.reg [qo 21 (.bin .add .num 7 (iC 1)),qm 7 21])))) [.keep [0, 5, 6, 7] []]))))) (sr [qo 2 (.mv (iC 0))] .ret)))⟩
theorem w128 {O : Oracle TT} (h132 : C132 O f132) (h151 : C151 O f151) : C128 (fun _ => vcF (S := SS) O j128) f128 := by
 intro l5 Q R hQ h
 unfold f128 at h
 refine ⟨nle rfl, rfl, ?_⟩
 obtain ⟨R6, h, a6, b6⟩ := sc h
 refine kX (fun σ => R6 (.inr ()) ∧ σ = ⟨[], []⟩) ?_ ?_
 intro hlH
 refine kX (fun σ n => ∃ (rem8 : FV) (j9 : Nat) (z : Int), n = rem8.length ∧ l5.drop j9 = rem8 ∧ z = ((j9 : Nat) : Int) ∧ sat (f128_L2 l5 rem8 j9) R6 ∧ σ.keep [0, 5, 6, 7] [] = ⟨[(0, .c (.isl .fld l5)), (5, .c (.isl .fld l5)), (6, iD ((l5.length : Nat) : Int)), (7, iD z)], []⟩) ⟨_, l5, 0, _, rfl, rfl, rfl, h, rfl⟩ ?_
 rintro σ n ⟨rem8, j9, _, rfl, hrem8, rfl, h, hσ⟩
 refine kk hσ ?_
 intro tA (htA : tA = decide (((j9 : Nat) : Int) < ((l5.length : Nat) : Int)))
 cases tA
 obtain rfl := ll_nil hrem8 htA
 rw [f128_L2] at h
 conv => whnf
 exact ⟨ss h, rfl⟩
 obtain ⟨xB, tlC, rfl, hxB, htlC⟩ := ll_cons hrem8 htA
 obtain ⟨aN, ⟨kO, nP, sQ, fS⟩⟩ := xB
 rw [f128_L2] at h
 conv => whnf
 refine ⟨lx_bd hxB, fun uuG huuG => ?_⟩
 obtain rfl := lx_eq hxB huuG
 refine kL [] (h132 _ _ _ ?_ (sb h))
 rintro qI h
 cases qI
 replace h := cf h
 replace h := sat_lft a6 h
 exact kR [] (ND 0) (hQ _ (ss h))
 replace h := ct h
 conv => whnf
 obtain ⟨⟨hbJ, hbK⟩, h⟩ := sat_grdP h
 refine ⟨hbJ, ?_⟩
 conv => whnf
 refine ⟨hbK, ?_⟩
 refine kL [(.s 4)] (h151 _ _ _ _ _ _ _ _ ?_ (sb h))
 rintro qM h
 cases qM
 replace h := cf h
 conv => whnf
 exact ⟨tlC.length, nls, tlC, j9 + 1, _, rfl, htlC, lx_wr hxB hlH, h, rfl⟩
 replace h := ct h
 replace h := sat_lft a6 h
 exact kR [] (ND 0) (hQ _ (ss h))
 rintro _ ⟨h, rfl⟩
 replace h := b6 _ h
 exact kR [] (ND 0) (hQ _ (ss h))
def f101 : V → Option (Int)
  | .mk k6 n8 s7 f5 => cond (k6 == 5) (cond (decide ((s7.size : Int) > 4000)) (some 2) (some 0)) (cond (k6 == 6) (cond (decide (((f5.length : Nat) : Int) > 24)) (some 2) ((f128 f5).bind fun v9 => some v9)) (cond (k6 == 7) (cond (((f5.length : Nat) : Int) != 1) (some 3) ((f128 f5).bind fun vA => some vA)) (cond (k6 == 8) (cond (decide (((f5.length : Nat) : Int) > 200)) (some 2) ((f129 (V.mk k6 n8 s7 f5)).bind fun vB => some vB)) (cond (k6 == 9) (cond (decide (((f5.length : Nat) : Int) > 200)) (some 2) ((f129 (V.mk k6 n8 s7 f5)).bind fun vC => some vC)) (some 0)))))
def C101 (O : Oracle TT) (m : V → Option (Int)) : Prop :=
  ∀ k5 n6 s7 f8 (Q : Int → Prop) (R : RR) (_ : ∀ v9, Q v9 → R (iD v9) []) (_ : sat (m (V.mk k5 n6 s7 f8)) Q), O 101 [.agg [ci k5, ci n6, .str s7, .isl .fld f8]] [] R
def j101 : Fn TT := ⟨38, [.t 2], (sr [qo 1 (.box 1 0),qo 2 (.mv (iC 0))] (.seq (sr [qo 3 (.fa 1 0),qo 4 (ld 3)] (.block 0 (sr [qo 6 (.bin .eql .num 4 (iC 5)),qm 5 6] (.cond 5 (sr [qo 7 (.fa 1 2),qo 8 (ld 7),qo 9 (.len true 8),qo 10 (.bin .gtr .num 9 (iC 4000))] (.cond 10 (sr [qo 2 (.mv (iC 2))] .ret) .skip))
 (sr [qo 12 (.bin .eql .num 4 (iC 6)),qm 11 12] (.cond 11 (.seq (sr [qo 13 (.fa 1 3),qo 14 (ld 13),qo 15 (.len false 14),qo 16 (.bin .gtr .num 15 (iC 24))] (.cond 16 (sr [qo 2 (.mv (iC 2))] .ret) .skip)) (sr [qo 17 (.fa 1 3),qo 18 (ld 17),qo 19 (.call 19 128 [18]),qm 2 19] .ret)) (.seq
 (.reg [qo 21 (.bin .eql .num 4 (iC 7)),qm 20 21]) (.cond 20 (.seq (sr [qo 22 (.fa 1 3),qo 23 (ld 22),qo 24 (.len false 23),qo 25 (.bin .neq .num 24 (iC 1))] (.cond 25 (sr [qo 2 (.mv (iC 3))] .ret) .skip)) (sr [qo 26 (.fa 1 3),qo 27 (ld 26),qo 28 (.call 28 128 [27]),qm 2 28] .ret)) (.seq (.seq
 (.reg [qo 30 (.bin .eql .num 4 (iC 8)),qm 29 30]) (.cond 29 .skip (.reg [qo 31 (.bin .eql .num 4 (iC 9)),qm 29 31]))) (.cond 29 (.seq (sr [qo 32 (.fa 1 3),qo 33 (ld 32),qo 34 (.len false 33),qo 35 (.bin .gtr .num 34 (iC 200))] (.cond 35 (sr [qo 2 (.mv (iC 2))] .ret) .skip)) (sr [qo 36 (.load 1 4 true),qo 37 (.call 37 129 [36]),qm 2 37]
 .ret)) .skip)))))))))) (sr [qo 2 (.mv (iC 0))] .ret)))⟩
theorem w101 {O : Oracle TT} (h129 : C129 O f129) (h128 : C128 O f128) : C101 (fun _ => vcF (S := SS) O j101) f101 := by
 intro k5 n6 s8 f9 Q R hQ h
 unfold f101 at h
 refine ⟨nle rfl, rfl, ?_⟩
 refine kc h ?_ ?_ <;> intro h
 refine kc h ?_ ?_ <;> intro h
 refine kc h ?_ ?_ <;> intro h
 refine kc h ?_ ?_ <;> intro h
 refine kc h ?_ ?_ <;> intro h
 exact kR [] (ND 0) (hQ _ (ss h))
 intro hlA
 refine kc h ?_ ?_ <;> intro h
 refine kL [] (h129 _ _ _ _ _ _ ?_ (sb h))
 rintro vB h
 exact kR [] (ND 0) (hQ _ (ss h))
 exact kR [] (ND 0) (hQ _ (ss h))
 intro hlC
 refine kc h ?_ ?_ <;> intro h
 refine kL [] (h129 _ _ _ _ _ _ ?_ (sb h))
 rintro vF h
 exact kR [] (ND 0) (hQ _ (ss h))
 exact kR [] (ND 0) (hQ _ (ss h))
 intro hlG
 refine kc h ?_ ?_ <;> intro h
 refine kL [] (h128 _ _ _ ?_ (sb h))
 rintro vH h
 exact kR [] (ND 0) (hQ _ (ss h))
 exact kR [] (ND 0) (hQ _ (ss h))
 intro hlI
 refine kc h ?_ ?_ <;> intro h
 refine kL [] (h128 _ _ _ ?_ (sb h))
 rintro vJ h
 exact kR [] (ND 0) (hQ _ (ss h))
 exact kR [] (ND 0) (hQ _ (ss h))
 refine kc h ?_ ?_ <;> intro h
 exact kR [] (ND 0) (hQ _ (ss h))
 exact kR [] (ND 0) (hQ _ (ss h))
def f77_L2 (self77 : V → Bool → Option (Int)) : FV → Nat → Option (Sum (Int) (Unit))
  | [], j5 => some (.inr ())
  | ((aC, .mk k7 n8 s9 fA)) :: tlB, j5 => (self77 (V.mk k7 n8 s9 fA) false).bind fun v6 => cond (v6 != 0) (lft (some v6)) (f77_L2 self77 tlB (j5 + 1))
def b77 (self77 : V → Bool → Option (Int)) : V → Bool → Option (Int)
  | .mk k5 n7 s8 f6, qA => sbind (ο := Bool) (cond (decide (k5 < 0)) (some (.inr true)) (cond (decide (k5 ≥ 12)) (some (.inr true)) (some (.inr false)))) (fun qB => sbind (ο := Bool) (cond qB (some (.inr true)) (cond (k5 == 10) (some (.inr true)) (some (.inr false)))) (fun qC => sbind (ο := Bool) (cond qC (some (.inr true)) (cond (k5 == 11) (cond qA (some (.inr false)) (some (.inr true))) (some (.inr false)))) (fun qF => sbind (ο := Bool) (cond qF (some (.inr true)) ((f99 (V.mk k5 n7 s8 f6)).bind fun qG => some (.inr qG))) (fun qH => cond qH (some 3) ((f100 (V.mk k5 n7 s8 f6)).bind fun qI => cond qI ((f101 (V.mk k5 n7 s8 f6)).bind fun v9 => cond (v9 != 0) (some v9) (sbind (ο := Unit) (f77_L2 self77 f6 0) (fun () => some 0))) (some 11))))))
def f77 : Nat → V → Bool → Option (Int)
  | 0 => fun _ _ => none
  | n + 1 => b77 (f77 n)
def C77 (O : Oracle TT) (m : V → Bool → Option (Int)) : Prop :=
  ∀ k5 n6 s7 f8 q9 (Q : Int → Prop) (R : RR) (_ : ∀ vA, Q vA → R (iD vA) []) (_ : sat (m (V.mk k5 n6 s7 f8) q9) Q), O 77 [.agg [ci k5, ci n6, .str s7, .isl .fld f8], bD q9] [] R
def j77 : Fn TT := ⟨59, [.t 4], (sr [qo 2 (.box 2 0),qo 4 (.mv (iC 0))] (.seq (.block 0 (.seq (.regc [([qo 10 (.fa 2 0),qo 11 (ld 10),qo 12 (.bin .lss .num 11 (iC 0)),qm 13 12,qf 13 14 (.fa 2 0),qf 13 15 (ld 14),qf 13 16 (.bin .geq .num 15 (iC 12)),qo 17 (.pick 13 bT 16)], [1, 2, 17], [(.s 2)]), ([qm 18 17,qf 18 19 (.fa 2 0),
 qf 18 20 (ld 19),qf 18 21 (.bin .eql .num 20 (iC 10)),qo 22 (.pick 18 bT 21)], [1, 2, 22], [(.s 2)]), ([qm 23 22,qf 23 24 (.fa 2 0),qf 23 25 (ld 24),qf 23 26 (.bin .eql .num 25 (iC 11)),qf 23 27 (.mv 26),qg 27 28 (.mv 1),qg 27 29 (.un .not 28),qf 23 30 (.pick 27 29 bF),qo 31 (.pick 23 bT 30)], [2, 31], [(.s 2)]), ([qm 32 31,qf 32 33 (.load 2 4 true),
 qf 32 34 (.call 34 99 [33]),qo 35 (.pick 32 bT 34)], [2, 35], [(.s 2)])] [qm 9 35]) (.cond 9 (sr [qo 4 (.mv (iC 3))] .ret) (sr [qo 37 (.load 2 4 true),qo 38 (.call 38 100 [37]),qo 39 (.un .not 38),qm 36 39] (.cond 36 (sr [qo 4 (.mv (iC 11))] .ret) .skip))))) (.seq (sr [qo 40 (.load 2 4 true),qo 41 (.call 41 101 [40]),qm 5 41] (.seq
 (.reg [qm 42 5,qo 43 (.bin .neq .num 42 (iC 0))]) (.cond 43 (sr [qm 44 5,qm 4 44] .ret) .skip))) (.cut [] [] (sr [qo 45 (.fa 2 3),qo 46 (ld 45),qo 47 (.len false 46),qo 48 (.mv (iC 0))] (.block 1 (.loop (.keep [46, 47, 48] [] (.aft (sr [qo 49 (.bin .lss .num 48 47)] (.seq (.cond 49 .skip (.exit 1)) (.seq (.block 2 (.seq
 (.reg [qo 50 (.idxA 46 48 5),qo 51 (.load 50 5 true),qo 7 (.alloc 7 zFd),qp (.store 7 51 5)]) (sr [qo 52 (.fa 7 1),qo 53 (.load 52 4 true),qo 54 (.call 54 77 [53, bF]),qm 8 54] (sr [qm 55 8,qo 56 (.bin .neq .num 55 (iC 0))] (.cond 56 (sr [qm 57 8,qm 4 57] .ret) .skip))))) (.reg [qo 58 (.bin .add .num 48 (iC 1)),
 qm 48 58])))) [.keep [46, 47, 48] []]))))) (sr [qo 4 (.mv (iC 0))] .ret)))))⟩
theorem w77 {O : Oracle TT} (self77 : V → Bool → Option (Int)) (h77 : C77 O self77) (h99 : C99 O f99) (h100 : C100 O f100) (h101 : C101 O f101) : C77 (fun _ => vcF (S := SS) O j77) (b77 self77) := by
 intro kC nF sG f5 qS Q R hQ h
 unfold b77 at h
 refine ⟨nle rfl, rfl, ?_⟩
 obtain ⟨RH, h, aH, hrRH⟩ := sc h
 refine kX (fun σ => ∃ qI, RH (.inr qI) ∧ σ = ⟨[(1, bD qS), pT 2, (17, bD qI)], [eV (.s 2) [ci kC, ci nF, .str sG, .isl .fld f5]]⟩) ?_ ?_
 refine kc h ?_ ?_ <;> intro h
 refine kc h ?_ ?_ <;> intro h
 conv => whnf
 exact ⟨false, ss h, rfl⟩
 conv => whnf
 exact ⟨true, ss h, rfl⟩
 conv => whnf
 exact ⟨true, ss h, rfl⟩
 rintro _ ⟨qI, h, rfl⟩
 replace h := hrRH _ h
 obtain ⟨RJ, h, aJ, hrRJ⟩ := sc h
 refine kX (fun σ => ∃ qK, RJ (.inr qK) ∧ σ = ⟨[(1, bD qS), pT 2, (22, bD qK)], [eV (.s 2) [ci kC, ci nF, .str sG, .isl .fld f5]]⟩) ?_ ?_
 cases qI
 replace h := cf h
 refine kc h ?_ ?_ <;> intro h
 conv => whnf
 exact ⟨false, ss h, rfl⟩
 conv => whnf
 exact ⟨true, ss h, rfl⟩
 replace h := ct h
 conv => whnf
 exact ⟨true, ss h, rfl⟩
 rintro _ ⟨qK, h, rfl⟩
 replace h := hrRJ _ h
 obtain ⟨RM, h, aM, hrRM⟩ := sc h
 refine kX (fun σ => ∃ qN, RM (.inr qN) ∧ σ = ⟨[pT 2, (31, bD qN)], [eV (.s 2) [ci kC, ci nF, .str sG, .isl .fld f5]]⟩) ?_ ?_
 cases qK
 replace h := cf h
 refine kc h ?_ ?_ <;> intro h
 conv => whnf
 exact ⟨false, ss h, rfl⟩
 cases qS
 replace h := cf h
 conv => whnf
 exact ⟨true, ss h, rfl⟩
 replace h := ct h
 conv => whnf
 exact ⟨false, ss h, rfl⟩
 replace h := ct h
 conv => whnf
 exact ⟨true, ss h, rfl⟩
 rintro _ ⟨qN, h, rfl⟩
 replace h := hrRM _ h
 obtain ⟨RO, h, aO, hrRO⟩ := sc h
 refine kX (fun σ => ∃ qP, RO (.inr qP) ∧ σ = ⟨[pT 2, (35, bD qP)], [eV (.s 2) [ci kC, ci nF, .str sG, .isl .fld f5]]⟩) ?_ ?_
 cases qN
 replace h := cf h
 refine kL [] (h99 _ _ _ _ _ _ ?_ (sb h))
 rintro qU h
 conv => whnf
 exact ⟨qU, ss h, rfl⟩
 replace h := ct h
 conv => whnf
 exact ⟨true, ss h, rfl⟩
 rintro _ ⟨qP, h, rfl⟩
 replace h := hrRO _ h
 cases qP
 replace h := cf h
 refine kL [] (h100 _ _ _ _ _ _ ?_ (sb h))
 rintro qV h
 cases qV
 replace h := cf h
 exact kR [] (ND 0) (hQ _ (ss h))
 replace h := ct h
 refine kL [] (h101 _ _ _ _ _ _ ?_ (sb h))
 rintro vY h
 refine kc h ?_ ?_ <;> intro h
 obtain ⟨R8, h, a8, hrR8⟩ := sc h
 refine kX (fun σ => R8 (.inr ()) ∧ σ = ⟨[], []⟩) ?_ ?_
 intro hlW
 refine kX (fun σ n => ∃ (rem6 : FV) (j9 : Nat) (z : Int), n = rem6.length ∧ f5.drop j9 = rem6 ∧ z = ((j9 : Nat) : Int) ∧ sat (f77_L2 self77 rem6 j9) R8 ∧ σ.keep [46, 47, 48] [] = ⟨[(46, .c (.isl .fld f5)), (47, iD ((f5.length : Nat) : Int)), (48, iD z)], []⟩) ⟨_, f5, 0, _, rfl, rfl, rfl, h, rfl⟩ ?_
 rintro σ n ⟨rem6, j9, _, rfl, hrem6, rfl, h, hσ⟩
 refine kk hσ ?_
 intro tA (htA : tA = decide (((j9 : Nat) : Int) < ((f5.length : Nat) : Int)))
 cases tA
 obtain rfl := ll_nil hrem6 htA
 rw [f77_L2] at h
 conv => whnf
 exact ⟨ss h, rfl⟩
 obtain ⟨xB, tlQ, rfl, hxB, htlQ⟩ := ll_cons hrem6 htA
 obtain ⟨aZ, ⟨k00, n01, s02, f03⟩⟩ := xB
 rw [f77_L2] at h
 conv => whnf
 refine ⟨lx_bd hxB, fun uuT huuT => ?_⟩
 obtain rfl := lx_eq hxB huuT
 refine kL [] (h77 _ _ _ _ _ _ _ ?_ (sb h))
 rintro v04 h
 refine kc h ?_ ?_ <;> intro h
 conv => whnf
 exact ⟨tlQ.length, nls, tlQ, j9 + 1, _, rfl, htlQ, lx_wr hxB hlW, h, rfl⟩
 replace h := sat_lft a8 h
 exact kR [] (ND 0) (hQ _ (ss h))
 rintro _ ⟨h, rfl⟩
 replace h := hrR8 _ h
 exact kR [] (ND 0) (hQ _ (ss h))
 exact kR [] (ND 0) (hQ _ (ss h))
 replace h := ct h
 exact kR [] (ND 0) (hQ _ (ss h))
theorem cg77 {P : Program} {fid : Nat → FuncId} (mx : MX P) (k77 : KF P fid 77 j77) (h99 : C99 (SP P fid) f99) (h100 : C100 (SP P fid) f100) (h101 : C101 (SP P fid) f101) : ∀ n, C77 (SP P fid) (f77 n) := by
 intro n
 induction n with
 | zero => exact fun a0 a5 a6 a7 a8 Q R hQ h => (sat_none h).elim
 | succ n ih =>
  have ih0 := ih
  exact fun a0 a5 a6 a7 a8 Q R hQ h => spec_of_vc mx k77 (w77 (f77 n) ih0 h99 h100 h101 a0 a5 a6 a7 a8 Q R hQ h)
theorem c77 {P : Program} {fid : Nat → FuncId} (mx : MX P) (k77 : KF P fid 77 j77) (h99 : C99 (SP P fid) f99) (h100 : C100 (SP P fid) f100) (h101 : C101 (SP P fid) f101) : ∀ n, C77 (SP P fid) (f77 n) := fun n => (cg77 mx k77 h99 h100 h101 n)
def f51 (fuel : Nat) : V → Option (Int)
  | .mk k5 n6 s7 f8 => (f75 fuel (V.mk k5 n6 s7 f8)).bind fun v9 => cond (decide (v9 > 2000)) (some 2) ((f76 fuel (V.mk k5 n6 s7 f8)).bind fun vA => cond (decide (vA > 40)) (some 2) ((f77 fuel (V.mk k5 n6 s7 f8) true).bind fun vB => some vB))
def C51 (O : Oracle TT) (m : V → Option (Int)) : Prop :=
  ∀ k5 n6 s7 f8 (Q : Int → Prop) (R : RR) (_ : ∀ v9, Q v9 → R (iD v9) []) (_ : sat (m (V.mk k5 n6 s7 f8)) Q), O 51 [.agg [ci k5, ci n6, .str s7, .isl .fld f8]] [] R
def j51 : Fn TT := ⟨13, [.t 2], (sr [qo 1 (.box 1 0),qo 2 (.mv (iC 0))] (.seq (sr [qo 3 (.load 1 4 true),qo 4 (.call 4 75 [3]),qo 5 (.bin .gtr .num 4 (iC 2000)),qm 6 5,qf 6 7 (.load 1 4 true),qf 6 8 (.call 8 76 [7]),qf 6 9 (.bin .gtr .num 8 (iC 40)),qo 10 (.pick 6 bT 9)] (.cond 10 (sr [qo 2 (.mv (iC 2))] .ret) .skip)) (.seq
 (.reg [qo 11 (.load 1 4 true),qo 12 (.call 12 77 [11, bT]),qm 2 12]) .ret)))⟩
theorem w51 {O : Oracle TT} (fuel : Nat) (h75 : C75 O (f75 fuel)) (h76 : C76 O (f76 fuel)) (h77 : C77 O (f77 fuel)) : C51 (fun _ => vcF (S := SS) O j51) (f51 fuel) := by
 intro k5 n6 s7 f8 Q R hQ h
 unfold f51 at h
 refine ⟨nle rfl, rfl, ?_⟩
 refine kL [] (h75 _ _ _ _ _ _ ?_ (sb h))
 rintro v9 h
 refine kc h ?_ ?_ <;> intro h
 refine kL [] (h76 _ _ _ _ _ _ ?_ (sb h))
 rintro vA h
 refine kc h ?_ ?_ <;> intro h
 refine kL [] (h77 _ _ _ _ _ _ _ ?_ (sb h))
 rintro vB h
 exact kR [] (ND 0) (hQ _ (ss h))
 exact kR [] (ND 0) (hQ _ (ss h))
 exact kR [] (ND 0) (hQ _ (ss h))
def f133_L2 (self133 : Tp → Option (Int)) : PT → Nat → Int → Option (Sum (Int) (Int))
  | [], j6, v5 => some (.inr v5)
  | ((aG, .mk k7 m8 lo9 hiA pB psC)) :: tlE, j6, v5 => (self133 (Tp.mk k7 m8 lo9 hiA pB psC)).bind fun vF => f133_L2 self133 tlE (j6 + 1) (wrap .i64 (v5 + vF))
def b133 (self133 : Tp → Option (Int)) : Tp → Option (Int)
  | .mk k7 m8 lo9 hiA pB ps5 => sbind (ο := Int) (f133_L2 self133 ps5 0 (1 : Int)) (fun v6 => some v6)
def f133 : Nat → Tp → Option (Int)
  | 0 => fun _ => none
  | n + 1 => b133 (f133 n)
def C133 (O : Oracle TT) (m : Tp → Option (Int)) : Prop :=
  ∀ k5 m6 lo7 hi8 p9 psA (Q : Int → Prop) (R : RR) (_ : ∀ vB, Q vB → R (iD vB) []) (_ : sat (m (Tp.mk k5 m6 lo7 hi8 p9 psA)) Q), O 133 [.agg [ci k5, .str m6, ci lo7, ci hi8, .str p9, .isl .part psA]] [] R
def j133 : Fn TT := ⟨20, [.t 2], (sr [qo 1 (.box 1 0),qo 2 (.mv (iC 0))] (sr [qo 3 (.mv (iC 1))] (.cut [3] [] (sr [qo 6 (.fa 1 5),qo 7 (ld 6),qo 8 (.len false 7),qo 9 (.mv (iC 0))] (.block 0 (.loop (.keep [3, 7, 8, 9] [] (.aft (sr [qo 10 (.bin .lss .num 9 8)] (.seq (.cond 10 .skip (.exit 0)) (.seq (.block 1 (sr [qo 11 (.idxA 7 9 7),
 qo 12 (.load 11 7 true),qo 5 (.alloc 5 zPt),qp (.store 5 12 7)] (.reg [qm 13 3,qo 14 (.fa 5 1),qo 15 (.load 14 6 true),qo 16 (.call 16 133 [15]),qo 17 (.bin .add .num 13 16),qm 3 17]))) (.reg [qo 18 (.bin .add .num 9 (iC 1)),qm 9 18])))) [.keep [3, 7, 8, 9] []]))))) (sr [qm 19 3,qm 2 19] .ret))))⟩
theorem w133 {O : Oracle TT} (self133 : Tp → Option (Int)) (h133 : C133 O self133) : C133 (fun _ => vcF (S := SS) O j133) (b133 self133) := by
 intro kJ mK loM hiN pO ps8 Q R hQ h
 unfold b133 at h
 refine ⟨nle rfl, rfl, ?_⟩
 obtain ⟨R9, h, a9, hrR9⟩ := sc h
 refine kX (fun σ => ∃ vF, R9 (.inr vF) ∧ σ = ⟨[(3, iD vF)], []⟩) ?_ ?_
 intro hlH
 refine kX (fun σ n => ∃ (rem5 : PT) (j6 : Nat) (z : Int) (vA : Int), n = rem5.length ∧ ps8.drop j6 = rem5 ∧ z = ((j6 : Nat) : Int) ∧ sat (f133_L2 self133 rem5 j6 vA) R9 ∧ σ.keep [3, 7, 8, 9] [] = ⟨[(3, iD vA), (7, .c (.isl .part ps8)), (8, iD ((ps8.length : Nat) : Int)), (9, iD z)], []⟩) ⟨_, ps8, 0, _, (1 : Int), rfl, rfl, rfl, h, rfl⟩ ?_
 rintro σ n ⟨rem5, j6, _, vA, rfl, hrem5, rfl, h, hσ⟩
 refine kk hσ ?_
 intro tB (htB : tB = decide (((j6 : Nat) : Int) < ((ps8.length : Nat) : Int)))
 cases tB
 obtain rfl := ll_nil hrem5 htB
 rw [f133_L2] at h
 conv => whnf
 exact ⟨vA, ss h, rfl⟩
 obtain ⟨xC, tlE, rfl, hxC, htlE⟩ := ll_cons hrem5 htB
 obtain ⟨aP, ⟨kQ, mU, loV, hiW, pY, psZ⟩⟩ := xC
 rw [f133_L2] at h
 conv => whnf
 refine ⟨lx_bd hxC, fun uuG huuG => ?_⟩
 obtain rfl := lx_eq hxC huuG
 refine kL [] (h133 _ _ _ _ _ _ _ _ ?_ (sb h))
 rintro vI h
 conv => whnf
 exact ⟨tlE.length, nls, tlE, j6 + 1, _, (wrap .i64 (vA + vI)), rfl, htlE, lx_wr hxC hlH, h, rfl⟩
 rintro _ ⟨vF, h, rfl⟩
 replace h := hrR9 _ h
 exact kR [] (ND 0) (hQ _ (ss h))
theorem cg133 {P : Program} {fid : Nat → FuncId} (mx : MX P) (k133 : KF P fid 133 j133) : ∀ n, C133 (SP P fid) (f133 n) := by
 intro n
 induction n with
 | zero => exact fun a0 a5 a6 a7 a8 a9 Q R hQ h => (sat_none h).elim
 | succ n ih =>
  have ih0 := ih
  exact fun a0 a5 a6 a7 a8 a9 Q R hQ h => spec_of_vc mx k133 (w133 (f133 n) ih0 a0 a5 a6 a7 a8 a9 Q R hQ h)
theorem c133 {P : Program} {fid : Nat → FuncId} (mx : MX P) (k133 : KF P fid 133 j133) : ∀ n, C133 (SP P fid) (f133 n) := fun n => (cg133 mx k133 n)
def f134_L2 (self134 : Tp → Option (Int)) : PT → Nat → Int → Option (Sum (Int) (Int))
  | [], j6, v5 => some (.inr v5)
  | ((aG, .mk k8 m9 loA hiB pC psE)) :: tlF, j6, v5 => (self134 (Tp.mk k8 m9 loA hiB pC psE)).bind fun v7 => f134_L2 self134 tlF (j6 + 1) (if v7 > v5 then v7 else v5)
def b134 (self134 : Tp → Option (Int)) : Tp → Option (Int)
  | .mk k7 m8 lo9 hiA pB ps5 => sbind (ο := Int) (f134_L2 self134 ps5 0 (0 : Int)) (fun v6 => some (wrap .i64 (v6 + 1)))
def f134 : Nat → Tp → Option (Int)
  | 0 => fun _ => none
  | n + 1 => b134 (f134 n)
def C134 (O : Oracle TT) (m : Tp → Option (Int)) : Prop :=
  ∀ k5 m6 lo7 hi8 p9 psA (Q : Int → Prop) (R : RR) (_ : ∀ vB, Q vB → R (iD vB) []) (_ : sat (m (Tp.mk k5 m6 lo7 hi8 p9 psA)) Q), O 134 [.agg [ci k5, .str m6, ci lo7, ci hi8, .str p9, .isl .part psA]] [] R
def j134 : Fn TT := ⟨21, [.t 2], (sr [qo 1 (.box 1 0),qo 2 (.mv (iC 0))] (sr [qo 3 (.mv (iC 0))] (.cut [3] [] (sr [qo 6 (.fa 1 5),qo 7 (ld 6),qo 8 (.len false 7),qo 9 (.mv (iC 0))] (.block 0 (.loop (.keep [3, 7, 8, 9] [] (.aft (sr [qo 10 (.bin .lss .num 9 8)] (.seq (.cond 10 .skip (.exit 0)) (.seq (.block 1 (sr [qo 11 (.idxA 7 9 7),
 qo 12 (.load 11 7 true),qo 5 (.alloc 5 zPt),qp (.store 5 12 7)] (.reg [qm 13 3,qo 14 (.fa 5 1),qo 15 (.load 14 6 true),qo 16 (.call 16 134 [15]),qo 17 (.mx [13, 16]),qm 3 17]))) (.reg [qo 18 (.bin .add .num 9 (iC 1)),qm 9 18])))) [.keep [3, 7, 8, 9] []]))))) (sr [qm 19 3,qo 20 (.bin .add .num 19 (iC 1)),qm 2 20] .ret))))⟩
theorem w134 {O : Oracle TT} (self134 : Tp → Option (Int)) (h134 : C134 O self134) : C134 (fun _ => vcF (S := SS) O j134) (b134 self134) := by
 intro kJ mK loM hiN pO ps9 Q R hQ h
 unfold b134 at h
 refine ⟨nle rfl, rfl, ?_⟩
 obtain ⟨RA, h, aA, hrRA⟩ := sc h
 refine kX (fun σ => ∃ vF, RA (.inr vF) ∧ σ = ⟨[(3, iD vF)], []⟩) ?_ ?_
 intro hlI
 refine kX (fun σ n => ∃ (rem5 : PT) (j6 : Nat) (z : Int) (v8 : Int), n = rem5.length ∧ ps9.drop j6 = rem5 ∧ z = ((j6 : Nat) : Int) ∧ sat (f134_L2 self134 rem5 j6 v8) RA ∧ σ.keep [3, 7, 8, 9] [] = ⟨[(3, iD v8), (7, .c (.isl .part ps9)), (8, iD ((ps9.length : Nat) : Int)), (9, iD z)], []⟩) ⟨_, ps9, 0, _, (0 : Int), rfl, rfl, rfl, h, rfl⟩ ?_
 rintro σ n ⟨rem5, j6, _, v8, rfl, hrem5, rfl, h, hσ⟩
 refine kk hσ ?_
 intro tB (htB : tB = decide (((j6 : Nat) : Int) < ((ps9.length : Nat) : Int)))
 cases tB
 obtain rfl := ll_nil hrem5 htB
 rw [f134_L2] at h
 conv => whnf
 exact ⟨v8, ss h, rfl⟩
 obtain ⟨xC, tlE, rfl, hxC, htlE⟩ := ll_cons hrem5 htB
 obtain ⟨aP, ⟨kQ, mU, loV, hiW, pY, psZ⟩⟩ := xC
 rw [f134_L2] at h
 conv => whnf
 refine ⟨lx_bd hxC, fun uuG huuG => ?_⟩
 obtain rfl := lx_eq hxC huuG
 refine kL [] (h134 _ _ _ _ _ _ _ _ ?_ (sb h))
 rintro vH h
 conv => whnf
 exact ⟨tlE.length, nls, tlE, j6 + 1, _, (if vH > v8 then vH else v8), rfl, htlE, lx_wr hxC hlI, h, rfl⟩
 rintro _ ⟨vF, h, rfl⟩
 replace h := hrRA _ h
 exact kR [] (ND 0) (hQ _ (ss h))
theorem cg134 {P : Program} {fid : Nat → FuncId} (mx : MX P) (k134 : KF P fid 134 j134) : ∀ n, C134 (SP P fid) (f134 n) := by
 intro n
 induction n with
 | zero => exact fun a0 a5 a6 a7 a8 a9 Q R hQ h => (sat_none h).elim
 | succ n ih =>
  have ih0 := ih
  exact fun a0 a5 a6 a7 a8 a9 Q R hQ h => spec_of_vc mx k134 (w134 (f134 n) ih0 a0 a5 a6 a7 a8 a9 Q R hQ h)
theorem c134 {P : Program} {fid : Nat → FuncId} (mx : MX P) (k134 : KF P fid 134 j134) : ∀ n, C134 (SP P fid) (f134 n) := fun n => (cg134 mx k134 n)
def f165 : Int → Option (Int × Int)
  | v0 => cond (v0 == 1) (some (0, 1)) (cond (v0 == 2) (some ((-9007199254740992), 9007199254740992)) (cond (v0 == 4) (some (0, 4194304)) (cond (v0 == 8) (some (0, 200)) (cond (v0 == 9) (some (0, 200)) (some (0, 0))))))
def C165 (O : Oracle TT) (m : Int → Option (Int × Int)) : Prop :=
  ∀ v0 (Q : (Int × Int) → Prop) (R : RR) (_ : ∀ v5 v6, Q (v5, v6) → R (.tup [iD v5, iD v6]) []) (_ : sat (m v0) Q), O 165 [iD v0] [] R
def j165 : Fn TT := ⟨14, [.t 2, .t 3], (sr [qo 2 (.mv (iC 0)),qo 3 (.mv (iC 0))] (.seq (sr [qm 4 0] (.block 0 (sr [qo 6 (.bin .eql .num 4 (iC 1)),qm 5 6] (.cond 5 (sr [qo 2 (.mv (iC 0)),qo 3 (.mv (iC 1))] .ret) (sr [qo 8 (.bin .eql .num 4 (iC 2)),qm 7 8] (.cond 7 (sr [qo 2 (.mv (iC (-9007199254740992))),
 qo 3 (.mv (iC 9007199254740992))] .ret) (sr [qo 10 (.bin .eql .num 4 (iC 4)),qm 9 10] (.cond 9 (sr [qo 2 (.mv (iC 0)),qo 3 (.mv (iC 4194304))] .ret) (.seq (sr [qo 12 (.bin .eql .num 4 (iC 8)),qm 11 12] (.cond 11 .skip (.reg [qo 13 (.bin .eql .num 4 (iC 9)),qm 11 13]))) (.cond 11 (sr [qo 2 (.mv (iC 0)),qo 3 (.mv (iC 200))] .ret)
 .skip)))))))))) (sr [qo 2 (.mv (iC 0)),qo 3 (.mv (iC 0))] .ret)))⟩
theorem w165 {O : Oracle TT} : C165 (fun _ => vcF (S := SS) O j165) f165 := by
 intro v0 Q R hQ h
 unfold f165 at h
 refine ⟨nle rfl, rfl, ?_⟩
 refine kc h ?_ ?_ <;> intro h
 refine kc h ?_ ?_ <;> intro h
 refine kc h ?_ ?_ <;> intro h
 refine kc h ?_ ?_ <;> intro h
 refine kc h ?_ ?_ <;> intro h
 exact kR [] (ND 0) (hQ _ _ (ss h))
 exact kR [] (ND 0) (hQ _ _ (ss h))
 exact kR [] (ND 0) (hQ _ _ (ss h))
 exact kR [] (ND 0) (hQ _ _ (ss h))
 exact kR [] (ND 0) (hQ _ _ (ss h))
 exact kR [] (ND 0) (hQ _ _ (ss h))
def f166 : Tp → Option (Bool)
  | .mk k5 m6 lo7 hi8 p9 psB => sbind (ο := Bool) (cond (k5 == 1) (some (.inr true)) (cond (k5 == 2) (some (.inr true)) (some (.inr false)))) (fun qC => sbind (ο := Bool) (cond qC (some (.inr true)) (cond (k5 == 4) (some (.inr true)) (some (.inr false)))) (fun qD => sbind (ο := Bool) (cond qD (some (.inr true)) (cond (k5 == 8) (some (.inr true)) (some (.inr false)))) (fun qE => sbind (ο := Bool) (cond qE (some (.inr true)) (cond (k5 == 9) (some (.inr true)) (some (.inr false)))) (fun qA => cond (decide (k5 ≥ 6)) (cond (decide (k5 ≤ 9)) (sbind (ο := Bool) (cond qA (some (.inr false)) (cond (lo7 != 0) (some (.inr true)) (cond (hi8 != 0) (some (.inr true)) (some (.inr false))))) (fun qF => sbind (ο := Bool) (cond qF (some (.inr true)) (cond (k5 != 5) (cond (k5 != 9) (cond (!(p9.toList == (⟨#[]⟩ : BA).toList)) (some (.inr true)) (some (.inr false))) (some (.inr false))) (some (.inr false)))) (fun qG => sbind (ο := Bool) (cond qG (some (.inr true)) (some (.inr false))) (fun qH => sbind (ο := Bool) (cond qH (some (.inr true)) (cond (k5 != 10) (cond (!(m6.toList == (⟨#[]⟩ : BA).toList)) (some (.inr true)) (some (.inr false))) (some (.inr false)))) (fun qI => some qI))))) (sbind (ο := Bool) (cond qA (some (.inr false)) (cond (lo7 != 0) (some (.inr true)) (cond (hi8 != 0) (some (.inr true)) (some (.inr false))))) (fun qJ => sbind (ο := Bool) (cond qJ (some (.inr true)) (cond (k5 != 5) (cond (k5 != 9) (cond (!(p9.toList == (⟨#[]⟩ : BA).toList)) (some (.inr true)) (some (.inr false))) (some (.inr false))) (some (.inr false)))) (fun qK => sbind (ο := Bool) (cond qK (some (.inr true)) (cond (decide (((psB.length : Nat) : Int) > 0)) (some (.inr true)) (some (.inr false)))) (fun qM => sbind (ο := Bool) (cond qM (some (.inr true)) (cond (k5 != 10) (cond (!(m6.toList == (⟨#[]⟩ : BA).toList)) (some (.inr true)) (some (.inr false))) (some (.inr false)))) (fun qN => some qN)))))) (sbind (ο := Bool) (cond qA (some (.inr false)) (cond (lo7 != 0) (some (.inr true)) (cond (hi8 != 0) (some (.inr true)) (some (.inr false))))) (fun qO => sbind (ο := Bool) (cond qO (some (.inr true)) (cond (k5 != 5) (cond (k5 != 9) (cond (!(p9.toList == (⟨#[]⟩ : BA).toList)) (some (.inr true)) (some (.inr false))) (some (.inr false))) (some (.inr false)))) (fun qP => sbind (ο := Bool) (cond qP (some (.inr true)) (cond (decide (((psB.length : Nat) : Int) > 0)) (some (.inr true)) (some (.inr false)))) (fun qQ => sbind (ο := Bool) (cond qQ (some (.inr true)) (cond (k5 != 10) (cond (!(m6.toList == (⟨#[]⟩ : BA).toList)) (some (.inr true)) (some (.inr false))) (some (.inr false)))) (fun qU => some qU)))))))))
def C166 (O : Oracle TT) (m : Tp → Option (Bool)) : Prop :=
  ∀ k5 m6 lo7 hi8 p9 psA (Q : Bool → Prop) (R : RR) (_ : ∀ qB, Q qB → R (bD qB) []) (_ : sat (m (Tp.mk k5 m6 lo7 hi8 p9 psA)) Q), O 166 [.agg [ci k5, .str m6, ci lo7, ci hi8, .str p9, .isl .part psA]] [] R
def j166 : Fn TT := ⟨83, [.t 2], (sr [qo 1 (.box 1 0),qm 2 bF] (.seq (.regc [([qo 5 (.fa 1 0),qo 6 (ld 5),qo 7 (.bin .eql .num 6 (iC 1)),qm 8 7,qf 8 9 (.fa 1 0),qf 8 10 (ld 9),qf 8 11 (.bin .eql .num 10 (iC 2)),qo 12 (.pick 8 bT 11)], [1, 12], [(.s 1)]), ([qm 13 12,qf 13 14 (.fa 1 0),qf 13 15 (ld 14),
 qf 13 16 (.bin .eql .num 15 (iC 4)),qo 17 (.pick 13 bT 16)], [1, 17], [(.s 1)]), ([qm 18 17,qf 18 19 (.fa 1 0),qf 18 20 (ld 19),qf 18 21 (.bin .eql .num 20 (iC 8)),qo 22 (.pick 18 bT 21)], [1, 22], [(.s 1)]), ([qm 23 22,qf 23 24 (.fa 1 0),qf 23 25 (ld 24),qf 23 26 (.bin .eql .num 25 (iC 9)),qo 27 (.pick 23 bT 26)], [1, 27], [(.s 1)])] [qm 3 27])
 (sr [qo 28 (.fa 1 0),qo 29 (ld 28),qo 30 (.bin .geq .num 29 (iC 6)),qm 31 30,qg 31 32 (.fa 1 0),qg 31 33 (ld 32),qg 31 34 (.bin .leq .num 33 (iC 9)),qo 35 (.pick 31 34 bF),qm 4 35] (.seq (.regc [([qm 36 3,qo 37 (.un .not 36),qm 38 37,qg 38 39 (.fa 1 2),qg 38 40 (ld 39),qg 38 41 (.bin .neq .num 40 (iC 0)),
 qg 38 42 (.mv 41),qf 42 43 (.fa 1 3),qf 42 44 (ld 43),qf 42 45 (.bin .neq .num 44 (iC 0)),qg 38 46 (.pick 42 bT 45),qo 47 (.pick 38 46 bF)], [1, 4, 47], [(.s 1)]), ([qm 48 47,qf 48 49 (.fa 1 0),qf 48 50 (ld 49),qf 48 51 (.bin .neq .num 50 (iC 5)),qf 48 52 (.mv 51),qg 52 53 (.fa 1 0),qg 52 54 (ld 53),qg 52 55 (.bin .neq .num 54 (iC 9)),
 qf 48 56 (.pick 52 55 bF),qf 48 57 (.mv 56),qg 57 58 (.fa 1 4),qg 57 59 (ld 58),qg 57 60 (.bin .neq .str 59 sE),qf 48 61 (.pick 57 60 bF),qo 62 (.pick 48 bT 61)], [1, 4, 62], [(.s 1)]), ([qm 63 62,qf 63 64 (.mv 4),qf 63 65 (.un .not 64),qf 63 66 (.mv 65),qg 66 67 (.fa 1 5),qg 66 68 (ld 67),qg 66 69 (.len false 68),qg 66 70 (.bin .gtr .num 69 (iC 0)),
 qf 63 71 (.pick 66 70 bF),qo 72 (.pick 63 bT 71)], [1, 72], [(.s 1)]), ([qm 73 72,qf 73 74 (.fa 1 0),qf 73 75 (ld 74),qf 73 76 (.bin .neq .num 75 (iC 10)),qf 73 77 (.mv 76),qg 77 78 (.fa 1 1),qg 77 79 (ld 78),qg 77 80 (.bin .neq .str 79 sE),qf 73 81 (.pick 77 80 bF),qo 82 (.pick 73 bT 81)], [82], [])] [qm 2 82]) .ret))))⟩
theorem w166 {O : Oracle TT} : C166 (fun _ => vcF (S := SS) O j166) f166 := by
 intro k5 m6 lo8 hi9 pA psB Q R hQ h
 unfold f166 at h
 refine ⟨nle rfl, rfl, ?_⟩
 obtain ⟨RE, h, aE, bE⟩ := sc h
 refine kX (fun σ => ∃ qG, RE (.inr qG) ∧ σ = ⟨[pT 1, (12, bD qG)], [eV (.s 1) [ci k5, .str m6, ci lo8, ci hi9, .str pA, .isl .part psB]]⟩) ?_ ?_
 refine kc h ?_ ?_ <;> intro h
 refine kc h ?_ ?_ <;> intro h
 conv => whnf
 exact ⟨false, ss h, rfl⟩
 conv => whnf
 exact ⟨true, ss h, rfl⟩
 conv => whnf
 exact ⟨true, ss h, rfl⟩
 rintro _ ⟨qG, h, rfl⟩
 replace h := bE _ h
 obtain ⟨RH, h, aH, bH⟩ := sc h
 refine kX (fun σ => ∃ qI, RH (.inr qI) ∧ σ = ⟨[pT 1, (17, bD qI)], [eV (.s 1) [ci k5, .str m6, ci lo8, ci hi9, .str pA, .isl .part psB]]⟩) ?_ ?_
 cases qG
 replace h := cf h
 refine kc h ?_ ?_ <;> intro h
 conv => whnf
 exact ⟨false, ss h, rfl⟩
 conv => whnf
 exact ⟨true, ss h, rfl⟩
 replace h := ct h
 conv => whnf
 exact ⟨true, ss h, rfl⟩
 rintro _ ⟨qI, h, rfl⟩
 replace h := bH _ h
 obtain ⟨RJ, h, aJ, bJ⟩ := sc h
 refine kX (fun σ => ∃ qK, RJ (.inr qK) ∧ σ = ⟨[pT 1, (22, bD qK)], [eV (.s 1) [ci k5, .str m6, ci lo8, ci hi9, .str pA, .isl .part psB]]⟩) ?_ ?_
 cases qI
 replace h := cf h
 refine kc h ?_ ?_ <;> intro h
 conv => whnf
 exact ⟨false, ss h, rfl⟩
 conv => whnf
 exact ⟨true, ss h, rfl⟩
 replace h := ct h
 conv => whnf
 exact ⟨true, ss h, rfl⟩
 rintro _ ⟨qK, h, rfl⟩
 replace h := bJ _ h
 obtain ⟨RM, h, aM, bM⟩ := sc h
 refine kX (fun σ => ∃ qC, RM (.inr qC) ∧ σ = ⟨[pT 1, (27, bD qC)], [eV (.s 1) [ci k5, .str m6, ci lo8, ci hi9, .str pA, .isl .part psB]]⟩) ?_ ?_
 cases qK
 replace h := cf h
 refine kc h ?_ ?_ <;> intro h
 conv => whnf
 exact ⟨false, ss h, rfl⟩
 conv => whnf
 exact ⟨true, ss h, rfl⟩
 replace h := ct h
 conv => whnf
 exact ⟨true, ss h, rfl⟩
 rintro _ ⟨qC, h, rfl⟩
 replace h := bM _ h
 refine kc h ?_ ?_ <;> intro h
 obtain ⟨RN, h, aN, bN⟩ := sc h
 refine kX (fun σ => ∃ qO, RN (.inr qO) ∧ σ = ⟨[pT 1, (4, bD false), (47, bD qO)], [eV (.s 1) [ci k5, .str m6, ci lo8, ci hi9, .str pA, .isl .part psB]]⟩) ?_ ?_
 cases qC
 replace h := cf h
 refine kc h ?_ ?_ <;> intro h
 refine kc h ?_ ?_ <;> intro h
 conv => whnf
 exact ⟨false, ss h, rfl⟩
 conv => whnf
 exact ⟨true, ss h, rfl⟩
 conv => whnf
 exact ⟨true, ss h, rfl⟩
 replace h := ct h
 conv => whnf
 exact ⟨false, ss h, rfl⟩
 rintro _ ⟨qO, h, rfl⟩
 replace h := bN _ h
 obtain ⟨RP, h, aP, bP⟩ := sc h
 refine kX (fun σ => ∃ qQ, RP (.inr qQ) ∧ σ = ⟨[pT 1, (4, bD false), (62, bD qQ)], [eV (.s 1) [ci k5, .str m6, ci lo8, ci hi9, .str pA, .isl .part psB]]⟩) ?_ ?_
 cases qO
 replace h := cf h
 refine kc h ?_ ?_ <;> intro h
 conv => whnf
 exact ⟨false, ss h, rfl⟩
 refine kc h ?_ ?_ <;> intro h
 conv => whnf
 exact ⟨false, ss h, rfl⟩
 refine kc h ?_ ?_ <;> intro h
 conv => whnf
 exact ⟨false, ss h, rfl⟩
 conv => whnf
 exact ⟨true, ss h, rfl⟩
 replace h := ct h
 conv => whnf
 exact ⟨true, ss h, rfl⟩
 rintro _ ⟨qQ, h, rfl⟩
 replace h := bP _ h
 obtain ⟨RU, h, aU, bU⟩ := sc h
 refine kX (fun σ => ∃ qV, RU (.inr qV) ∧ σ = ⟨[pT 1, (72, bD qV)], [eV (.s 1) [ci k5, .str m6, ci lo8, ci hi9, .str pA, .isl .part psB]]⟩) ?_ ?_
 cases qQ
 replace h := cf h
 intro hl0F
 refine kc h ?_ ?_ <;> intro h
 conv => whnf
 exact ⟨false, ss h, rfl⟩
 conv => whnf
 exact ⟨true, ss h, rfl⟩
 replace h := ct h
 conv => whnf
 exact ⟨true, ss h, rfl⟩
 rintro _ ⟨qV, h, rfl⟩
 replace h := bU _ h
 obtain ⟨RW, h, aW, bW⟩ := sc h
 refine kX (fun σ => ∃ q0C, RW (.inr q0C) ∧ σ = ⟨[(82, bD q0C)], []⟩) ?_ ?_
 cases qV
 replace h := cf h
 refine kc h ?_ ?_ <;> intro h
 conv => whnf
 exact ⟨false, ss h, rfl⟩
 refine kc h ?_ ?_ <;> intro h
 conv => whnf
 exact ⟨false, ss h, rfl⟩
 conv => whnf
 exact ⟨true, ss h, rfl⟩
 replace h := ct h
 conv => whnf
 exact ⟨true, ss h, rfl⟩
 rintro _ ⟨q0C, h, rfl⟩
 replace h := bW _ h
 exact kR [] (ND 0) (hQ _ (ss h))
 refine kc h ?_ ?_ <;> intro h
 obtain ⟨RY, h, aY, bY⟩ := sc h
 refine kX (fun σ => ∃ qZ, RY (.inr qZ) ∧ σ = ⟨[pT 1, (4, bD false), (47, bD qZ)], [eV (.s 1) [ci k5, .str m6, ci lo8, ci hi9, .str pA, .isl .part psB]]⟩) ?_ ?_
 cases qC
 replace h := cf h
 refine kc h ?_ ?_ <;> intro h
 refine kc h ?_ ?_ <;> intro h
 conv => whnf
 exact ⟨false, ss h, rfl⟩
 conv => whnf
 exact ⟨true, ss h, rfl⟩
 conv => whnf
 exact ⟨true, ss h, rfl⟩
 replace h := ct h
 conv => whnf
 exact ⟨false, ss h, rfl⟩
 rintro _ ⟨qZ, h, rfl⟩
 replace h := bY _ h
 obtain ⟨R00, h, a00, b00⟩ := sc h
 refine kX (fun σ => ∃ q01, R00 (.inr q01) ∧ σ = ⟨[pT 1, (4, bD false), (62, bD q01)], [eV (.s 1) [ci k5, .str m6, ci lo8, ci hi9, .str pA, .isl .part psB]]⟩) ?_ ?_
 cases qZ
 replace h := cf h
 refine kc h ?_ ?_ <;> intro h
 conv => whnf
 exact ⟨false, ss h, rfl⟩
 refine kc h ?_ ?_ <;> intro h
 conv => whnf
 exact ⟨false, ss h, rfl⟩
 refine kc h ?_ ?_ <;> intro h
 conv => whnf
 exact ⟨false, ss h, rfl⟩
 conv => whnf
 exact ⟨true, ss h, rfl⟩
 replace h := ct h
 conv => whnf
 exact ⟨true, ss h, rfl⟩
 rintro _ ⟨q01, h, rfl⟩
 replace h := b00 _ h
 obtain ⟨R02, h, a02, b02⟩ := sc h
 refine kX (fun σ => ∃ q03, R02 (.inr q03) ∧ σ = ⟨[pT 1, (72, bD q03)], [eV (.s 1) [ci k5, .str m6, ci lo8, ci hi9, .str pA, .isl .part psB]]⟩) ?_ ?_
 cases q01
 replace h := cf h
 intro hl0G
 refine kc h ?_ ?_ <;> intro h
 conv => whnf
 exact ⟨false, ss h, rfl⟩
 conv => whnf
 exact ⟨true, ss h, rfl⟩
 replace h := ct h
 conv => whnf
 exact ⟨true, ss h, rfl⟩
 rintro _ ⟨q03, h, rfl⟩
 replace h := b02 _ h
 obtain ⟨R04, h, a04, b04⟩ := sc h
 refine kX (fun σ => ∃ q0D, R04 (.inr q0D) ∧ σ = ⟨[(82, bD q0D)], []⟩) ?_ ?_
 cases q03
 replace h := cf h
 refine kc h ?_ ?_ <;> intro h
 conv => whnf
 exact ⟨false, ss h, rfl⟩
 refine kc h ?_ ?_ <;> intro h
 conv => whnf
 exact ⟨false, ss h, rfl⟩
 conv => whnf
 exact ⟨true, ss h, rfl⟩
 replace h := ct h
 conv => whnf
 exact ⟨true, ss h, rfl⟩
 rintro _ ⟨q0D, h, rfl⟩
 replace h := b04 _ h
 exact kR [] (ND 0) (hQ _ (ss h))
 obtain ⟨R05, h, a05, b05⟩ := sc h
 refine kX (fun σ => ∃ q06, R05 (.inr q06) ∧ σ = ⟨[pT 1, (4, bD true), (47, bD q06)], [eV (.s 1) [ci k5, .str m6, ci lo8, ci hi9, .str pA, .isl .part psB]]⟩) ?_ ?_
 cases qC
 replace h := cf h
 refine kc h ?_ ?_ <;> intro h
 refine kc h ?_ ?_ <;> intro h
 conv => whnf
 exact ⟨false, ss h, rfl⟩
 conv => whnf
 exact ⟨true, ss h, rfl⟩
 conv => whnf
 exact ⟨true, ss h, rfl⟩
 replace h := ct h
 conv => whnf
 exact ⟨false, ss h, rfl⟩
 rintro _ ⟨q06, h, rfl⟩
 replace h := b05 _ h
 obtain ⟨R07, h, a07, b07⟩ := sc h
 refine kX (fun σ => ∃ q08, R07 (.inr q08) ∧ σ = ⟨[pT 1, (4, bD true), (62, bD q08)], [eV (.s 1) [ci k5, .str m6, ci lo8, ci hi9, .str pA, .isl .part psB]]⟩) ?_ ?_
 cases q06
 replace h := cf h
 refine kc h ?_ ?_ <;> intro h
 conv => whnf
 exact ⟨false, ss h, rfl⟩
 refine kc h ?_ ?_ <;> intro h
 conv => whnf
 exact ⟨false, ss h, rfl⟩
 refine kc h ?_ ?_ <;> intro h
 conv => whnf
 exact ⟨false, ss h, rfl⟩
 conv => whnf
 exact ⟨true, ss h, rfl⟩
 replace h := ct h
 conv => whnf
 exact ⟨true, ss h, rfl⟩
 rintro _ ⟨q08, h, rfl⟩
 replace h := b07 _ h
 obtain ⟨R09, h, a09, b09⟩ := sc h
 refine kX (fun σ => ∃ q0A, R09 (.inr q0A) ∧ σ = ⟨[pT 1, (72, bD q0A)], [eV (.s 1) [ci k5, .str m6, ci lo8, ci hi9, .str pA, .isl .part psB]]⟩) ?_ ?_
 cases q08
 replace h := cf h
 conv => whnf
 exact ⟨false, ss h, rfl⟩
 replace h := ct h
 conv => whnf
 exact ⟨true, ss h, rfl⟩
 rintro _ ⟨q0A, h, rfl⟩
 replace h := b09 _ h
 obtain ⟨R0B, h, a0B, b0B⟩ := sc h
 refine kX (fun σ => ∃ q0E, R0B (.inr q0E) ∧ σ = ⟨[(82, bD q0E)], []⟩) ?_ ?_
 cases q0A
 replace h := cf h
 refine kc h ?_ ?_ <;> intro h
 conv => whnf
 exact ⟨false, ss h, rfl⟩
 refine kc h ?_ ?_ <;> intro h
 conv => whnf
 exact ⟨false, ss h, rfl⟩
 conv => whnf
 exact ⟨true, ss h, rfl⟩
 replace h := ct h
 conv => whnf
 exact ⟨true, ss h, rfl⟩
 rintro _ ⟨q0E, h, rfl⟩
 replace h := b0B _ h
 exact kR [] (ND 0) (hQ _ (ss h))
def f172 : (BA × Tp) → BA → Int → BA → Int → Int → BA → PT → Option (Bool)
  | (a5, .mk k7 m8 lo9 hiA pB psC), s6, vF, sG, vH, vI, sJ, lK => cond (a5.toList == s6.toList) (some true) (some false)
def C172 (O : Oracle TT) (m : (BA × Tp) → BA → Int → BA → Int → Int → BA → PT → Option (Bool)) : Prop :=
  ∀ aC kF mG loH hiI pJ psK s5 v6 s7 v8 v9 sA lB (Q : Bool → Prop) (R : RR) (_ : ∀ qM, Q qM → R (bD qM) [eV (.x 0) [.str s5, ci v6, .str s7, ci v8, ci v9, .str sA, .isl .part lB]]) (_ : sat (m (aC, (Tp.mk kF mG loH hiI pJ psK)) s5 v6 s7 v8 v9 sA lB) Q), O 172 [.agg [.str aC, ci kF, .str mG, ci loH, ci hiI, .str pJ, .isl .part psK], pX 0] [eV (.x 0) [.str s5, ci v6, .str s7, ci v8, ci v9, .str sA, .isl .part lB]] R
def j172 : Fn TT := ⟨9, [.t 3], (sr [qo 2 (.box 2 0),qm 3 bF] (sr [qo 4 (.fa 2 0),qo 5 (ld 4),qo 6 (.fa 1 0),qo 7 (ld 6),qo 8 (.bin .eql .str 5 7),qm 3 8] .ret))⟩
theorem w172 {O : Oracle TT} : C172 (fun _ => vcF (S := SS) O j172) f172 := by
 intro a5 k6 m7 lo8 hi9 pA psB sC vF sG vH vI sJ lK Q R hQ h
 unfold f172 at h
 refine ⟨nle rfl, rfl, ?_⟩
 refine kc h ?_ ?_ <;> intro h
 exact kR [] (ND 1) (hQ _ (ss h))
 exact kR [] (ND 1) (hQ _ (ss h))
def f175_L2 (s6 : BA) (v7 : Int) (s8 : BA) (v9 : Int) (vA : Int) (sB : BA) (lC : PT) : PT → Nat → Option (Sum (Int) (Unit))
  | [], j5 => some (.inr ())
  | ((aF, .mk kG mH loI hiJ pK psM)) :: tlN, j5 => (f172 (aF, (Tp.mk kG mH loI hiJ pK psM)) s6 v7 s8 v9 vA sB lC).bind fun qO => cond qO (lft (some ((j5 : Nat) : Int))) (f175_L2 s6 v7 s8 v9 vA sB lC tlN (j5 + 1))
def f175 : PT → BA → Int → BA → Int → Int → BA → PT → Option (Int)
  | l5, s6, v7, s8, v9, vA, sB, lC => sbind (ο := Unit) (f175_L2 s6 v7 s8 v9 vA sB lC l5 0) (fun () => some (-1))
def C175 (O : Oracle TT) (m : PT → BA → Int → BA → Int → Int → BA → PT → Option (Int)) : Prop :=
  ∀ lC s5 v6 s7 v8 v9 sA lB (Q : Int → Prop) (R : RR) (_ : ∀ vF, Q vF → R (iD vF) [eV (.x 0) [.str s5, ci v6, .str s7, ci v8, ci v9, .str sA, .isl .part lB]]) (_ : sat (m lC s5 v6 s7 v8 v9 sA lB) Q), O 175 [.c (.isl .part lC), .c (.fn 172 [(.x 0)])] [eV (.x 0) [.str s5, ci v6, .str s7, ci v8, ci v9, .str sA, .isl .part lB]] R
def j175 : Fn TT := ⟨19, [.t 4], (sr [qo 4 (.mv (iC 0))] (.cut [] [(.x 0)] (sr [qm 6 0,qo 7 (.len false 6),qo 8 (.mv (iC 0))] (.block 0 (.loop (.keep [0, 1, 7, 8] [(.x 0)] (.aft (sr [qo 9 (.bin .lss .num 8 7)] (.seq (.cond 9 .skip (.exit 0)) (.seq (.block 1 (sr [qm 10 8,qm 5 10] (sr [qm 11 1,qm 12 0,
 qm 13 5,qo 14 (.idxA 12 13 7),qo 15 (.load 14 7 true),qo 16 (.callv 16 11 [15])] (.cond 16 (sr [qm 17 5,qm 4 17] .ret) .skip)))) (.reg [qo 18 (.bin .add .num 8 (iC 1)),qm 8 18])))) [.keep [0, 1, 7, 8] [(.x 0)]]))))) (sr [qo 4 (.mv (iC (-1)))] .ret)))⟩
theorem w175 {O : Oracle TT} (h172 : C172 O f172) : C175 (fun _ => vcF (S := SS) O j175) f175 := by
 intro l9 sG vH sI vJ vK sM lN Q R hQ h
 unfold f175 at h
 refine ⟨nle rfl, rfl, ?_⟩
 obtain ⟨R6, h, a6, b6⟩ := sc h
 refine kX (fun σ => R6 (.inr ()) ∧ σ = ⟨[], [eV (.x 0) [.str sG, ci vH, .str sI, ci vJ, ci vK, .str sM, .isl .part lN]]⟩) ?_ ?_
 intro hlP
 refine kX (fun σ n => ∃ (rem5 : PT) (j8 : Nat) (z : Int), n = rem5.length ∧ l9.drop j8 = rem5 ∧ z = ((j8 : Nat) : Int) ∧ sat (f175_L2 sG vH sI vJ vK sM lN rem5 j8) R6 ∧ σ.keep [0, 1, 7, 8] [(.x 0)] = ⟨[(0, .c (.isl .part l9)), (1, .c (.fn 172 [(.x 0)])), (7, iD ((l9.length : Nat) : Int)), (8, iD z)], [eV (.x 0) [.str sG, ci vH, .str sI, ci vJ, ci vK, .str sM, .isl .part lN]]⟩) ⟨_, l9, 0, _, rfl, rfl, rfl, h, rfl⟩ ?_
 rintro σ n ⟨rem5, j8, _, rfl, hrem5, rfl, h, hσ⟩
 refine kk hσ ?_
 intro tA (htA : tA = decide (((j8 : Nat) : Int) < ((l9.length : Nat) : Int)))
 cases tA
 obtain rfl := ll_nil hrem5 htA
 rw [f175_L2] at h
 conv => whnf
 exact ⟨ss h, rfl⟩
 obtain ⟨xB, tlC, rfl, hxB, htlC⟩ := ll_cons hrem5 htA
 obtain ⟨aU, ⟨kV, mW, loY, hiZ, p00, ps01⟩⟩ := xB
 rw [f175_L2] at h
 conv => whnf
 refine ⟨lx_bd hxB, fun uuO huuO => ?_⟩
 obtain rfl := lx_eq hxB huuO
 refine kL [(.x 0)] (h172 _ _ _ _ _ _ _ _ _ _ _ _ _ _ _ _ ?_ (sb h))
 rintro qQ h
 cases qQ
 replace h := cf h
 conv => whnf
 exact ⟨tlC.length, nls, tlC, j8 + 1, _, rfl, htlC, lx_wr hxB hlP, h, rfl⟩
 replace h := ct h
 replace h := sat_lft a6 h
 exact kR [] (ND 1) (hQ _ (ss h))
 rintro _ ⟨h, rfl⟩
 replace h := b6 _ h
 exact kR [] (ND 1) (hQ _ (ss h))
def f171 : PT → BA → Int → BA → Int → Int → BA → PT → Option (Bool)
  | l5, s6, v7, s8, v9, vA, sB, lC => (f175 l5 s6 v7 s8 v9 vA sB lC).bind fun vF => cond (decide (vF ≥ 0)) (some true) (some false)
def C171 (O : Oracle TT) (m : PT → BA → Int → BA → Int → Int → BA → PT → Option (Bool)) : Prop :=
  ∀ lC s5 v6 s7 v8 v9 sA lB (Q : Bool → Prop) (R : RR) (_ : ∀ qF, Q qF → R (bD qF) [eV (.x 0) [.str s5, ci v6, .str s7, ci v8, ci v9, .str sA, .isl .part lB]]) (_ : sat (m lC s5 v6 s7 v8 v9 sA lB) Q), O 171 [.c (.isl .part lC), .c (.fn 172 [(.x 0)])] [eV (.x 0) [.str s5, ci v6, .str s7, ci v8, ci v9, .str sA, .isl .part lB]] R
def j171 : Fn TT := ⟨9, [.t 4], (sr [qm 4 bF] (sr [qm 5 0,qm 6 1,qo 7 (.call 7 175 [5, 6]),qo 8 (.bin .geq .num 7 (iC 0)),qm 4 8] .ret))⟩
theorem w171 {O : Oracle TT} (h175 : C175 O f175) : C171 (fun _ => vcF (S := SS) O j171) f171 := by
 intro l5 s6 v7 s8 v9 vA sB lC Q R hQ h
 unfold f171 at h
 refine ⟨nle rfl, rfl, ?_⟩
 refine kL [(.x 0)] (h175 _ _ _ _ _ _ _ _ _ _ ?_ (sb h))
 rintro vF h
 refine kc h ?_ ?_ <;> intro h
 exact kR [] (ND 1) (hQ _ (ss h))
 exact kR [] (ND 1) (hQ _ (ss h))
def f167_L3 (ps6 : PT) : PT → Nat → Option (Sum (Int) (Unit))
  | [], j5 => some (.inr ())
  | ((a7, .mk k8 m9 loA hiB pC psD)) :: tlE, j5 => (f132 a7).bind fun qF => cond qF (grdP ((0 : Int) ≤ ((j5 : Nat) : Int) ∧ 0 ≤ ((j5 : Nat) : Int).toNat ∧ ((j5 : Nat) : Int).toNat ≤ ps6.length) ((f171 ((ps6.drop 0).take (((j5 : Nat) : Int).toNat - 0)) a7 k8 m9 loA hiB pC psD).bind fun qG => cond qG (lft (some 5)) (f167_L3 ps6 tlE (j5 + 1)))) (lft (some 15))
def f167_L4 (ps6 : PT) : PT → Nat → Option (Sum (Int) (Unit))
  | [], j5 => some (.inr ())
  | ((a7, .mk k8 m9 loA hiB pC psD)) :: tlE, j5 => (f132 a7).bind fun qF => cond qF (grdP ((0 : Int) ≤ ((j5 : Nat) : Int) ∧ 0 ≤ ((j5 : Nat) : Int).toNat ∧ ((j5 : Nat) : Int).toNat ≤ ps6.length) ((f171 ((ps6.drop 0).take (((j5 : Nat) : Int).toNat - 0)) a7 k8 m9 loA hiB pC psD).bind fun qG => cond qG (lft (some 5)) (f167_L4 ps6 tlE (j5 + 1)))) (lft (some 15))
def f167 : Tp → Option (Int)
  | .mk k6 mB loC hiD pE ps5 => sbind (ο := Unit) (sbind (ο := Bool) (cond (k6 == 8) (some (.inr true)) (cond (k6 == 9) (some (.inr true)) (some (.inr false)))) (fun q7 => cond q7 (cond (((ps5.length : Nat) : Int) != 1) (lft (some 3)) (getL ps5 0 fun uu8 => match uu8 with | (a9, .mk kF mG loH hiI pJ psK) => cond (!(a9.toList == (⟨#[]⟩ : BA).toList)) (lft (some 3)) (some (.inr ())))) (sbind (ο := Bool) (cond (k6 == 6) (some (.inr true)) (cond (k6 == 7) (some (.inr true)) (some (.inr false)))) (fun qA => cond qA (cond (decide (((ps5.length : Nat) : Int) > 24)) (lft (some 2)) (cond (k6 == 7) (cond (((ps5.length : Nat) : Int) == 0) (lft (some 3)) (f167_L4 ps5 ps5 0)) (f167_L3 ps5 ps5 0))) (some (.inr ())))))) (fun () => some 0)
def C167 (O : Oracle TT) (m : Tp → Option (Int)) : Prop :=
  ∀ k5 m6 lo7 hi8 p9 psA (Q : Int → Prop) (R : RR) (_ : ∀ vB, Q vB → R (iD vB) []) (_ : sat (m (Tp.mk k5 m6 lo7 hi8 p9 psA)) Q), O 167 [.agg [ci k5, .str m6, ci lo7, ci hi8, .str p9, .isl .part psA]] [] R
def j167 : Fn TT := ⟨55, [.t 2], (sr [qo 1 (.box 1 0),qo 2 (.mv (iC 0))] (sr [qo 6 (.fa 1 5),qo 7 (ld 6),qo 8 (.len false 7),qm 3 8] (.cut [] [] (sr [qo 9 (.fa 1 0),qo 10 (ld 9)] (.block 0 (.cut [1, 3, 10, 11] [(.s 1)] (sr [qo 12 (.bin .eql .num 10 (iC 8)),qm 11 12] (.cond 11 .skip
 (.reg [qo 13 (.bin .eql .num 10 (iC 9)),qm 11 13]))) (.cond 11 (sr [qm 14 3,qo 15 (.bin .neq .num 14 (iC 1)),qm 16 15,qf 16 17 (.fa 1 5),qf 16 18 (ld 17),qf 16 19 (.idxA 18 (iC 0) 7),qf 16 20 (.fa 19 0),qf 16 21 (ld 20),qf 16 22 (.bin .neq .str 21 sE),qo 23 (.pick 16 bT 22)] (.cond 23 (sr [qo 2 (.mv (iC 3))] .ret) .skip))
 (.cut [1, 3, 24] [(.s 1)] (sr [qo 25 (.bin .eql .num 10 (iC 6)),qm 24 25] (.cond 24 .skip (.reg [qo 26 (.bin .eql .num 10 (iC 7)),qm 24 26]))) (.cond 24 (.seq (sr [qm 27 3,qo 28 (.bin .gtr .num 27 (iC 24))] (.cond 28 (sr [qo 2 (.mv (iC 2))] .ret) .skip)) (.seq (sr [qo 29 (.fa 1 0),qo 30 (ld 29),qo 31 (.bin .eql .num 30 (iC 7)),
 qm 32 31,qg 32 33 (.mv 3),qg 32 34 (.bin .eql .num 33 (iC 0)),qo 35 (.pick 32 34 bF)] (.cond 35 (sr [qo 2 (.mv (iC 3))] .ret) .skip)) (sr [qo 36 (.fa 1 5),qo 37 (ld 36),qo 38 (.len false 37),qo 39 (.mv (iC 0))] (.block 1 (.loop (.keep [1, 37, 38, 39] [(.s 1)] (.aft (sr [qo 40 (.bin .lss .num 39 38)] (.seq (.cond 40 .skip (.exit 1)) (.seq (.block 2
 (sr [qm 41 39,qo 42 (.idxA 37 39 7),qo 43 (.load 42 7 true),qo 5 (.alloc 5 zPt),qm 4 41,qp (.store 5 43 7)] (.seq (sr [qo 44 (.fa 5 0),qo 45 (ld 44),qo 46 (.call 46 132 [45]),qo 47 (.un .not 46)] (.cond 47 (sr [qo 2 (.mv (iC 15))] .ret) .skip)) (sr [qo 48 (.fa 1 5),qo 49 (ld 48),qm 50 4,
 qo 51 (.slc 7 49 none (some 50)),qo 52 (.mkf 172 [5]),qo 53 (.call 53 171 [51, 52])] (.cond 53 (sr [qo 2 (.mv (iC 5))] .ret) .skip))))) (.reg [qo 54 (.bin .add .num 39 (iC 1)),qm 39 54])))) [.keep [1, 37, 38, 39] [(.s 1)]]))))))) .skip)))))) (sr [qo 2 (.mv (iC 0))] .ret))))⟩
theorem w167 {O : Oracle TT} (h132 : C132 O f132) (h171 : C171 O f171) : C167 (fun _ => vcF (S := SS) O j167) f167 := by
 intro kC mJ loK hiM pN ps5 Q R hQ h
 unfold f167 at h
 refine ⟨nle rfl, rfl, ?_⟩
 intro hl0B
 obtain ⟨R6, h, a6, b6⟩ := sc h
 refine kX (fun σ => R6 (.inr ()) ∧ σ = ⟨[], []⟩) ?_ ?_
 obtain ⟨RO, h, aO, bO⟩ := sc h
 refine kX (fun σ => ∃ qP, RO (.inr qP) ∧ σ = ⟨[pT 1, (3, iD ((ps5.length : Nat) : Int)), (10, iD kC), (11, bD qP)], [eV (.s 1) [ci kC, .str mJ, ci loK, ci hiM, .str pN, .isl .part ps5]]⟩) ?_ ?_
 refine kc h ?_ ?_ <;> intro h
 refine kc h ?_ ?_ <;> intro h
 conv => whnf
 exact ⟨false, ss h, rfl⟩
 conv => whnf
 exact ⟨true, ss h, rfl⟩
 conv => whnf
 exact ⟨true, ss h, rfl⟩
 rintro _ ⟨qP, h, rfl⟩
 replace h := bO _ h
 cases qP
 replace h := cf h
 obtain ⟨RQ, h, aQ, bQ⟩ := sc h
 refine kX (fun σ => ∃ qU, RQ (.inr qU) ∧ σ = ⟨[pT 1, (3, iD ((ps5.length : Nat) : Int)), (24, bD qU)], [eV (.s 1) [ci kC, .str mJ, ci loK, ci hiM, .str pN, .isl .part ps5]]⟩) ?_ ?_
 refine kc h ?_ ?_ <;> intro h
 refine kc h ?_ ?_ <;> intro h
 conv => whnf
 exact ⟨false, ss h, rfl⟩
 conv => whnf
 exact ⟨true, ss h, rfl⟩
 conv => whnf
 exact ⟨true, ss h, rfl⟩
 rintro _ ⟨qU, h, rfl⟩
 replace h := bQ _ h
 cases qU
 replace h := cf h
 conv => whnf
 exact ⟨ss h, rfl⟩
 replace h := ct h
 refine kc h ?_ ?_ <;> intro h
 refine kc h ?_ ?_ <;> intro h
 intro hl01
 refine kX (fun σ n => ∃ (rem8 : PT) (jA : Nat) (z : Int), n = rem8.length ∧ ps5.drop jA = rem8 ∧ z = ((jA : Nat) : Int) ∧ sat (f167_L3 ps5 rem8 jA) R6 ∧ σ.keep [1, 37, 38, 39] [(.s 1)] = ⟨[pT 1, (37, .c (.isl .part ps5)), (38, iD ((ps5.length : Nat) : Int)), (39, iD z)], [eV (.s 1) [ci kC, .str mJ, ci loK, ci hiM, .str pN, .isl .part ps5]]⟩) ⟨_, ps5, 0, _, rfl, rfl, rfl, h, rfl⟩ ?_
 rintro σ n ⟨rem8, jA, _, rfl, hrem8, rfl, h, hσ⟩
 refine kk hσ ?_
 intro tE (htE : tE = decide (((jA : Nat) : Int) < ((ps5.length : Nat) : Int)))
 cases tE
 obtain rfl := ll_nil hrem8 htE
 rw [f167_L3] at h
 conv => whnf
 exact ⟨ss h, rfl⟩
 obtain ⟨xG, tlV, rfl, hxG, htlV⟩ := ll_cons hrem8 htE
 obtain ⟨a0C, ⟨k0D, m0E, lo0F, hi0G, p0H, ps0I⟩⟩ := xG
 rw [f167_L3] at h
 conv => whnf
 refine ⟨lx_bd hxG, fun uuY huuY => ?_⟩
 obtain rfl := lx_eq hxG huuY
 refine kL [] (h132 _ _ _ ?_ (sb h))
 rintro q02 h
 cases q02
 replace h := cf h
 replace h := sat_lft a6 h
 exact kR [] (ND 0) (hQ _ (ss h))
 replace h := ct h
 conv => whnf
 obtain ⟨⟨hb03, hb04⟩, h⟩ := sat_grdP h
 refine ⟨hb03, ?_⟩
 conv => whnf
 refine ⟨hb04, ?_⟩
 refine kL [(.s 5)] (h171 _ _ _ _ _ _ _ _ _ _ ?_ (sb h))
 rintro q05 h
 cases q05
 replace h := cf h
 conv => whnf
 exact ⟨tlV.length, nls, tlV, jA + 1, _, rfl, htlV, lx_wr hxG hl01, h, rfl⟩
 replace h := ct h
 replace h := sat_lft a6 h
 exact kR [] (ND 0) (hQ _ (ss h))
 refine kc h ?_ ?_ <;> intro h
 intro hl06
 refine kX (fun σ n => ∃ (rem9 : PT) (jB : Nat) (z : Int), n = rem9.length ∧ ps5.drop jB = rem9 ∧ z = ((jB : Nat) : Int) ∧ sat (f167_L4 ps5 rem9 jB) R6 ∧ σ.keep [1, 37, 38, 39] [(.s 1)] = ⟨[pT 1, (37, .c (.isl .part ps5)), (38, iD ((ps5.length : Nat) : Int)), (39, iD z)], [eV (.s 1) [ci kC, .str mJ, ci loK, ci hiM, .str pN, .isl .part ps5]]⟩) ⟨_, ps5, 0, _, rfl, rfl, rfl, h, rfl⟩ ?_
 rintro σ n ⟨rem9, jB, _, rfl, hrem9, rfl, h, hσ⟩
 refine kk hσ ?_
 intro tH (htH : tH = decide (((jB : Nat) : Int) < ((ps5.length : Nat) : Int)))
 cases tH
 obtain rfl := ll_nil hrem9 htH
 rw [f167_L4] at h
 conv => whnf
 exact ⟨ss h, rfl⟩
 obtain ⟨xI, tlW, rfl, hxI, htlW⟩ := ll_cons hrem9 htH
 obtain ⟨a0J, ⟨k0K, m0L, lo0M, hi0N, p0O, ps0P⟩⟩ := xI
 rw [f167_L4] at h
 conv => whnf
 refine ⟨lx_bd hxI, fun uuZ huuZ => ?_⟩
 obtain rfl := lx_eq hxI huuZ
 refine kL [] (h132 _ _ _ ?_ (sb h))
 rintro q07 h
 cases q07
 replace h := cf h
 replace h := sat_lft a6 h
 exact kR [] (ND 0) (hQ _ (ss h))
 replace h := ct h
 conv => whnf
 obtain ⟨⟨hb08, hb09⟩, h⟩ := sat_grdP h
 refine ⟨hb08, ?_⟩
 conv => whnf
 refine ⟨hb09, ?_⟩
 refine kL [(.s 5)] (h171 _ _ _ _ _ _ _ _ _ _ ?_ (sb h))
 rintro q0A h
 cases q0A
 replace h := cf h
 conv => whnf
 exact ⟨tlW.length, nls, tlW, jB + 1, _, rfl, htlW, lx_wr hxI hl06, h, rfl⟩
 replace h := ct h
 replace h := sat_lft a6 h
 exact kR [] (ND 0) (hQ _ (ss h))
 replace h := sat_lft a6 h
 exact kR [] (ND 0) (hQ _ (ss h))
 replace h := sat_lft a6 h
 exact kR [] (ND 0) (hQ _ (ss h))
 replace h := ct h
 refine kc h ?_ ?_ <;> intro h
 refine kg (sat_getL h) fun uu00 huu00 h => ?_
 obtain ⟨a0Q, ⟨k0R, m0S, lo0T, hi0U, p0V, ps0W⟩⟩ := uu00
 refine kc h ?_ ?_ <;> intro h
 conv => whnf
 exact ⟨ss h, rfl⟩
 replace h := sat_lft a6 h
 exact kR [] (ND 0) (hQ _ (ss h))
 replace h := sat_lft a6 h
 exact kR [] (ND 0) (hQ _ (ss h))
 rintro _ ⟨h, rfl⟩
 replace h := b6 _ h
 exact kR [] (ND 0) (hQ _ (ss h))
def f154 : PT → Tp → Option (Int)
  | lG, .mk k5 m8 lo6 hi7 p9 psA => (f165 k5).bind fun (vB, vC) => cond (decide (k5 < 0)) (some 3) (cond (decide (k5 > 10)) (some 3) ((f166 (Tp.mk k5 m8 lo6 hi7 p9 psA)).bind fun qE => cond qE (some 3) (cond (decide (lo6 < vB)) (some 11) (cond (decide (lo6 > hi7)) (some 11) (cond (decide (hi7 > vC)) (some 11) (cond (k5 == 5) (none) (cond (k5 == 9) (none) (cond (k5 == 10) (none) ((f167 (Tp.mk k5 m8 lo6 hi7 p9 psA)).bind fun vF => some vF)))))))))
def C154 (O : Oracle TT) (m : PT → Tp → Option (Int)) : Prop :=
  ∀ l5 k6 m7 lo8 hi9 pA psB (Q : Int → Prop) (R : RR) (_ : ∀ vC, Q vC → R (iD vC) []) (_ : sat (m l5 (Tp.mk k6 m7 lo8 hi9 pA psB)) Q), O 154 [.c (.isl .dfn l5), .agg [ci k6, .str m7, ci lo8, ci hi9, .str pA, .isl .part psB]] [] R
def j154 : Fn TT := ⟨73, [.t 4], (sr [qo 3 (.box 3 1),qo 4 (.mv (iC 0))] (sr [qo 9 (.fa 3 0),qo 10 (ld 9),qo 11 (.call 11 165 [10]),qm 8 11,qo 12 (.ext 8 0),qo 13 (.ext 8 1),qm 5 12,qm 6 13] (.seq (.block 0 (sr [qo 15 (.fa 3 0),qo 16 (ld 15),qo 17 (.bin .lss .num 16 (iC 0)),qm 18 17,qf 18 19 (.fa 3 0),
 qf 18 20 (ld 19),qf 18 21 (.bin .gtr .num 20 (iC 10)),qo 22 (.pick 18 bT 21),qm 23 22,qf 23 24 (.load 3 6 true),qf 23 25 (.call 25 166 [24]),qo 26 (.pick 23 bT 25),qm 14 26] (.cond 14 (sr [qo 4 (.mv (iC 3))] .ret) (sr [qo 28 (.fa 3 2),qo 29 (ld 28),qm 30 5,qo 31 (.bin .lss .num 29 30),qm 32 31,qf 32 33 (.fa 3 2),
 qf 32 34 (ld 33),qf 32 35 (.fa 3 3),qf 32 36 (ld 35),qf 32 37 (.bin .gtr .num 34 36),qo 38 (.pick 32 bT 37),qm 39 38,qf 39 40 (.fa 3 3),qf 39 41 (ld 40),qf 39 42 (.mv 6),qf 39 43 (.bin .gtr .num 41 42),qo 44 (.pick 39 bT 43),qm 27 44] (.cond 27 (sr [qo 4 (.mv (iC 11))] .ret) (sr [qo 46 (.fa 3 0),qo 47 (ld 46),
 qo 48 (.bin .eql .num 47 (iC 5)),qm 49 48,qf 49 50 (.fa 3 0),qf 49 51 (ld 50),qf 49 52 (.bin .eql .num 51 (iC 9)),qo 53 (.pick 49 bT 52),qm 45 53] (.cond 45 .dead (sr [qo 61 (.fa 3 0),qo 62 (ld 61),qo 63 (.bin .eql .num 62 (iC 10)),qm 64 63,qg 64 65 (.mv 0),qg 64 66 (.fa 3 1),qg 64 67 (ld 66),qg 64 68 (.call 68 107 [65, 67]),
 qg 64 69 (.bin .lss .num 68 (iC 0)),qo 70 (.pick 64 69 bF),qm 60 70] (.cond 60 (sr [qo 4 (.mv (iC 15))] .ret) .skip))))))))) (sr [qo 71 (.load 3 6 true),qo 72 (.call 72 167 [71]),qm 4 72] .ret))))⟩
theorem w154 {O : Oracle TT} (h165 : C165 O f165) (h166 : C166 O f166) (h167 : C167 O f167) : C154 (fun _ => vcF (S := SS) O j154) f154 := by
 intro l6 k7 m8 lo9 hiA pB psC Q R hQ h
 unfold f154 at h
 refine ⟨nle rfl, rfl, ?_⟩
 refine kL [] (h165 _ _ _ ?_ (sb h))
 rintro vE vF h
 refine kc h ?_ ?_ <;> intro h
 refine kc h ?_ ?_ <;> intro h
 refine kL [] (h166 _ _ _ _ _ _ _ _ ?_ (sb h))
 rintro q5 h
 cases q5
 replace h := cf h
 refine kc h ?_ ?_ <;> intro h
 refine kc h ?_ ?_ <;> intro h
 refine kc h ?_ ?_ <;> intro h
 refine kc h ?_ ?_ <;> intro h
 refine kc h ?_ ?_ <;> intro h
 refine kc h ?_ ?_ <;> intro h
 refine kL [] (h167 _ _ _ _ _ _ _ _ ?_ (sb h))
 rintro vG h
 exact kR [] (ND 0) (hQ _ (ss h))
 exact (sat_none h).elim
 exact (sat_none h).elim
 exact (sat_none h).elim
 exact kR [] (ND 0) (hQ _ (ss h))
 exact kR [] (ND 0) (hQ _ (ss h))
 exact kR [] (ND 0) (hQ _ (ss h))
 replace h := ct h
 exact kR [] (ND 0) (hQ _ (ss h))
 exact kR [] (ND 0) (hQ _ (ss h))
 exact kR [] (ND 0) (hQ _ (ss h))
def f135_L2 (self135 : PT → Tp → Option (Int)) (l5 : PT) : PT → Nat → Option (Sum (Int) (Unit))
  | [], j6 => some (.inr ())
  | ((aG, .mk k7 m8 lo9 hiA pB psC)) :: tlE, j6 => (self135 l5 (Tp.mk k7 m8 lo9 hiA pB psC)).bind fun vF => cond (vF != 0) (none) (f135_L2 self135 l5 tlE (j6 + 1))
def b135 (self135 : PT → Tp → Option (Int)) : PT → Tp → Option (Int)
  | l5, .mk k7 m8 lo9 hiA pB ps6 => (f154 l5 (Tp.mk k7 m8 lo9 hiA pB ps6)).bind fun vC => cond (vC != 0) (none) (sbind (ο := Unit) (f135_L2 self135 l5 ps6 0) (fun () => some 0))
def f135 : Nat → PT → Tp → Option (Int)
  | 0 => fun _ _ => none
  | n + 1 => b135 (f135 n)
def C135 (O : Oracle TT) (m : PT → Tp → Option (Int)) : Prop :=
  ∀ l5 k6 m7 lo8 hi9 pA psB (Q : Int → Prop) (R : RR) (_ : ∀ vC, Q vC → R (iD vC) []) (_ : sat (m l5 (Tp.mk k6 m7 lo8 hi9 pA psB)) Q), O 135 [.c (.isl .dfn l5), .agg [ci k6, .str m7, ci lo8, ci hi9, .str pA, .isl .part psB]] [] R
def j135 : Fn TT := ⟨30, [.t 4], (sr [qo 3 (.box 3 1),qo 4 (.mv (iC 0))] (.seq (sr [qm 9 0,qo 10 (.load 3 6 true),qo 11 (.call 11 154 [9, 10]),qm 5 11] (sr [qm 12 5,qo 13 (.bin .neq .num 12 (iC 0))] (.cond 13 .dead .skip))) (.cut [] [] (sr [qo 15 (.fa 3 5),qo 16 (ld 15),qo 17 (.len false 16),qo 18 (.mv (iC 0))] (.block 0
 (.loop (.keep [0, 16, 17, 18] [] (.aft (sr [qo 19 (.bin .lss .num 18 17)] (.seq (.cond 19 .skip (.exit 0)) (.seq (.block 1 (sr [qo 20 (.idxA 16 18 7),qo 21 (.load 20 7 true),qo 7 (.alloc 7 zPt),qp (.store 7 21 7)] (sr [qm 22 0,qo 23 (.fa 7 1),qo 24 (.load 23 6 true),qo 25 (.call 25 135 [22, 24]),qm 8 25] (sr [qm 26 8,
 qo 27 (.bin .neq .num 26 (iC 0))] (.cond 27 .dead .skip))))) (.reg [qo 29 (.bin .add .num 18 (iC 1)),qm 18 29])))) [.keep [0, 16, 17, 18] []]))))) (sr [qo 4 (.mv (iC 0))] .ret))))⟩
theorem w135 {O : Oracle TT} (self135 : PT → Tp → Option (Int)) (h135 : C135 O self135) (h154 : C154 O f154) : C135 (fun _ => vcF (S := SS) O j135) (b135 self135) := by
 intro lE kH mI loJ hiK pM ps8 Q R hQ h
 unfold b135 at h
 refine ⟨nle rfl, rfl, ?_⟩
 refine kL [] (h154 _ _ _ _ _ _ _ _ _ ?_ (sb h))
 rintro vN h
 refine kc h ?_ ?_ <;> intro h
 obtain ⟨R9, h, a9, hrR9⟩ := sc h
 refine kX (fun σ => R9 (.inr ()) ∧ σ = ⟨[], []⟩) ?_ ?_
 intro hlG
 refine kX (fun σ n => ∃ (rem5 : PT) (j6 : Nat) (z : Int), n = rem5.length ∧ ps8.drop j6 = rem5 ∧ z = ((j6 : Nat) : Int) ∧ sat (f135_L2 self135 lE rem5 j6) R9 ∧ σ.keep [0, 16, 17, 18] [] = ⟨[(0, .c (.isl .dfn lE)), (16, .c (.isl .part ps8)), (17, iD ((ps8.length : Nat) : Int)), (18, iD z)], []⟩) ⟨_, ps8, 0, _, rfl, rfl, rfl, h, rfl⟩ ?_
 rintro σ n ⟨rem5, j6, _, rfl, hrem5, rfl, h, hσ⟩
 refine kk hσ ?_
 intro tA (htA : tA = decide (((j6 : Nat) : Int) < ((ps8.length : Nat) : Int)))
 cases tA
 obtain rfl := ll_nil hrem5 htA
 rw [f135_L2] at h
 conv => whnf
 exact ⟨ss h, rfl⟩
 obtain ⟨xB, tlC, rfl, hxB, htlC⟩ := ll_cons hrem5 htA
 obtain ⟨aO, ⟨kP, mQ, loU, hiV, pW, psY⟩⟩ := xB
 rw [f135_L2] at h
 conv => whnf
 refine ⟨lx_bd hxB, fun uuF huuF => ?_⟩
 obtain rfl := lx_eq hxB huuF
 refine kL [] (h135 _ _ _ _ _ _ _ _ _ ?_ (sb h))
 rintro vZ h
 refine kc h ?_ ?_ <;> intro h
 conv => whnf
 exact ⟨tlC.length, nls, tlC, j6 + 1, _, rfl, htlC, lx_wr hxB hlG, h, rfl⟩
 exact (sat_none h).elim
 rintro _ ⟨h, rfl⟩
 replace h := hrR9 _ h
 exact kR [] (ND 0) (hQ _ (ss h))
 exact (sat_none h).elim
theorem cg135 {P : Program} {fid : Nat → FuncId} (mx : MX P) (k135 : KF P fid 135 j135) (h154 : C154 (SP P fid) f154) : ∀ n, C135 (SP P fid) (f135 n) := by
 intro n
 induction n with
 | zero => exact fun a0 a5 a6 a7 a8 a9 aA Q R hQ h => (sat_none h).elim
 | succ n ih =>
  have ih0 := ih
  exact fun a0 a5 a6 a7 a8 a9 aA Q R hQ h => spec_of_vc mx k135 (w135 (f135 n) ih0 h154 a0 a5 a6 a7 a8 a9 aA Q R hQ h)
theorem c135 {P : Program} {fid : Nat → FuncId} (mx : MX P) (k135 : KF P fid 135 j135) (h154 : C154 (SP P fid) f154) : ∀ n, C135 (SP P fid) (f135 n) := fun n => (cg135 mx k135 h154 n)
def f106 (fuel : Nat) : PT → Tp → Option (Int)
  | lB, .mk k5 m6 lo7 hi8 p9 psA => (f133 fuel (Tp.mk k5 m6 lo7 hi8 p9 psA)).bind fun vC => cond (decide (vC > 200)) (some 2) ((f134 fuel (Tp.mk k5 m6 lo7 hi8 p9 psA)).bind fun vE => cond (decide (vE > 40)) (some 2) ((f135 fuel lB (Tp.mk k5 m6 lo7 hi8 p9 psA)).bind fun vF => some vF))
def C106 (O : Oracle TT) (m : PT → Tp → Option (Int)) : Prop :=
  ∀ l5 k6 m7 lo8 hi9 pA psB (Q : Int → Prop) (R : RR) (_ : ∀ vC, Q vC → R (iD vC) []) (_ : sat (m l5 (Tp.mk k6 m7 lo8 hi9 pA psB)) Q), O 106 [.c (.isl .dfn l5), .agg [ci k6, .str m7, ci lo8, ci hi9, .str pA, .isl .part psB]] [] R
def j106 : Fn TT := ⟨16, [.t 4], (sr [qo 3 (.box 3 1),qo 4 (.mv (iC 0))] (.seq (sr [qo 5 (.load 3 6 true),qo 6 (.call 6 133 [5]),qo 7 (.bin .gtr .num 6 (iC 200)),qm 8 7,qf 8 9 (.load 3 6 true),qf 8 10 (.call 10 134 [9]),qf 8 11 (.bin .gtr .num 10 (iC 40)),qo 12 (.pick 8 bT 11)] (.cond 12 (sr [qo 4 (.mv (iC 2))] .ret) .skip)) (.seq
 (.reg [qm 13 0,qo 14 (.load 3 6 true),qo 15 (.call 15 135 [13, 14]),qm 4 15]) .ret)))⟩
theorem w106 {O : Oracle TT} (fuel : Nat) (h133 : C133 O (f133 fuel)) (h134 : C134 O (f134 fuel)) (h135 : C135 O (f135 fuel)) : C106 (fun _ => vcF (S := SS) O j106) (f106 fuel) := by
 intro l5 k6 m7 lo8 hi9 pA psB Q R hQ h
 unfold f106 at h
 refine ⟨nle rfl, rfl, ?_⟩
 refine kL [] (h133 _ _ _ _ _ _ _ _ ?_ (sb h))
 rintro vC h
 refine kc h ?_ ?_ <;> intro h
 refine kL [] (h134 _ _ _ _ _ _ _ _ ?_ (sb h))
 rintro vE h
 refine kc h ?_ ?_ <;> intro h
 refine kL [] (h135 _ _ _ _ _ _ _ _ _ ?_ (sb h))
 rintro vF h
 exact kR [] (ND 0) (hQ _ (ss h))
 exact kR [] (ND 0) (hQ _ (ss h))
 exact kR [] (ND 0) (hQ _ (ss h))
def f83 (fuel : Nat) : PT → Tp → Option (Int)
  | l5, .mk k6 m7 lo8 hi9 pA psB => (f105 fuel l5).bind fun vC => cond (vC != 0) (none) ((f106 fuel l5 (Tp.mk k6 m7 lo8 hi9 pA psB)).bind fun vE => some vE)
def C83 (O : Oracle TT) (m : PT → Tp → Option (Int)) : Prop :=
  ∀ l5 k6 m7 lo8 hi9 pA psB (Q : Int → Prop) (R : RR) (_ : ∀ vC, Q vC → R (iD vC) []) (_ : sat (m l5 (Tp.mk k6 m7 lo8 hi9 pA psB)) Q), O 83 [.c (.isl .dfn l5), .agg [ci k6, .str m7, ci lo8, ci hi9, .str pA, .isl .part psB]] [] R
def j83 : Fn TT := ⟨14, [.t 4], (sr [qo 3 (.box 3 1),qo 4 (.mv (iC 0))] (.seq (sr [qm 6 0,qo 7 (.call 7 105 [6]),qm 5 7] (sr [qm 8 5,qo 9 (.bin .neq .num 8 (iC 0))] (.cond 9 .dead .skip))) (sr [qm 11 0,qo 12 (.load 3 6 true),qo 13 (.call 13 106 [11, 12]),qm 4 13] .ret)))⟩
theorem w83 {O : Oracle TT} (fuel : Nat) (h105 : C105 O (f105 fuel)) (h106 : C106 O (f106 fuel)) : C83 (fun _ => vcF (S := SS) O j83) (f83 fuel) := by
 intro l5 k6 m7 lo8 hi9 pA psB Q R hQ h
 unfold f83 at h
 refine ⟨nle rfl, rfl, ?_⟩
 refine kL [] (h105 _ _ _ ?_ (sb h))
 rintro vC h
 refine kc h ?_ ?_ <;> intro h
 refine kL [] (h106 _ _ _ _ _ _ _ _ _ ?_ (sb h))
 rintro vE h
 exact kR [] (ND 0) (hQ _ (ss h))
 exact (sat_none h).elim
def f94_L2 (self94 : Ln → Option (Int)) : List Ln → Nat → Int → Option (Sum (Int) (Int))
  | [], j6, v5 => some (.inr v5)
  | (.mk op7 nm8 to9 nsA nB loC hiF sepG (.mk kH nI sJ fK) prsM ksN) :: tlO, j6, v5 => (self94 (Ln.mk op7 nm8 to9 nsA nB loC hiF sepG (V.mk kH nI sJ fK) prsM ksN)).bind fun vP => f94_L2 self94 tlO (j6 + 1) (wrap .i64 (v5 + vP))
def b94 (self94 : Ln → Option (Int)) : Ln → Option (Int)
  | .mk op7 nm8 to9 nsA nB loC hiF sepG (.mk kH nI sJ fK) prsM ks5 => sbind (ο := Int) (f94_L2 self94 ks5 0 (1 : Int)) (fun v6 => some v6)
def f94 : Nat → Ln → Option (Int)
  | 0 => fun _ => none
  | n + 1 => b94 (f94 n)
def C94 (O : Oracle TT) (m : Ln → Option (Int)) : Prop :=
  ∀ op5 nm6 to7 ns8 n9 loA hiB sepC kF nG sH fI prsJ ksK (Q : Int → Prop) (R : RR) (_ : ∀ vM, Q vM → R (iD vM) []) (_ : sat (m (Ln.mk op5 nm6 to7 ns8 n9 loA hiB sepC (V.mk kF nG sH fI) prsJ ksK)) Q), O 94 [.agg [ci op5, .str nm6, .str to7, .isl .str ns8, ci n9, ci loA, ci hiB, .int .u8 sepC, ci kF, ci nG, .str sH, .isl .fld fI, .isl .two prsJ, .isl .lens ksK]] [] R
def j94 : Fn TT := ⟨19, [.t 2], (sr [qo 1 (.box 1 0),qo 2 (.mv (iC 0))] (sr [qo 3 (.mv (iC 1))] (.cut [3] [] (sr [qo 6 (.fa 1 13),qo 7 (ld 6),qo 8 (.len false 7),qo 9 (.mv (iC 0))] (.block 0 (.loop (.keep [3, 7, 8, 9] [] (.aft (sr [qo 10 (.bin .lss .num 9 8)] (.seq (.cond 10 .skip (.exit 0)) (.seq (.block 1 (sr [qo 11 (.idxA 7 9 14),
 qo 12 (.load 11 14 true),qo 5 (.alloc 5 zLn),qp (.store 5 12 14)] (.reg [qm 13 3,qo 14 (.load 5 14 true),qo 15 (.call 15 94 [14]),qo 16 (.bin .add .num 13 15),qm 3 16]))) (.reg [qo 17 (.bin .add .num 9 (iC 1)),qm 9 17])))) [.keep [3, 7, 8, 9] []]))))) (sr [qm 18 3,qm 2 18] .ret))))⟩
theorem w94 {O : Oracle TT} (self94 : Ln → Option (Int)) (h94 : C94 O self94) : C94 (fun _ => vcF (S := SS) O j94) (b94 self94) := by
 intro opK nmM toN nsO nP loQ hiS sepT kU nV sW fY prsZ ks8 Q R hQ h
 unfold b94 at h
 refine ⟨nle rfl, rfl, ?_⟩
 obtain ⟨R9, h, a9, hrR9⟩ := sc h
 refine kX (fun σ => ∃ vG, R9 (.inr vG) ∧ σ = ⟨[(3, iD vG)], []⟩) ?_ ?_
 intro hlI
 refine kX (fun σ n => ∃ (rem5 : List Ln) (j6 : Nat) (z : Int) (vA : Int), n = rem5.length ∧ ks8.drop j6 = rem5 ∧ z = ((j6 : Nat) : Int) ∧ sat (f94_L2 self94 rem5 j6 vA) R9 ∧ σ.keep [3, 7, 8, 9] [] = ⟨[(3, iD vA), (7, .c (.isl .lens ks8)), (8, iD ((ks8.length : Nat) : Int)), (9, iD z)], []⟩) ⟨_, ks8, 0, _, (1 : Int), rfl, rfl, rfl, h, rfl⟩ ?_
 rintro σ n ⟨rem5, j6, _, vA, rfl, hrem5, rfl, h, hσ⟩
 refine kk hσ ?_
 intro tB (htB : tB = decide (((j6 : Nat) : Int) < ((ks8.length : Nat) : Int)))
 cases tB
 obtain rfl := ll_nil hrem5 htB
 rw [f94_L2] at h
 conv => whnf
 exact ⟨vA, ss h, rfl⟩
 obtain ⟨xC, tlF, rfl, hxC, htlF⟩ := ll_cons hrem5 htB
 obtain ⟨op00, nm01, to02, ns03, n04, lo05, hi06, sep07, ⟨k08, n09, s0A, f0B⟩, prs0C, ks0D⟩ := xC
 rw [f94_L2] at h
 conv => whnf
 refine ⟨lx_bd hxC, fun uuH huuH => ?_⟩
 obtain rfl := lx_eq hxC huuH
 refine kL [] (h94 _ _ _ _ _ _ _ _ _ _ _ _ _ _ _ _ ?_ (sb h))
 rintro vJ h
 conv => whnf
 exact ⟨tlF.length, nls, tlF, j6 + 1, _, (wrap .i64 (vA + vJ)), rfl, htlF, lx_wr hxC hlI, h, rfl⟩
 rintro _ ⟨vG, h, rfl⟩
 replace h := hrR9 _ h
 exact kR [] (ND 0) (hQ _ (ss h))
theorem cg94 {P : Program} {fid : Nat → FuncId} (mx : MX P) (k94 : KF P fid 94 j94) : ∀ n, C94 (SP P fid) (f94 n) := by
 intro n
 induction n with
 | zero => exact fun a0 a5 a6 a7 a8 a9 aA aB aC aD aE aF aG aH Q R hQ h => (sat_none h).elim
 | succ n ih =>
  have ih0 := ih
  exact fun a0 a5 a6 a7 a8 a9 aA aB aC aD aE aF aG aH Q R hQ h => spec_of_vc mx k94 (w94 (f94 n) ih0 a0 a5 a6 a7 a8 a9 aA aB aC aD aE aF aG aH Q R hQ h)
theorem c94 {P : Program} {fid : Nat → FuncId} (mx : MX P) (k94 : KF P fid 94 j94) : ∀ n, C94 (SP P fid) (f94 n) := fun n => (cg94 mx k94 n)
def f95_L2 (self95 : Ln → Option (Int)) : List Ln → Nat → Int → Option (Sum (Int) (Int))
  | [], j6, v5 => some (.inr v5)
  | (.mk op8 nm9 toA nsB nC loF hiG sepH (.mk kI nJ sK fM) prsN ksO) :: tlP, j6, v5 => (self95 (Ln.mk op8 nm9 toA nsB nC loF hiG sepH (V.mk kI nJ sK fM) prsN ksO)).bind fun v7 => f95_L2 self95 tlP (j6 + 1) (if v7 > v5 then v7 else v5)
def b95 (self95 : Ln → Option (Int)) : Ln → Option (Int)
  | .mk op7 nm8 to9 nsA nB loC hiF sepG (.mk kH nI sJ fK) prsM ks5 => sbind (ο := Int) (f95_L2 self95 ks5 0 (0 : Int)) (fun v6 => some (wrap .i64 (v6 + 1)))
def f95 : Nat → Ln → Option (Int)
  | 0 => fun _ => none
  | n + 1 => b95 (f95 n)
def C95 (O : Oracle TT) (m : Ln → Option (Int)) : Prop :=
  ∀ op5 nm6 to7 ns8 n9 loA hiB sepC kF nG sH fI prsJ ksK (Q : Int → Prop) (R : RR) (_ : ∀ vM, Q vM → R (iD vM) []) (_ : sat (m (Ln.mk op5 nm6 to7 ns8 n9 loA hiB sepC (V.mk kF nG sH fI) prsJ ksK)) Q), O 95 [.agg [ci op5, .str nm6, .str to7, .isl .str ns8, ci n9, ci loA, ci hiB, .int .u8 sepC, ci kF, ci nG, .str sH, .isl .fld fI, .isl .two prsJ, .isl .lens ksK]] [] R
def j95 : Fn TT := ⟨20, [.t 2], (sr [qo 1 (.box 1 0),qo 2 (.mv (iC 0))] (sr [qo 3 (.mv (iC 0))] (.cut [3] [] (sr [qo 6 (.fa 1 13),qo 7 (ld 6),qo 8 (.len false 7),qo 9 (.mv (iC 0))] (.block 0 (.loop (.keep [3, 7, 8, 9] [] (.aft (sr [qo 10 (.bin .lss .num 9 8)] (.seq (.cond 10 .skip (.exit 0)) (.seq (.block 1 (sr [qo 11 (.idxA 7 9 14),
 qo 12 (.load 11 14 true),qo 5 (.alloc 5 zLn),qp (.store 5 12 14)] (.reg [qm 13 3,qo 14 (.load 5 14 true),qo 15 (.call 15 95 [14]),qo 16 (.mx [13, 15]),qm 3 16]))) (.reg [qo 17 (.bin .add .num 9 (iC 1)),qm 9 17])))) [.keep [3, 7, 8, 9] []]))))) (sr [qm 18 3,qo 19 (.bin .add .num 18 (iC 1)),qm 2 19] .ret))))⟩
theorem w95 {O : Oracle TT} (self95 : Ln → Option (Int)) (h95 : C95 O self95) : C95 (fun _ => vcF (S := SS) O j95) (b95 self95) := by
 intro opK nmM toN nsO nP loQ hiS sepT kU nV sW fY prsZ ks9 Q R hQ h
 unfold b95 at h
 refine ⟨nle rfl, rfl, ?_⟩
 obtain ⟨RA, h, aA, hrRA⟩ := sc h
 refine kX (fun σ => ∃ vG, RA (.inr vG) ∧ σ = ⟨[(3, iD vG)], []⟩) ?_ ?_
 intro hlJ
 refine kX (fun σ n => ∃ (rem5 : List Ln) (j6 : Nat) (z : Int) (v8 : Int), n = rem5.length ∧ ks9.drop j6 = rem5 ∧ z = ((j6 : Nat) : Int) ∧ sat (f95_L2 self95 rem5 j6 v8) RA ∧ σ.keep [3, 7, 8, 9] [] = ⟨[(3, iD v8), (7, .c (.isl .lens ks9)), (8, iD ((ks9.length : Nat) : Int)), (9, iD z)], []⟩) ⟨_, ks9, 0, _, (0 : Int), rfl, rfl, rfl, h, rfl⟩ ?_
 rintro σ n ⟨rem5, j6, _, v8, rfl, hrem5, rfl, h, hσ⟩
 refine kk hσ ?_
 intro tB (htB : tB = decide (((j6 : Nat) : Int) < ((ks9.length : Nat) : Int)))
 cases tB
 obtain rfl := ll_nil hrem5 htB
 rw [f95_L2] at h
 conv => whnf
 exact ⟨v8, ss h, rfl⟩
 obtain ⟨xC, tlF, rfl, hxC, htlF⟩ := ll_cons hrem5 htB
 obtain ⟨op00, nm01, to02, ns03, n04, lo05, hi06, sep07, ⟨k08, n09, s0A, f0B⟩, prs0C, ks0D⟩ := xC
 rw [f95_L2] at h
 conv => whnf
 refine ⟨lx_bd hxC, fun uuH huuH => ?_⟩
 obtain rfl := lx_eq hxC huuH
 refine kL [] (h95 _ _ _ _ _ _ _ _ _ _ _ _ _ _ _ _ ?_ (sb h))
 rintro vI h
 conv => whnf
 exact ⟨tlF.length, nls, tlF, j6 + 1, _, (if vI > v8 then vI else v8), rfl, htlF, lx_wr hxC hlJ, h, rfl⟩
 rintro _ ⟨vG, h, rfl⟩
 replace h := hrRA _ h
 exact kR [] (ND 0) (hQ _ (ss h))
theorem cg95 {P : Program} {fid : Nat → FuncId} (mx : MX P) (k95 : KF P fid 95 j95) : ∀ n, C95 (SP P fid) (f95 n) := by
 intro n
 induction n with
 | zero => exact fun a0 a5 a6 a7 a8 a9 aA aB aC aD aE aF aG aH Q R hQ h => (sat_none h).elim
 | succ n ih =>
  have ih0 := ih
  exact fun a0 a5 a6 a7 a8 a9 aA aB aC aD aE aF aG aH Q R hQ h => spec_of_vc mx k95 (w95 (f95 n) ih0 a0 a5 a6 a7 a8 a9 aA aB aC aD aE aF aG aH Q R hQ h)
theorem c95 {P : Program} {fid : Nat → FuncId} (mx : MX P) (k95 : KF P fid 95 j95) : ∀ n, C95 (SP P fid) (f95 n) := fun n => (cg95 mx k95 n)
def f144 : Int → Option (Bool × Bool × Bool × Bool × Bool × Bool × Bool × Bool × Int)
  | v0 => cond (v0 == 1) (none) (cond (v0 == 2) (none) (cond (v0 == 3) (none) (sbind (ο := Bool) (cond (v0 == 4) (some (.inr true)) (cond (v0 == 5) (some (.inr true)) (cond (v0 == 15) (some (.inr true)) (some (.inr false))))) (fun q5 => cond q5 (some (true, false, false, false, false, false, true, false, 0)) (cond (v0 == 6) (none) (sbind (ο := Bool) (cond (v0 == 7) (some (.inr true)) (cond (v0 == 16) (some (.inr true)) (cond (v0 == 17) (some (.inr true)) (some (.inr false))))) (fun q6 => cond q6 (some (true, false, false, false, false, false, false, false, 0)) (cond (v0 == 8) (none) (cond (v0 == 9) (none) (cond (v0 == 10) (none) (cond (v0 == 11) (none) (cond (v0 == 12) (none) (cond (v0 == 13) (some (true, false, false, false, false, false, false, false, 1)) (cond (v0 == 14) (none) (cond (v0 == 18) (none) (some (false, false, false, false, false, false, false, false, 0)))))))))))))))))
def C144 (O : Oracle TT) (m : Int → Option (Bool × Bool × Bool × Bool × Bool × Bool × Bool × Bool × Int)) : Prop :=
  ∀ v0 (Q : (Bool × Bool × Bool × Bool × Bool × Bool × Bool × Bool × Int) → Prop) (R : RR) (_ : ∀ q5 q6 q7 q8 q9 qA qB qC vE, Q (q5, q6, q7, q8, q9, qA, qB, qC, vE) → R (.agg [.bool q5, .bool q6, .bool q7, .bool q8, .bool q9, .bool qA, .bool qB, .bool qC, ci vE]) []) (_ : sat (m v0) Q), O 144 [iD v0] [] R
def j144 : Fn TT := ⟨51, [.cell 2 9 true], (sr [qo 2 (.alloc 2 [.bool false, .bool false, .bool false, .bool false, .bool false, .bool false, .bool false, .bool false, .int .i64 0])] (.seq (sr [qm 3 0] (.block 0 (sr [qo 5 (.bin .eql .num 3 (iC 1)),qm 4 5] (.cond 4 .dead (sr [qo 8 (.bin .eql .num 3 (iC 2)),qm 7 8] (.cond 7 .dead (.seq
 (.reg [qo 11 (.bin .eql .num 3 (iC 3)),qm 10 11]) (.cond 10 .dead (.cut [2, 3, 13] [(.s 2)] (sr [qo 14 (.bin .eql .num 3 (iC 4)),qm 13 14] (.cond 13 .skip (sr [qo 15 (.bin .eql .num 3 (iC 5)),qm 13 15] (.cond 13 .skip (.reg [qo 16 (.bin .eql .num 3 (iC 15)),qm 13 16]))))) (.cond 13 (.seq
 (.reg [qo 17 (.build [.bool false, .bool false, .bool false, .bool false, .bool false, .bool false, .bool false, .bool false, .int .i64 0] [((0, 1), bT), ((6, 1), bT)]),qp (.store 2 17 9)]) .ret) (sr [qo 19 (.bin .eql .num 3 (iC 6)),qm 18 19] (.cond 18 .dead (.cut [2, 3, 21] [(.s 2)] (sr [qo 22 (.bin .eql .num 3 (iC 7)),qm 21 22] (.cond 21 .skip (.seq
 (.reg [qo 23 (.bin .eql .num 3 (iC 16)),qm 21 23]) (.cond 21 .skip (.reg [qo 24 (.bin .eql .num 3 (iC 17)),qm 21 24]))))) (.cond 21 (sr [qo 25 (.build [.bool false, .bool false, .bool false, .bool false, .bool false, .bool false, .bool false, .bool false, .int .i64 0] [((0, 1), bT)]),qp (.store 2 25 9)] .ret) (sr [qo 27 (.bin .eql .num 3 (iC 8)),qm 26 27]
 (.cond 26 .dead (sr [qo 30 (.bin .eql .num 3 (iC 9)),qm 29 30] (.cond 29 .dead (sr [qo 33 (.bin .eql .num 3 (iC 10)),qm 32 33] (.cond 32 .dead (sr [qo 36 (.bin .eql .num 3 (iC 11)),qm 35 36] (.cond 35 .dead (sr [qo 39 (.bin .eql .num 3 (iC 12)),qm 38 39] (.cond 38 .dead (sr [qo 42 (.bin .eql .num 3 (iC 13)),qm 41 42]
 (.cond 41 (sr [qo 43 (.build [.bool false, .bool false, .bool false, .bool false, .bool false, .bool false, .bool false, .bool false, .int .i64 0] [((0, 1), bT), ((8, 1), (iC 1))]),qp (.store 2 43 9)] .ret) (sr [qo 45 (.bin .eql .num 3 (iC 14)),qm 44 45] (.cond 44 .dead (sr [qo 48 (.bin .eql .num 3 (iC 18)),qm 47 48] (.cond 47 .dead
 .skip)))))))))))))))))))))))))))))) (sr [qo 50 (.build [.bool false, .bool false, .bool false, .bool false, .bool false, .bool false, .bool false, .bool false, .int .i64 0] []),qp (.store 2 50 9)] .ret)))⟩
theorem w144 {O : Oracle TT} : C144 (fun _ => vcF (S := SS) O j144) f144 := by
 intro v8 Q R hQ h
 unfold f144 at h
 refine ⟨nle rfl, rfl, ?_⟩
 refine kc h ?_ ?_ <;> intro h
 refine kc h ?_ ?_ <;> intro h
 refine kc h ?_ ?_ <;> intro h
 obtain ⟨R0, h, a0, b0⟩ := sc h
 refine kX (fun σ => ∃ q5, R0 (.inr q5) ∧ σ = ⟨[pT 2, (3, iD v8), (13, bD q5)], [eV (.s 2) [.bool false, .bool false, .bool false, .bool false, .bool false, .bool false, .bool false, .bool false, ci 0]]⟩) ?_ ?_
 refine kc h ?_ ?_ <;> intro h
 refine kc h ?_ ?_ <;> intro h
 refine kc h ?_ ?_ <;> intro h
 conv => whnf
 exact ⟨false, ss h, rfl⟩
 conv => whnf
 exact ⟨true, ss h, rfl⟩
 conv => whnf
 exact ⟨true, ss h, rfl⟩
 conv => whnf
 exact ⟨true, ss h, rfl⟩
 rintro _ ⟨q5, h, rfl⟩
 replace h := b0 _ h
 cases q5
 replace h := cf h
 refine kc h ?_ ?_ <;> intro h
 obtain ⟨R6, h, a6, b6⟩ := sc h
 refine kX (fun σ => ∃ q7, R6 (.inr q7) ∧ σ = ⟨[pT 2, (3, iD v8), (21, bD q7)], [eV (.s 2) [.bool false, .bool false, .bool false, .bool false, .bool false, .bool false, .bool false, .bool false, ci 0]]⟩) ?_ ?_
 refine kc h ?_ ?_ <;> intro h
 refine kc h ?_ ?_ <;> intro h
 refine kc h ?_ ?_ <;> intro h
 conv => whnf
 exact ⟨false, ss h, rfl⟩
 conv => whnf
 exact ⟨true, ss h, rfl⟩
 conv => whnf
 exact ⟨true, ss h, rfl⟩
 conv => whnf
 exact ⟨true, ss h, rfl⟩
 rintro _ ⟨q7, h, rfl⟩
 replace h := b6 _ h
 cases q7
 replace h := cf h
 refine kc h ?_ ?_ <;> intro h
 refine kc h ?_ ?_ <;> intro h
 refine kc h ?_ ?_ <;> intro h
 refine kc h ?_ ?_ <;> intro h
 refine kc h ?_ ?_ <;> intro h
 refine kc h ?_ ?_ <;> intro h
 refine kc h ?_ ?_ <;> intro h
 refine kc h ?_ ?_ <;> intro h
 exact kR [] (ND 0) (hQ _ _ _ _ _ _ _ _ _ (ss h))
 exact (sat_none h).elim
 exact (sat_none h).elim
 exact kR [] (ND 0) (hQ _ _ _ _ _ _ _ _ _ (ss h))
 exact (sat_none h).elim
 exact (sat_none h).elim
 exact (sat_none h).elim
 exact (sat_none h).elim
 exact (sat_none h).elim
 replace h := ct h
 exact kR [] (ND 0) (hQ _ _ _ _ _ _ _ _ _ (ss h))
 exact (sat_none h).elim
 replace h := ct h
 exact kR [] (ND 0) (hQ _ _ _ _ _ _ _ _ _ (ss h))
 exact (sat_none h).elim
 exact (sat_none h).elim
 exact (sat_none h).elim
def f145 : Ln → Option (Int)
  | .mk op5 nm6 to7 ns8 n9 loA hiB sepC (.mk kF nG sH fI) prsJ ksK => cond (op5 == 5) (none) (cond (op5 == 15) (none) (cond (op5 == 6) (none) (cond (op5 == 14) (none) (cond (op5 == 9) (none) (cond (op5 == 11) (none) (cond (op5 == 12) (none) (some 0)))))))
def C145 (O : Oracle TT) (m : Ln → Option (Int)) : Prop :=
  ∀ op5 nm6 to7 ns8 n9 loA hiB sepC kF nG sH fI prsJ ksK (Q : Int → Prop) (R : RR) (_ : ∀ vM, Q vM → R (iD vM) []) (_ : sat (m (Ln.mk op5 nm6 to7 ns8 n9 loA hiB sepC (V.mk kF nG sH fI) prsJ ksK)) Q), O 145 [.agg [ci op5, .str nm6, .str to7, .isl .str ns8, ci n9, ci loA, ci hiB, .int .u8 sepC, ci kF, ci nG, .str sH, .isl .fld fI, .isl .two prsJ, .isl .lens ksK]] [] R
def j145 : Fn TT := ⟨86, [.t 2], (sr [qo 1 (.box 1 0),qo 2 (.mv (iC 0))] (.seq (sr [qo 6 (.fa 1 0),qo 7 (ld 6)] (.block 0 (sr [qo 9 (.bin .eql .num 7 (iC 5)),qm 8 9] (.cond 8 .dead (sr [qo 22 (.bin .eql .num 7 (iC 15)),qm 21 22] (.cond 21 .dead (sr [qo 29 (.bin .eql .num 7 (iC 6)),qm 28 29] (.cond 28 .dead (.seq
 (.reg [qo 34 (.bin .eql .num 7 (iC 14)),qm 33 34]) (.cond 33 .dead (sr [qo 46 (.bin .eql .num 7 (iC 9)),qm 45 46] (.cond 45 .dead (sr [qo 65 (.bin .eql .num 7 (iC 11)),qm 64 65] (.cond 64 .dead (sr [qo 70 (.bin .eql .num 7 (iC 12)),qm 69 70] (.cond 69 .dead .skip)))))))))))))))) (sr [qo 2 (.mv (iC 0))] .ret)))⟩
theorem w145 {O : Oracle TT} : C145 (fun _ => vcF (S := SS) O j145) f145 := by
 intro op5 nm6 to7 ns8 n9 loA hiB sepC kF nG sH fI prsJ ksK Q R hQ h
 unfold f145 at h
 refine ⟨nle rfl, rfl, ?_⟩
 refine kc h ?_ ?_ <;> intro h
 refine kc h ?_ ?_ <;> intro h
 refine kc h ?_ ?_ <;> intro h
 refine kc h ?_ ?_ <;> intro h
 refine kc h ?_ ?_ <;> intro h
 refine kc h ?_ ?_ <;> intro h
 refine kc h ?_ ?_ <;> intro h
 exact kR [] (ND 0) (hQ _ (ss h))
 exact (sat_none h).elim
 exact (sat_none h).elim
 exact (sat_none h).elim
 exact (sat_none h).elim
 exact (sat_none h).elim
 exact (sat_none h).elim
 exact (sat_none h).elim
def f116 (fuel : Nat) : Ln → Option (Int)
  | .mk op5 nm7 to6 nsH nI loJ hiK sepM (.mk k9 nA sB fC) prsN ks8 => sbind (ο := Unit) (cond (decide (op5 < 0)) (lft (some 1)) (cond (decide (op5 ≥ 19)) (lft (some 1)) (some (.inr ())))) (fun () => (f144 op5).bind fun (qV, qO, qP, qQ, qF, qS, q04, qT, vG) => sbind (ο := Bool × Bool × Bool × Bool × Bool × Bool × Bool × Bool) (sbind (ο := Bool × Bool) (cond (!(nm7.toList == (⟨#[]⟩ : BA).toList)) (cond qV (some (.inr (false, true))) (some (.inr (true, false)))) (some (.inr (false, qV)))) (fun (q05, qW) => sbind (ο := Bool × Bool) (cond q05 (some (.inr (true, qO))) (cond (!(to6.toList == (⟨#[]⟩ : BA).toList)) (cond qO (some (.inr (false, true))) (some (.inr (true, false)))) (some (.inr (false, qO))))) (fun (q06, qY) => sbind (ο := Bool × Bool) (cond q06 (some (.inr (true, qP))) (cond (decide (((nsH.length : Nat) : Int) > 0)) (cond qP (some (.inr (false, true))) (some (.inr (true, false)))) (some (.inr (false, qP))))) (fun (q07, qZ) => sbind (ο := Bool × Bool) (cond q07 (some (.inr (true, qQ))) (cond (nI != 0) (cond qQ (some (.inr (false, true))) (some (.inr (true, false)))) (some (.inr (false, qQ))))) (fun (q08, q00) => sbind (ο := Bool × Bool) (cond q08 (some (.inr (true, qF))) (cond (loJ != 0) (cond qF (some (.inr (false, true))) (some (.inr (true, false)))) (cond (hiK != 0) (cond qF (some (.inr (false, true))) (some (.inr (true, false)))) (some (.inr (false, qF)))))) (fun (q09, q01) => sbind (ο := Bool × Bool) (cond q09 (some (.inr (true, qS))) (cond (sepM != 0) (cond qS (some (.inr (false, true))) (some (.inr (true, false)))) (some (.inr (false, qS))))) (fun (q0A, q02) => sbind (ο := Bool × Bool) (cond q0A (some (.inr (true, qT))) (cond (decide (((prsN.length : Nat) : Int) > 0)) (cond qT (some (.inr (false, true))) (some (.inr (true, false)))) (some (.inr (false, qT))))) (fun (q0B, q03) => cond q0B (lft (some 3)) (cond q04 (some (.inr (qW, qY, qZ, q00, q01, q02, true, q03))) ((f11 fuel (V.mk k9 nA sB fC) (V.mk 0 0 (⟨#[]⟩ : BA) [])).bind fun q0C => cond q0C (some (.inr (qW, qY, qZ, q00, q01, q02, false, q03))) (lft (some 3)))))))))))) (fun (q0D, qU, q0M, q0N, q0O, q0P, q0E, q0Q) => sbind (ο := Unit) (cond (decide (vG ≥ 0)) (cond (((ks8.length : Nat) : Int) != vG) (lft (some 3)) (cond (decide (vG < 0)) (cond (((ks8.length : Nat) : Int) == 0) (lft (some 3)) (some (.inr ()))) (some (.inr ())))) (cond (decide (vG < 0)) (cond (((ks8.length : Nat) : Int) == 0) (lft (some 3)) (some (.inr ()))) (some (.inr ())))) (fun () => sbind (ο := Bool × Bool) (cond q0D ((f132 nm7).bind fun q0F => cond q0F (cond qU ((f132 to6).bind fun q0G => cond q0G (some (.inr (true, true))) (lft (some 15))) (some (.inr (true, false)))) (cond (op5 == 13) (cond (nm7.toList == (⟨#[]⟩ : BA).toList) (cond qU ((f132 to6).bind fun q0H => cond q0H (some (.inr (true, true))) (lft (some 15))) (some (.inr (true, false)))) (lft (some 15))) (lft (some 15)))) (cond qU ((f132 to6).bind fun q0I => cond q0I (some (.inr (false, true))) (lft (some 15))) (some (.inr (false, false))))) (fun (q0R, q0S) => cond q0E ((f51 fuel (V.mk k9 nA sB fC)).bind fun v0J => cond (v0J != 0) (none) ((f145 (Ln.mk op5 nm7 to6 nsH nI loJ hiK sepM (V.mk k9 nA sB fC) prsN ks8)).bind fun v0K => some v0K)) ((f145 (Ln.mk op5 nm7 to6 nsH nI loJ hiK sepM (V.mk k9 nA sB fC) prsN ks8)).bind fun v0L => some v0L)))))
def C116 (O : Oracle TT) (m : Ln → Option (Int)) : Prop :=
  ∀ op5 nm6 to7 ns8 n9 loA hiB sepC kF nG sH fI prsJ ksK (Q : Int → Prop) (R : RR) (_ : ∀ vM, Q vM → R (iD vM) []) (_ : sat (m (Ln.mk op5 nm6 to7 ns8 n9 loA hiB sepC (V.mk kF nG sH fI) prsJ ksK)) Q), O 116 [.agg [ci op5, .str nm6, .str to7, .isl .str ns8, ci n9, ci loA, ci hiB, .int .u8 sepC, ci kF, ci nG, .str sH, .isl .fld fI, .isl .two prsJ, .isl .lens ksK]] [] R
def j116 : Fn TT := ⟨164, [.t 2], (sr [qo 1 (.box 1 0),qo 2 (.mv (iC 0))] (.cut [1] [(.s 1)] (sr [qo 5 (.fa 1 0),qo 6 (ld 5),qo 7 (.bin .lss .num 6 (iC 0)),qm 8 7,qf 8 9 (.fa 1 0),qf 8 10 (ld 9),qf 8 11 (.bin .geq .num 10 (iC 19)),qo 12 (.pick 8 bT 11)] (.cond 12 (sr [qo 2 (.mv (iC 1))] .ret) .skip)) (sr [qo 13 (.fa 1 0),
 qo 14 (ld 13),qo 15 (.call 15 144 [14]),qo 3 (.alloc 3 [.bool false, .bool false, .bool false, .bool false, .bool false, .bool false, .bool false, .bool false, .int .i64 0]),qp (.store 3 15 9)] (.cut [1, 3] [(.s 1), (.s 3)] (.seq (.regc [([qo 16 (.fa 1 1),qo 17 (ld 16),qo 18 (.bin .neq .str 17 sE),qm 19 18,qg 19 20 (.fa 3 0),qg 19 21 (ld 20),
 qg 19 22 (.un .not 21),qo 23 (.pick 19 22 bF)], [1, 3, 23], [(.s 1), (.s 3)]), ([qm 24 23,qf 24 25 (.fa 1 2),qf 24 26 (ld 25),qf 24 27 (.bin .neq .str 26 sE),qf 24 28 (.mv 27),qg 28 29 (.fa 3 1),qg 28 30 (ld 29),qg 28 31 (.un .not 30),qf 24 32 (.pick 28 31 bF),qo 33 (.pick 24 bT 32)], [1, 3, 33], [(.s 1), (.s 3)]), ([qm 34 33,qf 34 35 (.fa 1 3),
 qf 34 36 (ld 35),qf 34 37 (.len false 36),qf 34 38 (.bin .gtr .num 37 (iC 0)),qf 34 39 (.mv 38),qg 39 40 (.fa 3 2),qg 39 41 (ld 40),qg 39 42 (.un .not 41),qf 34 43 (.pick 39 42 bF),qo 44 (.pick 34 bT 43)], [1, 3, 44], [(.s 1), (.s 3)]), ([qm 45 44,qf 45 46 (.fa 1 4),qf 45 47 (ld 46),qf 45 48 (.bin .neq .num 47 (iC 0)),qf 45 49 (.mv 48),
 qg 49 50 (.fa 3 3),qg 49 51 (ld 50),qg 49 52 (.un .not 51),qf 45 53 (.pick 49 52 bF),qo 54 (.pick 45 bT 53)], [1, 3, 54], [(.s 1), (.s 3)]), ([qm 55 54,qf 55 56 (.fa 1 5),qf 55 57 (ld 56),qf 55 58 (.bin .neq .num 57 (iC 0)),qf 55 59 (.mv 58),qf 59 60 (.fa 1 6),qf 59 61 (ld 60),qf 59 62 (.bin .neq .num 61 (iC 0)),qf 55 63 (.pick 59 bT 62),
 qf 55 64 (.mv 63),qg 64 65 (.fa 3 4),qg 64 66 (ld 65),qg 64 67 (.un .not 66),qf 55 68 (.pick 64 67 bF),qo 69 (.pick 55 bT 68)], [1, 3, 69], [(.s 1), (.s 3)]), ([qm 70 69,qf 70 71 (.fa 1 7),qf 70 72 (ld 71),qf 70 73 (.bin .neq .num 72 (.c (.int .u8 0))),qf 70 74 (.mv 73),qg 74 75 (.fa 3 5),qg 74 76 (ld 75),qg 74 77 (.un .not 76),
 qf 70 78 (.pick 74 77 bF),qo 79 (.pick 70 bT 78)], [1, 3, 79], [(.s 1), (.s 3)]), ([qm 80 79,qf 80 81 (.fa 1 12),qf 80 82 (ld 81),qf 80 83 (.len false 82),qf 80 84 (.bin .gtr .num 83 (iC 0)),qf 80 85 (.mv 84),qg 85 86 (.fa 3 7),qg 85 87 (ld 86),qg 85 88 (.un .not 87),qf 80 89 (.pick 85 88 bF),qo 90 (.pick 80 bT 89)], [1, 3, 90], [(.s 1), (.s 3)])]
 [qm 91 90,qf 91 92 (.fa 3 6),qf 91 93 (ld 92),qf 91 94 (.un .not 93),qf 91 95 (.mv 94),qg 95 96 (.fa 1 8),qg 95 97 (.load 96 4 true),qg 95 98 (.build zV []),qg 95 99 (.call 99 11 [97, 98]),qg 95 100 (.un .not 99),qf 91 101 (.pick 95 100 bF),qo 102 (.pick 91 bT 101)]) (.cond 102 (sr [qo 2 (.mv (iC 3))] .ret) .skip)) (.cut [1, 3] [(.s 1), (.s 3)] (.seq
 (.reg [qo 103 (.fa 3 8),qo 104 (ld 103),qo 105 (.bin .geq .num 104 (iC 0)),qm 106 105,qg 106 107 (.fa 1 13),qg 106 108 (ld 107),qg 106 109 (.len false 108),qg 106 110 (.fa 3 8),qg 106 111 (ld 110),qg 106 112 (.bin .neq .num 109 111),qo 113 (.pick 106 112 bF),qm 114 113,qf 114 115 (.fa 3 8),qf 114 116 (ld 115),
 qf 114 117 (.bin .lss .num 116 (iC 0)),qf 114 118 (.mv 117),qg 118 119 (.fa 1 13),qg 118 120 (ld 119),qg 118 121 (.len false 120),qg 118 122 (.bin .eql .num 121 (iC 0)),qf 114 123 (.pick 118 122 bF),qo 124 (.pick 114 bT 123)]) (.cond 124 (sr [qo 2 (.mv (iC 3))] .ret) .skip)) (.cut [1, 3] [(.s 1), (.s 3)] (sr [qo 125 (.fa 3 0),qo 126 (ld 125),
 qm 127 126,qg 127 128 (.fa 1 1),qg 127 129 (ld 128),qg 127 130 (.call 130 132 [129]),qg 127 131 (.un .not 130),qo 132 (.pick 127 131 bF),qm 133 132,qg 133 134 (.fa 1 0),qg 133 135 (ld 134),qg 133 136 (.bin .eql .num 135 (iC 13)),qg 133 137 (.mv 136),qg 137 138 (.fa 1 1),qg 137 139 (ld 138),qg 137 140 (.bin .eql .str 139 sE),
 qg 133 141 (.pick 137 140 bF),qg 133 142 (.un .not 141),qo 143 (.pick 133 142 bF),qm 144 143,qf 144 145 (.fa 3 1),qf 144 146 (ld 145),qf 144 147 (.mv 146),qg 147 148 (.fa 1 2),qg 147 149 (ld 148),qg 147 150 (.call 150 132 [149]),qg 147 151 (.un .not 150),qf 144 152 (.pick 147 151 bF),qo 153 (.pick 144 bT 152)] (.cond 153 (sr [qo 2 (.mv (iC 15))]
 .ret) .skip)) (.seq (sr [qo 154 (.fa 3 6),qo 155 (ld 154)] (.cond 155 (sr [qo 156 (.fa 1 8),qo 157 (.load 156 4 true),qo 158 (.call 158 51 [157]),qm 4 158] (sr [qm 159 4,qo 160 (.bin .neq .num 159 (iC 0))] (.cond 160 .dead .skip))) .skip)) (sr [qo 162 (.load 1 14 true),qo 163 (.call 163 145 [162]),qm 2 163] .ret))))))))⟩
theorem w116 {O : Oracle TT} (fuel : Nat) (h11 : C11 O (f11 fuel)) (h51 : C51 O (f51 fuel)) (h132 : C132 O f132) (h144 : C144 O f144) (h145 : C145 O f145) : C116 (fun _ => vcF (S := SS) O j116) (f116 fuel) := by
 intro op5 nm6 to8 ns9 nA loB hiC sepG kH nI sJ fK prsM ksN Q R hQ h
 unfold f116 at h
 refine ⟨nle rfl, rfl, ?_⟩
 obtain ⟨R04, h, a04, b04⟩ := sc h
 refine kX (fun σ => R04 (.inr ()) ∧ σ = ⟨[pT 1], [eV (.s 1) [ci op5, .str nm6, .str to8, .isl .str ns9, ci nA, ci loB, ci hiC, .int .u8 sepG, ci kH, ci nI, .str sJ, .isl .fld fK, .isl .two prsM, .isl .lens ksN]]⟩) ?_ ?_
 refine kc h ?_ ?_ <;> intro h
 refine kc h ?_ ?_ <;> intro h
 conv => whnf
 exact ⟨ss h, rfl⟩
 replace h := sat_lft a04 h
 exact kR [] (ND 0) (hQ _ (ss h))
 replace h := sat_lft a04 h
 exact kR [] (ND 0) (hQ _ (ss h))
 rintro _ ⟨h, rfl⟩
 replace h := b04 _ h
 refine kL [] (h144 _ _ _ ?_ (sb h))
 rintro q0Y q0H q09 q05 qW qY qZ qS vP h
 obtain ⟨R06, h, a06, b06⟩ := sc h
 refine kX (fun σ => ∃ q0A q01 q0B q0C q0D q0E q07 q0F, R06 (.inr (q0A, q01, q0B, q0C, q0D, q0E, q07, q0F)) ∧ σ = ⟨[pT 1, pT 3], [eV (.s 1) [ci op5, .str nm6, .str to8, .isl .str ns9, ci nA, ci loB, ci hiC, .int .u8 sepG, ci kH, ci nI, .str sJ, .isl .fld fK, .isl .two prsM, .isl .lens ksN], eV (.s 3) [.bool q0A, .bool q01, .bool q0B, .bool q0C, .bool q0D, .bool q0E, .bool q07, .bool q0F, ci vP]]⟩) ?_ ?_
 obtain ⟨R0I, h, a0I, b0I⟩ := sc h
 refine kX (fun σ => ∃ q0J qO, R0I (.inr (q0J, qO)) ∧ σ = ⟨[pT 1, pT 3, (23, bD q0J)], [eV (.s 1) [ci op5, .str nm6, .str to8, .isl .str ns9, ci nA, ci loB, ci hiC, .int .u8 sepG, ci kH, ci nI, .str sJ, .isl .fld fK, .isl .two prsM, .isl .lens ksN], eV (.s 3) [.bool qO, .bool q0H, .bool q09, .bool q05, .bool qW, .bool qY, .bool qZ, .bool qS, ci vP]]⟩) ?_ ?_
 refine kc h ?_ ?_ <;> intro h
 conv => whnf
 exact ⟨false, q0Y, ss h, rfl⟩
 cases q0Y
 replace h := cf h
 conv => whnf
 exact ⟨true, false, ss h, rfl⟩
 replace h := ct h
 conv => whnf
 exact ⟨false, true, ss h, rfl⟩
 rintro _ ⟨q0J, qO, h, rfl⟩
 replace h := b0I _ h
 obtain ⟨R0K, h, a0K, b0K⟩ := sc h
 refine kX (fun σ => ∃ q0L qQ, R0K (.inr (q0L, qQ)) ∧ σ = ⟨[pT 1, pT 3, (33, bD q0L)], [eV (.s 1) [ci op5, .str nm6, .str to8, .isl .str ns9, ci nA, ci loB, ci hiC, .int .u8 sepG, ci kH, ci nI, .str sJ, .isl .fld fK, .isl .two prsM, .isl .lens ksN], eV (.s 3) [.bool qO, .bool qQ, .bool q09, .bool q05, .bool qW, .bool qY, .bool qZ, .bool qS, ci vP]]⟩) ?_ ?_
 cases q0J
 replace h := cf h
 refine kc h ?_ ?_ <;> intro h
 conv => whnf
 exact ⟨false, q0H, ss h, rfl⟩
 cases q0H
 replace h := cf h
 conv => whnf
 exact ⟨true, false, ss h, rfl⟩
 replace h := ct h
 conv => whnf
 exact ⟨false, true, ss h, rfl⟩
 replace h := ct h
 conv => whnf
 exact ⟨true, q0H, ss h, rfl⟩
 rintro _ ⟨q0L, qQ, h, rfl⟩
 replace h := b0K _ h
 obtain ⟨R0M, h, a0M, b0M⟩ := sc h
 refine kX (fun σ => ∃ q0N qU, R0M (.inr (q0N, qU)) ∧ σ = ⟨[pT 1, pT 3, (44, bD q0N)], [eV (.s 1) [ci op5, .str nm6, .str to8, .isl .str ns9, ci nA, ci loB, ci hiC, .int .u8 sepG, ci kH, ci nI, .str sJ, .isl .fld fK, .isl .two prsM, .isl .lens ksN], eV (.s 3) [.bool qO, .bool qQ, .bool qU, .bool q05, .bool qW, .bool qY, .bool qZ, .bool qS, ci vP]]⟩) ?_ ?_
 cases q0L
 replace h := cf h
 intro hl14
 refine kc h ?_ ?_ <;> intro h
 conv => whnf
 exact ⟨false, q09, ss h, rfl⟩
 cases q09
 replace h := cf h
 conv => whnf
 exact ⟨true, false, ss h, rfl⟩
 replace h := ct h
 conv => whnf
 exact ⟨false, true, ss h, rfl⟩
 replace h := ct h
 conv => whnf
 exact ⟨true, q09, ss h, rfl⟩
 rintro _ ⟨q0N, qU, h, rfl⟩
 replace h := b0M _ h
 obtain ⟨R0O, h, a0O, b0O⟩ := sc h
 refine kX (fun σ => ∃ q0P q00, R0O (.inr (q0P, q00)) ∧ σ = ⟨[pT 1, pT 3, (54, bD q0P)], [eV (.s 1) [ci op5, .str nm6, .str to8, .isl .str ns9, ci nA, ci loB, ci hiC, .int .u8 sepG, ci kH, ci nI, .str sJ, .isl .fld fK, .isl .two prsM, .isl .lens ksN], eV (.s 3) [.bool qO, .bool qQ, .bool qU, .bool q00, .bool qW, .bool qY, .bool qZ, .bool qS, ci vP]]⟩) ?_ ?_
 cases q0N
 replace h := cf h
 refine kc h ?_ ?_ <;> intro h
 conv => whnf
 exact ⟨false, q05, ss h, rfl⟩
 cases q05
 replace h := cf h
 conv => whnf
 exact ⟨true, false, ss h, rfl⟩
 replace h := ct h
 conv => whnf
 exact ⟨false, true, ss h, rfl⟩
 replace h := ct h
 conv => whnf
 exact ⟨true, q05, ss h, rfl⟩
 rintro _ ⟨q0P, q00, h, rfl⟩
 replace h := b0O _ h
 obtain ⟨R0Q, h, a0Q, b0Q⟩ := sc h
 refine kX (fun σ => ∃ q0R q02, R0Q (.inr (q0R, q02)) ∧ σ = ⟨[pT 1, pT 3, (69, bD q0R)], [eV (.s 1) [ci op5, .str nm6, .str to8, .isl .str ns9, ci nA, ci loB, ci hiC, .int .u8 sepG, ci kH, ci nI, .str sJ, .isl .fld fK, .isl .two prsM, .isl .lens ksN], eV (.s 3) [.bool qO, .bool qQ, .bool qU, .bool q00, .bool q02, .bool qY, .bool qZ, .bool qS, ci vP]]⟩) ?_ ?_
 cases q0P
 replace h := cf h
 refine kc h ?_ ?_ <;> intro h
 refine kc h ?_ ?_ <;> intro h
 conv => whnf
 exact ⟨false, qW, ss h, rfl⟩
 cases qW
 replace h := cf h
 conv => whnf
 exact ⟨true, false, ss h, rfl⟩
 replace h := ct h
 conv => whnf
 exact ⟨false, true, ss h, rfl⟩
 cases qW
 replace h := cf h
 conv => whnf
 exact ⟨true, false, ss h, rfl⟩
 replace h := ct h
 conv => whnf
 exact ⟨false, true, ss h, rfl⟩
 replace h := ct h
 conv => whnf
 exact ⟨true, qW, ss h, rfl⟩
 rintro _ ⟨q0R, q02, h, rfl⟩
 replace h := b0Q _ h
 obtain ⟨R0S, h, a0S, b0S⟩ := sc h
 refine kX (fun σ => ∃ q0T q08, R0S (.inr (q0T, q08)) ∧ σ = ⟨[pT 1, pT 3, (79, bD q0T)], [eV (.s 1) [ci op5, .str nm6, .str to8, .isl .str ns9, ci nA, ci loB, ci hiC, .int .u8 sepG, ci kH, ci nI, .str sJ, .isl .fld fK, .isl .two prsM, .isl .lens ksN], eV (.s 3) [.bool qO, .bool qQ, .bool qU, .bool q00, .bool q02, .bool q08, .bool qZ, .bool qS, ci vP]]⟩) ?_ ?_
 cases q0R
 replace h := cf h
 refine kc h ?_ ?_ <;> intro h
 conv => whnf
 exact ⟨false, qY, ss h, rfl⟩
 cases qY
 replace h := cf h
 conv => whnf
 exact ⟨true, false, ss h, rfl⟩
 replace h := ct h
 conv => whnf
 exact ⟨false, true, ss h, rfl⟩
 replace h := ct h
 conv => whnf
 exact ⟨true, qY, ss h, rfl⟩
 rintro _ ⟨q0T, q08, h, rfl⟩
 replace h := b0S _ h
 obtain ⟨R0U, h, a0U, b0U⟩ := sc h
 refine kX (fun σ => ∃ q0V q0G, R0U (.inr (q0V, q0G)) ∧ σ = ⟨[pT 1, pT 3, (90, bD q0V)], [eV (.s 1) [ci op5, .str nm6, .str to8, .isl .str ns9, ci nA, ci loB, ci hiC, .int .u8 sepG, ci kH, ci nI, .str sJ, .isl .fld fK, .isl .two prsM, .isl .lens ksN], eV (.s 3) [.bool qO, .bool qQ, .bool qU, .bool q00, .bool q02, .bool q08, .bool qZ, .bool q0G, ci vP]]⟩) ?_ ?_
 cases q0T
 replace h := cf h
 intro hl15
 refine kc h ?_ ?_ <;> intro h
 conv => whnf
 exact ⟨false, qS, ss h, rfl⟩
 cases qS
 replace h := cf h
 conv => whnf
 exact ⟨true, false, ss h, rfl⟩
 replace h := ct h
 conv => whnf
 exact ⟨false, true, ss h, rfl⟩
 replace h := ct h
 conv => whnf
 exact ⟨true, qS, ss h, rfl⟩
 rintro _ ⟨q0V, q0G, h, rfl⟩
 replace h := b0U _ h
 cases q0V
 replace h := cf h
 cases qZ
 replace h := cf h
 refine kL [] (h11 _ _ _ _ _ _ _ _ _ _ ?_ (sb h))
 rintro q0Z h
 cases q0Z
 replace h := cf h
 replace h := sat_lft a06 h
 exact kR [] (ND 0) (hQ _ (ss h))
 replace h := ct h
 conv => whnf
 exact ⟨qO, qQ, qU, q00, q02, q08, false, q0G, ss h, rfl⟩
 replace h := ct h
 conv => whnf
 exact ⟨qO, qQ, qU, q00, q02, q08, true, q0G, ss h, rfl⟩
 replace h := ct h
 replace h := sat_lft a06 h
 exact kR [] (ND 0) (hQ _ (ss h))
 rintro _ ⟨q0A, q01, q0B, q0C, q0D, q0E, q07, q0F, h, rfl⟩
 replace h := b06 _ h
 obtain ⟨R03, h, a03, b03⟩ := sc h
 refine kX (fun σ => R03 (.inr ()) ∧ σ = ⟨[pT 1, pT 3], [eV (.s 1) [ci op5, .str nm6, .str to8, .isl .str ns9, ci nA, ci loB, ci hiC, .int .u8 sepG, ci kH, ci nI, .str sJ, .isl .fld fK, .isl .two prsM, .isl .lens ksN], eV (.s 3) [.bool q0A, .bool q01, .bool q0B, .bool q0C, .bool q0D, .bool q0E, .bool q07, .bool q0F, ci vP]]⟩) ?_ ?_
 refine kc h ?_ ?_ <;> intro h
 refine kc h ?_ ?_ <;> intro h
 conv => whnf
 exact ⟨ss h, rfl⟩
 intro hl17
 refine kc h ?_ ?_ <;> intro h
 conv => whnf
 exact ⟨ss h, rfl⟩
 replace h := sat_lft a03 h
 exact kR [] (ND 0) (hQ _ (ss h))
 intro hl18
 refine kc h ?_ ?_ <;> intro h
 refine kc h ?_ ?_ <;> intro h
 conv => whnf
 exact ⟨ss h, rfl⟩
 intro hl19
 refine kc h ?_ ?_ <;> intro h
 conv => whnf
 exact ⟨ss h, rfl⟩
 replace h := sat_lft a03 h
 exact kR [] (ND 0) (hQ _ (ss h))
 replace h := sat_lft a03 h
 exact kR [] (ND 0) (hQ _ (ss h))
 rintro _ ⟨h, rfl⟩
 replace h := b03 _ h
 obtain ⟨RV, h, aV, bV⟩ := sc h
 refine kX (fun σ => ∃ q0W q0X, RV (.inr (q0W, q0X)) ∧ σ = ⟨[pT 1, pT 3], [eV (.s 1) [ci op5, .str nm6, .str to8, .isl .str ns9, ci nA, ci loB, ci hiC, .int .u8 sepG, ci kH, ci nI, .str sJ, .isl .fld fK, .isl .two prsM, .isl .lens ksN], eV (.s 3) [.bool q0W, .bool q0X, .bool q0B, .bool q0C, .bool q0D, .bool q0E, .bool q07, .bool q0F, ci vP]]⟩) ?_ ?_
 cases q0A
 replace h := cf h
 cases q01
 replace h := cf h
 conv => whnf
 exact ⟨false, false, ss h, rfl⟩
 replace h := ct h
 refine kL [] (h132 _ _ _ ?_ (sb h))
 rintro q10 h
 cases q10
 replace h := cf h
 replace h := sat_lft aV h
 exact kR [] (ND 0) (hQ _ (ss h))
 replace h := ct h
 conv => whnf
 exact ⟨false, true, ss h, rfl⟩
 replace h := ct h
 refine kL [] (h132 _ _ _ ?_ (sb h))
 rintro q11 h
 cases q11
 replace h := cf h
 refine kc h ?_ ?_ <;> intro h
 replace h := sat_lft aV h
 exact kR [] (ND 0) (hQ _ (ss h))
 refine kc h ?_ ?_ <;> intro h
 replace h := sat_lft aV h
 exact kR [] (ND 0) (hQ _ (ss h))
 cases q01
 replace h := cf h
 conv => whnf
 exact ⟨true, false, ss h, rfl⟩
 replace h := ct h
 refine kL [] (h132 _ _ _ ?_ (sb h))
 rintro q12 h
 cases q12
 replace h := cf h
 replace h := sat_lft aV h
 exact kR [] (ND 0) (hQ _ (ss h))
 replace h := ct h
 conv => whnf
 exact ⟨true, true, ss h, rfl⟩
 replace h := ct h
 cases q01
 replace h := cf h
 conv => whnf
 exact ⟨true, false, ss h, rfl⟩
 replace h := ct h
 refine kL [] (h132 _ _ _ ?_ (sb h))
 rintro q13 h
 cases q13
 replace h := cf h
 replace h := sat_lft aV h
 exact kR [] (ND 0) (hQ _ (ss h))
 replace h := ct h
 conv => whnf
 exact ⟨true, true, ss h, rfl⟩
 rintro _ ⟨q0W, q0X, h, rfl⟩
 replace h := bV _ h
 cases q07
 replace h := cf h
 refine kL [] (h145 _ _ _ _ _ _ _ _ _ _ _ _ _ _ _ _ ?_ (sb h))
 rintro v1A h
 exact kR [] (ND 0) (hQ _ (ss h))
 replace h := ct h
 refine kL [] (h51 _ _ _ _ _ _ ?_ (sb h))
 rintro v1B h
 refine kc h ?_ ?_ <;> intro h
 refine kL [] (h145 _ _ _ _ _ _ _ _ _ _ _ _ _ _ _ _ ?_ (sb h))
 rintro v1C h
 exact kR [] (ND 0) (hQ _ (ss h))
 exact (sat_none h).elim
def f96_L2 (self96 : Ln → Option (Int)) : List Ln → Nat → Option (Sum (Int) (Unit))
  | [], j5 => some (.inr ())
  | (.mk op6 nm7 to8 ns9 nA loB hiC sepF (.mk kG nH sI fJ) prsK ksM) :: tlN, j5 => (self96 (Ln.mk op6 nm7 to8 ns9 nA loB hiC sepF (V.mk kG nH sI fJ) prsK ksM)).bind fun vO => cond (vO != 0) (none) (f96_L2 self96 tlN (j5 + 1))
def b96 (fuel : Nat) (self96 : Ln → Option (Int)) : Ln → Option (Int)
  | .mk op6 nm7 to8 ns9 nA loB hiC sepF (.mk kG nH sI fJ) prsK ks5 => (f116 fuel (Ln.mk op6 nm7 to8 ns9 nA loB hiC sepF (V.mk kG nH sI fJ) prsK ks5)).bind fun vM => cond (vM != 0) (none) (sbind (ο := Unit) (f96_L2 self96 ks5 0) (fun () => some 0))
def f96 : Nat → Ln → Option (Int)
  | 0 => fun _ => none
  | n + 1 => b96 n (f96 n)
def C96 (O : Oracle TT) (m : Ln → Option (Int)) : Prop :=
  ∀ op5 nm6 to7 ns8 n9 loA hiB sepC kF nG sH fI prsJ ksK (Q : Int → Prop) (R : RR) (_ : ∀ vM, Q vM → R (iD vM) []) (_ : sat (m (Ln.mk op5 nm6 to7 ns8 n9 loA hiB sepC (V.mk kF nG sH fI) prsJ ksK)) Q), O 96 [.agg [ci op5, .str nm6, .str to7, .isl .str ns8, ci n9, ci loA, ci hiB, .int .u8 sepC, ci kF, ci nG, .str sH, .isl .fld fI, .isl .two prsJ, .isl .lens ksK]] [] R
def j96 : Fn TT := ⟨25, [.t 2], (sr [qo 1 (.box 1 0),qo 2 (.mv (iC 0))] (.seq (sr [qo 7 (.load 1 14 true),qo 8 (.call 8 116 [7]),qm 3 8] (sr [qm 9 3,qo 10 (.bin .neq .num 9 (iC 0))] (.cond 10 .dead .skip))) (.cut [] [] (sr [qo 12 (.fa 1 13),qo 13 (ld 12),qo 14 (.len false 13),qo 15 (.mv (iC 0))] (.block 0
 (.loop (.keep [13, 14, 15] [] (.aft (sr [qo 16 (.bin .lss .num 15 14)] (.seq (.cond 16 .skip (.exit 0)) (.seq (.block 1 (sr [qo 17 (.idxA 13 15 14),qo 18 (.load 17 14 true),qo 5 (.alloc 5 zLn),qp (.store 5 18 14)] (sr [qo 19 (.load 5 14 true),qo 20 (.call 20 96 [19]),qm 6 20] (sr [qm 21 6,qo 22 (.bin .neq .num 21 (iC 0))] (.cond 22 .dead
 .skip))))) (.reg [qo 24 (.bin .add .num 15 (iC 1)),qm 15 24])))) [.keep [13, 14, 15] []]))))) (sr [qo 2 (.mv (iC 0))] .ret))))⟩
theorem w96 {O : Oracle TT} (fuel : Nat) (self96 : Ln → Option (Int)) (h96 : C96 O self96) (h116 : C116 O (f116 fuel)) : C96 (fun _ => vcF (S := SS) O j96) (b96 fuel self96) := by
 intro opH nmI toJ nsK nM loN hiO sepP kQ nS sT fU prsV ks8 Q R hQ h
 unfold b96 at h
 refine ⟨nle rfl, rfl, ?_⟩
 refine kL [] (h116 _ _ _ _ _ _ _ _ _ _ _ _ _ _ _ _ ?_ (sb h))
 rintro vW h
 refine kc h ?_ ?_ <;> intro h
 obtain ⟨R9, h, a9, hrR9⟩ := sc h
 refine kX (fun σ => R9 (.inr ()) ∧ σ = ⟨[], []⟩) ?_ ?_
 intro hlG
 refine kX (fun σ n => ∃ (rem5 : List Ln) (j6 : Nat) (z : Int), n = rem5.length ∧ ks8.drop j6 = rem5 ∧ z = ((j6 : Nat) : Int) ∧ sat (f96_L2 self96 rem5 j6) R9 ∧ σ.keep [13, 14, 15] [] = ⟨[(13, .c (.isl .lens ks8)), (14, iD ((ks8.length : Nat) : Int)), (15, iD z)], []⟩) ⟨_, ks8, 0, _, rfl, rfl, rfl, h, rfl⟩ ?_
 rintro σ n ⟨rem5, j6, _, rfl, hrem5, rfl, h, hσ⟩
 refine kk hσ ?_
 intro tA (htA : tA = decide (((j6 : Nat) : Int) < ((ks8.length : Nat) : Int)))
 cases tA
 obtain rfl := ll_nil hrem5 htA
 rw [f96_L2] at h
 conv => whnf
 exact ⟨ss h, rfl⟩
 obtain ⟨xB, tlC, rfl, hxB, htlC⟩ := ll_cons hrem5 htA
 obtain ⟨opY, nmZ, to00, ns01, n02, lo03, hi04, sep05, ⟨k06, n07, s08, f09⟩, prs0A, ks0B⟩ := xB
 rw [f96_L2] at h
 conv => whnf
 refine ⟨lx_bd hxB, fun uuF huuF => ?_⟩
 obtain rfl := lx_eq hxB huuF
 refine kL [] (h96 _ _ _ _ _ _ _ _ _ _ _ _ _ _ _ _ ?_ (sb h))
 rintro v0C h
 refine kc h ?_ ?_ <;> intro h
 conv => whnf
 exact ⟨tlC.length, nls, tlC, j6 + 1, _, rfl, htlC, lx_wr hxB hlG, h, rfl⟩
 exact (sat_none h).elim
 rintro _ ⟨h, rfl⟩
 replace h := hrR9 _ h
 exact kR [] (ND 0) (hQ _ (ss h))
 exact (sat_none h).elim
theorem cg96 {P : Program} {fid : Nat → FuncId} (mx : MX P) (k96 : KF P fid 96 j96) (h116 : ∀ n, C116 (SP P fid) (f116 n)) : ∀ n, C96 (SP P fid) (f96 n) := by
 intro n
 induction n with
 | zero => exact fun a0 a5 a6 a7 a8 a9 aA aB aC aD aE aF aG aH Q R hQ h => (sat_none h).elim
 | succ n ih =>
  have ih0 := ih
  exact fun a0 a5 a6 a7 a8 a9 aA aB aC aD aE aF aG aH Q R hQ h => spec_of_vc mx k96 (w96 n (f96 n) ih0 (h116 n) a0 a5 a6 a7 a8 a9 aA aB aC aD aE aF aG aH Q R hQ h)
theorem c96 {P : Program} {fid : Nat → FuncId} (mx : MX P) (k96 : KF P fid 96 j96) (h116 : ∀ n, C116 (SP P fid) (f116 n)) : ∀ n, C96 (SP P fid) (f96 n) := fun n => (cg96 mx k96 h116 n)
def f70 (fuel : Nat) : Ln → Option (Int)
  | .mk op5 nm6 to7 ns8 n9 loA hiB sepC (.mk kF nG sH fI) prsJ ksK => (f94 fuel (Ln.mk op5 nm6 to7 ns8 n9 loA hiB sepC (V.mk kF nG sH fI) prsJ ksK)).bind fun vM => cond (decide (vM > 120)) (some 2) ((f95 fuel (Ln.mk op5 nm6 to7 ns8 n9 loA hiB sepC (V.mk kF nG sH fI) prsJ ksK)).bind fun vN => cond (decide (vN > 40)) (some 2) ((f96 fuel (Ln.mk op5 nm6 to7 ns8 n9 loA hiB sepC (V.mk kF nG sH fI) prsJ ksK)).bind fun vO => some vO))
def C70 (O : Oracle TT) (m : Ln → Option (Int)) : Prop :=
  ∀ op5 nm6 to7 ns8 n9 loA hiB sepC kF nG sH fI prsJ ksK (Q : Int → Prop) (R : RR) (_ : ∀ vM, Q vM → R (iD vM) []) (_ : sat (m (Ln.mk op5 nm6 to7 ns8 n9 loA hiB sepC (V.mk kF nG sH fI) prsJ ksK)) Q), O 70 [.agg [ci op5, .str nm6, .str to7, .isl .str ns8, ci n9, ci loA, ci hiB, .int .u8 sepC, ci kF, ci nG, .str sH, .isl .fld fI, .isl .two prsJ, .isl .lens ksK]] [] R
def j70 : Fn TT := ⟨13, [.t 2], (sr [qo 1 (.box 1 0),qo 2 (.mv (iC 0))] (.seq (sr [qo 3 (.load 1 14 true),qo 4 (.call 4 94 [3]),qo 5 (.bin .gtr .num 4 (iC 120)),qm 6 5,qf 6 7 (.load 1 14 true),qf 6 8 (.call 8 95 [7]),qf 6 9 (.bin .gtr .num 8 (iC 40)),qo 10 (.pick 6 bT 9)] (.cond 10 (sr [qo 2 (.mv (iC 2))] .ret) .skip)) (.seq
 (.reg [qo 11 (.load 1 14 true),qo 12 (.call 12 96 [11]),qm 2 12]) .ret)))⟩
theorem w70 {O : Oracle TT} (fuel : Nat) (h94 : C94 O (f94 fuel)) (h95 : C95 O (f95 fuel)) (h96 : C96 O (f96 fuel)) : C70 (fun _ => vcF (S := SS) O j70) (f70 fuel) := by
 intro op5 nm6 to7 ns8 n9 loA hiB sepC kF nG sH fI prsJ ksK Q R hQ h
 unfold f70 at h
 refine ⟨nle rfl, rfl, ?_⟩
 refine kL [] (h94 _ _ _ _ _ _ _ _ _ _ _ _ _ _ _ _ ?_ (sb h))
 rintro vM h
 refine kc h ?_ ?_ <;> intro h
 refine kL [] (h95 _ _ _ _ _ _ _ _ _ _ _ _ _ _ _ _ ?_ (sb h))
 rintro vN h
 refine kc h ?_ ?_ <;> intro h
 refine kL [] (h96 _ _ _ _ _ _ _ _ _ _ _ _ _ _ _ _ ?_ (sb h))
 rintro vO h
 exact kR [] (ND 0) (hQ _ (ss h))
 exact kR [] (ND 0) (hQ _ (ss h))
 exact kR [] (ND 0) (hQ _ (ss h))
def f84_L2 (l6 : PT) (k5 : Int) (m7 : BA) (lo8 : Int) (hi9 : Int) (pA : BA) (psB : PT) : Nat → Option (Sum (Tp × Int) (Unit))
  | 0 => none
  | gC + 1 => cond (decide ((0 : Int) < (wrap .i64 (((l6.length : Nat) : Int) + 1)))) (cond (k5 != 10) (lft (some ((Tp.mk k5 m7 lo8 hi9 pA psB), 0))) (none)) (some (.inr ()))
def f84 (fuel : Nat) : PT → Tp → Option (Tp × Int)
  | l5, .mk k6 m7 lo8 hi9 pA psB => sbind (ο := Unit) (f84_L2 l5 k6 m7 lo8 hi9 pA psB fuel) (fun () => some ((Tp.mk 0 (⟨#[]⟩ : BA) 0 0 (⟨#[]⟩ : BA) []), 10))
def C84 (O : Oracle TT) (m : PT → Tp → Option (Tp × Int)) : Prop :=
  ∀ l5 k6 m7 lo8 hi9 pA psB (Q : (Tp × Int) → Prop) (R : RR) (_ : ∀ kC mE loF hiG pH psI vJ, Q ((Tp.mk kC mE loF hiG pH psI), vJ) → R (.tup [.agg [ci kC, .str mE, ci loF, ci hiG, .str pH, .isl .part psI], iD vJ]) []) (_ : sat (m l5 (Tp.mk k6 m7 lo8 hi9 pA psB)) Q), O 84 [.c (.isl .dfn l5), .agg [ci k6, .str m7, ci lo8, ci hi9, .str pA, .isl .part psB]] [] R
def j84 : Fn TT := ⟨30, [.cell 4 6 true, .t 5], (sr [qo 3 (.box 3 1),qo 4 (.alloc 4 zTp),qo 5 (.mv (iC 0))] (.cut [4] [(.s 4)] (sr [qm 7 0,qo 8 (.len false 7),qo 9 (.bin .add .num 8 (iC 1)),qo 10 (.mv (iC 0))] (.block 0 (.loop (.keep [3, 4, 9, 10] [(.s 3), (.s 4)] (.aft (sr [qo 11 (.bin .lss .num 10 9)] (.seq (.cond 11 .skip (.exit 0)) (.seq (.block 1
 (.seq (sr [qo 12 (.fa 3 0),qo 13 (ld 12),qo 14 (.bin .neq .num 13 (iC 10))] (.cond 14 (sr [qo 15 (.load 3 6 true),qp (.store 4 15 6),qo 5 (.mv (iC 0))] .ret) .skip)) .dead)) .dead))) [.keep [3, 4, 9, 10] []]))))) (sr [qo 29 (.build zTp []),qp (.store 4 29 6),qo 5 (.mv (iC 10))] .ret)))⟩
theorem w84 {O : Oracle TT} (fuel : Nat) : C84 (fun _ => vcF (S := SS) O j84) (f84 fuel) := by
 intro l8 k9 mA loB hiC pE psG Q R hQ h
 unfold f84 at h
 refine ⟨nle rfl, rfl, ?_⟩
 obtain ⟨R5, h, a5, b5⟩ := sc h
 refine kX (fun σ => R5 (.inr ()) ∧ σ = ⟨[pT 4], [eV (.s 4) zTp]⟩) ?_ ?_
 intro hlH
 refine kX (fun σ n => ∃ (f6 : Nat), f6 = n ∧ sat (f84_L2 l8 k9 mA loB hiC pE psG f6) R5 ∧ σ.keep [3, 4, 9, 10] [(.s 3), (.s 4)] = ⟨[pT 3, pT 4, (9, iD (wrap .i64 (((l8.length : Nat) : Int) + 1))), (10, iD 0)], [eV (.s 3) [ci k9, .str mA, ci loB, ci hiC, .str pE, .isl .part psG], eV (.s 4) zTp]⟩) ⟨_, _, rfl, h, rfl⟩ ?_
 rintro σ n ⟨f6, rfl, h, hσ⟩
 refine kk hσ ?_
 rcases f6 with _ | gI
 rw [f84_L2] at h; exact nn h
 rw [f84_L2] at h
 refine kc h ?_ ?_ <;> intro h
 conv => whnf
 exact ⟨ss h, rfl⟩
 refine kc h ?_ ?_ <;> intro h
 exact (sat_none h).elim
 replace h := sat_lft a5 h
 exact kR [] (ND 0) (hQ _ _ _ _ _ _ _ (ss h))
 rintro _ ⟨h, rfl⟩
 replace h := b5 _ h
 exact kR [] (ND 0) (hQ _ _ _ _ _ _ _ (ss h))
def f108 : PT → Option (PT)
  | l => grdP (l.length ≤ 68719476736) (some l)
def C108 (O : Oracle TT) (m : PT → Option (PT)) : Prop :=
  ∀ l3 (Q : PT → Prop) (R : RR) (_ : ∀ (l0 : PT) (n0r : Nat) (_ : n0r = l0.length), Q l0 → R (.c (.osl (.x 0) 0 n0r)) [(.x 0, (eR .part l0))]) (_ : sat (m l3) Q), O 108 [.c (.isl .part l3)] [] R
def j108 : Fn TT := ⟨8, [.t 2], (sr [qo 2 (.mv (.c (.nils)))] (.seq (sr [qm 3 0,qo 4 (.bin .eql .slice 3 (.c (.nils)))] (.cond 4 (sr [qo 2 (.mv (.c (.nils)))] (.pre [.own 2 0 .part (.sub (.sub (.s 2) 900) 0)] .ret)) .skip)) (sr [qo 5 (.bslice 5 .part []),qm 6 0,qo 7 (.app 7 .part 68719476736 5 6),qm 2 7]
 (.pre [.own 2 0 .part (.sub (.sub (.s 2) 900) 0)] .ret))))⟩
theorem w108 {O : Oracle TT} : C108 (fun _ => vcF (S := SS) O j108) f108 := by
 intro l0 Q R hQ h
 unfold f108 at h
 obtain ⟨hb, h⟩ := sat_grdP h
 have hq := fun n e => hQ l0 n e (ss h)
 clear h hQ
 have key : ∀ (q : PT) (n : Nat), q = l0 → n = l0.length → R (.c (.osl (.x 0) 0 n)) [(.x 0, (eR .part q))] := by rintro _ _ rfl hn; exact hq _ hn
 refine ⟨nle rfl, rfl, ?_⟩
 conv => whnf
 intro t (ht : l0 ≠ [] → t = false)
 cases t
 conv => whnf
 refine ⟨rfl, rfl, ?_⟩
 conv => whnf
 refine ⟨rfl, ?_⟩
 conv => whnf
 refine ⟨(by simpa using hb : ([] : PT).length + l0.length ≤ 68719476736), ?_⟩
 conv => whnf
 exact ⟨[(.sub (.sub (.s 2) 900) 0)], (by decide : (lX 0 ++ ([(.sub (.sub (.s 2) 900) 0)] : List Id)).Nodup), key _ _ (List.nil_append l0) (by simp)⟩
 have hn : l0 = [] := by rcases Classical.em (l0 = []) with h | h; exact h; cases ht h
 conv => whnf
 exact ⟨[(.sub (.sub (.s 2) 900) 0)], (by decide : (lX 0 ++ ([(.sub (.sub (.s 2) 900) 0)] : List Id)).Nodup), key _ _ hn.symm (by rw [hn]; rfl)⟩
def f85_L2 (self85 : Tp → Option (Tp)) : Nat → Int → PT → Option (Sum (Tp) (PT))
  | 0, v5, l6 => some (.inr l6)
  | g7 + 1, v5, l6 => grdP ((0 : Int) ≤ v5 ∧ v5 < ((l6.length : Nat) : Int)) (getN l6 (0 + v5.toNat) fun uu8 => match uu8 with | (aP, .mk k9 mA loB hiC pE psF) => (self85 (Tp.mk k9 mA loB hiC pE psF)).bind fun (.mk kG mH loI hiJ pK psM) => grdP ((0 : Int) ≤ v5 ∧ v5 < ((l6.length : Nat) : Int)) (getN l6 (0 + v5.toNat) fun uuN => match uuN with | (aO, .mk kQ mU loV hiW pY psZ) => f85_L2 self85 g7 (v5 + 1) (l6.set (0 + v5.toNat) (aO, (Tp.mk kG mH loI hiJ pK psM)))))
def b85 (self85 : Tp → Option (Tp)) : Tp → Option (Tp)
  | .mk k6 m7 lo8 hi9 pA psB => (f108 psB).bind fun l5 => sbind (ο := PT) (grdP (((l5.length : Nat) : Int) ≤ 9223372036854775807) (f85_L2 self85 (((l5.length : Nat) : Int) - 0).toNat 0 l5)) (fun lC => some (Tp.mk k6 m7 lo8 hi9 pA lC))
def f85 : Nat → Tp → Option (Tp)
  | 0 => fun _ => none
  | n + 1 => b85 (f85 n)
def C85 (O : Oracle TT) (m : Tp → Option (Tp)) : Prop :=
  ∀ k5 m6 lo7 hi8 p9 psA (Q : Tp → Prop) (R : RR) (_ : ∀ kB mC loD hiE pF psG, Q (Tp.mk kB mC loD hiE pF psG) → R (.agg [ci kB, .str mC, ci loD, ci hiE, .str pF, .isl .part psG]) []) (_ : sat (m (Tp.mk k5 m6 lo7 hi8 p9 psA)) Q), O 85 [.agg [ci k5, .str m6, ci lo7, ci hi8, .str p9, .isl .part psA]] [] R
def j85 : Fn TT := ⟨28, [.cell 2 6 true], (sr [qo 1 (.box 1 0),qo 2 (.alloc 2 zTp)] (sr [qo 4 (.fa 1 5),qo 5 (ld 4),qo 6 (.call 6 108 [5]),qo 7 (.fa 1 5),qp (.store 7 6 1)] (.cut [1, 2] [(.s 1), (.s 2), (.sub (.s 6) 0)] (sr [qo 8 (.fa 1 5),qo 9 (ld 8),qo 10 (.len false 9),qo 11 (.mv (iC 0))] (.block 0
 (.loop (.keep [1, 2, 10, 11] [(.s 1), (.s 2), (.sub (.s 6) 0)] (.aft (sr [qo 12 (.bin .lss .num 11 10)] (.seq (.cond 12 .skip (.exit 0)) (.seq (.block 1 (sr [qm 13 11,qm 3 13] (.drw [] (oR 13) [12] [0, 1, 2, 3, 4, 5, 6, 7, 8, 10, 11] [qo 14 (.fa 1 5),qo 15 (ld 14),qm 16 3,qo 17 (.fa 1 5),qo 18 (ld 17),qm 19 3,
 qo 20 (.idxA 18 19 7),qo 21 (.fa 20 1),qo 22 (.load 21 6 true),qo 23 (.call 23 85 [22]),qo 24 (.idxA 15 16 7),qo 25 (.fa 24 1),qp (.store 25 23 6)]))) (.reg [qo 26 (.bin .add .num 11 (iC 1)),qm 11 26])))) [.keep [1, 2, 10, 11] [(.s 1), (.s 2), (.sub (.s 6) 0)]]))))) (sr [qo 27 (.load 1 6 true),qp (.store 2 27 6)] (.pre [.frzc (.s 2) 5 .part] .ret)))))⟩
theorem w85 {O : Oracle TT} (self85 : Tp → Option (Tp)) (h85 : C85 O self85) (h108 : C108 O f108) : C85 (fun _ => vcF (S := SS) O j85) (b85 self85) := by
 intro kF mG loH hiI pJ ps01 Q R hQ h
 unfold b85 at h
 refine ⟨nle rfl, rfl, ?_⟩
 refine kL [] (h108 _ _ _ ?_ (sb h))
 rintro lC _ rfl h
 obtain ⟨RA, h, aA, hrRA⟩ := sc h
 refine kX (fun σ => ∃ (lE : PT) (nK : Nat), nK = lE.length ∧ RA (.inr lE) ∧ σ = ⟨[pT 1, pT 2], [eV (.s 1) [ci kF, .str mG, ci loH, ci hiI, .str pJ, .osl (.sub (.s 6) 0) 0 nK], eV (.s 2) zTp, (.sub (.s 6) 0, (eR .part lE))]⟩) ?_ ?_
 intro hl02
 obtain ⟨hN00, h⟩ := sat_grdP h
 refine kX (fun σ n => ∃ (f5 : Nat) (v6 : Int) (z : Int) (l9 : PT) (nM : Nat), f5 = n ∧ f5 = (((lC.length : Nat) : Int) - v6).toNat ∧ 0 ≤ v6 ∧ v6 = z ∧ nM = l9.length ∧ sat (f85_L2 self85 f5 v6 l9) RA ∧ σ.keep [1, 2, 10, 11] [(.s 1), (.s 2), (.sub (.s 6) 0)] = ⟨[pT 1, pT 2, (10, iD ((lC.length : Nat) : Int)), (11, iD z)], [eV (.s 1) [ci kF, .str mG, ci loH, ci hiI, .str pJ, .osl (.sub (.s 6) 0) 0 nM], eV (.s 2) zTp, (.sub (.s 6) 0, (eR .part l9))]⟩) ⟨_, _, 0, _, lC, _, rfl, rfl, (by decide), rfl, LN, h, rfl⟩ ?_
 rintro σ n ⟨f5, v6, _, l9, _, rfl, hf5, hpf5, rfl, rfl, h, hσ⟩
 refine kk hσ ?_
 intro tB (htB : tB = decide (v6 < ((lC.length : Nat) : Int)))
 cases tB
 obtain rfl := il_nil hf5 htB
 rw [f85_L2] at h
 conv => whnf
 exact ⟨l9, _, LN, ss h, rfl⟩
 obtain ⟨g8, rfl, hwg8, hpg8, hfg8⟩ := il_cons hf5 hpf5 htB hN00
 rw [f85_L2] at h
 refine kp h fun hb03 h => ?_
 refine kg (sat_getN h) fun uuN huuN h => ?_
 obtain ⟨a04, ⟨k05, m06, lo07, hi08, p09, ps0A⟩⟩ := uuN
 refine kL [] (h85 _ _ _ _ _ _ _ _ ?_ (sb h))
 rintro kO mP loQ hiU pV psW h
 refine kp h fun hb0B h => ?_
 refine kg (sat_getN h) fun uuY huuY h => ?_
 obtain ⟨aZ, ⟨k0C, m0D, lo0E, hi0F, p0G, ps0H⟩⟩ := uuY
 refine ⟨(aZ, (Tp.mk kO mP loQ hiU pV psW)), rfl, ?_⟩
 conv => whnf
 exact ⟨g8, nls, g8, v6 + 1, _, (l9.set (0 + v6.toNat) (aZ, (Tp.mk kO mP loQ hiU pV psW))), _, rfl, hfg8, hpg8, hwg8.symm, LN, h, rfl⟩
 rintro _ ⟨lE, _, rfl, h, rfl⟩
 replace h := hrRA _ h
 conv => whnf
 refine ⟨LN, ?_⟩
 exact kR [] (ND 0) (hQ _ _ _ _ _ _ (ss h))
theorem cg85 {P : Program} {fid : Nat → FuncId} (mx : MX P) (k85 : KF P fid 85 j85) (h108 : C108 (SP P fid) f108) : ∀ n, C85 (SP P fid) (f85 n) := by
 intro n
 induction n with
 | zero => exact fun a0 a5 a6 a7 a8 a9 Q R hQ h => (sat_none h).elim
 | succ n ih =>
  have ih0 := ih
  exact fun a0 a5 a6 a7 a8 a9 Q R hQ h => spec_of_vc mx k85 (w85 (f85 n) ih0 h108 a0 a5 a6 a7 a8 a9 Q R hQ h)
theorem c85 {P : Program} {fid : Nat → FuncId} (mx : MX P) (k85 : KF P fid 85 j85) (h108 : C108 (SP P fid) f108) : ∀ n, C85 (SP P fid) (f85 n) := fun n => (cg85 mx k85 h108 n)
def f66 (fuel : Nat) : PT → Tp → Option (Tp × Int)
  | l5, .mk k6 m7 lo8 hi9 pA psB => (f83 fuel l5 (Tp.mk k6 m7 lo8 hi9 pA psB)).bind fun vC => cond (vC != 0) (none) ((f84 fuel l5 (Tp.mk k6 m7 lo8 hi9 pA psB)).bind fun ((.mk kE mF loG hiH pI psJ), vK) => (f85 fuel (Tp.mk kE mF loG hiH pI psJ)).bind fun (.mk kM mN loO hiP pQ psU) => some ((Tp.mk kM mN loO hiP pQ psU), vK))
def C66 (O : Oracle TT) (m : PT → Tp → Option (Tp × Int)) : Prop :=
  ∀ l5 k6 m7 lo8 hi9 pA psB (Q : (Tp × Int) → Prop) (R : RR) (_ : ∀ kC mE loF hiG pH psI vJ, Q ((Tp.mk kC mE loF hiG pH psI), vJ) → R (.tup [.agg [ci kC, .str mE, ci loF, ci hiG, .str pH, .isl .part psI], iD vJ]) []) (_ : sat (m l5 (Tp.mk k6 m7 lo8 hi9 pA psB)) Q), O 66 [.c (.isl .dfn l5), .agg [ci k6, .str m7, ci lo8, ci hi9, .str pA, .isl .part psB]] [] R
def j66 : Fn TT := ⟨24, [.cell 4 6 true, .t 5], (sr [qo 3 (.box 3 1),qo 4 (.alloc 4 zTp),qo 5 (.mv (iC 0))] (.seq (sr [qm 8 0,qo 9 (.load 3 6 true),qo 10 (.call 10 83 [8, 9]),qm 6 10] (sr [qm 11 6,qo 12 (.bin .neq .num 11 (iC 0))] (.cond 12 .dead .skip))) (sr [qm 16 0,qo 17 (.load 3 6 true),qo 18 (.call 18 84 [16, 17]),
 qm 15 18,qo 19 (.ext 15 0),qo 20 (.ext 15 1),qp (.store 3 19 6),qm 7 20] (sr [qo 21 (.load 3 6 true),qo 22 (.call 22 85 [21]),qm 23 7,qp (.store 4 22 6),qm 5 23] .ret))))⟩
theorem w66 {O : Oracle TT} (fuel : Nat) (h83 : C83 O (f83 fuel)) (h84 : C84 O (f84 fuel)) (h85 : C85 O (f85 fuel)) : C66 (fun _ => vcF (S := SS) O j66) (f66 fuel) := by
 intro l5 k6 m7 lo8 hi9 pA psB Q R hQ h
 unfold f66 at h
 refine ⟨nle rfl, rfl, ?_⟩
 refine kL [] (h83 _ _ _ _ _ _ _ _ _ ?_ (sb h))
 rintro vC h
 refine kc h ?_ ?_ <;> intro h
 refine kL [] (h84 _ _ _ _ _ _ _ _ _ ?_ (sb h))
 rintro kE mF loG hiH pI psJ vK h
 refine kL [] (h85 _ _ _ _ _ _ _ _ ?_ (sb h))
 rintro kM mN loO hiP pQ psU h
 exact kR [] (ND 0) (hQ _ _ _ _ _ _ _ (ss h))
 exact (sat_none h).elim
def f1037 : (BA × Tp) → BA → Option (Bool)
  | (a5, .mk k7 m8 lo9 hiA pB psC), s6 => cond (a5.toList == s6.toList) (some true) (some false)
def C1037 (O : Oracle TT) (m : (BA × Tp) → BA → Option (Bool)) : Prop :=
  ∀ a6 k7 m8 lo9 hiA pB psC s5 (Q : Bool → Prop) (R : RR) (_ : ∀ qF, Q qF → R (bD qF) [eV (.x 0) [.str s5]]) (_ : sat (m (a6, (Tp.mk k7 m8 lo9 hiA pB psC)) s5) Q), O 1037 [.agg [.str a6, ci k7, .str m8, ci lo9, ci hiA, .str pB, .isl .part psC], pX 0] [eV (.x 0) [.str s5]] R
def j1037 : Fn TT := ⟨8, [.t 3], (sr [qo 2 (.box 2 0),qm 3 bF] (sr [qo 4 (.fa 2 0),qo 5 (ld 4),qo 6 (ld 1),qo 7 (.bin .eql .str 5 6),qm 3 7] .ret))⟩
theorem w1037 {O : Oracle TT} : C1037 (fun _ => vcF (S := SS) O j1037) f1037 := by
 intro a5 k6 m7 lo8 hi9 pA psB sC Q R hQ h
 unfold f1037 at h
 refine ⟨nle rfl, rfl, ?_⟩
 refine kc h ?_ ?_ <;> intro h
 exact kR [] (ND 1) (hQ _ (ss h))
 exact kR [] (ND 1) (hQ _ (ss h))
def f175a_L2 (s6 : BA) : PT → Nat → Option (Sum (Int) (Unit))
  | [], j5 => some (.inr ())
  | ((a7, .mk k8 m9 loA hiB pC psF)) :: tlG, j5 => (f1037 (a7, (Tp.mk k8 m9 loA hiB pC psF)) s6).bind fun qH => cond qH (lft (some ((j5 : Nat) : Int))) (f175a_L2 s6 tlG (j5 + 1))
def f175a : PT → BA → Option (Int)
  | l3, s4 => sbind (ο := Unit) (f175a_L2 s4 l3 0) (fun () => some (-1))
def C175a (O : Oracle TT) (m : PT → BA → Option (Int)) : Prop :=
  ∀ l6 s5 (Q : Int → Prop) (R : RR) (_ : ∀ v7, Q v7 → R (iD v7) [eV (.x 0) [.str s5]]) (_ : sat (m l6 s5) Q), O 175 [.c (.isl .part l6), .c (.fn 1037 [(.x 0)])] [eV (.x 0) [.str s5]] R
def j175a : Fn TT := ⟨19, [.t 4], (sr [qo 4 (.mv (iC 0))] (.cut [] [(.x 0)] (sr [qm 6 0,qo 7 (.len false 6),qo 8 (.mv (iC 0))] (.block 0 (.loop (.keep [0, 1, 7, 8] [(.x 0)] (.aft (sr [qo 9 (.bin .lss .num 8 7)] (.seq (.cond 9 .skip (.exit 0)) (.seq (.block 1 (sr [qm 10 8,qm 5 10] (sr [qm 11 1,qm 12 0,
 qm 13 5,qo 14 (.idxA 12 13 7),qo 15 (.load 14 7 true),qo 16 (.callv 16 11 [15])] (.cond 16 (sr [qm 17 5,qm 4 17] .ret) .skip)))) (.reg [qo 18 (.bin .add .num 8 (iC 1)),qm 8 18])))) [.keep [0, 1, 7, 8] [(.x 0)]]))))) (sr [qo 4 (.mv (iC (-1)))] .ret)))⟩
theorem w175a {O : Oracle TT} (h1037 : C1037 O f1037) : C175a (fun _ => vcF (S := SS) O j175a) f175a := by
 intro l9 sG Q R hQ h
 unfold f175a at h
 refine ⟨nle rfl, rfl, ?_⟩
 obtain ⟨R6, h, a6, b6⟩ := sc h
 refine kX (fun σ => R6 (.inr ()) ∧ σ = ⟨[], [eV (.x 0) [.str sG]]⟩) ?_ ?_
 intro hlI
 refine kX (fun σ n => ∃ (rem5 : PT) (j8 : Nat) (z : Int), n = rem5.length ∧ l9.drop j8 = rem5 ∧ z = ((j8 : Nat) : Int) ∧ sat (f175a_L2 sG rem5 j8) R6 ∧ σ.keep [0, 1, 7, 8] [(.x 0)] = ⟨[(0, .c (.isl .part l9)), (1, .c (.fn 1037 [(.x 0)])), (7, iD ((l9.length : Nat) : Int)), (8, iD z)], [eV (.x 0) [.str sG]]⟩) ⟨_, l9, 0, _, rfl, rfl, rfl, h, rfl⟩ ?_
 rintro σ n ⟨rem5, j8, _, rfl, hrem5, rfl, h, hσ⟩
 refine kk hσ ?_
 intro tA (htA : tA = decide (((j8 : Nat) : Int) < ((l9.length : Nat) : Int)))
 cases tA
 obtain rfl := ll_nil hrem5 htA
 rw [f175a_L2] at h
 conv => whnf
 exact ⟨ss h, rfl⟩
 obtain ⟨xB, tlC, rfl, hxB, htlC⟩ := ll_cons hrem5 htA
 obtain ⟨aK, ⟨kM, mN, loO, hiP, pQ, psU⟩⟩ := xB
 rw [f175a_L2] at h
 conv => whnf
 refine ⟨lx_bd hxB, fun uuH huuH => ?_⟩
 obtain rfl := lx_eq hxB huuH
 refine kL [(.x 0)] (h1037 _ _ _ _ _ _ _ _ _ _ ?_ (sb h))
 rintro qJ h
 cases qJ
 replace h := cf h
 conv => whnf
 exact ⟨tlC.length, nls, tlC, j8 + 1, _, rfl, htlC, lx_wr hxB hlI, h, rfl⟩
 replace h := ct h
 replace h := sat_lft a6 h
 exact kR [] (ND 1) (hQ _ (ss h))
 rintro _ ⟨h, rfl⟩
 replace h := b6 _ h
 exact kR [] (ND 1) (hQ _ (ss h))
def f1036 : Tp → BA → Option (Int)
  | .mk k8 m9 loA hiB pC ps5, s6 => (f175a ps5 s6).bind fun v7 => some v7
def C1036 (O : Oracle TT) (m : Tp → BA → Option (Int)) : Prop :=
  ∀ k5 m6 lo7 hi8 p9 psA sB (Q : Int → Prop) (R : RR) (_ : ∀ vC, Q vC → R (iD vC) []) (_ : sat (m (Tp.mk k5 m6 lo7 hi8 p9 psA) sB) Q), O 1036 [.agg [ci k5, .str m6, ci lo7, ci hi8, .str p9, .isl .part psA], sD sB] [] R
def j1036 : Fn TT := ⟨9, [.t 4], (sr [qo 2 (.box 2 0),qo 3 (.box 3 1),qo 4 (.mv (iC 0))] (sr [qo 5 (.fa 2 5),qo 6 (ld 5),qo 7 (.mkf 1037 [3]),qo 8 (.call 8 175 [6, 7]),qm 4 8] .ret))⟩
theorem w1036 {O : Oracle TT} (h175a : C175a O f175a) : C1036 (fun _ => vcF (S := SS) O j1036) f1036 := by
 intro k5 m6 lo7 hi8 p9 psA sB Q R hQ h
 unfold f1036 at h
 refine ⟨nle rfl, rfl, ?_⟩
 refine kL [(.s 3)] (h175a _ _ _ _ ?_ (sb h))
 rintro vC h
 exact kR [] (ND 0) (hQ _ (ss h))
def f1054 : (BA × Tp) → (BA × V) → Option (Bool)
  | (a5, .mk k7 m8 lo9 hiA pB psC), (a6, .mk kF nG sH fI) => cond (a5.toList == a6.toList) (some true) (some false)
def C1054 (O : Oracle TT) (m : (BA × Tp) → (BA × V) → Option (Bool)) : Prop :=
  ∀ a5 k6 m7 lo8 hi9 pA psB aC kF nG sH fI (Q : Bool → Prop) (R : RR) (_ : ∀ qJ, Q qJ → R (bD qJ) []) (_ : sat (m (a5, (Tp.mk k6 m7 lo8 hi9 pA psB)) (aC, (V.mk kF nG sH fI))) Q), O 1054 [.agg [.str a5, ci k6, .str m7, ci lo8, ci hi9, .str pA, .isl .part psB], .agg [.str aC, ci kF, ci nG, .str sH, .isl .fld fI]] [] R
def j1054 : Fn TT := ⟨10, [.t 4], (sr [qo 2 (.box 2 0),qo 3 (.box 3 1),qm 4 bF] (sr [qo 5 (.fa 2 0),qo 6 (ld 5),qo 7 (.fa 3 0),qo 8 (ld 7),qo 9 (.bin .eql .str 6 8),qm 4 9] .ret))⟩
theorem w1054 {O : Oracle TT} : C1054 (fun _ => vcF (S := SS) O j1054) f1054 := by
 intro a5 k6 m7 lo8 hi9 pA psB aC kF nG sH fI Q R hQ h
 unfold f1054 at h
 refine ⟨nle rfl, rfl, ?_⟩
 refine kc h ?_ ?_ <;> intro h
 exact kR [] (ND 0) (hQ _ (ss h))
 exact kR [] (ND 0) (hQ _ (ss h))
def f1055_L2 (l6 : FV) : PT → Nat → Option (Sum (Bool) (Unit))
  | [], j5 => some (.inr ())
  | ((a7, .mk k8 m9 loA hiB pC psF)) :: tlG, j5 => getL l6 ((j5 : Nat) : Int) fun uuH => match uuH with | (aI, .mk kJ nK sM fN) => (f1054 (a7, (Tp.mk k8 m9 loA hiB pC psF)) (aI, (V.mk kJ nK sM fN))).bind fun qO => cond qO (f1055_L2 l6 tlG (j5 + 1)) (lft (some false))
def f1055 : PT → FV → Option (Bool)
  | l0, l3 => cond (((l0.length : Nat) : Int) != ((l3.length : Nat) : Int)) (some false) (sbind (ο := Unit) (f1055_L2 l3 l0 0) (fun () => some true))
def C1055 (O : Oracle TT) (m : PT → FV → Option (Bool)) : Prop :=
  ∀ l0 l5 (Q : Bool → Prop) (R : RR) (_ : ∀ q6, Q q6 → R (bD q6) []) (_ : sat (m l0 l5) Q), O 1055 [.c (.isl .part l0), .c (.isl .fld l5), .c (.fn 1054 [])] [] R
def j1055 : Fn TT := ⟨32, [.t 6], (sr [qm 6 bF] (.seq (sr [qm 10 0,qo 11 (.len false 10),qm 12 1,qo 13 (.len false 12),qo 14 (.bin .neq .num 11 13)] (.cond 14 (sr [qm 6 bF] .ret) .skip)) (.cut [] [] (sr [qm 15 0,qo 16 (.len false 15),qo 17 (.mv (iC 0))] (.block 0 (.loop (.keep [1, 2, 15, 16, 17] [] (.aft (.seq
 (.reg [qo 18 (.bin .lss .num 17 16)]) (.seq (.cond 18 .skip (.exit 0)) (.seq (.block 1 (sr [qm 19 17,qo 20 (.idxA 15 17 7),qo 21 (.load 20 7 true),qo 8 (.alloc 8 zPt),qm 7 19,qp (.store 8 21 7)] (sr [qm 22 1,qm 23 7,qo 24 (.idxA 22 23 5),qo 25 (.load 24 5 true),qo 9 (.alloc 9 zFd),qp (.store 9 25 5)] (sr [qm 26 2,
 qo 27 (.load 8 7 true),qo 28 (.load 9 5 true),qo 29 (.callv 29 26 [27, 28]),qo 30 (.un .not 29)] (.cond 30 (sr [qm 6 bF] .ret) .skip))))) (.reg [qo 31 (.bin .add .num 17 (iC 1)),qm 17 31])))) [.keep [1, 2, 15, 16, 17] []]))))) (sr [qm 6 bT] .ret))))⟩
theorem w1055 {O : Oracle TT} (h1054 : C1054 O f1054) : C1055 (fun _ => vcF (S := SS) O j1055) f1055 := by
 intro l9 lG Q R hQ h
 unfold f1055 at h
 refine ⟨nle rfl, rfl, ?_⟩
 intro hlM
 intro hlN
 refine kc h ?_ ?_ <;> intro h
 obtain ⟨R6, h, a6, b6⟩ := sc h
 refine kX (fun σ => R6 (.inr ()) ∧ σ = ⟨[], []⟩) ?_ ?_
 intro hlJ
 refine kX (fun σ n => ∃ (rem5 : PT) (j8 : Nat) (z : Int), n = rem5.length ∧ l9.drop j8 = rem5 ∧ z = ((j8 : Nat) : Int) ∧ sat (f1055_L2 lG rem5 j8) R6 ∧ σ.keep [1, 2, 15, 16, 17] [] = ⟨[(1, .c (.isl .fld lG)), (2, .c (.fn 1054 [])), (15, .c (.isl .part l9)), (16, iD ((l9.length : Nat) : Int)), (17, iD z)], []⟩) ⟨_, l9, 0, _, rfl, rfl, rfl, h, rfl⟩ ?_
 rintro σ n ⟨rem5, j8, _, rfl, hrem5, rfl, h, hσ⟩
 refine kk hσ ?_
 intro tA (htA : tA = decide (((j8 : Nat) : Int) < ((l9.length : Nat) : Int)))
 cases tA
 obtain rfl := ll_nil hrem5 htA
 rw [f1055_L2] at h
 conv => whnf
 exact ⟨ss h, rfl⟩
 obtain ⟨xB, tlC, rfl, hxB, htlC⟩ := ll_cons hrem5 htA
 obtain ⟨aO, ⟨kP, mQ, loU, hiV, pW, psY⟩⟩ := xB
 rw [f1055_L2] at h
 conv => whnf
 refine ⟨lx_bd hxB, fun uuH huuH => ?_⟩
 obtain rfl := lx_eq hxB huuH
 refine kg (sat_getL h) fun uuI huuI h => ?_
 obtain ⟨aZ, ⟨k00, n01, s02, f03⟩⟩ := uuI
 refine kL [] (h1054 _ _ _ _ _ _ _ _ _ _ _ _ _ _ ?_ (sb h))
 rintro qK h
 cases qK
 replace h := cf h
 replace h := sat_lft a6 h
 exact kR [] (ND 0) (hQ _ (ss h))
 replace h := ct h
 conv => whnf
 exact ⟨tlC.length, nls, tlC, j8 + 1, _, rfl, htlC, lx_wr hxB hlJ, h, rfl⟩
 rintro _ ⟨h, rfl⟩
 replace h := b6 _ h
 exact kR [] (ND 0) (hQ _ (ss h))
 exact kR [] (ND 0) (hQ _ (ss h))
def f1040 : Tp → V → Option (Bool)
  | .mk k5 mG lo7 hi8 pH psA, .mk kB n9 sI f6 => cond (k5 != kB) (some false) (sbind (ο := Bool) (cond (k5 == 1) (some (.inr true)) (cond (k5 == 2) (some (.inr true)) (cond (k5 == 4) (some (.inr true)) (some (.inr false))))) (fun qC => cond qC (cond (decide (n9 ≥ lo7)) (cond (decide (n9 ≤ hi8)) (some true) (some false)) (some false)) (cond (k5 == 5) (none) (cond (k5 == 6) ((f1055 psA f6).bind fun qF => some qF) (cond (k5 == 7) (none) (cond (k5 == 8) (cond (decide (((f6.length : Nat) : Int) ≥ lo7)) (cond (decide (((f6.length : Nat) : Int) ≤ hi8)) (some true) (some false)) (some false)) (cond (k5 == 9) (none) (some true))))))))
def C1040 (O : Oracle TT) (m : Tp → V → Option (Bool)) : Prop :=
  ∀ k5 m6 lo7 hi8 p9 psA kB nC sF fG (Q : Bool → Prop) (R : RR) (_ : ∀ qH, Q qH → R (bD qH) []) (_ : sat (m (Tp.mk k5 m6 lo7 hi8 p9 psA) (V.mk kB nC sF fG)) Q), O 1040 [.agg [ci k5, .str m6, ci lo7, ci hi8, .str p9, .isl .part psA], .agg [ci kB, ci nC, .str sF, .isl .fld fG]] [] R
def j1040 : Fn TT := ⟨87, [.t 4], (sr [qo 2 (.box 2 0),qo 3 (.box 3 1),qm 4 bF] (.seq (sr [qo 5 (.fa 2 0),qo 6 (ld 5),qo 7 (.fa 3 0),qo 8 (ld 7),qo 9 (.bin .neq .num 6 8)] (.cond 9 (sr [qm 4 bF] .ret) .skip)) (.seq (sr [qo 10 (.fa 2 0),qo 11 (ld 10)] (.block 0 (.cut [2, 3, 11, 12] [(.s 2), (.s 3)] (.seq
 (.reg [qo 13 (.bin .eql .num 11 (iC 1)),qm 12 13]) (.cond 12 .skip (sr [qo 14 (.bin .eql .num 11 (iC 2)),qm 12 14] (.cond 12 .skip (.reg [qo 15 (.bin .eql .num 11 (iC 4)),qm 12 15]))))) (.cond 12 (sr [qo 16 (.fa 3 1),qo 17 (ld 16),qo 18 (.fa 2 2),qo 19 (ld 18),qo 20 (.bin .geq .num 17 19),qm 21 20,qg 21 22 (.fa 3 1),
 qg 21 23 (ld 22),qg 21 24 (.fa 2 3),qg 21 25 (ld 24),qg 21 26 (.bin .leq .num 23 25),qo 27 (.pick 21 26 bF),qm 4 27] .ret) (sr [qo 29 (.bin .eql .num 11 (iC 5)),qm 28 29] (.cond 28 .dead (sr [qo 36 (.bin .eql .num 11 (iC 6)),qm 35 36] (.cond 35 (sr [qo 37 (.fa 2 5),qo 38 (ld 37),qo 39 (.fa 3 3),
 qo 40 (ld 39),qo 41 (.call 41 1055 [38, 40, (.c (.fn 1054 []))]),qm 4 41] .ret) (sr [qo 43 (.bin .eql .num 11 (iC 7)),qm 42 43] (.cond 42 .dead (sr [qo 49 (.bin .eql .num 11 (iC 8)),qm 48 49] (.cond 48 (sr [qo 50 (.fa 3 3),qo 51 (ld 50),qo 52 (.len false 51),qo 53 (.fa 2 2),qo 54 (ld 53),
 qo 55 (.bin .geq .num 52 54),qm 56 55,qg 56 57 (.fa 3 3),qg 56 58 (ld 57),qg 56 59 (.len false 58),qg 56 60 (.fa 2 3),qg 56 61 (ld 60),qg 56 62 (.bin .leq .num 59 61),qo 63 (.pick 56 62 bF),qm 4 63] .ret) (sr [qo 65 (.bin .eql .num 11 (iC 9)),qm 64 65] (.cond 64 .dead .skip)))))))))))))) (sr [qm 4 bT] .ret))))⟩
theorem w1040 {O : Oracle TT} (h1055 : C1055 O f1055) : C1040 (fun _ => vcF (S := SS) O j1040) f1040 := by
 intro k8 m9 loA hiB pC psG kH nI sJ fK Q R hQ h
 unfold f1040 at h
 refine ⟨nle rfl, rfl, ?_⟩
 refine kc h ?_ ?_ <;> intro h
 obtain ⟨R5, h, a5, b5⟩ := sc h
 refine kX (fun σ => ∃ q6, R5 (.inr q6) ∧ σ = ⟨[pT 2, pT 3, (11, iD k8), (12, bD q6)], [eV (.s 2) [ci k8, .str m9, ci loA, ci hiB, .str pC, .isl .part psG], eV (.s 3) [ci kH, ci nI, .str sJ, .isl .fld fK]]⟩) ?_ ?_
 refine kc h ?_ ?_ <;> intro h
 refine kc h ?_ ?_ <;> intro h
 refine kc h ?_ ?_ <;> intro h
 conv => whnf
 exact ⟨false, ss h, rfl⟩
 conv => whnf
 exact ⟨true, ss h, rfl⟩
 conv => whnf
 exact ⟨true, ss h, rfl⟩
 conv => whnf
 exact ⟨true, ss h, rfl⟩
 rintro _ ⟨q6, h, rfl⟩
 replace h := b5 _ h
 cases q6
 replace h := cf h
 refine kc h ?_ ?_ <;> intro h
 refine kc h ?_ ?_ <;> intro h
 refine kc h ?_ ?_ <;> intro h
 refine kc h ?_ ?_ <;> intro h
 refine kc h ?_ ?_ <;> intro h
 exact kR [] (ND 0) (hQ _ (ss h))
 exact (sat_none h).elim
 intro hlM
 refine kc h ?_ ?_ <;> intro h
 exact kR [] (ND 0) (hQ _ (ss h))
 intro hlN
 refine kc h ?_ ?_ <;> intro h
 exact kR [] (ND 0) (hQ _ (ss h))
 exact kR [] (ND 0) (hQ _ (ss h))
 exact (sat_none h).elim
 refine kL [] (h1055 _ _ _ _ ?_ (sb h))
 rintro qO h
 exact kR [] (ND 0) (hQ _ (ss h))
 exact (sat_none h).elim
 replace h := ct h
 refine kc h ?_ ?_ <;> intro h
 exact kR [] (ND 0) (hQ _ (ss h))
 refine kc h ?_ ?_ <;> intro h
 exact kR [] (ND 0) (hQ _ (ss h))
 exact kR [] (ND 0) (hQ _ (ss h))
 exact kR [] (ND 0) (hQ _ (ss h))
def f1079 : Int → Option (BA)
  | v0 => cond (decide (v0 < 10)) (grdP ((0 : Int) ≤ (wrap .i64 (v0 + 1)) ∧ (0 : Int) ≤ v0 ∧ v0.toNat ≤ (wrap .i64 (v0 + 1)).toNat ∧ (wrap .i64 (v0 + 1)).toNat ≤ (⟨#[48, 49, 50, 51, 52, 53, 54, 55, 56, 57, 97, 98, 99, 100, 101, 102, 103, 104, 105, 106, 107, 108, 109, 110, 111, 112, 113, 114, 115, 116, 117, 118, 119, 120, 121, 122]⟩ : BA).size) (some ((⟨#[48, 49, 50, 51, 52, 53, 54, 55, 56, 57, 97, 98, 99, 100, 101, 102, 103, 104, 105, 106, 107, 108, 109, 110, 111, 112, 113, 114, 115, 116, 117, 118, 119, 120, 121, 122]⟩ : BA).extract v0.toNat ((wrap .i64 (v0 + 1)).toNat)))) (none)
def C1079 (O : Oracle TT) (m : Int → Option (BA)) : Prop :=
  ∀ v5 (Q : BA → Prop) (R : RR) (_ : ∀ s6, Q s6 → R (sD s6) []) (_ : sat (m v5) Q), O 1079 [iD v5] [] R
def j1079 : Fn TT := ⟨15, [.t 2], (sr [qm 2 sE] (.seq (sr [qm 3 0,qo 4 (.bin .lss .num 3 (iC 10))] (.cond 4 (sr [qm 5 0,qm 6 0,qo 7 (.bin .add .num 6 (iC 1)),
 qo 8 (.slc 0 (.c (.str (⟨#[48, 49, 50, 51, 52, 53, 54, 55, 56, 57, 97, 98, 99, 100, 101, 102, 103, 104, 105, 106, 107, 108, 109, 110, 111, 112, 113, 114, 115, 116, 117, 118, 119, 120, 121, 122]⟩ : BA))) (some 5) (some 7)),qm 2 8] .ret) .dead)) .dead))⟩
theorem w1079 {O : Oracle TT} : C1079 (fun _ => vcF (S := SS) O j1079) f1079 := by
 intro v8 Q R hQ h
 unfold f1079 at h
 refine ⟨nle rfl, rfl, ?_⟩
 refine kc h ?_ ?_ <;> intro h
 exact (sat_none h).elim
 conv => whnf
 obtain ⟨⟨hb5, hb6, hb7⟩, h⟩ := sat_grdP h
 refine ⟨hb5, ?_⟩
 conv => whnf
 refine ⟨hb6, ?_⟩
 conv => whnf
 refine ⟨hb7, ?_⟩
 exact kR [] (ND 0) (hQ _ (ss h))
def f1024 : Int → Int → Option (BA)
  | v5, v6 => cond (v6 == 10) (cond (decide ((0 : Int) ≤ v5)) (cond (decide (v5 < 100)) ((f1079 v5).bind fun s7 => some s7) (none)) (none)) (none)
def C1024 (O : Oracle TT) (m : Int → Int → Option (BA)) : Prop :=
  ∀ v5 v6 (Q : BA → Prop) (R : RR) (_ : ∀ s7, Q s7 → R (sD s7) []) (_ : sat (m v5 v6) Q), O 1024 [iD v5, iD v6] [] R
def j1024 : Fn TT := ⟨54, [.t 4], (sr [qm 4 sE] (.seq (sr [qm 10 1,qo 11 (.bin .eql .num 10 (iC 10))] (.cond 11 (.seq (sr [qm 12 0,qo 13 (.bin .leq .num (iC 0) 12),qm 14 13,qg 14 15 (.mv 0),qg 14 16 (.bin .lss .num 15 (iC 100)),qo 17 (.pick 14 16 bF)] (.cond 17 (sr [qm 18 0,qo 19 (.call 19 1079 [18]),qm 4 19]
 .ret) .dead)) .dead) .dead)) .dead))⟩
theorem w1024 {O : Oracle TT} (h1079 : C1079 O f1079) : C1024 (fun _ => vcF (S := SS) O j1024) f1024 := by
 intro v5 v6 Q R hQ h
 unfold f1024 at h
 refine ⟨nle rfl, rfl, ?_⟩
 refine kc h ?_ ?_ <;> intro h
 exact (sat_none h).elim
 refine kc h ?_ ?_ <;> intro h
 exact (sat_none h).elim
 refine kc h ?_ ?_ <;> intro h
 exact (sat_none h).elim
 refine kL [] (h1079 _ _ _ ?_ (sb h))
 rintro s7 h
 exact kR [] (ND 0) (hQ _ (ss h))
def f1023 : Int → Option (BA)
  | v5 => (f1024 v5 (10 : Int)).bind fun s6 => some s6
def C1023 (O : Oracle TT) (m : Int → Option (BA)) : Prop :=
  ∀ v5 (Q : BA → Prop) (R : RR) (_ : ∀ s6, Q s6 → R (sD s6) []) (_ : sat (m v5) Q), O 1023 [iD v5] [] R
def j1023 : Fn TT := ⟨5, [.t 2], (sr [qm 2 sE] (sr [qm 3 0,qo 4 (.call 4 1024 [3, (iC 10)]),qm 2 4] .ret))⟩
theorem w1023 {O : Oracle TT} (h1024 : C1024 O f1024) : C1023 (fun _ => vcF (S := SS) O j1023) f1023 := by
 intro v5 Q R hQ h
 unfold f1023 at h
 refine ⟨nle rfl, rfl, ?_⟩
 refine kL [] (h1024 _ _ _ _ ?_ (sb h))
 rintro s6 h
 exact kR [] (ND 0) (hQ _ (ss h))
def f1022 : Int → Option (BA)
  | v5 => (f1023 v5).bind fun s6 => some s6
def C1022 (O : Oracle TT) (m : Int → Option (BA)) : Prop :=
  ∀ v5 (Q : BA → Prop) (R : RR) (_ : ∀ s6, Q s6 → R (sD s6) []) (_ : sat (m v5) Q), O 1022 [iD v5] [] R
def j1022 : Fn TT := ⟨5, [.t 2], (sr [qm 2 sE] (sr [qm 3 0,qo 4 (.call 4 1023 [3]),qm 2 4] .ret))⟩
theorem w1022 {O : Oracle TT} (h1023 : C1023 O f1023) : C1022 (fun _ => vcF (S := SS) O j1022) f1022 := by
 intro v5 Q R hQ h
 unfold f1022 at h
 refine ⟨nle rfl, rfl, ?_⟩
 refine kL [] (h1023 _ _ _ ?_ (sb h))
 rintro s6 h
 exact kR [] (ND 0) (hQ _ (ss h))
def f1039_L2 (self1039 : PT → Tp → V → Option (LB × Bool)) (l8 : PT) (k5 : Int) (ps7 : PT) : FV → Nat → Option (Sum (LB × Bool) (Unit))
  | [], j6 => some (.inr ())
  | ((a06, .mk kH nI sJ fK)) :: tlM, j6 => getL ps7 0 fun uuN => match uuN with | (a07, .mk k9 mA loB hiC pF psG) => sbind (ο := Int × BA × Int × Int × BA × PT) (cond (k5 == 6) (getL ps7 ((j6 : Nat) : Int) fun uuO => match uuO with | (a08, .mk kP mQ loU hiV pW psY) => some (.inr (kP, mQ, loU, hiV, pW, psY))) (cond (k5 == 7) (none) (cond (k5 == 8) ((f1022 ((j6 : Nat) : Int)).bind fun s09 => some (.inr (k9, mA, loB, hiC, pF, psG))) (some (.inr (k9, mA, loB, hiC, pF, psG)))))) (fun (vZ, s00, v01, v02, s03, l04) => (self1039 l8 (Tp.mk vZ s00 v01 v02 s03 l04) (V.mk kH nI sJ fK)).bind fun (l0A, q05) => cond q05 (f1039_L2 self1039 l8 k5 ps7 tlM (j6 + 1)) (none))
def b1039 (fuel : Nat) (self1039 : PT → Tp → V → Option (LB × Bool)) : PT → Tp → V → Option (LB × Bool)
  | l5, .mk k9 mA loB hiC pF psG, .mk kH nI sJ f6 => (f84 fuel l5 (Tp.mk k9 mA loB hiC pF psG)).bind fun ((.mk k7 mK loM hiN pO ps8), vQ) => (f1040 (Tp.mk k7 mK loM hiN pO ps8) (V.mk kH nI sJ f6)).bind fun qP => cond qP (sbind (ο := Unit) (f1039_L2 self1039 l5 k7 ps8 f6 0) (fun () => some ([], true))) (some ([], false))
def f1039 : Nat → PT → Tp → V → Option (LB × Bool)
  | 0 => fun _ _ _ => none
  | n + 1 => b1039 n (f1039 n)
def C1039 (O : Oracle TT) (m : PT → Tp → V → Option (LB × Bool)) : Prop :=
  ∀ l5 k6 m7 lo8 hi9 pA psB kC nF sG fH (Q : (LB × Bool) → Prop) (R : RR) (_ : ∀ lI qJ, Q (lI, qJ) → R (.tup [.c (.isl .str lI), bD qJ]) []) (_ : sat (m l5 (Tp.mk k6 m7 lo8 hi9 pA psB) (V.mk kC nF sG fH)) Q), O 1039 [.c (.isl .dfn l5), .agg [ci k6, .str m7, ci lo8, ci hi9, .str pA, .isl .part psB], .agg [ci kC, ci nF, .str sG, .isl .fld fH]] [] R
def j1039 : Fn TT := ⟨77, [.t 6, .t 7], (sr [qo 4 (.box 4 1),qo 5 (.box 5 2),qo 6 (.mv (.c (.nils))),qm 7 bF] (sr [qm 15 0,qo 16 (.load 4 6 true),qo 17 (.call 17 84 [15, 16]),qm 14 17,qo 18 (.ext 14 0),qo 19 (.ext 14 1),qp (.store 4 18 6)] (.seq (sr [qo 20 (.load 4 6 true),qo 21 (.load 5 4 true),qo 22 (.call 22 1040 [20, 21]),
 qo 23 (.un .not 22)] (.cond 23 (sr [qo 6 (.mv (.c (.nils))),qm 7 bF] (.pre [.frz 6 0 .str] .ret)) .skip)) (.cut [] [] (sr [qo 24 (.fa 5 3),qo 25 (ld 24),qo 26 (.len false 25),qo 27 (.mv (iC 0))] (.block 0 (.loop (.keep [0, 4, 25, 26, 27] [(.s 4)] (.aft (sr [qo 28 (.bin .lss .num 27 26)] (.seq (.cond 28 .skip (.exit 0)) (.seq (.block 1 (.seq
 (.reg [qm 29 27,qo 30 (.idxA 25 27 5),qo 31 (.load 30 5 true),qo 9 (.alloc 9 zFd),qm 8 29,qp (.store 9 31 5)]) (.seq (.drw [] (oR 10) [9] [0, 1, 2, 3, 4, 5, 6, 8] [qo 32 (.fa 9 0),qo 33 (ld 32),qo 34 (.fa 4 5),qo 35 (ld 34),qo 36 (.idxA 35 (iC 0) 7),qo 37 (.fa 36 1),qo 38 (.load 37 6 true),qo 11 (.alloc 11 zTp),qm 10 33,qp (.store 11 38 6)])
 (.cut [0, 4, 9, 11, 25, 26, 27] [(.s 4), (.s 9), (.s 11)] (sr [qo 39 (.fa 4 0),qo 40 (ld 39)] (.block 2 (sr [qo 42 (.bin .eql .num 40 (iC 6)),qm 41 42] (.cond 41 (.reg [qo 43 (.fa 4 5),qo 44 (ld 43),qm 45 8,qo 46 (.idxA 44 45 7),qo 47 (.fa 46 1),qo 48 (.load 47 6 true),qp (.store 11 48 6)]) (sr [qo 50 (.bin .eql .num 40 (iC 7)),
 qm 49 50] (.cond 49 .dead (sr [qo 59 (.bin .eql .num 40 (iC 8)),qm 58 59] (.cond 58 (.reg [qm 60 8,qo 61 (.call 61 1022 [60]),qm 10 61]) .skip)))))))) (sr [qm 63 0,qo 64 (.load 11 6 true),qo 65 (.fa 9 1),qo 66 (.load 65 4 true),qo 67 (.call 67 1039 [63, 64, 66]),qm 62 67,qo 68 (.ext 62 0),qo 69 (.ext 62 1),qm 12 68,
 qm 13 69] (sr [qm 70 13,qo 71 (.un .not 70)] (.cond 71 .dead .skip))))))) (.reg [qo 76 (.bin .add .num 27 (iC 1)),qm 27 76])))) [.keep [0, 4, 25, 26, 27] [(.s 4)]]))))) (sr [qo 6 (.mv (.c (.nils))),qm 7 bT] (.pre [.frz 6 0 .str] .ret))))))⟩
theorem w1039 {O : Oracle TT} (fuel : Nat) (self1039 : PT → Tp → V → Option (LB × Bool)) (h84 : C84 O (f84 fuel)) (h1039 : C1039 O self1039) (h1040 : C1040 O f1040) (h1022 : C1022 O f1022) : C1039 (fun _ => vcF (S := SS) O j1039) (b1039 fuel self1039) := by
 intro lG k0L m0M lo0N hi0O p0P ps0Q k0R n0S s0T f5 Q R hQ h
 unfold b1039 at h
 refine ⟨nle rfl, rfl, ?_⟩
 refine kL [] (h84 _ _ _ _ _ _ _ _ _ ?_ (sb h))
 rintro kH mQ loU hiV pW psI v0U h
 refine kL [] (h1040 _ _ _ _ _ _ _ _ _ _ _ _ ?_ (sb h))
 rintro q07 h
 cases q07
 replace h := cf h
 exact kR [] (ND 0) (hQ _ _ (ss h))
 replace h := ct h
 obtain ⟨R9, h, a9, hrR9⟩ := sc h
 refine kX (fun σ => R9 (.inr ()) ∧ σ = ⟨[], []⟩) ?_ ?_
 intro hl08
 refine kX (fun σ n => ∃ (rem6 : FV) (j8 : Nat) (z : Int), n = rem6.length ∧ f5.drop j8 = rem6 ∧ z = ((j8 : Nat) : Int) ∧ sat (f1039_L2 self1039 lG kH psI rem6 j8) R9 ∧ σ.keep [0, 4, 25, 26, 27] [(.s 4)] = ⟨[(0, .c (.isl .dfn lG)), pT 4, (25, .c (.isl .fld f5)), (26, iD ((f5.length : Nat) : Int)), (27, iD z)], [eV (.s 4) [ci kH, .str mQ, ci loU, ci hiV, .str pW, .isl .part psI]]⟩) ⟨_, f5, 0, _, rfl, rfl, rfl, h, rfl⟩ ?_
 rintro σ n ⟨rem6, j8, _, rfl, hrem6, rfl, h, hσ⟩
 refine kk hσ ?_
 intro tA (htA : tA = decide (((j8 : Nat) : Int) < ((f5.length : Nat) : Int)))
 cases tA
 obtain rfl := ll_nil hrem6 htA
 rw [f1039_L2] at h
 conv => whnf
 exact ⟨ss h, rfl⟩
 obtain ⟨xB, tlC, rfl, hxB, htlC⟩ := ll_cons hrem6 htA
 obtain ⟨a09, ⟨k0A, n0B, s0C, f0D⟩⟩ := xB
 rw [f1039_L2] at h
 conv => whnf
 refine ⟨lx_bd hxB, fun uuY huuY => ?_⟩
 obtain rfl := lx_eq hxB huuY
 refine kg (sat_getL h) fun uuZ huuZ h => ?_
 obtain ⟨a0V, ⟨k00, m01, lo02, hi03, p04, ps05⟩⟩ := uuZ
 obtain ⟨RF, h, aF, hrRF⟩ := sc h
 refine kX (fun σ => ∃ vJ sK vM vN sO lP, RF (.inr (vJ, sK, vM, vN, sO, lP)) ∧ σ = ⟨[(0, .c (.isl .dfn lG)), pT 4, pT 9, pT 11, (25, .c (.isl .fld f5)), (26, iD ((f5.length : Nat) : Int)), (27, iD ((j8 : Nat) : Int))], [eV (.s 4) [ci kH, .str mQ, ci loU, ci hiV, .str pW, .isl .part psI], eV (.s 9) [.str a09, ci k0A, ci n0B, .str s0C, .isl .fld f0D], eV (.s 11) [ci vJ, .str sK, ci vM, ci vN, .str sO, .isl .part lP]]⟩) ?_ ?_
 refine kc h ?_ ?_ <;> intro h
 refine kc h ?_ ?_ <;> intro h
 refine kc h ?_ ?_ <;> intro h
 conv => whnf
 exact ⟨k00, m01, lo02, hi03, p04, ps05, ss h, rfl⟩
 refine kL [] (h1022 _ _ _ ?_ (sb h))
 rintro s0W h
 conv => whnf
 exact ⟨k00, m01, lo02, hi03, p04, ps05, ss h, rfl⟩
 exact (sat_none h).elim
 refine kg (sat_getL h) fun uu06 huu06 h => ?_
 obtain ⟨a0X, ⟨k0E, m0F, lo0G, hi0H, p0I, ps0J⟩⟩ := uu06
 conv => whnf
 exact ⟨k0E, m0F, lo0G, hi0H, p0I, ps0J, ss h, rfl⟩
 rintro _ ⟨vJ, sK, vM, vN, sO, lP, h, rfl⟩
 replace h := hrRF _ h
 refine kL [] (h1039 _ _ _ _ _ _ _ _ _ _ _ _ _ ?_ (sb h))
 rintro l0Y q0K h
 cases q0K
 replace h := cf h
 exact (sat_none h).elim
 replace h := ct h
 conv => whnf
 exact ⟨tlC.length, nls, tlC, j8 + 1, _, rfl, htlC, lx_wr hxB hl08, h, rfl⟩
 rintro _ ⟨h, rfl⟩
 replace h := hrR9 _ h
 exact kR [] (ND 0) (hQ _ _ (ss h))
theorem cg1039 {P : Program} {fid : Nat → FuncId} (mx : MX P) (k1039 : KF P fid 1039 j1039) (h84 : ∀ n, C84 (SP P fid) (f84 n)) (h1040 : C1040 (SP P fid) f1040) (h1022 : C1022 (SP P fid) f1022) : ∀ n, C1039 (SP P fid) (f1039 n) := by
 intro n
 induction n with
 | zero => exact fun a0 a5 a6 a7 a8 a9 aA aB aC aD aE Q R hQ h => (sat_none h).elim
 | succ n ih =>
  have ih0 := ih
  exact fun a0 a5 a6 a7 a8 a9 aA aB aC aD aE Q R hQ h => spec_of_vc mx k1039 (w1039 n (f1039 n) (h84 n) ih0 h1040 h1022 a0 a5 a6 a7 a8 a9 aA aB aC aD aE Q R hQ h)
theorem c1039 {P : Program} {fid : Nat → FuncId} (mx : MX P) (k1039 : KF P fid 1039 j1039) (h84 : ∀ n, C84 (SP P fid) (f84 n)) (h1040 : C1040 (SP P fid) f1040) (h1022 : C1022 (SP P fid) f1022) : ∀ n, C1039 (SP P fid) (f1039 n) := fun n => (cg1039 mx k1039 h84 h1040 h1022 n)
def f1039a_L2 (fuel : Nat) (l8 : PT) (k5 : Int) (ps7 : PT) : FV → Nat → Option (Sum (LB × Bool) (Unit))
  | [], j6 => some (.inr ())
  | ((a06, .mk kH nI sJ fK)) :: tlM, j6 => getL ps7 0 fun uuN => match uuN with | (a07, .mk k9 mA loB hiC pF psG) => sbind (ο := Int × BA × Int × Int × BA × PT) (cond (k5 == 6) (getL ps7 ((j6 : Nat) : Int) fun uuO => match uuO with | (a08, .mk kP mQ loU hiV pW psY) => some (.inr (kP, mQ, loU, hiV, pW, psY))) (cond (k5 == 7) (none) (cond (k5 == 8) ((f1022 ((j6 : Nat) : Int)).bind fun s09 => some (.inr (k9, mA, loB, hiC, pF, psG))) (some (.inr (k9, mA, loB, hiC, pF, psG)))))) (fun (vZ, s00, v01, v02, s03, l04) => (f1039 fuel l8 (Tp.mk vZ s00 v01 v02 s03 l04) (V.mk kH nI sJ fK)).bind fun (l0A, q05) => cond q05 (f1039a_L2 fuel l8 k5 ps7 tlM (j6 + 1)) (none))
def f1039a (fuel : Nat) : PT → Tp → V → Option (LB × Bool)
  | l5, .mk k9 mA loB hiC pF psG, .mk kH nI sJ f6 => (f84 fuel l5 (Tp.mk k9 mA loB hiC pF psG)).bind fun ((.mk k7 mK loM hiN pO ps8), vQ) => (f1040 (Tp.mk k7 mK loM hiN pO ps8) (V.mk kH nI sJ f6)).bind fun qP => cond qP (sbind (ο := Unit) (f1039a_L2 fuel l5 k7 ps8 f6 0) (fun () => some ([], true))) (some ([], false))
def C1039a (O : Oracle TT) (m : PT → Tp → V → Option (LB × Bool)) : Prop :=
  ∀ l6 k7 m8 lo9 hiA pB psC kF nG sH fI (Q : (LB × Bool) → Prop) (R : RR) (_ : ∀ (l5 : LB) qJ (n0r : Nat) (_ : n0r = l5.length), Q (l5, qJ) → R (.tup [.c (.osl (.x 0) 0 n0r), bD qJ]) [(.x 0, (eR .str l5))]) (_ : sat (m l6 (Tp.mk k7 m8 lo9 hiA pB psC) (V.mk kF nG sH fI)) Q), O 1039 [.c (.isl .dfn l6), .agg [ci k7, .str m8, ci lo9, ci hiA, .str pB, .isl .part psC], .agg [ci kF, ci nG, .str sH, .isl .fld fI]] [] R
def j1039a : Fn TT := ⟨77, [.t 6, .t 7], (sr [qo 4 (.box 4 1),qo 5 (.box 5 2),qo 6 (.mv (.c (.nils))),qm 7 bF] (sr [qm 15 0,qo 16 (.load 4 6 true),qo 17 (.call 17 84 [15, 16]),qm 14 17,qo 18 (.ext 14 0),qo 19 (.ext 14 1),qp (.store 4 18 6)] (.seq (sr [qo 20 (.load 4 6 true),qo 21 (.load 5 4 true),qo 22 (.call 22 1040 [20, 21]),
 qo 23 (.un .not 22)] (.cond 23 (sr [qo 6 (.mv (.c (.nils))),qm 7 bF] (.pre [.own 6 0 .str (.sub (.sub (.s 6) 800) 0)] .ret)) .skip)) (.cut [] [] (sr [qo 24 (.fa 5 3),qo 25 (ld 24),qo 26 (.len false 25),qo 27 (.mv (iC 0))] (.block 0 (.loop (.keep [0, 4, 25, 26, 27] [(.s 4)] (.aft (sr [qo 28 (.bin .lss .num 27 26)] (.seq (.cond 28 .skip (.exit 0))
 (.seq (.block 1 (sr [qm 29 27,qo 30 (.idxA 25 27 5),qo 31 (.load 30 5 true),qo 9 (.alloc 9 zFd),qm 8 29,qp (.store 9 31 5)] (.seq (.drw [] (oR 10) [9] [0, 1, 2, 3, 4, 5, 6, 8] [qo 32 (.fa 9 0),qo 33 (ld 32),qo 34 (.fa 4 5),qo 35 (ld 34),qo 36 (.idxA 35 (iC 0) 7),qo 37 (.fa 36 1),qo 38 (.load 37 6 true),qo 11 (.alloc 11 zTp),qm 10 33,
 qp (.store 11 38 6)]) (.cut [0, 4, 9, 11, 25, 26, 27] [(.s 4), (.s 9), (.s 11)] (sr [qo 39 (.fa 4 0),qo 40 (ld 39)] (.block 2 (sr [qo 42 (.bin .eql .num 40 (iC 6)),qm 41 42] (.cond 41 (.reg [qo 43 (.fa 4 5),qo 44 (ld 43),qm 45 8,qo 46 (.idxA 44 45 7),qo 47 (.fa 46 1),qo 48 (.load 47 6 true),qp (.store 11 48 6)]) (.seq
 (.reg [qo 50 (.bin .eql .num 40 (iC 7)),qm 49 50]) (.cond 49 .dead (sr [qo 59 (.bin .eql .num 40 (iC 8)),qm 58 59] (.cond 58 (.reg [qm 60 8,qo 61 (.call 61 1022 [60]),qm 10 61]) .skip)))))))) (sr [qm 63 0,qo 64 (.load 11 6 true),qo 65 (.fa 9 1),qo 66 (.load 65 4 true),qo 67 (.call 67 1039 [63, 64, 66]),qm 62 67,qo 68 (.ext 62 0),
 qo 69 (.ext 62 1),qm 12 68,qm 13 69] (sr [qm 70 13,qo 71 (.un .not 70)] (.cond 71 .dead .skip))))))) (.reg [qo 76 (.bin .add .num 27 (iC 1)),qm 27 76])))) [.keep [0, 4, 25, 26, 27] [(.s 4)]]))))) (sr [qo 6 (.mv (.c (.nils))),qm 7 bT] (.pre [.own 6 0 .str (.sub (.sub (.s 6) 800) 0)] .ret))))))⟩
theorem w1039a {O : Oracle TT} (fuel : Nat) (h84 : C84 O (f84 fuel)) (h1039 : C1039 O (f1039 fuel)) (h1040 : C1040 O f1040) (h1022 : C1022 O f1022) : C1039a (fun _ => vcF (S := SS) O j1039a) (f1039a fuel) := by
 intro lH k0M m0N lo0O hi0P p0Q ps0R k0S n0T s0U f5 Q R hQ h
 unfold f1039a at h
 refine ⟨nle rfl, rfl, ?_⟩
 refine kL [] (h84 _ _ _ _ _ _ _ _ _ ?_ (sb h))
 rintro kI mU loV hiW pY psJ v0V h
 refine kL [] (h1040 _ _ _ _ _ _ _ _ _ _ _ _ ?_ (sb h))
 rintro q08 h
 cases q08
 replace h := cf h
 exact kR [(.sub (.sub (.s 6) 800) 0)] (ND 0) (hQ _ _ _ LN (ss h))
 replace h := ct h
 obtain ⟨R9, h, a9, b9⟩ := sc h
 refine kX (fun σ => R9 (.inr ()) ∧ σ = ⟨[], []⟩) ?_ ?_
 intro hl09
 refine kX (fun σ n => ∃ (rem6 : FV) (j8 : Nat) (z : Int), n = rem6.length ∧ f5.drop j8 = rem6 ∧ z = ((j8 : Nat) : Int) ∧ sat (f1039a_L2 fuel lH kI psJ rem6 j8) R9 ∧ σ.keep [0, 4, 25, 26, 27] [(.s 4)] = ⟨[(0, .c (.isl .dfn lH)), pT 4, (25, .c (.isl .fld f5)), (26, iD ((f5.length : Nat) : Int)), (27, iD z)], [eV (.s 4) [ci kI, .str mU, ci loV, ci hiW, .str pY, .isl .part psJ]]⟩) ⟨_, f5, 0, _, rfl, rfl, rfl, h, rfl⟩ ?_
 rintro σ n ⟨rem6, j8, _, rfl, hrem6, rfl, h, hσ⟩
 refine kk hσ ?_
 intro tA (htA : tA = decide (((j8 : Nat) : Int) < ((f5.length : Nat) : Int)))
 cases tA
 obtain rfl := ll_nil hrem6 htA
 rw [f1039a_L2] at h
 conv => whnf
 exact ⟨ss h, rfl⟩
 obtain ⟨xB, tlC, rfl, hxB, htlC⟩ := ll_cons hrem6 htA
 obtain ⟨a0A, ⟨k0B, n0C, s0D, f0E⟩⟩ := xB
 rw [f1039a_L2] at h
 conv => whnf
 refine ⟨lx_bd hxB, fun uuZ huuZ => ?_⟩
 obtain rfl := lx_eq hxB huuZ
 refine kg (sat_getL h) fun uu00 huu00 h => ?_
 obtain ⟨a0W, ⟨k01, m02, lo03, hi04, p05, ps06⟩⟩ := uu00
 obtain ⟨RG, h, aG, bG⟩ := sc h
 refine kX (fun σ => ∃ vK sM vN vO sP lQ, RG (.inr (vK, sM, vN, vO, sP, lQ)) ∧ σ = ⟨[(0, .c (.isl .dfn lH)), pT 4, pT 9, pT 11, (25, .c (.isl .fld f5)), (26, iD ((f5.length : Nat) : Int)), (27, iD ((j8 : Nat) : Int))], [eV (.s 4) [ci kI, .str mU, ci loV, ci hiW, .str pY, .isl .part psJ], eV (.s 9) [.str a0A, ci k0B, ci n0C, .str s0D, .isl .fld f0E], eV (.s 11) [ci vK, .str sM, ci vN, ci vO, .str sP, .isl .part lQ]]⟩) ?_ ?_
 refine kc h ?_ ?_ <;> intro h
 refine kc h ?_ ?_ <;> intro h
 refine kc h ?_ ?_ <;> intro h
 conv => whnf
 exact ⟨k01, m02, lo03, hi04, p05, ps06, ss h, rfl⟩
 refine kL [] (h1022 _ _ _ ?_ (sb h))
 rintro s0X h
 conv => whnf
 exact ⟨k01, m02, lo03, hi04, p05, ps06, ss h, rfl⟩
 exact (sat_none h).elim
 refine kg (sat_getL h) fun uu07 huu07 h => ?_
 obtain ⟨a0Y, ⟨k0F, m0G, lo0H, hi0I, p0J, ps0K⟩⟩ := uu07
 conv => whnf
 exact ⟨k0F, m0G, lo0H, hi0I, p0J, ps0K, ss h, rfl⟩
 rintro _ ⟨vK, sM, vN, vO, sP, lQ, h, rfl⟩
 replace h := bG _ h
 refine kL [] (h1039 _ _ _ _ _ _ _ _ _ _ _ _ _ ?_ (sb h))
 rintro l0Z q0L h
 cases q0L
 replace h := cf h
 exact (sat_none h).elim
 replace h := ct h
 conv => whnf
 exact ⟨tlC.length, nls, tlC, j8 + 1, _, rfl, htlC, lx_wr hxB hl09, h, rfl⟩
 rintro _ ⟨h, rfl⟩
 replace h := b9 _ h
 exact kR [(.sub (.sub (.s 6) 800) 0)] (ND 0) (hQ _ _ _ LN (ss h))
def f458_L1 : Nat → LB → Int → Int → Option (LB)
  | 0, _, _, _ => none
  | g9 + 1, l5, v6, v7 => cond (decide (v6 < v7)) (grdP ((0 : Int) ≤ v7 ∧ v7 < ((l5.length : Nat) : Int)) (getN l5 (0 + v7.toNat) fun w8 => grdP ((0 : Int) ≤ v6 ∧ v6 < ((l5.length : Nat) : Int)) (getN l5 (0 + v6.toNat) fun wA => grdP ((0 : Int) ≤ v6 ∧ v6 < ((l5.length : Nat) : Int)) (getN l5 (0 + v6.toNat) fun wB => grdP ((0 : Int) ≤ v7 ∧ v7 < ((l5.length : Nat) : Int)) (getN (l5.set (0 + v6.toNat) w8) (0 + v7.toNat) fun wC => f458_L1 g9 ((l5.set (0 + v6.toNat) w8).set (0 + v7.toNat) wA) (wrap .i64 (v6 + 1)) (wrap .i64 (v7 - 1))))))) (some l5)
def f458 (fuel : Nat) : LB → Option (LB)
  | r0 => f458_L1 fuel r0 (0 : Int) (wrap .i64 (((r0.length : Nat) : Int) - 1))
def C458 (O : Oracle TT) (m : LB → Option (LB)) : Prop :=
  ∀ (r5 : LB) (n6 : Nat) (en6 : n6 = r5.length) (Q : LB → Prop) (R : RR) (_ : ∀ (l7 : LB) (_ : l7.length = r5.length), Q l7 → R (.tup []) [(.x 0, (eR .str l7))]) (_ : sat (m r5) Q), O 458 [.c (.osl (.x 0) 0 n6)] [(.x 0, (eR .str r5))] R
def j458 : Fn TT := ⟨28, [], (sr [qm 4 0,qo 5 (.len false 4),qo 6 (.bin .sub .num 5 (iC 1)),qo 2 (.mv (iC 0)),qm 3 6] (.block 0 (.loop (.keep [0, 2, 3] [(.x 0)] (.aft (.seq (sr [qm 7 2,qm 8 3,qo 9 (.bin .lss .num 7 8)] (.cond 9 .skip (.exit 0))) (.seq (.block 1
 (.drw [] (oR 16) [13, 15] [0, 1, 2, 3, 4, 5, 6, 7, 8, 9, 10, 11, 12, 14] [qm 14 0,qm 15 2,qm 16 0,qm 17 3,qm 18 0,qm 19 3,qo 20 (.idxA 18 19 1),qo 21 (ld 20),qm 22 0,qm 23 2,qo 24 (.idxA 22 23 1),qo 25 (ld 24),qo 26 (.idxA 14 15 1),qp (.store 26 21 1),qo 27 (.idxA 16 17 1),qp (.store 27 25 1)]))
 (.reg [qm 10 2,qo 11 (.bin .add .num 10 (iC 1)),qm 12 3,qo 13 (.bin .sub .num 12 (iC 1)),qm 2 11,qm 3 13]))) [.keep [0, 2, 3] [(.x 0)]])))))⟩
theorem w458 {O : Oracle TT} (fuel : Nat) : C458 (fun _ => vcF (S := SS) O j458) (f458 fuel) := by
 intro rA nB enB Q R hQ h
 subst enB
 unfold f458 at h
 refine ⟨nle rfl, rfl, ?_⟩
 intro hlH
 refine kX (fun σ n => ∃ (f9 : Nat) (l5 : LB) (v6 : Int) (v8 : Int) (nC : Nat), f9 = n ∧ nC = l5.length ∧ l5.length = rA.length ∧ sat (f458_L1 f9 l5 v6 v8) Q ∧ σ.keep [0, 2, 3] [(.x 0)] = ⟨[(0, .c (.osl (.x 0) 0 nC)), (2, iD v6), (3, iD v8)], [(.x 0, (eR .str l5))]⟩) ⟨_, _, rA, (0 : Int), (wrap .i64 (((rA.length : Nat) : Int) - 1)), _, rfl, LN, LN, h, rfl⟩ ?_
 rintro σ n ⟨f9, l5, v6, v8, _, rfl, rfl, hkll5, h, hσ⟩
 refine kk hσ ?_
 rcases f9 with _ | gE
 rw [f458_L1] at h; exact nn h
 rw [f458_L1] at h
 refine kc h ?_ ?_ <;> intro h
 exact kR [] (ND 1) (hQ _ LN (ss h))
 refine kp h fun hbI h => ?_
 refine kg (sat_getN h) fun wF huuJ h => ?_
 refine kp h fun hbK h => ?_
 refine kg (sat_getN h) fun wG huuL h => ?_
 refine kp h fun hbM h => ?_
 refine kg (sat_getN h) fun wN huuO h => ?_
 refine ⟨wF, rfl, ?_⟩
 refine kp h fun hbP h => ?_
 refine kg (sat_getN h) fun wQ huuR h => ?_
 refine ⟨wG, rfl, ?_⟩
 conv => whnf
 exact ⟨gE, nls, gE, ((l5.set (0 + v6.toNat) wF).set (0 + v8.toNat) wG), (wrap .i64 (v6 + 1)), (wrap .i64 (v8 - 1)), _, rfl, LN, LN, h, rfl⟩
def f1038 (fuel : Nat) : PT → Tp → V → Option (Bool × LB × Int)
  | l5, .mk k6 m7 lo8 hi9 pA psB, .mk kC nF sG fH => (f83 fuel l5 (Tp.mk k6 m7 lo8 hi9 pA psB)).bind fun vI => cond (vI != 0) (none) ((f51 fuel (V.mk kC nF sG fH)).bind fun vJ => cond (vJ != 0) (none) ((f1039a fuel l5 (Tp.mk k6 m7 lo8 hi9 pA psB) (V.mk kC nF sG fH)).bind fun (lK, qM) => (f458 fuel lK).bind fun lN => some (qM, lN, 0)))
def C1038 (O : Oracle TT) (m : PT → Tp → V → Option (Bool × LB × Int)) : Prop :=
  ∀ l5 k6 m7 lo8 hi9 pA psB kC nF sG fH (Q : (Bool × LB × Int) → Prop) (R : RR) (_ : ∀ qI lJ vK, Q (qI, lJ, vK) → R (.tup [bD qI, .c (.isl .str lJ), iD vK]) []) (_ : sat (m l5 (Tp.mk k6 m7 lo8 hi9 pA psB) (V.mk kC nF sG fH)) Q), O 1038 [.c (.isl .dfn l5), .agg [ci k6, .str m7, ci lo8, ci hi9, .str pA, .isl .part psB], .agg [ci kC, ci nF, .str sG, .isl .fld fH]] [] R
def j1038 : Fn TT := ⟨32, [.t 6, .t 7, .t 8], (sr [qo 4 (.box 4 1),qo 5 (.box 5 2),qm 6 bF,qo 7 (.mv (.c (.nils))),qo 8 (.mv (iC 0))] (.seq (sr [qm 12 0,qo 13 (.load 4 6 true),qo 14 (.call 14 83 [12, 13]),qm 9 14] (sr [qm 15 9,qo 16 (.bin .neq .num 15 (iC 0))] (.cond 16 .dead .skip))) (.seq (sr [qo 18 (.load 5 4 true),
 qo 19 (.call 19 51 [18]),qo 20 (.bin .neq .num 19 (iC 0))] (.cond 20 .dead .skip)) (sr [qm 22 0,qo 23 (.load 4 6 true),qo 24 (.load 5 4 true),qo 25 (.call 25 1039 [22, 23, 24]),qm 21 25,qo 26 (.ext 21 0),qo 27 (.ext 21 1),qm 10 26,qm 11 27] (sr [qm 28 10,qo 29 (.call 29 458 [28])] (sr [qm 30 11,qm 31 10,qm 6 30,
 qm 7 31,qo 8 (.mv (iC 0))] (.pre [.frz 7 0 .str] .ret)))))))⟩
theorem w1038 {O : Oracle TT} (fuel : Nat) (h51 : C51 O (f51 fuel)) (h83 : C83 O (f83 fuel)) (h1039a : C1039a O (f1039a fuel)) (h458 : C458 O (f458 fuel)) : C1038 (fun _ => vcF (S := SS) O j1038) (f1038 fuel) := by
 intro l6 k7 m8 lo9 hiA pB psC kF nG sH fI Q R hQ h
 unfold f1038 at h
 refine ⟨nle rfl, rfl, ?_⟩
 refine kL [] (h83 _ _ _ _ _ _ _ _ _ ?_ (sb h))
 rintro vJ h
 refine kc h ?_ ?_ <;> intro h
 refine kL [] (h51 _ _ _ _ _ _ ?_ (sb h))
 rintro vK h
 refine kc h ?_ ?_ <;> intro h
 refine kL [] (h1039a _ _ _ _ _ _ _ _ _ _ _ _ _ ?_ (sb h))
 rintro lM qN _ rfl h
 refine kL [(.sub (.s 25) 0)] (h458 _ _ LN _ _ ?_ (sb h))
 rintro l5 hkrl5 h
 conv => whnf
 refine ⟨LN, ?_⟩
 exact kR [] (ND 0) (hQ _ _ _ (ss h))
 exact (sat_none h).elim
 exact (sat_none h).elim
def f1034_L2 (self1034 : Tp → Option (Tp)) : PT → Nat → PT → Option (Sum (Tp) (PT))
  | [], j6, l5 => some (.inr l5)
  | ((a7, .mk kF mG loH hiI pJ psK)) :: tlM, j6, l5 => (self1034 (Tp.mk kF mG loH hiI pJ psK)).bind fun (.mk k8 m9 loA hiB pC psE) => grdP (l5.length + ([(a7, (Tp.mk k8 m9 loA hiB pC psE))] : PT).length ≤ 68719476736) (f1034_L2 self1034 tlM (j6 + 1) (l5 ++ ([(a7, (Tp.mk k8 m9 loA hiB pC psE))] : PT)))
def b1034 (self1034 : Tp → Option (Tp)) : Tp → Option (Tp)
  | .mk k5 m6 lo7 hi8 p9 psA => sbind (ο := PT) (f1034_L2 self1034 psA 0 []) (fun lB => some (Tp.mk k5 m6 lo7 hi8 p9 lB))
def f1034 : Nat → Tp → Option (Tp)
  | 0 => fun _ => none
  | n + 1 => b1034 (f1034 n)
def C1034 (O : Oracle TT) (m : Tp → Option (Tp)) : Prop :=
  ∀ k5 m6 lo7 hi8 p9 psA (Q : Tp → Prop) (R : RR) (_ : ∀ kB mC loD hiE pF psG, Q (Tp.mk kB mC loD hiE pF psG) → R (.agg [ci kB, .str mC, ci loD, ci hiE, .str pF, .isl .part psG]) []) (_ : sat (m (Tp.mk k5 m6 lo7 hi8 p9 psA)) Q), O 1034 [.agg [ci k5, .str m6, ci lo7, ci hi8, .str p9, .isl .part psA]] [] R
def j1034 : Fn TT := ⟨28, [.cell 2 6 true], (sr [qo 1 (.box 1 0),qo 2 (.alloc 2 zTp)] (sr [qo 6 (.fa 1 5),qo 7 (ld 6),qm 3 7] (sr [qo 8 (.fa 1 5),qp (.store 8 (.c (.nils)) 1)] (.cut [1, 2] [(.s 1), (.s 2), (.sub (.sub (.s 1) 600) 5)] (sr [qm 9 3,qo 10 (.len false 9),qo 11 (.mv (iC 0))] (.block 0
 (.pre [.ownc (.s 1) 5 .part (.sub (.sub (.s 1) 600) 5)] (.loop (.keep [1, 2, 9, 10, 11] [(.s 1), (.s 2), (.sub (.sub (.s 1) 600) 5)] (.aft (sr [qo 12 (.bin .lss .num 11 10)] (.seq (.cond 12 .skip (.exit 0)) (.seq (.block 1 (sr [qo 13 (.idxA 9 11 7),qo 14 (.load 13 7 true),qo 5 (.alloc 5 zPt),qp (.store 5 14 7)]
 (.drw [(.sub (.sub (.s 1) 600) 5)] (oR 12) [11] [0, 1, 2, 3, 4, 5, 7, 10] [qo 15 (.fa 1 5),qo 16 (ld 15),qo 17 (.fa 5 0),qo 18 (ld 17),qo 19 (.fa 5 1),qo 20 (.load 19 6 true),qo 21 (.call 21 1034 [20]),qo 22 (.build zPt [((0, 1), 18), ((1, 6), 21)]),qo 23 (.bsl .part [22]),qo 24 (.app 24 .part 68719476736 16 23),qo 25 (.fa 1 5),qp (.store 25 24 1)])))
 (.reg [qo 26 (.bin .add .num 11 (iC 1)),qm 11 26])))) [.keep [1, 2, 9, 10, 11] [(.s 1), (.s 2), (.s 24)], .ownc (.s 1) 5 .part (.sub (.sub (.s 1) 600) 5)])))))) (sr [qo 27 (.load 1 6 true),qp (.store 2 27 6)] (.pre [.frzc (.s 2) 5 .part] .ret))))))⟩
theorem w1034 {O : Oracle TT} (self1034 : Tp → Option (Tp)) (h1034 : C1034 O self1034) : C1034 (fun _ => vcF (S := SS) O j1034) (b1034 self1034) := by
 intro kG mH loI hiJ pK ps9 Q R hQ h
 unfold b1034 at h
 refine ⟨nle rfl, rfl, ?_⟩
 obtain ⟨RA, h, aA, hrRA⟩ := sc h
 refine kX (fun σ => ∃ (lE : PT) (nM : Nat), nM = lE.length ∧ RA (.inr lE) ∧ σ = ⟨[pT 1, pT 2], [eV (.s 1) [ci kG, .str mH, ci loI, ci hiJ, .str pK, .osl (.sub (.sub (.s 1) 600) 5) 0 nM], eV (.s 2) zTp, (.sub (.sub (.s 1) 600) 5, (eR .part lE))]⟩) ?_ ?_
 intro hlP
 refine kX (fun σ n => ∃ (rem5 : PT) (j6 : Nat) (z : Int) (l8 : PT) (nN : Nat), n = rem5.length ∧ ps9.drop j6 = rem5 ∧ z = ((j6 : Nat) : Int) ∧ nN = l8.length ∧ sat (f1034_L2 self1034 rem5 j6 l8) RA ∧ σ.keep [1, 2, 9, 10, 11] [(.s 1), (.s 2), (.sub (.sub (.s 1) 600) 5)] = ⟨[pT 1, pT 2, (9, .c (.isl .part ps9)), (10, iD ((ps9.length : Nat) : Int)), (11, iD z)], [eV (.s 1) [ci kG, .str mH, ci loI, ci hiJ, .str pK, .osl (.sub (.sub (.s 1) 600) 5) 0 nN], eV (.s 2) zTp, (.sub (.sub (.s 1) 600) 5, (eR .part l8))]⟩) ⟨_, ps9, 0, _, [], _, rfl, rfl, rfl, LN, h, rfl⟩ ?_
 rintro σ n ⟨rem5, j6, _, l8, _, rfl, hrem5, rfl, rfl, h, hσ⟩
 refine kk hσ ?_
 intro tB (htB : tB = decide (((j6 : Nat) : Int) < ((ps9.length : Nat) : Int)))
 cases tB
 obtain rfl := ll_nil hrem5 htB
 rw [f1034_L2] at h
 conv => whnf
 exact ⟨l8, _, LN, ss h, rfl⟩
 obtain ⟨xC, tlF, rfl, hxC, htlF⟩ := ll_cons hrem5 htB
 obtain ⟨aQ, ⟨k01, m02, lo03, hi04, p05, ps06⟩⟩ := xC
 rw [f1034_L2] at h
 conv => whnf
 refine ⟨lx_bd hxC, fun uuO huuO => ?_⟩
 obtain rfl := lx_eq hxC huuO
 refine kL [] (h1034 _ _ _ _ _ _ _ _ ?_ (sb h))
 rintro kU mV loW hiY pZ ps00 h
 conv => whnf
 refine ⟨LN, rfl, ?_⟩
 conv => whnf
 refine ⟨rfl, ?_⟩
 refine kp h fun hb07 h => ?_
 conv => whnf
 exact ⟨tlF.length, nls, tlF, j6 + 1, _, (l8 ++ ([(aQ, (Tp.mk kU mV loW hiY pZ ps00))] : PT)), _, rfl, htlF, lx_wr hxC hlP, LN, h, rfl⟩
 rintro _ ⟨lE, _, rfl, h, rfl⟩
 replace h := hrRA _ h
 conv => whnf
 refine ⟨LN, ?_⟩
 exact kR [] (ND 0) (hQ _ _ _ _ _ _ (ss h))
theorem cg1034 {P : Program} {fid : Nat → FuncId} (mx : MX P) (k1034 : KF P fid 1034 j1034) : ∀ n, C1034 (SP P fid) (f1034 n) := by
 intro n
 induction n with
 | zero => exact fun a0 a5 a6 a7 a8 a9 Q R hQ h => (sat_none h).elim
 | succ n ih =>
  have ih0 := ih
  exact fun a0 a5 a6 a7 a8 a9 Q R hQ h => spec_of_vc mx k1034 (w1034 (f1034 n) ih0 a0 a5 a6 a7 a8 a9 Q R hQ h)
theorem c1034 {P : Program} {fid : Nat → FuncId} (mx : MX P) (k1034 : KF P fid 1034 j1034) : ∀ n, C1034 (SP P fid) (f1034 n) := fun n => (cg1034 mx k1034 n)
def f1034a_L2 (fuel : Nat) : PT → Nat → PT → Option (Sum (Tp) (PT))
  | [], j6, l5 => some (.inr l5)
  | ((a7, .mk kF mG loH hiI pJ psK)) :: tlM, j6, l5 => (f1034 fuel (Tp.mk kF mG loH hiI pJ psK)).bind fun (.mk k8 m9 loA hiB pC psE) => grdP (l5.length + ([(a7, (Tp.mk k8 m9 loA hiB pC psE))] : PT).length ≤ 68719476736) (f1034a_L2 fuel tlM (j6 + 1) (l5 ++ ([(a7, (Tp.mk k8 m9 loA hiB pC psE))] : PT)))
def f1034a (fuel : Nat) : Tp → Option (Tp)
  | .mk k5 m6 lo7 hi8 p9 psA => sbind (ο := PT) (f1034a_L2 fuel psA 0 []) (fun lB => some (Tp.mk k5 m6 lo7 hi8 p9 lB))
def C1034a (O : Oracle TT) (m : Tp → Option (Tp)) : Prop :=
  ∀ k6 m7 lo8 hi9 pA psB (Q : Tp → Prop) (R : RR) (_ : ∀ kC mD loE hiF pG (ps5 : PT) (n0r : Nat) (_ : n0r = ps5.length), Q (Tp.mk kC mD loE hiF pG ps5) → R (.agg [ci kC, .str mD, ci loE, ci hiF, .str pG, .osl (.x 0) 0 n0r]) [(.x 0, (eR .part ps5))]) (_ : sat (m (Tp.mk k6 m7 lo8 hi9 pA psB)) Q), O 1034 [.agg [ci k6, .str m7, ci lo8, ci hi9, .str pA, .isl .part psB]] [] R
def j1034a : Fn TT := ⟨28, [.cell 2 6 true], (sr [qo 1 (.box 1 0),qo 2 (.alloc 2 zTp)] (sr [qo 6 (.fa 1 5),qo 7 (ld 6),qm 3 7] (sr [qo 8 (.fa 1 5),qp (.store 8 (.c (.nils)) 1)] (.cut [1, 2] [(.s 1), (.s 2), (.sub (.sub (.s 1) 600) 5)] (sr [qm 9 3,qo 10 (.len false 9),qo 11 (.mv (iC 0))] (.block 0
 (.pre [.ownc (.s 1) 5 .part (.sub (.sub (.s 1) 600) 5)] (.loop (.keep [1, 2, 9, 10, 11] [(.s 1), (.s 2), (.sub (.sub (.s 1) 600) 5)] (.aft (sr [qo 12 (.bin .lss .num 11 10)] (.seq (.cond 12 .skip (.exit 0)) (.seq (.block 1 (sr [qo 13 (.idxA 9 11 7),qo 14 (.load 13 7 true),qo 5 (.alloc 5 zPt),qp (.store 5 14 7)]
 (.drw [(.sub (.sub (.s 1) 600) 5)] (oR 12) [11] [0, 1, 2, 3, 4, 5, 7, 10] [qo 15 (.fa 1 5),qo 16 (ld 15),qo 17 (.fa 5 0),qo 18 (ld 17),qo 19 (.fa 5 1),qo 20 (.load 19 6 true),qo 21 (.call 21 1034 [20]),qo 22 (.build zPt [((0, 1), 18), ((1, 6), 21)]),qo 23 (.bsl .part [22]),qo 24 (.app 24 .part 68719476736 16 23),qo 25 (.fa 1 5),qp (.store 25 24 1)])))
 (.reg [qo 26 (.bin .add .num 11 (iC 1)),qm 11 26])))) [.keep [1, 2, 9, 10, 11] [(.s 1), (.s 2), (.s 24)], .ownc (.s 1) 5 .part (.sub (.sub (.s 1) 600) 5)])))))) (sr [qo 27 (.load 1 6 true),qp (.store 2 27 6)] .ret)))))⟩
theorem w1034a {O : Oracle TT} (fuel : Nat) (h1034 : C1034 O (f1034 fuel)) : C1034a (fun _ => vcF (S := SS) O j1034a) (f1034a fuel) := by
 intro kH mI loJ hiK pM ps9 Q R hQ h
 unfold f1034a at h
 refine ⟨nle rfl, rfl, ?_⟩
 obtain ⟨RA, h, aA, bA⟩ := sc h
 refine kX (fun σ => ∃ (lE : PT) (nN : Nat), nN = lE.length ∧ RA (.inr lE) ∧ σ = ⟨[pT 1, pT 2], [eV (.s 1) [ci kH, .str mI, ci loJ, ci hiK, .str pM, .osl (.sub (.sub (.s 1) 600) 5) 0 nN], eV (.s 2) zTp, (.sub (.sub (.s 1) 600) 5, (eR .part lE))]⟩) ?_ ?_
 intro hlQ
 refine kX (fun σ n => ∃ (rem5 : PT) (j6 : Nat) (z : Int) (l8 : PT) (nO : Nat), n = rem5.length ∧ ps9.drop j6 = rem5 ∧ z = ((j6 : Nat) : Int) ∧ nO = l8.length ∧ sat (f1034a_L2 fuel rem5 j6 l8) RA ∧ σ.keep [1, 2, 9, 10, 11] [(.s 1), (.s 2), (.sub (.sub (.s 1) 600) 5)] = ⟨[pT 1, pT 2, (9, .c (.isl .part ps9)), (10, iD ((ps9.length : Nat) : Int)), (11, iD z)], [eV (.s 1) [ci kH, .str mI, ci loJ, ci hiK, .str pM, .osl (.sub (.sub (.s 1) 600) 5) 0 nO], eV (.s 2) zTp, (.sub (.sub (.s 1) 600) 5, (eR .part l8))]⟩) ⟨_, ps9, 0, _, [], _, rfl, rfl, rfl, LN, h, rfl⟩ ?_
 rintro σ n ⟨rem5, j6, _, l8, _, rfl, hrem5, rfl, rfl, h, hσ⟩
 refine kk hσ ?_
 intro tB (htB : tB = decide (((j6 : Nat) : Int) < ((ps9.length : Nat) : Int)))
 cases tB
 obtain rfl := ll_nil hrem5 htB
 rw [f1034a_L2] at h
 conv => whnf
 exact ⟨l8, _, LN, ss h, rfl⟩
 obtain ⟨xC, tlG, rfl, hxC, htlG⟩ := ll_cons hrem5 htB
 obtain ⟨aU, ⟨k02, m03, lo04, hi05, p06, ps07⟩⟩ := xC
 rw [f1034a_L2] at h
 conv => whnf
 refine ⟨lx_bd hxC, fun uuP huuP => ?_⟩
 obtain rfl := lx_eq hxC huuP
 refine kL [] (h1034 _ _ _ _ _ _ _ _ ?_ (sb h))
 rintro kV mW loY hiZ p00 ps01 h
 conv => whnf
 refine ⟨LN, rfl, ?_⟩
 conv => whnf
 refine ⟨rfl, ?_⟩
 refine kp h fun hb08 h => ?_
 conv => whnf
 exact ⟨tlG.length, nls, tlG, j6 + 1, _, (l8 ++ ([(aU, (Tp.mk kV mW loY hiZ p00 ps01))] : PT)), _, rfl, htlG, lx_wr hxC hlQ, LN, h, rfl⟩
 rintro _ ⟨lE, _, rfl, h, rfl⟩
 replace h := bA _ h
 exact kR [(.sub (.sub (.s 1) 600) 5)] (ND 0) (hQ _ _ _ _ _ _ _ LN (ss h))
def f1073 (fuel : Nat) : PT → Tp → BA → Option (Bool)
  | l5, .mk kA mB loC hiF pG psH, sI => (f66 fuel l5 (Tp.mk kA mB loC hiF pG psH)).bind fun ((.mk k6 mJ loK hiM pN ps7), vO) => cond (vO != 0) (some false) (cond (k6 != 6) (some false) ((f1036 (Tp.mk k6 mJ loK hiM pN ps7) sI).bind fun v8 => cond (decide (v8 < 0)) (some false) (getL ps7 v8 fun uuP => match uuP with | (a01, .mk kQ mU loV hiW pY psZ) => (f66 fuel l5 (Tp.mk kQ mU loV hiW pY psZ)).bind fun ((.mk k9 m02 lo03 hi04 p05 ps06), v00) => cond (v00 == 0) (cond (decide (k9 ≥ 1)) (cond (decide (k9 ≤ 5)) (some true) (some false)) (some false)) (some false))))
def C1073 (O : Oracle TT) (m : PT → Tp → BA → Option (Bool)) : Prop :=
  ∀ l5 k6 m7 lo8 hi9 pA psB sC (Q : Bool → Prop) (R : RR) (_ : ∀ qF, Q qF → R (bD qF) []) (_ : sat (m l5 (Tp.mk k6 m7 lo8 hi9 pA psB) sC) Q), O 1073 [.c (.isl .dfn l5), .agg [ci k6, .str m7, ci lo8, ci hi9, .str pA, .isl .part psB], sD sC] [] R
def j1073 : Fn TT := ⟨52, [.t 6], (sr [qo 4 (.box 4 1),qm 6 bF] (sr [qm 12 0,qo 13 (.load 4 6 true),qo 14 (.call 14 66 [12, 13]),qm 11 14,qo 15 (.ext 11 0),qo 16 (.ext 11 1),qo 7 (.alloc 7 zTp),qp (.store 7 15 6),qm 8 16] (.seq (sr [qm 17 8,qo 18 (.bin .neq .num 17 (iC 0)),qm 19 18,qf 19 20 (.fa 7 0),
 qf 19 21 (ld 20),qf 19 22 (.bin .neq .num 21 (iC 6)),qo 23 (.pick 19 bT 22)] (.cond 23 (sr [qm 6 bF] .ret) .skip)) (sr [qo 24 (.load 7 6 true),qm 25 2,qo 26 (.call 26 1036 [24, 25]),qm 9 26] (.seq (sr [qm 27 9,qo 28 (.bin .lss .num 27 (iC 0))] (.cond 28 (sr [qm 6 bF] .ret) .skip)) (sr [qm 30 0,
 qo 31 (.fa 7 5),qo 32 (ld 31),qm 33 9,qo 34 (.idxA 32 33 7),qo 35 (.fa 34 1),qo 36 (.load 35 6 true),qo 37 (.call 37 66 [30, 36]),qm 29 37,qo 38 (.ext 29 0),qo 39 (.ext 29 1),qo 10 (.alloc 10 zTp),qp (.store 10 38 6),qm 8 39] (sr [qm 40 8,qo 41 (.bin .eql .num 40 (iC 0)),qm 42 41,qg 42 43 (.fa 10 0),qg 42 44 (ld 43),
 qg 42 45 (.bin .geq .num 44 (iC 1)),qo 46 (.pick 42 45 bF),qm 47 46,qg 47 48 (.fa 10 0),qg 47 49 (ld 48),qg 47 50 (.bin .leq .num 49 (iC 5)),qo 51 (.pick 47 50 bF),qm 6 51] .ret)))))))⟩
theorem w1073 {O : Oracle TT} (fuel : Nat) (h66 : C66 O (f66 fuel)) (h1036 : C1036 O f1036) : C1073 (fun _ => vcF (S := SS) O j1073) (f1073 fuel) := by
 intro l6 k7 m8 lo9 hiA pB psC sF Q R hQ h
 unfold f1073 at h
 refine ⟨nle rfl, rfl, ?_⟩
 refine kL [] (h66 _ _ _ _ _ _ _ _ _ ?_ (sb h))
 rintro kG mH loI hiJ pK psM vN h
 refine kc h ?_ ?_ <;> intro h
 refine kc h ?_ ?_ <;> intro h
 refine kL [] (h1036 _ _ _ _ _ _ _ _ _ ?_ (sb h))
 rintro vO h
 refine kc h ?_ ?_ <;> intro h
 refine kg (sat_getL h) fun uu5 huu5 h => ?_
 obtain ⟨aP, ⟨kQ, mU, loV, hiW, pY, psZ⟩⟩ := uu5
 refine kL [] (h66 _ _ _ _ _ _ _ _ _ ?_ (sb h))
 rintro k00 m01 lo02 hi03 p04 ps05 v06 h
 refine kc h ?_ ?_ <;> intro h
 exact kR [] (ND 0) (hQ _ (ss h))
 refine kc h ?_ ?_ <;> intro h
 exact kR [] (ND 0) (hQ _ (ss h))
 refine kc h ?_ ?_ <;> intro h
 exact kR [] (ND 0) (hQ _ (ss h))
 exact kR [] (ND 0) (hQ _ (ss h))
 exact kR [] (ND 0) (hQ _ (ss h))
 exact kR [] (ND 0) (hQ _ (ss h))
 exact kR [] (ND 0) (hQ _ (ss h))
def f443 : Int → Int → PT → Option PT
  | i, j, l => grdP (0 ≤ i ∧ i < j ∧ j ≤ (l.length : Int)) (some (l.take i.toNat ++ l.drop j.toNat))
def C443 (O : Oracle TT) (m : Int → Int → PT → Option (PT)) : Prop :=
  ∀ v8 v9 (r5 : PT) (n6 : Nat) (en6 : n6 = r5.length) (Q : PT → Prop) (R : RR) (_ : ∀ (l7 : PT) (n0r : Nat) (_ : n0r = l7.length), Q l7 → R (.c (.osl (.x 1) 0 n0r)) [(.x 0, none), (.x 1, (eR .part l7))]) (_ : sat (m v8 v9 r5) Q), O 443 [.c (.osl (.x 0) 0 n6), iD v8, iD v9] [(.x 0, (eR .part r5))] R
def f1035 (fuel : Nat) : PT → Ln → Tp → Option (Tp × Int)
  | lF, .mk op5 nmG to05 ns06 n07 lo08 hi09 sep0A (.mk kH nI sJ fK) prs0B ks0C, .mk k8 m9 loA hiB pC ps7 => cond (op5 == 6) (none) ((f1036 (Tp.mk k8 m9 loA hiB pC ps7) nmG).bind fun v6 => cond (op5 == 5) (none) (cond (decide (v6 < 0)) (some ((Tp.mk 0 (⟨#[]⟩ : BA) 0 0 (⟨#[]⟩ : BA) []), 15)) ((f1034a fuel (Tp.mk k8 m9 loA hiB pC ps7)).bind fun (.mk kM mN loO hiP pQ psU) => cond (op5 == 2) (none) (cond (op5 == 4) (getL ps7 v6 fun uuV => match uuV with | (a0D, .mk kW mY loZ hi00 p01 ps02) => (f1038 fuel lF (Tp.mk kW mY loZ hi00 p01 ps02) (V.mk kH nI sJ fK)).bind fun (q03, l0E, v0F) => cond q03 ((f443 v6 (wrap .i64 (v6 + 1)) psU).bind fun l04 => some ((Tp.mk kM mN loO hiP pQ l04), 0)) (some ((Tp.mk 0 (⟨#[]⟩ : BA) 0 0 (⟨#[]⟩ : BA) []), 8))) (none)))))
def C1035 (O : Oracle TT) (m : PT → Ln → Tp → Option (Tp × Int)) : Prop :=
  ∀ l5 op6 nm7 to8 ns9 nA loB hiC sepF kG nH sI fJ prsK ksM kN mO loP hiQ pU psV (Q : (Tp × Int) → Prop) (R : RR) (_ : ∀ kW mY loZ hi00 p01 ps02 v03, Q ((Tp.mk kW mY loZ hi00 p01 ps02), v03) → R (.tup [.agg [ci kW, .str mY, ci loZ, ci hi00, .str p01, .isl .part ps02], iD v03]) []) (_ : sat (m l5 (Ln.mk op6 nm7 to8 ns9 nA loB hiC sepF (V.mk kG nH sI fJ) prsK ksM) (Tp.mk kN mO loP hiQ pU psV)) Q), O 1035 [.c (.isl .dfn l5), .agg [ci op6, .str nm7, .str to8, .isl .str ns9, ci nA, ci loB, ci hiC, .int .u8 sepF, ci kG, ci nH, .str sI, .isl .fld fJ, .isl .two prsK, .isl .lens ksM], .agg [ci kN, .str mO, ci loP, ci hiQ, .str pU, .isl .part psV]] [] R
def j1035 : Fn TT := ⟨185, [.cell 6 6 true, .t 7], (sr [qo 4 (.box 4 1),qo 5 (.box 5 2),qo 6 (.alloc 6 zTp),qo 7 (.mv (iC 0))] (.seq (sr [qo 19 (.fa 4 0),qo 20 (ld 19),qo 21 (.bin .eql .num 20 (iC 6))] (.cond 21 .dead .skip)) (sr [qo 27 (.load 5 6 true),qo 28 (.fa 4 1),qo 29 (ld 28),qo 30 (.call 30 1036 [27, 29]),qm 8 30] (.seq
 (sr [qo 31 (.fa 4 0),qo 32 (ld 31),qo 33 (.bin .eql .num 32 (iC 5))] (.cond 33 .dead .skip)) (.seq (sr [qm 64 8,qo 65 (.bin .lss .num 64 (iC 0))] (.cond 65 (sr [qo 66 (.build zTp []),qp (.store 6 66 6),qo 7 (.mv (iC 15))] .ret) .skip)) (sr [qo 67 (.load 5 6 true),qo 68 (.call 68 1034 [67]),qo 12 (.alloc 12 zTp),qp (.store 12 68 6)] (.seq
 (sr [qo 69 (.fa 4 0),qo 70 (ld 69)] (.block 0 (sr [qo 72 (.bin .eql .num 70 (iC 2)),qm 71 72] (.cond 71 .dead (sr [qo 99 (.bin .eql .num 70 (iC 4)),qm 98 99] (.cond 98 (.seq (.seq (.drw [] (oR 17) [] [0, 1, 2, 3, 4, 5, 6, 7, 8, 10, 11, 12, 13, 14, 15, 16] [qm 101 0,qo 102 (.fa 5 5),qo 103 (ld 102),qm 104 8,
 qo 105 (.idxA 103 104 7),qo 106 (.fa 105 1),qo 107 (.load 106 6 true),qo 108 (.fa 4 8),qo 109 (.load 108 4 true),qo 110 (.call 110 1038 [101, 107, 109]),qm 100 110,qo 111 (.ext 100 0),qo 112 (.ext 100 1),qo 113 (.ext 100 2),qm 15 111,qm 16 112,qm 17 113]) (sr [qm 114 15,qo 115 (.un .not 114)] (.cond 115 (sr [qo 116 (.build zTp []),
 qp (.store 6 116 6),qo 7 (.mv (iC 8))] .ret) .skip))) (.reg [qo 117 (.fa 12 5),qo 118 (ld 117),qm 119 8,qm 120 8,qo 121 (.bin .add .num 120 (iC 1)),qo 122 (.call 122 443 [118, 119, 121]),qo 123 (.fa 12 5),qp (.store 123 122 1)])) .dead)))))) (sr [qo 184 (.load 12 6 true),qp (.store 6 184 6),qo 7 (.mv (iC 0))] (.pre [.frzc (.s 6) 5 .part] .ret)))))))))⟩
theorem w1035 {O : Oracle TT} (fuel : Nat) (h1036 : C1036 O f1036) (h1038 : C1038 O (f1038 fuel)) (h1034a : C1034a O (f1034a fuel)) (h443 : C443 O f443) : C1035 (fun _ => vcF (S := SS) O j1035) (f1035 fuel) := by
 intro l7 op8 nm9 toA nsB nC loF hiG sepH kI nJ sK fM prsN ksO kP mQ loU hiV pW psY Q R hQ h
 unfold f1035 at h
 refine ⟨nle rfl, rfl, ?_⟩
 refine kc h ?_ ?_ <;> intro h
 refine kL [] (h1036 _ _ _ _ _ _ _ _ _ ?_ (sb h))
 rintro vZ h
 refine kc h ?_ ?_ <;> intro h
 refine kc h ?_ ?_ <;> intro h
 refine kL [] (h1034a _ _ _ _ _ _ _ _ ?_ (sb h))
 rintro k00 m01 lo02 hi03 p04 ps05 _ rfl h
 refine kc h ?_ ?_ <;> intro h
 refine kc h ?_ ?_ <;> intro h
 exact (sat_none h).elim
 refine kg (sat_getL h) fun uu5 huu5 h => ?_
 obtain ⟨a06, ⟨k07, m08, lo09, hi0A, p0B, ps0C⟩⟩ := uu5
 refine kL [] (h1038 _ _ _ _ _ _ _ _ _ _ _ _ _ ?_ (sb h))
 rintro q6 l0D v0E h
 cases q6
 replace h := cf h
 exact kR [] (ND 0) (hQ _ _ _ _ _ _ _ (ss h))
 replace h := ct h
 refine kL [(.sub (.s 68) 0)] (h443 _ _ _ _ LN _ _ ?_ (sb h))
 rintro l0F _ rfl h
 conv => whnf
 refine ⟨LN, ?_⟩
 exact kR [] (ND 0) (hQ _ _ _ _ _ _ _ (ss h))
 exact (sat_none h).elim
 exact kR [] (ND 0) (hQ _ _ _ _ _ _ _ (ss h))
 exact (sat_none h).elim
 exact (sat_none h).elim
def b1033 (fuel : Nat) (self1072 : PT → Ln → Tp → Option (Tp × Int)) : PT → Ln → Tp → Option (Tp × Int)
  | l6, .mk op5 nm8 to9 nsA nB loC hiF sepG (.mk kH nI sJ fK) prsM ksN, .mk kW mY loZ hi00 p01 ps02 => cond (op5 == 0) (none) (cond (op5 == 1) (none) (cond (op5 == 16) (none) ((f66 fuel l6 (Tp.mk kW mY loZ hi00 p01 ps02)).bind fun ((.mk k7 mO loP hiQ pU psV), v03) => cond (v03 != 0) (none) (sbind (ο := Unit) (sbind (ο := Bool) (cond (op5 == 3) (some (.inr true)) (cond (op5 == 14) (some (.inr true)) (cond (op5 == 17) (some (.inr true)) (cond (op5 == 18) (some (.inr true)) (some (.inr false)))))) (fun q04 => cond q04 (none) (sbind (ο := Bool) (cond (op5 == 11) (some (.inr true)) (cond (op5 == 12) (some (.inr true)) (some (.inr false)))) (fun q05 => cond q05 (none) (cond (op5 == 13) ((self1072 l6 (Ln.mk op5 nm8 to9 nsA nB loC hiF sepG (V.mk kH nI sJ fK) prsM ksN) (Tp.mk k7 mO loP hiQ pU psV)).bind fun ((.mk k06 m07 lo08 hi09 p0A ps0B), v0C) => lft (some ((Tp.mk k06 m07 lo08 hi09 p0A ps0B), v0C))) (cond (op5 == 15) ((self1072 l6 (Ln.mk op5 nm8 to9 nsA nB loC hiF sepG (V.mk kH nI sJ fK) prsM ksN) (Tp.mk k7 mO loP hiQ pU psV)).bind fun ((.mk k0D m0E lo0F hi0G p0H ps0I), v0J) => lft (some ((Tp.mk k0D m0E lo0F hi0G p0H ps0I), v0J))) (some (.inr ())))))))) (fun () => cond (k7 != 6) (some ((Tp.mk 0 (⟨#[]⟩ : BA) 0 0 (⟨#[]⟩ : BA) []), 8)) ((f1035 fuel l6 (Ln.mk op5 nm8 to9 nsA nB loC hiF sepG (V.mk kH nI sJ fK) prsM ksN) (Tp.mk k7 mO loP hiQ pU psV)).bind fun ((.mk k0K m0L lo0M hi0N p0O ps0P), v0Q) => some ((Tp.mk k0K m0L lo0M hi0N p0O ps0P), v0Q)))))))
def b1072 (fuel : Nat) (self1033 : PT → Ln → Tp → Option (Tp × Int)) : PT → Ln → Tp → Option (Tp × Int)
  | l5, .mk opB nm6 to3N ns3O n3P lo3Q hi3R sep3S (.mk kU nV sW fY) prs3T ksZ, .mk kA m00 lo01 hi02 p03 ps7 => cond (kA != 8) (cond (kA == 9) (cond (opB == 13) (cond (nm6.toList == (⟨#[]⟩ : BA).toList) ((f1034a fuel (Tp.mk kA m00 lo01 hi02 p03 ps7)).bind fun (.mk k04 m05 lo06 hi07 p08 ps8) => cond (opB == 13) (sbind (ο := Int × Int × BA × Int × Int × BA × PT) (getL ksZ 0 fun uu0K => match uu0K with | .mk op0L nm0M to0N ns0O n0P lo0Q hi0R sep0S (.mk k0T n0U s0V f0W) prs0X ks0Y => getL ps7 0 fun uu0Z => match uu0Z with | (a3U, .mk k10 m11 lo12 hi13 p14 ps15) => (self1033 l5 (Ln.mk op0L nm0M to0N ns0O n0P lo0Q hi0R sep0S (V.mk k0T n0U s0V f0W) prs0X ks0Y) (Tp.mk k10 m11 lo12 hi13 p14 ps15)).bind fun ((.mk k17 m18 lo19 hi1A p1B ps1C), v1D) => some (.inr (v1D, k17, m18, lo19, hi1A, p1B, ps1C))) (fun (v1E, vC, sF, vG, vH, sI, lJ) => cond (v1E != 0) (none) (cond (!(nm6.toList == (⟨#[]⟩ : BA).toList)) ((f1073 fuel l5 (Tp.mk vC sF vG vH sI lJ) nm6).bind fun q1F => cond q1F (grdP ((0 : Int) ≤ 0 ∧ 0 < ((ps8.length : Nat) : Int)) (getN ps8 (0 + (0 : Int).toNat) fun uu1G => match uu1G with | (a1H, .mk k3V m3W lo3X hi3Y p3Z ps40) => some ((Tp.mk k04 m05 lo06 hi07 p08 (ps8.set (0 + (0 : Int).toNat) (a1H, (Tp.mk vC sF vG vH sI lJ)))), 0))) (some ((Tp.mk 0 (⟨#[]⟩ : BA) 0 0 (⟨#[]⟩ : BA) []), 16))) (grdP ((0 : Int) ≤ 0 ∧ 0 < ((ps8.length : Nat) : Int)) (getN ps8 (0 + (0 : Int).toNat) fun uu1I => match uu1I with | (a1J, .mk k41 m42 lo43 hi44 p45 ps46) => some ((Tp.mk k04 m05 lo06 hi07 p08 (ps8.set (0 + (0 : Int).toNat) (a1J, (Tp.mk vC sF vG vH sI lJ)))), 0)))))) (getL ps7 0 fun uu1K => match uu1K with | (a47, .mk k1L m1M lo1N hi1O p1P ps1Q) => (f66 fuel l5 (Tp.mk k1L m1M lo1N hi1O p1P ps1Q)).bind fun ((.mk k09 m1R lo1S hi1T p1U ps0A), v1V) => cond (v1V != 0) (none) (cond (k09 != 6) (some ((Tp.mk 0 (⟨#[]⟩ : BA) 0 0 (⟨#[]⟩ : BA) []), 8)) ((f1036 (Tp.mk k09 m1R lo1S hi1T p1U ps0A) nm6).bind fun v0B => cond (decide (v0B < 0)) (some ((Tp.mk 0 (⟨#[]⟩ : BA) 0 0 (⟨#[]⟩ : BA) []), 15)) (getL ps0A v0B fun uu1W => match uu1W with | (a48, .mk k1X m1Y lo1Z hi20 p21 ps22) => (f1038 fuel l5 (Tp.mk k1X m1Y lo1Z hi20 p21 ps22) (V.mk kU nV sW fY)).bind fun (q23, l49, v4A) => cond q23 (none) (some ((Tp.mk 0 (⟨#[]⟩ : BA) 0 0 (⟨#[]⟩ : BA) []), 8))))))) (some ((Tp.mk 0 (⟨#[]⟩ : BA) 0 0 (⟨#[]⟩ : BA) []), 8))) (some ((Tp.mk 0 (⟨#[]⟩ : BA) 0 0 (⟨#[]⟩ : BA) []), 8))) (some ((Tp.mk 0 (⟨#[]⟩ : BA) 0 0 (⟨#[]⟩ : BA) []), 8))) ((f1034a fuel (Tp.mk kA m00 lo01 hi02 p03 ps7)).bind fun (.mk k0C m0D lo0E hi0F p0G ps9) => cond (opB == 13) (sbind (ο := Int × Int × BA × Int × Int × BA × PT) (getL ksZ 0 fun uu24 => match uu24 with | .mk op25 nm26 to27 ns28 n29 lo2A hi2B sep2C (.mk k2D n2E s2F f2G) prs2H ks2I => getL ps7 0 fun uu2J => match uu2J with | (a4B, .mk k2K m2L lo2M hi2N p2O ps2P) => (self1033 l5 (Ln.mk op25 nm26 to27 ns28 n29 lo2A hi2B sep2C (V.mk k2D n2E s2F f2G) prs2H ks2I) (Tp.mk k2K m2L lo2M hi2N p2O ps2P)).bind fun ((.mk k2Q m2R lo2S hi2T p2U ps2V), v2W) => some (.inr (v2W, k2Q, m2R, lo2S, hi2T, p2U, ps2V))) (fun (v2X, vK, sM, vN, vO, sP, lQ) => cond (v2X != 0) (none) (cond (!(nm6.toList == (⟨#[]⟩ : BA).toList)) ((f1073 fuel l5 (Tp.mk vK sM vN vO sP lQ) nm6).bind fun q2Y => cond q2Y (grdP ((0 : Int) ≤ 0 ∧ 0 < ((ps9.length : Nat) : Int)) (getN ps9 (0 + (0 : Int).toNat) fun uu2Z => match uu2Z with | (a30, .mk k4C m4D lo4E hi4F p4G ps4H) => some ((Tp.mk k0C m0D lo0E hi0F p0G (ps9.set (0 + (0 : Int).toNat) (a30, (Tp.mk vK sM vN vO sP lQ)))), 0))) (some ((Tp.mk 0 (⟨#[]⟩ : BA) 0 0 (⟨#[]⟩ : BA) []), 16))) (grdP ((0 : Int) ≤ 0 ∧ 0 < ((ps9.length : Nat) : Int)) (getN ps9 (0 + (0 : Int).toNat) fun uu31 => match uu31 with | (a32, .mk k4I m4J lo4K hi4L p4M ps4N) => some ((Tp.mk k0C m0D lo0E hi0F p0G (ps9.set (0 + (0 : Int).toNat) (a32, (Tp.mk vK sM vN vO sP lQ)))), 0)))))) (getL ps7 0 fun uu33 => match uu33 with | (a4O, .mk k34 m35 lo36 hi37 p38 ps39) => (f66 fuel l5 (Tp.mk k34 m35 lo36 hi37 p38 ps39)).bind fun ((.mk k0H m3A lo3B hi3C p3D ps0I), v3E) => cond (v3E != 0) (none) (cond (k0H != 6) (some ((Tp.mk 0 (⟨#[]⟩ : BA) 0 0 (⟨#[]⟩ : BA) []), 8)) ((f1036 (Tp.mk k0H m3A lo3B hi3C p3D ps0I) nm6).bind fun v0J => cond (decide (v0J < 0)) (some ((Tp.mk 0 (⟨#[]⟩ : BA) 0 0 (⟨#[]⟩ : BA) []), 15)) (getL ps0I v0J fun uu3F => match uu3F with | (a4P, .mk k3G m3H lo3I hi3J p3K ps3L) => (f1038 fuel l5 (Tp.mk k3G m3H lo3I hi3J p3K ps3L) (V.mk kU nV sW fY)).bind fun (q3M, l4Q, v4R) => cond q3M (none) (some ((Tp.mk 0 (⟨#[]⟩ : BA) 0 0 (⟨#[]⟩ : BA) []), 8)))))))
def S1033 : Nat → (PT → Ln → Tp → Option (Tp × Int)) × (PT → Ln → Tp → Option (Tp × Int))
  | 0 => (fun _ _ _ => none, fun _ _ _ => none)
  | n + 1 => (b1033 n (S1033 n).2, b1072 n (S1033 n).1)
def f1033 (n : Nat) : PT → Ln → Tp → Option (Tp × Int) := (S1033 n).1
def f1072 (n : Nat) : PT → Ln → Tp → Option (Tp × Int) := (S1033 n).2
def C1033 (O : Oracle TT) (m : PT → Ln → Tp → Option (Tp × Int)) : Prop :=
  ∀ l5 op6 nm7 to8 ns9 nA loB hiC sepF kG nH sI fJ prsK ksM kN mO loP hiQ pU psV (Q : (Tp × Int) → Prop) (R : RR) (_ : ∀ kW mY loZ hi00 p01 ps02 v03, Q ((Tp.mk kW mY loZ hi00 p01 ps02), v03) → R (.tup [.agg [ci kW, .str mY, ci loZ, ci hi00, .str p01, .isl .part ps02], iD v03]) []) (_ : sat (m l5 (Ln.mk op6 nm7 to8 ns9 nA loB hiC sepF (V.mk kG nH sI fJ) prsK ksM) (Tp.mk kN mO loP hiQ pU psV)) Q), O 1033 [.c (.isl .dfn l5), .agg [ci op6, .str nm7, .str to8, .isl .str ns9, ci nA, ci loB, ci hiC, .int .u8 sepF, ci kG, ci nH, .str sI, .isl .fld fJ, .isl .two prsK, .isl .lens ksM], .agg [ci kN, .str mO, ci loP, ci hiQ, .str pU, .isl .part psV]] [] R
def j1033 : Fn TT := ⟨103, [.cell 6 6 true, .t 7], (sr [qo 4 (.box 4 1),qo 5 (.box 5 2),qo 6 (.alloc 6 zTp),qo 7 (.mv (iC 0))] (.seq (sr [qo 14 (.fa 4 0),qo 15 (ld 14)] (.block 0 (sr [qo 17 (.bin .eql .num 15 (iC 0)),qm 16 17] (.cond 16 .dead (sr [qo 21 (.bin .eql .num 15 (iC 1)),qm 20 21] (.cond 20 .dead (.seq
 (.reg [qo 44 (.bin .eql .num 15 (iC 16)),qm 43 44]) (.cond 43 .dead .skip)))))))) (sr [qm 53 0,qo 54 (.load 5 6 true),qo 55 (.call 55 66 [53, 54]),qm 52 55,qo 56 (.ext 52 0),qo 57 (.ext 52 1),qo 12 (.alloc 12 zTp),qp (.store 12 56 6),qm 13 57] (.seq (sr [qm 58 13,qo 59 (.bin .neq .num 58 (iC 0))] (.cond 59 .dead .skip))
 (.cut [0, 4, 6, 12] [(.s 4), (.s 6), (.s 12)] (sr [qo 62 (.fa 4 0),qo 63 (ld 62)] (.block 3 (.cut [0, 4, 6, 12, 63, 64] [(.s 4), (.s 6), (.s 12)] (sr [qo 65 (.bin .eql .num 63 (iC 3)),qm 64 65] (.cond 64 .skip (sr [qo 66 (.bin .eql .num 63 (iC 14)),qm 64 66] (.cond 64 .skip (sr [qo 67 (.bin .eql .num 63 (iC 17)),qm 64 67]
 (.cond 64 .skip (.reg [qo 68 (.bin .eql .num 63 (iC 18)),qm 64 68]))))))) (.cond 64 .dead (.cut [0, 4, 6, 12, 63, 75] [(.s 4), (.s 6), (.s 12)] (sr [qo 76 (.bin .eql .num 63 (iC 11)),qm 75 76] (.cond 75 .skip (.reg [qo 77 (.bin .eql .num 63 (iC 12)),qm 75 77]))) (.cond 75 .dead (.seq (sr [qo 85 (.bin .eql .num 63 (iC 13)),qm 84 85] (.cond 84 .skip
 (.reg [qo 86 (.bin .eql .num 63 (iC 15)),qm 84 86]))) (.cond 84 (sr [qm 87 0,qo 88 (.load 4 14 true),qo 89 (.load 12 6 true),qo 90 (.call 90 1072 [87, 88, 89]),qo 91 (.ext 90 0),qo 92 (.ext 90 1),qp (.store 6 91 6),qm 7 92] .ret) .skip)))))))) (.seq (sr [qo 93 (.fa 12 0),qo 94 (ld 93),qo 95 (.bin .neq .num 94 (iC 6))] (.cond 95 (.seq
 (.reg [qo 96 (.build zTp []),qp (.store 6 96 6),qo 7 (.mv (iC 8))]) .ret) .skip)) (sr [qm 97 0,qo 98 (.load 4 14 true),qo 99 (.load 12 6 true),qo 100 (.call 100 1035 [97, 98, 99]),qo 101 (.ext 100 0),qo 102 (.ext 100 1),qp (.store 6 101 6),qm 7 102] .ret)))))))⟩
def C1072 (O : Oracle TT) (m : PT → Ln → Tp → Option (Tp × Int)) : Prop :=
  ∀ l5 op6 nm7 to8 ns9 nA loB hiC sepF kG nH sI fJ prsK ksM kN mO loP hiQ pU psV (Q : (Tp × Int) → Prop) (R : RR) (_ : ∀ kW mY loZ hi00 p01 ps02 v03, Q ((Tp.mk kW mY loZ hi00 p01 ps02), v03) → R (.tup [.agg [ci kW, .str mY, ci loZ, ci hi00, .str p01, .isl .part ps02], iD v03]) []) (_ : sat (m l5 (Ln.mk op6 nm7 to8 ns9 nA loB hiC sepF (V.mk kG nH sI fJ) prsK ksM) (Tp.mk kN mO loP hiQ pU psV)) Q), O 1072 [.c (.isl .dfn l5), .agg [ci op6, .str nm7, .str to8, .isl .str ns9, ci nA, ci loB, ci hiC, .int .u8 sepF, ci kG, ci nH, .str sI, .isl .fld fJ, .isl .two prsK, .isl .lens ksM], .agg [ci kN, .str mO, ci loP, ci hiQ, .str pU, .isl .part psV]] [] R
def j1072 : Fn TT := ⟨147, [.cell 6 6 true, .t 7], (sr [qo 4 (.box 4 1),qo 5 (.box 5 2),qo 6 (.alloc 6 zTp),qo 7 (.mv (iC 0))] (.seq (sr [qo 19 (.fa 5 0),qo 20 (ld 19),qo 21 (.bin .neq .num 20 (iC 8)),qm 22 21,qg 22 23 (.fa 5 0),qg 22 24 (ld 23),qg 22 25 (.bin .eql .num 24 (iC 9)),qg 22 26 (.mv 25),qg 26 27 (.fa 4 0),
 qg 26 28 (ld 27),qg 26 29 (.bin .eql .num 28 (iC 13)),qg 22 30 (.pick 26 29 bF),qg 22 31 (.mv 30),qg 31 32 (.fa 4 1),qg 31 33 (ld 32),qg 31 34 (.bin .eql .str 33 sE),qg 22 35 (.pick 31 34 bF),qg 22 36 (.un .not 35),qo 37 (.pick 22 36 bF)] (.cond 37 (sr [qo 38 (.build zTp []),qp (.store 6 38 6),qo 7 (.mv (iC 8))] .ret) .skip)) (.seq
 (.reg [qo 39 (.load 5 6 true),qo 40 (.call 40 1034 [39]),qo 8 (.alloc 8 zTp),qp (.store 8 40 6)]) (.seq (sr [qo 41 (.fa 4 0),qo 42 (ld 41),qo 43 (.bin .eql .num 42 (iC 13))] (.cond 43 (.cut [0, 4, 6, 8, 9, 10] [(.s 4), (.s 6), (.s 8), (.s 9), (.sub (.s 40) 0)]
 (.drw [] (.go 0 (.go 1 (.go 2 (.go 3 (.go 4 (.go 5 (.go 6 (.go 7 (.go 8 (.go 9 (.alt 10 (.go 11 (.go 12 (.go 13 (.go 14 (.go 15 (.go 16 .nil)))))) 14 (.go 10 (.go 11 (.go 12 (.go 13 (.go 15 (.go 16 .nil))))))))))))))))) [15] [0, 1, 2, 3, 4, 5, 6, 7, 8, 9, 11, 12, 13, 16] [qm 45 0,qo 46 (.fa 4 13),qo 47 (ld 46),qo 48 (.idxA 47 (iC 0) 14),qo 49 (.load 48 14 true),
 qo 50 (.fa 5 5),qo 51 (ld 50),qo 52 (.idxA 51 (iC 0) 7),qo 53 (.fa 52 1),qo 54 (.load 53 6 true),qo 55 (.call 55 1033 [45, 49, 54]),qm 44 55,qo 56 (.ext 44 0),qo 57 (.ext 44 1),qo 9 (.alloc 9 zTp),qp (.store 9 56 6),qm 10 57]) (.seq (sr [qm 58 10,qo 59 (.bin .neq .num 58 (iC 0))] (.cond 59 .dead .skip)) (.seq (sr [qo 62 (.fa 4 1),
 qo 63 (ld 62),qo 64 (.bin .neq .str 63 sE),qm 65 64,qg 65 66 (.mv 0),qg 65 67 (.load 9 6 true),qg 65 68 (.fa 4 1),qg 65 69 (ld 68),qg 65 70 (.call 70 1073 [66, 67, 69]),qg 65 71 (.un .not 70),qo 72 (.pick 65 71 bF)] (.cond 72 (sr [qo 73 (.build zTp []),qp (.store 6 73 6),qo 7 (.mv (iC 16))] .ret) .skip)) (sr [qo 74 (.fa 8 5),
 qo 75 (ld 74),qo 76 (.load 9 6 true),qo 77 (.idxA 75 (iC 0) 7),qo 78 (.fa 77 1),qp (.store 78 76 6)] (sr [qo 79 (.load 8 6 true),qp (.store 6 79 6),qo 7 (.mv (iC 0))] (.pre [.frzc (.s 6) 5 .part] .ret)))))) .skip)) (sr [qm 81 0,qo 82 (.fa 5 5),qo 83 (ld 82),qo 84 (.idxA 83 (iC 0) 7),qo 85 (.fa 84 1),qo 86 (.load 85 6 true),
 qo 87 (.call 87 66 [81, 86]),qm 80 87,qo 88 (.ext 80 0),qo 89 (.ext 80 1),qo 11 (.alloc 11 zTp),qp (.store 11 88 6),qm 12 89] (.seq (sr [qm 90 12,qo 91 (.bin .neq .num 90 (iC 0))] (.cond 91 .dead .skip)) (.seq (sr [qo 94 (.fa 11 0),qo 95 (ld 94),qo 96 (.bin .neq .num 95 (iC 6))] (.cond 96 (sr [qo 97 (.build zTp []),
 qp (.store 6 97 6),qo 7 (.mv (iC 8))] .ret) .skip)) (sr [qo 98 (.load 11 6 true),qo 99 (.fa 4 1),qo 100 (ld 99),qo 101 (.call 101 1036 [98, 100]),qm 13 101] (.seq (sr [qm 102 13,qo 103 (.bin .lss .num 102 (iC 0))] (.cond 103 (sr [qo 104 (.build zTp []),qp (.store 6 104 6),qo 7 (.mv (iC 15))] .ret) .skip)) (.seq (.seq
 (.drw [] (oR 17) [] [0, 1, 2, 3, 4, 5, 6, 7, 8, 10, 11, 12, 13, 14, 15, 16] [qm 106 0,qo 107 (.fa 11 5),qo 108 (ld 107),qm 109 13,qo 110 (.idxA 108 109 7),qo 111 (.fa 110 1),qo 112 (.load 111 6 true),qo 113 (.fa 4 8),qo 114 (.load 113 4 true),qo 115 (.call 115 1038 [106, 112, 114]),qm 105 115,qo 116 (.ext 105 0),qo 117 (.ext 105 1),qo 118 (.ext 105 2),
 qm 14 116,qm 15 117,qm 16 118]) (sr [qm 119 14,qo 120 (.un .not 119)] (.cond 120 (sr [qo 121 (.build zTp []),qp (.store 6 121 6),qo 7 (.mv (iC 8))] .ret) .skip))) .dead))))))))))⟩
theorem w1033 {O : Oracle TT} (fuel : Nat) (self1072 : PT → Ln → Tp → Option (Tp × Int)) (h66 : C66 O (f66 fuel)) (h1072 : C1072 O self1072) (h1035 : C1035 O (f1035 fuel)) : C1033 (fun _ => vcF (S := SS) O j1033) (b1033 fuel self1072) := by
 intro lB op6 nmC toF nsG nH loI hiJ sepK kM nN sO fP prsQ ksU k02 m03 lo04 hi05 p06 ps07 Q R hQ h
 unfold b1033 at h
 refine ⟨nle rfl, rfl, ?_⟩
 refine kc h ?_ ?_ <;> intro h
 refine kc h ?_ ?_ <;> intro h
 refine kc h ?_ ?_ <;> intro h
 refine kL [] (h66 _ _ _ _ _ _ _ _ _ ?_ (sb h))
 rintro kV mW loY hiZ p00 ps01 v08 h
 refine kc h ?_ ?_ <;> intro h
 obtain ⟨R5, h, a5, hrR5⟩ := sc h
 refine kX (fun σ => R5 (.inr ()) ∧ σ = ⟨[(0, .c (.isl .dfn lB)), pT 4, pT 6, pT 12], [eV (.s 4) [ci op6, .str nmC, .str toF, .isl .str nsG, ci nH, ci loI, ci hiJ, .int .u8 sepK, ci kM, ci nN, .str sO, .isl .fld fP, .isl .two prsQ, .isl .lens ksU], eV (.s 6) zTp, eV (.s 12) [ci kV, .str mW, ci loY, ci hiZ, .str p00, .isl .part ps01]]⟩) ?_ ?_
 obtain ⟨R7, h, a7, hrR7⟩ := sc h
 refine kX (fun σ => ∃ q8, R7 (.inr q8) ∧ σ = ⟨[(0, .c (.isl .dfn lB)), pT 4, pT 6, pT 12, (63, iD op6), (64, bD q8)], [eV (.s 4) [ci op6, .str nmC, .str toF, .isl .str nsG, ci nH, ci loI, ci hiJ, .int .u8 sepK, ci kM, ci nN, .str sO, .isl .fld fP, .isl .two prsQ, .isl .lens ksU], eV (.s 6) zTp, eV (.s 12) [ci kV, .str mW, ci loY, ci hiZ, .str p00, .isl .part ps01]]⟩) ?_ ?_
 refine kc h ?_ ?_ <;> intro h
 refine kc h ?_ ?_ <;> intro h
 refine kc h ?_ ?_ <;> intro h
 refine kc h ?_ ?_ <;> intro h
 conv => whnf
 exact ⟨false, ss h, rfl⟩
 conv => whnf
 exact ⟨true, ss h, rfl⟩
 conv => whnf
 exact ⟨true, ss h, rfl⟩
 conv => whnf
 exact ⟨true, ss h, rfl⟩
 conv => whnf
 exact ⟨true, ss h, rfl⟩
 rintro _ ⟨q8, h, rfl⟩
 replace h := hrR7 _ h
 cases q8
 replace h := cf h
 obtain ⟨R9, h, a9, hrR9⟩ := sc h
 refine kX (fun σ => ∃ qA, R9 (.inr qA) ∧ σ = ⟨[(0, .c (.isl .dfn lB)), pT 4, pT 6, pT 12, (63, iD op6), (75, bD qA)], [eV (.s 4) [ci op6, .str nmC, .str toF, .isl .str nsG, ci nH, ci loI, ci hiJ, .int .u8 sepK, ci kM, ci nN, .str sO, .isl .fld fP, .isl .two prsQ, .isl .lens ksU], eV (.s 6) zTp, eV (.s 12) [ci kV, .str mW, ci loY, ci hiZ, .str p00, .isl .part ps01]]⟩) ?_ ?_
 refine kc h ?_ ?_ <;> intro h
 refine kc h ?_ ?_ <;> intro h
 conv => whnf
 exact ⟨false, ss h, rfl⟩
 conv => whnf
 exact ⟨true, ss h, rfl⟩
 conv => whnf
 exact ⟨true, ss h, rfl⟩
 rintro _ ⟨qA, h, rfl⟩
 replace h := hrR9 _ h
 cases qA
 replace h := cf h
 refine kc h ?_ ?_ <;> intro h
 refine kc h ?_ ?_ <;> intro h
 conv => whnf
 exact ⟨ss h, rfl⟩
 refine kL [] (h1072 _ _ _ _ _ _ _ _ _ _ _ _ _ _ _ _ _ _ _ _ _ _ _ ?_ (sb h))
 rintro k09 m0A lo0B hi0C p0D ps0E v0F h
 replace h := sat_lft a5 h
 exact kR [] (ND 0) (hQ _ _ _ _ _ _ _ (ss h))
 refine kL [] (h1072 _ _ _ _ _ _ _ _ _ _ _ _ _ _ _ _ _ _ _ _ _ _ _ ?_ (sb h))
 rintro k0G m0H lo0I hi0J p0K ps0L v0M h
 replace h := sat_lft a5 h
 exact kR [] (ND 0) (hQ _ _ _ _ _ _ _ (ss h))
 replace h := ct h
 exact (sat_none h).elim
 replace h := ct h
 exact (sat_none h).elim
 rintro _ ⟨h, rfl⟩
 replace h := hrR5 _ h
 refine kc h ?_ ?_ <;> intro h
 refine kL [] (h1035 _ _ _ _ _ _ _ _ _ _ _ _ _ _ _ _ _ _ _ _ _ _ _ ?_ (sb h))
 rintro k0N m0O lo0P hi0Q p0R ps0S v0T h
 exact kR [] (ND 0) (hQ _ _ _ _ _ _ _ (ss h))
 exact kR [] (ND 0) (hQ _ _ _ _ _ _ _ (ss h))
 exact (sat_none h).elim
 exact (sat_none h).elim
 exact (sat_none h).elim
 exact (sat_none h).elim
theorem w1072 {O : Oracle TT} (fuel : Nat) (self1033 : PT → Ln → Tp → Option (Tp × Int)) (h1033 : C1033 O self1033) (h66 : C66 O (f66 fuel)) (h1036 : C1036 O f1036) (h1038 : C1038 O (f1038 fuel)) (h1034a : C1034a O (f1034a fuel)) (h1073 : C1073 O (f1073 fuel)) : C1072 (fun _ => vcF (S := SS) O j1072) (b1072 fuel self1033) := by
 intro lO opP nmQ toU nsV nW loY hiZ sep00 k01 n02 s03 f04 prs05 ks06 k1W m1X lo1Y hi1Z p20 ps21 Q R hQ h
 unfold b1072 at h
 refine ⟨nle rfl, rfl, ?_⟩
 refine kc h ?_ ?_ <;> intro h
 refine kL [] (h1034a _ _ _ _ _ _ _ _ ?_ (sb h))
 rintro k0L m0M lo0N hi0O p0P ps07 _ rfl h
 refine kc h ?_ ?_ <;> intro h
 refine kg (sat_getL h) fun uu08 huu08 h => ?_
 obtain ⟨a22, ⟨k23, m24, lo25, hi26, p27, ps28⟩⟩ := uu08
 refine kL [] (h66 _ _ _ _ _ _ _ _ _ ?_ (sb h))
 rintro k29 m2A lo2B hi2C p2D ps2E v2F h
 refine kc h ?_ ?_ <;> intro h
 refine kc h ?_ ?_ <;> intro h
 refine kL [] (h1036 _ _ _ _ _ _ _ _ _ ?_ (sb h))
 rintro v2G h
 refine kc h ?_ ?_ <;> intro h
 refine kg (sat_getL h) fun uu09 huu09 h => ?_
 obtain ⟨a2H, ⟨k2I, m2J, lo2K, hi2L, p2M, ps2N⟩⟩ := uu09
 refine kL [] (h1038 _ _ _ _ _ _ _ _ _ _ _ _ _ ?_ (sb h))
 rintro q0Q l2O v2P h
 cases q0Q
 replace h := cf h
 exact kR [] (ND 0) (hQ _ _ _ _ _ _ _ (ss h))
 replace h := ct h
 exact (sat_none h).elim
 exact kR [] (ND 0) (hQ _ _ _ _ _ _ _ (ss h))
 exact kR [] (ND 0) (hQ _ _ _ _ _ _ _ (ss h))
 exact (sat_none h).elim
 obtain ⟨RJ, h, aJ, hrRJ⟩ := sc h
 refine kX (fun σ => ∃ vM v5 s6 v7 v8 s9 lA, RJ (.inr (vM, v5, s6, v7, v8, s9, lA)) ∧ σ = ⟨[(0, .c (.isl .dfn lO)), pT 4, pT 6, pT 8, pT 9, (10, iD vM)], [eV (.s 4) [ci opP, .str nmQ, .str toU, .isl .str nsV, ci nW, ci loY, ci hiZ, .int .u8 sep00, ci k01, ci n02, .str s03, .isl .fld f04, .isl .two prs05, .isl .lens ks06], eV (.s 6) zTp, eV (.s 8) [ci k0L, .str m0M, ci lo0N, ci hi0O, .str p0P, .osl (.sub (.s 40) 0) 0 ps07.length], eV (.s 9) [ci v5, .str s6, ci v7, ci v8, .str s9, .isl .part lA], (.sub (.s 40) 0, (eR .part ps07))]⟩) ?_ ?_
 refine kg (sat_getL h) fun uu0A huu0A h => ?_
 obtain ⟨op2Q, nm2R, to2S, ns2T, n2U, lo2V, hi2W, sep2X, ⟨k2Y, n2Z, s30, f31⟩, prs32, ks33⟩ := uu0A
 refine kg (sat_getL h) fun uu0B huu0B h => ?_
 obtain ⟨a34, ⟨k35, m36, lo37, hi38, p39, ps3A⟩⟩ := uu0B
 conv => whnf
 refine ⟨?_, ?_⟩
 refine kL [] (h1033 _ _ _ _ _ _ _ _ _ _ _ _ _ _ _ _ _ _ _ _ _ _ _ ?_ (sb h))
 rintro k0R m0S lo0T hi0U p0V ps0W v0X h
 conv => whnf
 exact ⟨v0X, k0R, m0S, lo0T, hi0U, p0V, ps0W, ss h, rfl⟩
 refine kL [] (h1033 _ _ _ _ _ _ _ _ _ _ _ _ _ _ _ _ _ _ _ _ _ _ _ ?_ (sb h))
 rintro k0Y m0Z lo10 hi11 p12 ps13 v14 h
 conv => whnf
 exact ⟨v14, k0Y, m0Z, lo10, hi11, p12, ps13, ss h, rfl⟩
 rintro _ ⟨vM, v5, s6, v7, v8, s9, lA, h, rfl⟩
 replace h := hrRJ _ h
 refine kc h ?_ ?_ <;> intro h
 refine kc h ?_ ?_ <;> intro h
 refine kp h fun hb3B h => ?_
 refine kg (sat_getN h) fun uu0C huu0C h => ?_
 obtain ⟨a15, ⟨k3C, m3D, lo3E, hi3F, p3G, ps3H⟩⟩ := uu0C
 refine ⟨(a15, (Tp.mk v5 s6 v7 v8 s9 lA)), rfl, ?_⟩
 conv => whnf
 refine ⟨LN, ?_⟩
 exact kR [] (ND 0) (hQ _ _ _ _ _ _ _ (ss h))
 refine kL [] (h1073 _ _ _ _ _ _ _ _ _ _ ?_ (sb h))
 rintro q17 h
 cases q17
 replace h := cf h
 exact kR [] (ND 0) (hQ _ _ _ _ _ _ _ (ss h))
 replace h := ct h
 refine kp h fun hb3I h => ?_
 refine kg (sat_getN h) fun uu0D huu0D h => ?_
 obtain ⟨a18, ⟨k3J, m3K, lo3L, hi3M, p3N, ps3O⟩⟩ := uu0D
 refine ⟨(a18, (Tp.mk v5 s6 v7 v8 s9 lA)), rfl, ?_⟩
 conv => whnf
 refine ⟨LN, ?_⟩
 exact kR [] (ND 0) (hQ _ _ _ _ _ _ _ (ss h))
 exact (sat_none h).elim
 refine kc h ?_ ?_ <;> intro h
 exact kR [] (ND 0) (hQ _ _ _ _ _ _ _ (ss h))
 refine kc h ?_ ?_ <;> intro h
 exact kR [] (ND 0) (hQ _ _ _ _ _ _ _ (ss h))
 refine kc h ?_ ?_ <;> intro h
 exact kR [] (ND 0) (hQ _ _ _ _ _ _ _ (ss h))
 refine kL [] (h1034a _ _ _ _ _ _ _ _ ?_ (sb h))
 rintro k19 m1A lo1B hi1C p1D ps0E _ rfl h
 refine kc h ?_ ?_ <;> intro h
 refine kg (sat_getL h) fun uu0F huu0F h => ?_
 obtain ⟨a3P, ⟨k3Q, m3R, lo3S, hi3T, p3U, ps3V⟩⟩ := uu0F
 refine kL [] (h66 _ _ _ _ _ _ _ _ _ ?_ (sb h))
 rintro k3W m3X lo3Y hi3Z p40 ps41 v42 h
 refine kc h ?_ ?_ <;> intro h
 refine kc h ?_ ?_ <;> intro h
 refine kL [] (h1036 _ _ _ _ _ _ _ _ _ ?_ (sb h))
 rintro v43 h
 refine kc h ?_ ?_ <;> intro h
 refine kg (sat_getL h) fun uu0G huu0G h => ?_
 obtain ⟨a44, ⟨k45, m46, lo47, hi48, p49, ps4A⟩⟩ := uu0G
 refine kL [] (h1038 _ _ _ _ _ _ _ _ _ _ _ _ _ ?_ (sb h))
 rintro q1E l4B v4C h
 cases q1E
 replace h := cf h
 exact kR [] (ND 0) (hQ _ _ _ _ _ _ _ (ss h))
 replace h := ct h
 exact (sat_none h).elim
 exact kR [] (ND 0) (hQ _ _ _ _ _ _ _ (ss h))
 exact kR [] (ND 0) (hQ _ _ _ _ _ _ _ (ss h))
 exact (sat_none h).elim
 obtain ⟨RK, h, aK, hrRK⟩ := sc h
 refine kX (fun σ => ∃ vN vB sC vF vG sH lI, RK (.inr (vN, vB, sC, vF, vG, sH, lI)) ∧ σ = ⟨[(0, .c (.isl .dfn lO)), pT 4, pT 6, pT 8, pT 9, (10, iD vN)], [eV (.s 4) [ci opP, .str nmQ, .str toU, .isl .str nsV, ci nW, ci loY, ci hiZ, .int .u8 sep00, ci k01, ci n02, .str s03, .isl .fld f04, .isl .two prs05, .isl .lens ks06], eV (.s 6) zTp, eV (.s 8) [ci k19, .str m1A, ci lo1B, ci hi1C, .str p1D, .osl (.sub (.s 40) 0) 0 ps0E.length], eV (.s 9) [ci vB, .str sC, ci vF, ci vG, .str sH, .isl .part lI], (.sub (.s 40) 0, (eR .part ps0E))]⟩) ?_ ?_
 refine kg (sat_getL h) fun uu0H huu0H h => ?_
 obtain ⟨op4D, nm4E, to4F, ns4G, n4H, lo4I, hi4J, sep4K, ⟨k4L, n4M, s4N, f4O⟩, prs4P, ks4Q⟩ := uu0H
 refine kg (sat_getL h) fun uu0I huu0I h => ?_
 obtain ⟨a4R, ⟨k4S, m4T, lo4U, hi4V, p4W, ps4X⟩⟩ := uu0I
 conv => whnf
 refine ⟨?_, ?_⟩
 refine kL [] (h1033 _ _ _ _ _ _ _ _ _ _ _ _ _ _ _ _ _ _ _ _ _ _ _ ?_ (sb h))
 rintro k1F m1G lo1H hi1I p1J ps1K v1L h
 conv => whnf
 exact ⟨v1L, k1F, m1G, lo1H, hi1I, p1J, ps1K, ss h, rfl⟩
 refine kL [] (h1033 _ _ _ _ _ _ _ _ _ _ _ _ _ _ _ _ _ _ _ _ _ _ _ ?_ (sb h))
 rintro k1M m1N lo1O hi1P p1Q ps1R v1S h
 conv => whnf
 exact ⟨v1S, k1M, m1N, lo1O, hi1P, p1Q, ps1R, ss h, rfl⟩
 rintro _ ⟨vN, vB, sC, vF, vG, sH, lI, h, rfl⟩
 replace h := hrRK _ h
 refine kc h ?_ ?_ <;> intro h
 refine kc h ?_ ?_ <;> intro h
 refine kp h fun hb4Y h => ?_
 refine kg (sat_getN h) fun uu0J huu0J h => ?_
 obtain ⟨a1T, ⟨k4Z, m50, lo51, hi52, p53, ps54⟩⟩ := uu0J
 refine ⟨(a1T, (Tp.mk vB sC vF vG sH lI)), rfl, ?_⟩
 conv => whnf
 refine ⟨LN, ?_⟩
 exact kR [] (ND 0) (hQ _ _ _ _ _ _ _ (ss h))
 refine kL [] (h1073 _ _ _ _ _ _ _ _ _ _ ?_ (sb h))
 rintro q1U h
 cases q1U
 replace h := cf h
 exact kR [] (ND 0) (hQ _ _ _ _ _ _ _ (ss h))
 replace h := ct h
 refine kp h fun hb55 h => ?_
 refine kg (sat_getN h) fun uu0K huu0K h => ?_
 obtain ⟨a1V, ⟨k56, m57, lo58, hi59, p5A, ps5B⟩⟩ := uu0K
 refine ⟨(a1V, (Tp.mk vB sC vF vG sH lI)), rfl, ?_⟩
 conv => whnf
 refine ⟨LN, ?_⟩
 exact kR [] (ND 0) (hQ _ _ _ _ _ _ _ (ss h))
 exact (sat_none h).elim
theorem cg1033 {P : Program} {fid : Nat → FuncId} (mx : MX P) (k1033 : KF P fid 1033 j1033) (k1072 : KF P fid 1072 j1072) (h66 : ∀ n, C66 (SP P fid) (f66 n)) (h1035 : ∀ n, C1035 (SP P fid) (f1035 n)) (h1036 : C1036 (SP P fid) f1036) (h1038 : ∀ n, C1038 (SP P fid) (f1038 n)) (h1034a : ∀ n, C1034a (SP P fid) (f1034a n)) (h1073 : ∀ n, C1073 (SP P fid) (f1073 n)) : ∀ n, C1033 (SP P fid) (f1033 n) ∧ C1072 (SP P fid) (f1072 n) := by
 intro n
 induction n with
 | zero => exact ⟨fun a0 a5 a6 a7 a8 a9 aA aB aC aD aE aF aG aH aI aJ aK aL aM aN aO Q R hQ h => (sat_none h).elim, fun a0 a5 a6 a7 a8 a9 aA aB aC aD aE aF aG aH aI aJ aK aL aM aN aO Q R hQ h => (sat_none h).elim⟩
 | succ n ih =>
  obtain ⟨ih0, ih5⟩ := ih
  exact ⟨fun a0 a5 a6 a7 a8 a9 aA aB aC aD aE aF aG aH aI aJ aK aL aM aN aO Q R hQ h => spec_of_vc mx k1033 (w1033 n (f1072 n) (h66 n) ih5 (h1035 n) a0 a5 a6 a7 a8 a9 aA aB aC aD aE aF aG aH aI aJ aK aL aM aN aO Q R hQ h), fun a0 a5 a6 a7 a8 a9 aA aB aC aD aE aF aG aH aI aJ aK aL aM aN aO Q R hQ h => spec_of_vc mx k1072 (w1072 n (f1033 n) ih0 (h66 n) h1036 (h1038 n) (h1034a n) (h1073 n) a0 a5 a6 a7 a8 a9 aA aB aC aD aE aF aG aH aI aJ aK aL aM aN aO Q R hQ h)⟩
theorem c1033 {P : Program} {fid : Nat → FuncId} (mx : MX P) (k1033 : KF P fid 1033 j1033) (k1072 : KF P fid 1072 j1072) (h66 : ∀ n, C66 (SP P fid) (f66 n)) (h1035 : ∀ n, C1035 (SP P fid) (f1035 n)) (h1036 : C1036 (SP P fid) f1036) (h1038 : ∀ n, C1038 (SP P fid) (f1038 n)) (h1034a : ∀ n, C1034a (SP P fid) (f1034a n)) (h1073 : ∀ n, C1073 (SP P fid) (f1073 n)) : ∀ n, C1033 (SP P fid) (f1033 n) := fun n => (cg1033 mx k1033 k1072 h66 h1035 h1036 h1038 h1034a h1073 n).1
def f1032 (fuel : Nat) : PT → Ln → Tp → Option (Tp × Int)
  | l5, .mk op6 nm7 to8 ns9 nA loB hiC sepF (.mk kG nH sI fJ) prsK ksM, .mk kN mO loP hiQ pU psV => (f105 fuel l5).bind fun v03 => cond (v03 != 0) (none) ((f83 fuel l5 (Tp.mk kN mO loP hiQ pU psV)).bind fun v04 => cond (v04 != 0) (none) ((f70 fuel (Ln.mk op6 nm7 to8 ns9 nA loB hiC sepF (V.mk kG nH sI fJ) prsK ksM)).bind fun v05 => cond (v05 != 0) (none) ((f1033 fuel l5 (Ln.mk op6 nm7 to8 ns9 nA loB hiC sepF (V.mk kG nH sI fJ) prsK ksM) (Tp.mk kN mO loP hiQ pU psV)).bind fun ((.mk kW mY loZ hi00 p01 ps02), v06) => cond (v06 != 0) (none) ((f83 fuel l5 (Tp.mk kW mY loZ hi00 p01 ps02)).bind fun v07 => cond (v07 != 0) (none) (some ((Tp.mk kW mY loZ hi00 p01 ps02), 0))))))
def C1032 (O : Oracle TT) (m : PT → Ln → Tp → Option (Tp × Int)) : Prop :=
  ∀ l5 op6 nm7 to8 ns9 nA loB hiC sepF kG nH sI fJ prsK ksM kN mO loP hiQ pU psV (Q : (Tp × Int) → Prop) (R : RR) (_ : ∀ kW mY loZ hi00 p01 ps02 v03, Q ((Tp.mk kW mY loZ hi00 p01 ps02), v03) → R (.tup [.agg [ci kW, .str mY, ci loZ, ci hi00, .str p01, .isl .part ps02], iD v03]) []) (_ : sat (m l5 (Ln.mk op6 nm7 to8 ns9 nA loB hiC sepF (V.mk kG nH sI fJ) prsK ksM) (Tp.mk kN mO loP hiQ pU psV)) Q), O 1032 [.c (.isl .dfn l5), .agg [ci op6, .str nm7, .str to8, .isl .str ns9, ci nA, ci loB, ci hiC, .int .u8 sepF, ci kG, ci nH, .str sI, .isl .fld fJ, .isl .two prsK, .isl .lens ksM], .agg [ci kN, .str mO, ci loP, ci hiQ, .str pU, .isl .part psV]] [] R
def j1032 : Fn TT := ⟨49, [.cell 6 6 true, .t 7], (sr [qo 4 (.box 4 1),qo 5 (.box 5 2),qo 6 (.alloc 6 zTp),qo 7 (.mv (iC 0))] (.seq (sr [qm 13 0,qo 14 (.call 14 105 [13]),qm 8 14] (sr [qm 15 8,qo 16 (.bin .neq .num 15 (iC 0))] (.cond 16 .dead .skip))) (.seq (sr [qm 19 0,qo 20 (.load 5 6 true),qo 21 (.call 21 83 [19, 20]),
 qm 9 21] (sr [qm 22 9,qo 23 (.bin .neq .num 22 (iC 0))] (.cond 23 .dead .skip))) (.seq (sr [qo 26 (.load 4 14 true),qo 27 (.call 27 70 [26]),qm 10 27] (sr [qm 28 10,qo 29 (.bin .neq .num 28 (iC 0))] (.cond 29 .dead .skip))) (sr [qm 33 0,qo 34 (.load 4 14 true),qo 35 (.load 5 6 true),qo 36 (.call 36 1033 [33, 34, 35]),
 qm 32 36,qo 37 (.ext 32 0),qo 38 (.ext 32 1),qo 11 (.alloc 11 zTp),qp (.store 11 37 6),qm 12 38] (.seq (sr [qm 39 12,qo 40 (.bin .neq .num 39 (iC 0))] (.cond 40 .dead .skip)) (.seq (sr [qm 43 0,qo 44 (.load 11 6 true),qo 45 (.call 45 83 [43, 44]),qo 46 (.bin .neq .num 45 (iC 0))] (.cond 46 .dead .skip)) (sr [qo 48 (.load 11 6 true),
 qp (.store 6 48 6),qo 7 (.mv (iC 0))] .ret))))))))⟩
theorem w1032 {O : Oracle TT} (fuel : Nat) (h105 : C105 O (f105 fuel)) (h83 : C83 O (f83 fuel)) (h70 : C70 O (f70 fuel)) (h1033 : C1033 O (f1033 fuel)) : C1032 (fun _ => vcF (S := SS) O j1032) (f1032 fuel) := by
 intro l5 op6 nm7 to8 ns9 nA loB hiC sepF kG nH sI fJ prsK ksM kN mO loP hiQ pU psV Q R hQ h
 unfold f1032 at h
 refine ⟨nle rfl, rfl, ?_⟩
 refine kL [] (h105 _ _ _ ?_ (sb h))
 rintro vW h
 refine kc h ?_ ?_ <;> intro h
 refine kL [] (h83 _ _ _ _ _ _ _ _ _ ?_ (sb h))
 rintro vY h
 refine kc h ?_ ?_ <;> intro h
 refine kL [] (h70 _ _ _ _ _ _ _ _ _ _ _ _ _ _ _ _ ?_ (sb h))
 rintro vZ h
 refine kc h ?_ ?_ <;> intro h
 refine kL [] (h1033 _ _ _ _ _ _ _ _ _ _ _ _ _ _ _ _ _ _ _ _ _ _ _ ?_ (sb h))
 rintro k00 m01 lo02 hi03 p04 ps05 v06 h
 refine kc h ?_ ?_ <;> intro h
 refine kL [] (h83 _ _ _ _ _ _ _ _ _ ?_ (sb h))
 rintro v07 h
 refine kc h ?_ ?_ <;> intro h
 exact kR [] (ND 0) (hQ _ _ _ _ _ _ _ (ss h))
 exact (sat_none h).elim
 exact (sat_none h).elim
 exact (sat_none h).elim
 exact (sat_none h).elim
 exact (sat_none h).elim
def f1042 (fuel : Nat) : PT → Tp → V → Option (Bool)
  | l9, .mk kA mB loC hiF pG psH, .mk k5 n6 s7 f8 => (f51 fuel (V.mk k5 n6 s7 f8)).bind fun vI => cond (vI != 0) (none) ((f1038 fuel l9 (Tp.mk kA mB loC hiF pG psH) (V.mk k5 n6 s7 f8)).bind fun (qJ, lM, vK) => cond qJ (cond (vK == 0) (some true) (some false)) (some false))
def C1042 (O : Oracle TT) (m : PT → Tp → V → Option (Bool)) : Prop :=
  ∀ l5 k6 m7 lo8 hi9 pA psB kC nF sG fH (Q : Bool → Prop) (R : RR) (_ : ∀ qI, Q qI → R (bD qI) []) (_ : sat (m l5 (Tp.mk k6 m7 lo8 hi9 pA psB) (V.mk kC nF sG fH)) Q), O 1042 [.c (.isl .dfn l5), .agg [ci k6, .str m7, ci lo8, ci hi9, .str pA, .isl .part psB], .agg [ci kC, ci nF, .str sG, .isl .fld fH]] [] R
def j1042 : Fn TT := ⟨26, [.t 6], (sr [qo 4 (.box 4 1),qo 5 (.box 5 2),qm 6 bF] (.seq (sr [qo 10 (.load 5 4 true),qo 11 (.call 11 51 [10]),qo 12 (.bin .neq .num 11 (iC 0))] (.cond 12 .dead .skip)) (sr [qm 14 0,qo 15 (.load 4 6 true),qo 16 (.load 5 4 true),qo 17 (.call 17 1038 [14, 15, 16]),qm 13 17,qo 18 (.ext 13 0),qo 19 (.ext 13 1),
 qo 20 (.ext 13 2),qm 7 18,qm 8 19,qm 9 20] (sr [qm 21 7,qm 22 21,qg 22 23 (.mv 9),qg 22 24 (.bin .eql .num 23 (iC 0)),qo 25 (.pick 22 24 bF),qm 6 25] .ret))))⟩
theorem w1042 {O : Oracle TT} (fuel : Nat) (h51 : C51 O (f51 fuel)) (h1038 : C1038 O (f1038 fuel)) : C1042 (fun _ => vcF (S := SS) O j1042) (f1042 fuel) := by
 intro l6 k7 m8 lo9 hiA pB psC kF nG sH fI Q R hQ h
 unfold f1042 at h
 refine ⟨nle rfl, rfl, ?_⟩
 refine kL [] (h51 _ _ _ _ _ _ ?_ (sb h))
 rintro vJ h
 refine kc h ?_ ?_ <;> intro h
 refine kL [] (h1038 _ _ _ _ _ _ _ _ _ _ _ _ _ ?_ (sb h))
 rintro q5 lK vM h
 cases q5
 replace h := cf h
 exact kR [] (ND 0) (hQ _ (ss h))
 replace h := ct h
 refine kc h ?_ ?_ <;> intro h
 exact kR [] (ND 0) (hQ _ (ss h))
 exact kR [] (ND 0) (hQ _ (ss h))
 exact (sat_none h).elim
def f79 : FV → Option (FV)
  | l => grdP (l.length ≤ 68719476736) (some l)
def C79 (O : Oracle TT) (m : FV → Option (FV)) : Prop :=
  ∀ l3 (Q : FV → Prop) (R : RR) (_ : ∀ (l0 : FV) (n0r : Nat) (_ : n0r = l0.length), Q l0 → R (.c (.osl (.x 0) 0 n0r)) [(.x 0, (eR .fld l0))]) (_ : sat (m l3) Q), O 79 [.c (.isl .fld l3)] [] R
def j79 : Fn TT := ⟨8, [.t 2], (sr [qo 2 (.mv (.c (.nils)))] (.seq (sr [qm 3 0,qo 4 (.bin .eql .slice 3 (.c (.nils)))] (.cond 4 (sr [qo 2 (.mv (.c (.nils)))] (.pre [.own 2 0 .fld (.sub (.sub (.s 2) 900) 0)] .ret)) .skip)) (sr [qo 5 (.bslice 5 .fld []),qm 6 0,qo 7 (.app 7 .fld 68719476736 5 6),qm 2 7]
 (.pre [.own 2 0 .fld (.sub (.sub (.s 2) 900) 0)] .ret))))⟩
theorem w79 {O : Oracle TT} : C79 (fun _ => vcF (S := SS) O j79) f79 := by
 intro l0 Q R hQ h
 unfold f79 at h
 obtain ⟨hb, h⟩ := sat_grdP h
 have hq := fun n e => hQ l0 n e (ss h)
 clear h hQ
 have key : ∀ (q : FV) (n : Nat), q = l0 → n = l0.length → R (.c (.osl (.x 0) 0 n)) [(.x 0, (eR .fld q))] := by rintro _ _ rfl hn; exact hq _ hn
 refine ⟨nle rfl, rfl, ?_⟩
 conv => whnf
 intro t (ht : l0 ≠ [] → t = false)
 cases t
 conv => whnf
 refine ⟨rfl, rfl, ?_⟩
 conv => whnf
 refine ⟨rfl, ?_⟩
 conv => whnf
 refine ⟨(by simpa using hb : ([] : FV).length + l0.length ≤ 68719476736), ?_⟩
 conv => whnf
 exact ⟨[(.sub (.sub (.s 2) 900) 0)], (by decide : (lX 0 ++ ([(.sub (.sub (.s 2) 900) 0)] : List Id)).Nodup), key _ _ (List.nil_append l0) (by simp)⟩
 have hn : l0 = [] := by rcases Classical.em (l0 = []) with h | h; exact h; cases ht h
 conv => whnf
 exact ⟨[(.sub (.sub (.s 2) 900) 0)], (by decide : (lX 0 ++ ([(.sub (.sub (.s 2) 900) 0)] : List Id)).Nodup), key _ _ hn.symm (by rw [hn]; rfl)⟩
def f57_L2 (self57 : V → Option (V)) : Nat → Int → FV → Option (Sum (V) (FV))
  | 0, v5, l6 => some (.inr l6)
  | g7 + 1, v5, l6 => grdP ((0 : Int) ≤ v5 ∧ v5 < ((l6.length : Nat) : Int)) (getN l6 (0 + v5.toNat) fun uu8 => match uu8 with | (aM, .mk k9 nA sB fC) => (self57 (V.mk k9 nA sB fC)).bind fun (.mk kF nG sH fI) => grdP ((0 : Int) ≤ v5 ∧ v5 < ((l6.length : Nat) : Int)) (getN l6 (0 + v5.toNat) fun uuJ => match uuJ with | (aK, .mk kN nO sP fQ) => f57_L2 self57 g7 (v5 + 1) (l6.set (0 + v5.toNat) (aK, (V.mk kF nG sH fI)))))
def b57 (self57 : V → Option (V)) : V → Option (V)
  | .mk k6 n7 s8 f9 => (f79 f9).bind fun l5 => sbind (ο := FV) (grdP (((l5.length : Nat) : Int) ≤ 9223372036854775807) (f57_L2 self57 (((l5.length : Nat) : Int) - 0).toNat 0 l5)) (fun lA => some (V.mk k6 n7 s8 lA))
def f57 : Nat → V → Option (V)
  | 0 => fun _ => none
  | n + 1 => b57 (f57 n)
def C57 (O : Oracle TT) (m : V → Option (V)) : Prop :=
  ∀ k5 n6 s7 f8 (Q : V → Prop) (R : RR) (_ : ∀ k9 nA sB fC, Q (V.mk k9 nA sB fC) → R (.agg [ci k9, ci nA, .str sB, .isl .fld fC]) []) (_ : sat (m (V.mk k5 n6 s7 f8)) Q), O 57 [.agg [ci k5, ci n6, .str s7, .isl .fld f8]] [] R
def j57 : Fn TT := ⟨28, [.cell 2 4 true], (sr [qo 1 (.box 1 0),qo 2 (.alloc 2 zV)] (sr [qo 4 (.fa 1 3),qo 5 (ld 4),qo 6 (.call 6 79 [5]),qo 7 (.fa 1 3),qp (.store 7 6 1)] (.cut [1, 2] [(.s 1), (.s 2), (.sub (.s 6) 0)] (sr [qo 8 (.fa 1 3),qo 9 (ld 8),qo 10 (.len false 9),qo 11 (.mv (iC 0))] (.block 0
 (.loop (.keep [1, 2, 10, 11] [(.s 1), (.s 2), (.sub (.s 6) 0)] (.aft (sr [qo 12 (.bin .lss .num 11 10)] (.seq (.cond 12 .skip (.exit 0)) (.seq (.block 1 (sr [qm 13 11,qm 3 13] (.drw [] (oR 13) [12] [0, 1, 2, 3, 4, 5, 6, 7, 8, 10, 11] [qo 14 (.fa 1 3),qo 15 (ld 14),qm 16 3,qo 17 (.fa 1 3),qo 18 (ld 17),qm 19 3,
 qo 20 (.idxA 18 19 5),qo 21 (.fa 20 1),qo 22 (.load 21 4 true),qo 23 (.call 23 57 [22]),qo 24 (.idxA 15 16 5),qo 25 (.fa 24 1),qp (.store 25 23 4)]))) (.reg [qo 26 (.bin .add .num 11 (iC 1)),qm 11 26])))) [.keep [1, 2, 10, 11] [(.s 1), (.s 2), (.sub (.s 6) 0)]]))))) (sr [qo 27 (.load 1 4 true),qp (.store 2 27 4)] (.pre [.frzc (.s 2) 3 .fld] .ret)))))⟩
theorem w57 {O : Oracle TT} (self57 : V → Option (V)) (h57 : C57 O self57) (h79 : C79 O f79) : C57 (fun _ => vcF (S := SS) O j57) (b57 self57) := by
 intro kG nH sI fV Q R hQ h
 unfold b57 at h
 refine ⟨nle rfl, rfl, ?_⟩
 refine kL [] (h79 _ _ _ ?_ (sb h))
 rintro lC _ rfl h
 obtain ⟨RA, h, aA, hrRA⟩ := sc h
 refine kX (fun σ => ∃ (lF : FV) (nJ : Nat), nJ = lF.length ∧ RA (.inr lF) ∧ σ = ⟨[pT 1, pT 2], [eV (.s 1) [ci kG, ci nH, .str sI, .osl (.sub (.s 6) 0) 0 nJ], eV (.s 2) zV, (.sub (.s 6) 0, (eR .fld lF))]⟩) ?_ ?_
 intro hlW
 obtain ⟨hNU, h⟩ := sat_grdP h
 refine kX (fun σ n => ∃ (f5 : Nat) (v6 : Int) (z : Int) (l9 : FV) (nK : Nat), f5 = n ∧ f5 = (((lC.length : Nat) : Int) - v6).toNat ∧ 0 ≤ v6 ∧ v6 = z ∧ nK = l9.length ∧ sat (f57_L2 self57 f5 v6 l9) RA ∧ σ.keep [1, 2, 10, 11] [(.s 1), (.s 2), (.sub (.s 6) 0)] = ⟨[pT 1, pT 2, (10, iD ((lC.length : Nat) : Int)), (11, iD z)], [eV (.s 1) [ci kG, ci nH, .str sI, .osl (.sub (.s 6) 0) 0 nK], eV (.s 2) zV, (.sub (.s 6) 0, (eR .fld l9))]⟩) ⟨_, _, 0, _, lC, _, rfl, rfl, (by decide), rfl, LN, h, rfl⟩ ?_
 rintro σ n ⟨f5, v6, _, l9, _, rfl, hf5, hpf5, rfl, rfl, h, hσ⟩
 refine kk hσ ?_
 intro tB (htB : tB = decide (v6 < ((lC.length : Nat) : Int)))
 cases tB
 obtain rfl := il_nil hf5 htB
 rw [f57_L2] at h
 conv => whnf
 exact ⟨l9, _, LN, ss h, rfl⟩
 obtain ⟨g8, rfl, hwg8, hpg8, hfg8⟩ := il_cons hf5 hpf5 htB hNU
 rw [f57_L2] at h
 refine kp h fun hbY h => ?_
 refine kg (sat_getN h) fun uuM huuM h => ?_
 obtain ⟨aZ, ⟨k00, n01, s02, f03⟩⟩ := uuM
 refine kL [] (h57 _ _ _ _ _ _ ?_ (sb h))
 rintro kN nO sP fQ h
 refine kp h fun hb04 h => ?_
 refine kg (sat_getN h) fun uuS huuS h => ?_
 obtain ⟨aT, ⟨k05, n06, s07, f08⟩⟩ := uuS
 refine ⟨(aT, (V.mk kN nO sP fQ)), rfl, ?_⟩
 conv => whnf
 exact ⟨g8, nls, g8, v6 + 1, _, (l9.set (0 + v6.toNat) (aT, (V.mk kN nO sP fQ))), _, rfl, hfg8, hpg8, hwg8.symm, LN, h, rfl⟩
 rintro _ ⟨lF, _, rfl, h, rfl⟩
 replace h := hrRA _ h
 conv => whnf
 refine ⟨LN, ?_⟩
 exact kR [] (ND 0) (hQ _ _ _ _ (ss h))
theorem cg57 {P : Program} {fid : Nat → FuncId} (mx : MX P) (k57 : KF P fid 57 j57) (h79 : C79 (SP P fid) f79) : ∀ n, C57 (SP P fid) (f57 n) := by
 intro n
 induction n with
 | zero => exact fun a0 a5 a6 a7 Q R hQ h => (sat_none h).elim
 | succ n ih =>
  have ih0 := ih
  exact fun a0 a5 a6 a7 Q R hQ h => spec_of_vc mx k57 (w57 (f57 n) ih0 h79 a0 a5 a6 a7 Q R hQ h)
theorem c57 {P : Program} {fid : Nat → FuncId} (mx : MX P) (k57 : KF P fid 57 j57) (h79 : C79 (SP P fid) f79) : ∀ n, C57 (SP P fid) (f57 n) := fun n => (cg57 mx k57 h79 n)
def f1053 : (BA × V) → BA → Option (Bool)
  | (a5, .mk k7 n8 s9 fA), s6 => cond (a5.toList == s6.toList) (some true) (some false)
def C1053 (O : Oracle TT) (m : (BA × V) → BA → Option (Bool)) : Prop :=
  ∀ a6 k7 n8 s9 fA s5 (Q : Bool → Prop) (R : RR) (_ : ∀ qB, Q qB → R (bD qB) [eV (.x 0) [.str s5]]) (_ : sat (m (a6, (V.mk k7 n8 s9 fA)) s5) Q), O 1053 [.agg [.str a6, ci k7, ci n8, .str s9, .isl .fld fA], pX 0] [eV (.x 0) [.str s5]] R
def j1053 : Fn TT := ⟨8, [.t 3], (sr [qo 2 (.box 2 0),qm 3 bF] (sr [qo 4 (.fa 2 0),qo 5 (ld 4),qo 6 (ld 1),qo 7 (.bin .eql .str 5 6),qm 3 7] .ret))⟩
theorem w1053 {O : Oracle TT} : C1053 (fun _ => vcF (S := SS) O j1053) f1053 := by
 intro a5 k6 n7 s8 f9 sA Q R hQ h
 unfold f1053 at h
 refine ⟨nle rfl, rfl, ?_⟩
 refine kc h ?_ ?_ <;> intro h
 exact kR [] (ND 1) (hQ _ (ss h))
 exact kR [] (ND 1) (hQ _ (ss h))
def f163a_L2 (r6 : FV) (s7 : BA) : Nat → Int → Option (Sum (Int) (Unit))
  | 0, v5 => some (.inr ())
  | g8 + 1, v5 => grdP ((0 : Int) ≤ v5 ∧ v5 < ((r6.length : Nat) : Int)) (getN r6 (0 + v5.toNat) fun uu9 => match uu9 with | (aA, .mk kB nC sF fG) => (f1053 (aA, (V.mk kB nC sF fG)) s7).bind fun qH => cond qH (lft (some v5)) (f163a_L2 r6 s7 g8 (v5 + 1)))
def f163a : FV → BA → Option (Int)
  | r5, s6 => sbind (ο := Unit) (grdP (((r5.length : Nat) : Int) ≤ 9223372036854775807) (f163a_L2 r5 s6 (((r5.length : Nat) : Int) - 0).toNat 0)) (fun () => some (-1))
def C163a (O : Oracle TT) (m : FV → BA → Option (Int)) : Prop :=
  ∀ (r5 : FV) s6 (n7 : Nat) (en7 : n7 = r5.length) (Q : Int → Prop) (R : RR) (_ : ∀ v8, Q v8 → R (iD v8) [(.x 0, (eR .fld r5)), eV (.x 1) [.str s6]]) (_ : sat (m r5 s6) Q), O 163 [.c (.osl (.x 0) 0 n7), .c (.fn 1053 [(.x 1)])] [(.x 0, (eR .fld r5)), eV (.x 1) [.str s6]] R
def j163a : Fn TT := ⟨19, [.t 4], (sr [qo 4 (.mv (iC 0))] (.cut [] [(.x 0), (.x 1)] (sr [qm 6 0,qo 7 (.len false 6),qo 8 (.mv (iC 0))] (.block 0 (.loop (.keep [0, 1, 7, 8] [(.x 0), (.x 1)] (.aft (sr [qo 9 (.bin .lss .num 8 7)] (.seq (.cond 9 .skip (.exit 0)) (.seq (.block 1 (sr [qm 10 8,qm 5 10] (sr [qm 11 1,
 qm 12 0,qm 13 5,qo 14 (.idxA 12 13 5),qo 15 (.load 14 5 true),qo 16 (.callv 16 11 [15])] (.cond 16 (sr [qm 17 5,qm 4 17] .ret) .skip)))) (.reg [qo 18 (.bin .add .num 8 (iC 1)),qm 8 18])))) [.keep [0, 1, 7, 8] [(.x 0), (.x 1)]]))))) (sr [qo 4 (.mv (iC (-1)))] .ret)))⟩
theorem w163a {O : Oracle TT} (h1053 : C1053 O f1053) : C163a (fun _ => vcF (S := SS) O j163a) f163a := by
 intro r8 sC nG enG Q R hQ h
 subst enG
 unfold f163a at h
 refine ⟨nle rfl, rfl, ?_⟩
 obtain ⟨RA, h, aA, bA⟩ := sc h
 refine kX (fun σ => RA (.inr ()) ∧ σ = ⟨[], [(.x 0, (eR .fld r8)), eV (.x 1) [.str sC]]⟩) ?_ ?_
 intro hlK
 obtain ⟨hNI, h⟩ := sat_grdP h
 refine kX (fun σ n => ∃ (f5 : Nat) (v9 : Int) (z : Int), f5 = n ∧ f5 = (((r8.length : Nat) : Int) - v9).toNat ∧ 0 ≤ v9 ∧ v9 = z ∧ sat (f163a_L2 r8 sC f5 v9) RA ∧ σ.keep [0, 1, 7, 8] [(.x 0), (.x 1)] = ⟨[(0, .c (.osl (.x 0) 0 r8.length)), (1, .c (.fn 1053 [(.x 1)])), (7, iD ((r8.length : Nat) : Int)), (8, iD z)], [(.x 0, (eR .fld r8)), eV (.x 1) [.str sC]]⟩) ⟨_, _, 0, _, rfl, rfl, (by decide), rfl, h, rfl⟩ ?_
 rintro σ n ⟨f5, v9, _, rfl, hf5, hpf5, rfl, h, hσ⟩
 refine kk hσ ?_
 intro tB (htB : tB = decide (v9 < ((r8.length : Nat) : Int)))
 cases tB
 obtain rfl := il_nil hf5 htB
 rw [f163a_L2] at h
 conv => whnf
 exact ⟨ss h, rfl⟩
 obtain ⟨g6, rfl, hwg6, hpg6, hfg6⟩ := il_cons hf5 hpf5 htB hNI
 rw [f163a_L2] at h
 refine kp h fun hbM h => ?_
 refine kg (sat_getN h) fun uuH huuH h => ?_
 obtain ⟨aN, ⟨kO, nP, sQ, fS⟩⟩ := uuH
 refine kL [(.x 1)] (h1053 _ _ _ _ _ _ _ _ ?_ (sb h))
 rintro qJ h
 cases qJ
 replace h := cf h
 conv => whnf
 exact ⟨g6, nls, g6, v9 + 1, _, rfl, hfg6, hpg6, hwg6.symm, h, rfl⟩
 replace h := ct h
 replace h := sat_lft aA h
 exact kR [] (ND 2) (hQ _ (ss h))
 rintro _ ⟨h, rfl⟩
 replace h := bA _ h
 exact kR [] (ND 2) (hQ _ (ss h))
def f1052 : Int → Int → BA → BA → FV → Option (Int)
  | k8, n9, sA, s5, r6 => (f163a r6 s5).bind fun v7 => some v7
def C1052 (O : Oracle TT) (m : Int → Int → BA → BA → FV → Option (Int)) : Prop :=
  ∀ k7 n8 s9 sA (r5 : FV) (n6 : Nat) (en6 : n6 = r5.length) (Q : Int → Prop) (R : RR) (_ : ∀ vB, Q vB → R (iD vB) [(.x 0, (eR .fld r5))]) (_ : sat (m k7 n8 s9 sA r5) Q), O 1052 [.agg [ci k7, ci n8, .str s9, .osl (.x 0) 0 n6], sD sA] [(.x 0, (eR .fld r5))] R
def j1052 : Fn TT := ⟨9, [.t 4], (sr [qo 2 (.box 2 0),qo 3 (.box 3 1),qo 4 (.mv (iC 0))] (sr [qo 5 (.fa 2 3),qo 6 (ld 5),qo 7 (.mkf 1053 [3]),qo 8 (.call 8 163 [6, 7]),qm 4 8] .ret))⟩
theorem w1052 {O : Oracle TT} (h163a : C163a O f163a) : C1052 (fun _ => vcF (S := SS) O j1052) f1052 := by
 intro k6 n7 s8 s9 rA n5 en5 Q R hQ h
 subst en5
 unfold f1052 at h
 refine ⟨nle rfl, rfl, ?_⟩
 refine kL [(.x 0), (.s 3)] (h163a _ _ _ LN _ _ ?_ (sb h))
 rintro vB h
 exact kR [] (ND 1) (hQ _ (ss h))
end Go.Clap
