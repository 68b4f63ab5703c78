/- The checks of the small code against the loaded functions. -/
import Derived.Test.YthhdejjjcaamiaaGreatDoorClapW1
set_option linter.unusedVariables false
set_option linter.unusedSimpArgs false
set_option maxHeartbeats 4000000
set_option maxRecDepth 100000
namespace Go.Clap
open Go.IntKind (wrap)
def f1056 : Int → Int → FV → Option FV
  | i, j, l => grdP (0 ≤ i ∧ i < j ∧ j ≤ (l.length : Int)) (some (l.take i.toNat ++ l.drop j.toNat))
def C1056 (O : Oracle TT) (m : Int → Int → FV → Option (FV)) : Prop :=
  ∀ v8 v9 (r5 : FV) (n6 : Nat) (en6 : n6 = r5.length) (Q : FV → Prop) (R : RR) (_ : ∀ (l7 : FV) (n0r : Nat) (_ : n0r = l7.length), Q l7 → R (.c (.osl (.x 1) 0 n0r)) [(.x 0, none), (.x 1, (eR .fld l7))]) (_ : sat (m v8 v9 r5) Q), O 1056 [.c (.osl (.x 0) 0 n6), iD v8, iD v9] [(.x 0, (eR .fld r5))] R
def b1048 (self1049 : Ln → Int → Int → BA → FV → Option (V)) : Ln → V → Option (V)
  | .mk op5 nm6 to7 ns8 n9 loA hiB sepC (.mk kF nG sH fI) prsJ ksK, .mk kM nN sO fP => cond (op5 == 1) (none) (cond (op5 == 16) (none) (cond (op5 == 17) (none) (cond (op5 == 18) (none) (cond (op5 == 11) (none) (cond (op5 == 12) (none) ((f79 fP).bind fun lQ => (self1049 (Ln.mk op5 nm6 to7 ns8 n9 loA hiB sepC (V.mk kF nG sH fI) prsJ ksK) kM nN sO lQ).bind fun (.mk kS nT sU fV) => some (V.mk kS nT sU fV)))))))
def f1049_L4 (self1048 : Ln → V → Option (V)) (ks7 : List Ln) : Nat → Int → FV → Option (Sum (Sum (V) (Unit)) (FV))
  | 0, v5, l6 => some (.inr l6)
  | g8 + 1, v5, l6 => grdP ((0 : Int) ≤ v5 ∧ v5 < ((l6.length : Nat) : Int)) (getN l6 (0 + v5.toNat) fun uu9 => match uu9 with | (a04, .mk kA nB sC fF) => getL ks7 0 fun uuG => match uuG with | .mk opH nmI toJ nsK nM loN hiO sepP (.mk kQ nS sT fU) prsV ksW => (self1048 (Ln.mk opH nmI toJ nsK nM loN hiO sepP (V.mk kQ nS sT fU) prsV ksW) (V.mk kA nB sC fF)).bind fun (.mk kY nZ s00 f01) => grdP ((0 : Int) ≤ v5 ∧ v5 < ((l6.length : Nat) : Int)) (getN l6 (0 + v5.toNat) fun uu02 => match uu02 with | (a03, .mk k05 n06 s07 f08) => f1049_L4 self1048 ks7 g8 (v5 + 1) (l6.set (0 + v5.toNat) (a03, (V.mk kY nZ s00 f01)))))
def b1049 (self1048 : Ln → V → Option (V)) : Ln → Int → Int → BA → FV → Option (V)
  | .mk op5 nmB toH nsI nJ loK hiM sepN (.mk kO nP sQ fS) prsT ksC, k7, n8, s9, r6 => sbind (ο := Unit) (cond (op5 == 13) (sbind (ο := FV) (grdP (((r6.length : Nat) : Int) ≤ 9223372036854775807) (f1049_L4 self1048 ksC (((r6.length : Nat) : Int) - 0).toNat 0 r6)) (fun lF => lft (some (V.mk k7 n8 s9 lF)))) (cond (op5 == 14) (none) (cond (op5 == 15) (none) (cond (op5 == 6) (none) (some (.inr ())))))) (fun () => (f1052 k7 n8 s9 nmB r6).bind fun vA => cond (op5 == 2) (none) (cond (op5 == 3) (none) (cond (op5 == 4) ((f1056 vA (wrap .i64 (vA + 1)) r6).bind fun lG => some (V.mk k7 n8 s9 lG)) (none))))
def S1048 : Nat → (Ln → V → Option (V)) × (Ln → Int → Int → BA → FV → Option (V))
  | 0 => (fun _ _ => none, fun _ _ _ _ _ => none)
  | n + 1 => (b1048 (S1048 n).2, b1049 (S1048 n).1)
def f1048 (n : Nat) : Ln → V → Option (V) := (S1048 n).1
def f1049 (n : Nat) : Ln → Int → Int → BA → FV → Option (V) := (S1048 n).2
def C1048 (O : Oracle TT) (m : Ln → V → Option (V)) : Prop :=
  ∀ op5 nm6 to7 ns8 n9 loA hiB sepC kF nG sH fI prsJ ksK kM nN sO fP (Q : V → Prop) (R : RR) (_ : ∀ kQ nS sT fU, Q (V.mk kQ nS sT fU) → R (.agg [ci kQ, ci nS, .str sT, .isl .fld fU]) []) (_ : sat (m (Ln.mk op5 nm6 to7 ns8 n9 loA hiB sepC (V.mk kF nG sH fI) prsJ ksK) (V.mk kM nN sO fP)) Q), O 1048 [.agg [ci op5, .str nm6, .str to7, .isl .str ns8, ci n9, ci loA, ci hiB, .int .u8 sepC, ci kF, ci nG, .str sH, .isl .fld fI, .isl .two prsJ, .isl .lens ksK], .agg [ci kM, ci nN, .str sO, .isl .fld fP]] [] R
def j1048 : Fn TT := ⟨91, [.cell 4 4 true], (sr [qo 2 (.box 2 0),qo 3 (.box 3 1),qo 4 (.alloc 4 zV)] (.seq (sr [qo 11 (.fa 2 0),qo 12 (ld 11)] (.block 0 (sr [qo 14 (.bin .eql .num 12 (iC 1)),qm 13 14] (.cond 13 .dead (sr [qo 28 (.bin .eql .num 12 (iC 16)),qm 27 28] (.cond 27 .dead (sr [qo 36 (.bin .eql .num 12 (iC 17)),
 qm 35 36] (.cond 35 .dead (sr [qo 43 (.bin .eql .num 12 (iC 18)),qm 42 43] (.cond 42 .dead (sr [qo 59 (.bin .eql .num 12 (iC 11)),qm 58 59] (.cond 58 .dead (sr [qo 75 (.bin .eql .num 12 (iC 12)),qm 74 75] (.cond 74 .dead .skip)))))))))))))) (sr [qo 84 (.fa 3 3),qo 85 (ld 84),qo 86 (.call 86 79 [85]),qo 87 (.fa 3 3),
 qp (.store 87 86 1)] (sr [qo 88 (.load 2 14 true),qo 89 (.load 3 4 true),qo 90 (.call 90 1049 [88, 89]),qp (.store 4 90 4)] .ret))))⟩
def C1049 (O : Oracle TT) (m : Ln → Int → Int → BA → FV → Option (V)) : Prop :=
  ∀ op7 nm8 to9 nsA nB loC hiF sepG kH nI sJ fK prsM ksN kO nP sQ (r5 : FV) (n6 : Nat) (en6 : n6 = r5.length) (Q : V → Prop) (R : RR) (_ : ∀ kS nT sU fV, Q (V.mk kS nT sU fV) → R (.agg [ci kS, ci nT, .str sU, .isl .fld fV]) [(.x 0, none)]) (_ : sat (m (Ln.mk op7 nm8 to9 nsA nB loC hiF sepG (V.mk kH nI sJ fK) prsM ksN) kO nP sQ r5) Q), O 1049 [.agg [ci op7, .str nm8, .str to9, .isl .str nsA, ci nB, ci loC, ci hiF, .int .u8 sepG, ci kH, ci nI, .str sJ, .isl .fld fK, .isl .two prsM, .isl .lens ksN], .agg [ci kO, ci nP, .str sQ, .osl (.x 0) 0 n6]] [(.x 0, (eR .fld r5))] R
def j1049 : Fn TT := ⟨248, [.cell 4 4 true], (sr [qo 2 (.box 2 0),qo 3 (.box 3 1),qo 4 (.alloc 4 zV)] (.cut [2, 3, 4] [(.s 2), (.s 3), (.s 4), (.x 0)] (sr [qo 14 (.fa 2 0),qo 15 (ld 14)] (.block 0 (sr [qo 17 (.bin .eql .num 15 (iC 13)),qm 16 17] (.cond 16 (.cut [3, 4] [(.s 3), (.s 4), (.x 0)] (sr [qo 18 (.fa 3 3),
 qo 19 (ld 18),qo 20 (.len false 19),qo 21 (.mv (iC 0))] (.block 1 (.loop (.keep [2, 3, 4, 19, 20, 21] [(.s 2), (.s 3), (.s 4), (.x 0)] (.aft (sr [qo 22 (.bin .lss .num 21 20)] (.seq (.cond 22 .skip (.exit 1)) (.seq (.block 2 (sr [qm 23 21,qo 24 (.idxA 19 21 5),qo 25 (.load 24 5 true),qo 6 (.alloc 6 zFd),qm 5 23,qp (.store 6 25 5)]
 (.drw [] (oR 13) [12] [0, 1, 2, 3, 4, 5, 6, 7, 8, 10, 11] [qo 26 (.fa 3 3),qo 27 (ld 26),qm 28 5,qo 29 (.fa 2 13),qo 30 (ld 29),qo 31 (.idxA 30 (iC 0) 14),qo 32 (.load 31 14 true),qo 33 (.fa 6 1),qo 34 (.load 33 4 true),qo 35 (.call 35 1048 [32, 34]),qo 36 (.idxA 27 28 5),qo 37 (.fa 36 1),qp (.store 37 35 4)]))) (.reg [qo 38 (.bin .add .num 21 (iC 1)),
 qm 21 38])))) [.keep [2, 3, 4, 19, 20, 21] [(.s 2), (.s 3), (.s 4), (.x 0)]]))))) (sr [qo 39 (.load 3 4 true),qp (.store 4 39 4)] (.pre [.frzc (.s 4) 3 .fld, .keep [4] [(.s 4)]] .ret))) (sr [qo 41 (.bin .eql .num 15 (iC 14)),qm 40 41] (.cond 40 .dead (sr [qo 69 (.bin .eql .num 15 (iC 15)),qm 68 69] (.cond 68 .dead (.seq
 (.reg [qo 77 (.bin .eql .num 15 (iC 6)),qm 76 77]) (.cond 76 .dead .skip)))))))))) (sr [qo 81 (.load 3 4 true),qo 82 (.fa 2 1),qo 83 (ld 82),qo 84 (.call 84 1052 [81, 83]),qm 8 84] (.seq (sr [qo 85 (.fa 2 0),qo 86 (ld 85)] (.block 3 (sr [qo 88 (.bin .eql .num 86 (iC 2)),qm 87 88] (.cond 87 .dead (.seq
 (.reg [qo 106 (.bin .eql .num 86 (iC 3)),qm 105 106]) (.cond 105 .dead (sr [qo 117 (.bin .eql .num 86 (iC 4)),qm 116 117] (.cond 116 (.reg [qo 118 (.fa 3 3),qo 119 (ld 118),qm 120 8,qm 121 8,qo 122 (.bin .add .num 121 (iC 1)),qo 123 (.call 123 1056 [119, 120, 122]),qo 124 (.fa 3 3),qp (.store 124 123 1)]) .dead)))))))) (.seq
 (.reg [qo 247 (.load 3 4 true),qp (.store 4 247 4)]) (.pre [.frzc (.s 4) 3 .fld] .ret))))))⟩
theorem w1048 {O : Oracle TT} (self1049 : Ln → Int → Int → BA → FV → Option (V)) (h79 : C79 O f79) (h1049 : C1049 O self1049) : C1048 (fun _ => vcF (S := SS) O j1048) (b1048 self1049) := by
 intro op5 nm6 to7 ns8 n9 loA hiB sepC kF nG sH fI prsJ ksK kM nN sO fP Q R hQ h
 unfold b1048 at h
 refine ⟨nle rfl, rfl, ?_⟩
 refine kc h ?_ ?_ <;> intro h
 refine kc h ?_ ?_ <;> intro h
 refine kc h ?_ ?_ <;> intro h
 refine kc h ?_ ?_ <;> intro h
 refine kc h ?_ ?_ <;> intro h
 refine kc h ?_ ?_ <;> intro h
 refine kL [] (h79 _ _ _ ?_ (sb h))
 rintro lQ _ rfl h
 refine kL [(.sub (.s 86) 0)] (h1049 _ _ _ _ _ _ _ _ _ _ _ _ _ _ _ _ _ _ _ LN _ _ ?_ (sb h))
 rintro kS nT sU fV h
 exact kR [] (ND 0) (hQ _ _ _ _ (ss h))
 exact (sat_none h).elim
 exact (sat_none h).elim
 exact (sat_none h).elim
 exact (sat_none h).elim
 exact (sat_none h).elim
 exact (sat_none h).elim
theorem w1049 {O : Oracle TT} (self1048 : Ln → V → Option (V)) (h1048 : C1048 O self1048) (h1052 : C1052 O f1052) (h1056 : C1056 O f1056) : C1049 (fun _ => vcF (S := SS) O j1049) (b1049 self1048) := by
 intro opN nmO toP nsQ nS loT hiU sepV kW nY sZ f00 prs01 ksH kI nJ sK r6 n02 en02 Q R hQ h
 subst en02
 unfold b1049 at h
 refine ⟨nle rfl, rfl, ?_⟩
 obtain ⟨RC, h, aC, hrRC⟩ := sc h
 refine kX (fun σ => RC (.inr ()) ∧ σ = ⟨[pT 2, pT 3, pT 4], [eV (.s 2) [ci opN, .str nmO, .str toP, .isl .str nsQ, ci nS, ci loT, ci hiU, .int .u8 sepV, ci kW, ci nY, .str sZ, .isl .fld f00, .isl .two prs01, .isl .lens ksH], eV (.s 3) [ci kI, ci nJ, .str sK, .osl (.x 0) 0 r6.length], eV (.s 4) zV, (.x 0, (eR .fld r6))]⟩) ?_ ?_
 refine kc h ?_ ?_ <;> intro h
 refine kc h ?_ ?_ <;> intro h
 refine kc h ?_ ?_ <;> intro h
 refine kc h ?_ ?_ <;> intro h
 conv => whnf
 exact ⟨ss h, rfl⟩
 exact (sat_none h).elim
 exact (sat_none h).elim
 exact (sat_none h).elim
 obtain ⟨RF, h, aF, hrRF⟩ := sc h
 refine kX (fun σ => ∃ (lB : FV) (n03 : Nat), n03 = lB.length ∧ lB.length = r6.length ∧ RF (.inr lB) ∧ σ = ⟨[pT 3, pT 4], [eV (.s 3) [ci kI, ci nJ, .str sK, .osl (.x 0) 0 n03], eV (.s 4) zV, (.x 0, (eR .fld lB))]⟩) ?_ ?_
 intro hl0D
 obtain ⟨hN0C, h⟩ := sat_grdP h
 refine kX (fun σ n => ∃ (f5 : Nat) (v8 : Int) (z : Int) (l9 : FV) (nM : Nat), f5 = n ∧ f5 = (((r6.length : Nat) : Int) - v8).toNat ∧ 0 ≤ v8 ∧ v8 = z ∧ nM = l9.length ∧ l9.length = r6.length ∧ sat (f1049_L4 self1048 ksH f5 v8 l9) RF ∧ σ.keep [2, 3, 4, 19, 20, 21] [(.s 2), (.s 3), (.s 4), (.x 0)] = ⟨[pT 2, pT 3, pT 4, (19, .c (.osl (.x 0) 0 nM)), (20, iD ((r6.length : Nat) : Int)), (21, iD z)], [eV (.s 2) [ci opN, .str nmO, .str toP, .isl .str nsQ, ci nS, ci loT, ci hiU, .int .u8 sepV, ci kW, ci nY, .str sZ, .isl .fld f00, .isl .two prs01, .isl .lens ksH], eV (.s 3) [ci kI, ci nJ, .str sK, .osl (.x 0) 0 nM], eV (.s 4) zV, (.x 0, (eR .fld l9))]⟩) ⟨_, _, 0, _, r6, _, rfl, rfl, (by decide), rfl, LN, LN, h, rfl⟩ ?_
 rintro σ n ⟨f5, v8, _, l9, _, rfl, hf5, hpf5, rfl, rfl, hkll9, h, hσ⟩
 refine kk hσ ?_
 intro tG (htG : tG = decide (v8 < ((r6.length : Nat) : Int)))
 cases tG
 obtain rfl := il_nil hf5 htG
 rw [f1049_L4] at h
 conv => whnf
 exact ⟨l9, _, LN, LN, ss h, rfl⟩
 obtain ⟨gA, rfl, hwgA, hpgA, hfgA⟩ := il_cons hf5 hpf5 htG hN0C
 rw [f1049_L4] at h
 refine kp h fun hb0E h => ?_
 refine kg (sat_getN h) fun uu04 huu04 h => ?_
 obtain ⟨a0F, ⟨k0G, n0H, s0I, f0J⟩⟩ := uu04
 refine kg (sat_getL h) fun uu05 huu05 h => ?_
 obtain ⟨op0K, nm0L, to0M, ns0N, n0O, lo0P, hi0Q, sep0R, ⟨k0S, n0T, s0U, f0V⟩, prs0W, ks0X⟩ := uu05
 refine kL [] (h1048 _ _ _ _ _ _ _ _ _ _ _ _ _ _ _ _ _ _ _ _ ?_ (sb h))
 rintro k06 n07 s08 f09 h
 refine kp h fun hb0Y h => ?_
 refine kg (sat_getN h) fun uu0A huu0A h => ?_
 obtain ⟨a0B, ⟨k0Z, n10, s11, f12⟩⟩ := uu0A
 refine ⟨(a0B, (V.mk k06 n07 s08 f09)), rfl, ?_⟩
 conv => whnf
 exact ⟨gA, nls, gA, v8 + 1, _, (l9.set (0 + v8.toNat) (a0B, (V.mk k06 n07 s08 f09))), _, rfl, hfgA, hpgA, hwgA.symm, LN, LN, h, rfl⟩
 rintro _ ⟨lB, _, rfl, hkllB, h, rfl⟩
 replace h := hrRF _ h
 conv => whnf
 refine ⟨LN, ?_⟩
 replace h := sat_lft aC h
 exact kR [] (ND 1) (hQ _ _ _ _ (ss h))
 rintro _ ⟨h, rfl⟩
 replace h := hrRC _ h
 refine kL [(.x 0)] (h1052 _ _ _ _ _ _ LN _ _ ?_ (sb h))
 rintro v13 h
 refine kc h ?_ ?_ <;> intro h
 refine kc h ?_ ?_ <;> intro h
 refine kc h ?_ ?_ <;> intro h
 exact (sat_none h).elim
 refine kL [(.x 0)] (h1056 _ _ _ _ LN _ _ ?_ (sb h))
 rintro l14 _ rfl h
 conv => whnf
 refine ⟨LN, ?_⟩
 exact kR [] (ND 1) (hQ _ _ _ _ (ss h))
 exact (sat_none h).elim
 exact (sat_none h).elim
theorem cg1048 {P : Program} {fid : Nat → FuncId} (mx : MX P) (k1048 : KF P fid 1048 j1048) (k1049 : KF P fid 1049 j1049) (h79 : C79 (SP P fid) f79) (h1052 : C1052 (SP P fid) f1052) (h1056 : C1056 (SP P fid) f1056) : ∀ n, C1048 (SP P fid) (f1048 n) ∧ C1049 (SP P fid) (f1049 n) := by
 intro n
 induction n with
 | zero => exact ⟨fun a6 a7 a8 a9 aA aC aD aE aF aG aH aI aJ aK aL aM aN aO Q R hQ h => (sat_none h).elim, fun a6 a7 a8 a9 aA aC aD aE aF aG aH aI aJ aK aL aM aN aO n6 e6 Q R hQ h => (sat_none h).elim⟩
 | succ n ih =>
  obtain ⟨ih6, ih7⟩ := ih
  exact ⟨fun a6 a7 a8 a9 aA aC aD aE aF aG aH aI aJ aK aL aM aN aO Q R hQ h => spec_of_vc mx k1048 (w1048 (f1049 n) h79 ih7 a6 a7 a8 a9 aA aC aD aE aF aG aH aI aJ aK aL aM aN aO Q R hQ h), fun a6 a7 a8 a9 aA aC aD aE aF aG aH aI aJ aK aL aM aN aO n6 e6 Q R hQ h => spec_of_vc mx k1049 (w1049 (f1048 n) ih6 h1052 h1056 a6 a7 a8 a9 aA aC aD aE aF aG aH aI aJ aK aL aM aN aO n6 e6 Q R hQ h)⟩
theorem c1048 {P : Program} {fid : Nat → FuncId} (mx : MX P) (k1048 : KF P fid 1048 j1048) (k1049 : KF P fid 1049 j1049) (h79 : C79 (SP P fid) f79) (h1052 : C1052 (SP P fid) f1052) (h1056 : C1056 (SP P fid) f1056) : ∀ n, C1048 (SP P fid) (f1048 n) := fun n => (cg1048 mx k1048 k1049 h79 h1052 h1056 n).1
def f1047 (fuel : Nat) : PT → Ln → Tp → V → Option (V × Int)
  | l5, .mk op6 nm7 to8 ns9 nA loB hiC sepF (.mk kG nH sI fJ) prsK ksM, .mk kN mO loP hiQ pU psV, .mk kW nY sZ f00 => (f1032 fuel l5 (Ln.mk op6 nm7 to8 ns9 nA loB hiC sepF (V.mk kG nH sI fJ) prsK ksM) (Tp.mk kN mO loP hiQ pU psV)).bind fun ((.mk k0G m0H lo0I hi0J p0K ps0L), v05) => cond (v05 != 0) (none) ((f1042 fuel l5 (Tp.mk kN mO loP hiQ pU psV) (V.mk kW nY sZ f00)).bind fun q06 => cond q06 (sbind (ο := Int × Int × BA × FV) ((f57 fuel (V.mk kW nY sZ f00)).bind fun (.mk k07 n08 s09 f0A) => (f1048 fuel (Ln.mk op6 nm7 to8 ns9 nA loB hiC sepF (V.mk kG nH sI fJ) prsK ksM) (V.mk k07 n08 s09 f0A)).bind fun (.mk k0B n0C s0D f0E) => some (.inr (k0B, n0C, s0D, f0E))) (fun (v01, v02, s03, l04) => (f51 fuel (V.mk v01 v02 s03 l04)).bind fun v0F => cond (v0F != 0) (none) (some ((V.mk v01 v02 s03 l04), 0)))) (some ((V.mk 0 0 (⟨#[]⟩ : BA) []), 8)))
def C1047 (O : Oracle TT) (m : PT → Ln → Tp → V → Option (V × Int)) : Prop :=
  ∀ l5 op6 nm7 to8 ns9 nA loB hiC sepF kG nH sI fJ prsK ksM kN mO loP hiQ pU psV kW nY sZ f00 (Q : (V × Int) → Prop) (R : RR) (_ : ∀ k01 n02 s03 f04 v05, Q ((V.mk k01 n02 s03 f04), v05) → R (.tup [.agg [ci k01, ci n02, .str s03, .isl .fld f04], iD v05]) []) (_ : sat (m l5 (Ln.mk op6 nm7 to8 ns9 nA loB hiC sepF (V.mk kG nH sI fJ) prsK ksM) (Tp.mk kN mO loP hiQ pU psV) (V.mk kW nY sZ f00)) Q), O 1047 [.c (.isl .dfn l5), .agg [ci op6, .str nm7, .str to8, .isl .str ns9, ci nA, ci loB, ci hiC, .int .u8 sepF, ci kG, ci nH, .str sI, .isl .fld fJ, .isl .two prsK, .isl .lens ksM], .agg [ci kN, .str mO, ci loP, ci hiQ, .str pU, .isl .part psV], .agg [ci kW, ci nY, .str sZ, .isl .fld f00]] [] R
def j1047 : Fn TT := ⟨39, [.cell 8 4 true, .t 9], (sr [qo 5 (.box 5 1),qo 6 (.box 6 2),qo 7 (.box 7 3),qo 8 (.alloc 8 zV),qo 9 (.mv (iC 0))] (.seq (sr [qm 14 0,qo 15 (.load 5 14 true),qo 16 (.load 6 6 true),qo 17 (.call 17 1032 [14, 15, 16]),qm 13 17,qo 18 (.ext 13 0),qo 19 (.ext 13 1),qo 10 (.alloc 10 zTp),qp (.store 10 18 6),qm 11 19] (.seq
 (.reg [qm 20 11,qo 21 (.bin .neq .num 20 (iC 0))]) (.cond 21 .dead .skip))) (.seq (sr [qm 24 0,qo 25 (.load 6 6 true),qo 26 (.load 7 4 true),qo 27 (.call 27 1042 [24, 25, 26]),qo 28 (.un .not 27)] (.cond 28 (sr [qo 29 (.build zV []),qp (.store 8 29 4),qo 9 (.mv (iC 8))] .ret) .skip)) (.cut [8, 12] [(.s 8), (.s 12)]
 (.drw [] (.go 0 (.go 1 (.alt 2 (.alt 3 (.go 4 (.go 5 .nil)) 4 (.go 3 (.go 5 .nil))) 4 (.go 2 (.go 3 (.go 5 .nil)))))) [5] [0, 1] [qo 30 (.load 5 14 true),qo 31 (.load 7 4 true),qo 32 (.call 32 57 [31]),qo 33 (.call 33 1048 [30, 32]),qo 12 (.alloc 12 zV),qp (.store 12 33 4)]) (.seq (sr [qo 34 (.load 12 4 true),qo 35 (.call 35 51 [34]),qo 36 (.bin .neq .num 35 (iC 0))] (.cond 36
 .dead .skip)) (sr [qo 38 (.load 12 4 true),qp (.store 8 38 4),qo 9 (.mv (iC 0))] .ret))))))⟩
theorem w1047 {O : Oracle TT} (fuel : Nat) (h51 : C51 O (f51 fuel)) (h1032 : C1032 O (f1032 fuel)) (h1042 : C1042 O (f1042 fuel)) (h57 : C57 O (f57 fuel)) (h1048 : C1048 O (f1048 fuel)) : C1047 (fun _ => vcF (S := SS) O j1047) (f1047 fuel) := by
 intro lU opV nmW toY nsZ n00 lo01 hi02 sep03 k04 n05 s06 f07 prs08 ks09 k0A m0B lo0C hi0D p0E ps0F k0G n0H s0I f0J Q R hQ h
 unfold f1047 at h
 refine ⟨nle rfl, rfl, ?_⟩
 refine kL [] (h1032 _ _ _ _ _ _ _ _ _ _ _ _ _ _ _ _ _ _ _ _ _ _ _ ?_ (sb h))
 rintro k0K m0L lo0M hi0N p0O ps0P v0Q h
 refine kc h ?_ ?_ <;> intro h
 refine kL [] (h1042 _ _ _ _ _ _ _ _ _ _ _ _ _ ?_ (sb h))
 rintro qA h
 cases qA
 replace h := cf h
 exact kR [] (ND 0) (hQ _ _ _ _ _ (ss h))
 replace h := ct h
 obtain ⟨R5, h, a5, b5⟩ := sc h
 refine kX (fun σ => ∃ v6 v7 s8 l9, R5 (.inr (v6, v7, s8, l9)) ∧ σ = ⟨[pT 8, pT 12], [eV (.s 8) zV, eV (.s 12) [ci v6, ci v7, .str s8, .isl .fld l9]]⟩) ?_ ?_
 conv => whnf
 refine ⟨?_, ?_⟩
 refine kL [] (h57 _ _ _ _ _ _ ?_ (sb h))
 rintro k0R n0S s0T f0U h
 conv => whnf
 refine ⟨?_, ?_⟩
 refine kL [] (h1048 _ _ _ _ _ _ _ _ _ _ _ _ _ _ _ _ _ _ _ _ ?_ (sb h))
 rintro kB nC sG fH h
 conv => whnf
 exact ⟨kB, nC, sG, fH, ss h, rfl⟩
 refine kL [] (h1048 _ _ _ _ _ _ _ _ _ _ _ _ _ _ _ _ _ _ _ _ ?_ (sb h))
 rintro kI nJ sK fM h
 conv => whnf
 exact ⟨kI, nJ, sK, fM, ss h, rfl⟩
 refine kL [] (h57 _ _ _ _ _ _ ?_ (sb h))
 rintro k0V n0W s0X f0Y h
 refine kL [] (h1048 _ _ _ _ _ _ _ _ _ _ _ _ _ _ _ _ _ _ _ _ ?_ (sb h))
 rintro kN nO sP fQ h
 conv => whnf
 exact ⟨kN, nO, sP, fQ, ss h, rfl⟩
 rintro _ ⟨v6, v7, s8, l9, h, rfl⟩
 replace h := b5 _ h
 refine kL [] (h51 _ _ _ _ _ _ ?_ (sb h))
 rintro v0Z h
 refine kc h ?_ ?_ <;> intro h
 exact kR [] (ND 0) (hQ _ _ _ _ _ (ss h))
 exact (sat_none h).elim
 exact (sat_none h).elim
def f35_L2 (fuel : Nat) (k5 : Int) (s6 : BA) : FV → Nat → Option (Sum (V × Bool) (Unit))
  | [], j7 => some (.inr ())
  | ((a9, .mk kA nB sC fF)) :: tl8, j7 => cond (a9.toList == s6.toList) (cond (k5 != 8) ((f57 fuel (V.mk kA nB sC fF)).bind fun (.mk kG nH sI fJ) => lft (some ((V.mk kG nH sI fJ), true))) (f35_L2 fuel k5 s6 tl8 (j7 + 1))) (f35_L2 fuel k5 s6 tl8 (j7 + 1))
def f35 (fuel : Nat) : V → BA → Option (V × Bool)
  | .mk k5 n8 s9 f6, s7 => sbind (ο := Unit) (f35_L2 fuel k5 s7 f6 0) (fun () => some ((V.mk 0 0 (⟨#[]⟩ : BA) []), false))
def C35 (O : Oracle TT) (m : V → BA → Option (V × Bool)) : Prop :=
  ∀ k5 n6 s7 f8 s9 (Q : (V × Bool) → Prop) (R : RR) (_ : ∀ kA nB sC fF qG, Q ((V.mk kA nB sC fF), qG) → R (.tup [.agg [ci kA, ci nB, .str sC, .isl .fld fF], bD qG]) []) (_ : sat (m (V.mk k5 n6 s7 f8) s9) Q), O 35 [.agg [ci k5, ci n6, .str s7, .isl .fld f8], sD s9] [] R
def j35 : Fn TT := ⟨29, [.cell 4 4 true, .t 5], (sr [qo 2 (.box 2 0),qo 4 (.alloc 4 zV),qm 5 bF] (.cut [4] [(.s 4)] (sr [qo 8 (.fa 2 3),qo 9 (ld 8),qo 10 (.len false 9),qo 11 (.mv (iC 0))] (.block 0 (.loop (.keep [1, 2, 4, 9, 10, 11] [(.s 2), (.s 4)] (.aft (sr [qo 12 (.bin .lss .num 11 10)] (.seq (.cond 12 .skip (.exit 0)) (.seq (.block 1 (.seq
 (.reg [qo 13 (.idxA 9 11 5),qo 14 (.load 13 5 true),qo 7 (.alloc 7 zFd),qp (.store 7 14 5)]) (sr [qo 15 (.fa 7 0),qo 16 (ld 15),qm 17 1,qo 18 (.bin .eql .str 16 17),qm 19 18,qg 19 20 (.fa 2 0),qg 19 21 (ld 20),qg 19 22 (.bin .neq .num 21 (iC 8)),qo 23 (.pick 19 22 bF)] (.cond 23 (sr [qo 24 (.fa 7 1),qo 25 (.load 24 4 true),
 qo 26 (.call 26 57 [25]),qp (.store 4 26 4),qm 5 bT] .ret) .skip)))) (.reg [qo 27 (.bin .add .num 11 (iC 1)),qm 11 27])))) [.keep [1, 2, 4, 9, 10, 11] [(.s 2), (.s 4)]]))))) (sr [qo 28 (.build zV []),qp (.store 4 28 4),qm 5 bF] .ret)))⟩
theorem w35 {O : Oracle TT} (fuel : Nat) (h57 : C57 O (f57 fuel)) : C35 (fun _ => vcF (S := SS) O j35) (f35 fuel) := by
 intro kG nK sM f9 sH Q R hQ h
 unfold f35 at h
 refine ⟨nle rfl, rfl, ?_⟩
 obtain ⟨RA, h, aA, bA⟩ := sc h
 refine kX (fun σ => RA (.inr ()) ∧ σ = ⟨[pT 4], [eV (.s 4) zV]⟩) ?_ ?_
 intro hlI
 refine kX (fun σ n => ∃ (rem5 : FV) (j6 : Nat) (z : Int), n = rem5.length ∧ f9.drop j6 = rem5 ∧ z = ((j6 : Nat) : Int) ∧ sat (f35_L2 fuel kG sH rem5 j6) RA ∧ σ.keep [1, 2, 4, 9, 10, 11] [(.s 2), (.s 4)] = ⟨[(1, sD sH), pT 2, pT 4, (9, .c (.isl .fld f9)), (10, iD ((f9.length : Nat) : Int)), (11, iD z)], [eV (.s 2) [ci kG, ci nK, .str sM, .isl .fld f9], eV (.s 4) zV]⟩) ⟨_, f9, 0, _, rfl, rfl, rfl, h, rfl⟩ ?_
 rintro σ n ⟨rem5, j6, _, rfl, hrem5, rfl, h, hσ⟩
 refine kk hσ ?_
 intro tC (htC : tC = decide (((j6 : Nat) : Int) < ((f9.length : Nat) : Int)))
 cases tC
 obtain rfl := ll_nil hrem5 htC
 rw [f35_L2] at h
 conv => whnf
 exact ⟨ss h, rfl⟩
 obtain ⟨xB, tl8, rfl, hxB, htl8⟩ := ll_cons hrem5 htC
 obtain ⟨aN, ⟨kO, nP, sQ, fS⟩⟩ := xB
 rw [f35_L2] at h
 conv => whnf
 refine ⟨lx_bd hxB, fun uuJ huuJ => ?_⟩
 obtain rfl := lx_eq hxB huuJ
 refine kc h ?_ ?_ <;> intro h
 conv => whnf
 exact ⟨tl8.length, nls, tl8, j6 + 1, _, rfl, htl8, lx_wr hxB hlI, h, rfl⟩
 refine kc h ?_ ?_ <;> intro h
 conv => whnf
 exact ⟨tl8.length, nls, tl8, j6 + 1, _, rfl, htl8, lx_wr hxB hlI, h, rfl⟩
 refine kL [] (h57 _ _ _ _ _ _ ?_ (sb h))
 rintro kU nV sW fY h
 replace h := sat_lft aA h
 exact kR [] (ND 0) (hQ _ _ _ _ _ (ss h))
 rintro _ ⟨h, rfl⟩
 replace h := bA _ h
 exact kR [] (ND 0) (hQ _ _ _ _ _ (ss h))
def f1043 (fuel : Nat) : Tp → Option (Tp)
  | .mk k5 m6 lo7 hi8 p9 psA => (f1034 fuel (Tp.mk k5 m6 lo7 hi8 p9 psA)).bind fun (.mk kB mC loD hiE pF psG) => some (Tp.mk kB mC loD hiE pF psG)
def C1043 (O : Oracle TT) (m : Tp → Option (Tp)) : Prop :=
  ∀ k5 m6 lo7 hi8 p9 psA (Q : Tp → Prop) (R : RR) (_ : ∀ kB mC loD hiE pF psG, Q (Tp.mk kB mC loD hiE pF psG) → R (.agg [ci kB, .str mC, ci loD, ci hiE, .str pF, .isl .part psG]) []) (_ : sat (m (Tp.mk k5 m6 lo7 hi8 p9 psA)) Q), O 1043 [.agg [ci k5, .str m6, ci lo7, ci hi8, .str p9, .isl .part psA]] [] R
def j1043 : Fn TT := ⟨5, [.cell 2 6 true], (sr [qo 1 (.box 1 0),qo 2 (.alloc 2 zTp)] (sr [qo 3 (.load 1 6 true),qo 4 (.call 4 1034 [3]),qp (.store 2 4 6)] .ret))⟩
theorem w1043 {O : Oracle TT} (fuel : Nat) (h1034 : C1034 O (f1034 fuel)) : C1043 (fun _ => vcF (S := SS) O j1043) (f1043 fuel) := by
 intro k5 m6 lo7 hi8 p9 psA Q R hQ h
 unfold f1043 at h
 refine ⟨nle rfl, rfl, ?_⟩
 refine kL [] (h1034 _ _ _ _ _ _ _ _ ?_ (sb h))
 rintro kB mC loD hiE pF psG h
 exact kR [] (ND 0) (hQ _ _ _ _ _ _ (ss h))
def f320_L2 (fuel : Nat) : LW → Nat → LW → Option (Sum (Ln) (LW))
  | [], j6, l5 => some (.inr l5)
  | ((.mk kH nI sJ fK, .mk kM nN sO fP)) :: tlQ, j6, l5 => (f57 fuel (V.mk kH nI sJ fK)).bind fun (.mk k7 n8 s9 fA) => (f57 fuel (V.mk kM nN sO fP)).bind fun (.mk kB nC sF fG) => grdP (l5.length + ([((V.mk k7 n8 s9 fA), (V.mk kB nC sF fG))] : LW).length ≤ 68719476736) (f320_L2 fuel tlQ (j6 + 1) (l5 ++ ([((V.mk k7 n8 s9 fA), (V.mk kB nC sF fG))] : LW)))
def f320_L4 (self320 : Ln → Option (Ln)) : List Ln → Nat → (List Ln) → Option (Sum (Ln) ((List Ln)))
  | [], j6, l5 => some (.inr l5)
  | (.mk opO nmP toQ nsS nT loU hiV sepW (.mk kY nZ s00 f01) prs02 ks03) :: tl04, j6, l5 => (self320 (Ln.mk opO nmP toQ nsS nT loU hiV sepW (V.mk kY nZ s00 f01) prs02 ks03)).bind fun (.mk op7 nm8 to9 nsA nB loC hiF sepG (.mk kH nI sJ fK) prsM ksN) => grdP (l5.length + ([(Ln.mk op7 nm8 to9 nsA nB loC hiF sepG (V.mk kH nI sJ fK) prsM ksN)] : List Ln).length ≤ 68719476736) (f320_L4 self320 tl04 (j6 + 1) (l5 ++ ([(Ln.mk op7 nm8 to9 nsA nB loC hiF sepG (V.mk kH nI sJ fK) prsM ksN)] : List Ln)))
def b320 (fuel : Nat) (self320 : Ln → Option (Ln)) : Ln → Option (Ln)
  | .mk op6 nm7 to8 ns5 n9 loA hiB sepC (.mk kF nG sH fI) prsJ ksK => grdP (ns5.length ≤ 68719476736) ((f57 fuel (V.mk kF nG sH fI)).bind fun (.mk kM nN sO fP) => sbind (ο := LW) (f320_L2 fuel prsJ 0 []) (fun lQ => sbind (ο := (List Ln)) (f320_L4 self320 ksK 0 []) (fun lS => some (Ln.mk op6 nm7 to8 ns5 n9 loA hiB sepC (V.mk kM nN sO fP) lQ lS))))
def f320 : Nat → Ln → Option (Ln)
  | 0 => fun _ => none
  | n + 1 => b320 n (f320 n)
def C320 (O : Oracle TT) (m : Ln → Option (Ln)) : Prop :=
  ∀ op5 nm6 to7 ns8 n9 loA hiB sepC kF nG sH fI prsJ ksK (Q : Ln → Prop) (R : RR) (_ : ∀ opM nmN toO nsP nQ loS hiT sepU kV nW sY fZ prs00 ks01, Q (Ln.mk opM nmN toO nsP nQ loS hiT sepU (V.mk kV nW sY fZ) prs00 ks01) → R (.agg [ci opM, .str nmN, .str toO, .isl .str nsP, ci nQ, ci loS, ci hiT, .int .u8 sepU, ci kV, ci nW, .str sY, .isl .fld fZ, .isl .two prs00, .isl .lens ks01]) []) (_ : sat (m (Ln.mk op5 nm6 to7 ns8 n9 loA hiB sepC (V.mk kF nG sH fI) prsJ ksK)) Q), O 320 [.agg [ci op5, .str nm6, .str to7, .isl .str ns8, ci n9, ci loA, ci hiB, .int .u8 sepC, ci kF, ci nG, .str sH, .isl .fld fI, .isl .two prsJ, .isl .lens ksK]] [] R
def j320 : Fn TT := ⟨55, [.cell 2 14 true], (sr [qo 1 (.box 1 0),qo 2 (.alloc 2 zLn)] (sr [qo 8 (.load 1 14 true),qo 3 (.alloc 3 zLn),qp (.store 3 8 14)] (sr [qo 9 (.fa 1 3),qo 10 (ld 9),qo 11 (.app 11 .str 68719476736 (.c (.nils)) 10),qo 12 (.fa 3 3),qp (.store 12 11 1)] (sr [qo 13 (.fa 1 8),qo 14 (.load 13 4 true),
 qo 15 (.call 15 57 [14]),qo 16 (.fa 3 8),qp (.store 16 15 4)] (sr [qo 17 (.fa 3 12),qp (.store 17 (.c (.nils)) 1),qo 18 (.fa 3 13),qp (.store 18 (.c (.nils)) 1)] (.cut [1, 2, 3] [(.s 1), (.s 2), (.s 3), (.s 11), (.sub (.sub (.s 3) 600) 12)] (sr [qo 19 (.fa 1 12),qo 20 (ld 19),qo 21 (.len false 20),qo 22 (.mv (iC 0))] (.block 0
 (.pre [.ownc (.s 3) 12 .two (.sub (.sub (.s 3) 600) 12)] (.loop (.keep [1, 2, 3, 20, 21, 22] [(.s 1), (.s 2), (.s 3), (.s 11), (.sub (.sub (.s 3) 600) 12)] (.aft (sr [qo 23 (.bin .lss .num 22 21)] (.seq (.cond 23 .skip (.exit 0)) (.seq (.block 1 (sr [qo 24 (.idxA 20 22 8),qo 25 (.load 24 8 true),qo 5 (.alloc 5 zTw),qp (.store 5 25 8)]
 (.drw [(.sub (.sub (.s 3) 600) 12)] (ol [0, 1, 2, 3, 5, 6, 4, 7, 8, 9, 10, 11, 12]) [12] [0, 1, 2, 3, 5, 6, 8, 11] [qo 26 (.fa 3 12),qo 27 (ld 26),qo 28 (.idxArr 5 (iC 0) 4 2),qo 29 (.load 28 4 true),qo 30 (.call 30 57 [29]),qo 31 (.idxArr 5 (iC 1) 4 2),qo 32 (.load 31 4 true),qo 33 (.call 33 57 [32]),qo 34 (.build zTw [((0, 4), 30), ((4, 4), 33)]),qo 35 (.bsl .two [34]),
 qo 36 (.app 36 .two 68719476736 27 35),qo 37 (.fa 3 12),qp (.store 37 36 1)]))) (.reg [qo 38 (.bin .add .num 22 (iC 1)),qm 22 38])))) [.keep [1, 2, 3, 20, 21, 22] [(.s 1), (.s 2), (.s 3), (.s 11), (.s 36)], .ownc (.s 3) 12 .two (.sub (.sub (.s 3) 600) 12)])))))) (.cut [2, 3] [(.s 2), (.s 3), (.s 11), (.sub (.sub (.s 3) 600) 12), (.sub (.sub (.s 3) 601) 13)] (sr [qo 39 (.fa 1 13),
 qo 40 (ld 39),qo 41 (.len false 40),qo 42 (.mv (iC 0))] (.block 2 (.pre [.ownc (.s 3) 13 .lens (.sub (.sub (.s 3) 601) 13)] (.loop (.keep [2, 3, 40, 41, 42] [(.s 2), (.s 3), (.s 11), (.sub (.sub (.s 3) 600) 12), (.sub (.sub (.s 3) 601) 13)] (.aft (sr [qo 43 (.bin .lss .num 42 41)] (.seq (.cond 43 .skip (.exit 2)) (.seq (.block 3 (sr [qo 44 (.idxA 40 42 14),
 qo 45 (.load 44 14 true),qo 7 (.alloc 7 zLn),qp (.store 7 45 14)] (.drw [(.sub (.sub (.s 3) 601) 13)] (oR 8) [7] [0, 1, 2, 6] [qo 46 (.fa 3 13),qo 47 (ld 46),qo 48 (.load 7 14 true),qo 49 (.call 49 320 [48]),qo 50 (.bsl .lens [49]),qo 51 (.app 51 .lens 68719476736 47 50),qo 52 (.fa 3 13),qp (.store 52 51 1)]))) (.reg [qo 53 (.bin .add .num 42 (iC 1)),
 qm 42 53])))) [.keep [2, 3, 40, 41, 42] [(.s 2), (.s 3), (.s 11), (.sub (.sub (.s 3) 600) 12), (.s 51)], .ownc (.s 3) 13 .lens (.sub (.sub (.s 3) 601) 13)])))))) (sr [qo 54 (.load 3 14 true),qp (.store 2 54 14)] (.pre [.frzc (.s 2) 3 .str, .frzc (.s 2) 12 .two, .frzc (.s 2) 13 .lens] .ret)))))))))⟩
theorem w320 {O : Oracle TT} (fuel : Nat) (self320 : Ln → Option (Ln)) (h57 : C57 O (f57 fuel)) (h320 : C320 O self320) : C320 (fun _ => vcF (S := SS) O j320) (b320 fuel self320) := by
 intro opC nmF toG ns5 nH loI hiJ sepK k05 n06 s07 f08 prs8 ks9 Q R hQ h
 unfold b320 at h
 refine ⟨nle rfl, rfl, ?_⟩
 conv => whnf
 refine ⟨rfl, ?_⟩
 refine kp h fun hb13 h => ?_
 refine kL [] (h57 _ _ _ _ _ _ ?_ (sb h))
 rintro kY nZ s00 f01 h
 obtain ⟨RQ, h, aQ, hrRQ⟩ := sc h
 refine kX (fun σ => ∃ (l6 : LW) (n09 : Nat), n09 = l6.length ∧ RQ (.inr l6) ∧ σ = ⟨[pT 1, pT 2, pT 3], [eV (.s 1) [ci opC, .str nmF, .str toG, .isl .str ns5, ci nH, ci loI, ci hiJ, .int .u8 sepK, ci k05, ci n06, .str s07, .isl .fld f08, .isl .two prs8, .isl .lens ks9], eV (.s 2) zLn, eV (.s 3) [ci opC, .str nmF, .str toG, .osl (.s 11) 0 ns5.length, ci nH, ci loI, ci hiJ, .int .u8 sepK, ci kY, ci nZ, .str s00, .isl .fld f01, .osl (.sub (.sub (.s 3) 600) 12) 0 n09, .nils], (.s 11, (eR .str ns5)), (.sub (.sub (.s 3) 600) 12, (eR .two l6))]⟩) ?_ ?_
 intro hl0F
 refine kX (fun σ n => ∃ (remA : LW) (jM : Nat) (z : Int) (lN : LW) (n0A : Nat), n = remA.length ∧ prs8.drop jM = remA ∧ z = ((jM : Nat) : Int) ∧ n0A = lN.length ∧ sat (f320_L2 fuel remA jM lN) RQ ∧ σ.keep [1, 2, 3, 20, 21, 22] [(.s 1), (.s 2), (.s 3), (.s 11), (.sub (.sub (.s 3) 600) 12)] = ⟨[pT 1, pT 2, pT 3, (20, .c (.isl .two prs8)), (21, iD ((prs8.length : Nat) : Int)), (22, iD z)], [eV (.s 1) [ci opC, .str nmF, .str toG, .isl .str ns5, ci nH, ci loI, ci hiJ, .int .u8 sepK, ci k05, ci n06, .str s07, .isl .fld f08, .isl .two prs8, .isl .lens ks9], eV (.s 2) zLn, eV (.s 3) [ci opC, .str nmF, .str toG, .osl (.s 11) 0 ns5.length, ci nH, ci loI, ci hiJ, .int .u8 sepK, ci kY, ci nZ, .str s00, .isl .fld f01, .osl (.sub (.sub (.s 3) 600) 12) 0 n0A, .nils], (.s 11, (eR .str ns5)), (.sub (.sub (.s 3) 600) 12, (eR .two lN))]⟩) ⟨_, prs8, 0, _, [], _, rfl, rfl, rfl, LN, h, rfl⟩ ?_
 rintro σ n ⟨remA, jM, _, lN, _, rfl, hremA, rfl, rfl, h, hσ⟩
 refine kk hσ ?_
 intro tS (htS : tS = decide (((jM : Nat) : Int) < ((prs8.length : Nat) : Int)))
 cases tS
 obtain rfl := ll_nil hremA htS
 rw [f320_L2] at h
 conv => whnf
 exact ⟨lN, _, LN, ss h, rfl⟩
 obtain ⟨xT, tl02, rfl, hxT, htl02⟩ := ll_cons hremA htS
 obtain ⟨⟨k14, n15, s17, f18⟩, ⟨k19, n1A, s1B, f1C⟩⟩ := xT
 rw [f320_L2] at h
 conv => whnf
 refine ⟨lx_bd hxT, fun uu0B huu0B => ?_⟩
 obtain rfl := lx_eq hxT huu0B
 conv => whnf
 refine ⟨⟨by decide, by decide⟩, ?_⟩
 conv => whnf
 refine ⟨⟨by decide, by decide⟩, ?_⟩
 refine kL [] (h57 _ _ _ _ _ _ ?_ (sb h))
 rintro k0G n0H s0I f0J h
 refine kL [] (h57 _ _ _ _ _ _ ?_ (sb h))
 rintro k0K n0L s0M f0N h
 conv => whnf
 refine ⟨LN, rfl, ?_⟩
 conv => whnf
 refine ⟨rfl, ?_⟩
 refine kp h fun hb1D h => ?_
 conv => whnf
 exact ⟨tl02.length, nls, tl02, jM + 1, _, (lN ++ ([((V.mk k0G n0H s0I f0J), (V.mk k0K n0L s0M f0N))] : LW)), _, rfl, htl02, lx_wr hxT hl0F, LN, h, rfl⟩
 rintro _ ⟨l6, _, rfl, h, rfl⟩
 replace h := hrRQ _ h
 obtain ⟨RU, h, aU, hrRU⟩ := sc h
 refine kX (fun σ => ∃ (l03 : List Ln) (n0C : Nat), n0C = l03.length ∧ RU (.inr l03) ∧ σ = ⟨[pT 2, pT 3], [eV (.s 2) zLn, eV (.s 3) [ci opC, .str nmF, .str toG, .osl (.s 11) 0 ns5.length, ci nH, ci loI, ci hiJ, .int .u8 sepK, ci kY, ci nZ, .str s00, .isl .fld f01, .osl (.sub (.sub (.s 3) 600) 12) 0 l6.length, .osl (.sub (.sub (.s 3) 601) 13) 0 n0C], (.s 11, (eR .str ns5)), (.sub (.sub (.s 3) 600) 12, (eR .two l6)), (.sub (.sub (.s 3) 601) 13, (eR .lens l03))]⟩) ?_ ?_
 intro hl0O
 refine kX (fun σ n => ∃ (remB : List Ln) (jO : Nat) (z : Int) (lP : List Ln) (n0D : Nat), n = remB.length ∧ ks9.drop jO = remB ∧ z = ((jO : Nat) : Int) ∧ n0D = lP.length ∧ sat (f320_L4 self320 remB jO lP) RU ∧ σ.keep [2, 3, 40, 41, 42] [(.s 2), (.s 3), (.s 11), (.sub (.sub (.s 3) 600) 12), (.sub (.sub (.s 3) 601) 13)] = ⟨[pT 2, pT 3, (40, .c (.isl .lens ks9)), (41, iD ((ks9.length : Nat) : Int)), (42, iD z)], [eV (.s 2) zLn, eV (.s 3) [ci opC, .str nmF, .str toG, .osl (.s 11) 0 ns5.length, ci nH, ci loI, ci hiJ, .int .u8 sepK, ci kY, ci nZ, .str s00, .isl .fld f01, .osl (.sub (.sub (.s 3) 600) 12) 0 l6.length, .osl (.sub (.sub (.s 3) 601) 13) 0 n0D], (.s 11, (eR .str ns5)), (.sub (.sub (.s 3) 600) 12, (eR .two l6)), (.sub (.sub (.s 3) 601) 13, (eR .lens lP))]⟩) ⟨_, ks9, 0, _, [], _, rfl, rfl, rfl, LN, h, rfl⟩ ?_
 rintro σ n ⟨remB, jO, _, lP, _, rfl, hremB, rfl, rfl, h, hσ⟩
 refine kk hσ ?_
 intro tV (htV : tV = decide (((jO : Nat) : Int) < ((ks9.length : Nat) : Int)))
 cases tV
 obtain rfl := ll_nil hremB htV
 rw [f320_L4] at h
 conv => whnf
 exact ⟨lP, _, LN, ss h, rfl⟩
 obtain ⟨xW, tl04, rfl, hxW, htl04⟩ := ll_cons hremB htV
 obtain ⟨op1E, nm1F, to1G, ns1H, n1I, lo1J, hi1K, sep1L, ⟨k1M, n1N, s1O, f1P⟩, prs1Q, ks1R⟩ := xW
 rw [f320_L4] at h
 conv => whnf
 refine ⟨lx_bd hxW, fun uu0E huu0E => ?_⟩
 obtain rfl := lx_eq hxW huu0E
 refine kL [] (h320 _ _ _ _ _ _ _ _ _ _ _ _ _ _ _ _ ?_ (sb h))
 rintro op0P nm0Q to0R ns0S n0T lo0U hi0V sep0W k0X n0Y s0Z f10 prs11 ks12 h
 conv => whnf
 refine ⟨LN, rfl, ?_⟩
 conv => whnf
 refine ⟨rfl, ?_⟩
 refine kp h fun hb1S h => ?_
 conv => whnf
 exact ⟨tl04.length, nls, tl04, jO + 1, _, (lP ++ ([(Ln.mk op0P nm0Q to0R ns0S n0T lo0U hi0V sep0W (V.mk k0X n0Y s0Z f10) prs11 ks12)] : List Ln)), _, rfl, htl04, lx_wr hxW hl0O, LN, h, rfl⟩
 rintro _ ⟨l03, _, rfl, h, rfl⟩
 replace h := hrRU _ h
 conv => whnf
 refine ⟨LN, ?_⟩
 conv => whnf
 refine ⟨LN, ?_⟩
 conv => whnf
 refine ⟨LN, ?_⟩
 exact kR [] (ND 0) (hQ _ _ _ _ _ _ _ _ _ _ _ _ _ _ (ss h))
theorem cg320 {P : Program} {fid : Nat → FuncId} (mx : MX P) (k320 : KF P fid 320 j320) (h57 : ∀ n, C57 (SP P fid) (f57 n)) : ∀ n, C320 (SP P fid) (f320 n) := by
 intro n
 induction n with
 | zero => exact fun a0 a5 a6 a7 a8 a9 aA aB aC aD aE aF aG aH Q R hQ h => (sat_none h).elim
 | succ n ih =>
  have ih0 := ih
  exact fun a0 a5 a6 a7 a8 a9 aA aB aC aD aE aF aG aH Q R hQ h => spec_of_vc mx k320 (w320 n (f320 n) (h57 n) ih0 a0 a5 a6 a7 a8 a9 aA aB aC aD aE aF aG aH Q R hQ h)
theorem c320 {P : Program} {fid : Nat → FuncId} (mx : MX P) (k320 : KF P fid 320 j320) (h57 : ∀ n, C57 (SP P fid) (f57 n)) : ∀ n, C320 (SP P fid) (f320 n) := fun n => (cg320 mx k320 h57 n)
def f1065 : (BA × Tp) → BA → Option (Bool)
  | (a5, .mk k7 m8 lo9 hiA pB psC), s6 => cond (a5.toList == s6.toList) (some true) (some false)
def C1065 (O : Oracle TT) (m : (BA × Tp) → BA → Option (Bool)) : Prop :=
  ∀ a6 k7 m8 lo9 hiA pB psC s5 (Q : Bool → Prop) (R : RR) (_ : ∀ qF, Q qF → R (bD qF) [eV (.x 0) [.str s5]]) (_ : sat (m (a6, (Tp.mk k7 m8 lo9 hiA pB psC)) s5) Q), O 1065 [.agg [.str a6, ci k7, .str m8, ci lo9, ci hiA, .str pB, .isl .part psC], pX 0] [eV (.x 0) [.str s5]] R
def j1065 : Fn TT := ⟨8, [.t 3], (sr [qo 2 (.box 2 0),qm 3 bF] (sr [qo 4 (.fa 2 0),qo 5 (ld 4),qo 6 (ld 1),qo 7 (.bin .eql .str 5 6),qm 3 7] .ret))⟩
theorem w1065 {O : Oracle TT} : C1065 (fun _ => vcF (S := SS) O j1065) f1065 := by
 intro a5 k6 m7 lo8 hi9 pA psB sC Q R hQ h
 unfold f1065 at h
 refine ⟨nle rfl, rfl, ?_⟩
 refine kc h ?_ ?_ <;> intro h
 exact kR [] (ND 1) (hQ _ (ss h))
 exact kR [] (ND 1) (hQ _ (ss h))
def f175b_L2 (s6 : BA) : PT → Nat → Option (Sum (Int) (Unit))
  | [], j5 => some (.inr ())
  | ((a7, .mk k8 m9 loA hiB pC psF)) :: tlG, j5 => (f1065 (a7, (Tp.mk k8 m9 loA hiB pC psF)) s6).bind fun qH => cond qH (lft (some ((j5 : Nat) : Int))) (f175b_L2 s6 tlG (j5 + 1))
def f175b : PT → BA → Option (Int)
  | l3, s4 => sbind (ο := Unit) (f175b_L2 s4 l3 0) (fun () => some (-1))
def C175b (O : Oracle TT) (m : PT → BA → Option (Int)) : Prop :=
  ∀ l6 s5 (Q : Int → Prop) (R : RR) (_ : ∀ v7, Q v7 → R (iD v7) [eV (.x 0) [.str s5]]) (_ : sat (m l6 s5) Q), O 175 [.c (.isl .part l6), .c (.fn 1065 [(.x 0)])] [eV (.x 0) [.str s5]] R
def j175b : Fn TT := ⟨19, [.t 4], (sr [qo 4 (.mv (iC 0))] (.cut [] [(.x 0)] (sr [qm 6 0,qo 7 (.len false 6),qo 8 (.mv (iC 0))] (.block 0 (.loop (.keep [0, 1, 7, 8] [(.x 0)] (.aft (sr [qo 9 (.bin .lss .num 8 7)] (.seq (.cond 9 .skip (.exit 0)) (.seq (.block 1 (sr [qm 10 8,qm 5 10] (sr [qm 11 1,qm 12 0,
 qm 13 5,qo 14 (.idxA 12 13 7),qo 15 (.load 14 7 true),qo 16 (.callv 16 11 [15])] (.cond 16 (sr [qm 17 5,qm 4 17] .ret) .skip)))) (.reg [qo 18 (.bin .add .num 8 (iC 1)),qm 8 18])))) [.keep [0, 1, 7, 8] [(.x 0)]]))))) (sr [qo 4 (.mv (iC (-1)))] .ret)))⟩
theorem w175b {O : Oracle TT} (h1065 : C1065 O f1065) : C175b (fun _ => vcF (S := SS) O j175b) f175b := by
 intro l9 sG Q R hQ h
 unfold f175b at h
 refine ⟨nle rfl, rfl, ?_⟩
 obtain ⟨R6, h, a6, b6⟩ := sc h
 refine kX (fun σ => R6 (.inr ()) ∧ σ = ⟨[], [eV (.x 0) [.str sG]]⟩) ?_ ?_
 intro hlI
 refine kX (fun σ n => ∃ (rem5 : PT) (j8 : Nat) (z : Int), n = rem5.length ∧ l9.drop j8 = rem5 ∧ z = ((j8 : Nat) : Int) ∧ sat (f175b_L2 sG rem5 j8) R6 ∧ σ.keep [0, 1, 7, 8] [(.x 0)] = ⟨[(0, .c (.isl .part l9)), (1, .c (.fn 1065 [(.x 0)])), (7, iD ((l9.length : Nat) : Int)), (8, iD z)], [eV (.x 0) [.str sG]]⟩) ⟨_, l9, 0, _, rfl, rfl, rfl, h, rfl⟩ ?_
 rintro σ n ⟨rem5, j8, _, rfl, hrem5, rfl, h, hσ⟩
 refine kk hσ ?_
 intro tA (htA : tA = decide (((j8 : Nat) : Int) < ((l9.length : Nat) : Int)))
 cases tA
 obtain rfl := ll_nil hrem5 htA
 rw [f175b_L2] at h
 conv => whnf
 exact ⟨ss h, rfl⟩
 obtain ⟨xB, tlC, rfl, hxB, htlC⟩ := ll_cons hrem5 htA
 obtain ⟨aK, ⟨kM, mN, loO, hiP, pQ, psU⟩⟩ := xB
 rw [f175b_L2] at h
 conv => whnf
 refine ⟨lx_bd hxB, fun uuH huuH => ?_⟩
 obtain rfl := lx_eq hxB huuH
 refine kL [(.x 0)] (h1065 _ _ _ _ _ _ _ _ _ _ ?_ (sb h))
 rintro qJ h
 cases qJ
 replace h := cf h
 conv => whnf
 exact ⟨tlC.length, nls, tlC, j8 + 1, _, rfl, htlC, lx_wr hxB hlI, h, rfl⟩
 replace h := ct h
 replace h := sat_lft a6 h
 exact kR [] (ND 1) (hQ _ (ss h))
 rintro _ ⟨h, rfl⟩
 replace h := b6 _ h
 exact kR [] (ND 1) (hQ _ (ss h))
def f1064 : Tp → BA → Option (Int)
  | .mk k8 m9 loA hiB pC ps5, s6 => (f175b ps5 s6).bind fun v7 => some v7
def C1064 (O : Oracle TT) (m : Tp → BA → Option (Int)) : Prop :=
  ∀ k5 m6 lo7 hi8 p9 psA sB (Q : Int → Prop) (R : RR) (_ : ∀ vC, Q vC → R (iD vC) []) (_ : sat (m (Tp.mk k5 m6 lo7 hi8 p9 psA) sB) Q), O 1064 [.agg [ci k5, .str m6, ci lo7, ci hi8, .str p9, .isl .part psA], sD sB] [] R
def j1064 : Fn TT := ⟨9, [.t 4], (sr [qo 2 (.box 2 0),qo 3 (.box 3 1),qo 4 (.mv (iC 0))] (sr [qo 5 (.fa 2 5),qo 6 (ld 5),qo 7 (.mkf 1065 [3]),qo 8 (.call 8 175 [6, 7]),qm 4 8] .ret))⟩
theorem w1064 {O : Oracle TT} (h175b : C175b O f175b) : C1064 (fun _ => vcF (S := SS) O j1064) f1064 := by
 intro k5 m6 lo7 hi8 p9 psA sB Q R hQ h
 unfold f1064 at h
 refine ⟨nle rfl, rfl, ?_⟩
 refine kL [(.s 3)] (h175b _ _ _ _ ?_ (sb h))
 rintro vC h
 exact kR [] (ND 0) (hQ _ (ss h))
def f1066 : Int → FV → FV → Option FV
  | i, vs, l => grdP (0 ≤ i ∧ i ≤ (l.length : Int) ∧ (l.length + vs.length) * 2000 ≤ 140737488355328) (some (l.take i.toNat ++ vs ++ l.drop i.toNat))
def C1066 (O : Oracle TT) (m : Int → FV → FV → Option (FV)) : Prop :=
  ∀ v8 l9 (r5 : FV) (n6 : Nat) (en6 : n6 = r5.length) (Q : FV → Prop) (R : RR) (_ : ∀ (l7 : FV) (n0r : Nat) (_ : n0r = l7.length), Q l7 → R (.c (.osl (.x 1) 0 n0r)) [(.x 0, none), (.x 1, (eR .fld l7))]) (_ : sat (m v8 l9 r5) Q), O 1066 [.c (.osl (.x 0) 0 n6), iD v8, .c (.isl .fld l9)] [(.x 0, (eR .fld r5))] R
def f1063 (fuel : Nat) : PT → Ln → Tp → Int → Int → BA → V → Bool → FV → Option (V × Int)
  | l0G, .mk op5 nm6 to0H ns0I n0J lo0K hi0L sep0M (.mk k7 n8 s9 fA) prs0N ks0O, .mk kB mC loF hiG pH psI, kJ, nK, sM, .mk kN nO sP fQ, qU, rV => cond (op5 == 6) (none) (cond (op5 == 7) (none) (cond (op5 == 4) (sbind (ο := Int × Int × BA × FV) ((f57 fuel (V.mk k7 n8 s9 fA)).bind fun (.mk kW nY sZ f00) => some (.inr (kW, nY, sZ, f00))) (fun (v01, v02, s03, l04) => sbind (ο := Int × Int × BA × FV) (cond qU ((f35 fuel (V.mk kN nO sP fQ) nm6).bind fun ((.mk k05 n06 s07 f08), q0P) => some (.inr (k05, n06, s07, f08))) (some (.inr (v01, v02, s03, l04)))) (fun (v09, v0A, s0B, l0C) => sbind (ο := FV) ((f1064 (Tp.mk kB mC loF hiG pH psI) nm6).bind fun v0D => (f1066 v0D ([(nm6, (V.mk v09 v0A s0B l0C))] : FV) rV).bind fun l0E => some (.inr l0E)) (fun l0F => some ((V.mk kJ nK sM l0F), 0))))) (none)))
def C1063 (O : Oracle TT) (m : PT → Ln → Tp → Int → Int → BA → V → Bool → FV → Option (V × Int)) : Prop :=
  ∀ l7 op8 nm9 toA nsB nC loF hiG sepH kI nJ sK fM prsN ksO kP mQ loU hiV pW psY kZ n00 s01 k02 n03 s04 f05 q06 (r5 : FV) (n6 : Nat) (en6 : n6 = r5.length) (Q : (V × Int) → Prop) (R : RR) (_ : ∀ k07 n08 s09 f0A v0B, Q ((V.mk k07 n08 s09 f0A), v0B) → R (.tup [.agg [ci k07, ci n08, .str s09, .isl .fld f0A], iD v0B]) [(.x 0, none)]) (_ : sat (m l7 (Ln.mk op8 nm9 toA nsB nC loF hiG sepH (V.mk kI nJ sK fM) prsN ksO) (Tp.mk kP mQ loU hiV pW psY) kZ n00 s01 (V.mk k02 n03 s04 f05) q06 r5) Q), O 1063 [.c (.isl .dfn l7), .agg [ci op8, .str nm9, .str toA, .isl .str nsB, ci nC, ci loF, ci hiG, .int .u8 sepH, ci kI, ci nJ, .str sK, .isl .fld fM, .isl .two prsN, .isl .lens ksO], .agg [ci kP, .str mQ, ci loU, ci hiV, .str pW, .isl .part psY], .agg [ci kZ, ci n00, .str s01, .osl (.x 0) 0 n6], .agg [ci k02, ci n03, .str s04, .isl .fld f05], bD q06] [(.x 0, (eR .fld r5))] R
def j1063 : Fn TT := ⟨229, [.cell 12 4 true, .t 13], (sr [qo 7 (.box 7 1),qo 8 (.box 8 2),qo 9 (.box 9 3),qo 10 (.box 10 4),qo 12 (.alloc 12 zV),qo 13 (.mv (iC 0))] (sr [qo 26 (.fa 7 7),qo 27 (ld 26),qo 28 (.bsl .u8 [27]),qo 29 (.b2s 28),qm 14 29] (.seq (sr [qo 30 (.fa 7 0),qo 31 (ld 30)] (.block 0 (.seq
 (.reg [qo 33 (.bin .eql .num 31 (iC 6)),qm 32 33]) (.cond 32 .dead (sr [qo 39 (.bin .eql .num 31 (iC 7)),qm 38 39] (.cond 38 .dead (sr [qo 46 (.bin .eql .num 31 (iC 4)),qm 45 46] (.cond 45 (.cut [5, 7, 8, 9, 10, 12, 15] [(.s 7), (.s 8), (.s 9), (.s 10), (.s 12), (.s 15), (.x 0)]
 (.drw [] (.go 0 (.go 1 (.go 2 (.go 3 (.alt 4 (.go 5 (.go 6 (.go 7 .nil))) 6 (.go 4 (.go 5 (.go 7 .nil)))))))) [7] [0, 1, 2, 3, 5] [qo 47 (.fa 7 1),qo 48 (ld 47),qo 49 (.fa 7 8),qo 50 (.load 49 4 true),qo 51 (.call 51 57 [50]),qo 52 (.build zFd [((0, 1), 48), ((1, 4), 51)]),qo 15 (.alloc 15 zFd),qp (.store 15 52 5)])
 (.cut [7, 8, 9, 12, 15] [(.s 7), (.s 8), (.s 9), (.s 12), (.s 15), (.x 0)] (sr [qm 53 5] (.cond 53 (.reg [qo 55 (.load 10 4 true),qo 56 (.fa 7 1),qo 57 (ld 56),qo 58 (.call 58 35 [55, 57]),qm 54 58,qo 59 (.ext 54 0),qo 60 (.ext 54 1),qo 61 (.fa 15 1),qp (.store 61 59 4)]) .skip)) (.cut [9, 12] [(.s 9), (.s 12), (.sub (.s 70) 0)]
 (.drw [(.x 0)] (.go 0 (.go 1 (.go 2 (.go 3 (.go 4 (.go 6 (.alt 5 (.go 7 (.go 8 (.go 9 (.go 10 .nil)))) 7 (.go 5 (.go 8 (.go 9 (.go 10 .nil))))))))))) [10] [0, 1, 2, 3, 4, 6, 9] [qo 62 (.fa 9 3),qo 63 (ld 62),qo 64 (.load 8 6 true),qo 65 (.fa 7 1),qo 66 (ld 65),qo 67 (.call 67 1064 [64, 66]),qo 68 (.load 15 5 true),qo 69 (.bsl .fld [68]),
 qo 70 (.call 70 1066 [63, 67, 69]),qo 71 (.fa 9 3),qp (.store 71 70 1)]) (sr [qo 72 (.load 9 4 true),qp (.store 12 72 4),qo 13 (.mv (iC 0))] (.pre [.frzc (.s 12) 3 .fld] .ret))))) .dead)))))))) .dead)))⟩
theorem w1063 {O : Oracle TT} (fuel : Nat) (h57 : C57 O (f57 fuel)) (h35 : C35 O (f35 fuel)) (h1064 : C1064 O f1064) (h1066 : C1066 O f1066) : C1063 (fun _ => vcF (S := SS) O j1063) (f1063 fuel) := by
 intro l0Y opU nm5 toV nsW nY loZ hi00 sepI k01 n02 s03 f04 prs05 ks06 k07 m08 lo09 hi0A p0B ps0C kJ nK sM k0G n0H s0I f0J q0D r6 n0E en0E Q R hQ h
 subst en0E
 unfold f1063 at h
 refine ⟨nle rfl, rfl, ?_⟩
 conv => whnf
 refine ⟨([sepI] : LI), rfl, ?_⟩
 refine kc h ?_ ?_ <;> intro h
 refine kc h ?_ ?_ <;> intro h
 refine kc h ?_ ?_ <;> intro h
 exact (sat_none h).elim
 obtain ⟨R7, h, a7, b7⟩ := sc h
 refine kX (fun σ => ∃ v8 v9 sA lB, R7 (.inr (v8, v9, sA, lB)) ∧ σ = ⟨[(5, bD q0D), pT 7, pT 8, pT 9, pT 10, pT 12, pT 15], [eV (.s 7) [ci opU, .str nm5, .str toV, .isl .str nsW, ci nY, ci loZ, ci hi00, .int .u8 sepI, ci k01, ci n02, .str s03, .isl .fld f04, .isl .two prs05, .isl .lens ks06], eV (.s 8) [ci k07, .str m08, ci lo09, ci hi0A, .str p0B, .isl .part ps0C], eV (.s 9) [ci kJ, ci nK, .str sM, .osl (.x 0) 0 r6.length], eV (.s 10) [ci k0G, ci n0H, .str s0I, .isl .fld f0J], eV (.s 12) zV, eV (.s 15) [.str nm5, ci v8, ci v9, .str sA, .isl .fld lB], (.x 0, (eR .fld r6))]⟩) ?_ ?_
 conv => whnf
 refine ⟨?_, ?_⟩
 refine kL [] (h57 _ _ _ _ _ _ ?_ (sb h))
 rintro k0K n0L s0M f0N h
 conv => whnf
 exact ⟨k0K, n0L, s0M, f0N, ss h, rfl⟩
 refine kL [] (h57 _ _ _ _ _ _ ?_ (sb h))
 rintro k0O n0P s0Q f0R h
 conv => whnf
 exact ⟨k0O, n0P, s0Q, f0R, ss h, rfl⟩
 rintro _ ⟨v8, v9, sA, lB, h, rfl⟩
 replace h := b7 _ h
 obtain ⟨RC, h, aC, bC⟩ := sc h
 refine kX (fun σ => ∃ vN vO sP lQ, RC (.inr (vN, vO, sP, lQ)) ∧ σ = ⟨[pT 7, pT 8, pT 9, pT 12, pT 15], [eV (.s 7) [ci opU, .str nm5, .str toV, .isl .str nsW, ci nY, ci loZ, ci hi00, .int .u8 sepI, ci k01, ci n02, .str s03, .isl .fld f04, .isl .two prs05, .isl .lens ks06], eV (.s 8) [ci k07, .str m08, ci lo09, ci hi0A, .str p0B, .isl .part ps0C], eV (.s 9) [ci kJ, ci nK, .str sM, .osl (.x 0) 0 r6.length], eV (.s 12) zV, eV (.s 15) [.str nm5, ci vN, ci vO, .str sP, .isl .fld lQ], (.x 0, (eR .fld r6))]⟩) ?_ ?_
 cases q0D
 replace h := cf h
 conv => whnf
 exact ⟨v8, v9, sA, lB, ss h, rfl⟩
 replace h := ct h
 refine kL [] (h35 _ _ _ _ _ _ _ ?_ (sb h))
 rintro k0S n0T s0U f0V q0Z h
 conv => whnf
 exact ⟨k0S, n0T, s0U, f0V, ss h, rfl⟩
 rintro _ ⟨vN, vO, sP, lQ, h, rfl⟩
 replace h := bC _ h
 obtain ⟨RG, h, aG, bG⟩ := sc h
 refine kX (fun σ => ∃ (lH : FV) (n0F : Nat), n0F = lH.length ∧ RG (.inr lH) ∧ σ = ⟨[pT 9, pT 12], [eV (.s 9) [ci kJ, ci nK, .str sM, .osl (.sub (.s 70) 0) 0 n0F], eV (.s 12) zV, (.sub (.s 70) 0, (eR .fld lH))]⟩) ?_ ?_
 conv => whnf
 refine ⟨?_, ?_⟩
 refine kL [] (h1064 _ _ _ _ _ _ _ _ _ ?_ (sb h))
 rintro v10 h
 refine kL [(.x 0)] (h1066 _ _ _ _ LN _ _ ?_ (sb h))
 rintro l0W _ rfl h
 conv => whnf
 exact ⟨l0W, _, LN, ss h, rfl⟩
 refine kL [] (h1064 _ _ _ _ _ _ _ _ _ ?_ (sb h))
 rintro v11 h
 refine kL [(.x 0)] (h1066 _ _ _ _ LN _ _ ?_ (sb h))
 rintro l0X _ rfl h
 conv => whnf
 exact ⟨l0X, _, LN, ss h, rfl⟩
 rintro _ ⟨lH, _, rfl, h, rfl⟩
 replace h := bG _ h
 conv => whnf
 refine ⟨LN, ?_⟩
 exact kR [] (ND 1) (hQ _ _ _ _ _ (ss h))
 exact (sat_none h).elim
 exact (sat_none h).elim
def f163b_L2 (s6 : BA) : FV → Nat → Option (Sum (Int) (Unit))
  | [], j5 => some (.inr ())
  | ((a7, .mk k8 n9 sA fB)) :: tlC, j5 => (f1053 (a7, (V.mk k8 n9 sA fB)) s6).bind fun qF => cond qF (lft (some ((j5 : Nat) : Int))) (f163b_L2 s6 tlC (j5 + 1))
def f163b : FV → BA → Option (Int)
  | l3, s4 => sbind (ο := Unit) (f163b_L2 s4 l3 0) (fun () => some (-1))
def C163b (O : Oracle TT) (m : FV → BA → Option (Int)) : Prop :=
  ∀ l6 s5 (Q : Int → Prop) (R : RR) (_ : ∀ v7, Q v7 → R (iD v7) [eV (.x 0) [.str s5]]) (_ : sat (m l6 s5) Q), O 163 [.c (.isl .fld l6), .c (.fn 1053 [(.x 0)])] [eV (.x 0) [.str s5]] R
def j163b : Fn TT := ⟨19, [.t 4], (sr [qo 4 (.mv (iC 0))] (.cut [] [(.x 0)] (sr [qm 6 0,qo 7 (.len false 6),qo 8 (.mv (iC 0))] (.block 0 (.loop (.keep [0, 1, 7, 8] [(.x 0)] (.aft (sr [qo 9 (.bin .lss .num 8 7)] (.seq (.cond 9 .skip (.exit 0)) (.seq (.block 1 (sr [qm 10 8,qm 5 10] (sr [qm 11 1,qm 12 0,
 qm 13 5,qo 14 (.idxA 12 13 5),qo 15 (.load 14 5 true),qo 16 (.callv 16 11 [15])] (.cond 16 (sr [qm 17 5,qm 4 17] .ret) .skip)))) (.reg [qo 18 (.bin .add .num 8 (iC 1)),qm 8 18])))) [.keep [0, 1, 7, 8] [(.x 0)]]))))) (sr [qo 4 (.mv (iC (-1)))] .ret)))⟩
theorem w163b {O : Oracle TT} (h1053 : C1053 O f1053) : C163b (fun _ => vcF (S := SS) O j163b) f163b := by
 intro l9 sG Q R hQ h
 unfold f163b at h
 refine ⟨nle rfl, rfl, ?_⟩
 obtain ⟨R6, h, a6, b6⟩ := sc h
 refine kX (fun σ => R6 (.inr ()) ∧ σ = ⟨[], [eV (.x 0) [.str sG]]⟩) ?_ ?_
 intro hlI
 refine kX (fun σ n => ∃ (rem5 : FV) (j8 : Nat) (z : Int), n = rem5.length ∧ l9.drop j8 = rem5 ∧ z = ((j8 : Nat) : Int) ∧ sat (f163b_L2 sG rem5 j8) R6 ∧ σ.keep [0, 1, 7, 8] [(.x 0)] = ⟨[(0, .c (.isl .fld l9)), (1, .c (.fn 1053 [(.x 0)])), (7, iD ((l9.length : Nat) : Int)), (8, iD z)], [eV (.x 0) [.str sG]]⟩) ⟨_, l9, 0, _, rfl, rfl, rfl, h, rfl⟩ ?_
 rintro σ n ⟨rem5, j8, _, rfl, hrem5, rfl, h, hσ⟩
 refine kk hσ ?_
 intro tA (htA : tA = decide (((j8 : Nat) : Int) < ((l9.length : Nat) : Int)))
 cases tA
 obtain rfl := ll_nil hrem5 htA
 rw [f163b_L2] at h
 conv => whnf
 exact ⟨ss h, rfl⟩
 obtain ⟨xB, tlC, rfl, hxB, htlC⟩ := ll_cons hrem5 htA
 obtain ⟨aK, ⟨kM, nN, sO, fP⟩⟩ := xB
 rw [f163b_L2] at h
 conv => whnf
 refine ⟨lx_bd hxB, fun uuH huuH => ?_⟩
 obtain rfl := lx_eq hxB huuH
 refine kL [(.x 0)] (h1053 _ _ _ _ _ _ _ _ ?_ (sb h))
 rintro qJ h
 cases qJ
 replace h := cf h
 conv => whnf
 exact ⟨tlC.length, nls, tlC, j8 + 1, _, rfl, htlC, lx_wr hxB hlI, h, rfl⟩
 replace h := ct h
 replace h := sat_lft a6 h
 exact kR [] (ND 1) (hQ _ (ss h))
 rintro _ ⟨h, rfl⟩
 replace h := b6 _ h
 exact kR [] (ND 1) (hQ _ (ss h))
def f1052a : V → BA → Option (Int)
  | .mk k8 n9 sA f5, s6 => (f163b f5 s6).bind fun v7 => some v7
def C1052a (O : Oracle TT) (m : V → BA → Option (Int)) : Prop :=
  ∀ k5 n6 s7 f8 s9 (Q : Int → Prop) (R : RR) (_ : ∀ vA, Q vA → R (iD vA) []) (_ : sat (m (V.mk k5 n6 s7 f8) s9) Q), O 1052 [.agg [ci k5, ci n6, .str s7, .isl .fld f8], sD s9] [] R
def j1052a : Fn TT := ⟨9, [.t 4], (sr [qo 2 (.box 2 0),qo 3 (.box 3 1),qo 4 (.mv (iC 0))] (sr [qo 5 (.fa 2 3),qo 6 (ld 5),qo 7 (.mkf 1053 [3]),qo 8 (.call 8 163 [6, 7]),qm 4 8] .ret))⟩
theorem w1052a {O : Oracle TT} (h163b : C163b O f163b) : C1052a (fun _ => vcF (S := SS) O j1052a) f1052a := by
 intro k5 n6 s7 f8 s9 Q R hQ h
 unfold f1052a at h
 refine ⟨nle rfl, rfl, ?_⟩
 refine kL [(.s 3)] (h163b _ _ _ _ ?_ (sb h))
 rintro vA h
 exact kR [] (ND 0) (hQ _ (ss h))
def f1075_L2 (fuel : Nat) (nm7 : BA) (ks8 : List Ln) (r6 : List Bool) (k9 : Int) (nA : Int) (sB : BA) (fC : FV) : FV → Nat → Option (Sum (Int) (Unit))
  | [], j5 => some (.inr ())
  | ((a0K, .mk kH nI sJ fK)) :: tlG, j5 => grdP ((0 : Int) ≤ ((j5 : Nat) : Int) ∧ ((j5 : Nat) : Int) < ((r6.length : Nat) : Int)) (getN r6 (0 + ((j5 : Nat) : Int).toNat) fun bM => cond bM (f1075_L2 fuel nm7 ks8 r6 k9 nA sB fC tlG (j5 + 1)) (sbind (ο := Bool × Int × Int × BA × FV) (getL ks8 0 fun uuN => match uuN with | .mk opO nmP toQ nsS nU loV hiW sepY (.mk kZ n00 s01 f02) prs03 ks04 => (f1048 fuel (Ln.mk opO nmP toQ nsS nU loV hiW sepY (V.mk kZ n00 s01 f02) prs03 ks04) (V.mk kH nI sJ fK)).bind fun (.mk k05 n06 s07 f08) => (f35 fuel (V.mk k05 n06 s07 f08) nm7).bind fun ((.mk k09 n0A s0B f0C), q0D) => some (.inr (q0D, k09, n0A, s0B, f0C))) (fun (q0E, v0F, v0G, s0H, l0I) => cond q0E ((f11 fuel (V.mk v0F v0G s0H l0I) (V.mk k9 nA sB fC)).bind fun q0J => cond q0J (lft (some ((j5 : Nat) : Int))) (f1075_L2 fuel nm7 ks8 r6 k9 nA sB fC tlG (j5 + 1))) (f1075_L2 fuel nm7 ks8 r6 k9 nA sB fC tlG (j5 + 1)))))
def f1075 (fuel : Nat) : Ln → Tp → Int → (BA × V) → V → (List Bool) → Option (Int)
  | .mk opU nm5 toV nsW nY loZ hi00 sep01 (.mk k02 n03 s04 f05) prs06 ks8, .mk k9 m07 lo08 hi09 p0A ps0B, v7, (aA, .mk kB nC sF fG), .mk kH nI sJ f6, rK => cond (k9 == 9) ((f1052a (V.mk kH nI sJ f6) aA).bind fun vM => some vM) (cond (nm5.toList == (⟨#[]⟩ : BA).toList) (cond (decide (v7 < ((f6.length : Nat) : Int))) (some v7) (some (-1))) ((f35 fuel (V.mk kB nC sF fG) nm5).bind fun ((.mk kN nO sP fQ), q0C) => sbind (ο := Unit) (f1075_L2 fuel nm5 ks8 rK kN nO sP fQ f6 0) (fun () => some (-1))))
def C1075 (O : Oracle TT) (m : Ln → Tp → Int → (BA × V) → V → (List Bool) → Option (Int)) : Prop :=
  ∀ op7 nm8 to9 nsA nB loC hiF sepG kH nI sJ fK prsM ksN kO mP loQ hiU pV psW vY aZ k00 n01 s02 f03 k04 n05 s06 f07 (r5 : List Bool) (n6 : Nat) (en6 : n6 = r5.length) (Q : Int → Prop) (R : RR) (_ : ∀ v08, Q v08 → R (iD v08) [(.x 0, (eR .bool r5))]) (_ : sat (m (Ln.mk op7 nm8 to9 nsA nB loC hiF sepG (V.mk kH nI sJ fK) prsM ksN) (Tp.mk kO mP loQ hiU pV psW) vY (aZ, (V.mk k00 n01 s02 f03)) (V.mk k04 n05 s06 f07) r5) Q), O 1075 [.agg [ci op7, .str nm8, .str to9, .isl .str nsA, ci nB, ci loC, ci hiF, .int .u8 sepG, ci kH, ci nI, .str sJ, .isl .fld fK, .isl .two prsM, .isl .lens ksN], .agg [ci kO, .str mP, ci loQ, ci hiU, .str pV, .isl .part psW], iD vY, .agg [.str aZ, ci k00, ci n01, .str s02, .isl .fld f03], .agg [ci k04, ci n05, .str s06, .isl .fld f07], .c (.osl (.x 0) 0 n6)] [(.x 0, (eR .bool r5))] R
def j1075 : Fn TT := ⟨78, [.t 12], (sr [qo 6 (.box 6 0),qo 7 (.box 7 1),qo 9 (.box 9 3),qo 10 (.box 10 4),qo 12 (.mv (iC 0))] (.seq (.block 0 (sr [qo 20 (.fa 7 0),qo 21 (ld 20),qo 22 (.bin .eql .num 21 (iC 9)),qm 19 22] (.cond 19 (sr [qo 23 (.load 10 4 true),qo 24 (.fa 9 0),qo 25 (ld 24),qo 26 (.call 26 1052 [23, 25]),
 qm 12 26] .ret) (sr [qo 28 (.fa 6 1),qo 29 (ld 28),qo 30 (.bin .eql .str 29 sE),qm 27 30] (.cond 27 (.seq (sr [qm 31 2,qo 32 (.fa 10 3),qo 33 (ld 32),qo 34 (.len false 33),qo 35 (.bin .lss .num 31 34)] (.cond 35 (sr [qm 36 2,qm 12 36] .ret) .skip)) (sr [qo 12 (.mv (iC (-1)))] .ret)) .skip))))) (.seq
 (.reg [qo 38 (.fa 9 1),qo 39 (.load 38 4 true),qo 40 (.fa 6 1),qo 41 (ld 40),qo 42 (.call 42 35 [39, 41]),qm 37 42,qo 43 (.ext 37 0),qo 44 (.ext 37 1),qo 13 (.alloc 13 zV),qp (.store 13 43 4),qm 14 44]) (.cut [] [(.x 0)] (sr [qo 45 (.fa 10 3),qo 46 (ld 45),qo 47 (.len false 46),qo 48 (.mv (iC 0))] (.block 1
 (.loop (.keep [5, 6, 13, 46, 47, 48] [(.x 0), (.s 6), (.s 13)] (.aft (sr [qo 49 (.bin .lss .num 48 47)] (.seq (.cond 49 .skip (.exit 1)) (.seq (.block 2 (sr [qm 50 48,qo 51 (.idxA 46 48 5),qo 52 (.load 51 5 true),qo 16 (.alloc 16 zFd),qm 15 50,qp (.store 16 52 5)] (.seq (sr [qm 53 5,qm 54 15,qo 55 (.idxA 53 54 1),qo 56 (ld 55)]
 (.cond 56 (.exit 2) .skip)) (.cut [5, 6, 13, 15, 17, 18, 46, 47, 48] [(.x 0), (.s 6), (.s 13), (.s 17)]
 (.drw [] (.go 0 (.go 1 (.go 2 (.go 3 (.go 4 (.go 5 (.go 7 (.go 8 (.alt 6 (.alt 9 (.go 10 (.go 11 (.go 12 (.go 13 (.go 14 (.go 15 .nil)))))) 13 (.go 9 (.go 10 (.go 11 (.go 12 (.go 14 (.go 15 .nil))))))) 13 (.go 6 (.go 9 (.go 10 (.go 11 (.go 12 (.go 14 (.go 15 .nil)))))))))))))))) [14] [0, 1, 2, 3, 4, 5, 7, 8, 10, 11, 12, 15] [qo 58 (.fa 6 13),qo 59 (ld 58),qo 60 (.idxA 59 (iC 0) 14),
 qo 61 (.load 60 14 true),qo 62 (.fa 16 1),qo 63 (.load 62 4 true),qo 64 (.call 64 1048 [61, 63]),qo 65 (.fa 6 1),qo 66 (ld 65),qo 67 (.call 67 35 [64, 66]),qm 57 67,qo 68 (.ext 57 0),qo 69 (.ext 57 1),qo 17 (.alloc 17 zV),qp (.store 17 68 4),qm 18 69]) (sr [qm 70 18,qm 71 70,qg 71 72 (.load 17 4 true),qg 71 73 (.load 13 4 true),
 qg 71 74 (.call 74 11 [72, 73]),qo 75 (.pick 71 74 bF)] (.cond 75 (sr [qm 76 15,qm 12 76] .ret) .skip)))))) (.reg [qo 77 (.bin .add .num 48 (iC 1)),qm 48 77])))) [.keep [5, 6, 13, 46, 47, 48] [(.x 0), (.s 6), (.s 13)]]))))) (sr [qo 12 (.mv (iC (-1)))] .ret)))))⟩
theorem w1075 {O : Oracle TT} (fuel : Nat) (h11 : C11 O (f11 fuel)) (h1048 : C1048 O (f1048 fuel)) (h35 : C35 O (f35 fuel)) (h1052a : C1052a O f1052a) : C1075 (fun _ => vcF (S := SS) O j1075) (f1075 fuel) := by
 intro opZ nmJ to00 ns01 n02 lo03 hi04 sep05 k06 n07 s08 f09 prs0A ksK k0V m0W lo0X hi0Y p0Z ps10 v11 a12 k13 n14 s15 f17 k18 n19 s1A f8 rB n0B en0B Q R hQ h
 subst en0B
 unfold f1075 at h
 refine ⟨nle rfl, rfl, ?_⟩
 refine kc h ?_ ?_ <;> intro h
 refine kc h ?_ ?_ <;> intro h
 refine kL [] (h35 _ _ _ _ _ _ _ ?_ (sb h))
 rintro kM nN sO fP q1B h
 obtain ⟨RC, h, aC, hrRC⟩ := sc h
 refine kX (fun σ => RC (.inr ()) ∧ σ = ⟨[], [(.x 0, (eR .bool rB))]⟩) ?_ ?_
 intro hlQ
 refine kX (fun σ n => ∃ (rem9 : FV) (j5 : Nat) (z : Int), n = rem9.length ∧ f8.drop j5 = rem9 ∧ z = ((j5 : Nat) : Int) ∧ sat (f1075_L2 fuel nmJ ksK rB kM nN sO fP rem9 j5) RC ∧ σ.keep [5, 6, 13, 46, 47, 48] [(.x 0), (.s 6), (.s 13)] = ⟨[(5, .c (.osl (.x 0) 0 rB.length)), pT 6, pT 13, (46, .c (.isl .fld f8)), (47, iD ((f8.length : Nat) : Int)), (48, iD z)], [(.x 0, (eR .bool rB)), eV (.s 6) [ci opZ, .str nmJ, .str to00, .isl .str ns01, ci n02, ci lo03, ci hi04, .int .u8 sep05, ci k06, ci n07, .str s08, .isl .fld f09, .isl .two prs0A, .isl .lens ksK], eV (.s 13) [ci kM, ci nN, .str sO, .isl .fld fP]]⟩) ⟨_, f8, 0, _, rfl, rfl, rfl, h, rfl⟩ ?_
 rintro σ n ⟨rem9, j5, _, rfl, hrem9, rfl, h, hσ⟩
 refine kk hσ ?_
 intro tG (htG : tG = decide (((j5 : Nat) : Int) < ((f8.length : Nat) : Int)))
 cases tG
 obtain rfl := ll_nil hrem9 htG
 rw [f1075_L2] at h
 conv => whnf
 exact ⟨ss h, rfl⟩
 obtain ⟨xA, tl6, rfl, hxA, htl6⟩ := ll_cons hrem9 htG
 obtain ⟨a1C, ⟨k1D, n1E, s1F, f1G⟩⟩ := xA
 rw [f1075_L2] at h
 conv => whnf
 refine ⟨lx_bd hxA, fun uu0C huu0C => ?_⟩
 obtain rfl := lx_eq hxA huu0C
 refine kp h fun hb1H h => ?_
 refine kg (sat_getN h) fun b0E huu1I h => ?_
 cases b0E
 replace h := cf h
 obtain ⟨RH, h, aH, hrRH⟩ := sc h
 refine kX (fun σ => ∃ qI vU vV sW lY, RH (.inr (qI, vU, vV, sW, lY)) ∧ σ = ⟨[(5, .c (.osl (.x 0) 0 rB.length)), pT 6, pT 13, (15, iD ((j5 : Nat) : Int)), pT 17, (18, bD qI), (46, .c (.isl .fld f8)), (47, iD ((f8.length : Nat) : Int)), (48, iD ((j5 : Nat) : Int))], [(.x 0, (eR .bool rB)), eV (.s 6) [ci opZ, .str nmJ, .str to00, .isl .str ns01, ci n02, ci lo03, ci hi04, .int .u8 sep05, ci k06, ci n07, .str s08, .isl .fld f09, .isl .two prs0A, .isl .lens ksK], eV (.s 13) [ci kM, ci nN, .str sO, .isl .fld fP], eV (.s 17) [ci vU, ci vV, .str sW, .isl .fld lY]]⟩) ?_ ?_
 refine kg (sat_getL h) fun uu0D huu0D h => ?_
 obtain ⟨op1J, nm1K, to1L, ns1M, n1N, lo1O, hi1P, sep1Q, ⟨k1R, n1S, s1T, f1U⟩, prs1V, ks1W⟩ := uu0D
 conv => whnf
 refine ⟨?_, ?_⟩
 refine kL [] (h1048 _ _ _ _ _ _ _ _ _ _ _ _ _ _ _ _ _ _ _ _ ?_ (sb h))
 rintro k1X n1Y s1Z f20 h
 conv => whnf
 refine ⟨?_, ?_⟩
 refine kL [] (h35 _ _ _ _ _ _ _ ?_ (sb h))
 rintro k0F n0G s0H f0I q0J h
 conv => whnf
 exact ⟨q0J, k0F, n0G, s0H, f0I, ss h, rfl⟩
 refine kL [] (h35 _ _ _ _ _ _ _ ?_ (sb h))
 rintro k0K n0L s0M f0N q0O h
 conv => whnf
 exact ⟨q0O, k0K, n0L, s0M, f0N, ss h, rfl⟩
 refine kL [] (h1048 _ _ _ _ _ _ _ _ _ _ _ _ _ _ _ _ _ _ _ _ ?_ (sb h))
 rintro k21 n22 s23 f24 h
 refine kL [] (h35 _ _ _ _ _ _ _ ?_ (sb h))
 rintro k0P n0Q s0R f0S q0T h
 conv => whnf
 exact ⟨q0T, k0P, n0Q, s0R, f0S, ss h, rfl⟩
 rintro _ ⟨qI, vU, vV, sW, lY, h, rfl⟩
 replace h := hrRH _ h
 cases qI
 replace h := cf h
 conv => whnf
 exact ⟨tl6.length, nls, tl6, j5 + 1, _, rfl, htl6, lx_wr hxA hlQ, h, rfl⟩
 replace h := ct h
 refine kL [] (h11 _ _ _ _ _ _ _ _ _ _ ?_ (sb h))
 rintro q0U h
 cases q0U
 replace h := cf h
 conv => whnf
 exact ⟨tl6.length, nls, tl6, j5 + 1, _, rfl, htl6, lx_wr hxA hlQ, h, rfl⟩
 replace h := ct h
 replace h := sat_lft aC h
 exact kR [] (ND 1) (hQ _ (ss h))
 replace h := ct h
 conv => whnf
 exact ⟨tl6.length, nls, tl6, j5 + 1, _, rfl, htl6, lx_wr hxA hlQ, h, rfl⟩
 rintro _ ⟨h, rfl⟩
 replace h := hrRC _ h
 exact kR [] (ND 1) (hQ _ (ss h))
 intro hl25
 refine kc h ?_ ?_ <;> intro h
 exact kR [] (ND 1) (hQ _ (ss h))
 exact kR [] (ND 1) (hQ _ (ss h))
 refine kL [] (h1052a _ _ _ _ _ _ _ ?_ (sb h))
 rintro v26 h
 exact kR [] (ND 1) (hQ _ (ss h))
def b1062 (fuel : Nat) (self1074 : PT → Ln → Tp → Int → Int → BA → V → FV → Option (V × Int × FV)) : PT → Ln → Tp → V → V → Bool → Option (V × Int)
  | l6, .mk op5 nm7 to8 ns9 nA loB hiC sepF (.mk kG nH sI fJ) prsK ksM, .mk k05 m06 lo07 hi08 p09 ps0A, .mk kN nO sP f0B, .mk kQ nU sV fW, q0C => cond (op5 == 0) (none) (cond (op5 == 1) (none) (cond (op5 == 16) (none) (cond (op5 == 17) (none) (cond (op5 == 18) (none) (cond (op5 == 11) (none) (cond (op5 == 12) (none) ((f66 fuel l6 (Tp.mk k05 m06 lo07 hi08 p09 ps0A)).bind fun ((.mk kY mZ lo00 hi01 p02 ps03), v0D) => cond (v0D != 0) (none) ((f79 f0B).bind fun l04 => cond (op5 == 13) ((self1074 l6 (Ln.mk op5 nm7 to8 ns9 nA loB hiC sepF (V.mk kG nH sI fJ) prsK ksM) (Tp.mk kY mZ lo00 hi01 p02 ps03) kN nO sP (V.mk kQ nU sV fW) l04).bind fun ((.mk k0E n0F s0G f0H), v0I, l0O) => some ((V.mk k0E n0F s0G f0H), v0I)) (cond (op5 == 14) (none) (cond (op5 == 15) (none) ((f1063 fuel l6 (Ln.mk op5 nm7 to8 ns9 nA loB hiC sepF (V.mk kG nH sI fJ) prsK ksM) (Tp.mk kY mZ lo00 hi01 p02 ps03) kN nO sP (V.mk kQ nU sV fW) q0C l04).bind fun ((.mk k0J n0K s0L f0M), v0N) => some ((V.mk k0J n0K s0L f0M), v0N))))))))))))
def f1074_L2 (fuel : Nat) (self1062 : PT → Ln → Tp → V → V → Bool → Option (V × Int)) (l9 : PT) (opK : Int) (nmM : BA) (toN : BA) (nsO : LB) (nP : Int) (loQ : Int) (hiU : Int) (sepV : Int) (kW : Int) (nY : Int) (sZ : BA) (f00 : FV) (prs01 : LW) (ksA : List Ln) (k02 : Int) (m03 : BA) (lo04 : Int) (hi05 : Int) (p06 : BA) (psB : PT) (k07 : Int) (n08 : Int) (s09 : BA) (fC : FV) : Nat → Int → (List Bool) → FV → Option (Sum (V × Int × FV) (FV))
  | 0, v5, l8, l6 => some (.inr l6)
  | g0Y + 1, v5, l8, l6 => grdP ((0 : Int) ≤ v5 ∧ v5 < ((l6.length : Nat) : Int)) (getN l6 (0 + v5.toNat) fun uu0Z => match uu0Z with | (a10, .mk kG nH sI fJ) => (f1075 fuel (Ln.mk opK nmM toN nsO nP loQ hiU sepV (V.mk kW nY sZ f00) prs01 ksA) (Tp.mk k02 m03 lo04 hi05 p06 psB) v5 (a10, (V.mk kG nH sI fJ)) (V.mk k07 n08 s09 fC) l8).bind fun v7 => sbind (ο := (List Bool) × Int × Int × BA × FV) (cond (decide (v7 ≥ 0)) (getL fC v7 fun uu11 => match uu11 with | (a1R, .mk k12 n13 s14 f15) => grdP ((0 : Int) ≤ v7 ∧ v7 < ((l8.length : Nat) : Int)) (getN l8 (0 + v7.toNat) fun b1S => some (.inr ((l8.set (0 + v7.toNat) true), k12, n13, s14, f15)))) (some (.inr (l8, 0, 0, (⟨#[]⟩ : BA), [])))) (fun (l17, v0A, v0B, s0C, l0D) => sbind (ο := Int × Int × Int × BA × FV) (getL ksA 0 fun uu18 => match uu18 with | .mk op0E nm0F to0G ns0H n0I lo0J hi0K sep0L (.mk k0M n0N s0O f0P) prs0Q ks0R => getL psB 0 fun uu19 => match uu19 with | (a1T, .mk k0S m0T lo0U hi0V p0W ps0X) => cond (decide (v7 ≥ 0)) ((self1062 l9 (Ln.mk op0E nm0F to0G ns0H n0I lo0J hi0K sep0L (V.mk k0M n0N s0O f0P) prs0Q ks0R) (Tp.mk k0S m0T lo0U hi0V p0W ps0X) (V.mk kG nH sI fJ) (V.mk v0A v0B s0C l0D) true).bind fun ((.mk k1A n1B s1C f1D), v1E) => some (.inr (v1E, k1A, n1B, s1C, f1D))) ((self1062 l9 (Ln.mk op0E nm0F to0G ns0H n0I lo0J hi0K sep0L (V.mk k0M n0N s0O f0P) prs0Q ks0R) (Tp.mk k0S m0T lo0U hi0V p0W ps0X) (V.mk kG nH sI fJ) (V.mk v0A v0B s0C l0D) false).bind fun ((.mk k1F n1G s1H f1I), v1J) => some (.inr (v1J, k1F, n1G, s1H, f1I)))) (fun (v1K, v1L, v1M, s1N, l1O) => cond (v1K != 0) (none) (grdP ((0 : Int) ≤ v5 ∧ v5 < ((l6.length : Nat) : Int)) (getN l6 (0 + v5.toNat) fun uu1P => match uu1P with | (a1Q, .mk k1U n1V s1W f1X) => f1074_L2 fuel self1062 l9 opK nmM toN nsO nP loQ hiU sepV kW nY sZ f00 prs01 ksA k02 m03 lo04 hi05 p06 psB k07 n08 s09 fC g0Y (v5 + 1) l17 (l6.set (0 + v5.toNat) (a1Q, (V.mk v1L v1M s1N l1O))))))))
def b1074 (fuel : Nat) (self1062 : PT → Ln → Tp → V → V → Bool → Option (V × Int)) : PT → Ln → Tp → Int → Int → BA → V → FV → Option (V × Int × FV)
  | l8, .mk op9 nmA toB nsC nF loG hiH sepI (.mk kJ nK sM fN) prsO ksP, .mk kQ mU loV hiW pY psZ, k00, n01, s02, .mk k03 n04 s05 f5, r6 => grdP ((0 : Int) ≤ ((f5.length : Nat) : Int) ∧ ((f5.length : Nat) : Int) ≤ 68719476736) (sbind (ο := FV) (grdP (((r6.length : Nat) : Int) ≤ 9223372036854775807) (f1074_L2 fuel self1062 l8 op9 nmA toB nsC nF loG hiH sepI kJ nK sM fN prsO ksP kQ mU loV hiW pY psZ k03 n04 s05 f5 (((r6.length : Nat) : Int) - 0).toNat 0 (List.replicate ((f5.length : Nat) : Int).toNat false) r6)) (fun l7 => some ((V.mk k00 n01 s02 l7), 0, l7)))
def S1062 : Nat → (PT → Ln → Tp → V → V → Bool → Option (V × Int)) × (PT → Ln → Tp → Int → Int → BA → V → FV → Option (V × Int × FV))
  | 0 => (fun _ _ _ _ _ _ => none, fun _ _ _ _ _ _ _ _ => none)
  | n + 1 => (b1062 n (S1062 n).2, b1074 n (S1062 n).1)
def f1062 (n : Nat) : PT → Ln → Tp → V → V → Bool → Option (V × Int) := (S1062 n).1
def f1074 (n : Nat) : PT → Ln → Tp → Int → Int → BA → V → FV → Option (V × Int × FV) := (S1062 n).2
def C1062 (O : Oracle TT) (m : PT → Ln → Tp → V → V → Bool → Option (V × Int)) : Prop :=
  ∀ l5 op6 nm7 to8 ns9 nA loB hiC sepF kG nH sI fJ prsK ksM kN mO loP hiQ pU psV kW nY sZ f00 k01 n02 s03 f04 q05 (Q : (V × Int) → Prop) (R : RR) (_ : ∀ k06 n07 s08 f09 v0A, Q ((V.mk k06 n07 s08 f09), v0A) → R (.tup [.agg [ci k06, ci n07, .str s08, .isl .fld f09], iD v0A]) []) (_ : sat (m l5 (Ln.mk op6 nm7 to8 ns9 nA loB hiC sepF (V.mk kG nH sI fJ) prsK ksM) (Tp.mk kN mO loP hiQ pU psV) (V.mk kW nY sZ f00) (V.mk k01 n02 s03 f04) q05) Q), O 1062 [.c (.isl .dfn l5), .agg [ci op6, .str nm7, .str to8, .isl .str ns9, ci nA, ci loB, ci hiC, .int .u8 sepF, ci kG, ci nH, .str sI, .isl .fld fJ, .isl .two prsK, .isl .lens ksM], .agg [ci kN, .str mO, ci loP, ci hiQ, .str pU, .isl .part psV], .agg [ci kW, ci nY, .str sZ, .isl .fld f00], .agg [ci k01, ci n02, .str s03, .isl .fld f04], bD q05] [] R
def j1062 : Fn TT := ⟨148, [.cell 12 4 true, .t 13], (sr [qo 7 (.box 7 1),qo 8 (.box 8 2),qo 9 (.box 9 3),qo 10 (.box 10 4),qo 12 (.alloc 12 zV),qo 13 (.mv (iC 0))] (.seq (sr [qo 18 (.fa 7 0),qo 19 (ld 18)] (.block 0 (sr [qo 21 (.bin .eql .num 19 (iC 0)),qm 20 21] (.cond 20 .dead (sr [qo 24 (.bin .eql .num 19 (iC 1)),qm 23 24]
 (.cond 23 .dead (sr [qo 36 (.bin .eql .num 19 (iC 16)),qm 35 36] (.cond 35 .dead (sr [qo 43 (.bin .eql .num 19 (iC 17)),qm 42 43] (.cond 42 .dead (sr [qo 49 (.bin .eql .num 19 (iC 18)),qm 48 49] (.cond 48 .dead (sr [qo 71 (.bin .eql .num 19 (iC 11)),qm 70 71] (.cond 70 .dead (sr [qo 88 (.bin .eql .num 19 (iC 12)),
 qm 87 88] (.cond 87 .dead .skip)))))))))))))))) (sr [qm 94 0,qo 95 (.load 8 6 true),qo 96 (.call 96 66 [94, 95]),qm 93 96,qo 97 (.ext 93 0),qo 98 (.ext 93 1),qo 16 (.alloc 16 zTp),qp (.store 16 97 6),qm 17 98] (.seq (sr [qm 99 17,qo 100 (.bin .neq .num 99 (iC 0))] (.cond 100 .dead .skip)) (sr [qo 103 (.fa 9 3),
 qo 104 (ld 103),qo 105 (.call 105 79 [104]),qo 106 (.fa 9 3),qp (.store 106 105 1)] (.seq (sr [qo 107 (.fa 7 0),qo 108 (ld 107)] (.block 3 (sr [qo 110 (.bin .eql .num 108 (iC 13)),qm 109 110] (.cond 109 (sr [qm 111 0,qo 112 (.load 7 14 true),qo 113 (.load 16 6 true),qo 114 (.load 9 4 true),qo 115 (.load 10 4 true),
 qo 116 (.call 116 1074 [111, 112, 113, 114, 115]),qo 117 (.ext 116 0),qo 118 (.ext 116 1),qp (.store 12 117 4),qm 13 118] .ret) (sr [qo 120 (.bin .eql .num 108 (iC 14)),qm 119 120] (.cond 119 .dead (sr [qo 131 (.bin .eql .num 108 (iC 15)),qm 130 131] (.cond 130 .dead .skip)))))))) (sr [qm 139 0,qo 140 (.load 7 14 true),
 qo 141 (.load 16 6 true),qo 142 (.load 9 4 true),qo 143 (.load 10 4 true),qm 144 5,qo 145 (.call 145 1063 [139, 140, 141, 142, 143, 144]),qo 146 (.ext 145 0),qo 147 (.ext 145 1),qp (.store 12 146 4),qm 13 147] .ret)))))))⟩
def C1074 (O : Oracle TT) (m : PT → Ln → Tp → Int → Int → BA → V → FV → Option (V × Int × FV)) : Prop :=
  ∀ l8 op9 nmA toB nsC nF loG hiH sepI kJ nK sM fN prsO ksP kQ mU loV hiW pY psZ k00 n01 s02 k03 n04 s05 f06 (r5 : FV) (n6 : Nat) (en6 : n6 = r5.length) (Q : (V × Int × FV) → Prop) (R : RR) (_ : ∀ k07 n08 s09 f0A v0B (l7 : FV) (_ : l7.length = r5.length), Q ((V.mk k07 n08 s09 f0A), v0B, l7) → R (.tup [.agg [ci k07, ci n08, .str s09, .isl .fld f0A], iD v0B]) [(.x 0, some (.row true .fld l7))]) (_ : sat (m l8 (Ln.mk op9 nmA toB nsC nF loG hiH sepI (V.mk kJ nK sM fN) prsO ksP) (Tp.mk kQ mU loV hiW pY psZ) k00 n01 s02 (V.mk k03 n04 s05 f06) r5) Q), O 1074 [.c (.isl .dfn l8), .agg [ci op9, .str nmA, .str toB, .isl .str nsC, ci nF, ci loG, ci hiH, .int .u8 sepI, ci kJ, ci nK, .str sM, .isl .fld fN, .isl .two prsO, .isl .lens ksP], .agg [ci kQ, .str mU, ci loV, ci hiW, .str pY, .isl .part psZ], .agg [ci k00, ci n01, .str s02, .osl (.x 0) 0 n6], .agg [ci k03, ci n04, .str s05, .isl .fld f06]] [(.x 0, (eR .fld r5))] R
def j1074 : Fn TT := ⟨81, [.cell 10 4 true, .t 11], (sr [qo 6 (.box 6 1),qo 7 (.box 7 2),qo 8 (.box 8 3),qo 9 (.box 9 4),qo 10 (.alloc 10 zV),qo 11 (.mv (iC 0))] (sr [qo 19 (.fa 9 3),qo 20 (ld 19),qo 21 (.len false 20),qo 22 (.mk 22 .bool false 68719476736 21),qm 12 22] (.cut [8, 10] [(.s 8), (.s 10), (.x 0)] (sr [qo 23 (.fa 8 3),
 qo 24 (ld 23),qo 25 (.len false 24),qo 26 (.mv (iC 0))] (.block 0 (.loop (.keep [0, 6, 7, 8, 9, 10, 12, 24, 25, 26] [(.s 6), (.s 7), (.s 8), (.s 9), (.s 10), (.s 22), (.x 0)] (.aft (sr [qo 27 (.bin .lss .num 26 25)] (.seq (.cond 27 .skip (.exit 0)) (.seq (.block 1 (sr [qm 28 26,qo 29 (.idxA 24 26 5),qo 30 (.load 29 5 true),qo 14 (.alloc 14 zFd),
 qm 13 28,qp (.store 14 30 5)] (sr [qo 31 (.load 6 14 true),qo 32 (.load 7 6 true),qm 33 13,qo 34 (.load 14 5 true),qo 35 (.load 9 4 true),qm 36 12,qo 37 (.call 37 1075 [31, 32, 33, 34, 35, 36]),qm 15 37] (sr [qo 38 (.build zV []),qo 16 (.alloc 16 zV),qp (.store 16 38 4)]
 (.cut [0, 6, 7, 8, 9, 10, 12, 13, 14, 15, 16, 24, 25, 26] [(.s 6), (.s 7), (.s 8), (.s 9), (.s 10), (.s 22), (.s 14), (.s 16), (.x 0)] (sr [qm 39 15,qo 40 (.bin .geq .num 39 (iC 0))] (.cond 40 (.reg [qm 41 12,qm 42 15,qo 43 (.fa 9 3),qo 44 (ld 43),qm 45 15,qo 46 (.idxA 44 45 5),qo 47 (.fa 46 1),qo 48 (.load 47 4 true),qo 49 (.idxA 41 42 1),
 qp (.store 49 bT 1),qp (.store 16 48 4)]) .skip)) (.cut [0, 6, 7, 8, 9, 10, 12, 13, 17, 18, 24, 25, 26] [(.s 6), (.s 7), (.s 8), (.s 9), (.s 10), (.s 22), (.s 17), (.x 0)]
 (.drw [] (.go 0 (.go 1 (.go 2 (.go 3 (.go 4 (.go 5 (.go 6 (.go 7 (.go 8 (.go 9 (.go 10 (.go 11 (.go 12 (.go 13 (.go 14 (.alt 15 (.go 16 (.go 17 (.go 18 (.go 19 (.go 20 (.go 21 .nil)))))) 19 (.go 15 (.go 16 (.go 17 (.go 18 (.go 20 (.go 21 .nil)))))))))))))))))))))) [20] [0, 1, 2, 3, 4, 5, 6, 7, 8, 9, 10, 11, 12, 13, 14, 16, 17, 18, 21] [qm 51 0,qo 52 (.fa 6 13),qo 53 (ld 52),
 qo 54 (.idxA 53 (iC 0) 14),qo 55 (.load 54 14 true),qo 56 (.fa 7 5),qo 57 (ld 56),qo 58 (.idxA 57 (iC 0) 7),qo 59 (.fa 58 1),qo 60 (.load 59 6 true),qo 61 (.fa 14 1),qo 62 (.load 61 4 true),qo 63 (.load 16 4 true),qm 64 15,qo 65 (.bin .geq .num 64 (iC 0)),qo 66 (.call 66 1062 [51, 55, 60, 62, 63, 65]),qm 50 66,qo 67 (.ext 50 0),qo 68 (.ext 50 1),
 qo 17 (.alloc 17 zV),qp (.store 17 67 4),qm 18 68]) (.seq (sr [qm 69 18,qo 70 (.bin .neq .num 69 (iC 0))] (.cond 70 .dead .skip)) (.reg [qo 73 (.fa 8 3),qo 74 (ld 73),qm 75 13,qo 76 (.load 17 4 true),qo 77 (.idxA 74 75 5),qo 78 (.fa 77 1),qp (.store 78 76 4)])))))))) (.reg [qo 79 (.bin .add .num 26 (iC 1)),
 qm 26 79])))) [.keep [0, 6, 7, 8, 9, 10, 12, 24, 25, 26] [(.s 6), (.s 7), (.s 8), (.s 9), (.s 10), (.s 22), (.x 0)]]))))) (sr [qo 80 (.load 8 4 true),qp (.store 10 80 4),qo 11 (.mv (iC 0))] (.pre [.frzc (.s 10) 3 .fld] .ret)))))⟩
theorem w1062 {O : Oracle TT} (fuel : Nat) (self1074 : PT → Ln → Tp → Int → Int → BA → V → FV → Option (V × Int × FV)) (h66 : C66 O (f66 fuel)) (h79 : C79 O f79) (h1063 : C1063 O (f1063 fuel)) (h1074 : C1074 O self1074) : C1062 (fun _ => vcF (S := SS) O j1062) (b1062 fuel self1074) := by
 intro l6 op7 nm8 to9 nsA nB loC hiF sepG kH nI sJ fK prsM ksN kO mP loQ hiU pV psW kY nZ s00 f01 k02 n03 s04 f05 q06 Q R hQ h
 unfold b1062 at h
 refine ⟨nle rfl, rfl, ?_⟩
 refine kc h ?_ ?_ <;> intro h
 refine kc h ?_ ?_ <;> intro h
 refine kc h ?_ ?_ <;> intro h
 refine kc h ?_ ?_ <;> intro h
 refine kc h ?_ ?_ <;> intro h
 refine kc h ?_ ?_ <;> intro h
 refine kc h ?_ ?_ <;> intro h
 refine kL [] (h66 _ _ _ _ _ _ _ _ _ ?_ (sb h))
 rintro k07 m08 lo09 hi0A p0B ps0C v0D h
 refine kc h ?_ ?_ <;> intro h
 refine kL [] (h79 _ _ _ ?_ (sb h))
 rintro l0E _ rfl h
 refine kc h ?_ ?_ <;> intro h
 refine kc h ?_ ?_ <;> intro h
 refine kc h ?_ ?_ <;> intro h
 refine kL [(.sub (.s 105) 0)] (h1063 _ _ _ _ _ _ _ _ _ _ _ _ _ _ _ _ _ _ _ _ _ _ _ _ _ _ _ _ _ _ _ LN _ _ ?_ (sb h))
 rintro k0F n0G s0H f0I v0J h
 exact kR [] (ND 0) (hQ _ _ _ _ _ (ss h))
 exact (sat_none h).elim
 exact (sat_none h).elim
 refine kL [(.sub (.s 105) 0)] (h1074 _ _ _ _ _ _ _ _ _ _ _ _ _ _ _ _ _ _ _ _ _ _ _ _ _ _ _ _ _ _ LN _ _ ?_ (sb h))
 rintro k0K n0L s0M f0N v0O l5 hkrl5 h
 exact kR [] (ND 0) (hQ _ _ _ _ _ (ss h))
 exact (sat_none h).elim
 exact (sat_none h).elim
 exact (sat_none h).elim
 exact (sat_none h).elim
 exact (sat_none h).elim
 exact (sat_none h).elim
 exact (sat_none h).elim
 exact (sat_none h).elim
theorem w1074 {O : Oracle TT} (fuel : Nat) (self1062 : PT → Ln → Tp → V → V → Bool → Option (V × Int)) (h1062 : C1062 O self1062) (h1075 : C1075 O (f1075 fuel)) : C1074 (fun _ => vcF (S := SS) O j1074) (b1074 fuel self1062) := by
 intro lP opQ nmU toV nsW nY loZ hi00 sep01 k02 n03 s04 f05 prs06 ks07 k08 m09 lo0A hi0B p0C ps0D k0E n0F s0G k0H n0I s0J fH r9 n0S en0S Q R hQ h
 subst en0S
 unfold b1074 at h
 refine ⟨nle rfl, rfl, ?_⟩
 intro hl1Y
 refine kp h fun hb1Z h => ?_
 obtain ⟨RI, h, aI, hrRI⟩ := sc h
 refine kX (fun σ => ∃ (lC : FV) (n0T : Nat), n0T = lC.length ∧ lC.length = r9.length ∧ RI (.inr lC) ∧ σ = ⟨[pT 8, pT 10], [eV (.s 8) [ci k0E, ci n0F, .str s0G, .osl (.x 0) 0 n0T], eV (.s 10) zV, (.x 0, (eR .fld lC))]⟩) ?_ ?_
 intro hl20
 obtain ⟨hN13, h⟩ := sat_grdP h
 refine kX (fun σ n => ∃ (f8 : Nat) (v6 : Int) (z : Int) (lG : List Bool) (l5 : FV) (n0U : Nat) (n0M : Nat), f8 = n ∧ f8 = (((r9.length : Nat) : Int) - v6).toNat ∧ 0 ≤ v6 ∧ v6 = z ∧ n0U = lG.length ∧ n0M = l5.length ∧ l5.length = r9.length ∧ sat (f1074_L2 fuel self1062 lP opQ nmU toV nsW nY loZ hi00 sep01 k02 n03 s04 f05 prs06 ks07 k08 m09 lo0A hi0B p0C ps0D k0H n0I s0J fH f8 v6 lG l5) RI ∧ σ.keep [0, 6, 7, 8, 9, 10, 12, 24, 25, 26] [(.s 6), (.s 7), (.s 8), (.s 9), (.s 10), (.s 22), (.x 0)] = ⟨[(0, .c (.isl .dfn lP)), pT 6, pT 7, pT 8, pT 9, pT 10, (12, .c (.osl (.s 22) 0 n0U)), (24, .c (.osl (.x 0) 0 n0M)), (25, iD ((r9.length : Nat) : Int)), (26, iD z)], [eV (.s 6) [ci opQ, .str nmU, .str toV, .isl .str nsW, ci nY, ci loZ, ci hi00, .int .u8 sep01, ci k02, ci n03, .str s04, .isl .fld f05, .isl .two prs06, .isl .lens ks07], eV (.s 7) [ci k08, .str m09, ci lo0A, ci hi0B, .str p0C, .isl .part ps0D], eV (.s 8) [ci k0E, ci n0F, .str s0G, .osl (.x 0) 0 n0M], eV (.s 9) [ci k0H, ci n0I, .str s0J, .isl .fld fH], eV (.s 10) zV, (.s 22, (eR .bool lG)), (.x 0, (eR .fld l5))]⟩) ⟨_, _, 0, _, (List.replicate ((fH.length : Nat) : Int).toNat false), r9, _, _, rfl, rfl, (by decide), rfl, LN, LN, LN, h, rfl⟩ ?_
 rintro σ n ⟨f8, v6, _, lG, l5, _, _, rfl, hf8, hpf8, rfl, rfl, rfl, hkll5, h, hσ⟩
 refine kk hσ ?_
 intro tJ (htJ : tJ = decide (v6 < ((r9.length : Nat) : Int)))
 cases tJ
 obtain rfl := il_nil hf8 htJ
 rw [f1074_L2] at h
 conv => whnf
 exact ⟨l5, _, LN, LN, ss h, rfl⟩
 obtain ⟨gA, rfl, hwgA, hpgA, hfgA⟩ := il_cons hf8 hpf8 htJ hN13
 rw [f1074_L2] at h
 refine kp h fun hb21 h => ?_
 refine kg (sat_getN h) fun uu0V huu0V h => ?_
 obtain ⟨a14, ⟨k15, n17, s18, f19⟩⟩ := uu0V
 refine kL [(.s 22)] (h1075 _ _ _ _ _ _ _ _ _ _ _ _ _ _ _ _ _ _ _ _ _ _ _ _ _ _ _ _ _ _ _ _ LN _ _ ?_ (sb h))
 rintro v0W h
 obtain ⟨R0K, h, a0K, hrR0K⟩ := sc h
 refine kX (fun σ => ∃ (lB : List Bool) (v0N : Int) (v0O : Int) (s0P : BA) (l0Q : FV) (n0X : Nat), n0X = lB.length ∧ R0K (.inr (lB, v0N, v0O, s0P, l0Q)) ∧ σ = ⟨[(0, .c (.isl .dfn lP)), pT 6, pT 7, pT 8, pT 9, pT 10, (12, .c (.osl (.s 22) 0 n0X)), (13, iD v6), pT 14, (15, iD v0W), pT 16, (24, .c (.osl (.x 0) 0 l5.length)), (25, iD ((r9.length : Nat) : Int)), (26, iD v6)], [eV (.s 6) [ci opQ, .str nmU, .str toV, .isl .str nsW, ci nY, ci loZ, ci hi00, .int .u8 sep01, ci k02, ci n03, .str s04, .isl .fld f05, .isl .two prs06, .isl .lens ks07], eV (.s 7) [ci k08, .str m09, ci lo0A, ci hi0B, .str p0C, .isl .part ps0D], eV (.s 8) [ci k0E, ci n0F, .str s0G, .osl (.x 0) 0 l5.length], eV (.s 9) [ci k0H, ci n0I, .str s0J, .isl .fld fH], eV (.s 10) zV, (.s 22, (eR .bool lB)), eV (.s 14) [.str a14, ci k15, ci n17, .str s18, .isl .fld f19], eV (.s 16) [ci v0N, ci v0O, .str s0P, .isl .fld l0Q], (.x 0, (eR .fld l5))]⟩) ?_ ?_
 refine kc h ?_ ?_ <;> intro h
 conv => whnf
 exact ⟨lG, (0 : Int), (0 : Int), eB, [], _, LN, ss h, rfl⟩
 refine kg (sat_getL h) fun uu0Y huu0Y h => ?_
 obtain ⟨a22, ⟨k1A, n1B, s1C, f1D⟩⟩ := uu0Y
 refine kp h fun hb23 h => ?_
 refine kg (sat_getN h) fun b24 huu25 h => ?_
 refine ⟨true, rfl, ?_⟩
 conv => whnf
 exact ⟨(lG.set (0 + v0W.toNat) true), k1A, n1B, s1C, f1D, _, LN, ss h, rfl⟩
 rintro _ ⟨lB, v0N, v0O, s0P, l0Q, _, rfl, h, rfl⟩
 replace h := hrR0K _ h
 obtain ⟨R0L, h, a0L, hrR0L⟩ := sc h
 refine kX (fun σ => ∃ v0R vK vM sN lO, R0L (.inr (v0R, vK, vM, sN, lO)) ∧ σ = ⟨[(0, .c (.isl .dfn lP)), pT 6, pT 7, pT 8, pT 9, pT 10, (12, .c (.osl (.s 22) 0 lB.length)), (13, iD v6), pT 17, (18, iD v0R), (24, .c (.osl (.x 0) 0 l5.length)), (25, iD ((r9.length : Nat) : Int)), (26, iD v6)], [eV (.s 6) [ci opQ, .str nmU, .str toV, .isl .str nsW, ci nY, ci loZ, ci hi00, .int .u8 sep01, ci k02, ci n03, .str s04, .isl .fld f05, .isl .two prs06, .isl .lens ks07], eV (.s 7) [ci k08, .str m09, ci lo0A, ci hi0B, .str p0C, .isl .part ps0D], eV (.s 8) [ci k0E, ci n0F, .str s0G, .osl (.x 0) 0 l5.length], eV (.s 9) [ci k0H, ci n0I, .str s0J, .isl .fld fH], eV (.s 10) zV, (.s 22, (eR .bool lB)), eV (.s 17) [ci vK, ci vM, .str sN, .isl .fld lO], (.x 0, (eR .fld l5))]⟩) ?_ ?_
 refine kg (sat_getL h) fun uu0Z huu0Z h => ?_
 obtain ⟨op26, nm27, to28, ns29, n2A, lo2B, hi2C, sep2D, ⟨k2E, n2F, s2G, f2H⟩, prs2I, ks2J⟩ := uu0Z
 refine kg (sat_getL h) fun uu10 huu10 h => ?_
 obtain ⟨a2K, ⟨k2L, m2M, lo2N, hi2O, p2P, ps2Q⟩⟩ := uu10
 refine kc h ?_ ?_ <;> intro h
 conv => whnf
 refine ⟨?_, ?_⟩
 refine kL [] (h1062 _ _ _ _ _ _ _ _ _ _ _ _ _ _ _ _ _ _ _ _ _ _ _ _ _ _ _ _ _ _ _ _ ?_ (sb h))
 rintro k1E n1F s1G f1H v1I h
 conv => whnf
 exact ⟨v1I, k1E, n1F, s1G, f1H, ss h, rfl⟩
 refine kL [] (h1062 _ _ _ _ _ _ _ _ _ _ _ _ _ _ _ _ _ _ _ _ _ _ _ _ _ _ _ _ _ _ _ _ ?_ (sb h))
 rintro k1J n1K s1L f1M v1N h
 conv => whnf
 exact ⟨v1N, k1J, n1K, s1L, f1M, ss h, rfl⟩
 conv => whnf
 refine ⟨?_, ?_⟩
 refine kL [] (h1062 _ _ _ _ _ _ _ _ _ _ _ _ _ _ _ _ _ _ _ _ _ _ _ _ _ _ _ _ _ _ _ _ ?_ (sb h))
 rintro k1O n1P s1Q f1R v1S h
 conv => whnf
 exact ⟨v1S, k1O, n1P, s1Q, f1R, ss h, rfl⟩
 refine kL [] (h1062 _ _ _ _ _ _ _ _ _ _ _ _ _ _ _ _ _ _ _ _ _ _ _ _ _ _ _ _ _ _ _ _ ?_ (sb h))
 rintro k1T n1U s1V f1W v1X h
 conv => whnf
 exact ⟨v1X, k1T, n1U, s1V, f1W, ss h, rfl⟩
 rintro _ ⟨v0R, vK, vM, sN, lO, h, rfl⟩
 replace h := hrR0L _ h
 refine kc h ?_ ?_ <;> intro h
 refine kp h fun hb2R h => ?_
 refine kg (sat_getN h) fun uu11 huu11 h => ?_
 obtain ⟨a12, ⟨k2S, n2T, s2U, f2V⟩⟩ := uu11
 refine ⟨(a12, (V.mk vK vM sN lO)), rfl, ?_⟩
 conv => whnf
 exact ⟨gA, nls, gA, v6 + 1, _, lB, (l5.set (0 + v6.toNat) (a12, (V.mk vK vM sN lO))), _, _, rfl, hfgA, hpgA, hwgA.symm, LN, LN, LN, h, rfl⟩
 exact (sat_none h).elim
 rintro _ ⟨lC, _, rfl, hkllC, h, rfl⟩
 replace h := hrRI _ h
 conv => whnf
 refine ⟨LN, ?_⟩
 exact kR [] (ND 1) (hQ _ _ _ _ _ _ LN (ss h))
theorem cg1062 {P : Program} {fid : Nat → FuncId} (mx : MX P) (k1062 : KF P fid 1062 j1062) (k1074 : KF P fid 1074 j1074) (h66 : ∀ n, C66 (SP P fid) (f66 n)) (h79 : C79 (SP P fid) f79) (h1063 : ∀ n, C1063 (SP P fid) (f1063 n)) (h1075 : ∀ n, C1075 (SP P fid) (f1075 n)) : ∀ n, C1062 (SP P fid) (f1062 n) ∧ C1074 (SP P fid) (f1074 n) := by
 intro n
 induction n with
 | zero => exact ⟨fun a6 a7 a8 a9 aA aC aD aE aF aG aH aI aJ aK aL aM aN aO aP aQ aS aT aU aW aX aY aZ a00 a01 a02 Q R hQ h => (sat_none h).elim, fun a6 a7 a8 a9 aA aC aD aE aF aG aH aI aJ aK aL aM aN aO aP aQ aS aT aU aW aX aY aZ a00 a01 n6 e6 Q R hQ h => (sat_none h).elim⟩
 | succ n ih =>
  obtain ⟨ih6, ih7⟩ := ih
  exact ⟨fun a6 a7 a8 a9 aA aC aD aE aF aG aH aI aJ aK aL aM aN aO aP aQ aS aT aU aW aX aY aZ a00 a01 a02 Q R hQ h => spec_of_vc mx k1062 (w1062 n (f1074 n) (h66 n) h79 (h1063 n) ih7 a6 a7 a8 a9 aA aC aD aE aF aG aH aI aJ aK aL aM aN aO aP aQ aS aT aU aW aX aY aZ a00 a01 a02 Q R hQ h), fun a6 a7 a8 a9 aA aC aD aE aF aG aH aI aJ aK aL aM aN aO aP aQ aS aT aU aW aX aY aZ a00 a01 n6 e6 Q R hQ h => spec_of_vc mx k1074 (w1074 n (f1062 n) ih6 (h1075 n) a6 a7 a8 a9 aA aC aD aE aF aG aH aI aJ aK aL aM aN aO aP aQ aS aT aU aW aX aY aZ a00 a01 n6 e6 Q R hQ h)⟩
theorem c1062 {P : Program} {fid : Nat → FuncId} (mx : MX P) (k1062 : KF P fid 1062 j1062) (k1074 : KF P fid 1074 j1074) (h66 : ∀ n, C66 (SP P fid) (f66 n)) (h79 : C79 (SP P fid) f79) (h1063 : ∀ n, C1063 (SP P fid) (f1063 n)) (h1075 : ∀ n, C1075 (SP P fid) (f1075 n)) : ∀ n, C1062 (SP P fid) (f1062 n) := fun n => (cg1062 mx k1062 k1074 h66 h79 h1063 h1075 n).1
def f1067 (fuel : Nat) : V → Int → Option (V × Int)
  | .mk k5 n6 s7 f8, v9 => cond (v9 != 0) (none) ((f51 fuel (V.mk k5 n6 s7 f8)).bind fun vA => cond (vA != 0) (none) ((f57 fuel (V.mk k5 n6 s7 f8)).bind fun (.mk kB nC sF fG) => some ((V.mk kB nC sF fG), 0)))
def C1067 (O : Oracle TT) (m : V → Int → Option (V × Int)) : Prop :=
  ∀ k5 n6 s7 f8 v9 (Q : (V × Int) → Prop) (R : RR) (_ : ∀ kA nB sC fF vG, Q ((V.mk kA nB sC fF), vG) → R (.tup [.agg [ci kA, ci nB, .str sC, .isl .fld fF], iD vG]) []) (_ : sat (m (V.mk k5 n6 s7 f8) v9) Q), O 1067 [.agg [ci k5, ci n6, .str s7, .isl .fld f8], iD v9] [] R
def j1067 : Fn TT := ⟨16, [.cell 4 4 true, .t 5], (sr [qo 2 (.box 2 0),qo 4 (.alloc 4 zV),qo 5 (.mv (iC 0))] (.seq (sr [qm 6 1,qo 7 (.bin .neq .num 6 (iC 0))] (.cond 7 .dead .skip)) (.seq (sr [qo 10 (.load 2 4 true),qo 11 (.call 11 51 [10]),qo 12 (.bin .neq .num 11 (iC 0))] (.cond 12 .dead .skip)) (sr [qo 14 (.load 2 4 true),
 qo 15 (.call 15 57 [14]),qp (.store 4 15 4),qo 5 (.mv (iC 0))] .ret))))⟩
theorem w1067 {O : Oracle TT} (fuel : Nat) (h51 : C51 O (f51 fuel)) (h57 : C57 O (f57 fuel)) : C1067 (fun _ => vcF (S := SS) O j1067) (f1067 fuel) := by
 intro k5 n6 s7 f8 v9 Q R hQ h
 unfold f1067 at h
 refine ⟨nle rfl, rfl, ?_⟩
 refine kc h ?_ ?_ <;> intro h
 refine kL [] (h51 _ _ _ _ _ _ ?_ (sb h))
 rintro vA h
 refine kc h ?_ ?_ <;> intro h
 refine kL [] (h57 _ _ _ _ _ _ ?_ (sb h))
 rintro kB nC sF fG h
 exact kR [] (ND 0) (hQ _ _ _ _ _ (ss h))
 exact (sat_none h).elim
 exact (sat_none h).elim
def f1061 (fuel : Nat) : PT → Ln → Tp → V → V → Option (V × Int)
  | l5, .mk opC nmF toG nsH nI loJ hiK sepM (.mk kN nO sP fQ) prsU ksV, .mk k6 m7 lo8 hi9 pA psB, .mk kW nY sZ f00, .mk k01 n02 s03 f04 => (f1032 fuel l5 (Ln.mk opC nmF toG nsH nI loJ hiK sepM (V.mk kN nO sP fQ) prsU ksV) (Tp.mk k6 m7 lo8 hi9 pA psB)).bind fun ((.mk k05 m06 lo07 hi08 p09 ps0A), v0B) => cond (v0B != 0) (none) ((f1042 fuel l5 (Tp.mk k05 m06 lo07 hi08 p09 ps0A) (V.mk kW nY sZ f00)).bind fun q0C => cond q0C ((f1042 fuel l5 (Tp.mk k6 m7 lo8 hi9 pA psB) (V.mk k01 n02 s03 f04)).bind fun q0D => cond q0D ((f57 fuel (V.mk kW nY sZ f00)).bind fun (.mk k0E n0F s0G f0H) => (f57 fuel (V.mk k01 n02 s03 f04)).bind fun (.mk k0I n0J s0K f0L) => (f1062 fuel l5 (Ln.mk opC nmF toG nsH nI loJ hiK sepM (V.mk kN nO sP fQ) prsU ksV) (Tp.mk k6 m7 lo8 hi9 pA psB) (V.mk k0E n0F s0G f0H) (V.mk k0I n0J s0K f0L) true).bind fun ((.mk k0M n0N s0O f0P), v0Q) => (f1067 fuel (V.mk k0M n0N s0O f0P) v0Q).bind fun ((.mk k0R n0S s0T f0U), v0V) => some ((V.mk k0R n0S s0T f0U), v0V)) (some ((V.mk 0 0 (⟨#[]⟩ : BA) []), 8))) (some ((V.mk 0 0 (⟨#[]⟩ : BA) []), 8)))
def C1061 (O : Oracle TT) (m : PT → Ln → Tp → V → V → Option (V × Int)) : Prop :=
  ∀ l5 op6 nm7 to8 ns9 nA loB hiC sepF kG nH sI fJ prsK ksM kN mO loP hiQ pU psV kW nY sZ f00 k01 n02 s03 f04 (Q : (V × Int) → Prop) (R : RR) (_ : ∀ k05 n06 s07 f08 v09, Q ((V.mk k05 n06 s07 f08), v09) → R (.tup [.agg [ci k05, ci n06, .str s07, .isl .fld f08], iD v09]) []) (_ : sat (m l5 (Ln.mk op6 nm7 to8 ns9 nA loB hiC sepF (V.mk kG nH sI fJ) prsK ksM) (Tp.mk kN mO loP hiQ pU psV) (V.mk kW nY sZ f00) (V.mk k01 n02 s03 f04)) Q), O 1061 [.c (.isl .dfn l5), .agg [ci op6, .str nm7, .str to8, .isl .str ns9, ci nA, ci loB, ci hiC, .int .u8 sepF, ci kG, ci nH, .str sI, .isl .fld fJ, .isl .two prsK, .isl .lens ksM], .agg [ci kN, .str mO, ci loP, ci hiQ, .str pU, .isl .part psV], .agg [ci kW, ci nY, .str sZ, .isl .fld f00], .agg [ci k01, ci n02, .str s03, .isl .fld f04]] [] R
def j1061 : Fn TT := ⟨51, [.cell 10 4 true, .t 11], (sr [qo 6 (.box 6 1),qo 7 (.box 7 2),qo 8 (.box 8 3),qo 9 (.box 9 4),qo 10 (.alloc 10 zV),qo 11 (.mv (iC 0))] (sr [qm 15 0,qo 16 (.load 6 14 true),qo 17 (.load 7 6 true),qo 18 (.call 18 1032 [15, 16, 17]),qm 14 18,qo 19 (.ext 14 0),qo 20 (.ext 14 1),qo 12 (.alloc 12 zTp),qp (.store 12 19 6),
 qm 13 20] (.seq (sr [qm 21 13,qo 22 (.bin .neq .num 21 (iC 0))] (.cond 22 .dead .skip)) (.seq (sr [qm 25 0,qo 26 (.load 12 6 true),qo 27 (.load 8 4 true),qo 28 (.call 28 1042 [25, 26, 27]),qo 29 (.un .not 28),qm 30 29,qf 30 31 (.mv 0),qf 30 32 (.load 7 6 true),qf 30 33 (.load 9 4 true),qf 30 34 (.call 34 1042 [31, 32, 33]),
 qf 30 35 (.un .not 34),qo 36 (.pick 30 bT 35)] (.cond 36 (sr [qo 37 (.build zV []),qp (.store 10 37 4),qo 11 (.mv (iC 8))] .ret) .skip)) (.seq (.drw [] (ol [0, 1, 2, 3, 5, 4, 6, 7, 8, 9, 10, 11, 12, 13, 14]) [13] [0, 1, 2, 3, 5, 8, 9, 11, 12, 14] [qm 38 0,qo 39 (.load 6 14 true),qo 40 (.load 7 6 true),qo 41 (.load 8 4 true),qo 42 (.call 42 57 [41]),qo 43 (.load 9 4 true),
 qo 44 (.call 44 57 [43]),qo 45 (.call 45 1062 [38, 39, 40, 42, 44, bT]),qo 46 (.ext 45 0),qo 47 (.ext 45 1),qo 48 (.call 48 1067 [46, 47]),qo 49 (.ext 48 0),qo 50 (.ext 48 1),qp (.store 10 49 4),qm 11 50]) .ret)))))⟩
theorem w1061 {O : Oracle TT} (fuel : Nat) (h1032 : C1032 O (f1032 fuel)) (h1042 : C1042 O (f1042 fuel)) (h57 : C57 O (f57 fuel)) (h1062 : C1062 O (f1062 fuel)) (h1067 : C1067 O (f1067 fuel)) : C1061 (fun _ => vcF (S := SS) O j1061) (f1061 fuel) := by
 intro l7 op8 nm9 toA nsB nC loF hiG sepH kI nJ sK fM prsN ksO kP mQ loU hiV pW psY kZ n00 s01 f02 k03 n04 s05 f06 Q R hQ h
 unfold f1061 at h
 refine ⟨nle rfl, rfl, ?_⟩
 refine kL [] (h1032 _ _ _ _ _ _ _ _ _ _ _ _ _ _ _ _ _ _ _ _ _ _ _ ?_ (sb h))
 rintro k07 m08 lo09 hi0A p0B ps0C v0D h
 refine kc h ?_ ?_ <;> intro h
 refine kL [] (h1042 _ _ _ _ _ _ _ _ _ _ _ _ _ ?_ (sb h))
 rintro q5 h
 cases q5
 replace h := cf h
 exact kR [] (ND 0) (hQ _ _ _ _ _ (ss h))
 replace h := ct h
 refine kL [] (h1042 _ _ _ _ _ _ _ _ _ _ _ _ _ ?_ (sb h))
 rintro q6 h
 cases q6
 replace h := cf h
 exact kR [] (ND 0) (hQ _ _ _ _ _ (ss h))
 replace h := ct h
 refine kL [] (h57 _ _ _ _ _ _ ?_ (sb h))
 rintro k0E n0F s0G f0H h
 refine kL [] (h57 _ _ _ _ _ _ ?_ (sb h))
 rintro k0I n0J s0K f0L h
 refine kL [] (h1062 _ _ _ _ _ _ _ _ _ _ _ _ _ _ _ _ _ _ _ _ _ _ _ _ _ _ _ _ _ _ _ _ ?_ (sb h))
 rintro k0M n0N s0O f0P v0Q h
 refine kL [] (h1067 _ _ _ _ _ _ _ ?_ (sb h))
 rintro k0R n0S s0T f0U v0V h
 exact kR [] (ND 0) (hQ _ _ _ _ _ (ss h))
 exact (sat_none h).elim
def f1031 (fuel : Nat) : PT → Int → BA → Int → Int → BA → PT → Int → BA → BA → LB → Int → Int → Int → Int → Int → Int → BA → FV → LW → (List Ln) → Int → BA → BA → LB → Int → Int → Int → Int → Int → Int → BA → FV → LW → (List Ln) → Option (Int)
  | l5, v6, s7, v8, v9, sA, lB, vC, sF, sG, lH, vI, vJ, vK, vM, vN, vO, sP, lQ, lU, lV, vW, sY, sZ, l00, v01, v02, v03, v04, v05, v06, s07, l08, l09, l0A => (f1032 fuel l5 (Ln.mk vC sF sG lH vI vJ vK vM (V.mk vN vO sP lQ) lU lV) (Tp.mk v6 s7 v8 v9 sA lB)).bind fun ((.mk k0D m0E lo0F hi0G p0H ps0I), v0B) => cond (v0B != 0) (none) ((f1032 fuel l5 (Ln.mk vW sY sZ l00 v01 v02 v03 v04 (V.mk v05 v06 s07 l08) l09 l0A) (Tp.mk v6 s7 v8 v9 sA lB)).bind fun ((.mk k0J m0K lo0L hi0M p0N ps0O), v0C) => some v0C)
def C1031 (O : Oracle TT) (m : PT → Int → BA → Int → Int → BA → PT → Int → BA → BA → LB → Int → Int → Int → Int → Int → Int → BA → FV → LW → (List Ln) → Int → BA → BA → LB → Int → Int → Int → Int → Int → Int → BA → FV → LW → (List Ln) → Option (Int)) : Prop :=
  ∀ l5 v6 s7 v8 v9 sA lB vC sF sG lH vI vJ vK vL vM vN sO lP lQ lR vS sT sU lV vW vY vZ v00 v01 v02 s03 l04 l05 l06 (Q : Int → Prop) (R : RR) (_ : ∀ v07, Q v07 → R (iD v07) []) (_ : sat (m l5 v6 s7 v8 v9 sA lB vC sF sG lH vI vJ vK vL vM vN sO lP lQ lR vS sT sU lV vW vY vZ v00 v01 v02 s03 l04 l05 l06) Q), O 1031 [.c (.isl .dfn l5), .agg [ci v6, .str s7, ci v8, ci v9, .str sA, .isl .part lB, ci vC, .str sF, .str sG, .isl .str lH, ci vI, ci vJ, ci vK, .int .u8 vL, ci vM, ci vN, .str sO, .isl .fld lP, .isl .two lQ, .isl .lens lR, ci vS, .str sT, .str sU, .isl .str lV, ci vW, ci vY, ci vZ, .int .u8 v00, ci v01, ci v02, .str s03, .isl .fld l04, .isl .two l05, .isl .lens l06]] [] R
def j1031 : Fn TT := ⟨31, [.t 4], (sr [qo 3 (.box 3 1),qo 4 (.mv (iC 0))] (.seq (sr [qm 10 0,qo 11 (.fa 3 6),qo 12 (.load 11 14 true),qo 13 (.fa 3 0),qo 14 (.load 13 6 true),qo 15 (.call 15 1032 [10, 12, 14]),qm 9 15,qo 16 (.ext 9 0),qo 17 (.ext 9 1),qo 5 (.alloc 5 zTp),qp (.store 5 16 6),qm 6 17] (sr [qm 18 6,
 qo 19 (.bin .neq .num 18 (iC 0))] (.cond 19 .dead .skip))) (sr [qm 22 0,qo 23 (.fa 3 20),qo 24 (.load 23 14 true),qo 25 (.fa 3 0),qo 26 (.load 25 6 true),qo 27 (.call 27 1032 [22, 24, 26]),qm 21 27,qo 28 (.ext 21 0),qo 29 (.ext 21 1),qo 7 (.alloc 7 zTp),qp (.store 7 28 6),qm 8 29] (sr [qm 30 8,qm 4 30] .ret))))⟩
theorem w1031 {O : Oracle TT} (fuel : Nat) (h1032 : C1032 O (f1032 fuel)) : C1031 (fun _ => vcF (S := SS) O j1031) (f1031 fuel) := by
 intro l5 v6 s7 v8 v9 sA lB vC sF sG lH vI vJ vK vM vN vO sP lQ lU lV vW sY sZ l00 v01 v02 v03 v04 v05 v06 s07 l08 l09 l0A Q R hQ h
 unfold f1031 at h
 refine ⟨nle rfl, rfl, ?_⟩
 refine kL [] (h1032 _ _ _ _ _ _ _ _ _ _ _ _ _ _ _ _ _ _ _ _ _ _ _ ?_ (sb h))
 rintro k0B m0C lo0D hi0E p0F ps0G v0H h
 refine kc h ?_ ?_ <;> intro h
 refine kL [] (h1032 _ _ _ _ _ _ _ _ _ _ _ _ _ _ _ _ _ _ _ _ _ _ _ ?_ (sb h))
 rintro k0I m0J lo0K hi0L p0M ps0N v0O h
 exact kR [] (ND 0) (hQ _ (ss h))
 exact (sat_none h).elim
def f1044_L2 (fuel : Nat) : PT → Nat → PT → Option (Sum (PT) (PT))
  | [], j6, l5 => some (.inr l5)
  | ((a7, .mk kF mG loH hiI pJ psK)) :: tlM, j6, l5 => (f1034 fuel (Tp.mk kF mG loH hiI pJ psK)).bind fun (.mk k8 m9 loA hiB pC psE) => grdP (l5.length + ([(a7, (Tp.mk k8 m9 loA hiB pC psE))] : PT).length ≤ 68719476736) (f1044_L2 fuel tlM (j6 + 1) (l5 ++ ([(a7, (Tp.mk k8 m9 loA hiB pC psE))] : PT)))
def f1044 (fuel : Nat) : PT → Option (PT)
  | l0 => sbind (ο := PT) (f1044_L2 fuel l0 0 []) (fun l3 => some l3)
def C1044 (O : Oracle TT) (m : PT → Option (PT)) : Prop :=
  ∀ l0 (Q : PT → Prop) (R : RR) (_ : ∀ l3, Q l3 → R (.c (.isl .dfn l3)) []) (_ : sat (m l0) Q), O 1044 [.c (.isl .dfn l0)] [] R
def j1044 : Fn TT := ⟨23, [.t 2], (sr [qo 2 (.mv (.c (.nils)))] (sr [qo 3 (.mv (.c (.nils)))] (.cut [3] [(.sub (.sub (.s 3) 600) 0)] (sr [qm 6 0,qo 7 (.len false 6),qo 8 (.mv (iC 0))] (.block 0 (.pre [.own 3 0 .dfn (.sub (.sub (.s 3) 600) 0)] (.loop (.keep [3, 6, 7, 8] [(.sub (.sub (.s 3) 600) 0)] (.aft (sr [qo 9 (.bin .lss .num 8 7)] (.seq
 (.cond 9 .skip (.exit 0)) (.seq (.block 1 (sr [qo 10 (.idxA 6 8 7),qo 11 (.load 10 7 true),qo 5 (.alloc 5 zPt),qp (.store 5 11 7)] (.drw [(.sub (.sub (.s 3) 600) 0)] (oR 10) [] [0, 1, 2, 3, 4, 6, 9] [qm 12 3,qo 13 (.fa 5 0),qo 14 (ld 13),qo 15 (.fa 5 1),qo 16 (.load 15 6 true),qo 17 (.call 17 1034 [16]),qo 18 (.build zPt [((0, 1), 14), ((1, 6), 17)]),
 qo 19 (.bsl .dfn [18]),qo 20 (.app 20 .dfn 68719476736 12 19),qm 3 20]))) (.reg [qo 21 (.bin .add .num 8 (iC 1)),qm 8 21])))) [.keep [3, 6, 7, 8] [(.s 20)], .own 3 0 .dfn (.sub (.sub (.s 3) 600) 0)])))))) (sr [qm 22 3,qm 2 22] (.pre [.frz 2 0 .dfn] .ret)))))⟩
theorem w1044 {O : Oracle TT} (fuel : Nat) (h1034 : C1034 O (f1034 fuel)) : C1044 (fun _ => vcF (S := SS) O j1044) (f1044 fuel) := by
 intro l9 Q R hQ h
 unfold f1044 at h
 refine ⟨nle rfl, rfl, ?_⟩
 obtain ⟨RA, h, aA, bA⟩ := sc h
 refine kX (fun σ => ∃ (lE : PT) (nH : Nat), nH = lE.length ∧ RA (.inr lE) ∧ σ = ⟨[(3, .c (.osl (.sub (.sub (.s 3) 600) 0) 0 nH))], [(.sub (.sub (.s 3) 600) 0, (eR .dfn lE))]⟩) ?_ ?_
 intro hlK
 refine kX (fun σ n => ∃ (rem5 : PT) (j6 : Nat) (z : Int) (l8 : PT) (nI : Nat), n = rem5.length ∧ l9.drop j6 = rem5 ∧ z = ((j6 : Nat) : Int) ∧ nI = l8.length ∧ sat (f1044_L2 fuel rem5 j6 l8) RA ∧ σ.keep [3, 6, 7, 8] [(.sub (.sub (.s 3) 600) 0)] = ⟨[(3, .c (.osl (.sub (.sub (.s 3) 600) 0) 0 nI)), (6, .c (.isl .dfn l9)), (7, iD ((l9.length : Nat) : Int)), (8, iD z)], [(.sub (.sub (.s 3) 600) 0, (eR .dfn l8))]⟩) ⟨_, l9, 0, _, [], _, rfl, rfl, rfl, LN, h, rfl⟩ ?_
 rintro σ n ⟨rem5, j6, _, l8, _, rfl, hrem5, rfl, rfl, h, hσ⟩
 refine kk hσ ?_
 intro tB (htB : tB = decide (((j6 : Nat) : Int) < ((l9.length : Nat) : Int)))
 cases tB
 obtain rfl := ll_nil hrem5 htB
 rw [f1044_L2] at h
 conv => whnf
 exact ⟨l8, _, LN, ss h, rfl⟩
 obtain ⟨xC, tlG, rfl, hxC, htlG⟩ := ll_cons hrem5 htB
 obtain ⟨aM, ⟨kW, mY, loZ, hi00, p01, ps02⟩⟩ := xC
 rw [f1044_L2] at h
 conv => whnf
 refine ⟨lx_bd hxC, fun uuJ huuJ => ?_⟩
 obtain rfl := lx_eq hxC huuJ
 refine kL [] (h1034 _ _ _ _ _ _ _ _ ?_ (sb h))
 rintro kN mO loP hiQ pU psV h
 conv => whnf
 refine ⟨LN, rfl, ?_⟩
 conv => whnf
 refine ⟨rfl, ?_⟩
 refine kp h fun hb03 h => ?_
 conv => whnf
 exact ⟨tlG.length, nls, tlG, j6 + 1, _, (l8 ++ ([(aM, (Tp.mk kN mO loP hiQ pU psV))] : PT)), _, rfl, htlG, lx_wr hxC hlK, LN, h, rfl⟩
 rintro _ ⟨lE, _, rfl, h, rfl⟩
 replace h := bA _ h
 conv => whnf
 refine ⟨LN, ?_⟩
 exact kR [] (ND 0) (hQ _ (ss h))
def f1046 : Int → PT → Int → BA → Int → Int → BA → PT → Int → BA → BA → LB → Int → Int → Int → Int → Int → Int → BA → FV → LW → (List Ln) → Int → BA → BA → LB → Int → Int → Int → Int → Int → Int → BA → FV → LW → (List Ln) → Int → Int → BA → FV → Int → Int → Option (Ln)
  | v5, l01, v02, s03, v04, v05, s06, l07, v6, s7, s8, l9, vA, vB, vC, vF, vG, vH, sI, lJ, lK, lL, vM, sN, sO, lP, vQ, vR, vS, vT, vU, vV, sW, lY, lZ, l00, v08, v09, s0A, l0B, v0C, v0D => cond (v5 == 0) (some (Ln.mk v6 s7 s8 l9 vA vB vC vF (V.mk vG vH sI lJ) lK lL)) (some (Ln.mk vM sN sO lP vQ vR vS vT (V.mk vU vV sW lY) lZ l00))
def C1046 (O : Oracle TT) (m : Int → PT → Int → BA → Int → Int → BA → PT → Int → BA → BA → LB → Int → Int → Int → Int → Int → Int → BA → FV → LW → (List Ln) → Int → BA → BA → LB → Int → Int → Int → Int → Int → Int → BA → FV → LW → (List Ln) → Int → Int → BA → FV → Int → Int → Option (Ln)) : Prop :=
  ∀ v0F l5 v6 s7 v8 v9 sA lB vC sF sG lH vI vJ vK vM vN vO sP lQ lS lT vU sV sW lY vZ v00 v01 v02 v03 v04 s05 l06 l07 l08 v09 v0A s0B l0C v0D v0E (Q : Ln → Prop) (R : RR) (_ : ∀ op0G nm0H to0I ns0J n0K lo0L hi0M sep0N k0O n0P s0Q f0R prs0S ks0T, Q (Ln.mk op0G nm0H to0I ns0J n0K lo0L hi0M sep0N (V.mk k0O n0P s0Q f0R) prs0S ks0T) → R (.agg [ci op0G, .str nm0H, .str to0I, .isl .str ns0J, ci n0K, ci lo0L, ci hi0M, .int .u8 sep0N, ci k0O, ci n0P, .str s0Q, .isl .fld f0R, .isl .two prs0S, .isl .lens ks0T]) [eV (.x 0) [.isl .dfn l5, ci v6, .str s7, ci v8, ci v9, .str sA, .isl .part lB, ci vC, .str sF, .str sG, .isl .str lH, ci vI, ci vJ, ci vK, .int .u8 vM, ci vN, ci vO, .str sP, .isl .fld lQ, .isl .two lS, .isl .lens lT, ci vU, .str sV, .str sW, .isl .str lY, ci vZ, ci v00, ci v01, .int .u8 v02, ci v03, ci v04, .str s05, .isl .fld l06, .isl .two l07, .isl .lens l08, ci v09, ci v0A, .str s0B, .isl .fld l0C, ci v0D, ci v0E]]) (_ : sat (m v0F l5 v6 s7 v8 v9 sA lB vC sF sG lH vI vJ vK vM vN vO sP lQ lS lT vU sV sW lY vZ v00 v01 v02 v03 v04 s05 l06 l07 l08 v09 v0A s0B l0C v0D v0E) Q), O 1046 [pX 0, iD v0F] [eV (.x 0) [.isl .dfn l5, ci v6, .str s7, ci v8, ci v9, .str sA, .isl .part lB, ci vC, .str sF, .str sG, .isl .str lH, ci vI, ci vJ, ci vK, .int .u8 vM, ci vN, ci vO, .str sP, .isl .fld lQ, .isl .two lS, .isl .lens lT, ci vU, .str sV, .str sW, .isl .str lY, ci vZ, ci v00, ci v01, .int .u8 v02, ci v03, ci v04, .str s05, .isl .fld l06, .isl .two l07, .isl .lens l08, ci v09, ci v0A, .str s0B, .isl .fld l0C, ci v0D, ci v0E]] R
def j1046 : Fn TT := ⟨17, [.cell 4 14 true], (sr [qo 4 (.alloc 4 zLn)] (.seq (sr [qm 5 1,qo 6 (.bin .eql .num 5 (iC 0))] (.cond 6 (sr [qm 7 0,qo 8 (.nilck 7),qo 9 (.fa 8 1),qo 10 (.fa 9 6),qo 11 (.load 10 14 true),qp (.store 4 11 14)] .ret) .skip)) (sr [qm 12 0,qo 13 (.nilck 12),qo 14 (.fa 13 1),qo 15 (.fa 14 20),
 qo 16 (.load 15 14 true),qp (.store 4 16 14)] .ret)))⟩
theorem w1046 {O : Oracle TT} : C1046 (fun _ => vcF (S := SS) O j1046) f1046 := by
 intro v5 l6 v7 s8 v9 vA sB lC vF sG sH lI vJ vK vL vM vN vO sP lQ lR lS vT sU sV lW vY vZ v00 v01 v02 v03 s04 l05 l06 l07 v08 v09 s0A l0B v0C v0D Q R hQ h
 unfold f1046 at h
 refine ⟨nle rfl, rfl, ?_⟩
 refine kc h ?_ ?_ <;> intro h
 exact kR [] (ND 1) (hQ _ _ _ _ _ _ _ _ _ _ _ _ _ _ (ss h))
 exact kR [] (ND 1) (hQ _ _ _ _ _ _ _ _ _ _ _ _ _ _ (ss h))
def f1045 (fuel : Nat) : Int → V → PT → Int → BA → Int → Int → BA → PT → Int → BA → BA → LB → Int → Int → Int → Int → Int → Int → BA → FV → LW → (List Ln) → Int → BA → BA → LB → Int → Int → Int → Int → Int → Int → BA → FV → LW → (List Ln) → Int → Int → BA → FV → Int → Int → Option (V × Int)
  | vC, .mk kF nG sH fI, l5, v6, s7, v8, v9, sA, lB, vJ, sK, sM, lN, vO, vP, vQ, vS, vT, vU, sV, lW, lY, lZ, v00, s01, s02, l03, v04, v05, v06, v07, v08, v09, s0A, l0B, l0C, l0D, v0E, v0F, s0G, l0H, v0I, v0J => sbind (ο := Int × Int × Int × BA × FV) ((f1046 vC l5 v6 s7 v8 v9 sA lB vJ sK sM lN vO vP vQ vS vT vU sV lW lY lZ v00 s01 s02 l03 v04 v05 v06 v07 v08 v09 s0A l0B l0C l0D v0E v0F s0G l0H v0I v0J).bind fun (.mk op0K nm0L to0M ns0N n0O lo0P hi0Q sep0R (.mk k0S n0T s0U f0V) prs0W ks0X) => (f1047 fuel l5 (Ln.mk op0K nm0L to0M ns0N n0O lo0P hi0Q sep0R (V.mk k0S n0T s0U f0V) prs0W ks0X) (Tp.mk v6 s7 v8 v9 sA lB) (V.mk kF nG sH fI)).bind fun ((.mk k0Y n0Z s10 f11), v12) => some (.inr (v12, k0Y, n0Z, s10, f11))) (fun (v13, v14, v15, s16, l17) => some ((V.mk v14 v15 s16 l17), v13))
def C1045 (O : Oracle TT) (m : Int → V → PT → Int → BA → Int → Int → BA → PT → Int → BA → BA → LB → Int → Int → Int → Int → Int → Int → BA → FV → LW → (List Ln) → Int → BA → BA → LB → Int → Int → Int → Int → Int → Int → BA → FV → LW → (List Ln) → Int → Int → BA → FV → Int → Int → Option (V × Int)) : Prop :=
  ∀ v0F k0G n0H s0I f0J l5 v6 s7 v8 v9 sA lB vC sF sG lH vI vJ vK vM vN vO sP lQ lS lT vU sV sW lY vZ v00 v01 v02 v03 v04 s05 l06 l07 l08 v09 v0A s0B l0C v0D v0E (Q : (V × Int) → Prop) (R : RR) (_ : ∀ k0K n0L s0M f0N v0O, Q ((V.mk k0K n0L s0M f0N), v0O) → R (.tup [.agg [ci k0K, ci n0L, .str s0M, .isl .fld f0N], iD v0O]) [eV (.x 0) [.isl .dfn l5, ci v6, .str s7, ci v8, ci v9, .str sA, .isl .part lB, ci vC, .str sF, .str sG, .isl .str lH, ci vI, ci vJ, ci vK, .int .u8 vM, ci vN, ci vO, .str sP, .isl .fld lQ, .isl .two lS, .isl .lens lT, ci vU, .str sV, .str sW, .isl .str lY, ci vZ, ci v00, ci v01, .int .u8 v02, ci v03, ci v04, .str s05, .isl .fld l06, .isl .two l07, .isl .lens l08, ci v09, ci v0A, .str s0B, .isl .fld l0C, ci v0D, ci v0E]]) (_ : sat (m v0F (V.mk k0G n0H s0I f0J) l5 v6 s7 v8 v9 sA lB vC sF sG lH vI vJ vK vM vN vO sP lQ lS lT vU sV sW lY vZ v00 v01 v02 v03 v04 s05 l06 l07 l08 v09 v0A s0B l0C v0D v0E) Q), O 1045 [pX 0, iD v0F, .agg [ci k0G, ci n0H, .str s0I, .isl .fld f0J]] [eV (.x 0) [.isl .dfn l5, ci v6, .str s7, ci v8, ci v9, .str sA, .isl .part lB, ci vC, .str sF, .str sG, .isl .str lH, ci vI, ci vJ, ci vK, .int .u8 vM, ci vN, ci vO, .str sP, .isl .fld lQ, .isl .two lS, .isl .lens lT, ci vU, .str sV, .str sW, .isl .str lY, ci vZ, ci v00, ci v01, .int .u8 v02, ci v03, ci v04, .str s05, .isl .fld l06, .isl .two l07, .isl .lens l08, ci v09, ci v0A, .str s0B, .isl .fld l0C, ci v0D, ci v0E]] R
def j1045 : Fn TT := ⟨24, [.cell 6 4 true, .t 7], (sr [qo 5 (.box 5 2),qo 6 (.alloc 6 zV),qo 7 (.mv (iC 0))] (.cut [6, 7] [(.s 6), (.x 0)]
 (.drw [(.x 0)] (.go 0 (.go 1 (.go 2 (.go 4 (.go 5 (.go 7 (.go 8 (.go 9 (.go 10 (.go 12 (.alt3 3 (.alt 6 (.go 11 (.go 13 (.go 14 (.go 15 (.go 16 (.go 17 .nil)))))) 11 (.go 6 (.go 13 (.go 14 (.go 15 (.go 16 (.go 17 .nil))))))) 6 (.alt 3 (.go 11 (.go 13 (.go 14 (.go 15 (.go 16 (.go 17 .nil)))))) 11 (.go 3 (.go 13 (.go 14 (.go 15 (.go 16 (.go 17 .nil))))))) 11 (.alt 3 (.go 6 (.go 13 (.go 14 (.go 15 (.go 16 (.go 17 .nil)))))) 6 (.go 3 (.go 13 (.go 14 (.go 15 (.go 16 (.go 17 .nil)))))))))))))))))) [16] [0, 1, 2, 4, 5, 7, 8, 9, 10, 12, 14, 15, 17] [qm 8 0,
 qo 9 (.nilck 8),qo 10 (.fa 9 0),qo 11 (ld 10),qm 12 0,qm 13 1,qo 14 (.call 14 1046 [12, 13]),qm 15 0,qo 16 (.nilck 15),qo 17 (.fa 16 1),qo 18 (.fa 17 0),qo 19 (.load 18 6 true),qo 20 (.load 5 4 true),qo 21 (.call 21 1047 [11, 14, 19, 20]),qo 22 (.ext 21 0),qo 23 (.ext 21 1),qp (.store 6 22 4),qm 7 23]) .ret))⟩
theorem w1045 {O : Oracle TT} (fuel : Nat) (h1047 : C1047 O (f1047 fuel)) (h1046 : C1046 O f1046) : C1045 (fun _ => vcF (S := SS) O j1045) (f1045 fuel) := by
 intro v1I k1J n1K s1L f1M lB vC sG vH vI sJ lK vM sN sO lP vQ vS vU vV vW vY sZ l00 l01 l02 v03 s04 s05 l06 v07 v08 v09 v0A v0B v0C s0D l0E l0F l0G v0H v0I s0J l0K v0L v0M Q R hQ h
 unfold f1045 at h
 refine ⟨nle rfl, rfl, ?_⟩
 obtain ⟨R5, h, a5, b5⟩ := sc h
 refine kX (fun σ => ∃ v6 v7 v8 s9 lA, R5 (.inr (v6, v7, v8, s9, lA)) ∧ σ = ⟨[pT 6, (7, iD v6)], [eV (.s 6) [ci v7, ci v8, .str s9, .isl .fld lA], eV (.x 0) [.isl .dfn lB, ci vC, .str sG, ci vH, ci vI, .str sJ, .isl .part lK, ci vM, .str sN, .str sO, .isl .str lP, ci vQ, ci vS, ci vU, .int .u8 vV, ci vW, ci vY, .str sZ, .isl .fld l00, .isl .two l01, .isl .lens l02, ci v03, .str s04, .str s05, .isl .str l06, ci v07, ci v08, ci v09, .int .u8 v0A, ci v0B, ci v0C, .str s0D, .isl .fld l0E, .isl .two l0F, .isl .lens l0G, ci v0H, ci v0I, .str s0J, .isl .fld l0K, ci v0L, ci v0M]]⟩) ?_ ?_
 conv => whnf
 refine ⟨?_, ?_, ?_⟩
 conv => whnf
 refine ⟨?_, ?_⟩
 refine kL [(.x 0)] (h1046 _ _ _ _ _ _ _ _ _ _ _ _ _ _ _ _ _ _ _ _ _ _ _ _ _ _ _ _ _ _ _ _ _ _ _ _ _ _ _ _ _ _ _ _ ?_ (sb h))
 rintro op1N nm1O to1P ns1Q n1R lo1S hi1T sep1U k1V n1W s1X f1Y prs1Z ks20 h
 refine kL [] (h1047 _ _ _ _ _ _ _ _ _ _ _ _ _ _ _ _ _ _ _ _ _ _ _ _ _ _ _ ?_ (sb h))
 rintro k0N n0O s0P f0Q v0R h
 conv => whnf
 exact ⟨v0R, k0N, n0O, s0P, f0Q, ss h, rfl⟩
 refine kL [(.x 0)] (h1046 _ _ _ _ _ _ _ _ _ _ _ _ _ _ _ _ _ _ _ _ _ _ _ _ _ _ _ _ _ _ _ _ _ _ _ _ _ _ _ _ _ _ _ _ ?_ (sb h))
 rintro op21 nm22 to23 ns24 n25 lo26 hi27 sep28 k29 n2A s2B f2C prs2D ks2E h
 refine kL [] (h1047 _ _ _ _ _ _ _ _ _ _ _ _ _ _ _ _ _ _ _ _ _ _ _ _ _ _ _ ?_ (sb h))
 rintro k0S n0T s0U f0V v0W h
 conv => whnf
 exact ⟨v0W, k0S, n0T, s0U, f0V, ss h, rfl⟩
 refine kL [(.x 0)] (h1046 _ _ _ _ _ _ _ _ _ _ _ _ _ _ _ _ _ _ _ _ _ _ _ _ _ _ _ _ _ _ _ _ _ _ _ _ _ _ _ _ _ _ _ _ ?_ (sb h))
 rintro op2F nm2G to2H ns2I n2J lo2K hi2L sep2M k2N n2O s2P f2Q prs2R ks2S h
 conv => whnf
 refine ⟨?_, ?_⟩
 refine kL [] (h1047 _ _ _ _ _ _ _ _ _ _ _ _ _ _ _ _ _ _ _ _ _ _ _ _ _ _ _ ?_ (sb h))
 rintro k0X n0Y s0Z f10 v11 h
 conv => whnf
 exact ⟨v11, k0X, n0Y, s0Z, f10, ss h, rfl⟩
 refine kL [] (h1047 _ _ _ _ _ _ _ _ _ _ _ _ _ _ _ _ _ _ _ _ _ _ _ _ _ _ _ ?_ (sb h))
 rintro k12 n13 s14 f15 v17 h
 conv => whnf
 exact ⟨v17, k12, n13, s14, f15, ss h, rfl⟩
 conv => whnf
 refine ⟨?_, ?_⟩
 refine kL [(.x 0)] (h1046 _ _ _ _ _ _ _ _ _ _ _ _ _ _ _ _ _ _ _ _ _ _ _ _ _ _ _ _ _ _ _ _ _ _ _ _ _ _ _ _ _ _ _ _ ?_ (sb h))
 rintro op2T nm2U to2V ns2W n2X lo2Y hi2Z sep30 k31 n32 s33 f34 prs35 ks36 h
 refine kL [] (h1047 _ _ _ _ _ _ _ _ _ _ _ _ _ _ _ _ _ _ _ _ _ _ _ _ _ _ _ ?_ (sb h))
 rintro k18 n19 s1A f1B v1C h
 conv => whnf
 exact ⟨v1C, k18, n19, s1A, f1B, ss h, rfl⟩
 refine kL [(.x 0)] (h1046 _ _ _ _ _ _ _ _ _ _ _ _ _ _ _ _ _ _ _ _ _ _ _ _ _ _ _ _ _ _ _ _ _ _ _ _ _ _ _ _ _ _ _ _ ?_ (sb h))
 rintro op37 nm38 to39 ns3A n3B lo3C hi3D sep3E k3F n3G s3H f3I prs3J ks3K h
 refine kL [] (h1047 _ _ _ _ _ _ _ _ _ _ _ _ _ _ _ _ _ _ _ _ _ _ _ _ _ _ _ ?_ (sb h))
 rintro k1D n1E s1F f1G v1H h
 conv => whnf
 exact ⟨v1H, k1D, n1E, s1F, f1G, ss h, rfl⟩
 rintro _ ⟨v6, v7, v8, s9, lA, h, rfl⟩
 replace h := b5 _ h
 exact kR [] (ND 1) (hQ _ _ _ _ _ (ss h))
def f1030_L2 (fuel : Nat) (k6 : Int) (n7 : Int) (s8 : BA) (f9 : FV) (vA : Int) (sB : BA) (vC : Int) (vF : Int) (sG : BA) (lH : PT) (vI : Int) (sJ : BA) (sK : BA) (lM : LB) (vN : Int) (vO : Int) (vP : Int) (vQ : Int) (vS : Int) (vT : Int) (sU : BA) (lV : FV) (lW : LW) (lY : List Ln) (vZ : Int) (s00 : BA) (s01 : BA) (l02 : LB) (v03 : Int) (v04 : Int) (v05 : Int) (v06 : Int) (v07 : Int) (v08 : Int) (s09 : BA) (l0A : FV) (l0B : LW) (l0C : List Ln) (l0D : PT) (k0E : Int) (n0F : Int) (s0G : BA) (f0H : FV) : Nat → Int → Option (Sum (Int × PT × Int × BA × Int × Int × BA × PT × Int × BA × BA × LB × Int × Int × Int × Int × Int × Int × BA × FV × LW × (List Ln) × Int × BA × BA × LB × Int × Int × Int × Int × Int × Int × BA × FV × LW × (List Ln) × Int × Int × BA × FV × Int × Int) (Unit))
  | 0, v5 => some (.inr ())
  | g0I + 1, v5 => (f1045 fuel v5 (V.mk k6 n7 s8 f9) l0D vA sB vC vF sG lH vI sJ sK lM vN vO vP vQ vS vT sU lV lW lY vZ s00 s01 l02 v03 v04 v05 v06 v07 v08 s09 l0A l0B l0C k0E n0F s0G f0H (0 : Int) (0 : Int)).bind fun ((.mk k0K n0L s0M f0N), v0J) => cond (v0J != 0) (none) (f1030_L2 fuel k6 n7 s8 f9 vA sB vC vF sG lH vI sJ sK lM vN vO vP vQ vS vT sU lV lW lY vZ s00 s01 l02 v03 v04 v05 v06 v07 v08 s09 l0A l0B l0C l0D k0E n0F s0G f0H g0I (v5 + 1))
def f1030 (fuel : Nat) : PT → Int → BA → Int → Int → BA → PT → Int → BA → BA → LB → Int → Int → Int → Int → Int → Int → BA → FV → LW → (List Ln) → Int → BA → BA → LB → Int → Int → Int → Int → Int → Int → BA → FV → LW → (List Ln) → V → Option (Int × PT × Int × BA × Int × Int × BA × PT × Int × BA × BA × LB × Int × Int × Int × Int × Int × Int × BA × FV × LW × (List Ln) × Int × BA × BA × LB × Int × Int × Int × Int × Int × Int × BA × FV × LW × (List Ln) × Int × Int × BA × FV × Int × Int)
  | l5, v6, s7, v8, v9, sA, lB, vI, sJ, sK, lM, vN, vO, vP, vQ, vU, vV, sW, lY, lZ, l00, v01, s02, s03, l04, v05, v06, v07, v08, v09, v0A, s0B, l0C, l0D, l0E, .mk kC nF sG fH => (f1031 fuel l5 v6 s7 v8 v9 sA lB vI sJ sK lM vN vO vP vQ vU vV sW lY lZ l00 v01 s02 s03 l04 v05 v06 v07 v08 v09 v0A s0B l0C l0D l0E).bind fun v1I => cond (v1I != 0) (none) ((f1042 fuel l5 (Tp.mk v6 s7 v8 v9 sA lB) (V.mk kC nF sG fH)).bind fun q1J => cond q1J (sbind (ο := Int × BA × Int × Int × BA × PT × Int × BA × BA × LB × Int × Int × Int × Int × Int × Int × BA × FV × LW × (List Ln) × Int × BA × BA × LB × Int × Int × Int × Int × Int × Int × BA × FV × LW × (List Ln)) ((f1043 fuel (Tp.mk v6 s7 v8 v9 sA lB)).bind fun (.mk k1K m1L lo1M hi1N p1O ps1P) => (f320 fuel (Ln.mk vI sJ sK lM vN vO vP vQ (V.mk vU vV sW lY) lZ l00)).bind fun (.mk op1Q nm1R to1S ns1T n1U lo1V hi1W sep1X (.mk k1Y n1Z s20 f21) prs22 ks23) => (f320 fuel (Ln.mk v01 s02 s03 l04 v05 v06 v07 v08 (V.mk v09 v0A s0B l0C) l0D l0E)).bind fun (.mk op24 nm25 to26 ns27 n28 lo29 hi2A sep2B (.mk k2C n2D s2E f2F) prs2G ks2H) => some (.inr (k1K, m1L, lo1M, hi1N, p1O, ps1P, op1Q, nm1R, to1S, ns1T, n1U, lo1V, hi1W, sep1X, k1Y, n1Z, s20, f21, prs22, ks23, op24, nm25, to26, ns27, n28, lo29, hi2A, sep2B, k2C, n2D, s2E, f2F, prs2G, ks2H))) (fun (v0F, s0G, v0H, v0I, s0J, l0K, v0L, s0M, s0N, l0O, v0P, v0Q, v0R, v0S, v0T, v0U, s0V, l0W, l0X, l0Y, v0Z, s10, s11, l12, v13, v14, v15, v16, v17, v18, s19, l1A, l1B, l1C) => (f1044 fuel l5).bind fun l1D => (f57 fuel (V.mk kC nF sG fH)).bind fun (.mk k1E n1F s1G f1H) => sbind (ο := Unit) (grdP ((2 : Int) ≤ 9223372036854775807) (f1030_L2 fuel kC nF sG fH v0F s0G v0H v0I s0J l0K v0L s0M s0N l0O v0P v0Q v0R v0S v0T v0U s0V l0W l0X l0Y v0Z s10 s11 l12 v13 v14 v15 v16 v17 v18 s19 l1A l1B l1C l1D k1E n1F s1G f1H ((2 : Int) - 0).toNat 0)) (fun () => some (0, l1D, v0F, s0G, v0H, v0I, s0J, l0K, v0L, s0M, s0N, l0O, v0P, v0Q, v0R, v0S, v0T, v0U, s0V, l0W, l0X, l0Y, v0Z, s10, s11, l12, v13, v14, v15, v16, v17, v18, s19, l1A, l1B, l1C, k1E, n1F, s1G, f1H, 0, 0)))) (none))
def C1030 (O : Oracle TT) (m : PT → Int → BA → Int → Int → BA → PT → Int → BA → BA → LB → Int → Int → Int → Int → Int → Int → BA → FV → LW → (List Ln) → Int → BA → BA → LB → Int → Int → Int → Int → Int → Int → BA → FV → LW → (List Ln) → V → Option (Int × PT × Int × BA × Int × Int × BA × PT × Int × BA × BA × LB × Int × Int × Int × Int × Int × Int × BA × FV × LW × (List Ln) × Int × BA × BA × LB × Int × Int × Int × Int × Int × Int × BA × FV × LW × (List Ln) × Int × Int × BA × FV × Int × Int)) : Prop :=
  ∀ l5 v6 s7 v8 v9 sA lB vC sF sG lH vI vJ vK vM vN vO sP lQ lS lT vU sV sW lY vZ v00 v01 v02 v03 v04 s05 l06 l07 l08 k09 n0A s0B f0C (Q : (Int × PT × Int × BA × Int × Int × BA × PT × Int × BA × BA × LB × Int × Int × Int × Int × Int × Int × BA × FV × LW × (List Ln) × Int × BA × BA × LB × Int × Int × Int × Int × Int × Int × BA × FV × LW × (List Ln) × Int × Int × BA × FV × Int × Int) → Prop) (R : RR) (_ : ∀ v0D l0E v0F s0G v0H v0I s0J l0K v0L s0M s0N l0O v0P v0Q v0R v0S v0T v0U s0V l0W l0X l0Y v0Z s10 s11 l12 v13 v14 v15 v16 v17 v18 s19 l1A l1B l1C v1D v1E s1F l1G v1H v1I, Q (v0D, l0E, v0F, s0G, v0H, v0I, s0J, l0K, v0L, s0M, s0N, l0O, v0P, v0Q, v0R, v0S, v0T, v0U, s0V, l0W, l0X, l0Y, v0Z, s10, s11, l12, v13, v14, v15, v16, v17, v18, s19, l1A, l1B, l1C, v1D, v1E, s1F, l1G, v1H, v1I) → R (.tup [pX 0, iD v0D]) [eV (.x 0) [.isl .dfn l0E, ci v0F, .str s0G, ci v0H, ci v0I, .str s0J, .isl .part l0K, ci v0L, .str s0M, .str s0N, .isl .str l0O, ci v0P, ci v0Q, ci v0R, .int .u8 v0S, ci v0T, ci v0U, .str s0V, .isl .fld l0W, .isl .two l0X, .isl .lens l0Y, ci v0Z, .str s10, .str s11, .isl .str l12, ci v13, ci v14, ci v15, .int .u8 v16, ci v17, ci v18, .str s19, .isl .fld l1A, .isl .two l1B, .isl .lens l1C, ci v1D, ci v1E, .str s1F, .isl .fld l1G, ci v1H, ci v1I]]) (_ : sat (m l5 v6 s7 v8 v9 sA lB vC sF sG lH vI vJ vK vM vN vO sP lQ lS lT vU sV sW lY vZ v00 v01 v02 v03 v04 s05 l06 l07 l08 (V.mk k09 n0A s0B f0C)) Q), O 1030 [.c (.isl .dfn l5), .agg [ci v6, .str s7, ci v8, ci v9, .str sA, .isl .part lB, ci vC, .str sF, .str sG, .isl .str lH, ci vI, ci vJ, ci vK, .int .u8 vM, ci vN, ci vO, .str sP, .isl .fld lQ, .isl .two lS, .isl .lens lT, ci vU, .str sV, .str sW, .isl .str lY, ci vZ, ci v00, ci v01, .int .u8 v02, ci v03, ci v04, .str s05, .isl .fld l06, .isl .two l07, .isl .lens l08], .agg [ci k09, ci n0A, .str s0B, .isl .fld f0C]] [] R
def j1030 : Fn TT := ⟨58, [.t 6, .t 7], (sr [qo 4 (.box 4 1),qo 5 (.box 5 2),qo 6 (.mv (.c (.nilp))),qo 7 (.mv (iC 0))] (.seq (sr [qm 14 0,qo 15 (.load 4 34 true),qo 16 (.call 16 1031 [14, 15]),qm 8 16] (sr [qm 17 8,qo 18 (.bin .neq .num 17 (iC 0))] (.cond 18 .dead .skip))) (.seq (sr [qm 20 0,qo 21 (.fa 4 0),
 qo 22 (.load 21 6 true),qo 23 (.load 5 4 true),qo 24 (.call 24 1042 [20, 22, 23]),qo 25 (.un .not 24)] (.cond 25 .dead .skip)) (.cut [0, 5, 9] [(.s 5), (.s 9)]
 (.drw [] (.go 0 (.go 1 (.go 3 (.go 4 (.go 6 (.go 7 (.alt 2 (.alt 5 (.alt 8 (.go 9 (.go 10 (.go 11 .nil))) 10 (.go 8 (.go 9 (.go 11 .nil)))) 10 (.go 5 (.go 8 (.go 9 (.go 11 .nil))))) 10 (.go 2 (.go 5 (.go 8 (.go 9 (.go 11 .nil)))))))))))) [11] [0, 1, 3, 4, 6, 7, 9] [qo 26 (.fa 4 0),qo 27 (.load 26 6 true),qo 28 (.call 28 1043 [27]),qo 29 (.fa 4 6),qo 30 (.load 29 14 true),
 qo 31 (.call 31 320 [30]),qo 32 (.fa 4 20),qo 33 (.load 32 14 true),qo 34 (.call 34 320 [33]),
 qo 35 (.build [.int .i64 0, .str eB, .int .i64 0, .int .i64 0, .str eB, .isl .part [], .int .i64 0, .str eB, .str eB, .isl .str [], .int .i64 0, .int .i64 0, .int .i64 0, .int .u8 0, .int .i64 0, .int .i64 0, .str eB, .isl .fld [], .isl .two [], .isl .lens [], .int .i64 0, .str eB, .str eB, .isl .str [], .int .i64 0, .int .i64 0, .int .i64 0, .int .u8 0, .int .i64 0, .int .i64 0, .str eB, .isl .fld [], .isl .two [], .isl .lens []] [((0, 6), 28), ((6, 14), 31), ((20, 14), 34)]),
 qo 9 (.alloc 9 [.int .i64 0, .str eB, .int .i64 0, .int .i64 0, .str eB, .isl .part [], .int .i64 0, .str eB, .str eB, .isl .str [], .int .i64 0, .int .i64 0, .int .i64 0, .int .u8 0, .int .i64 0, .int .i64 0, .str eB, .isl .fld [], .isl .two [], .isl .lens [], .int .i64 0, .str eB, .str eB, .isl .str [], .int .i64 0, .int .i64 0, .int .i64 0, .int .u8 0, .int .i64 0, .int .i64 0, .str eB, .isl .fld [], .isl .two [], .isl .lens []]),
 qp (.store 9 35 34)]) (.seq (.drw [] (ol [0, 2, 3, 1, 4, 5, 6, 7]) [] [0, 2, 3, 5, 7] [qm 36 0,qo 37 (.call 37 1044 [36]),qo 38 (.load 9 34 true),qo 39 (.load 5 4 true),qo 40 (.call 40 57 [39]),
 qo 41 (.build [.isl .dfn [], .int .i64 0, .str eB, .int .i64 0, .int .i64 0, .str eB, .isl .part [], .int .i64 0, .str eB, .str eB, .isl .str [], .int .i64 0, .int .i64 0, .int .i64 0, .int .u8 0, .int .i64 0, .int .i64 0, .str eB, .isl .fld [], .isl .two [], .isl .lens [], .int .i64 0, .str eB, .str eB, .isl .str [], .int .i64 0, .int .i64 0, .int .i64 0, .int .u8 0, .int .i64 0, .int .i64 0, .str eB, .isl .fld [], .isl .two [], .isl .lens [], .int .i64 0, .int .i64 0, .str eB, .isl .fld [], .int .i64 0, .int .i64 0] [((0, 1), 37), ((1, 34), 38), ((35, 4), 40)]),
 qo 42 (.box 42 41),qm 10 42]) (.cut [10] [(.s 42)] (sr [qo 43 (.mv (iC 0))] (.block 0 (.loop (.keep [5, 10, 43] [(.s 5), (.s 42)] (.aft (sr [qo 44 (.bin .lss .num 43 (iC 2))] (.seq (.cond 44 .skip (.exit 0)) (.seq (.block 1 (sr [qm 45 43,qm 11 45] (sr [qm 47 10,qm 48 11,qo 49 (.load 5 4 true),qo 50 (.call 50 1045 [47, 48, 49]),
 qm 46 50,qo 51 (.ext 46 0),qo 52 (.ext 46 1),qo 12 (.alloc 12 zV),qp (.store 12 51 4),qm 13 52] (sr [qm 53 13,qo 54 (.bin .neq .num 53 (iC 0))] (.cond 54 .dead .skip))))) (.reg [qo 56 (.bin .add .num 43 (iC 1)),qm 43 56])))) [.keep [5, 10, 43] [(.s 5), (.s 42)]]))))) (sr [qm 57 10,qm 6 57,qo 7 (.mv (iC 0))] .ret)))))))⟩
theorem w1030 {O : Oracle TT} (fuel : Nat) (h1042 : C1042 O (f1042 fuel)) (h57 : C57 O (f57 fuel)) (h1043 : C1043 O (f1043 fuel)) (h320 : C320 O (f320 fuel)) (h1031 : C1031 O (f1031 fuel)) (h1044 : C1044 O (f1044 fuel)) (h1045 : C1045 O (f1045 fuel)) : C1030 (fun _ => vcF (S := SS) O j1030) (f1030 fuel) := by
 intro l1B v3W s3X v3Y v3Z s40 l41 v42 s43 s44 l45 v46 v47 v48 v49 v4A v4B s4C l4D l4E l4F v4G s4H s4I l4J v4K v4L v4M v4N v4O v4P s4Q l4R l4S l4T k0H n0I s0J f0K Q R hQ h
 unfold f1030 at h
 refine ⟨nle rfl, rfl, ?_⟩
 refine kL [] (h1031 _ _ _ _ _ _ _ _ _ _ _ _ _ _ _ _ _ _ _ _ _ _ _ _ _ _ _ _ _ _ _ _ _ _ _ _ _ ?_ (sb h))
 rintro v4U h
 refine kc h ?_ ?_ <;> intro h
 refine kL [] (h1042 _ _ _ _ _ _ _ _ _ _ _ _ _ ?_ (sb h))
 rintro q1C h
 cases q1C
 replace h := cf h
 exact (sat_none h).elim
 replace h := ct h
 obtain ⟨R0G, h, a0G, b0G⟩ := sc h
 refine kX (fun σ => ∃ v8 s9 vA vB sC lG vH sI sJ lK vM vN vO vP vQ vU sV lW lY lZ v00 s01 s02 l03 v04 v05 v06 v07 v08 v09 s0A l0B l0C l0D, R0G (.inr (v8, s9, vA, vB, sC, lG, vH, sI, sJ, lK, vM, vN, vO, vP, vQ, vU, sV, lW, lY, lZ, v00, s01, s02, l03, v04, v05, v06, v07, v08, v09, s0A, l0B, l0C, l0D)) ∧ σ = ⟨[(0, .c (.isl .dfn l1B)), pT 5, pT 9], [eV (.s 5) [ci k0H, ci n0I, .str s0J, .isl .fld f0K], eV (.s 9) [ci v8, .str s9, ci vA, ci vB, .str sC, .isl .part lG, ci vH, .str sI, .str sJ, .isl .str lK, ci vM, ci vN, ci vO, .int .u8 vP, ci vQ, ci vU, .str sV, .isl .fld lW, .isl .two lY, .isl .lens lZ, ci v00, .str s01, .str s02, .isl .str l03, ci v04, ci v05, ci v06, .int .u8 v07, ci v08, ci v09, .str s0A, .isl .fld l0B, .isl .two l0C, .isl .lens l0D]]⟩) ?_ ?_
 conv => whnf
 refine ⟨?_, ?_⟩
 refine kL [] (h1043 _ _ _ _ _ _ _ _ ?_ (sb h))
 rintro k0L m0M lo0N hi0O p0P ps0Q h
 conv => whnf
 refine ⟨?_, ?_⟩
 refine kL [] (h320 _ _ _ _ _ _ _ _ _ _ _ _ _ _ _ _ ?_ (sb h))
 rintro op0W nm0X to0Y ns0Z n10 lo11 hi12 sep13 k14 n15 s17 f18 prs19 ks1A h
 conv => whnf
 refine ⟨?_, ?_⟩
 refine kL [] (h320 _ _ _ _ _ _ _ _ _ _ _ _ _ _ _ _ ?_ (sb h))
 rintro op1D nm1E to1F ns1G n1H lo1I hi1J sep1K k1L n1M s1N f1O prs1P ks1Q h
 conv => whnf
 exact ⟨k0L, m0M, lo0N, hi0O, p0P, ps0Q, op0W, nm0X, to0Y, ns0Z, n10, lo11, hi12, sep13, k14, n15, s17, f18, prs19, ks1A, op1D, nm1E, to1F, ns1G, n1H, lo1I, hi1J, sep1K, k1L, n1M, s1N, f1O, prs1P, ks1Q, ss h, rfl⟩
 refine kL [] (h320 _ _ _ _ _ _ _ _ _ _ _ _ _ _ _ _ ?_ (sb h))
 rintro op1R nm1S to1T ns1U n1V lo1W hi1X sep1Y k1Z n20 s21 f22 prs23 ks24 h
 conv => whnf
 exact ⟨k0L, m0M, lo0N, hi0O, p0P, ps0Q, op0W, nm0X, to0Y, ns0Z, n10, lo11, hi12, sep13, k14, n15, s17, f18, prs19, ks1A, op1R, nm1S, to1T, ns1U, n1V, lo1W, hi1X, sep1Y, k1Z, n20, s21, f22, prs23, ks24, ss h, rfl⟩
 refine kL [] (h320 _ _ _ _ _ _ _ _ _ _ _ _ _ _ _ _ ?_ (sb h))
 rintro op25 nm26 to27 ns28 n29 lo2A hi2B sep2C k2D n2E s2F f2G prs2H ks2I h
 refine kL [] (h320 _ _ _ _ _ _ _ _ _ _ _ _ _ _ _ _ ?_ (sb h))
 rintro op2J nm2K to2L ns2M n2N lo2O hi2P sep2Q k2R n2S s2T f2U prs2V ks2W h
 conv => whnf
 exact ⟨k0L, m0M, lo0N, hi0O, p0P, ps0Q, op25, nm26, to27, ns28, n29, lo2A, hi2B, sep2C, k2D, n2E, s2F, f2G, prs2H, ks2I, op2J, nm2K, to2L, ns2M, n2N, lo2O, hi2P, sep2Q, k2R, n2S, s2T, f2U, prs2V, ks2W, ss h, rfl⟩
 refine kL [] (h1043 _ _ _ _ _ _ _ _ ?_ (sb h))
 rintro k2X m2Y lo2Z hi30 p31 ps32 h
 refine kL [] (h320 _ _ _ _ _ _ _ _ _ _ _ _ _ _ _ _ ?_ (sb h))
 rintro op33 nm34 to35 ns36 n37 lo38 hi39 sep3A k3B n3C s3D f3E prs3F ks3G h
 refine kL [] (h320 _ _ _ _ _ _ _ _ _ _ _ _ _ _ _ _ ?_ (sb h))
 rintro op3H nm3I to3J ns3K n3L lo3M hi3N sep3O k3P n3Q s3R f3S prs3T ks3U h
 conv => whnf
 exact ⟨k2X, m2Y, lo2Z, hi30, p31, ps32, op33, nm34, to35, ns36, n37, lo38, hi39, sep3A, k3B, n3C, s3D, f3E, prs3F, ks3G, op3H, nm3I, to3J, ns3K, n3L, lo3M, hi3N, sep3O, k3P, n3Q, s3R, f3S, prs3T, ks3U, ss h, rfl⟩
 rintro _ ⟨v8, s9, vA, vB, sC, lG, vH, sI, sJ, lK, vM, vN, vO, vP, vQ, vU, sV, lW, lY, lZ, v00, s01, s02, l03, v04, v05, v06, v07, v08, v09, s0A, l0B, l0C, l0D, h, rfl⟩
 replace h := b0G _ h
 refine kL [] (h1044 _ _ _ ?_ (sb h))
 rintro l0R h
 refine kL [] (h57 _ _ _ _ _ _ ?_ (sb h))
 rintro k0S n0T s0U f0V h
 obtain ⟨R0E, h, a0E, b0E⟩ := sc h
 refine kX (fun σ => R0E (.inr ()) ∧ σ = ⟨[(10, pS 42)], [eV (.s 42) [.isl .dfn l0R, ci v8, .str s9, ci vA, ci vB, .str sC, .isl .part lG, ci vH, .str sI, .str sJ, .isl .str lK, ci vM, ci vN, ci vO, .int .u8 vP, ci vQ, ci vU, .str sV, .isl .fld lW, .isl .two lY, .isl .lens lZ, ci v00, .str s01, .str s02, .isl .str l03, ci v04, ci v05, ci v06, .int .u8 v07, ci v08, ci v09, .str s0A, .isl .fld l0B, .isl .two l0C, .isl .lens l0D, ci k0S, ci n0T, .str s0U, .isl .fld f0V, ci 0, ci 0]]⟩) ?_ ?_
 obtain ⟨hN3V, h⟩ := sat_grdP h
 refine kX (fun σ n => ∃ (f5 : Nat) (v7 : Int) (z : Int), f5 = n ∧ f5 = (2 - v7).toNat ∧ 0 ≤ v7 ∧ v7 = z ∧ sat (f1030_L2 fuel k0H n0I s0J f0K v8 s9 vA vB sC lG vH sI sJ lK vM vN vO vP vQ vU sV lW lY lZ v00 s01 s02 l03 v04 v05 v06 v07 v08 v09 s0A l0B l0C l0D l0R k0S n0T s0U f0V f5 v7) R0E ∧ σ.keep [5, 10, 43] [(.s 5), (.s 42)] = ⟨[pT 5, (10, pS 42), (43, iD z)], [eV (.s 5) [ci k0H, ci n0I, .str s0J, .isl .fld f0K], eV (.s 42) [.isl .dfn l0R, ci v8, .str s9, ci vA, ci vB, .str sC, .isl .part lG, ci vH, .str sI, .str sJ, .isl .str lK, ci vM, ci vN, ci vO, .int .u8 vP, ci vQ, ci vU, .str sV, .isl .fld lW, .isl .two lY, .isl .lens lZ, ci v00, .str s01, .str s02, .isl .str l03, ci v04, ci v05, ci v06, .int .u8 v07, ci v08, ci v09, .str s0A, .isl .fld l0B, .isl .two l0C, .isl .lens l0D, ci k0S, ci n0T, .str s0U, .isl .fld f0V, ci 0, ci 0]]⟩) ⟨_, _, 0, _, rfl, rfl, (by decide), rfl, h, rfl⟩ ?_
 rintro σ n ⟨f5, v7, _, rfl, hf5, hpf5, rfl, h, hσ⟩
 refine kk hσ ?_
 intro t0F (ht0F : t0F = decide (v7 < 2))
 cases t0F
 obtain rfl := il_nil hf5 ht0F
 rw [f1030_L2] at h
 conv => whnf
 exact ⟨ss h, rfl⟩
 obtain ⟨g6, rfl, hwg6, hpg6, hfg6⟩ := il_cons hf5 hpf5 ht0F hN3V
 rw [f1030_L2] at h
 refine kL [(.s 42)] (h1045 _ _ _ _ _ _ _ _ _ _ _ _ _ _ _ _ _ _ _ _ _ _ _ _ _ _ _ _ _ _ _ _ _ _ _ _ _ _ _ _ _ _ _ _ _ _ _ _ ?_ (sb h))
 rintro k4V n4W s4X f4Y v4Z h
 refine kc h ?_ ?_ <;> intro h
 conv => whnf
 exact ⟨g6, nls, g6, v7 + 1, _, rfl, hfg6, hpg6, hwg6.symm, h, rfl⟩
 exact (sat_none h).elim
 rintro _ ⟨h, rfl⟩
 replace h := b0E _ h
 exact kR [(.s 42)] (ND 0) (hQ _ _ _ _ _ _ _ _ _ _ _ _ _ _ _ _ _ _ _ _ _ _ _ _ _ _ _ _ _ _ _ _ _ _ _ _ _ _ _ _ _ _ (ss h))
 exact (sat_none h).elim
def f1058 (fuel : Nat) : Int → PT → Int → BA → Int → Int → BA → PT → Int → BA → BA → LB → Int → Int → Int → Int → Int → Int → BA → FV → LW → (List Ln) → Int → BA → BA → LB → Int → Int → Int → Int → Int → Int → BA → FV → LW → (List Ln) → Int → Int → BA → FV → Int → Int → Option (V × Int)
  | v5, lA, vB, sC, vF, vG, sH, lI, vJ, sK, sM, lN, vO, vP, vQ, vS, vT, vU, sV, lW, lY, lZ, v00, s01, s02, l03, v04, v05, v06, v07, v08, v09, s0A, l0B, l0C, l0D, v6, v7, s8, l9, v0E, v0F => cond (v5 != 0) (cond (v5 != 1) (some ((V.mk 0 0 (⟨#[]⟩ : BA) []), 1)) ((f1045 fuel v5 (V.mk v6 v7 s8 l9) lA vB sC vF vG sH lI vJ sK sM lN vO vP vQ vS vT vU sV lW lY lZ v00 s01 s02 l03 v04 v05 v06 v07 v08 v09 s0A l0B l0C l0D v6 v7 s8 l9 v0E v0F).bind fun ((.mk k0G n0H s0I f0J), v0K) => some ((V.mk k0G n0H s0I f0J), v0K))) ((f1045 fuel v5 (V.mk v6 v7 s8 l9) lA vB sC vF vG sH lI vJ sK sM lN vO vP vQ vS vT vU sV lW lY lZ v00 s01 s02 l03 v04 v05 v06 v07 v08 v09 s0A l0B l0C l0D v6 v7 s8 l9 v0E v0F).bind fun ((.mk k0L n0M s0N f0O), v0P) => some ((V.mk k0L n0M s0N f0O), v0P))
def C1058 (O : Oracle TT) (m : Int → PT → Int → BA → Int → Int → BA → PT → Int → BA → BA → LB → Int → Int → Int → Int → Int → Int → BA → FV → LW → (List Ln) → Int → BA → BA → LB → Int → Int → Int → Int → Int → Int → BA → FV → LW → (List Ln) → Int → Int → BA → FV → Int → Int → Option (V × Int)) : Prop :=
  ∀ v0F l5 v6 s7 v8 v9 sA lB vC sF sG lH vI vJ vK vM vN vO sP lQ lS lT vU sV sW lY vZ v00 v01 v02 v03 v04 s05 l06 l07 l08 v09 v0A s0B l0C v0D v0E (Q : (V × Int) → Prop) (R : RR) (_ : ∀ k0G n0H s0I f0J v0K, Q ((V.mk k0G n0H s0I f0J), v0K) → R (.tup [.agg [ci k0G, ci n0H, .str s0I, .isl .fld f0J], iD v0K]) [eV (.x 0) [.isl .dfn l5, ci v6, .str s7, ci v8, ci v9, .str sA, .isl .part lB, ci vC, .str sF, .str sG, .isl .str lH, ci vI, ci vJ, ci vK, .int .u8 vM, ci vN, ci vO, .str sP, .isl .fld lQ, .isl .two lS, .isl .lens lT, ci vU, .str sV, .str sW, .isl .str lY, ci vZ, ci v00, ci v01, .int .u8 v02, ci v03, ci v04, .str s05, .isl .fld l06, .isl .two l07, .isl .lens l08, ci v09, ci v0A, .str s0B, .isl .fld l0C, ci v0D, ci v0E]]) (_ : sat (m v0F l5 v6 s7 v8 v9 sA lB vC sF sG lH vI vJ vK vM vN vO sP lQ lS lT vU sV sW lY vZ v00 v01 v02 v03 v04 s05 l06 l07 l08 v09 v0A s0B l0C v0D v0E) Q), O 1058 [pX 0, iD v0F] [eV (.x 0) [.isl .dfn l5, ci v6, .str s7, ci v8, ci v9, .str sA, .isl .part lB, ci vC, .str sF, .str sG, .isl .str lH, ci vI, ci vJ, ci vK, .int .u8 vM, ci vN, ci vO, .str sP, .isl .fld lQ, .isl .two lS, .isl .lens lT, ci vU, .str sV, .str sW, .isl .str lY, ci vZ, ci v00, ci v01, .int .u8 v02, ci v03, ci v04, .str s05, .isl .fld l06, .isl .two l07, .isl .lens l08, ci v09, ci v0A, .str s0B, .isl .fld l0C, ci v0D, ci v0E]] R
def j1058 : Fn TT := ⟨22, [.cell 4 4 true, .t 5], (sr [qo 4 (.alloc 4 zV),qo 5 (.mv (iC 0))] (.seq (sr [qm 6 1,qo 7 (.bin .neq .num 6 (iC 0)),qm 8 7,qg 8 9 (.mv 1),qg 8 10 (.bin .neq .num 9 (iC 1)),qo 11 (.pick 8 10 bF)] (.cond 11 (sr [qo 12 (.build zV []),qp (.store 4 12 4),qo 5 (.mv (iC 1))] .ret) .skip)) (sr [qm 13 0,
 qm 14 1,qm 15 0,qo 16 (.nilck 15),qo 17 (.fa 16 35),qo 18 (.load 17 4 true),qo 19 (.call 19 1045 [13, 14, 18]),qo 20 (.ext 19 0),qo 21 (.ext 19 1),qp (.store 4 20 4),qm 5 21] .ret)))⟩
theorem w1058 {O : Oracle TT} (fuel : Nat) (h1045 : C1045 O (f1045 fuel)) : C1058 (fun _ => vcF (S := SS) O j1058) (f1058 fuel) := by
 intro v5 l6 v7 s8 v9 vA sB lC vF sG sH lI vJ vK vM vN vO vP sQ lS lT lU vV sW sY lZ v00 v01 v02 v03 v04 v05 s06 l07 l08 l09 v0A v0B s0C l0D v0E v0F Q R hQ h
 unfold f1058 at h
 refine ⟨nle rfl, rfl, ?_⟩
 refine kc h ?_ ?_ <;> intro h
 refine kL [(.x 0)] (h1045 _ _ _ _ _ _ _ _ _ _ _ _ _ _ _ _ _ _ _ _ _ _ _ _ _ _ _ _ _ _ _ _ _ _ _ _ _ _ _ _ _ _ _ _ _ _ _ _ ?_ (sb h))
 rintro k0G n0H s0I f0J v0K h
 exact kR [] (ND 1) (hQ _ _ _ _ _ (ss h))
 refine kc h ?_ ?_ <;> intro h
 refine kL [(.x 0)] (h1045 _ _ _ _ _ _ _ _ _ _ _ _ _ _ _ _ _ _ _ _ _ _ _ _ _ _ _ _ _ _ _ _ _ _ _ _ _ _ _ _ _ _ _ _ _ _ _ _ ?_ (sb h))
 rintro k0L n0M s0N f0O v0P h
 exact kR [] (ND 1) (hQ _ _ _ _ _ (ss h))
 exact kR [] (ND 1) (hQ _ _ _ _ _ (ss h))
def f1060 (fuel : Nat) : Int → V → V → PT → Int → BA → Int → Int → BA → PT → Int → BA → BA → LB → Int → Int → Int → Int → Int → Int → BA → FV → LW → (List Ln) → Int → BA → BA → LB → Int → Int → Int → Int → Int → Int → BA → FV → LW → (List Ln) → Int → Int → BA → FV → Int → Int → Option (V × Int)
  | vC, .mk kF nG sH fI, .mk kJ nK sM fN, l5, v6, s7, v8, v9, sA, lB, vO, sP, sQ, lS, vT, vU, vV, vW, vY, vZ, s00, l01, l02, l03, v04, s05, s06, l07, v08, v09, v0A, v0B, v0C, v0D, s0E, l0F, l0G, l0H, v0I, v0J, s0K, l0L, v0M, v0N => sbind (ο := Int × Int × Int × BA × FV) ((f1046 vC l5 v6 s7 v8 v9 sA lB vO sP sQ lS vT vU vV vW vY vZ s00 l01 l02 l03 v04 s05 s06 l07 v08 v09 v0A v0B v0C v0D s0E l0F l0G l0H v0I v0J s0K l0L v0M v0N).bind fun (.mk op0O nm0P to0Q ns0R n0S lo0T hi0U sep0V (.mk k0W n0X s0Y f0Z) prs10 ks11) => (f1061 fuel l5 (Ln.mk op0O nm0P to0Q ns0R n0S lo0T hi0U sep0V (V.mk k0W n0X s0Y f0Z) prs10 ks11) (Tp.mk v6 s7 v8 v9 sA lB) (V.mk kJ nK sM fN) (V.mk kF nG sH fI)).bind fun ((.mk k12 n13 s14 f15), v16) => some (.inr (v16, k12, n13, s14, f15))) (fun (v17, v18, v19, s1A, l1B) => some ((V.mk v18 v19 s1A l1B), v17))
def C1060 (O : Oracle TT) (m : Int → V → V → PT → Int → BA → Int → Int → BA → PT → Int → BA → BA → LB → Int → Int → Int → Int → Int → Int → BA → FV → LW → (List Ln) → Int → BA → BA → LB → Int → Int → Int → Int → Int → Int → BA → FV → LW → (List Ln) → Int → Int → BA → FV → Int → Int → Option (V × Int)) : Prop :=
  ∀ v0F k0G n0H s0I f0J k0K n0L s0M f0N l5 v6 s7 v8 v9 sA lB vC sF sG lH vI vJ vK vM vN vO sP lQ lS lT vU sV sW lY vZ v00 v01 v02 v03 v04 s05 l06 l07 l08 v09 v0A s0B l0C v0D v0E (Q : (V × Int) → Prop) (R : RR) (_ : ∀ k0O n0P s0Q f0R v0S, Q ((V.mk k0O n0P s0Q f0R), v0S) → R (.tup [.agg [ci k0O, ci n0P, .str s0Q, .isl .fld f0R], iD v0S]) [eV (.x 0) [.isl .dfn l5, ci v6, .str s7, ci v8, ci v9, .str sA, .isl .part lB, ci vC, .str sF, .str sG, .isl .str lH, ci vI, ci vJ, ci vK, .int .u8 vM, ci vN, ci vO, .str sP, .isl .fld lQ, .isl .two lS, .isl .lens lT, ci vU, .str sV, .str sW, .isl .str lY, ci vZ, ci v00, ci v01, .int .u8 v02, ci v03, ci v04, .str s05, .isl .fld l06, .isl .two l07, .isl .lens l08, ci v09, ci v0A, .str s0B, .isl .fld l0C, ci v0D, ci v0E]]) (_ : sat (m v0F (V.mk k0G n0H s0I f0J) (V.mk k0K n0L s0M f0N) l5 v6 s7 v8 v9 sA lB vC sF sG lH vI vJ vK vM vN vO sP lQ lS lT vU sV sW lY vZ v00 v01 v02 v03 v04 s05 l06 l07 l08 v09 v0A s0B l0C v0D v0E) Q), O 1060 [pX 0, iD v0F, .agg [ci k0G, ci n0H, .str s0I, .isl .fld f0J], .agg [ci k0K, ci n0L, .str s0M, .isl .fld f0N]] [eV (.x 0) [.isl .dfn l5, ci v6, .str s7, ci v8, ci v9, .str sA, .isl .part lB, ci vC, .str sF, .str sG, .isl .str lH, ci vI, ci vJ, ci vK, .int .u8 vM, ci vN, ci vO, .str sP, .isl .fld lQ, .isl .two lS, .isl .lens lT, ci vU, .str sV, .str sW, .isl .str lY, ci vZ, ci v00, ci v01, .int .u8 v02, ci v03, ci v04, .str s05, .isl .fld l06, .isl .two l07, .isl .lens l08, ci v09, ci v0A, .str s0B, .isl .fld l0C, ci v0D, ci v0E]] R
def j1060 : Fn TT := ⟨27, [.cell 8 4 true, .t 9], (sr [qo 6 (.box 6 2),qo 7 (.box 7 3),qo 8 (.alloc 8 zV),qo 9 (.mv (iC 0))] (.cut [8, 9] [(.s 8), (.x 0)]
 (.drw [(.x 0)] (.go 0 (.go 1 (.go 2 (.go 4 (.go 5 (.go 7 (.go 8 (.go 9 (.go 10 (.go 12 (.go 13 (.alt3 3 (.alt 6 (.go 11 (.go 14 (.go 15 (.go 16 (.go 17 (.go 18 .nil)))))) 11 (.go 6 (.go 14 (.go 15 (.go 16 (.go 17 (.go 18 .nil))))))) 6 (.alt 3 (.go 11 (.go 14 (.go 15 (.go 16 (.go 17 (.go 18 .nil)))))) 11 (.go 3 (.go 14 (.go 15 (.go 16 (.go 17 (.go 18 .nil))))))) 11 (.alt 3 (.go 6 (.go 14 (.go 15 (.go 16 (.go 17 (.go 18 .nil)))))) 6 (.go 3 (.go 14 (.go 15 (.go 16 (.go 17 (.go 18 .nil))))))))))))))))))) [17] [0, 1, 2, 4, 5, 7, 8, 9, 10, 12, 13, 15, 16, 18] [qm 10 0,
 qo 11 (.nilck 10),qo 12 (.fa 11 0),qo 13 (ld 12),qm 14 0,qm 15 1,qo 16 (.call 16 1046 [14, 15]),qm 17 0,qo 18 (.nilck 17),qo 19 (.fa 18 1),qo 20 (.fa 19 0),qo 21 (.load 20 6 true),qo 22 (.load 7 4 true),qo 23 (.load 6 4 true),qo 24 (.call 24 1061 [13, 16, 21, 22, 23]),qo 25 (.ext 24 0),qo 26 (.ext 24 1),qp (.store 8 25 4),qm 9 26]) .ret))⟩
theorem w1060 {O : Oracle TT} (fuel : Nat) (h1061 : C1061 O (f1061 fuel)) (h1046 : C1046 O f1046) : C1060 (fun _ => vcF (S := SS) O j1060) (f1060 fuel) := by
 intro v1I k1J n1K s1L f1M k1N n1O s1P f1Q lB vC sG vH vI sJ lK vM sN sO lP vQ vS vU vV vW vY sZ l00 l01 l02 v03 s04 s05 l06 v07 v08 v09 v0A v0B v0C s0D l0E l0F l0G v0H v0I s0J l0K v0L v0M Q R hQ h
 unfold f1060 at h
 refine ⟨nle rfl, rfl, ?_⟩
 obtain ⟨R5, h, a5, b5⟩ := sc h
 refine kX (fun σ => ∃ v6 v7 v8 s9 lA, R5 (.inr (v6, v7, v8, s9, lA)) ∧ σ = ⟨[pT 8, (9, iD v6)], [eV (.s 8) [ci v7, ci v8, .str s9, .isl .fld lA], eV (.x 0) [.isl .dfn lB, ci vC, .str sG, ci vH, ci vI, .str sJ, .isl .part lK, ci vM, .str sN, .str sO, .isl .str lP, ci vQ, ci vS, ci vU, .int .u8 vV, ci vW, ci vY, .str sZ, .isl .fld l00, .isl .two l01, .isl .lens l02, ci v03, .str s04, .str s05, .isl .str l06, ci v07, ci v08, ci v09, .int .u8 v0A, ci v0B, ci v0C, .str s0D, .isl .fld l0E, .isl .two l0F, .isl .lens l0G, ci v0H, ci v0I, .str s0J, .isl .fld l0K, ci v0L, ci v0M]]⟩) ?_ ?_
 conv => whnf
 refine ⟨?_, ?_, ?_⟩
 conv => whnf
 refine ⟨?_, ?_⟩
 refine kL [(.x 0)] (h1046 _ _ _ _ _ _ _ _ _ _ _ _ _ _ _ _ _ _ _ _ _ _ _ _ _ _ _ _ _ _ _ _ _ _ _ _ _ _ _ _ _ _ _ _ ?_ (sb h))
 rintro op1R nm1S to1T ns1U n1V lo1W hi1X sep1Y k1Z n20 s21 f22 prs23 ks24 h
 refine kL [] (h1061 _ _ _ _ _ _ _ _ _ _ _ _ _ _ _ _ _ _ _ _ _ _ _ _ _ _ _ _ _ _ _ ?_ (sb h))
 rintro k0N n0O s0P f0Q v0R h
 conv => whnf
 exact ⟨v0R, k0N, n0O, s0P, f0Q, ss h, rfl⟩
 refine kL [(.x 0)] (h1046 _ _ _ _ _ _ _ _ _ _ _ _ _ _ _ _ _ _ _ _ _ _ _ _ _ _ _ _ _ _ _ _ _ _ _ _ _ _ _ _ _ _ _ _ ?_ (sb h))
 rintro op25 nm26 to27 ns28 n29 lo2A hi2B sep2C k2D n2E s2F f2G prs2H ks2I h
 refine kL [] (h1061 _ _ _ _ _ _ _ _ _ _ _ _ _ _ _ _ _ _ _ _ _ _ _ _ _ _ _ _ _ _ _ ?_ (sb h))
 rintro k0S n0T s0U f0V v0W h
 conv => whnf
 exact ⟨v0W, k0S, n0T, s0U, f0V, ss h, rfl⟩
 refine kL [(.x 0)] (h1046 _ _ _ _ _ _ _ _ _ _ _ _ _ _ _ _ _ _ _ _ _ _ _ _ _ _ _ _ _ _ _ _ _ _ _ _ _ _ _ _ _ _ _ _ ?_ (sb h))
 rintro op2J nm2K to2L ns2M n2N lo2O hi2P sep2Q k2R n2S s2T f2U prs2V ks2W h
 conv => whnf
 refine ⟨?_, ?_⟩
 refine kL [] (h1061 _ _ _ _ _ _ _ _ _ _ _ _ _ _ _ _ _ _ _ _ _ _ _ _ _ _ _ _ _ _ _ ?_ (sb h))
 rintro k0X n0Y s0Z f10 v11 h
 conv => whnf
 exact ⟨v11, k0X, n0Y, s0Z, f10, ss h, rfl⟩
 refine kL [] (h1061 _ _ _ _ _ _ _ _ _ _ _ _ _ _ _ _ _ _ _ _ _ _ _ _ _ _ _ _ _ _ _ ?_ (sb h))
 rintro k12 n13 s14 f15 v17 h
 conv => whnf
 exact ⟨v17, k12, n13, s14, f15, ss h, rfl⟩
 conv => whnf
 refine ⟨?_, ?_⟩
 refine kL [(.x 0)] (h1046 _ _ _ _ _ _ _ _ _ _ _ _ _ _ _ _ _ _ _ _ _ _ _ _ _ _ _ _ _ _ _ _ _ _ _ _ _ _ _ _ _ _ _ _ ?_ (sb h))
 rintro op2X nm2Y to2Z ns30 n31 lo32 hi33 sep34 k35 n36 s37 f38 prs39 ks3A h
 refine kL [] (h1061 _ _ _ _ _ _ _ _ _ _ _ _ _ _ _ _ _ _ _ _ _ _ _ _ _ _ _ _ _ _ _ ?_ (sb h))
 rintro k18 n19 s1A f1B v1C h
 conv => whnf
 exact ⟨v1C, k18, n19, s1A, f1B, ss h, rfl⟩
 refine kL [(.x 0)] (h1046 _ _ _ _ _ _ _ _ _ _ _ _ _ _ _ _ _ _ _ _ _ _ _ _ _ _ _ _ _ _ _ _ _ _ _ _ _ _ _ _ _ _ _ _ ?_ (sb h))
 rintro op3B nm3C to3D ns3E n3F lo3G hi3H sep3I k3J n3K s3L f3M prs3N ks3O h
 refine kL [] (h1061 _ _ _ _ _ _ _ _ _ _ _ _ _ _ _ _ _ _ _ _ _ _ _ _ _ _ _ _ _ _ _ ?_ (sb h))
 rintro k1D n1E s1F f1G v1H h
 conv => whnf
 exact ⟨v1H, k1D, n1E, s1F, f1G, ss h, rfl⟩
 rintro _ ⟨v6, v7, v8, s9, lA, h, rfl⟩
 replace h := b5 _ h
 exact kR [] (ND 1) (hQ _ _ _ _ _ (ss h))
def f1059_L2 (fuel : Nat) (lA : PT) (vB : Int) (sC : BA) (vF : Int) (vG : Int) (sH : BA) (lI : PT) (vJ : Int) (sK : BA) (sM : BA) (lN : LB) (vO : Int) (vP : Int) (vQ : Int) (vS : Int) (vT : Int) (vU : Int) (sV : BA) (lW : FV) (lY : LW) (lZ : List Ln) (v00 : Int) (s01 : BA) (s02 : BA) (l03 : LB) (v04 : Int) (v05 : Int) (v06 : Int) (v07 : Int) (v08 : Int) (v09 : Int) (s0A : BA) (l0B : FV) (l0C : LW) (l0D : List Ln) (v5 : Int) (v6 : Int) (s7 : BA) (l8 : FV) (v0E : Int) (v0F : Int) : Nat → Int → Option (Sum (Bool) (Unit))
  | 0, v9 => some (.inr ())
  | g0G + 1, v9 => (f1045 fuel v9 (V.mk v5 v6 s7 l8) lA vB sC vF vG sH lI vJ sK sM lN vO vP vQ vS vT vU sV lW lY lZ v00 s01 s02 l03 v04 v05 v06 v07 v08 v09 s0A l0B l0C l0D v5 v6 s7 l8 v0E v0F).bind fun ((.mk k0H n0I s0J f0K), v0L) => cond (v0L != 0) (none) (sbind (ο := Int × Int × Int × BA × FV) ((f1060 fuel v9 (V.mk v5 v6 s7 l8) (V.mk k0H n0I s0J f0K) lA vB sC vF vG sH lI vJ sK sM lN vO vP vQ vS vT vU sV lW lY lZ v00 s01 s02 l03 v04 v05 v06 v07 v08 v09 s0A l0B l0C l0D v5 v6 s7 l8 v0E v0F).bind fun ((.mk k0M n0N s0O f0P), v0Q) => some (.inr (v0Q, k0M, n0N, s0O, f0P))) (fun (v0R, v0S, v0T, s0U, l0V) => cond (v0R != 0) (lft (some false)) ((f11 fuel (V.mk v0S v0T s0U l0V) (V.mk v5 v6 s7 l8)).bind fun q0W => cond q0W (f1059_L2 fuel lA vB sC vF vG sH lI vJ sK sM lN vO vP vQ vS vT vU sV lW lY lZ v00 s01 s02 l03 v04 v05 v06 v07 v08 v09 s0A l0B l0C l0D v5 v6 s7 l8 v0E v0F g0G (v9 + 1)) (lft (some false)))))
def f1059 (fuel : Nat) : PT → Int → BA → Int → Int → BA → PT → Int → BA → BA → LB → Int → Int → Int → Int → Int → Int → BA → FV → LW → (List Ln) → Int → BA → BA → LB → Int → Int → Int → Int → Int → Int → BA → FV → LW → (List Ln) → Int → Int → BA → FV → Int → Int → Option (Bool)
  | l5, v6, s7, v8, v9, sA, lB, vC, sF, sG, lH, vI, vJ, vK, vL, vM, vN, sO, lP, lQ, lR, vS, sT, sU, lV, vW, vY, vZ, v00, v01, v02, s03, l04, l05, l06, v07, v08, s09, l0A, v0B, v0C => sbind (ο := Unit) (grdP ((2 : Int) ≤ 9223372036854775807) (f1059_L2 fuel l5 v6 s7 v8 v9 sA lB vC sF sG lH vI vJ vK vL vM vN sO lP lQ lR vS sT sU lV vW vY vZ v00 v01 v02 s03 l04 l05 l06 v07 v08 s09 l0A v0B v0C ((2 : Int) - 0).toNat 0)) (fun () => some true)
def C1059 (O : Oracle TT) (m : PT → Int → BA → Int → Int → BA → PT → Int → BA → BA → LB → Int → Int → Int → Int → Int → Int → BA → FV → LW → (List Ln) → Int → BA → BA → LB → Int → Int → Int → Int → Int → Int → BA → FV → LW → (List Ln) → Int → Int → BA → FV → Int → Int → Option (Bool)) : Prop :=
  ∀ l5 v6 s7 v8 v9 sA lB vC sF sG lH vI vJ vK vL vM vN sO lP lQ lR vS sT sU lV vW vY vZ v00 v01 v02 s03 l04 l05 l06 v07 v08 s09 l0A v0B v0C (Q : Bool → Prop) (R : RR) (_ : ∀ q0D, Q q0D → R (bD q0D) [eV (.x 0) [.isl .dfn l5, ci v6, .str s7, ci v8, ci v9, .str sA, .isl .part lB, ci vC, .str sF, .str sG, .isl .str lH, ci vI, ci vJ, ci vK, .int .u8 vL, ci vM, ci vN, .str sO, .isl .fld lP, .isl .two lQ, .isl .lens lR, ci vS, .str sT, .str sU, .isl .str lV, ci vW, ci vY, ci vZ, .int .u8 v00, ci v01, ci v02, .str s03, .isl .fld l04, .isl .two l05, .isl .lens l06, ci v07, ci v08, .str s09, .isl .fld l0A, ci v0B, ci v0C]]) (_ : sat (m l5 v6 s7 v8 v9 sA lB vC sF sG lH vI vJ vK vL vM vN sO lP lQ lR vS sT sU lV vW vY vZ v00 v01 v02 s03 l04 l05 l06 v07 v08 s09 l0A v0B v0C) Q), O 1059 [pX 0] [eV (.x 0) [.isl .dfn l5, ci v6, .str s7, ci v8, ci v9, .str sA, .isl .part lB, ci vC, .str sF, .str sG, .isl .str lH, ci vI, ci vJ, ci vK, .int .u8 vL, ci vM, ci vN, .str sO, .isl .fld lP, .isl .two lQ, .isl .lens lR, ci vS, .str sT, .str sU, .isl .str lV, ci vW, ci vY, ci vZ, .int .u8 v00, ci v01, ci v02, .str s03, .isl .fld l04, .isl .two l05, .isl .lens l06, ci v07, ci v08, .str s09, .isl .fld l0A, ci v0B, ci v0C]] R
def j1059 : Fn TT := ⟨46, [.t 2], (sr [qm 2 bF] (.cut [] [(.x 0)] (sr [qo 8 (.mv (iC 0))] (.block 0 (.loop (.keep [0, 8] [(.x 0)] (.aft (sr [qo 9 (.bin .lss .num 8 (iC 2))] (.seq (.cond 9 .skip (.exit 0)) (.seq (.block 1 (sr [qm 10 8,qm 3 10] (sr [qm 12 0,qm 13 3,qm 14 0,qo 15 (.nilck 14),qo 16 (.fa 15 35),
 qo 17 (.load 16 4 true),qo 18 (.call 18 1045 [12, 13, 17]),qm 11 18,qo 19 (.ext 11 0),qo 20 (.ext 11 1),qo 4 (.alloc 4 zV),qp (.store 4 19 4),qm 5 20] (.seq (sr [qm 21 5,qo 22 (.bin .neq .num 21 (iC 0))] (.cond 22 .dead .skip)) (.cut [0, 6, 7, 8] [(.x 0), (.s 6)]
 (.drw [(.x 0)] (.go 0 (.go 1 (.go 2 (.go 3 (.go 4 (.go 6 (.alt 5 (.alt 7 (.go 8 (.go 9 (.go 10 (.go 11 (.go 12 (.go 13 .nil)))))) 11 (.go 7 (.go 8 (.go 9 (.go 10 (.go 12 (.go 13 .nil))))))) 11 (.go 5 (.go 7 (.go 8 (.go 9 (.go 10 (.go 12 (.go 13 .nil)))))))))))))) [12] [0, 1, 2, 3, 4, 6, 8, 9, 10, 13] [qm 24 0,qm 25 3,qm 26 0,qo 27 (.nilck 26),qo 28 (.fa 27 35),
 qo 29 (.load 28 4 true),qo 30 (.load 4 4 true),qo 31 (.call 31 1060 [24, 25, 29, 30]),qm 23 31,qo 32 (.ext 23 0),qo 33 (.ext 23 1),qo 6 (.alloc 6 zV),qp (.store 6 32 4),qm 7 33]) (.seq (.drw [] (oR 11) [] [0, 1, 2, 3, 4, 5, 6, 7, 9, 10] [qm 34 7,qo 35 (.bin .neq .num 34 (iC 0)),qm 36 35,qf 36 37 (.load 6 4 true),qf 36 38 (.mv 0),qf 36 39 (.nilck 38),
 qf 36 40 (.fa 39 35),qf 36 41 (.load 40 4 true),qf 36 42 (.call 42 11 [37, 41]),qf 36 43 (.un .not 42),qo 44 (.pick 36 bT 43)]) (.cond 44 (sr [qm 2 bF] .ret) .skip))))))) (.reg [qo 45 (.bin .add .num 8 (iC 1)),qm 8 45])))) [.keep [0, 8] [(.x 0)]]))))) (sr [qm 2 bT] .ret)))⟩
theorem w1059 {O : Oracle TT} (fuel : Nat) (h11 : C11 O (f11 fuel)) (h1045 : C1045 O (f1045 fuel)) (h1060 : C1060 O (f1060 fuel)) : C1059 (fun _ => vcF (S := SS) O j1059) (f1059 fuel) := by
 intro lA vB sC vG vH sI lJ vK sM sN lO vP vQ vS vU vV vW sY lZ l00 l01 v02 s03 s04 l05 v06 v07 v08 v09 v0A v0B s0C l0D l0E l0F v0G v0H s0I l0J v0K v0L Q R hQ h
 unfold f1059 at h
 refine ⟨nle rfl, rfl, ?_⟩
 obtain ⟨R8, h, a8, b8⟩ := sc h
 refine kX (fun σ => R8 (.inr ()) ∧ σ = ⟨[], [eV (.x 0) [.isl .dfn lA, ci vB, .str sC, ci vG, ci vH, .str sI, .isl .part lJ, ci vK, .str sM, .str sN, .isl .str lO, ci vP, ci vQ, ci vS, .int .u8 vU, ci vV, ci vW, .str sY, .isl .fld lZ, .isl .two l00, .isl .lens l01, ci v02, .str s03, .str s04, .isl .str l05, ci v06, ci v07, ci v08, .int .u8 v09, ci v0A, ci v0B, .str s0C, .isl .fld l0D, .isl .two l0E, .isl .lens l0F, ci v0G, ci v0H, .str s0I, .isl .fld l0J, ci v0K, ci v0L]]⟩) ?_ ?_
 obtain ⟨hN0S, h⟩ := sat_grdP h
 refine kX (fun σ n => ∃ (f5 : Nat) (v6 : Int) (z : Int), f5 = n ∧ f5 = (2 - v6).toNat ∧ 0 ≤ v6 ∧ v6 = z ∧ sat (f1059_L2 fuel lA vB sC vG vH sI lJ vK sM sN lO vP vQ vS vU vV vW sY lZ l00 l01 v02 s03 s04 l05 v06 v07 v08 v09 v0A v0B s0C l0D l0E l0F v0G v0H s0I l0J v0K v0L f5 v6) R8 ∧ σ.keep [0, 8] [(.x 0)] = ⟨[(0, pX 0), (8, iD z)], [eV (.x 0) [.isl .dfn lA, ci vB, .str sC, ci vG, ci vH, .str sI, .isl .part lJ, ci vK, .str sM, .str sN, .isl .str lO, ci vP, ci vQ, ci vS, .int .u8 vU, ci vV, ci vW, .str sY, .isl .fld lZ, .isl .two l00, .isl .lens l01, ci v02, .str s03, .str s04, .isl .str l05, ci v06, ci v07, ci v08, .int .u8 v09, ci v0A, ci v0B, .str s0C, .isl .fld l0D, .isl .two l0E, .isl .lens l0F, ci v0G, ci v0H, .str s0I, .isl .fld l0J, ci v0K, ci v0L]]⟩) ⟨_, _, 0, _, rfl, rfl, (by decide), rfl, h, rfl⟩ ?_
 rintro σ n ⟨f5, v6, _, rfl, hf5, hpf5, rfl, h, hσ⟩
 refine kk hσ ?_
 intro t9 (ht9 : t9 = decide (v6 < 2))
 cases t9
 obtain rfl := il_nil hf5 ht9
 rw [f1059_L2] at h
 conv => whnf
 exact ⟨ss h, rfl⟩
 obtain ⟨g7, rfl, hwg7, hpg7, hfg7⟩ := il_cons hf5 hpf5 ht9 hN0S
 rw [f1059_L2] at h
 refine kL [(.x 0)] (h1045 _ _ _ _ _ _ _ _ _ _ _ _ _ _ _ _ _ _ _ _ _ _ _ _ _ _ _ _ _ _ _ _ _ _ _ _ _ _ _ _ _ _ _ _ _ _ _ _ ?_ (sb h))
 rintro k1A n1B s1C f1D v1E h
 refine kc h ?_ ?_ <;> intro h
 obtain ⟨R0M, h, a0M, b0M⟩ := sc h
 refine kX (fun σ => ∃ v0N v0O v0P s0Q l0R, R0M (.inr (v0N, v0O, v0P, s0Q, l0R)) ∧ σ = ⟨[(0, pX 0), pT 6, (7, iD v0N), (8, iD v6)], [eV (.x 0) [.isl .dfn lA, ci vB, .str sC, ci vG, ci vH, .str sI, .isl .part lJ, ci vK, .str sM, .str sN, .isl .str lO, ci vP, ci vQ, ci vS, .int .u8 vU, ci vV, ci vW, .str sY, .isl .fld lZ, .isl .two l00, .isl .lens l01, ci v02, .str s03, .str s04, .isl .str l05, ci v06, ci v07, ci v08, .int .u8 v09, ci v0A, ci v0B, .str s0C, .isl .fld l0D, .isl .two l0E, .isl .lens l0F, ci v0G, ci v0H, .str s0I, .isl .fld l0J, ci v0K, ci v0L], eV (.s 6) [ci v0O, ci v0P, .str s0Q, .isl .fld l0R]]⟩) ?_ ?_
 conv => whnf
 refine ⟨?_, ?_⟩
 conv => whnf
 refine ⟨?_, ?_⟩
 refine kL [(.x 0)] (h1060 _ _ _ _ _ _ _ _ _ _ _ _ _ _ _ _ _ _ _ _ _ _ _ _ _ _ _ _ _ _ _ _ _ _ _ _ _ _ _ _ _ _ _ _ _ _ _ _ _ _ _ _ ?_ (sb h))
 rintro k0T n0U s0V f0W v0X h
 conv => whnf
 exact ⟨v0X, k0T, n0U, s0V, f0W, ss h, rfl⟩
 refine kL [(.x 0)] (h1060 _ _ _ _ _ _ _ _ _ _ _ _ _ _ _ _ _ _ _ _ _ _ _ _ _ _ _ _ _ _ _ _ _ _ _ _ _ _ _ _ _ _ _ _ _ _ _ _ _ _ _ _ ?_ (sb h))
 rintro k0Y n0Z s10 f11 v12 h
 conv => whnf
 exact ⟨v12, k0Y, n0Z, s10, f11, ss h, rfl⟩
 refine kL [(.x 0)] (h1060 _ _ _ _ _ _ _ _ _ _ _ _ _ _ _ _ _ _ _ _ _ _ _ _ _ _ _ _ _ _ _ _ _ _ _ _ _ _ _ _ _ _ _ _ _ _ _ _ _ _ _ _ ?_ (sb h))
 rintro k13 n14 s15 f17 v18 h
 conv => whnf
 exact ⟨v18, k13, n14, s15, f17, ss h, rfl⟩
 rintro _ ⟨v0N, v0O, v0P, s0Q, l0R, h, rfl⟩
 replace h := b0M _ h
 refine kc h ?_ ?_ <;> intro h
 refine kL [] (h11 _ _ _ _ _ _ _ _ _ _ ?_ (sb h))
 rintro q19 h
 cases q19
 replace h := cf h
 replace h := sat_lft a8 h
 exact kR [] (ND 1) (hQ _ (ss h))
 replace h := ct h
 conv => whnf
 exact ⟨g7, nls, g7, v6 + 1, _, rfl, hfg7, hpg7, hwg7.symm, h, rfl⟩
 replace h := sat_lft a8 h
 exact kR [] (ND 1) (hQ _ (ss h))
 exact (sat_none h).elim
 rintro _ ⟨h, rfl⟩
 replace h := b8 _ h
 exact kR [] (ND 1) (hQ _ (ss h))
def f1057 (fuel : Nat) : Option (Bool) := (f1029).bind fun (.mk k0H m0I lo0J hi0K p0L ps0M) => (f325).bind fun (.mk op0N nm0O to0P ns0Q n0R lo0S hi0T sep0U (.mk k0V n0W s0X f0Y) prs0Z ks10) => (f44 (0 : Int)).bind fun (.mk k11 n12 s13 f14) => (f30 (1 : Int) (2 : Int)).bind fun (.mk k15 n16 s17 f18) => (f1030 fuel [] k0H m0I lo0J hi0K p0L ps0M op0N nm0O to0P ns0Q n0R lo0S hi0T sep0U k0V n0W s0X f0Y prs0Z ks10 (4 : Int) (⟨#[97]⟩ : BA) (⟨#[]⟩ : BA) [] (0 : Int) (0 : Int) (0 : Int) (0 : Int) k11 n12 s13 f14 [] [] (V.mk k15 n16 s17 f18)).bind fun (v19, l5, v6, s7, v8, v9, sA, lB, vC, sF, sG, lH, vI, vJ, vK, vM, vN, vO, sP, lQ, lU, lV, vW, sY, sZ, l00, v01, v02, v03, v04, v05, v06, s07, l08, l09, l0A, v0B, v0C, s0D, l0E, v0F, v0G) => cond (v19 != 0) (none) ((f1058 fuel (0 : Int) l5 v6 s7 v8 v9 sA lB vC sF sG lH vI vJ vK vM vN vO sP lQ lU lV vW sY sZ l00 v01 v02 v03 v04 v05 v06 s07 l08 l09 l0A v0B v0C s0D l0E v0F v0G).bind fun ((.mk k1D n1E s1F f1A), v1B) => cond (v1B == 0) (cond (((f1A.length : Nat) : Int) == 1) ((f1059 fuel l5 v6 s7 v8 v9 sA lB vC sF sG lH vI vJ vK vM vN vO sP lQ lU lV vW sY sZ l00 v01 v02 v03 v04 v05 v06 s07 l08 l09 l0A v0B v0C s0D l0E v0F v0G).bind fun q1C => some q1C) (some false)) (some false))
def C1057 (O : Oracle TT) (m : Option (Bool)) : Prop :=
  ∀ (Q : Bool → Prop) (R : RR) (_ : ∀ q0, Q q0 → R (bD q0) []) (_ : sat (m) Q), O 1057 [] [] R
def j1057 : Fn TT := ⟨36, [.t 0], (sr [qm 0 bF] (sr [qo 6 (.call 6 1029 []),qo 7 (.call 7 325 []),qo 8 (.call 8 44 [(iC 0)]),qo 9 (.build zLn [((0, 1), (iC 4)), ((1, 1), (.c (.str (⟨#[97]⟩ : BA)))), ((8, 4), 8)]),
 qo 10 (.build [.int .i64 0, .str eB, .int .i64 0, .int .i64 0, .str eB, .isl .part [], .int .i64 0, .str eB, .str eB, .isl .str [], .int .i64 0, .int .i64 0, .int .i64 0, .int .u8 0, .int .i64 0, .int .i64 0, .str eB, .isl .fld [], .isl .two [], .isl .lens [], .int .i64 0, .str eB, .str eB, .isl .str [], .int .i64 0, .int .i64 0, .int .i64 0, .int .u8 0, .int .i64 0, .int .i64 0, .str eB, .isl .fld [], .isl .two [], .isl .lens []] [((0, 6), 6), ((6, 14), 7), ((20, 14), 9)]),
 qo 1 (.alloc 1 [.int .i64 0, .str eB, .int .i64 0, .int .i64 0, .str eB, .isl .part [], .int .i64 0, .str eB, .str eB, .isl .str [], .int .i64 0, .int .i64 0, .int .i64 0, .int .u8 0, .int .i64 0, .int .i64 0, .str eB, .isl .fld [], .isl .two [], .isl .lens [], .int .i64 0, .str eB, .str eB, .isl .str [], .int .i64 0, .int .i64 0, .int .i64 0, .int .u8 0, .int .i64 0, .int .i64 0, .str eB, .isl .fld [], .isl .two [], .isl .lens []]),
 qp (.store 1 10 34)] (.seq (.drw [] (oR 8) [] [0, 3, 4, 5, 6, 7] [qo 12 (.load 1 34 true),qo 13 (.call 13 30 [(iC 1), (iC 2)]),qo 14 (.call 14 1030 [(.c (.isl .dfn [])), 12, 13]),qm 11 14,qo 15 (.ext 11 0),qo 16 (.ext 11 1),qm 2 15,qm 3 16]) (.seq (sr [qm 17 3,qo 18 (.bin .neq .num 17 (iC 0))] (.cond 18 .dead .skip)) (sr [qm 20 2,
 qo 21 (.call 21 1058 [20, (iC 0)]),qm 19 21,qo 22 (.ext 19 0),qo 23 (.ext 19 1),qo 4 (.alloc 4 zV),qp (.store 4 22 4),qm 5 23] (sr [qm 24 5,qo 25 (.bin .eql .num 24 (iC 0)),qm 26 25,qg 26 27 (.fa 4 3),qg 26 28 (ld 27),qg 26 29 (.len false 28),qg 26 30 (.bin .eql .num 29 (iC 1)),qo 31 (.pick 26 30 bF),qm 32 31,qg 32 33 (.mv 2),
 qg 32 34 (.call 34 1059 [33]),qo 35 (.pick 32 34 bF),qm 0 35] .ret))))))⟩
theorem w1057 {O : Oracle TT} (fuel : Nat) (h325 : C325 O f325) (h44 : C44 O f44) (h1029 : C1029 O f1029) (h30 : C30 O f30) (h1030 : C1030 O (f1030 fuel)) (h1058 : C1058 O (f1058 fuel)) (h1059 : C1059 O (f1059 fuel)) : C1057 (fun _ => vcF (S := SS) O j1057) (f1057 fuel) := by
 intro Q R hQ h
 unfold f1057 at h
 refine ⟨nle rfl, rfl, ?_⟩
 refine kL [] (h1029 _ _ ?_ (sb h))
 rintro k5 m6 lo8 hi9 pA psB h
 refine kL [] (h325 _ _ ?_ (sb h))
 rintro opC nmF toG nsH nI loJ hiK sepM kN nO sP fQ prsU ksV h
 refine kL [] (h44 _ _ _ ?_ (sb h))
 rintro kW nY sZ f00 h
 refine kL [] (h30 _ _ _ _ ?_ (sb h))
 rintro k01 n02 s03 f04 h
 refine kL [] (h1030 _ _ _ _ _ _ _ _ _ _ _ _ _ _ _ _ _ _ _ _ _ _ _ _ _ _ _ _ _ _ _ _ _ _ _ _ _ _ _ _ _ ?_ (sb h))
 rintro v05 l06 v07 s08 v09 v0A s0B l0C v0D s0E s0F l0G v0H v0I v0J v0K v0L v0M s0N l0O l0P l0Q v0R s0S s0T l0U v0V v0W v0X v0Y v0Z v10 s11 l12 l13 l14 v15 v16 s17 l18 v19 v1A h
 refine kc h ?_ ?_ <;> intro h
 refine kL [(.sub (.s 14) 0)] (h1058 _ _ _ _ _ _ _ _ _ _ _ _ _ _ _ _ _ _ _ _ _ _ _ _ _ _ _ _ _ _ _ _ _ _ _ _ _ _ _ _ _ _ _ _ ?_ (sb h))
 rintro k1B n1C s1D f1E v1F h
 refine kc h ?_ ?_ <;> intro h
 exact kR [] (ND 0) (hQ _ (ss h))
 intro hl1G
 refine kc h ?_ ?_ <;> intro h
 exact kR [] (ND 0) (hQ _ (ss h))
 refine kL [(.sub (.s 14) 0)] (h1059 _ _ _ _ _ _ _ _ _ _ _ _ _ _ _ _ _ _ _ _ _ _ _ _ _ _ _ _ _ _ _ _ _ _ _ _ _ _ _ _ _ _ _ ?_ (sb h))
 rintro q1H h
 exact kR [] (ND 0) (hQ _ (ss h))
 exact (sat_none h).elim
def f1068 : BA → Int → Option (V)
  | s5, v6 => (f44 v6).bind fun (.mk k7 n8 s9 fA) => some (V.mk 6 0 (⟨#[]⟩ : BA) ([(s5, (V.mk k7 n8 s9 fA))] : FV))
def C1068 (O : Oracle TT) (m : BA → Int → Option (V)) : Prop :=
  ∀ s5 v6 (Q : V → Prop) (R : RR) (_ : ∀ k7 n8 s9 fA, Q (V.mk k7 n8 s9 fA) → R (.agg [ci k7, ci n8, .str s9, .isl .fld fA]) []) (_ : sat (m s5 v6) Q), O 1068 [sD s5, iD v6] [] R
def j1068 : Fn TT := ⟨11, [.cell 4 4 true], (sr [qo 4 (.alloc 4 zV)] (sr [qm 5 0,qm 6 1,qo 7 (.call 7 44 [6]),qo 8 (.build zFd [((0, 1), 5), ((1, 4), 7)]),qo 9 (.bsl .fld [8]),qo 10 (.build zV [((0, 1), (iC 6)), ((3, 1), 9)]),qp (.store 4 10 4)] .ret))⟩
theorem w1068 {O : Oracle TT} (h44 : C44 O f44) : C1068 (fun _ => vcF (S := SS) O j1068) f1068 := by
 intro s5 v6 Q R hQ h
 unfold f1068 at h
 refine ⟨nle rfl, rfl, ?_⟩
 refine kL [] (h44 _ _ _ ?_ (sb h))
 rintro k7 n8 s9 fA h
 exact kR [] (ND 0) (hQ _ _ _ _ (ss h))
def f1070 (fuel : Nat) : Int → V → V → PT → Int → BA → Int → Int → BA → PT → Int → BA → BA → LB → Int → Int → Int → Int → Int → Int → BA → FV → LW → (List Ln) → Int → BA → BA → LB → Int → Int → Int → Int → Int → Int → BA → FV → LW → (List Ln) → Int → Int → BA → FV → Int → Int → Option (V × Int)
  | v9, .mk k0G n0H s0I f0J, .mk k0K n0L s0M f0N, lA, vB, sC, vF, vG, sH, lI, vJ, sK, sM, lN, vO, vP, vQ, vS, vT, vU, sV, lW, lY, lZ, v00, s01, s02, l03, v04, v05, v06, v07, v08, v09, s0A, l0B, l0C, l0D, v5, v6, s7, l8, v0E, v0F => sbind (ο := Int × Int × Int × BA × FV) ((f1060 fuel v9 (V.mk v5 v6 s7 l8) (V.mk k0G n0H s0I f0J) lA vB sC vF vG sH lI vJ sK sM lN vO vP vQ vS vT vU sV lW lY lZ v00 s01 s02 l03 v04 v05 v06 v07 v08 v09 s0A l0B l0C l0D v5 v6 s7 l8 v0E v0F).bind fun ((.mk k0O n0P s0Q f0R), v0S) => some (.inr (v0S, k0O, n0P, s0Q, f0R))) (fun (v0T, v0U, v0V, s0W, l0X) => cond (v0T != 0) (none) ((f1060 fuel (wrap .i64 ((1 : Int) - v9)) (V.mk v0U v0V s0W l0X) (V.mk k0K n0L s0M f0N) lA vB sC vF vG sH lI vJ sK sM lN vO vP vQ vS vT vU sV lW lY lZ v00 s01 s02 l03 v04 v05 v06 v07 v08 v09 s0A l0B l0C l0D v5 v6 s7 l8 v0E v0F).bind fun ((.mk k0Y n0Z s10 f11), v12) => some ((V.mk k0Y n0Z s10 f11), v12)))
def C1070 (O : Oracle TT) (m : Int → V → V → PT → Int → BA → Int → Int → BA → PT → Int → BA → BA → LB → Int → Int → Int → Int → Int → Int → BA → FV → LW → (List Ln) → Int → BA → BA → LB → Int → Int → Int → Int → Int → Int → BA → FV → LW → (List Ln) → Int → Int → BA → FV → Int → Int → Option (V × Int)) : Prop :=
  ∀ v0F k0G n0H s0I f0J k0K n0L s0M f0N l5 v6 s7 v8 v9 sA lB vC sF sG lH vI vJ vK vM vN vO sP lQ lS lT vU sV sW lY vZ v00 v01 v02 v03 v04 s05 l06 l07 l08 v09 v0A s0B l0C v0D v0E (Q : (V × Int) → Prop) (R : RR) (_ : ∀ k0O n0P s0Q f0R v0S, Q ((V.mk k0O n0P s0Q f0R), v0S) → R (.tup [.agg [ci k0O, ci n0P, .str s0Q, .isl .fld f0R], iD v0S]) [eV (.x 0) [.isl .dfn l5, ci v6, .str s7, ci v8, ci v9, .str sA, .isl .part lB, ci vC, .str sF, .str sG, .isl .str lH, ci vI, ci vJ, ci vK, .int .u8 vM, ci vN, ci vO, .str sP, .isl .fld lQ, .isl .two lS, .isl .lens lT, ci vU, .str sV, .str sW, .isl .str lY, ci vZ, ci v00, ci v01, .int .u8 v02, ci v03, ci v04, .str s05, .isl .fld l06, .isl .two l07, .isl .lens l08, ci v09, ci v0A, .str s0B, .isl .fld l0C, ci v0D, ci v0E]]) (_ : sat (m v0F (V.mk k0G n0H s0I f0J) (V.mk k0K n0L s0M f0N) l5 v6 s7 v8 v9 sA lB vC sF sG lH vI vJ vK vM vN vO sP lQ lS lT vU sV sW lY vZ v00 v01 v02 v03 v04 s05 l06 l07 l08 v09 v0A s0B l0C v0D v0E) Q), O 1070 [pX 0, iD v0F, .agg [ci k0G, ci n0H, .str s0I, .isl .fld f0J], .agg [ci k0K, ci n0L, .str s0M, .isl .fld f0N]] [eV (.x 0) [.isl .dfn l5, ci v6, .str s7, ci v8, ci v9, .str sA, .isl .part lB, ci vC, .str sF, .str sG, .isl .str lH, ci vI, ci vJ, ci vK, .int .u8 vM, ci vN, ci vO, .str sP, .isl .fld lQ, .isl .two lS, .isl .lens lT, ci vU, .str sV, .str sW, .isl .str lY, ci vZ, ci v00, ci v01, .int .u8 v02, ci v03, ci v04, .str s05, .isl .fld l06, .isl .two l07, .isl .lens l08, ci v09, ci v0A, .str s0B, .isl .fld l0C, ci v0D, ci v0E]] R
def j1070 : Fn TT := ⟨35, [.cell 8 4 true, .t 9], (sr [qo 6 (.box 6 2),qo 7 (.box 7 3),qo 8 (.alloc 8 zV),qo 9 (.mv (iC 0))] (.cut [0, 1, 7, 8, 10, 11] [(.x 0), (.s 7), (.s 8), (.s 10)]
 (.drw [(.x 0)] (.go 0 (.go 1 (.go 2 (.go 3 (.go 4 (.go 6 (.alt 5 (.alt 7 (.go 8 (.go 9 (.go 10 (.go 11 (.go 12 (.go 13 .nil)))))) 11 (.go 7 (.go 8 (.go 9 (.go 10 (.go 12 (.go 13 .nil))))))) 11 (.go 5 (.go 7 (.go 8 (.go 9 (.go 10 (.go 12 (.go 13 .nil)))))))))))))) [12] [0, 1, 2, 3, 4, 6, 8, 9, 10, 13] [qm 13 0,qm 14 1,qm 15 0,qo 16 (.nilck 15),qo 17 (.fa 16 35),
 qo 18 (.load 17 4 true),qo 19 (.load 6 4 true),qo 20 (.call 20 1060 [13, 14, 18, 19]),qm 12 20,qo 21 (.ext 12 0),qo 22 (.ext 12 1),qo 10 (.alloc 10 zV),qp (.store 10 21 4),qm 11 22]) (.seq (sr [qm 23 11,qo 24 (.bin .neq .num 23 (iC 0))] (.cond 24 .dead .skip)) (sr [qm 27 0,qm 28 1,qo 29 (.bin .sub .num (iC 1) 28),qo 30 (.load 10 4 true),
 qo 31 (.load 7 4 true),qo 32 (.call 32 1060 [27, 29, 30, 31]),qo 33 (.ext 32 0),qo 34 (.ext 32 1),qp (.store 8 33 4),qm 9 34] .ret))))⟩
theorem w1070 {O : Oracle TT} (fuel : Nat) (h1060 : C1060 O (f1060 fuel)) : C1070 (fun _ => vcF (S := SS) O j1070) (f1070 fuel) := by
 intro vB k18 n19 s1A f1B kC nG sH fI lJ vK sM vN vO sP lQ vS sU sV lW vY vZ v00 v01 v02 v03 s04 l05 l06 l07 v08 s09 s0A l0B v0C v0D v0E v0F v0G v0H s0I l0J l0K l0L v0M v0N s0O l0P v0Q v0R Q R hQ h
 unfold f1070 at h
 refine ⟨nle rfl, rfl, ?_⟩
 obtain ⟨R5, h, a5, b5⟩ := sc h
 refine kX (fun σ => ∃ v6 v7 v8 s9 lA, R5 (.inr (v6, v7, v8, s9, lA)) ∧ σ = ⟨[(0, pX 0), (1, iD vB), pT 7, pT 8, pT 10, (11, iD v6)], [eV (.x 0) [.isl .dfn lJ, ci vK, .str sM, ci vN, ci vO, .str sP, .isl .part lQ, ci vS, .str sU, .str sV, .isl .str lW, ci vY, ci vZ, ci v00, .int .u8 v01, ci v02, ci v03, .str s04, .isl .fld l05, .isl .two l06, .isl .lens l07, ci v08, .str s09, .str s0A, .isl .str l0B, ci v0C, ci v0D, ci v0E, .int .u8 v0F, ci v0G, ci v0H, .str s0I, .isl .fld l0J, .isl .two l0K, .isl .lens l0L, ci v0M, ci v0N, .str s0O, .isl .fld l0P, ci v0Q, ci v0R], eV (.s 7) [ci kC, ci nG, .str sH, .isl .fld fI], eV (.s 8) zV, eV (.s 10) [ci v7, ci v8, .str s9, .isl .fld lA]]⟩) ?_ ?_
 conv => whnf
 refine ⟨?_, ?_⟩
 conv => whnf
 refine ⟨?_, ?_⟩
 refine kL [(.x 0)] (h1060 _ _ _ _ _ _ _ _ _ _ _ _ _ _ _ _ _ _ _ _ _ _ _ _ _ _ _ _ _ _ _ _ _ _ _ _ _ _ _ _ _ _ _ _ _ _ _ _ _ _ _ _ ?_ (sb h))
 rintro k0S n0T s0U f0V v0W h
 conv => whnf
 exact ⟨v0W, k0S, n0T, s0U, f0V, ss h, rfl⟩
 refine kL [(.x 0)] (h1060 _ _ _ _ _ _ _ _ _ _ _ _ _ _ _ _ _ _ _ _ _ _ _ _ _ _ _ _ _ _ _ _ _ _ _ _ _ _ _ _ _ _ _ _ _ _ _ _ _ _ _ _ ?_ (sb h))
 rintro k0X n0Y s0Z f10 v11 h
 conv => whnf
 exact ⟨v11, k0X, n0Y, s0Z, f10, ss h, rfl⟩
 refine kL [(.x 0)] (h1060 _ _ _ _ _ _ _ _ _ _ _ _ _ _ _ _ _ _ _ _ _ _ _ _ _ _ _ _ _ _ _ _ _ _ _ _ _ _ _ _ _ _ _ _ _ _ _ _ _ _ _ _ ?_ (sb h))
 rintro k12 n13 s14 f15 v17 h
 conv => whnf
 exact ⟨v17, k12, n13, s14, f15, ss h, rfl⟩
 rintro _ ⟨v6, v7, v8, s9, lA, h, rfl⟩
 replace h := b5 _ h
 refine kc h ?_ ?_ <;> intro h
 refine kL [(.x 0)] (h1060 _ _ _ _ _ _ _ _ _ _ _ _ _ _ _ _ _ _ _ _ _ _ _ _ _ _ _ _ _ _ _ _ _ _ _ _ _ _ _ _ _ _ _ _ _ _ _ _ _ _ _ _ ?_ (sb h))
 rintro k1C n1D s1E f1F v1G h
 exact kR [] (ND 1) (hQ _ _ _ _ _ (ss h))
 exact (sat_none h).elim
def f1069_L2 (fuel : Nat) (lC : PT) (vF : Int) (sG : BA) (vH : Int) (vI : Int) (sJ : BA) (lK : PT) (vM : Int) (sN : BA) (sO : BA) (lP : LB) (vQ : Int) (vS : Int) (vT : Int) (vU : Int) (vV : Int) (vW : Int) (sY : BA) (lZ : FV) (l00 : LW) (l01 : List Ln) (v02 : Int) (s03 : BA) (s04 : BA) (l05 : LB) (v06 : Int) (v07 : Int) (v08 : Int) (v09 : Int) (v0A : Int) (v0B : Int) (s0C : BA) (l0D : FV) (l0E : LW) (l0F : List Ln) (v5 : Int) (v6 : Int) (s7 : BA) (l8 : FV) (v9 : Int) (vA : Int) (k0G : Int) (n0H : Int) (s0I : BA) (f0J : FV) : List V → Nat → Option (Sum (Int × Int × Int × BA × FV × Int × Int) (Unit))
  | [], jB => some (.inr ())
  | (.mk k0K n0L s0M f0N) :: tl0O, jB => (f1045 fuel ((jB : Nat) : Int) (V.mk k0G n0H s0I f0J) lC vF sG vH vI sJ lK vM sN sO lP vQ vS vT vU vV vW sY lZ l00 l01 v02 s03 s04 l05 v06 v07 v08 v09 v0A v0B s0C l0D l0E l0F v5 v6 s7 l8 v9 vA).bind fun ((.mk k0P n0Q s0R f0S), v0T) => cond (v0T != 0) (none) ((f11 fuel (V.mk k0P n0Q s0R f0S) (V.mk k0K n0L s0M f0N)).bind fun q0U => cond q0U (f1069_L2 fuel lC vF sG vH vI sJ lK vM sN sO lP vQ vS vT vU vV vW sY lZ l00 l01 v02 s03 s04 l05 v06 v07 v08 v09 v0A v0B s0C l0D l0E l0F v5 v6 s7 l8 v9 vA k0G n0H s0I f0J tl0O (jB + 1)) (lft (some (17, v5, v6, s7, l8, v9, vA))))
def f1069 (fuel : Nat) : V → V → PT → Int → BA → Int → Int → BA → PT → Int → BA → BA → LB → Int → Int → Int → Int → Int → Int → BA → FV → LW → (List Ln) → Int → BA → BA → LB → Int → Int → Int → Int → Int → Int → BA → FV → LW → (List Ln) → Int → Int → BA → FV → Int → Int → Option (Int × Int × Int × BA × FV × Int × Int)
  | .mk kB nC sF fG, .mk kH nI sJ fK, lM, vN, sO, vP, vQ, sS, lT, vU, sV, sW, lY, vZ, v00, v01, v02, v03, v04, s05, l06, l07, l08, v09, s0A, s0B, l0C, v0D, v0E, v0F, v0G, v0H, v0I, s0J, l0K, l0L, l0M, v7, v8, s9, lA, v5, v6 => (f1070 fuel (0 : Int) (V.mk kB nC sF fG) (V.mk kH nI sJ fK) lM vN sO vP vQ sS lT vU sV sW lY vZ v00 v01 v02 v03 v04 s05 l06 l07 l08 v09 s0A s0B l0C v0D v0E v0F v0G v0H v0I s0J l0K l0L l0M v7 v8 s9 lA v5 v6).bind fun ((.mk k0N n0O s0P f0Q), v0R) => cond (v0R != 0) (none) ((f1070 fuel (1 : Int) (V.mk kH nI sJ fK) (V.mk kB nC sF fG) lM vN sO vP vQ sS lT vU sV sW lY vZ v00 v01 v02 v03 v04 s05 l06 l07 l08 v09 s0A s0B l0C v0D v0E v0F v0G v0H v0I s0J l0K l0L l0M v7 v8 s9 lA v5 v6).bind fun ((.mk k0S n0T s0U f0V), v0W) => cond (v0W != 0) (none) ((f11 fuel (V.mk k0N n0O s0P f0Q) (V.mk k0S n0T s0U f0V)).bind fun q0X => cond q0X (sbind (ο := Unit) (f1069_L2 fuel lM vN sO vP vQ sS lT vU sV sW lY vZ v00 v01 v02 v03 v04 s05 l06 l07 l08 v09 s0A s0B l0C v0D v0E v0F v0G v0H v0I s0J l0K l0L l0M v7 v8 s9 lA v5 v6 k0N n0O s0P f0Q ([(V.mk kB nC sF fG), (V.mk kH nI sJ fK)] : List V) 0) (fun () => some (0, k0N, n0O, s0P, f0Q, (wrap .i64 (v5 + 1)), (wrap .i64 (v6 + 1))))) (some (17, v7, v8, s9, lA, v5, v6))))
def C1069 (O : Oracle TT) (m : V → V → PT → Int → BA → Int → Int → BA → PT → Int → BA → BA → LB → Int → Int → Int → Int → Int → Int → BA → FV → LW → (List Ln) → Int → BA → BA → LB → Int → Int → Int → Int → Int → Int → BA → FV → LW → (List Ln) → Int → Int → BA → FV → Int → Int → Option (Int × Int × Int × BA × FV × Int × Int)) : Prop :=
  ∀ k09 n0A s0B f0C k0D n0E s0F f0G l5 v6 s7 v8 v9 sA lB vC sF sG lH vI vJ vK vM vN vO sP lQ lS lT vU sV sW lY vZ v00 v01 v02 v03 v04 s05 l06 l07 l08 v0H v0I s0J l0K v0L v0M (Q : (Int × Int × Int × BA × FV × Int × Int) → Prop) (R : RR) (_ : ∀ v0N v0O v0P s0Q l0R v0S v0T, Q (v0N, v0O, v0P, s0Q, l0R, v0S, v0T) → R (iD v0N) [eV (.x 0) [.isl .dfn l5, ci v6, .str s7, ci v8, ci v9, .str sA, .isl .part lB, ci vC, .str sF, .str sG, .isl .str lH, ci vI, ci vJ, ci vK, .int .u8 vM, ci vN, ci vO, .str sP, .isl .fld lQ, .isl .two lS, .isl .lens lT, ci vU, .str sV, .str sW, .isl .str lY, ci vZ, ci v00, ci v01, .int .u8 v02, ci v03, ci v04, .str s05, .isl .fld l06, .isl .two l07, .isl .lens l08, ci v0O, ci v0P, .str s0Q, .isl .fld l0R, ci v0S, ci v0T]]) (_ : sat (m (V.mk k09 n0A s0B f0C) (V.mk k0D n0E s0F f0G) l5 v6 s7 v8 v9 sA lB vC sF sG lH vI vJ vK vM vN vO sP lQ lS lT vU sV sW lY vZ v00 v01 v02 v03 v04 s05 l06 l07 l08 v0H v0I s0J l0K v0L v0M) Q), O 1069 [pX 0, .agg [ci k09, ci n0A, .str s0B, .isl .fld f0C], .agg [ci k0D, ci n0E, .str s0F, .isl .fld f0G]] [eV (.x 0) [.isl .dfn l5, ci v6, .str s7, ci v8, ci v9, .str sA, .isl .part lB, ci vC, .str sF, .str sG, .isl .str lH, ci vI, ci vJ, ci vK, .int .u8 vM, ci vN, ci vO, .str sP, .isl .fld lQ, .isl .two lS, .isl .lens lT, ci vU, .str sV, .str sW, .isl .str lY, ci vZ, ci v00, ci v01, .int .u8 v02, ci v03, ci v04, .str s05, .isl .fld l06, .isl .two l07, .isl .lens l08, ci v0H, ci v0I, .str s0J, .isl .fld l0K, ci v0L, ci v0M]] R
def j1069 : Fn TT := ⟨84, [.t 6], (sr [qo 4 (.box 4 1),qo 5 (.box 5 2),qo 6 (.mv (iC 0))] (sr [qm 15 0,qo 16 (.load 4 4 true),qo 17 (.load 5 4 true),qo 18 (.call 18 1070 [15, (iC 0), 16, 17]),qm 14 18,qo 19 (.ext 14 0),qo 20 (.ext 14 1),qo 7 (.alloc 7 zV),qp (.store 7 19 4),qm 8 20] (.seq (sr [qm 21 8,
 qo 22 (.bin .neq .num 21 (iC 0))] (.cond 22 .dead .skip)) (sr [qm 25 0,qo 26 (.load 5 4 true),qo 27 (.load 4 4 true),qo 28 (.call 28 1070 [25, (iC 1), 26, 27]),qm 24 28,qo 29 (.ext 24 0),qo 30 (.ext 24 1),qo 9 (.alloc 9 zV),qp (.store 9 29 4),qm 8 30] (.seq (sr [qm 31 8,qo 32 (.bin .neq .num 31 (iC 0))] (.cond 32 .dead .skip)) (.seq (.seq
 (.reg [qo 34 (.load 7 4 true),qo 35 (.load 9 4 true),qo 36 (.call 36 11 [34, 35]),qo 37 (.un .not 36)]) (.cond 37 (sr [qo 6 (.mv (iC 17))] .ret) .skip)) (.cut [0, 7] [(.x 0), (.s 7)] (sr [qo 38 (.load 4 4 true),qo 39 (.load 5 4 true),qo 40 (.bsl .val [38, 39]),qo 41 (.len false 40),qo 42 (.mv (iC 0))] (.block 0 (.loop (.keep [0, 7, 40, 41, 42] [(.x 0), (.s 7)] (.aft (.seq
 (.reg [qo 43 (.bin .lss .num 42 41)]) (.seq (.cond 43 .skip (.exit 0)) (.seq (.block 1 (sr [qm 44 42,qo 45 (.idxA 40 42 4),qo 46 (.load 45 4 true),qo 11 (.alloc 11 zV),qm 10 44,qp (.store 11 46 4)] (sr [qm 48 0,qm 49 10,qo 50 (.load 7 4 true),qo 51 (.call 51 1045 [48, 49, 50]),qm 47 51,qo 52 (.ext 47 0),qo 53 (.ext 47 1),
 qo 12 (.alloc 12 zV),qp (.store 12 52 4),qm 13 53] (.seq (sr [qm 54 13,qo 55 (.bin .neq .num 54 (iC 0))] (.cond 55 .dead .skip)) (sr [qo 57 (.load 12 4 true),qo 58 (.load 11 4 true),qo 59 (.call 59 11 [57, 58]),qo 60 (.un .not 59)] (.cond 60 (sr [qo 6 (.mv (iC 17))] .ret) .skip)))))) (.reg [qo 61 (.bin .add .num 42 (iC 1)),
 qm 42 61])))) [.keep [0, 7, 40, 41, 42] [(.x 0), (.s 7)]]))))) (sr [qm 62 0,qo 63 (.load 7 4 true),qo 64 (.nilck 62),qo 65 (.fa 64 35),qp (.store 65 63 4)] (.seq (.drw [] (oR 10) [9] (List.range 9) [qm 66 0,qo 67 (.nilck 66),qo 68 (.fa 67 39),qo 69 (.idxArr 68 (iC 0) 1 2),qo 70 (ld 69),qo 71 (.bin .add .num 70 (iC 1)),qo 72 (.nilck 66),
 qo 73 (.fa 72 39),qo 74 (.idxArr 73 (iC 0) 1 2),qp (.store 74 71 1)]) (.seq (.drw [] (oR 10) [9] (List.range 9) [qm 75 0,qo 76 (.nilck 75),qo 77 (.fa 76 39),qo 78 (.idxArr 77 (iC 1) 1 2),qo 79 (ld 78),qo 80 (.bin .add .num 79 (iC 1)),qo 81 (.nilck 75),qo 82 (.fa 81 39),qo 83 (.idxArr 82 (iC 1) 1 2),qp (.store 83 80 1)]) (sr [qo 6 (.mv (iC 0))] .ret)))))))))))⟩
theorem w1069 {O : Oracle TT} (fuel : Nat) (h11 : C11 O (f11 fuel)) (h1045 : C1045 O (f1045 fuel)) (h1070 : C1070 O (f1070 fuel)) : C1069 (fun _ => vcF (S := SS) O j1069) (f1069 fuel) := by
 intro k9 nA sB fC kG nH sI fJ lO vP sQ vS vU sV lW vY sZ s00 l01 v02 v03 v04 v05 v06 v07 s08 l09 l0A l0B v0C s0D s0E l0F v0G v0H v0I v0J v0K v0L s0M l0N l0O l0P v0Q v0R s0S l0T v0U v0V Q R hQ h
 unfold f1069 at h
 refine ⟨nle rfl, rfl, ?_⟩
 refine kL [(.x 0)] (h1070 _ _ _ _ _ _ _ _ _ _ _ _ _ _ _ _ _ _ _ _ _ _ _ _ _ _ _ _ _ _ _ _ _ _ _ _ _ _ _ _ _ _ _ _ _ _ _ _ _ _ _ _ ?_ (sb h))
 rintro k0W n0X s0Y f0Z v14 h
 refine kc h ?_ ?_ <;> intro h
 refine kL [(.x 0)] (h1070 _ _ _ _ _ _ _ _ _ _ _ _ _ _ _ _ _ _ _ _ _ _ _ _ _ _ _ _ _ _ _ _ _ _ _ _ _ _ _ _ _ _ _ _ _ _ _ _ _ _ _ _ ?_ (sb h))
 rintro k15 n17 s18 f19 v1A h
 refine kc h ?_ ?_ <;> intro h
 refine kL [] (h11 _ _ _ _ _ _ _ _ _ _ ?_ (sb h))
 rintro q11 h
 cases q11
 replace h := cf h
 exact kR [] (ND 1) (hQ _ _ _ _ _ _ _ (ss h))
 replace h := ct h
 obtain ⟨R6, h, a6, b6⟩ := sc h
 refine kX (fun σ => R6 (.inr ()) ∧ σ = ⟨[(0, pX 0), pT 7], [eV (.x 0) [.isl .dfn lO, ci vP, .str sQ, ci vS, ci vU, .str sV, .isl .part lW, ci vY, .str sZ, .str s00, .isl .str l01, ci v02, ci v03, ci v04, .int .u8 v05, ci v06, ci v07, .str s08, .isl .fld l09, .isl .two l0A, .isl .lens l0B, ci v0C, .str s0D, .str s0E, .isl .str l0F, ci v0G, ci v0H, ci v0I, .int .u8 v0J, ci v0K, ci v0L, .str s0M, .isl .fld l0N, .isl .two l0O, .isl .lens l0P, ci v0Q, ci v0R, .str s0S, .isl .fld l0T, ci v0U, ci v0V], eV (.s 7) [ci k0W, ci n0X, .str s0Y, .isl .fld f0Z]]⟩) ?_ ?_
 intro hl12
 refine kX (fun σ n => ∃ (rem5 : List V) (j8 : Nat) (z : Int), n = rem5.length ∧ ([(V.mk k9 nA sB fC), (V.mk kG nH sI fJ)] : List V).drop j8 = rem5 ∧ z = ((j8 : Nat) : Int) ∧ sat (f1069_L2 fuel lO vP sQ vS vU sV lW vY sZ s00 l01 v02 v03 v04 v05 v06 v07 s08 l09 l0A l0B v0C s0D s0E l0F v0G v0H v0I v0J v0K v0L s0M l0N l0O l0P v0Q v0R s0S l0T v0U v0V k0W n0X s0Y f0Z rem5 j8) R6 ∧ σ.keep [0, 7, 40, 41, 42] [(.x 0), (.s 7)] = ⟨[(0, pX 0), pT 7, (40, .c (.isl .val ([(V.mk k9 nA sB fC), (V.mk kG nH sI fJ)] : List V))), (41, iD ((([(V.mk k9 nA sB fC), (V.mk kG nH sI fJ)] : List V).length : Nat) : Int)), (42, iD z)], [eV (.x 0) [.isl .dfn lO, ci vP, .str sQ, ci vS, ci vU, .str sV, .isl .part lW, ci vY, .str sZ, .str s00, .isl .str l01, ci v02, ci v03, ci v04, .int .u8 v05, ci v06, ci v07, .str s08, .isl .fld l09, .isl .two l0A, .isl .lens l0B, ci v0C, .str s0D, .str s0E, .isl .str l0F, ci v0G, ci v0H, ci v0I, .int .u8 v0J, ci v0K, ci v0L, .str s0M, .isl .fld l0N, .isl .two l0O, .isl .lens l0P, ci v0Q, ci v0R, .str s0S, .isl .fld l0T, ci v0U, ci v0V], eV (.s 7) [ci k0W, ci n0X, .str s0Y, .isl .fld f0Z]]⟩) ⟨_, ([(V.mk k9 nA sB fC), (V.mk kG nH sI fJ)] : List V), 0, _, rfl, rfl, rfl, h, rfl⟩ ?_
 rintro σ n ⟨rem5, j8, _, rfl, hrem5, rfl, h, hσ⟩
 refine kk hσ ?_
 intro tK (htK : tK = decide (((j8 : Nat) : Int) < ((([(V.mk k9 nA sB fC), (V.mk kG nH sI fJ)] : List V).length : Nat) : Int)))
 cases tK
 obtain rfl := ll_nil hrem5 htK
 rw [f1069_L2] at h
 conv => whnf
 exact ⟨ss h, rfl⟩
 obtain ⟨xM, tlN, rfl, hxM, htlN⟩ := ll_cons hrem5 htK
 obtain ⟨k1B, n1C, s1D, f1E⟩ := xM
 rw [f1069_L2] at h
 conv => whnf
 refine ⟨lx_bd hxM, fun uu10 huu10 => ?_⟩
 obtain rfl := lx_eq hxM huu10
 refine kL [(.x 0)] (h1045 _ _ _ _ _ _ _ _ _ _ _ _ _ _ _ _ _ _ _ _ _ _ _ _ _ _ _ _ _ _ _ _ _ _ _ _ _ _ _ _ _ _ _ _ _ _ _ _ ?_ (sb h))
 rintro k1F n1G s1H f1I v1J h
 refine kc h ?_ ?_ <;> intro h
 refine kL [] (h11 _ _ _ _ _ _ _ _ _ _ ?_ (sb h))
 rintro q13 h
 cases q13
 replace h := cf h
 replace h := sat_lft a6 h
 exact kR [] (ND 1) (hQ _ _ _ _ _ _ _ (ss h))
 replace h := ct h
 conv => whnf
 exact ⟨tlN.length, nls, tlN, j8 + 1, _, rfl, htlN, lx_wr hxM hl12, h, rfl⟩
 exact (sat_none h).elim
 rintro _ ⟨h, rfl⟩
 replace h := b6 _ h
 conv => whnf
 refine ⟨⟨by decide, by decide⟩, ?_⟩
 conv => whnf
 refine ⟨⟨by decide, by decide⟩, ?_⟩
 conv => whnf
 refine ⟨⟨by decide, by decide⟩, ?_⟩
 conv => whnf
 refine ⟨⟨by decide, by decide⟩, ?_⟩
 exact kR [] (ND 1) (hQ _ _ _ _ _ _ _ (ss h))
 exact (sat_none h).elim
 exact (sat_none h).elim
def f1071 (fuel : Nat) : PT → Int → BA → Int → Int → BA → PT → Int → BA → BA → LB → Int → Int → Int → Int → Int → Int → BA → FV → LW → (List Ln) → Int → BA → BA → LB → Int → Int → Int → Int → Int → Int → BA → FV → LW → (List Ln) → Int → Int → BA → FV → Int → Int → Option (V)
  | lF, vG, sH, vI, vJ, sK, lM, vN, sO, sP, lQ, vS, vT, vU, vV, vW, vY, sZ, l00, l01, l02, v03, s04, s05, l06, v07, v08, v09, v0A, v0B, v0C, s0D, l0E, l0F, l0G, v5, v6, s7, l8, v0H, v0I => (f57 fuel (V.mk v5 v6 s7 l8)).bind fun (.mk k9 nA sB fC) => some (V.mk k9 nA sB fC)
def C1071 (O : Oracle TT) (m : PT → Int → BA → Int → Int → BA → PT → Int → BA → BA → LB → Int → Int → Int → Int → Int → Int → BA → FV → LW → (List Ln) → Int → BA → BA → LB → Int → Int → Int → Int → Int → Int → BA → FV → LW → (List Ln) → Int → Int → BA → FV → Int → Int → Option (V)) : Prop :=
  ∀ l5 v6 s7 v8 v9 sA lB vC sF sG lH vI vJ vK vM vN vO sP lQ lS lT vU sV sW lY vZ v00 v01 v02 v03 v04 s05 l06 l07 l08 v09 v0A s0B l0C v0D v0E (Q : V → Prop) (R : RR) (_ : ∀ k0F n0G s0H f0I, Q (V.mk k0F n0G s0H f0I) → R (.agg [ci k0F, ci n0G, .str s0H, .isl .fld f0I]) [eV (.x 0) [.isl .dfn l5, ci v6, .str s7, ci v8, ci v9, .str sA, .isl .part lB, ci vC, .str sF, .str sG, .isl .str lH, ci vI, ci vJ, ci vK, .int .u8 vM, ci vN, ci vO, .str sP, .isl .fld lQ, .isl .two lS, .isl .lens lT, ci vU, .str sV, .str sW, .isl .str lY, ci vZ, ci v00, ci v01, .int .u8 v02, ci v03, ci v04, .str s05, .isl .fld l06, .isl .two l07, .isl .lens l08, ci v09, ci v0A, .str s0B, .isl .fld l0C, ci v0D, ci v0E]]) (_ : sat (m l5 v6 s7 v8 v9 sA lB vC sF sG lH vI vJ vK vM vN vO sP lQ lS lT vU sV sW lY vZ v00 v01 v02 v03 v04 s05 l06 l07 l08 v09 v0A s0B l0C v0D v0E) Q), O 1071 [pX 0] [eV (.x 0) [.isl .dfn l5, ci v6, .str s7, ci v8, ci v9, .str sA, .isl .part lB, ci vC, .str sF, .str sG, .isl .str lH, ci vI, ci vJ, ci vK, .int .u8 vM, ci vN, ci vO, .str sP, .isl .fld lQ, .isl .two lS, .isl .lens lT, ci vU, .str sV, .str sW, .isl .str lY, ci vZ, ci v00, ci v01, .int .u8 v02, ci v03, ci v04, .str s05, .isl .fld l06, .isl .two l07, .isl .lens l08, ci v09, ci v0A, .str s0B, .isl .fld l0C, ci v0D, ci v0E]] R
def j1071 : Fn TT := ⟨8, [.cell 2 4 true], (sr [qo 2 (.alloc 2 zV)] (sr [qm 3 0,qo 4 (.nilck 3),qo 5 (.fa 4 35),qo 6 (.load 5 4 true),qo 7 (.call 7 57 [6]),qp (.store 2 7 4)] .ret))⟩
theorem w1071 {O : Oracle TT} (fuel : Nat) (h57 : C57 O (f57 fuel)) : C1071 (fun _ => vcF (S := SS) O j1071) (f1071 fuel) := by
 intro l5 v6 s7 v8 v9 sA lB vC sF sG lH vI vJ vK vM vN vO sP lQ lS lT vU sV sW lY vZ v00 v01 v02 v03 v04 s05 l06 l07 l08 v09 v0A s0B l0C v0D v0E Q R hQ h
 unfold f1071 at h
 refine ⟨nle rfl, rfl, ?_⟩
 refine kL [] (h57 _ _ _ _ _ _ ?_ (sb h))
 rintro k0F n0G s0H f0I h
 exact kR [] (ND 1) (hQ _ _ _ _ (ss h))
def f1028 (fuel : Nat) : Int → Int → Int → Int → Option (Bool)
  | v1Z, v20, v21, v22 => sbind (ο := Int × Int × Int × Int) ((f26 v1Z (10 : Int)).bind fun v23 => (f26 v20 (10 : Int)).bind fun v24 => (f26 v21 (10 : Int)).bind fun v25 => (f26 v22 (10 : Int)).bind fun v26 => some (.inr (v23, v24, v25, v26))) (fun (v8, v6, v5, v7) => sbind (ο := Int × BA × BA × LB × Int × Int × Int × Int × Int × Int × BA × FV × LW × (List Ln) × Int × Int × BA × FV) ((f325).bind fun (.mk op27 nm28 to29 ns2A n2B lo2C hi2D sep2E (.mk k2F n2G s2H f2I) prs2J ks2K) => (f44 (0 : Int)).bind fun (.mk k2L n2M s2N f2O) => some (.inr (op27, nm28, to29, ns2A, n2B, lo2C, hi2D, sep2E, k2F, n2G, s2H, f2I, prs2J, ks2K, k2L, n2M, s2N, f2O))) (fun (v9, sA, sB, lC, vF, vG, vH, vI, vJ, vK, sM, lN, lO, lP, v2P, v2Q, s2R, l2S) => sbind (ο := Int × BA × Int × Int × BA × PT) ((f1029).bind fun (.mk k2T m2U lo2V hi2W p2X ps2Y) => some (.inr (k2T, m2U, lo2V, hi2W, p2X, ps2Y))) (fun (v2Z, s30, v31, v32, s33, l34) => sbind (ο := Int × BA × Int × Int × BA × PT) ((f1029).bind fun (.mk k35 m36 lo37 hi38 p39 ps3A) => some (.inr (k35, m36, lo37, hi38, p39, ps3A))) (fun (v3B, s3C, v3D, v3E, s3F, l3G) => sbind (ο := Int × PT × Int × BA × Int × Int × BA × PT × Int × BA × BA × LB × Int × Int × Int × Int × Int × Int × BA × FV × LW × (List Ln) × Int × BA × BA × LB × Int × Int × Int × Int × Int × Int × BA × FV × LW × (List Ln) × Int × Int × BA × FV × Int × Int) ((f30 v8 v6).bind fun (.mk k3H n3I s3J f3K) => (f1030 fuel [] v2Z s30 v31 v32 s33 l34 v9 sA sB lC vF vG vH vI vJ vK sM lN lO lP (4 : Int) (⟨#[97]⟩ : BA) (⟨#[]⟩ : BA) [] (0 : Int) (0 : Int) (0 : Int) (0 : Int) v2P v2Q s2R l2S [] [] (V.mk k3H n3I s3J f3K)).bind fun (v3L, l3M, v3N, s3O, v3P, v3Q, s3R, l3S, v3T, s3U, s3V, l3W, v3X, v3Y, v3Z, v40, v41, v42, s43, l44, l45, l46, v47, s48, s49, l4A, v4B, v4C, v4D, v4E, v4F, v4G, s4H, l4I, l4J, l4K, v4L, v4M, s4N, l4O, v4P, v4Q) => some (.inr (v3L, l3M, v3N, s3O, v3P, v3Q, s3R, l3S, v3T, s3U, s3V, l3W, v3X, v3Y, v3Z, v40, v41, v42, s43, l44, l45, l46, v47, s48, s49, l4A, v4B, v4C, v4D, v4E, v4F, v4G, s4H, l4I, l4J, l4K, v4L, v4M, s4N, l4O, v4P, v4Q))) (fun (v4R, l0T, v0U, s0V, v0W, v0X, s0Y, l0Z, v10, s11, s12, l13, v14, v15, v16, v17, v18, v19, s1A, l1B, l1C, l1D, v1E, s1F, s1G, l1H, v1I, v1J, v1K, v1L, v1M, v1N, s1O, l1P, l1Q, l1R, v4S, v4T, s4U, l4V, v4W, v4X) => sbind (ο := Int × PT × Int × BA × Int × Int × BA × PT × Int × BA × BA × LB × Int × Int × Int × Int × Int × Int × BA × FV × LW × (List Ln) × Int × BA × BA × LB × Int × Int × Int × Int × Int × Int × BA × FV × LW × (List Ln) × Int × Int × BA × FV × Int × Int) ((f30 v8 v6).bind fun (.mk k4Y n4Z s50 f51) => (f1030 fuel [] v3B s3C v3D v3E s3F l3G v9 sA sB lC vF vG vH vI vJ vK sM lN lO lP v9 sA sB lC vF vG vH vI vJ vK sM lN lO lP (V.mk k4Y n4Z s50 f51)).bind fun (v52, l53, v54, s55, v56, v57, s58, l59, v5A, s5B, s5C, l5D, v5E, v5F, v5G, v5H, v5I, v5J, s5K, l5L, l5M, l5N, v5O, s5P, s5Q, l5R, v5S, v5T, v5U, v5V, v5W, v5X, s5Y, l5Z, l60, l61, v62, v63, s64, l65, v66, v67) => some (.inr (v52, l53, v54, s55, v56, v57, s58, l59, v5A, s5B, s5C, l5D, v5E, v5F, v5G, v5H, v5I, v5J, s5K, l5L, l5M, l5N, v5O, s5P, s5Q, l5R, v5S, v5T, v5U, v5V, v5W, v5X, s5Y, l5Z, l60, l61, v62, v63, s64, l65, v66, v67))) (fun (v68, lQ, vU, sV, vW, vY, sZ, l00, v01, s02, s03, l04, v05, v06, v07, v08, v09, v0A, s0B, l0C, l0D, l0E, v0F, s0G, s0H, l0I, v0J, v0K, v0L, v0M, v0N, v0O, s0P, l0Q, l0R, l0S, v69, v6A, s6B, l6C, v6D, v6E) => (f1057 fuel).bind fun q6F => cond q6F (cond (v4R != 0) (some false) (cond (v68 != 0) (some false) (sbind (ο := Int × Int × Int × BA × FV × Int × Int) ((f1068 (⟨#[97]⟩ : BA) v5).bind fun (.mk k6G n6H s6I f6J) => (f1068 (⟨#[98]⟩ : BA) v7).bind fun (.mk k6K n6L s6M f6N) => (f1069 fuel (V.mk k6G n6H s6I f6J) (V.mk k6K n6L s6M f6N) l0T v0U s0V v0W v0X s0Y l0Z v10 s11 s12 l13 v14 v15 v16 v17 v18 v19 s1A l1B l1C l1D v1E s1F s1G l1H v1I v1J v1K v1L v1M v1N s1O l1P l1Q l1R v4S v4T s4U l4V v4W v4X).bind fun (v6O, v6P, v6Q, s6R, l6S, v6T, v6U) => some (.inr (v6O, v6P, v6Q, s6R, l6S, v6T, v6U))) (fun (v6V, v6W, v6X, s6Y, l6Z, v70, v71) => sbind (ο := Int × Int × Int × BA × FV × Int × Int) ((f1068 (⟨#[97]⟩ : BA) v5).bind fun (.mk k72 n73 s74 f75) => (f1068 (⟨#[97]⟩ : BA) v7).bind fun (.mk k76 n77 s78 f79) => (f1069 fuel (V.mk k72 n73 s74 f75) (V.mk k76 n77 s78 f79) lQ vU sV vW vY sZ l00 v01 s02 s03 l04 v05 v06 v07 v08 v09 v0A s0B l0C l0D l0E v0F s0G s0H l0I v0J v0K v0L v0M v0N v0O s0P l0Q l0R l0S v69 v6A s6B l6C v6D v6E).bind fun (v7A, v7B, v7C, s7D, l7E, v7F, v7G) => some (.inr (v7A, v7B, v7C, s7D, l7E, v7F, v7G))) (fun (v1S, v1T, v1U, s1V, l1W, v1X, v1Y) => sbind (ο := Bool) (cond (v1S == 17) ((f1071 fuel lQ vU sV vW vY sZ l00 v01 s02 s03 l04 v05 v06 v07 v08 v09 v0A s0B l0C l0D l0E v0F s0G s0H l0I v0J v0K v0L v0M v0N v0O s0P l0Q l0R l0S v1T v1U s1V l1W v1X v1Y).bind fun (.mk k7H n7I s7J f7K) => (f30 v8 v6).bind fun (.mk k7L n7M s7N f7O) => (f11 fuel (V.mk k7H n7I s7J f7K) (V.mk k7L n7M s7N f7O)).bind fun q7P => some (.inr q7P)) (some (.inr false))) (fun q7Q => sbind (ο := Bool) (cond (v5 == v7) (cond (v1S == 0) ((f1071 fuel lQ vU sV vW vY sZ l00 v01 s02 s03 l04 v05 v06 v07 v08 v09 v0A s0B l0C l0D l0E v0F s0G s0H l0I v0J v0K v0L v0M v0N v0O s0P l0Q l0R l0S v1T v1U s1V l1W v1X v1Y).bind fun (.mk k7R n7S s7T f7U) => (f30 v5 v6).bind fun (.mk k7V n7W s7X f7Y) => (f11 fuel (V.mk k7R n7S s7T f7U) (V.mk k7V n7W s7X f7Y)).bind fun q7Z => some (.inr q7Z)) (some (.inr false))) (some (.inr q7Q))) (fun q80 => cond q80 (cond (v6V == 0) ((f1071 fuel l0T v0U s0V v0W v0X s0Y l0Z v10 s11 s12 l13 v14 v15 v16 v17 v18 v19 s1A l1B l1C l1D v1E s1F s1G l1H v1I v1J v1K v1L v1M v1N s1O l1P l1Q l1R v6W v6X s6Y l6Z v70 v71).bind fun (.mk k81 n82 s83 f84) => (f30 v5 v7).bind fun (.mk k85 n86 s87 f88) => (f11 fuel (V.mk k81 n82 s83 f84) (V.mk k85 n86 s87 f88)).bind fun q89 => some q89) (some false)) (some false)))))))) (some false)))))))
def C1028 (O : Oracle TT) (m : Int → Int → Int → Int → Option (Bool)) : Prop :=
  ∀ v0 v5 v6 v7 (Q : Bool → Prop) (R : RR) (_ : ∀ q8, Q q8 → R (bD q8) []) (_ : sat (m v0 v5 v6 v7) Q), O 1028 [iD v0, iD v5, iD v6, iD v7] [] R
def j1028 : Fn TT := ⟨116, [.t 8], (sr [qm 8 bF] (.cut [0, 1, 2, 3] [] (.reg [qm 19 0,qo 20 (.call 20 26 [19, (iC 10)]),qm 21 1,qo 22 (.call 22 26 [21, (iC 10)]),qm 23 2,qo 24 (.call 24 26 [23, (iC 10)]),qm 25 3,qo 26 (.call 26 26 [25, (iC 10)]),qm 0 20,qm 1 22,qm 2 24,qm 3 26])
 (.cut [0, 1, 2, 3, 9, 10] [(.s 9), (.s 10)] (.reg [qo 27 (.call 27 325 []),qo 28 (.call 28 44 [(iC 0)]),qo 29 (.build zLn [((0, 1), (iC 4)), ((1, 1), (.c (.str (⟨#[97]⟩ : BA)))), ((8, 4), 28)]),qo 9 (.alloc 9 zLn),qo 10 (.alloc 10 zLn),qp (.store 9 27 14),qp (.store 10 29 14)]) (.cut [0, 1, 2, 3, 9, 11] [(.s 9), (.s 11)]
 (.drw [] (.go 1 (.go 2 (.alt 0 (.go 3 (.go 4 (.go 5 .nil))) 4 (.go 0 (.go 3 (.go 5 .nil)))))) [5] [1, 2, 3] [qo 30 (.call 30 1029 []),qo 31 (.load 9 14 true),qo 32 (.load 10 14 true),
 qo 33 (.build [.int .i64 0, .str eB, .int .i64 0, .int .i64 0, .str eB, .isl .part [], .int .i64 0, .str eB, .str eB, .isl .str [], .int .i64 0, .int .i64 0, .int .i64 0, .int .u8 0, .int .i64 0, .int .i64 0, .str eB, .isl .fld [], .isl .two [], .isl .lens [], .int .i64 0, .str eB, .str eB, .isl .str [], .int .i64 0, .int .i64 0, .int .i64 0, .int .u8 0, .int .i64 0, .int .i64 0, .str eB, .isl .fld [], .isl .two [], .isl .lens []] [((0, 6), 30), ((6, 14), 31), ((20, 14), 32)]),
 qo 11 (.alloc 11 [.int .i64 0, .str eB, .int .i64 0, .int .i64 0, .str eB, .isl .part [], .int .i64 0, .str eB, .str eB, .isl .str [], .int .i64 0, .int .i64 0, .int .i64 0, .int .u8 0, .int .i64 0, .int .i64 0, .str eB, .isl .fld [], .isl .two [], .isl .lens [], .int .i64 0, .str eB, .str eB, .isl .str [], .int .i64 0, .int .i64 0, .int .i64 0, .int .u8 0, .int .i64 0, .int .i64 0, .str eB, .isl .fld [], .isl .two [], .isl .lens []]),
 qp (.store 11 33 34)]) (.cut [0, 1, 2, 3, 11, 12] [(.s 11), (.s 12)] (.drw [] (.go 1 (.go 2 (.alt 0 (.go 3 (.go 4 (.go 5 .nil))) 4 (.go 0 (.go 3 (.go 5 .nil)))))) [5] [1, 2, 3] [qo 34 (.call 34 1029 []),qo 35 (.load 9 14 true),qo 36 (.load 9 14 true),
 qo 37 (.build [.int .i64 0, .str eB, .int .i64 0, .int .i64 0, .str eB, .isl .part [], .int .i64 0, .str eB, .str eB, .isl .str [], .int .i64 0, .int .i64 0, .int .i64 0, .int .u8 0, .int .i64 0, .int .i64 0, .str eB, .isl .fld [], .isl .two [], .isl .lens [], .int .i64 0, .str eB, .str eB, .isl .str [], .int .i64 0, .int .i64 0, .int .i64 0, .int .u8 0, .int .i64 0, .int .i64 0, .str eB, .isl .fld [], .isl .two [], .isl .lens []] [((0, 6), 34), ((6, 14), 35), ((20, 14), 36)]),
 qo 12 (.alloc 12 [.int .i64 0, .str eB, .int .i64 0, .int .i64 0, .str eB, .isl .part [], .int .i64 0, .str eB, .str eB, .isl .str [], .int .i64 0, .int .i64 0, .int .i64 0, .int .u8 0, .int .i64 0, .int .i64 0, .str eB, .isl .fld [], .isl .two [], .isl .lens [], .int .i64 0, .str eB, .str eB, .isl .str [], .int .i64 0, .int .i64 0, .int .i64 0, .int .u8 0, .int .i64 0, .int .i64 0, .str eB, .isl .fld [], .isl .two [], .isl .lens []]),
 qp (.store 12 37 34)]) (.cut [0, 1, 2, 3, 12, 13, 14] [(.s 12), (.sub (.s 43) 0)] (.drw [] (oR 10) [] [0, 1, 2, 5, 6, 7, 8, 9] [qo 39 (.load 11 34 true),qm 40 0,qm 41 1,qo 42 (.call 42 30 [40, 41]),qo 43 (.call 43 1030 [(.c (.isl .dfn [])), 39, 42]),qm 38 43,qo 44 (.ext 38 0),qo 45 (.ext 38 1),qm 13 44,qm 14 45])
 (.cut [0, 1, 2, 3, 13, 14, 15, 16] [(.sub (.s 43) 0), (.sub (.s 51) 0)] (.drw [] (oR 10) [] [0, 1, 2, 5, 6, 7, 8, 9] [qo 47 (.load 12 34 true),qm 48 0,qm 49 1,qo 50 (.call 50 30 [48, 49]),qo 51 (.call 51 1030 [(.c (.isl .dfn [])), 47, 50]),qm 46 51,qo 52 (.ext 46 0),qo 53 (.ext 46 1),qm 15 52,qm 16 53]) (.seq (sr [qo 54 (.call 54 1057 []),
 qo 55 (.un .not 54),qm 56 55,qf 56 57 (.mv 14),qf 56 58 (.bin .neq .num 57 (iC 0)),qo 59 (.pick 56 bT 58),qm 60 59,qf 60 61 (.mv 16),qf 60 62 (.bin .neq .num 61 (iC 0)),qo 63 (.pick 60 bT 62)] (.cond 63 (sr [qm 8 bF] .ret) .skip)) (sr [qo 17 (.mv (.c (.fn 1068 [])))] (.cut [0, 1, 2, 3, 13, 14, 15, 17] [(.sub (.s 43) 0), (.sub (.s 51) 0)]
 (.reg [qm 64 13,qm 65 17,qm 66 2,qo 67 (.callv 67 65 [(.c (.str (⟨#[97]⟩ : BA))), 66]),qm 68 17,qm 69 3,qo 70 (.callv 70 68 [(.c (.str (⟨#[98]⟩ : BA))), 69]),qo 71 (.call 71 1069 [64, 67, 70]),qm 14 71]) (.cut [0, 1, 2, 3, 13, 14, 15, 16] [(.sub (.s 43) 0), (.sub (.s 51) 0)] (.reg [qm 72 15,qm 73 17,qm 74 2,
 qo 75 (.callv 75 73 [(.c (.str (⟨#[97]⟩ : BA))), 74]),qm 76 17,qm 77 3,qo 78 (.callv 78 76 [(.c (.str (⟨#[97]⟩ : BA))), 77]),qo 79 (.call 79 1069 [72, 75, 78]),qm 16 79]) (.cut [1, 2, 3, 13, 14, 15, 16, 18] [(.sub (.s 43) 0), (.sub (.s 51) 0)] (.reg [qm 80 16,qo 81 (.bin .eql .num 80 (iC 17)),qm 82 81,qg 82 83 (.mv 15),
 qg 82 84 (.call 84 1071 [83]),qg 82 85 (.mv 0),qg 82 86 (.mv 1),qg 82 87 (.call 87 30 [85, 86]),qg 82 88 (.call 88 11 [84, 87]),qo 89 (.pick 82 88 bF),qm 18 89]) (.cut [2, 3, 13, 14, 18] [(.sub (.s 43) 0)] (sr [qm 90 2,qm 91 3,qo 92 (.bin .eql .num 90 91)] (.cond 92 (.reg [qm 93 16,qo 94 (.bin .eql .num 93 (iC 0)),qm 95 94,qg 95 96 (.mv 15),
 qg 95 97 (.call 97 1071 [96]),qg 95 98 (.mv 2),qg 95 99 (.mv 1),qg 95 100 (.call 100 30 [98, 99]),qg 95 101 (.call 101 11 [97, 100]),qo 102 (.pick 95 101 bF),qm 18 102]) .skip)) (sr [qm 103 18,qm 104 103,qg 104 105 (.mv 14),qg 104 106 (.bin .eql .num 105 (iC 0)),qo 107 (.pick 104 106 bF),qm 108 107,qg 108 109 (.mv 13),qg 108 110 (.call 110 1071 [109]),
 qg 108 111 (.mv 2),qg 108 112 (.mv 3),qg 108 113 (.call 113 30 [111, 112]),qg 108 114 (.call 114 11 [110, 113]),qo 115 (.pick 108 114 bF),qm 8 115] .ret))))))))))))))⟩
theorem w1028 {O : Oracle TT} (fuel : Nat) (h26 : C26 O f26) (h325 : C325 O f325) (h44 : C44 O f44) (h1029 : C1029 O f1029) (h30 : C30 O f30) (h11 : C11 O (f11 fuel)) (h1030 : C1030 O (f1030 fuel)) (h1057 : C1057 O (f1057 fuel)) (h1068 : C1068 O f1068) (h1069 : C1069 O (f1069 fuel)) (h1071 : C1071 O (f1071 fuel)) : C1028 (fun _ => vcF (S := SS) O j1028) (f1028 fuel) := by
 intro v7H v7I v7J v7K Q R hQ h
 unfold f1028 at h
 refine ⟨nle rfl, rfl, ?_⟩
 obtain ⟨R25, h, a25, b25⟩ := sc h
 refine kX (fun σ => ∃ v8 v7 v5 v6, R25 (.inr (v8, v7, v5, v6)) ∧ σ = ⟨[(0, iD v8), (1, iD v7), (2, iD v5), (3, iD v6)], []⟩) ?_ ?_
 refine kL [] (h26 _ _ _ _ ?_ (sb h))
 rintro v3E h
 refine kL [] (h26 _ _ _ _ ?_ (sb h))
 rintro v3F h
 refine kL [] (h26 _ _ _ _ ?_ (sb h))
 rintro v3G h
 refine kL [] (h26 _ _ _ _ ?_ (sb h))
 rintro v3H h
 conv => whnf
 exact ⟨v3E, v3F, v3G, v3H, ss h, rfl⟩
 rintro _ ⟨v8, v7, v5, v6, h, rfl⟩
 replace h := b25 _ h
 obtain ⟨R26, h, a26, b26⟩ := sc h
 refine kX (fun σ => ∃ v9 sA sB lC vG vH vI vJ vK vM sN lO lP lQ v21 v22 s23 l24, R26 (.inr (v9, sA, sB, lC, vG, vH, vI, vJ, vK, vM, sN, lO, lP, lQ, v21, v22, s23, l24)) ∧ σ = ⟨[(0, iD v8), (1, iD v7), (2, iD v5), (3, iD v6), pT 9, pT 10], [eV (.s 9) [ci v9, .str sA, .str sB, .isl .str lC, ci vG, ci vH, ci vI, .int .u8 vJ, ci vK, ci vM, .str sN, .isl .fld lO, .isl .two lP, .isl .lens lQ], eV (.s 10) [ci 4, .str (⟨#[97]⟩ : BA), .str eB, .isl .str [], ci 0, ci 0, ci 0, .int .u8 0, ci v21, ci v22, .str s23, .isl .fld l24, .isl .two [], .isl .lens []]]⟩) ?_ ?_
 refine kL [] (h325 _ _ ?_ (sb h))
 rintro op3I nm3J to3K ns3L n3M lo3N hi3O sep3P k3Q n3R s3S f3T prs3U ks3V h
 refine kL [] (h44 _ _ _ ?_ (sb h))
 rintro k3W n3X s3Y f3Z h
 conv => whnf
 exact ⟨op3I, nm3J, to3K, ns3L, n3M, lo3N, hi3O, sep3P, k3Q, n3R, s3S, f3T, prs3U, ks3V, k3W, n3X, s3Y, f3Z, ss h, rfl⟩
 rintro _ ⟨v9, sA, sB, lC, vG, vH, vI, vJ, vK, vM, sN, lO, lP, lQ, v21, v22, s23, l24, h, rfl⟩
 replace h := b26 _ h
 obtain ⟨R27, h, a27, b27⟩ := sc h
 refine kX (fun σ => ∃ v28 s29 v2A v2B s2C l2D, R27 (.inr (v28, s29, v2A, v2B, s2C, l2D)) ∧ σ = ⟨[(0, iD v8), (1, iD v7), (2, iD v5), (3, iD v6), pT 9, pT 11], [eV (.s 9) [ci v9, .str sA, .str sB, .isl .str lC, ci vG, ci vH, ci vI, .int .u8 vJ, ci vK, ci vM, .str sN, .isl .fld lO, .isl .two lP, .isl .lens lQ], eV (.s 11) [ci v28, .str s29, ci v2A, ci v2B, .str s2C, .isl .part l2D, ci v9, .str sA, .str sB, .isl .str lC, ci vG, ci vH, ci vI, .int .u8 vJ, ci vK, ci vM, .str sN, .isl .fld lO, .isl .two lP, .isl .lens lQ, ci 4, .str (⟨#[97]⟩ : BA), .str eB, .isl .str [], ci 0, ci 0, ci 0, .int .u8 0, ci v21, ci v22, .str s23, .isl .fld l24, .isl .two [], .isl .lens []]]⟩) ?_ ?_
 conv => whnf
 refine ⟨?_, ?_⟩
 refine kL [] (h1029 _ _ ?_ (sb h))
 rintro k40 m41 lo42 hi43 p44 ps45 h
 conv => whnf
 exact ⟨k40, m41, lo42, hi43, p44, ps45, ss h, rfl⟩
 refine kL [] (h1029 _ _ ?_ (sb h))
 rintro k46 m47 lo48 hi49 p4A ps4B h
 conv => whnf
 exact ⟨k46, m47, lo48, hi49, p4A, ps4B, ss h, rfl⟩
 rintro _ ⟨v28, s29, v2A, v2B, s2C, l2D, h, rfl⟩
 replace h := b27 _ h
 obtain ⟨R2E, h, a2E, b2E⟩ := sc h
 refine kX (fun σ => ∃ v2F s2G v2H v2I s2J l2K, R2E (.inr (v2F, s2G, v2H, v2I, s2J, l2K)) ∧ σ = ⟨[(0, iD v8), (1, iD v7), (2, iD v5), (3, iD v6), pT 11, pT 12], [eV (.s 11) [ci v28, .str s29, ci v2A, ci v2B, .str s2C, .isl .part l2D, ci v9, .str sA, .str sB, .isl .str lC, ci vG, ci vH, ci vI, .int .u8 vJ, ci vK, ci vM, .str sN, .isl .fld lO, .isl .two lP, .isl .lens lQ, ci 4, .str (⟨#[97]⟩ : BA), .str eB, .isl .str [], ci 0, ci 0, ci 0, .int .u8 0, ci v21, ci v22, .str s23, .isl .fld l24, .isl .two [], .isl .lens []], eV (.s 12) [ci v2F, .str s2G, ci v2H, ci v2I, .str s2J, .isl .part l2K, ci v9, .str sA, .str sB, .isl .str lC, ci vG, ci vH, ci vI, .int .u8 vJ, ci vK, ci vM, .str sN, .isl .fld lO, .isl .two lP, .isl .lens lQ, ci v9, .str sA, .str sB, .isl .str lC, ci vG, ci vH, ci vI, .int .u8 vJ, ci vK, ci vM, .str sN, .isl .fld lO, .isl .two lP, .isl .lens lQ]]⟩) ?_ ?_
 conv => whnf
 refine ⟨?_, ?_⟩
 refine kL [] (h1029 _ _ ?_ (sb h))
 rintro k4C m4D lo4E hi4F p4G ps4H h
 conv => whnf
 exact ⟨k4C, m4D, lo4E, hi4F, p4G, ps4H, ss h, rfl⟩
 refine kL [] (h1029 _ _ ?_ (sb h))
 rintro k4I m4J lo4K hi4L p4M ps4N h
 conv => whnf
 exact ⟨k4I, m4J, lo4K, hi4L, p4M, ps4N, ss h, rfl⟩
 rintro _ ⟨v2F, s2G, v2H, v2I, s2J, l2K, h, rfl⟩
 replace h := b2E _ h
 obtain ⟨R2L, h, a2L, b2L⟩ := sc h
 refine kX (fun σ => ∃ v2M lU vV sW vY vZ s00 l01 v02 s03 s04 l05 v06 v07 v08 v09 v0A v0B s0C l0D l0E l0F v0G s0H s0I l0J v0K v0L v0M v0N v0O v0P s0Q l0R l0S l0T v2N v2O s2P l2Q v2R v2S, R2L (.inr (v2M, lU, vV, sW, vY, vZ, s00, l01, v02, s03, s04, l05, v06, v07, v08, v09, v0A, v0B, s0C, l0D, l0E, l0F, v0G, s0H, s0I, l0J, v0K, v0L, v0M, v0N, v0O, v0P, s0Q, l0R, l0S, l0T, v2N, v2O, s2P, l2Q, v2R, v2S)) ∧ σ = ⟨[(0, iD v8), (1, iD v7), (2, iD v5), (3, iD v6), pT 12, (13, .c (.ptr (.sub (.s 43) 0) 0 0)), (14, iD v2M)], [eV (.s 12) [ci v2F, .str s2G, ci v2H, ci v2I, .str s2J, .isl .part l2K, ci v9, .str sA, .str sB, .isl .str lC, ci vG, ci vH, ci vI, .int .u8 vJ, ci vK, ci vM, .str sN, .isl .fld lO, .isl .two lP, .isl .lens lQ, ci v9, .str sA, .str sB, .isl .str lC, ci vG, ci vH, ci vI, .int .u8 vJ, ci vK, ci vM, .str sN, .isl .fld lO, .isl .two lP, .isl .lens lQ], eV (.sub (.s 43) 0) [.isl .dfn lU, ci vV, .str sW, ci vY, ci vZ, .str s00, .isl .part l01, ci v02, .str s03, .str s04, .isl .str l05, ci v06, ci v07, ci v08, .int .u8 v09, ci v0A, ci v0B, .str s0C, .isl .fld l0D, .isl .two l0E, .isl .lens l0F, ci v0G, .str s0H, .str s0I, .isl .str l0J, ci v0K, ci v0L, ci v0M, .int .u8 v0N, ci v0O, ci v0P, .str s0Q, .isl .fld l0R, .isl .two l0S, .isl .lens l0T, ci v2N, ci v2O, .str s2P, .isl .fld l2Q, ci v2R, ci v2S]]⟩) ?_ ?_
 refine kL [] (h30 _ _ _ _ ?_ (sb h))
 rintro k7L n7M s7N f7O h
 refine kL [] (h1030 _ _ _ _ _ _ _ _ _ _ _ _ _ _ _ _ _ _ _ _ _ _ _ _ _ _ _ _ _ _ _ _ _ _ _ _ _ _ _ _ _ ?_ (sb h))
 rintro v4O l4P v4Q s4R v4S v4T s4U l4V v4W s4X s4Y l4Z v50 v51 v52 v53 v54 v55 s56 l57 l58 l59 v5A s5B s5C l5D v5E v5F v5G v5H v5I v5J s5K l5L l5M l5N v5O v5P s5Q l5R v5S v5T h
 conv => whnf
 exact ⟨v4O, l4P, v4Q, s4R, v4S, v4T, s4U, l4V, v4W, s4X, s4Y, l4Z, v50, v51, v52, v53, v54, v55, s56, l57, l58, l59, v5A, s5B, s5C, l5D, v5E, v5F, v5G, v5H, v5I, v5J, s5K, l5L, l5M, l5N, v5O, v5P, s5Q, l5R, v5S, v5T, ss h, rfl⟩
 rintro _ ⟨v2M, lU, vV, sW, vY, vZ, s00, l01, v02, s03, s04, l05, v06, v07, v08, v09, v0A, v0B, s0C, l0D, l0E, l0F, v0G, s0H, s0I, l0J, v0K, v0L, v0M, v0N, v0O, v0P, s0Q, l0R, l0S, l0T, v2N, v2O, s2P, l2Q, v2R, v2S, h, rfl⟩
 replace h := b2L _ h
 obtain ⟨R2T, h, a2T, b2T⟩ := sc h
 refine kX (fun σ => ∃ v3D l0U v0V s0W v0X v0Y s0Z l10 v11 s12 s13 l14 v15 v17 v18 v19 v1A v1B s1C l1D l1E l1F v1G s1H s1I l1J v1K v1L v1M v1N v1O v1P s1Q l1R l1S l1T v2U v2V s2W l2X v2Y v2Z, R2T (.inr (v3D, l0U, v0V, s0W, v0X, v0Y, s0Z, l10, v11, s12, s13, l14, v15, v17, v18, v19, v1A, v1B, s1C, l1D, l1E, l1F, v1G, s1H, s1I, l1J, v1K, v1L, v1M, v1N, v1O, v1P, s1Q, l1R, l1S, l1T, v2U, v2V, s2W, l2X, v2Y, v2Z)) ∧ σ = ⟨[(0, iD v8), (1, iD v7), (2, iD v5), (3, iD v6), (13, .c (.ptr (.sub (.s 43) 0) 0 0)), (14, iD v2M), (15, .c (.ptr (.sub (.s 51) 0) 0 0)), (16, iD v3D)], [eV (.sub (.s 43) 0) [.isl .dfn lU, ci vV, .str sW, ci vY, ci vZ, .str s00, .isl .part l01, ci v02, .str s03, .str s04, .isl .str l05, ci v06, ci v07, ci v08, .int .u8 v09, ci v0A, ci v0B, .str s0C, .isl .fld l0D, .isl .two l0E, .isl .lens l0F, ci v0G, .str s0H, .str s0I, .isl .str l0J, ci v0K, ci v0L, ci v0M, .int .u8 v0N, ci v0O, ci v0P, .str s0Q, .isl .fld l0R, .isl .two l0S, .isl .lens l0T, ci v2N, ci v2O, .str s2P, .isl .fld l2Q, ci v2R, ci v2S], eV (.sub (.s 51) 0) [.isl .dfn l0U, ci v0V, .str s0W, ci v0X, ci v0Y, .str s0Z, .isl .part l10, ci v11, .str s12, .str s13, .isl .str l14, ci v15, ci v17, ci v18, .int .u8 v19, ci v1A, ci v1B, .str s1C, .isl .fld l1D, .isl .two l1E, .isl .lens l1F, ci v1G, .str s1H, .str s1I, .isl .str l1J, ci v1K, ci v1L, ci v1M, .int .u8 v1N, ci v1O, ci v1P, .str s1Q, .isl .fld l1R, .isl .two l1S, .isl .lens l1T, ci v2U, ci v2V, .str s2W, .isl .fld l2X, ci v2Y, ci v2Z]]⟩) ?_ ?_
 refine kL [] (h30 _ _ _ _ ?_ (sb h))
 rintro k7P n7Q s7R f7S h
 refine kL [] (h1030 _ _ _ _ _ _ _ _ _ _ _ _ _ _ _ _ _ _ _ _ _ _ _ _ _ _ _ _ _ _ _ _ _ _ _ _ _ _ _ _ _ ?_ (sb h))
 rintro v5U l5V v5W s5X v5Y v5Z s60 l61 v62 s63 s64 l65 v66 v67 v68 v69 v6A v6B s6C l6D l6E l6F v6G s6H s6I l6J v6K v6L v6M v6N v6O v6P s6Q l6R l6S l6T v6U v6V s6W l6X v6Y v6Z h
 conv => whnf
 exact ⟨v5U, l5V, v5W, s5X, v5Y, v5Z, s60, l61, v62, s63, s64, l65, v66, v67, v68, v69, v6A, v6B, s6C, l6D, l6E, l6F, v6G, s6H, s6I, l6J, v6K, v6L, v6M, v6N, v6O, v6P, s6Q, l6R, l6S, l6T, v6U, v6V, s6W, l6X, v6Y, v6Z, ss h, rfl⟩
 rintro _ ⟨v3D, l0U, v0V, s0W, v0X, v0Y, s0Z, l10, v11, s12, s13, l14, v15, v17, v18, v19, v1A, v1B, s1C, l1D, l1E, l1F, v1G, s1H, s1I, l1J, v1K, v1L, v1M, v1N, v1O, v1P, s1Q, l1R, l1S, l1T, v2U, v2V, s2W, l2X, v2Y, v2Z, h, rfl⟩
 replace h := b2T _ h
 refine kL [] (h1057 _ _ ?_ (sb h))
 rintro q70 h
 cases q70
 replace h := cf h
 exact kR [] (ND 0) (hQ _ (ss h))
 replace h := ct h
 refine kc h ?_ ?_ <;> intro h
 refine kc h ?_ ?_ <;> intro h
 obtain ⟨R30, h, a30, b30⟩ := sc h
 refine kX (fun σ => ∃ v1U v1V v1W s1X l1Y v1Z v20, R30 (.inr (v1U, v1V, v1W, s1X, l1Y, v1Z, v20)) ∧ σ = ⟨[(0, iD v8), (1, iD v7), (2, iD v5), (3, iD v6), (13, .c (.ptr (.sub (.s 43) 0) 0 0)), (14, iD v1U), (15, .c (.ptr (.sub (.s 51) 0) 0 0)), (17, .c (.fn 1068 []))], [eV (.sub (.s 43) 0) [.isl .dfn lU, ci vV, .str sW, ci vY, ci vZ, .str s00, .isl .part l01, ci v02, .str s03, .str s04, .isl .str l05, ci v06, ci v07, ci v08, .int .u8 v09, ci v0A, ci v0B, .str s0C, .isl .fld l0D, .isl .two l0E, .isl .lens l0F, ci v0G, .str s0H, .str s0I, .isl .str l0J, ci v0K, ci v0L, ci v0M, .int .u8 v0N, ci v0O, ci v0P, .str s0Q, .isl .fld l0R, .isl .two l0S, .isl .lens l0T, ci v1V, ci v1W, .str s1X, .isl .fld l1Y, ci v1Z, ci v20], eV (.sub (.s 51) 0) [.isl .dfn l0U, ci v0V, .str s0W, ci v0X, ci v0Y, .str s0Z, .isl .part l10, ci v11, .str s12, .str s13, .isl .str l14, ci v15, ci v17, ci v18, .int .u8 v19, ci v1A, ci v1B, .str s1C, .isl .fld l1D, .isl .two l1E, .isl .lens l1F, ci v1G, .str s1H, .str s1I, .isl .str l1J, ci v1K, ci v1L, ci v1M, .int .u8 v1N, ci v1O, ci v1P, .str s1Q, .isl .fld l1R, .isl .two l1S, .isl .lens l1T, ci v2U, ci v2V, .str s2W, .isl .fld l2X, ci v2Y, ci v2Z]]⟩) ?_ ?_
 refine kL [] (h1068 _ _ _ _ ?_ (sb h))
 rintro k7T n7U s7V f7W h
 refine kL [] (h1068 _ _ _ _ ?_ (sb h))
 rintro k7X n7Y s7Z f80 h
 refine kL [(.sub (.s 43) 0)] (h1069 _ _ _ _ _ _ _ _ _ _ _ _ _ _ _ _ _ _ _ _ _ _ _ _ _ _ _ _ _ _ _ _ _ _ _ _ _ _ _ _ _ _ _ _ _ _ _ _ _ _ _ ?_ (sb h))
 rintro v71 v72 v73 s74 l75 v76 v77 h
 conv => whnf
 exact ⟨v71, v72, v73, s74, l75, v76, v77, ss h, rfl⟩
 rintro _ ⟨v1U, v1V, v1W, s1X, l1Y, v1Z, v20, h, rfl⟩
 replace h := b30 _ h
 obtain ⟨R31, h, a31, b31⟩ := sc h
 refine kX (fun σ => ∃ v32 v33 v34 s35 l36 v37 v38, R31 (.inr (v32, v33, v34, s35, l36, v37, v38)) ∧ σ = ⟨[(0, iD v8), (1, iD v7), (2, iD v5), (3, iD v6), (13, .c (.ptr (.sub (.s 43) 0) 0 0)), (14, iD v1U), (15, .c (.ptr (.sub (.s 51) 0) 0 0)), (16, iD v32)], [eV (.sub (.s 43) 0) [.isl .dfn lU, ci vV, .str sW, ci vY, ci vZ, .str s00, .isl .part l01, ci v02, .str s03, .str s04, .isl .str l05, ci v06, ci v07, ci v08, .int .u8 v09, ci v0A, ci v0B, .str s0C, .isl .fld l0D, .isl .two l0E, .isl .lens l0F, ci v0G, .str s0H, .str s0I, .isl .str l0J, ci v0K, ci v0L, ci v0M, .int .u8 v0N, ci v0O, ci v0P, .str s0Q, .isl .fld l0R, .isl .two l0S, .isl .lens l0T, ci v1V, ci v1W, .str s1X, .isl .fld l1Y, ci v1Z, ci v20], eV (.sub (.s 51) 0) [.isl .dfn l0U, ci v0V, .str s0W, ci v0X, ci v0Y, .str s0Z, .isl .part l10, ci v11, .str s12, .str s13, .isl .str l14, ci v15, ci v17, ci v18, .int .u8 v19, ci v1A, ci v1B, .str s1C, .isl .fld l1D, .isl .two l1E, .isl .lens l1F, ci v1G, .str s1H, .str s1I, .isl .str l1J, ci v1K, ci v1L, ci v1M, .int .u8 v1N, ci v1O, ci v1P, .str s1Q, .isl .fld l1R, .isl .two l1S, .isl .lens l1T, ci v33, ci v34, .str s35, .isl .fld l36, ci v37, ci v38]]⟩) ?_ ?_
 refine kL [] (h1068 _ _ _ _ ?_ (sb h))
 rintro k81 n82 s83 f84 h
 refine kL [] (h1068 _ _ _ _ ?_ (sb h))
 rintro k85 n86 s87 f88 h
 refine kL [(.sub (.s 51) 0)] (h1069 _ _ _ _ _ _ _ _ _ _ _ _ _ _ _ _ _ _ _ _ _ _ _ _ _ _ _ _ _ _ _ _ _ _ _ _ _ _ _ _ _ _ _ _ _ _ _ _ _ _ _ ?_ (sb h))
 rintro v78 v79 v7A s7B l7C v7D v7E h
 conv => whnf
 exact ⟨v78, v79, v7A, s7B, l7C, v7D, v7E, ss h, rfl⟩
 rintro _ ⟨v32, v33, v34, s35, l36, v37, v38, h, rfl⟩
 replace h := b31 _ h
 obtain ⟨R39, h, a39, b39⟩ := sc h
 refine kX (fun σ => ∃ q3A, R39 (.inr q3A) ∧ σ = ⟨[(1, iD v7), (2, iD v5), (3, iD v6), (13, .c (.ptr (.sub (.s 43) 0) 0 0)), (14, iD v1U), (15, .c (.ptr (.sub (.s 51) 0) 0 0)), (16, iD v32), (18, bD q3A)], [eV (.sub (.s 43) 0) [.isl .dfn lU, ci vV, .str sW, ci vY, ci vZ, .str s00, .isl .part l01, ci v02, .str s03, .str s04, .isl .str l05, ci v06, ci v07, ci v08, .int .u8 v09, ci v0A, ci v0B, .str s0C, .isl .fld l0D, .isl .two l0E, .isl .lens l0F, ci v0G, .str s0H, .str s0I, .isl .str l0J, ci v0K, ci v0L, ci v0M, .int .u8 v0N, ci v0O, ci v0P, .str s0Q, .isl .fld l0R, .isl .two l0S, .isl .lens l0T, ci v1V, ci v1W, .str s1X, .isl .fld l1Y, ci v1Z, ci v20], eV (.sub (.s 51) 0) [.isl .dfn l0U, ci v0V, .str s0W, ci v0X, ci v0Y, .str s0Z, .isl .part l10, ci v11, .str s12, .str s13, .isl .str l14, ci v15, ci v17, ci v18, .int .u8 v19, ci v1A, ci v1B, .str s1C, .isl .fld l1D, .isl .two l1E, .isl .lens l1F, ci v1G, .str s1H, .str s1I, .isl .str l1J, ci v1K, ci v1L, ci v1M, .int .u8 v1N, ci v1O, ci v1P, .str s1Q, .isl .fld l1R, .isl .two l1S, .isl .lens l1T, ci v33, ci v34, .str s35, .isl .fld l36, ci v37, ci v38]]⟩) ?_ ?_
 refine kc h ?_ ?_ <;> intro h
 conv => whnf
 exact ⟨false, ss h, rfl⟩
 refine kL [(.sub (.s 51) 0)] (h1071 _ _ _ _ _ _ _ _ _ _ _ _ _ _ _ _ _ _ _ _ _ _ _ _ _ _ _ _ _ _ _ _ _ _ _ _ _ _ _ _ _ _ _ ?_ (sb h))
 rintro k89 n8A s8B f8C h
 refine kL [] (h30 _ _ _ _ ?_ (sb h))
 rintro k8D n8E s8F f8G h
 refine kL [] (h11 _ _ _ _ _ _ _ _ _ _ ?_ (sb h))
 rintro q7F h
 conv => whnf
 exact ⟨q7F, ss h, rfl⟩
 rintro _ ⟨q3A, h, rfl⟩
 replace h := b39 _ h
 obtain ⟨R3B, h, a3B, b3B⟩ := sc h
 refine kX (fun σ => ∃ q3C, R3B (.inr q3C) ∧ σ = ⟨[(2, iD v5), (3, iD v6), (13, .c (.ptr (.sub (.s 43) 0) 0 0)), (14, iD v1U), (18, bD q3C)], [eV (.sub (.s 43) 0) [.isl .dfn lU, ci vV, .str sW, ci vY, ci vZ, .str s00, .isl .part l01, ci v02, .str s03, .str s04, .isl .str l05, ci v06, ci v07, ci v08, .int .u8 v09, ci v0A, ci v0B, .str s0C, .isl .fld l0D, .isl .two l0E, .isl .lens l0F, ci v0G, .str s0H, .str s0I, .isl .str l0J, ci v0K, ci v0L, ci v0M, .int .u8 v0N, ci v0O, ci v0P, .str s0Q, .isl .fld l0R, .isl .two l0S, .isl .lens l0T, ci v1V, ci v1W, .str s1X, .isl .fld l1Y, ci v1Z, ci v20]]⟩) ?_ ?_
 refine kc h ?_ ?_ <;> intro h
 conv => whnf
 exact ⟨q3A, ss h, rfl⟩
 refine kc h ?_ ?_ <;> intro h
 conv => whnf
 exact ⟨false, ss h, rfl⟩
 refine kL [(.sub (.s 51) 0)] (h1071 _ _ _ _ _ _ _ _ _ _ _ _ _ _ _ _ _ _ _ _ _ _ _ _ _ _ _ _ _ _ _ _ _ _ _ _ _ _ _ _ _ _ _ ?_ (sb h))
 rintro k8H n8I s8J f8K h
 refine kL [] (h30 _ _ _ _ ?_ (sb h))
 rintro k8L n8M s8N f8O h
 refine kL [] (h11 _ _ _ _ _ _ _ _ _ _ ?_ (sb h))
 rintro q7G h
 conv => whnf
 exact ⟨q7G, ss h, rfl⟩
 rintro _ ⟨q3C, h, rfl⟩
 replace h := b3B _ h
 cases q3C
 replace h := cf h
 exact kR [] (ND 0) (hQ _ (ss h))
 replace h := ct h
 refine kc h ?_ ?_ <;> intro h
 exact kR [] (ND 0) (hQ _ (ss h))
 refine kL [(.sub (.s 43) 0)] (h1071 _ _ _ _ _ _ _ _ _ _ _ _ _ _ _ _ _ _ _ _ _ _ _ _ _ _ _ _ _ _ _ _ _ _ _ _ _ _ _ _ _ _ _ ?_ (sb h))
 rintro k8P n8Q s8R f8S h
 refine kL [] (h30 _ _ _ _ ?_ (sb h))
 rintro k8T n8U s8V f8W h
 refine kL [] (h11 _ _ _ _ _ _ _ _ _ _ ?_ (sb h))
 rintro q8X h
 exact kR [] (ND 0) (hQ _ (ss h))
 exact kR [] (ND 0) (hQ _ (ss h))
 exact kR [] (ND 0) (hQ _ (ss h))
end Go.Clap
