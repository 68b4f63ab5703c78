/- The checks of the small code against the loaded functions. -/
import Derived.Test.YthhdejjjcaamiaaGreatDoorClapU1
set_option linter.unusedVariables false
set_option linter.unusedSimpArgs false
set_option maxHeartbeats 4000000
set_option maxRecDepth 100000
namespace Go.Clap
open Go.IntKind (wrap)
def f1056 : Int → Int → FV → Option FV
  | i, j, l => grdP (0 ≤ i ∧ i < j ∧ j ≤ (l.length : Int)) (some (l.take i.toNat ++ l.drop j.toNat))
def C1056 (O : Oracle TT) (m : Int → Int → FV → Option (FV)) : Prop :=
  ∀ v8 v9 (r5 : FV) (n6 : Nat) (en6 : n6 = r5.length) (Q : FV → Prop) (R : RR) (_ : ∀ (l7 : FV) (n0r : Nat) (_ : n0r = l7.length), Q l7 → R (.c (.osl (.x 1) 0 n0r)) [(.x 0, none), (.x 1, (eR .fld l7))]) (_ : sat (m v8 v9 r5) Q), O 1056 [.c (.osl (.x 0) 0 n6), iD v8, iD v9] [(.x 0, (eR .fld r5))] R
def b1048 (self1049 : Ln → Int → Int → BA → FV → Option (V)) : Ln → V → Option (V)
  | .mk op5 nm6 to7 ns8 n9 loA hiB sepC (.mk kF nG sH fI) prsJ ksK, .mk kM nN sO fP => cond (op5 == 1) (none) (cond (op5 == 16) (none) (cond (op5 == 17) (none) (cond (op5 == 18) (none) (cond (op5 == 11) (none) (cond (op5 == 12) (none) ((f79 fP).bind fun lQ => (self1049 (Ln.mk op5 nm6 to7 ns8 n9 loA hiB sepC (V.mk kF nG sH fI) prsJ ksK) kM nN sO lQ).bind fun (.mk kS nT sU fV) => some (V.mk kS nT sU fV)))))))
def f1049_L4 (self1048 : Ln → V → Option (V)) (ks7 : List Ln) : Nat → Int → FV → Option (Sum (Sum (V) (Unit)) (FV))
  | 0, v5, l6 => some (.inr l6)
  | g8 + 1, v5, l6 => grdP ((0 : Int) ≤ v5 ∧ v5 < ((l6.length : Nat) : Int)) (getN l6 (0 + v5.toNat) fun uu9 => match uu9 with | (a04, .mk kA nB sC fF) => getL ks7 0 fun uuG => match uuG with | .mk opH nmI toJ nsK nM loN hiO sepP (.mk kQ nS sT fU) prsV ksW => (self1048 (Ln.mk opH nmI toJ nsK nM loN hiO sepP (V.mk kQ nS sT fU) prsV ksW) (V.mk kA nB sC fF)).bind fun (.mk kY nZ s00 f01) => grdP ((0 : Int) ≤ v5 ∧ v5 < ((l6.length : Nat) : Int)) (getN l6 (0 + v5.toNat) fun uu02 => match uu02 with | (a03, .mk k05 n06 s07 f08) => f1049_L4 self1048 ks7 g8 (v5 + 1) (l6.set (0 + v5.toNat) (a03, (V.mk kY nZ s00 f01)))))
def b1049 (self1048 : Ln → V → Option (V)) : Ln → Int → Int → BA → FV → Option (V)
  | .mk op5 nmB toH nsI nJ loK hiM sepN (.mk kO nP sQ fS) prsT ksC, k7, n8, s9, r6 => sbind (ο := Unit) (cond (op5 == 13) (sbind (ο := FV) (grdP (((r6.length : Nat) : Int) ≤ 9223372036854775807) (f1049_L4 self1048 ksC (((r6.length : Nat) : Int) - 0).toNat 0 r6)) (fun lF => lft (some (V.mk k7 n8 s9 lF)))) (cond (op5 == 14) (none) (cond (op5 == 15) (none) (cond (op5 == 6) (none) (some (.inr ())))))) (fun () => (f1052 k7 n8 s9 nmB r6).bind fun vA => cond (op5 == 2) (none) (cond (op5 == 3) (none) (cond (op5 == 4) ((f1056 vA (wrap .i64 (vA + 1)) r6).bind fun lG => some (V.mk k7 n8 s9 lG)) (none))))
def S1048 : Nat → (Ln → V → Option (V)) × (Ln → Int → Int → BA → FV → Option (V))
  | 0 => (fun _ _ => none, fun _ _ _ _ _ => none)
  | n + 1 => (b1048 (S1048 n).2, b1049 (S1048 n).1)
def f1048 (n : Nat) : Ln → V → Option (V) := (S1048 n).1
def f1049 (n : Nat) : Ln → Int → Int → BA → FV → Option (V) := (S1048 n).2
def C1048 (O : Oracle TT) (m : Ln → V → Option (V)) : Prop :=
  ∀ op5 nm6 to7 ns8 n9 loA hiB sepC kF nG sH fI prsJ ksK kM nN sO fP (Q : V → Prop) (R : RR) (_ : ∀ kQ nS sT fU, Q (V.mk kQ nS sT fU) → R (.agg [ci kQ, ci nS, .str sT, .isl .fld fU]) []) (_ : sat (m (Ln.mk op5 nm6 to7 ns8 n9 loA hiB sepC (V.mk kF nG sH fI) prsJ ksK) (V.mk kM nN sO fP)) Q), O 1048 [.agg [ci op5, .str nm6, .str to7, .isl .str ns8, ci n9, ci loA, ci hiB, .int .u8 sepC, ci kF, ci nG, .str sH, .isl .fld fI, .isl .two prsJ, .isl .lens ksK], .agg [ci kM, ci nN, .str sO, .isl .fld fP]] [] R
def j1048 : Fn TT := ⟨91, [.cell 4 4 true], (sr [qo 2 (.box 2 0),qo 3 (.box 3 1),qo 4 (.alloc 4 zV)] (.seq (sr [qo 11 (.fa 2 0),qo 12 (ld 11)] (.block 0 (sr [qo 14 (.bin .eql .num 12 (iC 1)),qm 13 14] (.cond 13 .dead (sr [qo 28 (.bin .eql .num 12 (iC 16)),qm 27 28] (.cond 27 .dead (sr [qo 36 (.bin .eql .num 12 (iC 17)),
 qm 35 36] (.cond 35 .dead (sr [qo 43 (.bin .eql .num 12 (iC 18)),qm 42 43] (.cond 42 .dead (sr [qo 59 (.bin .eql .num 12 (iC 11)),qm 58 59] (.cond 58 .dead (sr [qo 75 (.bin .eql .num 12 (iC 12)),qm 74 75] (.cond 74 .dead .skip)))))))))))))) (sr [qo 84 (.fa 3 3),qo 85 (ld 84),qo 86 (.call 86 79 [85]),qo 87 (.fa 3 3),
 qp (.store 87 86 1)] (sr [qo 88 (.load 2 14 true),qo 89 (.load 3 4 true),qo 90 (.call 90 1049 [88, 89]),qp (.store 4 90 4)] .ret))))⟩
def C1049 (O : Oracle TT) (m : Ln → Int → Int → BA → FV → Option (V)) : Prop :=
  ∀ op7 nm8 to9 nsA nB loC hiF sepG kH nI sJ fK prsM ksN kO nP sQ (r5 : FV) (n6 : Nat) (en6 : n6 = r5.length) (Q : V → Prop) (R : RR) (_ : ∀ kS nT sU fV, Q (V.mk kS nT sU fV) → R (.agg [ci kS, ci nT, .str sU, .isl .fld fV]) [(.x 0, none)]) (_ : sat (m (Ln.mk op7 nm8 to9 nsA nB loC hiF sepG (V.mk kH nI sJ fK) prsM ksN) kO nP sQ r5) Q), O 1049 [.agg [ci op7, .str nm8, .str to9, .isl .str nsA, ci nB, ci loC, ci hiF, .int .u8 sepG, ci kH, ci nI, .str sJ, .isl .fld fK, .isl .two prsM, .isl .lens ksN], .agg [ci kO, ci nP, .str sQ, .osl (.x 0) 0 n6]] [(.x 0, (eR .fld r5))] R
def j1049 : Fn TT := ⟨248, [.cell 4 4 true], (sr [qo 2 (.box 2 0),qo 3 (.box 3 1),qo 4 (.alloc 4 zV)] (.cut [2, 3, 4] [(.s 2), (.s 3), (.s 4), (.x 0)] (sr [qo 14 (.fa 2 0),qo 15 (ld 14)] (.block 0 (sr [qo 17 (.bin .eql .num 15 (iC 13)),qm 16 17] (.cond 16 (.cut [3, 4] [(.s 3), (.s 4), (.x 0)] (sr [qo 18 (.fa 3 3),
 qo 19 (ld 18),qo 20 (.len false 19),qo 21 (.mv (iC 0))] (.block 1 (.loop (.keep [2, 3, 4, 19, 20, 21] [(.s 2), (.s 3), (.s 4), (.x 0)] (.aft (sr [qo 22 (.bin .lss .num 21 20)] (.seq (.cond 22 .skip (.exit 1)) (.seq (.block 2 (sr [qm 23 21,qo 24 (.idxA 19 21 5),qo 25 (.load 24 5 true),qo 6 (.alloc 6 zFd),qm 5 23,qp (.store 6 25 5)]
 (.drw [] (oR 13) [12] [0, 1, 2, 3, 4, 5, 6, 7, 8, 10, 11] [qo 26 (.fa 3 3),qo 27 (ld 26),qm 28 5,qo 29 (.fa 2 13),qo 30 (ld 29),qo 31 (.idxA 30 (iC 0) 14),qo 32 (.load 31 14 true),qo 33 (.fa 6 1),qo 34 (.load 33 4 true),qo 35 (.call 35 1048 [32, 34]),qo 36 (.idxA 27 28 5),qo 37 (.fa 36 1),qp (.store 37 35 4)]))) (.reg [qo 38 (.bin .add .num 21 (iC 1)),
 qm 21 38])))) [.keep [2, 3, 4, 19, 20, 21] [(.s 2), (.s 3), (.s 4), (.x 0)]]))))) (sr [qo 39 (.load 3 4 true),qp (.store 4 39 4)] (.pre [.frzc (.s 4) 3 .fld, .keep [4] [(.s 4)]] .ret))) (sr [qo 41 (.bin .eql .num 15 (iC 14)),qm 40 41] (.cond 40 .dead (sr [qo 69 (.bin .eql .num 15 (iC 15)),qm 68 69] (.cond 68 .dead (.seq
 (.reg [qo 77 (.bin .eql .num 15 (iC 6)),qm 76 77]) (.cond 76 .dead .skip)))))))))) (sr [qo 81 (.load 3 4 true),qo 82 (.fa 2 1),qo 83 (ld 82),qo 84 (.call 84 1052 [81, 83]),qm 8 84] (.seq (sr [qo 85 (.fa 2 0),qo 86 (ld 85)] (.block 3 (sr [qo 88 (.bin .eql .num 86 (iC 2)),qm 87 88] (.cond 87 .dead (.seq
 (.reg [qo 106 (.bin .eql .num 86 (iC 3)),qm 105 106]) (.cond 105 .dead (sr [qo 117 (.bin .eql .num 86 (iC 4)),qm 116 117] (.cond 116 (.reg [qo 118 (.fa 3 3),qo 119 (ld 118),qm 120 8,qm 121 8,qo 122 (.bin .add .num 121 (iC 1)),qo 123 (.call 123 1056 [119, 120, 122]),qo 124 (.fa 3 3),qp (.store 124 123 1)]) .dead)))))))) (.seq
 (.reg [qo 247 (.load 3 4 true),qp (.store 4 247 4)]) (.pre [.frzc (.s 4) 3 .fld] .ret))))))⟩
theorem w1048 {O : Oracle TT} (self1049 : Ln → Int → Int → BA → FV → Option (V)) (h79 : C79 O f79) (h1049 : C1049 O self1049) : C1048 (fun _ => vcF (S := SS) O j1048) (b1048 self1049) := by
 intro op5 nm6 to7 ns8 n9 loA hiB sepC kF nG sH fI prsJ ksK kM nN sO fP Q R hQ h
 unfold b1048 at h
 refine ⟨nle rfl, rfl, ?_⟩
 refine kc h ?_ ?_ <;> intro h
 refine kc h ?_ ?_ <;> intro h
 refine kc h ?_ ?_ <;> intro h
 refine kc h ?_ ?_ <;> intro h
 refine kc h ?_ ?_ <;> intro h
 refine kc h ?_ ?_ <;> intro h
 refine kL [] (h79 _ _ _ ?_ (sb h))
 rintro lQ _ rfl h
 refine kL [(.sub (.s 86) 0)] (h1049 _ _ _ _ _ _ _ _ _ _ _ _ _ _ _ _ _ _ _ LN _ _ ?_ (sb h))
 rintro kS nT sU fV h
 exact kR [] (ND 0) (hQ _ _ _ _ (ss h))
 exact (sat_none h).elim
 exact (sat_none h).elim
 exact (sat_none h).elim
 exact (sat_none h).elim
 exact (sat_none h).elim
 exact (sat_none h).elim
theorem w1049 {O : Oracle TT} (self1048 : Ln → V → Option (V)) (h1048 : C1048 O self1048) (h1052 : C1052 O f1052) (h1056 : C1056 O f1056) : C1049 (fun _ => vcF (S := SS) O j1049) (b1049 self1048) := by
 intro opN nmO toP nsQ nS loT hiU sepV kW nY sZ f00 prs01 ksH kI nJ sK r6 n02 en02 Q R hQ h
 subst en02
 unfold b1049 at h
 refine ⟨nle rfl, rfl, ?_⟩
 obtain ⟨RC, h, aC, hrRC⟩ := sc h
 refine kX (fun σ => RC (.inr ()) ∧ σ = ⟨[pT 2, pT 3, pT 4], [eV (.s 2) [ci opN, .str nmO, .str toP, .isl .str nsQ, ci nS, ci loT, ci hiU, .int .u8 sepV, ci kW, ci nY, .str sZ, .isl .fld f00, .isl .two prs01, .isl .lens ksH], eV (.s 3) [ci kI, ci nJ, .str sK, .osl (.x 0) 0 r6.length], eV (.s 4) zV, (.x 0, (eR .fld r6))]⟩) ?_ ?_
 refine kc h ?_ ?_ <;> intro h
 refine kc h ?_ ?_ <;> intro h
 refine kc h ?_ ?_ <;> intro h
 refine kc h ?_ ?_ <;> intro h
 conv => whnf
 exact ⟨ss h, rfl⟩
 exact (sat_none h).elim
 exact (sat_none h).elim
 exact (sat_none h).elim
 obtain ⟨RF, h, aF, hrRF⟩ := sc h
 refine kX (fun σ => ∃ (lB : FV) (n03 : Nat), n03 = lB.length ∧ lB.length = r6.length ∧ RF (.inr lB) ∧ σ = ⟨[pT 3, pT 4], [eV (.s 3) [ci kI, ci nJ, .str sK, .osl (.x 0) 0 n03], eV (.s 4) zV, (.x 0, (eR .fld lB))]⟩) ?_ ?_
 intro hl0D
 obtain ⟨hN0C, h⟩ := sat_grdP h
 refine kX (fun σ n => ∃ (f5 : Nat) (v8 : Int) (z : Int) (l9 : FV) (nM : Nat), f5 = n ∧ f5 = (((r6.length : Nat) : Int) - v8).toNat ∧ 0 ≤ v8 ∧ v8 = z ∧ nM = l9.length ∧ l9.length = r6.length ∧ sat (f1049_L4 self1048 ksH f5 v8 l9) RF ∧ σ.keep [2, 3, 4, 19, 20, 21] [(.s 2), (.s 3), (.s 4), (.x 0)] = ⟨[pT 2, pT 3, pT 4, (19, .c (.osl (.x 0) 0 nM)), (20, iD ((r6.length : Nat) : Int)), (21, iD z)], [eV (.s 2) [ci opN, .str nmO, .str toP, .isl .str nsQ, ci nS, ci loT, ci hiU, .int .u8 sepV, ci kW, ci nY, .str sZ, .isl .fld f00, .isl .two prs01, .isl .lens ksH], eV (.s 3) [ci kI, ci nJ, .str sK, .osl (.x 0) 0 nM], eV (.s 4) zV, (.x 0, (eR .fld l9))]⟩) ⟨_, _, 0, _, r6, _, rfl, rfl, (by decide), rfl, LN, LN, h, rfl⟩ ?_
 rintro σ n ⟨f5, v8, _, l9, _, rfl, hf5, hpf5, rfl, rfl, hkll9, h, hσ⟩
 refine kk hσ ?_
 intro tG (htG : tG = decide (v8 < ((r6.length : Nat) : Int)))
 cases tG
 obtain rfl := il_nil hf5 htG
 rw [f1049_L4] at h
 conv => whnf
 exact ⟨l9, _, LN, LN, ss h, rfl⟩
 obtain ⟨gA, rfl, hwgA, hpgA, hfgA⟩ := il_cons hf5 hpf5 htG hN0C
 rw [f1049_L4] at h
 refine kp h fun hb0E h => ?_
 refine kg (sat_getN h) fun uu04 huu04 h => ?_
 obtain ⟨a0F, ⟨k0G, n0H, s0I, f0J⟩⟩ := uu04
 refine kg (sat_getL h) fun uu05 huu05 h => ?_
 obtain ⟨op0K, nm0L, to0M, ns0N, n0O, lo0P, hi0Q, sep0R, ⟨k0S, n0T, s0U, f0V⟩, prs0W, ks0X⟩ := uu05
 refine kL [] (h1048 _ _ _ _ _ _ _ _ _ _ _ _ _ _ _ _ _ _ _ _ ?_ (sb h))
 rintro k06 n07 s08 f09 h
 refine kp h fun hb0Y h => ?_
 refine kg (sat_getN h) fun uu0A huu0A h => ?_
 obtain ⟨a0B, ⟨k0Z, n10, s11, f12⟩⟩ := uu0A
 refine ⟨(a0B, (V.mk k06 n07 s08 f09)), rfl, ?_⟩
 conv => whnf
 exact ⟨gA, nls, gA, v8 + 1, _, (l9.set (0 + v8.toNat) (a0B, (V.mk k06 n07 s08 f09))), _, rfl, hfgA, hpgA, hwgA.symm, LN, LN, h, rfl⟩
 rintro _ ⟨lB, _, rfl, hkllB, h, rfl⟩
 replace h := hrRF _ h
 conv => whnf
 refine ⟨LN, ?_⟩
 replace h := sat_lft aC h
 exact kR [] (ND 1) (hQ _ _ _ _ (ss h))
 rintro _ ⟨h, rfl⟩
 replace h := hrRC _ h
 refine kL [(.x 0)] (h1052 _ _ _ _ _ _ LN _ _ ?_ (sb h))
 rintro v13 h
 refine kc h ?_ ?_ <;> intro h
 refine kc h ?_ ?_ <;> intro h
 refine kc h ?_ ?_ <;> intro h
 exact (sat_none h).elim
 refine kL [(.x 0)] (h1056 _ _ _ _ LN _ _ ?_ (sb h))
 rintro l14 _ rfl h
 conv => whnf
 refine ⟨LN, ?_⟩
 exact kR [] (ND 1) (hQ _ _ _ _ (ss h))
 exact (sat_none h).elim
 exact (sat_none h).elim
theorem cg1048 {P : Program} {fid : Nat → FuncId} (mx : MX P) (k1048 : KF P fid 1048 j1048) (k1049 : KF P fid 1049 j1049) (h79 : C79 (SP P fid) f79) (h1052 : C1052 (SP P fid) f1052) (h1056 : C1056 (SP P fid) f1056) : ∀ n, C1048 (SP P fid) (f1048 n) ∧ C1049 (SP P fid) (f1049 n) := by
 intro n
 induction n with
 | zero => exact ⟨fun a6 a7 a8 a9 aA aC aD aE aF aG aH aI aJ aK aL aM aN aO Q R hQ h => (sat_none h).elim, fun a6 a7 a8 a9 aA aC aD aE aF aG aH aI aJ aK aL aM aN aO n6 e6 Q R hQ h => (sat_none h).elim⟩
 | succ n ih =>
  obtain ⟨ih6, ih7⟩ := ih
  exact ⟨fun a6 a7 a8 a9 aA aC aD aE aF aG aH aI aJ aK aL aM aN aO Q R hQ h => spec_of_vc mx k1048 (w1048 (f1049 n) h79 ih7 a6 a7 a8 a9 aA aC aD aE aF aG aH aI aJ aK aL aM aN aO Q R hQ h), fun a6 a7 a8 a9 aA aC aD aE aF aG aH aI aJ aK aL aM aN aO n6 e6 Q R hQ h => spec_of_vc mx k1049 (w1049 (f1048 n) ih6 h1052 h1056 a6 a7 a8 a9 aA aC aD aE aF aG aH aI aJ aK aL aM aN aO n6 e6 Q R hQ h)⟩
theorem c1048 {P : Program} {fid : Nat → FuncId} (mx : MX P) (k1048 : KF P fid 1048 j1048) (k1049 : KF P fid 1049 j1049) (h79 : C79 (SP P fid) f79) (h1052 : C1052 (SP P fid) f1052) (h1056 : C1056 (SP P fid) f1056) : ∀ n, C1048 (SP P fid) (f1048 n) := fun n => (cg1048 mx k1048 k1049 h79 h1052 h1056 n).1
def f1047 (fuel : Nat) : PT → Ln → Tp → V → Option (V × Int)
  | l5, .mk op6 nm7 to8 ns9 nA loB hiC sepF (.mk kG nH sI fJ) prsK ksM, .mk kN mO loP hiQ pU psV, .mk kW nY sZ f00 => (f1032 fuel l5 (Ln.mk op6 nm7 to8 ns9 nA loB hiC sepF (V.mk kG nH sI fJ) prsK ksM) (Tp.mk kN mO loP hiQ pU psV)).bind fun ((.mk k0G m0H lo0I hi0J p0K ps0L), v05) => cond (v05 != 0) (none) ((f1042 fuel l5 (Tp.mk kN mO loP hiQ pU psV) (V.mk kW nY sZ f00)).bind fun q06 => cond q06 (sbind (ο := Int × Int × BA × FV) ((f57 fuel (V.mk kW nY sZ f00)).bind fun (.mk k07 n08 s09 f0A) => (f1048 fuel (Ln.mk op6 nm7 to8 ns9 nA loB hiC sepF (V.mk kG nH sI fJ) prsK ksM) (V.mk k07 n08 s09 f0A)).bind fun (.mk k0B n0C s0D f0E) => some (.inr (k0B, n0C, s0D, f0E))) (fun (v01, v02, s03, l04) => (f51 fuel (V.mk v01 v02 s03 l04)).bind fun v0F => cond (v0F != 0) (none) (some ((V.mk v01 v02 s03 l04), 0)))) (some ((V.mk 0 0 (⟨#[]⟩ : BA) []), 8)))
def C1047 (O : Oracle TT) (m : PT → Ln → Tp → V → Option (V × Int)) : Prop :=
  ∀ l5 op6 nm7 to8 ns9 nA loB hiC sepF kG nH sI fJ prsK ksM kN mO loP hiQ pU psV kW nY sZ f00 (Q : (V × Int) → Prop) (R : RR) (_ : ∀ k01 n02 s03 f04 v05, Q ((V.mk k01 n02 s03 f04), v05) → R (.tup [.agg [ci k01, ci n02, .str s03, .isl .fld f04], iD v05]) []) (_ : sat (m l5 (Ln.mk op6 nm7 to8 ns9 nA loB hiC sepF (V.mk kG nH sI fJ) prsK ksM) (Tp.mk kN mO loP hiQ pU psV) (V.mk kW nY sZ f00)) Q), O 1047 [.c (.isl .dfn l5), .agg [ci op6, .str nm7, .str to8, .isl .str ns9, ci nA, ci loB, ci hiC, .int .u8 sepF, ci kG, ci nH, .str sI, .isl .fld fJ, .isl .two prsK, .isl .lens ksM], .agg [ci kN, .str mO, ci loP, ci hiQ, .str pU, .isl .part psV], .agg [ci kW, ci nY, .str sZ, .isl .fld f00]] [] R
def j1047 : Fn TT := ⟨39, [.cell 8 4 true, .t 9], (sr [qo 5 (.box 5 1),qo 6 (.box 6 2),qo 7 (.box 7 3),qo 8 (.alloc 8 zV),qo 9 (.mv (iC 0))] (.seq (sr [qm 14 0,qo 15 (.load 5 14 true),qo 16 (.load 6 6 true),qo 17 (.call 17 1032 [14, 15, 16]),qm 13 17,qo 18 (.ext 13 0),qo 19 (.ext 13 1),qo 10 (.alloc 10 zTp),qp (.store 10 18 6),qm 11 19] (.seq
 (.reg [qm 20 11,qo 21 (.bin .neq .num 20 (iC 0))]) (.cond 21 .dead .skip))) (.seq (sr [qm 24 0,qo 25 (.load 6 6 true),qo 26 (.load 7 4 true),qo 27 (.call 27 1042 [24, 25, 26]),qo 28 (.un .not 27)] (.cond 28 (sr [qo 29 (.build zV []),qp (.store 8 29 4),qo 9 (.mv (iC 8))] .ret) .skip)) (.cut [8, 12] [(.s 8), (.s 12)]
 (.drw [] (.go 0 (.go 1 (.alt 2 (.alt 3 (.go 4 (.go 5 .nil)) 4 (.go 3 (.go 5 .nil))) 4 (.go 2 (.go 3 (.go 5 .nil)))))) [5] [0, 1] [qo 30 (.load 5 14 true),qo 31 (.load 7 4 true),qo 32 (.call 32 57 [31]),qo 33 (.call 33 1048 [30, 32]),qo 12 (.alloc 12 zV),qp (.store 12 33 4)]) (.seq (sr [qo 34 (.load 12 4 true),qo 35 (.call 35 51 [34]),qo 36 (.bin .neq .num 35 (iC 0))] (.cond 36
 .dead .skip)) (sr [qo 38 (.load 12 4 true),qp (.store 8 38 4),qo 9 (.mv (iC 0))] .ret))))))⟩
theorem w1047 {O : Oracle TT} (fuel : Nat) (h51 : C51 O (f51 fuel)) (h1032 : C1032 O (f1032 fuel)) (h1042 : C1042 O (f1042 fuel)) (h57 : C57 O (f57 fuel)) (h1048 : C1048 O (f1048 fuel)) : C1047 (fun _ => vcF (S := SS) O j1047) (f1047 fuel) := by
 intro lU opV nmW toY nsZ n00 lo01 hi02 sep03 k04 n05 s06 f07 prs08 ks09 k0A m0B lo0C hi0D p0E ps0F k0G n0H s0I f0J Q R hQ h
 unfold f1047 at h
 refine ⟨nle rfl, rfl, ?_⟩
 refine kL [] (h1032 _ _ _ _ _ _ _ _ _ _ _ _ _ _ _ _ _ _ _ _ _ _ _ ?_ (sb h))
 rintro k0K m0L lo0M hi0N p0O ps0P v0Q h
 refine kc h ?_ ?_ <;> intro h
 refine kL [] (h1042 _ _ _ _ _ _ _ _ _ _ _ _ _ ?_ (sb h))
 rintro qA h
 cases qA
 replace h := cf h
 exact kR [] (ND 0) (hQ _ _ _ _ _ (ss h))
 replace h := ct h
 obtain ⟨R5, h, a5, b5⟩ := sc h
 refine kX (fun σ => ∃ v6 v7 s8 l9, R5 (.inr (v6, v7, s8, l9)) ∧ σ = ⟨[pT 8, pT 12], [eV (.s 8) zV, eV (.s 12) [ci v6, ci v7, .str s8, .isl .fld l9]]⟩) ?_ ?_
 conv => whnf
 refine ⟨?_, ?_⟩
 refine kL [] (h57 _ _ _ _ _ _ ?_ (sb h))
 rintro k0R n0S s0T f0U h
 conv => whnf
 refine ⟨?_, ?_⟩
 refine kL [] (h1048 _ _ _ _ _ _ _ _ _ _ _ _ _ _ _ _ _ _ _ _ ?_ (sb h))
 rintro kB nC sG fH h
 conv => whnf
 exact ⟨kB, nC, sG, fH, ss h, rfl⟩
 refine kL [] (h1048 _ _ _ _ _ _ _ _ _ _ _ _ _ _ _ _ _ _ _ _ ?_ (sb h))
 rintro kI nJ sK fM h
 conv => whnf
 exact ⟨kI, nJ, sK, fM, ss h, rfl⟩
 refine kL [] (h57 _ _ _ _ _ _ ?_ (sb h))
 rintro k0V n0W s0X f0Y h
 refine kL [] (h1048 _ _ _ _ _ _ _ _ _ _ _ _ _ _ _ _ _ _ _ _ ?_ (sb h))
 rintro kN nO sP fQ h
 conv => whnf
 exact ⟨kN, nO, sP, fQ, ss h, rfl⟩
 rintro _ ⟨v6, v7, s8, l9, h, rfl⟩
 replace h := b5 _ h
 refine kL [] (h51 _ _ _ _ _ _ ?_ (sb h))
 rintro v0Z h
 refine kc h ?_ ?_ <;> intro h
 exact kR [] (ND 0) (hQ _ _ _ _ _ (ss h))
 exact (sat_none h).elim
 exact (sat_none h).elim
def f35_L2 (fuel : Nat) (k5 : Int) (s6 : BA) : FV → Nat → Option (Sum (V × Bool) (Unit))
  | [], j7 => some (.inr ())
  | ((a9, .mk kA nB sC fF)) :: tl8, j7 => cond (a9.toList == s6.toList) (cond (k5 != 8) ((f57 fuel (V.mk kA nB sC fF)).bind fun (.mk kG nH sI fJ) => lft (some ((V.mk kG nH sI fJ), true))) (f35_L2 fuel k5 s6 tl8 (j7 + 1))) (f35_L2 fuel k5 s6 tl8 (j7 + 1))
def f35 (fuel : Nat) : V → BA → Option (V × Bool)
  | .mk k5 n8 s9 f6, s7 => sbind (ο := Unit) (f35_L2 fuel k5 s7 f6 0) (fun () => some ((V.mk 0 0 (⟨#[]⟩ : BA) []), false))
def C35 (O : Oracle TT) (m : V → BA → Option (V × Bool)) : Prop :=
  ∀ k5 n6 s7 f8 s9 (Q : (V × Bool) → Prop) (R : RR) (_ : ∀ kA nB sC fF qG, Q ((V.mk kA nB sC fF), qG) → R (.tup [.agg [ci kA, ci nB, .str sC, .isl .fld fF], bD qG]) []) (_ : sat (m (V.mk k5 n6 s7 f8) s9) Q), O 35 [.agg [ci k5, ci n6, .str s7, .isl .fld f8], sD s9] [] R
def j35 : Fn TT := ⟨29, [.cell 4 4 true, .t 5], (sr [qo 2 (.box 2 0),qo 4 (.alloc 4 zV),qm 5 bF] (.cut [4] [(.s 4)] (sr [qo 8 (.fa 2 3),qo 9 (ld 8),qo 10 (.len false 9),qo 11 (.mv (iC 0))] (.block 0 (.loop (.keep [1, 2, 4, 9, 10, 11] [(.s 2), (.s 4)] (.aft (sr [qo 12 (.bin .lss .num 11 10)] (.seq (.cond 12 .skip (.exit 0)) (.seq (.block 1 (.seq
 (.reg [qo 13 (.idxA 9 11 5),qo 14 (.load 13 5 true),qo 7 (.alloc 7 zFd),qp (.store 7 14 5)]) (sr [qo 15 (.fa 7 0),qo 16 (ld 15),qm 17 1,qo 18 (.bin .eql .str 16 17),qm 19 18,qg 19 20 (.fa 2 0),qg 19 21 (ld 20),qg 19 22 (.bin .neq .num 21 (iC 8)),qo 23 (.pick 19 22 bF)] (.cond 23 (sr [qo 24 (.fa 7 1),qo 25 (.load 24 4 true),
 qo 26 (.call 26 57 [25]),qp (.store 4 26 4),qm 5 bT] .ret) .skip)))) (.reg [qo 27 (.bin .add .num 11 (iC 1)),qm 11 27])))) [.keep [1, 2, 4, 9, 10, 11] [(.s 2), (.s 4)]]))))) (sr [qo 28 (.build zV []),qp (.store 4 28 4),qm 5 bF] .ret)))⟩
theorem w35 {O : Oracle TT} (fuel : Nat) (h57 : C57 O (f57 fuel)) : C35 (fun _ => vcF (S := SS) O j35) (f35 fuel) := by
 intro kG nK sM f9 sH Q R hQ h
 unfold f35 at h
 refine ⟨nle rfl, rfl, ?_⟩
 obtain ⟨RA, h, aA, bA⟩ := sc h
 refine kX (fun σ => RA (.inr ()) ∧ σ = ⟨[pT 4], [eV (.s 4) zV]⟩) ?_ ?_
 intro hlI
 refine kX (fun σ n => ∃ (rem5 : FV) (j6 : Nat) (z : Int), n = rem5.length ∧ f9.drop j6 = rem5 ∧ z = ((j6 : Nat) : Int) ∧ sat (f35_L2 fuel kG sH rem5 j6) RA ∧ σ.keep [1, 2, 4, 9, 10, 11] [(.s 2), (.s 4)] = ⟨[(1, sD sH), pT 2, pT 4, (9, .c (.isl .fld f9)), (10, iD ((f9.length : Nat) : Int)), (11, iD z)], [eV (.s 2) [ci kG, ci nK, .str sM, .isl .fld f9], eV (.s 4) zV]⟩) ⟨_, f9, 0, _, rfl, rfl, rfl, h, rfl⟩ ?_
 rintro σ n ⟨rem5, j6, _, rfl, hrem5, rfl, h, hσ⟩
 refine kk hσ ?_
 intro tC (htC : tC = decide (((j6 : Nat) : Int) < ((f9.length : Nat) : Int)))
 cases tC
 obtain rfl := ll_nil hrem5 htC
 rw [f35_L2] at h
 conv => whnf
 exact ⟨ss h, rfl⟩
 obtain ⟨xB, tl8, rfl, hxB, htl8⟩ := ll_cons hrem5 htC
 obtain ⟨aN, ⟨kO, nP, sQ, fS⟩⟩ := xB
 rw [f35_L2] at h
 conv => whnf
 refine ⟨lx_bd hxB, fun uuJ huuJ => ?_⟩
 obtain rfl := lx_eq hxB huuJ
 refine kc h ?_ ?_ <;> intro h
 conv => whnf
 exact ⟨tl8.length, nls, tl8, j6 + 1, _, rfl, htl8, lx_wr hxB hlI, h, rfl⟩
 refine kc h ?_ ?_ <;> intro h
 conv => whnf
 exact ⟨tl8.length, nls, tl8, j6 + 1, _, rfl, htl8, lx_wr hxB hlI, h, rfl⟩
 refine kL [] (h57 _ _ _ _ _ _ ?_ (sb h))
 rintro kU nV sW fY h
 replace h := sat_lft aA h
 exact kR [] (ND 0) (hQ _ _ _ _ _ (ss h))
 rintro _ ⟨h, rfl⟩
 replace h := bA _ h
 exact kR [] (ND 0) (hQ _ _ _ _ _ (ss h))
def f1065 : (BA × Tp) → BA → Option (Bool)
  | (a5, .mk k7 m8 lo9 hiA pB psC), s6 => cond (a5.toList == s6.toList) (some true) (some false)
def C1065 (O : Oracle TT) (m : (BA × Tp) → BA → Option (Bool)) : Prop :=
  ∀ a6 k7 m8 lo9 hiA pB psC s5 (Q : Bool → Prop) (R : RR) (_ : ∀ qF, Q qF → R (bD qF) [eV (.x 0) [.str s5]]) (_ : sat (m (a6, (Tp.mk k7 m8 lo9 hiA pB psC)) s5) Q), O 1065 [.agg [.str a6, ci k7, .str m8, ci lo9, ci hiA, .str pB, .isl .part psC], pX 0] [eV (.x 0) [.str s5]] R
def j1065 : Fn TT := ⟨8, [.t 3], (sr [qo 2 (.box 2 0),qm 3 bF] (sr [qo 4 (.fa 2 0),qo 5 (ld 4),qo 6 (ld 1),qo 7 (.bin .eql .str 5 6),qm 3 7] .ret))⟩
theorem w1065 {O : Oracle TT} : C1065 (fun _ => vcF (S := SS) O j1065) f1065 := by
 intro a5 k6 m7 lo8 hi9 pA psB sC Q R hQ h
 unfold f1065 at h
 refine ⟨nle rfl, rfl, ?_⟩
 refine kc h ?_ ?_ <;> intro h
 exact kR [] (ND 1) (hQ _ (ss h))
 exact kR [] (ND 1) (hQ _ (ss h))
def f175b_L2 (s6 : BA) : PT → Nat → Option (Sum (Int) (Unit))
  | [], j5 => some (.inr ())
  | ((a7, .mk k8 m9 loA hiB pC psF)) :: tlG, j5 => (f1065 (a7, (Tp.mk k8 m9 loA hiB pC psF)) s6).bind fun qH => cond qH (lft (some ((j5 : Nat) : Int))) (f175b_L2 s6 tlG (j5 + 1))
def f175b : PT → BA → Option (Int)
  | l3, s4 => sbind (ο := Unit) (f175b_L2 s4 l3 0) (fun () => some (-1))
def C175b (O : Oracle TT) (m : PT → BA → Option (Int)) : Prop :=
  ∀ l6 s5 (Q : Int → Prop) (R : RR) (_ : ∀ v7, Q v7 → R (iD v7) [eV (.x 0) [.str s5]]) (_ : sat (m l6 s5) Q), O 175 [.c (.isl .part l6), .c (.fn 1065 [(.x 0)])] [eV (.x 0) [.str s5]] R
def j175b : Fn TT := ⟨19, [.t 4], (sr [qo 4 (.mv (iC 0))] (.cut [] [(.x 0)] (sr [qm 6 0,qo 7 (.len false 6),qo 8 (.mv (iC 0))] (.block 0 (.loop (.keep [0, 1, 7, 8] [(.x 0)] (.aft (sr [qo 9 (.bin .lss .num 8 7)] (.seq (.cond 9 .skip (.exit 0)) (.seq (.block 1 (sr [qm 10 8,qm 5 10] (sr [qm 11 1,qm 12 0,
 qm 13 5,qo 14 (.idxA 12 13 7),qo 15 (.load 14 7 true),qo 16 (.callv 16 11 [15])] (.cond 16 (sr [qm 17 5,qm 4 17] .ret) .skip)))) (.reg [qo 18 (.bin .add .num 8 (iC 1)),qm 8 18])))) [.keep [0, 1, 7, 8] [(.x 0)]]))))) (sr [qo 4 (.mv (iC (-1)))] .ret)))⟩
theorem w175b {O : Oracle TT} (h1065 : C1065 O f1065) : C175b (fun _ => vcF (S := SS) O j175b) f175b := by
 intro l9 sG Q R hQ h
 unfold f175b at h
 refine ⟨nle rfl, rfl, ?_⟩
 obtain ⟨R6, h, a6, b6⟩ := sc h
 refine kX (fun σ => R6 (.inr ()) ∧ σ = ⟨[], [eV (.x 0) [.str sG]]⟩) ?_ ?_
 intro hlI
 refine kX (fun σ n => ∃ (rem5 : PT) (j8 : Nat) (z : Int), n = rem5.length ∧ l9.drop j8 = rem5 ∧ z = ((j8 : Nat) : Int) ∧ sat (f175b_L2 sG rem5 j8) R6 ∧ σ.keep [0, 1, 7, 8] [(.x 0)] = ⟨[(0, .c (.isl .part l9)), (1, .c (.fn 1065 [(.x 0)])), (7, iD ((l9.length : Nat) : Int)), (8, iD z)], [eV (.x 0) [.str sG]]⟩) ⟨_, l9, 0, _, rfl, rfl, rfl, h, rfl⟩ ?_
 rintro σ n ⟨rem5, j8, _, rfl, hrem5, rfl, h, hσ⟩
 refine kk hσ ?_
 intro tA (htA : tA = decide (((j8 : Nat) : Int) < ((l9.length : Nat) : Int)))
 cases tA
 obtain rfl := ll_nil hrem5 htA
 rw [f175b_L2] at h
 conv => whnf
 exact ⟨ss h, rfl⟩
 obtain ⟨xB, tlC, rfl, hxB, htlC⟩ := ll_cons hrem5 htA
 obtain ⟨aK, ⟨kM, mN, loO, hiP, pQ, psU⟩⟩ := xB
 rw [f175b_L2] at h
 conv => whnf
 refine ⟨lx_bd hxB, fun uuH huuH => ?_⟩
 obtain rfl := lx_eq hxB huuH
 refine kL [(.x 0)] (h1065 _ _ _ _ _ _ _ _ _ _ ?_ (sb h))
 rintro qJ h
 cases qJ
 replace h := cf h
 conv => whnf
 exact ⟨tlC.length, nls, tlC, j8 + 1, _, rfl, htlC, lx_wr hxB hlI, h, rfl⟩
 replace h := ct h
 replace h := sat_lft a6 h
 exact kR [] (ND 1) (hQ _ (ss h))
 rintro _ ⟨h, rfl⟩
 replace h := b6 _ h
 exact kR [] (ND 1) (hQ _ (ss h))
def f1064 : Tp → BA → Option (Int)
  | .mk k8 m9 loA hiB pC ps5, s6 => (f175b ps5 s6).bind fun v7 => some v7
def C1064 (O : Oracle TT) (m : Tp → BA → Option (Int)) : Prop :=
  ∀ k5 m6 lo7 hi8 p9 psA sB (Q : Int → Prop) (R : RR) (_ : ∀ vC, Q vC → R (iD vC) []) (_ : sat (m (Tp.mk k5 m6 lo7 hi8 p9 psA) sB) Q), O 1064 [.agg [ci k5, .str m6, ci lo7, ci hi8, .str p9, .isl .part psA], sD sB] [] R
def j1064 : Fn TT := ⟨9, [.t 4], (sr [qo 2 (.box 2 0),qo 3 (.box 3 1),qo 4 (.mv (iC 0))] (sr [qo 5 (.fa 2 5),qo 6 (ld 5),qo 7 (.mkf 1065 [3]),qo 8 (.call 8 175 [6, 7]),qm 4 8] .ret))⟩
theorem w1064 {O : Oracle TT} (h175b : C175b O f175b) : C1064 (fun _ => vcF (S := SS) O j1064) f1064 := by
 intro k5 m6 lo7 hi8 p9 psA sB Q R hQ h
 unfold f1064 at h
 refine ⟨nle rfl, rfl, ?_⟩
 refine kL [(.s 3)] (h175b _ _ _ _ ?_ (sb h))
 rintro vC h
 exact kR [] (ND 0) (hQ _ (ss h))
def f1066 : Int → FV → FV → Option FV
  | i, vs, l => grdP (0 ≤ i ∧ i ≤ (l.length : Int) ∧ (l.length + vs.length) * 2000 ≤ 140737488355328) (some (l.take i.toNat ++ vs ++ l.drop i.toNat))
def C1066 (O : Oracle TT) (m : Int → FV → FV → Option (FV)) : Prop :=
  ∀ v8 l9 (r5 : FV) (n6 : Nat) (en6 : n6 = r5.length) (Q : FV → Prop) (R : RR) (_ : ∀ (l7 : FV) (n0r : Nat) (_ : n0r = l7.length), Q l7 → R (.c (.osl (.x 1) 0 n0r)) [(.x 0, none), (.x 1, (eR .fld l7))]) (_ : sat (m v8 l9 r5) Q), O 1066 [.c (.osl (.x 0) 0 n6), iD v8, .c (.isl .fld l9)] [(.x 0, (eR .fld r5))] R
def f1063 (fuel : Nat) : PT → Ln → Tp → Int → Int → BA → V → Bool → FV → Option (V × Int)
  | l0G, .mk op5 nm6 to0H ns0I n0J lo0K hi0L sep0M (.mk k7 n8 s9 fA) prs0N ks0O, .mk kB mC loF hiG pH psI, kJ, nK, sM, .mk kN nO sP fQ, qU, rV => cond (op5 == 6) (none) (cond (op5 == 7) (none) (cond (op5 == 4) (sbind (ο := Int × Int × BA × FV) ((f57 fuel (V.mk k7 n8 s9 fA)).bind fun (.mk kW nY sZ f00) => some (.inr (kW, nY, sZ, f00))) (fun (v01, v02, s03, l04) => sbind (ο := Int × Int × BA × FV) (cond qU ((f35 fuel (V.mk kN nO sP fQ) nm6).bind fun ((.mk k05 n06 s07 f08), q0P) => some (.inr (k05, n06, s07, f08))) (some (.inr (v01, v02, s03, l04)))) (fun (v09, v0A, s0B, l0C) => sbind (ο := FV) ((f1064 (Tp.mk kB mC loF hiG pH psI) nm6).bind fun v0D => (f1066 v0D ([(nm6, (V.mk v09 v0A s0B l0C))] : FV) rV).bind fun l0E => some (.inr l0E)) (fun l0F => some ((V.mk kJ nK sM l0F), 0))))) (none)))
def C1063 (O : Oracle TT) (m : PT → Ln → Tp → Int → Int → BA → V → Bool → FV → Option (V × Int)) : Prop :=
  ∀ l7 op8 nm9 toA nsB nC loF hiG sepH kI nJ sK fM prsN ksO kP mQ loU hiV pW psY kZ n00 s01 k02 n03 s04 f05 q06 (r5 : FV) (n6 : Nat) (en6 : n6 = r5.length) (Q : (V × Int) → Prop) (R : RR) (_ : ∀ k07 n08 s09 f0A v0B, Q ((V.mk k07 n08 s09 f0A), v0B) → R (.tup [.agg [ci k07, ci n08, .str s09, .isl .fld f0A], iD v0B]) [(.x 0, none)]) (_ : sat (m l7 (Ln.mk op8 nm9 toA nsB nC loF hiG sepH (V.mk kI nJ sK fM) prsN ksO) (Tp.mk kP mQ loU hiV pW psY) kZ n00 s01 (V.mk k02 n03 s04 f05) q06 r5) Q), O 1063 [.c (.isl .dfn l7), .agg [ci op8, .str nm9, .str toA, .isl .str nsB, ci nC, ci loF, ci hiG, .int .u8 sepH, ci kI, ci nJ, .str sK, .isl .fld fM, .isl .two prsN, .isl .lens ksO], .agg [ci kP, .str mQ, ci loU, ci hiV, .str pW, .isl .part psY], .agg [ci kZ, ci n00, .str s01, .osl (.x 0) 0 n6], .agg [ci k02, ci n03, .str s04, .isl .fld f05], bD q06] [(.x 0, (eR .fld r5))] R
def j1063 : Fn TT := ⟨229, [.cell 12 4 true, .t 13], (sr [qo 7 (.box 7 1),qo 8 (.box 8 2),qo 9 (.box 9 3),qo 10 (.box 10 4),qo 12 (.alloc 12 zV),qo 13 (.mv (iC 0))] (sr [qo 26 (.fa 7 7),qo 27 (ld 26),qo 28 (.bsl .u8 [27]),qo 29 (.b2s 28),qm 14 29] (.seq (sr [qo 30 (.fa 7 0),qo 31 (ld 30)] (.block 0 (.seq
 (.reg [qo 33 (.bin .eql .num 31 (iC 6)),qm 32 33]) (.cond 32 .dead (sr [qo 39 (.bin .eql .num 31 (iC 7)),qm 38 39] (.cond 38 .dead (sr [qo 46 (.bin .eql .num 31 (iC 4)),qm 45 46] (.cond 45 (.cut [5, 7, 8, 9, 10, 12, 15] [(.s 7), (.s 8), (.s 9), (.s 10), (.s 12), (.s 15), (.x 0)]
 (.drw [] (.go 0 (.go 1 (.go 2 (.go 3 (.alt 4 (.go 5 (.go 6 (.go 7 .nil))) 6 (.go 4 (.go 5 (.go 7 .nil)))))))) [7] [0, 1, 2, 3, 5] [qo 47 (.fa 7 1),qo 48 (ld 47),qo 49 (.fa 7 8),qo 50 (.load 49 4 true),qo 51 (.call 51 57 [50]),qo 52 (.build zFd [((0, 1), 48), ((1, 4), 51)]),qo 15 (.alloc 15 zFd),qp (.store 15 52 5)])
 (.cut [7, 8, 9, 12, 15] [(.s 7), (.s 8), (.s 9), (.s 12), (.s 15), (.x 0)] (sr [qm 53 5] (.cond 53 (.reg [qo 55 (.load 10 4 true),qo 56 (.fa 7 1),qo 57 (ld 56),qo 58 (.call 58 35 [55, 57]),qm 54 58,qo 59 (.ext 54 0),qo 60 (.ext 54 1),qo 61 (.fa 15 1),qp (.store 61 59 4)]) .skip)) (.cut [9, 12] [(.s 9), (.s 12), (.sub (.s 70) 0)]
 (.drw [(.x 0)] (.go 0 (.go 1 (.go 2 (.go 3 (.go 4 (.go 6 (.alt 5 (.go 7 (.go 8 (.go 9 (.go 10 .nil)))) 7 (.go 5 (.go 8 (.go 9 (.go 10 .nil))))))))))) [10] [0, 1, 2, 3, 4, 6, 9] [qo 62 (.fa 9 3),qo 63 (ld 62),qo 64 (.load 8 6 true),qo 65 (.fa 7 1),qo 66 (ld 65),qo 67 (.call 67 1064 [64, 66]),qo 68 (.load 15 5 true),qo 69 (.bsl .fld [68]),
 qo 70 (.call 70 1066 [63, 67, 69]),qo 71 (.fa 9 3),qp (.store 71 70 1)]) (sr [qo 72 (.load 9 4 true),qp (.store 12 72 4),qo 13 (.mv (iC 0))] (.pre [.frzc (.s 12) 3 .fld] .ret))))) .dead)))))))) .dead)))⟩
theorem w1063 {O : Oracle TT} (fuel : Nat) (h57 : C57 O (f57 fuel)) (h35 : C35 O (f35 fuel)) (h1064 : C1064 O f1064) (h1066 : C1066 O f1066) : C1063 (fun _ => vcF (S := SS) O j1063) (f1063 fuel) := by
 intro l0Y opU nm5 toV nsW nY loZ hi00 sepI k01 n02 s03 f04 prs05 ks06 k07 m08 lo09 hi0A p0B ps0C kJ nK sM k0G n0H s0I f0J q0D r6 n0E en0E Q R hQ h
 subst en0E
 unfold f1063 at h
 refine ⟨nle rfl, rfl, ?_⟩
 conv => whnf
 refine ⟨([sepI] : LI), rfl, ?_⟩
 refine kc h ?_ ?_ <;> intro h
 refine kc h ?_ ?_ <;> intro h
 refine kc h ?_ ?_ <;> intro h
 exact (sat_none h).elim
 obtain ⟨R7, h, a7, b7⟩ := sc h
 refine kX (fun σ => ∃ v8 v9 sA lB, R7 (.inr (v8, v9, sA, lB)) ∧ σ = ⟨[(5, bD q0D), pT 7, pT 8, pT 9, pT 10, pT 12, pT 15], [eV (.s 7) [ci opU, .str nm5, .str toV, .isl .str nsW, ci nY, ci loZ, ci hi00, .int .u8 sepI, ci k01, ci n02, .str s03, .isl .fld f04, .isl .two prs05, .isl .lens ks06], eV (.s 8) [ci k07, .str m08, ci lo09, ci hi0A, .str p0B, .isl .part ps0C], eV (.s 9) [ci kJ, ci nK, .str sM, .osl (.x 0) 0 r6.length], eV (.s 10) [ci k0G, ci n0H, .str s0I, .isl .fld f0J], eV (.s 12) zV, eV (.s 15) [.str nm5, ci v8, ci v9, .str sA, .isl .fld lB], (.x 0, (eR .fld r6))]⟩) ?_ ?_
 conv => whnf
 refine ⟨?_, ?_⟩
 refine kL [] (h57 _ _ _ _ _ _ ?_ (sb h))
 rintro k0K n0L s0M f0N h
 conv => whnf
 exact ⟨k0K, n0L, s0M, f0N, ss h, rfl⟩
 refine kL [] (h57 _ _ _ _ _ _ ?_ (sb h))
 rintro k0O n0P s0Q f0R h
 conv => whnf
 exact ⟨k0O, n0P, s0Q, f0R, ss h, rfl⟩
 rintro _ ⟨v8, v9, sA, lB, h, rfl⟩
 replace h := b7 _ h
 obtain ⟨RC, h, aC, bC⟩ := sc h
 refine kX (fun σ => ∃ vN vO sP lQ, RC (.inr (vN, vO, sP, lQ)) ∧ σ = ⟨[pT 7, pT 8, pT 9, pT 12, pT 15], [eV (.s 7) [ci opU, .str nm5, .str toV, .isl .str nsW, ci nY, ci loZ, ci hi00, .int .u8 sepI, ci k01, ci n02, .str s03, .isl .fld f04, .isl .two prs05, .isl .lens ks06], eV (.s 8) [ci k07, .str m08, ci lo09, ci hi0A, .str p0B, .isl .part ps0C], eV (.s 9) [ci kJ, ci nK, .str sM, .osl (.x 0) 0 r6.length], eV (.s 12) zV, eV (.s 15) [.str nm5, ci vN, ci vO, .str sP, .isl .fld lQ], (.x 0, (eR .fld r6))]⟩) ?_ ?_
 cases q0D
 replace h := cf h
 conv => whnf
 exact ⟨v8, v9, sA, lB, ss h, rfl⟩
 replace h := ct h
 refine kL [] (h35 _ _ _ _ _ _ _ ?_ (sb h))
 rintro k0S n0T s0U f0V q0Z h
 conv => whnf
 exact ⟨k0S, n0T, s0U, f0V, ss h, rfl⟩
 rintro _ ⟨vN, vO, sP, lQ, h, rfl⟩
 replace h := bC _ h
 obtain ⟨RG, h, aG, bG⟩ := sc h
 refine kX (fun σ => ∃ (lH : FV) (n0F : Nat), n0F = lH.length ∧ RG (.inr lH) ∧ σ = ⟨[pT 9, pT 12], [eV (.s 9) [ci kJ, ci nK, .str sM, .osl (.sub (.s 70) 0) 0 n0F], eV (.s 12) zV, (.sub (.s 70) 0, (eR .fld lH))]⟩) ?_ ?_
 conv => whnf
 refine ⟨?_, ?_⟩
 refine kL [] (h1064 _ _ _ _ _ _ _ _ _ ?_ (sb h))
 rintro v10 h
 refine kL [(.x 0)] (h1066 _ _ _ _ LN _ _ ?_ (sb h))
 rintro l0W _ rfl h
 conv => whnf
 exact ⟨l0W, _, LN, ss h, rfl⟩
 refine kL [] (h1064 _ _ _ _ _ _ _ _ _ ?_ (sb h))
 rintro v11 h
 refine kL [(.x 0)] (h1066 _ _ _ _ LN _ _ ?_ (sb h))
 rintro l0X _ rfl h
 conv => whnf
 exact ⟨l0X, _, LN, ss h, rfl⟩
 rintro _ ⟨lH, _, rfl, h, rfl⟩
 replace h := bG _ h
 conv => whnf
 refine ⟨LN, ?_⟩
 exact kR [] (ND 1) (hQ _ _ _ _ _ (ss h))
 exact (sat_none h).elim
 exact (sat_none h).elim
def f163b_L2 (s6 : BA) : FV → Nat → Option (Sum (Int) (Unit))
  | [], j5 => some (.inr ())
  | ((a7, .mk k8 n9 sA fB)) :: tlC, j5 => (f1053 (a7, (V.mk k8 n9 sA fB)) s6).bind fun qF => cond qF (lft (some ((j5 : Nat) : Int))) (f163b_L2 s6 tlC (j5 + 1))
def f163b : FV → BA → Option (Int)
  | l3, s4 => sbind (ο := Unit) (f163b_L2 s4 l3 0) (fun () => some (-1))
def C163b (O : Oracle TT) (m : FV → BA → Option (Int)) : Prop :=
  ∀ l6 s5 (Q : Int → Prop) (R : RR) (_ : ∀ v7, Q v7 → R (iD v7) [eV (.x 0) [.str s5]]) (_ : sat (m l6 s5) Q), O 163 [.c (.isl .fld l6), .c (.fn 1053 [(.x 0)])] [eV (.x 0) [.str s5]] R
def j163b : Fn TT := ⟨19, [.t 4], (sr [qo 4 (.mv (iC 0))] (.cut [] [(.x 0)] (sr [qm 6 0,qo 7 (.len false 6),qo 8 (.mv (iC 0))] (.block 0 (.loop (.keep [0, 1, 7, 8] [(.x 0)] (.aft (sr [qo 9 (.bin .lss .num 8 7)] (.seq (.cond 9 .skip (.exit 0)) (.seq (.block 1 (sr [qm 10 8,qm 5 10] (sr [qm 11 1,qm 12 0,
 qm 13 5,qo 14 (.idxA 12 13 5),qo 15 (.load 14 5 true),qo 16 (.callv 16 11 [15])] (.cond 16 (sr [qm 17 5,qm 4 17] .ret) .skip)))) (.reg [qo 18 (.bin .add .num 8 (iC 1)),qm 8 18])))) [.keep [0, 1, 7, 8] [(.x 0)]]))))) (sr [qo 4 (.mv (iC (-1)))] .ret)))⟩
theorem w163b {O : Oracle TT} (h1053 : C1053 O f1053) : C163b (fun _ => vcF (S := SS) O j163b) f163b := by
 intro l9 sG Q R hQ h
 unfold f163b at h
 refine ⟨nle rfl, rfl, ?_⟩
 obtain ⟨R6, h, a6, b6⟩ := sc h
 refine kX (fun σ => R6 (.inr ()) ∧ σ = ⟨[], [eV (.x 0) [.str sG]]⟩) ?_ ?_
 intro hlI
 refine kX (fun σ n => ∃ (rem5 : FV) (j8 : Nat) (z : Int), n = rem5.length ∧ l9.drop j8 = rem5 ∧ z = ((j8 : Nat) : Int) ∧ sat (f163b_L2 sG rem5 j8) R6 ∧ σ.keep [0, 1, 7, 8] [(.x 0)] = ⟨[(0, .c (.isl .fld l9)), (1, .c (.fn 1053 [(.x 0)])), (7, iD ((l9.length : Nat) : Int)), (8, iD z)], [eV (.x 0) [.str sG]]⟩) ⟨_, l9, 0, _, rfl, rfl, rfl, h, rfl⟩ ?_
 rintro σ n ⟨rem5, j8, _, rfl, hrem5, rfl, h, hσ⟩
 refine kk hσ ?_
 intro tA (htA : tA = decide (((j8 : Nat) : Int) < ((l9.length : Nat) : Int)))
 cases tA
 obtain rfl := ll_nil hrem5 htA
 rw [f163b_L2] at h
 conv => whnf
 exact ⟨ss h, rfl⟩
 obtain ⟨xB, tlC, rfl, hxB, htlC⟩ := ll_cons hrem5 htA
 obtain ⟨aK, ⟨kM, nN, sO, fP⟩⟩ := xB
 rw [f163b_L2] at h
 conv => whnf
 refine ⟨lx_bd hxB, fun uuH huuH => ?_⟩
 obtain rfl := lx_eq hxB huuH
 refine kL [(.x 0)] (h1053 _ _ _ _ _ _ _ _ ?_ (sb h))
 rintro qJ h
 cases qJ
 replace h := cf h
 conv => whnf
 exact ⟨tlC.length, nls, tlC, j8 + 1, _, rfl, htlC, lx_wr hxB hlI, h, rfl⟩
 replace h := ct h
 replace h := sat_lft a6 h
 exact kR [] (ND 1) (hQ _ (ss h))
 rintro _ ⟨h, rfl⟩
 replace h := b6 _ h
 exact kR [] (ND 1) (hQ _ (ss h))
def f1052a : V → BA → Option (Int)
  | .mk k8 n9 sA f5, s6 => (f163b f5 s6).bind fun v7 => some v7
def C1052a (O : Oracle TT) (m : V → BA → Option (Int)) : Prop :=
  ∀ k5 n6 s7 f8 s9 (Q : Int → Prop) (R : RR) (_ : ∀ vA, Q vA → R (iD vA) []) (_ : sat (m (V.mk k5 n6 s7 f8) s9) Q), O 1052 [.agg [ci k5, ci n6, .str s7, .isl .fld f8], sD s9] [] R
def j1052a : Fn TT := ⟨9, [.t 4], (sr [qo 2 (.box 2 0),qo 3 (.box 3 1),qo 4 (.mv (iC 0))] (sr [qo 5 (.fa 2 3),qo 6 (ld 5),qo 7 (.mkf 1053 [3]),qo 8 (.call 8 163 [6, 7]),qm 4 8] .ret))⟩
theorem w1052a {O : Oracle TT} (h163b : C163b O f163b) : C1052a (fun _ => vcF (S := SS) O j1052a) f1052a := by
 intro k5 n6 s7 f8 s9 Q R hQ h
 unfold f1052a at h
 refine ⟨nle rfl, rfl, ?_⟩
 refine kL [(.s 3)] (h163b _ _ _ _ ?_ (sb h))
 rintro vA h
 exact kR [] (ND 0) (hQ _ (ss h))
def f1075_L2 (fuel : Nat) (nm7 : BA) (ks8 : List Ln) (r6 : List Bool) (k9 : Int) (nA : Int) (sB : BA) (fC : FV) : FV → Nat → Option (Sum (Int) (Unit))
  | [], j5 => some (.inr ())
  | ((a0K, .mk kH nI sJ fK)) :: tlG, j5 => grdP ((0 : Int) ≤ ((j5 : Nat) : Int) ∧ ((j5 : Nat) : Int) < ((r6.length : Nat) : Int)) (getN r6 (0 + ((j5 : Nat) : Int).toNat) fun bM => cond bM (f1075_L2 fuel nm7 ks8 r6 k9 nA sB fC tlG (j5 + 1)) (sbind (ο := Bool × Int × Int × BA × FV) (getL ks8 0 fun uuN => match uuN with | .mk opO nmP toQ nsS nU loV hiW sepY (.mk kZ n00 s01 f02) prs03 ks04 => (f1048 fuel (Ln.mk opO nmP toQ nsS nU loV hiW sepY (V.mk kZ n00 s01 f02) prs03 ks04) (V.mk kH nI sJ fK)).bind fun (.mk k05 n06 s07 f08) => (f35 fuel (V.mk k05 n06 s07 f08) nm7).bind fun ((.mk k09 n0A s0B f0C), q0D) => some (.inr (q0D, k09, n0A, s0B, f0C))) (fun (q0E, v0F, v0G, s0H, l0I) => cond q0E ((f11 fuel (V.mk v0F v0G s0H l0I) (V.mk k9 nA sB fC)).bind fun q0J => cond q0J (lft (some ((j5 : Nat) : Int))) (f1075_L2 fuel nm7 ks8 r6 k9 nA sB fC tlG (j5 + 1))) (f1075_L2 fuel nm7 ks8 r6 k9 nA sB fC tlG (j5 + 1)))))
def f1075 (fuel : Nat) : Ln → Tp → Int → (BA × V) → V → (List Bool) → Option (Int)
  | .mk opU nm5 toV nsW nY loZ hi00 sep01 (.mk k02 n03 s04 f05) prs06 ks8, .mk k9 m07 lo08 hi09 p0A ps0B, v7, (aA, .mk kB nC sF fG), .mk kH nI sJ f6, rK => cond (k9 == 9) ((f1052a (V.mk kH nI sJ f6) aA).bind fun vM => some vM) (cond (nm5.toList == (⟨#[]⟩ : BA).toList) (cond (decide (v7 < ((f6.length : Nat) : Int))) (some v7) (some (-1))) ((f35 fuel (V.mk kB nC sF fG) nm5).bind fun ((.mk kN nO sP fQ), q0C) => sbind (ο := Unit) (f1075_L2 fuel nm5 ks8 rK kN nO sP fQ f6 0) (fun () => some (-1))))
def C1075 (O : Oracle TT) (m : Ln → Tp → Int → (BA × V) → V → (List Bool) → Option (Int)) : Prop :=
  ∀ op7 nm8 to9 nsA nB loC hiF sepG kH nI sJ fK prsM ksN kO mP loQ hiU pV psW vY aZ k00 n01 s02 f03 k04 n05 s06 f07 (r5 : List Bool) (n6 : Nat) (en6 : n6 = r5.length) (Q : Int → Prop) (R : RR) (_ : ∀ v08, Q v08 → R (iD v08) [(.x 0, (eR .bool r5))]) (_ : sat (m (Ln.mk op7 nm8 to9 nsA nB loC hiF sepG (V.mk kH nI sJ fK) prsM ksN) (Tp.mk kO mP loQ hiU pV psW) vY (aZ, (V.mk k00 n01 s02 f03)) (V.mk k04 n05 s06 f07) r5) Q), O 1075 [.agg [ci op7, .str nm8, .str to9, .isl .str nsA, ci nB, ci loC, ci hiF, .int .u8 sepG, ci kH, ci nI, .str sJ, .isl .fld fK, .isl .two prsM, .isl .lens ksN], .agg [ci kO, .str mP, ci loQ, ci hiU, .str pV, .isl .part psW], iD vY, .agg [.str aZ, ci k00, ci n01, .str s02, .isl .fld f03], .agg [ci k04, ci n05, .str s06, .isl .fld f07], .c (.osl (.x 0) 0 n6)] [(.x 0, (eR .bool r5))] R
def j1075 : Fn TT := ⟨78, [.t 12], (sr [qo 6 (.box 6 0),qo 7 (.box 7 1),qo 9 (.box 9 3),qo 10 (.box 10 4),qo 12 (.mv (iC 0))] (.seq (.block 0 (sr [qo 20 (.fa 7 0),qo 21 (ld 20),qo 22 (.bin .eql .num 21 (iC 9)),qm 19 22] (.cond 19 (sr [qo 23 (.load 10 4 true),qo 24 (.fa 9 0),qo 25 (ld 24),qo 26 (.call 26 1052 [23, 25]),
 qm 12 26] .ret) (sr [qo 28 (.fa 6 1),qo 29 (ld 28),qo 30 (.bin .eql .str 29 sE),qm 27 30] (.cond 27 (.seq (sr [qm 31 2,qo 32 (.fa 10 3),qo 33 (ld 32),qo 34 (.len false 33),qo 35 (.bin .lss .num 31 34)] (.cond 35 (sr [qm 36 2,qm 12 36] .ret) .skip)) (sr [qo 12 (.mv (iC (-1)))] .ret)) .skip))))) (.seq
 (.reg [qo 38 (.fa 9 1),qo 39 (.load 38 4 true),qo 40 (.fa 6 1),qo 41 (ld 40),qo 42 (.call 42 35 [39, 41]),qm 37 42,qo 43 (.ext 37 0),qo 44 (.ext 37 1),qo 13 (.alloc 13 zV),qp (.store 13 43 4),qm 14 44]) (.cut [] [(.x 0)] (sr [qo 45 (.fa 10 3),qo 46 (ld 45),qo 47 (.len false 46),qo 48 (.mv (iC 0))] (.block 1
 (.loop (.keep [5, 6, 13, 46, 47, 48] [(.x 0), (.s 6), (.s 13)] (.aft (sr [qo 49 (.bin .lss .num 48 47)] (.seq (.cond 49 .skip (.exit 1)) (.seq (.block 2 (sr [qm 50 48,qo 51 (.idxA 46 48 5),qo 52 (.load 51 5 true),qo 16 (.alloc 16 zFd),qm 15 50,qp (.store 16 52 5)] (.seq (sr [qm 53 5,qm 54 15,qo 55 (.idxA 53 54 1),qo 56 (ld 55)]
 (.cond 56 (.exit 2) .skip)) (.cut [5, 6, 13, 15, 17, 18, 46, 47, 48] [(.x 0), (.s 6), (.s 13), (.s 17)]
 (.drw [] (.go 0 (.go 1 (.go 2 (.go 3 (.go 4 (.go 5 (.go 7 (.go 8 (.alt 6 (.alt 9 (.go 10 (.go 11 (.go 12 (.go 13 (.go 14 (.go 15 .nil)))))) 13 (.go 9 (.go 10 (.go 11 (.go 12 (.go 14 (.go 15 .nil))))))) 13 (.go 6 (.go 9 (.go 10 (.go 11 (.go 12 (.go 14 (.go 15 .nil)))))))))))))))) [14] [0, 1, 2, 3, 4, 5, 7, 8, 10, 11, 12, 15] [qo 58 (.fa 6 13),qo 59 (ld 58),qo 60 (.idxA 59 (iC 0) 14),
 qo 61 (.load 60 14 true),qo 62 (.fa 16 1),qo 63 (.load 62 4 true),qo 64 (.call 64 1048 [61, 63]),qo 65 (.fa 6 1),qo 66 (ld 65),qo 67 (.call 67 35 [64, 66]),qm 57 67,qo 68 (.ext 57 0),qo 69 (.ext 57 1),qo 17 (.alloc 17 zV),qp (.store 17 68 4),qm 18 69]) (sr [qm 70 18,qm 71 70,qg 71 72 (.load 17 4 true),qg 71 73 (.load 13 4 true),
 qg 71 74 (.call 74 11 [72, 73]),qo 75 (.pick 71 74 bF)] (.cond 75 (sr [qm 76 15,qm 12 76] .ret) .skip)))))) (.reg [qo 77 (.bin .add .num 48 (iC 1)),qm 48 77])))) [.keep [5, 6, 13, 46, 47, 48] [(.x 0), (.s 6), (.s 13)]]))))) (sr [qo 12 (.mv (iC (-1)))] .ret)))))⟩
theorem w1075 {O : Oracle TT} (fuel : Nat) (h11 : C11 O (f11 fuel)) (h1048 : C1048 O (f1048 fuel)) (h35 : C35 O (f35 fuel)) (h1052a : C1052a O f1052a) : C1075 (fun _ => vcF (S := SS) O j1075) (f1075 fuel) := by
 intro opZ nmJ to00 ns01 n02 lo03 hi04 sep05 k06 n07 s08 f09 prs0A ksK k0V m0W lo0X hi0Y p0Z ps10 v11 a12 k13 n14 s15 f17 k18 n19 s1A f8 rB n0B en0B Q R hQ h
 subst en0B
 unfold f1075 at h
 refine ⟨nle rfl, rfl, ?_⟩
 refine kc h ?_ ?_ <;> intro h
 refine kc h ?_ ?_ <;> intro h
 refine kL [] (h35 _ _ _ _ _ _ _ ?_ (sb h))
 rintro kM nN sO fP q1B h
 obtain ⟨RC, h, aC, hrRC⟩ := sc h
 refine kX (fun σ => RC (.inr ()) ∧ σ = ⟨[], [(.x 0, (eR .bool rB))]⟩) ?_ ?_
 intro hlQ
 refine kX (fun σ n => ∃ (rem9 : FV) (j5 : Nat) (z : Int), n = rem9.length ∧ f8.drop j5 = rem9 ∧ z = ((j5 : Nat) : Int) ∧ sat (f1075_L2 fuel nmJ ksK rB kM nN sO fP rem9 j5) RC ∧ σ.keep [5, 6, 13, 46, 47, 48] [(.x 0), (.s 6), (.s 13)] = ⟨[(5, .c (.osl (.x 0) 0 rB.length)), pT 6, pT 13, (46, .c (.isl .fld f8)), (47, iD ((f8.length : Nat) : Int)), (48, iD z)], [(.x 0, (eR .bool rB)), eV (.s 6) [ci opZ, .str nmJ, .str to00, .isl .str ns01, ci n02, ci lo03, ci hi04, .int .u8 sep05, ci k06, ci n07, .str s08, .isl .fld f09, .isl .two prs0A, .isl .lens ksK], eV (.s 13) [ci kM, ci nN, .str sO, .isl .fld fP]]⟩) ⟨_, f8, 0, _, rfl, rfl, rfl, h, rfl⟩ ?_
 rintro σ n ⟨rem9, j5, _, rfl, hrem9, rfl, h, hσ⟩
 refine kk hσ ?_
 intro tG (htG : tG = decide (((j5 : Nat) : Int) < ((f8.length : Nat) : Int)))
 cases tG
 obtain rfl := ll_nil hrem9 htG
 rw [f1075_L2] at h
 conv => whnf
 exact ⟨ss h, rfl⟩
 obtain ⟨xA, tl6, rfl, hxA, htl6⟩ := ll_cons hrem9 htG
 obtain ⟨a1C, ⟨k1D, n1E, s1F, f1G⟩⟩ := xA
 rw [f1075_L2] at h
 conv => whnf
 refine ⟨lx_bd hxA, fun uu0C huu0C => ?_⟩
 obtain rfl := lx_eq hxA huu0C
 refine kp h fun hb1H h => ?_
 refine kg (sat_getN h) fun b0E huu1I h => ?_
 cases b0E
 replace h := cf h
 obtain ⟨RH, h, aH, hrRH⟩ := sc h
 refine kX (fun σ => ∃ qI vU vV sW lY, RH (.inr (qI, vU, vV, sW, lY)) ∧ σ = ⟨[(5, .c (.osl (.x 0) 0 rB.length)), pT 6, pT 13, (15, iD ((j5 : Nat) : Int)), pT 17, (18, bD qI), (46, .c (.isl .fld f8)), (47, iD ((f8.length : Nat) : Int)), (48, iD ((j5 : Nat) : Int))], [(.x 0, (eR .bool rB)), eV (.s 6) [ci opZ, .str nmJ, .str to00, .isl .str ns01, ci n02, ci lo03, ci hi04, .int .u8 sep05, ci k06, ci n07, .str s08, .isl .fld f09, .isl .two prs0A, .isl .lens ksK], eV (.s 13) [ci kM, ci nN, .str sO, .isl .fld fP], eV (.s 17) [ci vU, ci vV, .str sW, .isl .fld lY]]⟩) ?_ ?_
 refine kg (sat_getL h) fun uu0D huu0D h => ?_
 obtain ⟨op1J, nm1K, to1L, ns1M, n1N, lo1O, hi1P, sep1Q, ⟨k1R, n1S, s1T, f1U⟩, prs1V, ks1W⟩ := uu0D
 conv => whnf
 refine ⟨?_, ?_⟩
 refine kL [] (h1048 _ _ _ _ _ _ _ _ _ _ _ _ _ _ _ _ _ _ _ _ ?_ (sb h))
 rintro k1X n1Y s1Z f20 h
 conv => whnf
 refine ⟨?_, ?_⟩
 refine kL [] (h35 _ _ _ _ _ _ _ ?_ (sb h))
 rintro k0F n0G s0H f0I q0J h
 conv => whnf
 exact ⟨q0J, k0F, n0G, s0H, f0I, ss h, rfl⟩
 refine kL [] (h35 _ _ _ _ _ _ _ ?_ (sb h))
 rintro k0K n0L s0M f0N q0O h
 conv => whnf
 exact ⟨q0O, k0K, n0L, s0M, f0N, ss h, rfl⟩
 refine kL [] (h1048 _ _ _ _ _ _ _ _ _ _ _ _ _ _ _ _ _ _ _ _ ?_ (sb h))
 rintro k21 n22 s23 f24 h
 refine kL [] (h35 _ _ _ _ _ _ _ ?_ (sb h))
 rintro k0P n0Q s0R f0S q0T h
 conv => whnf
 exact ⟨q0T, k0P, n0Q, s0R, f0S, ss h, rfl⟩
 rintro _ ⟨qI, vU, vV, sW, lY, h, rfl⟩
 replace h := hrRH _ h
 cases qI
 replace h := cf h
 conv => whnf
 exact ⟨tl6.length, nls, tl6, j5 + 1, _, rfl, htl6, lx_wr hxA hlQ, h, rfl⟩
 replace h := ct h
 refine kL [] (h11 _ _ _ _ _ _ _ _ _ _ ?_ (sb h))
 rintro q0U h
 cases q0U
 replace h := cf h
 conv => whnf
 exact ⟨tl6.length, nls, tl6, j5 + 1, _, rfl, htl6, lx_wr hxA hlQ, h, rfl⟩
 replace h := ct h
 replace h := sat_lft aC h
 exact kR [] (ND 1) (hQ _ (ss h))
 replace h := ct h
 conv => whnf
 exact ⟨tl6.length, nls, tl6, j5 + 1, _, rfl, htl6, lx_wr hxA hlQ, h, rfl⟩
 rintro _ ⟨h, rfl⟩
 replace h := hrRC _ h
 exact kR [] (ND 1) (hQ _ (ss h))
 intro hl25
 refine kc h ?_ ?_ <;> intro h
 exact kR [] (ND 1) (hQ _ (ss h))
 exact kR [] (ND 1) (hQ _ (ss h))
 refine kL [] (h1052a _ _ _ _ _ _ _ ?_ (sb h))
 rintro v26 h
 exact kR [] (ND 1) (hQ _ (ss h))
def b1062 (fuel : Nat) (self1074 : PT → Ln → Tp → Int → Int → BA → V → FV → Option (V × Int × FV)) : PT → Ln → Tp → V → V → Bool → Option (V × Int)
  | l6, .mk op5 nm7 to8 ns9 nA loB hiC sepF (.mk kG nH sI fJ) prsK ksM, .mk k05 m06 lo07 hi08 p09 ps0A, .mk kN nO sP f0B, .mk kQ nU sV fW, q0C => cond (op5 == 0) (none) (cond (op5 == 1) (none) (cond (op5 == 16) (none) (cond (op5 == 17) (none) (cond (op5 == 18) (none) (cond (op5 == 11) (none) (cond (op5 == 12) (none) ((f66 fuel l6 (Tp.mk k05 m06 lo07 hi08 p09 ps0A)).bind fun ((.mk kY mZ lo00 hi01 p02 ps03), v0D) => cond (v0D != 0) (none) ((f79 f0B).bind fun l04 => cond (op5 == 13) ((self1074 l6 (Ln.mk op5 nm7 to8 ns9 nA loB hiC sepF (V.mk kG nH sI fJ) prsK ksM) (Tp.mk kY mZ lo00 hi01 p02 ps03) kN nO sP (V.mk kQ nU sV fW) l04).bind fun ((.mk k0E n0F s0G f0H), v0I, l0O) => some ((V.mk k0E n0F s0G f0H), v0I)) (cond (op5 == 14) (none) (cond (op5 == 15) (none) ((f1063 fuel l6 (Ln.mk op5 nm7 to8 ns9 nA loB hiC sepF (V.mk kG nH sI fJ) prsK ksM) (Tp.mk kY mZ lo00 hi01 p02 ps03) kN nO sP (V.mk kQ nU sV fW) q0C l04).bind fun ((.mk k0J n0K s0L f0M), v0N) => some ((V.mk k0J n0K s0L f0M), v0N))))))))))))
def f1074_L2 (fuel : Nat) (self1062 : PT → Ln → Tp → V → V → Bool → Option (V × Int)) (l9 : PT) (opK : Int) (nmM : BA) (toN : BA) (nsO : LB) (nP : Int) (loQ : Int) (hiU : Int) (sepV : Int) (kW : Int) (nY : Int) (sZ : BA) (f00 : FV) (prs01 : LW) (ksA : List Ln) (k02 : Int) (m03 : BA) (lo04 : Int) (hi05 : Int) (p06 : BA) (psB : PT) (k07 : Int) (n08 : Int) (s09 : BA) (fC : FV) : Nat → Int → (List Bool) → FV → Option (Sum (V × Int × FV) (FV))
  | 0, v5, l8, l6 => some (.inr l6)
  | g0Y + 1, v5, l8, l6 => grdP ((0 : Int) ≤ v5 ∧ v5 < ((l6.length : Nat) : Int)) (getN l6 (0 + v5.toNat) fun uu0Z => match uu0Z with | (a10, .mk kG nH sI fJ) => (f1075 fuel (Ln.mk opK nmM toN nsO nP loQ hiU sepV (V.mk kW nY sZ f00) prs01 ksA) (Tp.mk k02 m03 lo04 hi05 p06 psB) v5 (a10, (V.mk kG nH sI fJ)) (V.mk k07 n08 s09 fC) l8).bind fun v7 => sbind (ο := (List Bool) × Int × Int × BA × FV) (cond (decide (v7 ≥ 0)) (getL fC v7 fun uu11 => match uu11 with | (a1R, .mk k12 n13 s14 f15) => grdP ((0 : Int) ≤ v7 ∧ v7 < ((l8.length : Nat) : Int)) (getN l8 (0 + v7.toNat) fun b1S => some (.inr ((l8.set (0 + v7.toNat) true), k12, n13, s14, f15)))) (some (.inr (l8, 0, 0, (⟨#[]⟩ : BA), [])))) (fun (l17, v0A, v0B, s0C, l0D) => sbind (ο := Int × Int × Int × BA × FV) (getL ksA 0 fun uu18 => match uu18 with | .mk op0E nm0F to0G ns0H n0I lo0J hi0K sep0L (.mk k0M n0N s0O f0P) prs0Q ks0R => getL psB 0 fun uu19 => match uu19 with | (a1T, .mk k0S m0T lo0U hi0V p0W ps0X) => cond (decide (v7 ≥ 0)) ((self1062 l9 (Ln.mk op0E nm0F to0G ns0H n0I lo0J hi0K sep0L (V.mk k0M n0N s0O f0P) prs0Q ks0R) (Tp.mk k0S m0T lo0U hi0V p0W ps0X) (V.mk kG nH sI fJ) (V.mk v0A v0B s0C l0D) true).bind fun ((.mk k1A n1B s1C f1D), v1E) => some (.inr (v1E, k1A, n1B, s1C, f1D))) ((self1062 l9 (Ln.mk op0E nm0F to0G ns0H n0I lo0J hi0K sep0L (V.mk k0M n0N s0O f0P) prs0Q ks0R) (Tp.mk k0S m0T lo0U hi0V p0W ps0X) (V.mk kG nH sI fJ) (V.mk v0A v0B s0C l0D) false).bind fun ((.mk k1F n1G s1H f1I), v1J) => some (.inr (v1J, k1F, n1G, s1H, f1I)))) (fun (v1K, v1L, v1M, s1N, l1O) => cond (v1K != 0) (none) (grdP ((0 : Int) ≤ v5 ∧ v5 < ((l6.length : Nat) : Int)) (getN l6 (0 + v5.toNat) fun uu1P => match uu1P with | (a1Q, .mk k1U n1V s1W f1X) => f1074_L2 fuel self1062 l9 opK nmM toN nsO nP loQ hiU sepV kW nY sZ f00 prs01 ksA k02 m03 lo04 hi05 p06 psB k07 n08 s09 fC g0Y (v5 + 1) l17 (l6.set (0 + v5.toNat) (a1Q, (V.mk v1L v1M s1N l1O))))))))
def b1074 (fuel : Nat) (self1062 : PT → Ln → Tp → V → V → Bool → Option (V × Int)) : PT → Ln → Tp → Int → Int → BA → V → FV → Option (V × Int × FV)
  | l8, .mk op9 nmA toB nsC nF loG hiH sepI (.mk kJ nK sM fN) prsO ksP, .mk kQ mU loV hiW pY psZ, k00, n01, s02, .mk k03 n04 s05 f5, r6 => grdP ((0 : Int) ≤ ((f5.length : Nat) : Int) ∧ ((f5.length : Nat) : Int) ≤ 68719476736) (sbind (ο := FV) (grdP (((r6.length : Nat) : Int) ≤ 9223372036854775807) (f1074_L2 fuel self1062 l8 op9 nmA toB nsC nF loG hiH sepI kJ nK sM fN prsO ksP kQ mU loV hiW pY psZ k03 n04 s05 f5 (((r6.length : Nat) : Int) - 0).toNat 0 (List.replicate ((f5.length : Nat) : Int).toNat false) r6)) (fun l7 => some ((V.mk k00 n01 s02 l7), 0, l7)))
def S1062 : Nat → (PT → Ln → Tp → V → V → Bool → Option (V × Int)) × (PT → Ln → Tp → Int → Int → BA → V → FV → Option (V × Int × FV))
  | 0 => (fun _ _ _ _ _ _ => none, fun _ _ _ _ _ _ _ _ => none)
  | n + 1 => (b1062 n (S1062 n).2, b1074 n (S1062 n).1)
def f1062 (n : Nat) : PT → Ln → Tp → V → V → Bool → Option (V × Int) := (S1062 n).1
def f1074 (n : Nat) : PT → Ln → Tp → Int → Int → BA → V → FV → Option (V × Int × FV) := (S1062 n).2
def C1062 (O : Oracle TT) (m : PT → Ln → Tp → V → V → Bool → Option (V × Int)) : Prop :=
  ∀ l5 op6 nm7 to8 ns9 nA loB hiC sepF kG nH sI fJ prsK ksM kN mO loP hiQ pU psV kW nY sZ f00 k01 n02 s03 f04 q05 (Q : (V × Int) → Prop) (R : RR) (_ : ∀ k06 n07 s08 f09 v0A, Q ((V.mk k06 n07 s08 f09), v0A) → R (.tup [.agg [ci k06, ci n07, .str s08, .isl .fld f09], iD v0A]) []) (_ : sat (m l5 (Ln.mk op6 nm7 to8 ns9 nA loB hiC sepF (V.mk kG nH sI fJ) prsK ksM) (Tp.mk kN mO loP hiQ pU psV) (V.mk kW nY sZ f00) (V.mk k01 n02 s03 f04) q05) Q), O 1062 [.c (.isl .dfn l5), .agg [ci op6, .str nm7, .str to8, .isl .str ns9, ci nA, ci loB, ci hiC, .int .u8 sepF, ci kG, ci nH, .str sI, .isl .fld fJ, .isl .two prsK, .isl .lens ksM], .agg [ci kN, .str mO, ci loP, ci hiQ, .str pU, .isl .part psV], .agg [ci kW, ci nY, .str sZ, .isl .fld f00], .agg [ci k01, ci n02, .str s03, .isl .fld f04], bD q05] [] R
def j1062 : Fn TT := ⟨148, [.cell 12 4 true, .t 13], (sr [qo 7 (.box 7 1),qo 8 (.box 8 2),qo 9 (.box 9 3),qo 10 (.box 10 4),qo 12 (.alloc 12 zV),qo 13 (.mv (iC 0))] (.seq (sr [qo 18 (.fa 7 0),qo 19 (ld 18)] (.block 0 (sr [qo 21 (.bin .eql .num 19 (iC 0)),qm 20 21] (.cond 20 .dead (sr [qo 24 (.bin .eql .num 19 (iC 1)),qm 23 24]
 (.cond 23 .dead (sr [qo 36 (.bin .eql .num 19 (iC 16)),qm 35 36] (.cond 35 .dead (sr [qo 43 (.bin .eql .num 19 (iC 17)),qm 42 43] (.cond 42 .dead (sr [qo 49 (.bin .eql .num 19 (iC 18)),qm 48 49] (.cond 48 .dead (sr [qo 71 (.bin .eql .num 19 (iC 11)),qm 70 71] (.cond 70 .dead (sr [qo 88 (.bin .eql .num 19 (iC 12)),
 qm 87 88] (.cond 87 .dead .skip)))))))))))))))) (sr [qm 94 0,qo 95 (.load 8 6 true),qo 96 (.call 96 66 [94, 95]),qm 93 96,qo 97 (.ext 93 0),qo 98 (.ext 93 1),qo 16 (.alloc 16 zTp),qp (.store 16 97 6),qm 17 98] (.seq (sr [qm 99 17,qo 100 (.bin .neq .num 99 (iC 0))] (.cond 100 .dead .skip)) (sr [qo 103 (.fa 9 3),
 qo 104 (ld 103),qo 105 (.call 105 79 [104]),qo 106 (.fa 9 3),qp (.store 106 105 1)] (.seq (sr [qo 107 (.fa 7 0),qo 108 (ld 107)] (.block 3 (sr [qo 110 (.bin .eql .num 108 (iC 13)),qm 109 110] (.cond 109 (sr [qm 111 0,qo 112 (.load 7 14 true),qo 113 (.load 16 6 true),qo 114 (.load 9 4 true),qo 115 (.load 10 4 true),
 qo 116 (.call 116 1074 [111, 112, 113, 114, 115]),qo 117 (.ext 116 0),qo 118 (.ext 116 1),qp (.store 12 117 4),qm 13 118] .ret) (sr [qo 120 (.bin .eql .num 108 (iC 14)),qm 119 120] (.cond 119 .dead (sr [qo 131 (.bin .eql .num 108 (iC 15)),qm 130 131] (.cond 130 .dead .skip)))))))) (sr [qm 139 0,qo 140 (.load 7 14 true),
 qo 141 (.load 16 6 true),qo 142 (.load 9 4 true),qo 143 (.load 10 4 true),qm 144 5,qo 145 (.call 145 1063 [139, 140, 141, 142, 143, 144]),qo 146 (.ext 145 0),qo 147 (.ext 145 1),qp (.store 12 146 4),qm 13 147] .ret)))))))⟩
def C1074 (O : Oracle TT) (m : PT → Ln → Tp → Int → Int → BA → V → FV → Option (V × Int × FV)) : Prop :=
  ∀ l8 op9 nmA toB nsC nF loG hiH sepI kJ nK sM fN prsO ksP kQ mU loV hiW pY psZ k00 n01 s02 k03 n04 s05 f06 (r5 : FV) (n6 : Nat) (en6 : n6 = r5.length) (Q : (V × Int × FV) → Prop) (R : RR) (_ : ∀ k07 n08 s09 f0A v0B (l7 : FV) (_ : l7.length = r5.length), Q ((V.mk k07 n08 s09 f0A), v0B, l7) → R (.tup [.agg [ci k07, ci n08, .str s09, .isl .fld f0A], iD v0B]) [(.x 0, some (.row true .fld l7))]) (_ : sat (m l8 (Ln.mk op9 nmA toB nsC nF loG hiH sepI (V.mk kJ nK sM fN) prsO ksP) (Tp.mk kQ mU loV hiW pY psZ) k00 n01 s02 (V.mk k03 n04 s05 f06) r5) Q), O 1074 [.c (.isl .dfn l8), .agg [ci op9, .str nmA, .str toB, .isl .str nsC, ci nF, ci loG, ci hiH, .int .u8 sepI, ci kJ, ci nK, .str sM, .isl .fld fN, .isl .two prsO, .isl .lens ksP], .agg [ci kQ, .str mU, ci loV, ci hiW, .str pY, .isl .part psZ], .agg [ci k00, ci n01, .str s02, .osl (.x 0) 0 n6], .agg [ci k03, ci n04, .str s05, .isl .fld f06]] [(.x 0, (eR .fld r5))] R
def j1074 : Fn TT := ⟨81, [.cell 10 4 true, .t 11], (sr [qo 6 (.box 6 1),qo 7 (.box 7 2),qo 8 (.box 8 3),qo 9 (.box 9 4),qo 10 (.alloc 10 zV),qo 11 (.mv (iC 0))] (sr [qo 19 (.fa 9 3),qo 20 (ld 19),qo 21 (.len false 20),qo 22 (.mk 22 .bool false 68719476736 21),qm 12 22] (.cut [8, 10] [(.s 8), (.s 10), (.x 0)] (sr [qo 23 (.fa 8 3),
 qo 24 (ld 23),qo 25 (.len false 24),qo 26 (.mv (iC 0))] (.block 0 (.loop (.keep [0, 6, 7, 8, 9, 10, 12, 24, 25, 26] [(.s 6), (.s 7), (.s 8), (.s 9), (.s 10), (.s 22), (.x 0)] (.aft (sr [qo 27 (.bin .lss .num 26 25)] (.seq (.cond 27 .skip (.exit 0)) (.seq (.block 1 (sr [qm 28 26,qo 29 (.idxA 24 26 5),qo 30 (.load 29 5 true),qo 14 (.alloc 14 zFd),
 qm 13 28,qp (.store 14 30 5)] (sr [qo 31 (.load 6 14 true),qo 32 (.load 7 6 true),qm 33 13,qo 34 (.load 14 5 true),qo 35 (.load 9 4 true),qm 36 12,qo 37 (.call 37 1075 [31, 32, 33, 34, 35, 36]),qm 15 37] (sr [qo 38 (.build zV []),qo 16 (.alloc 16 zV),qp (.store 16 38 4)]
 (.cut [0, 6, 7, 8, 9, 10, 12, 13, 14, 15, 16, 24, 25, 26] [(.s 6), (.s 7), (.s 8), (.s 9), (.s 10), (.s 22), (.s 14), (.s 16), (.x 0)] (sr [qm 39 15,qo 40 (.bin .geq .num 39 (iC 0))] (.cond 40 (.reg [qm 41 12,qm 42 15,qo 43 (.fa 9 3),qo 44 (ld 43),qm 45 15,qo 46 (.idxA 44 45 5),qo 47 (.fa 46 1),qo 48 (.load 47 4 true),qo 49 (.idxA 41 42 1),
 qp (.store 49 bT 1),qp (.store 16 48 4)]) .skip)) (.cut [0, 6, 7, 8, 9, 10, 12, 13, 17, 18, 24, 25, 26] [(.s 6), (.s 7), (.s 8), (.s 9), (.s 10), (.s 22), (.s 17), (.x 0)]
 (.drw [] (.go 0 (.go 1 (.go 2 (.go 3 (.go 4 (.go 5 (.go 6 (.go 7 (.go 8 (.go 9 (.go 10 (.go 11 (.go 12 (.go 13 (.go 14 (.alt 15 (.go 16 (.go 17 (.go 18 (.go 19 (.go 20 (.go 21 .nil)))))) 19 (.go 15 (.go 16 (.go 17 (.go 18 (.go 20 (.go 21 .nil)))))))))))))))))))))) [20] [0, 1, 2, 3, 4, 5, 6, 7, 8, 9, 10, 11, 12, 13, 14, 16, 17, 18, 21] [qm 51 0,qo 52 (.fa 6 13),qo 53 (ld 52),
 qo 54 (.idxA 53 (iC 0) 14),qo 55 (.load 54 14 true),qo 56 (.fa 7 5),qo 57 (ld 56),qo 58 (.idxA 57 (iC 0) 7),qo 59 (.fa 58 1),qo 60 (.load 59 6 true),qo 61 (.fa 14 1),qo 62 (.load 61 4 true),qo 63 (.load 16 4 true),qm 64 15,qo 65 (.bin .geq .num 64 (iC 0)),qo 66 (.call 66 1062 [51, 55, 60, 62, 63, 65]),qm 50 66,qo 67 (.ext 50 0),qo 68 (.ext 50 1),
 qo 17 (.alloc 17 zV),qp (.store 17 67 4),qm 18 68]) (.seq (sr [qm 69 18,qo 70 (.bin .neq .num 69 (iC 0))] (.cond 70 .dead .skip)) (.reg [qo 73 (.fa 8 3),qo 74 (ld 73),qm 75 13,qo 76 (.load 17 4 true),qo 77 (.idxA 74 75 5),qo 78 (.fa 77 1),qp (.store 78 76 4)])))))))) (.reg [qo 79 (.bin .add .num 26 (iC 1)),
 qm 26 79])))) [.keep [0, 6, 7, 8, 9, 10, 12, 24, 25, 26] [(.s 6), (.s 7), (.s 8), (.s 9), (.s 10), (.s 22), (.x 0)]]))))) (sr [qo 80 (.load 8 4 true),qp (.store 10 80 4),qo 11 (.mv (iC 0))] (.pre [.frzc (.s 10) 3 .fld] .ret)))))⟩
theorem w1062 {O : Oracle TT} (fuel : Nat) (self1074 : PT → Ln → Tp → Int → Int → BA → V → FV → Option (V × Int × FV)) (h66 : C66 O (f66 fuel)) (h79 : C79 O f79) (h1063 : C1063 O (f1063 fuel)) (h1074 : C1074 O self1074) : C1062 (fun _ => vcF (S := SS) O j1062) (b1062 fuel self1074) := by
 intro l6 op7 nm8 to9 nsA nB loC hiF sepG kH nI sJ fK prsM ksN kO mP loQ hiU pV psW kY nZ s00 f01 k02 n03 s04 f05 q06 Q R hQ h
 unfold b1062 at h
 refine ⟨nle rfl, rfl, ?_⟩
 refine kc h ?_ ?_ <;> intro h
 refine kc h ?_ ?_ <;> intro h
 refine kc h ?_ ?_ <;> intro h
 refine kc h ?_ ?_ <;> intro h
 refine kc h ?_ ?_ <;> intro h
 refine kc h ?_ ?_ <;> intro h
 refine kc h ?_ ?_ <;> intro h
 refine kL [] (h66 _ _ _ _ _ _ _ _ _ ?_ (sb h))
 rintro k07 m08 lo09 hi0A p0B ps0C v0D h
 refine kc h ?_ ?_ <;> intro h
 refine kL [] (h79 _ _ _ ?_ (sb h))
 rintro l0E _ rfl h
 refine kc h ?_ ?_ <;> intro h
 refine kc h ?_ ?_ <;> intro h
 refine kc h ?_ ?_ <;> intro h
 refine kL [(.sub (.s 105) 0)] (h1063 _ _ _ _ _ _ _ _ _ _ _ _ _ _ _ _ _ _ _ _ _ _ _ _ _ _ _ _ _ _ _ LN _ _ ?_ (sb h))
 rintro k0F n0G s0H f0I v0J h
 exact kR [] (ND 0) (hQ _ _ _ _ _ (ss h))
 exact (sat_none h).elim
 exact (sat_none h).elim
 refine kL [(.sub (.s 105) 0)] (h1074 _ _ _ _ _ _ _ _ _ _ _ _ _ _ _ _ _ _ _ _ _ _ _ _ _ _ _ _ _ _ LN _ _ ?_ (sb h))
 rintro k0K n0L s0M f0N v0O l5 hkrl5 h
 exact kR [] (ND 0) (hQ _ _ _ _ _ (ss h))
 exact (sat_none h).elim
 exact (sat_none h).elim
 exact (sat_none h).elim
 exact (sat_none h).elim
 exact (sat_none h).elim
 exact (sat_none h).elim
 exact (sat_none h).elim
 exact (sat_none h).elim
theorem w1074 {O : Oracle TT} (fuel : Nat) (self1062 : PT → Ln → Tp → V → V → Bool → Option (V × Int)) (h1062 : C1062 O self1062) (h1075 : C1075 O (f1075 fuel)) : C1074 (fun _ => vcF (S := SS) O j1074) (b1074 fuel self1062) := by
 intro lP opQ nmU toV nsW nY loZ hi00 sep01 k02 n03 s04 f05 prs06 ks07 k08 m09 lo0A hi0B p0C ps0D k0E n0F s0G k0H n0I s0J fH r9 n0S en0S Q R hQ h
 subst en0S
 unfold b1074 at h
 refine ⟨nle rfl, rfl, ?_⟩
 intro hl1Y
 refine kp h fun hb1Z h => ?_
 obtain ⟨RI, h, aI, hrRI⟩ := sc h
 refine kX (fun σ => ∃ (lC : FV) (n0T : Nat), n0T = lC.length ∧ lC.length = r9.length ∧ RI (.inr lC) ∧ σ = ⟨[pT 8, pT 10], [eV (.s 8) [ci k0E, ci n0F, .str s0G, .osl (.x 0) 0 n0T], eV (.s 10) zV, (.x 0, (eR .fld lC))]⟩) ?_ ?_
 intro hl20
 obtain ⟨hN13, h⟩ := sat_grdP h
 refine kX (fun σ n => ∃ (f8 : Nat) (v6 : Int) (z : Int) (lG : List Bool) (l5 : FV) (n0U : Nat) (n0M : Nat), f8 = n ∧ f8 = (((r9.length : Nat) : Int) - v6).toNat ∧ 0 ≤ v6 ∧ v6 = z ∧ n0U = lG.length ∧ n0M = l5.length ∧ l5.length = r9.length ∧ sat (f1074_L2 fuel self1062 lP opQ nmU toV nsW nY loZ hi00 sep01 k02 n03 s04 f05 prs06 ks07 k08 m09 lo0A hi0B p0C ps0D k0H n0I s0J fH f8 v6 lG l5) RI ∧ σ.keep [0, 6, 7, 8, 9, 10, 12, 24, 25, 26] [(.s 6), (.s 7), (.s 8), (.s 9), (.s 10), (.s 22), (.x 0)] = ⟨[(0, .c (.isl .dfn lP)), pT 6, pT 7, pT 8, pT 9, pT 10, (12, .c (.osl (.s 22) 0 n0U)), (24, .c (.osl (.x 0) 0 n0M)), (25, iD ((r9.length : Nat) : Int)), (26, iD z)], [eV (.s 6) [ci opQ, .str nmU, .str toV, .isl .str nsW, ci nY, ci loZ, ci hi00, .int .u8 sep01, ci k02, ci n03, .str s04, .isl .fld f05, .isl .two prs06, .isl .lens ks07], eV (.s 7) [ci k08, .str m09, ci lo0A, ci hi0B, .str p0C, .isl .part ps0D], eV (.s 8) [ci k0E, ci n0F, .str s0G, .osl (.x 0) 0 n0M], eV (.s 9) [ci k0H, ci n0I, .str s0J, .isl .fld fH], eV (.s 10) zV, (.s 22, (eR .bool lG)), (.x 0, (eR .fld l5))]⟩) ⟨_, _, 0, _, (List.replicate ((fH.length : Nat) : Int).toNat false), r9, _, _, rfl, rfl, (by decide), rfl, LN, LN, LN, h, rfl⟩ ?_
 rintro σ n ⟨f8, v6, _, lG, l5, _, _, rfl, hf8, hpf8, rfl, rfl, rfl, hkll5, h, hσ⟩
 refine kk hσ ?_
 intro tJ (htJ : tJ = decide (v6 < ((r9.length : Nat) : Int)))
 cases tJ
 obtain rfl := il_nil hf8 htJ
 rw [f1074_L2] at h
 conv => whnf
 exact ⟨l5, _, LN, LN, ss h, rfl⟩
 obtain ⟨gA, rfl, hwgA, hpgA, hfgA⟩ := il_cons hf8 hpf8 htJ hN13
 rw [f1074_L2] at h
 refine kp h fun hb21 h => ?_
 refine kg (sat_getN h) fun uu0V huu0V h => ?_
 obtain ⟨a14, ⟨k15, n17, s18, f19⟩⟩ := uu0V
 refine kL [(.s 22)] (h1075 _ _ _ _ _ _ _ _ _ _ _ _ _ _ _ _ _ _ _ _ _ _ _ _ _ _ _ _ _ _ _ _ LN _ _ ?_ (sb h))
 rintro v0W h
 obtain ⟨R0K, h, a0K, hrR0K⟩ := sc h
 refine kX (fun σ => ∃ (lB : List Bool) (v0N : Int) (v0O : Int) (s0P : BA) (l0Q : FV) (n0X : Nat), n0X = lB.length ∧ R0K (.inr (lB, v0N, v0O, s0P, l0Q)) ∧ σ = ⟨[(0, .c (.isl .dfn lP)), pT 6, pT 7, pT 8, pT 9, pT 10, (12, .c (.osl (.s 22) 0 n0X)), (13, iD v6), pT 14, (15, iD v0W), pT 16, (24, .c (.osl (.x 0) 0 l5.length)), (25, iD ((r9.length : Nat) : Int)), (26, iD v6)], [eV (.s 6) [ci opQ, .str nmU, .str toV, .isl .str nsW, ci nY, ci loZ, ci hi00, .int .u8 sep01, ci k02, ci n03, .str s04, .isl .fld f05, .isl .two prs06, .isl .lens ks07], eV (.s 7) [ci k08, .str m09, ci lo0A, ci hi0B, .str p0C, .isl .part ps0D], eV (.s 8) [ci k0E, ci n0F, .str s0G, .osl (.x 0) 0 l5.length], eV (.s 9) [ci k0H, ci n0I, .str s0J, .isl .fld fH], eV (.s 10) zV, (.s 22, (eR .bool lB)), eV (.s 14) [.str a14, ci k15, ci n17, .str s18, .isl .fld f19], eV (.s 16) [ci v0N, ci v0O, .str s0P, .isl .fld l0Q], (.x 0, (eR .fld l5))]⟩) ?_ ?_
 refine kc h ?_ ?_ <;> intro h
 conv => whnf
 exact ⟨lG, (0 : Int), (0 : Int), eB, [], _, LN, ss h, rfl⟩
 refine kg (sat_getL h) fun uu0Y huu0Y h => ?_
 obtain ⟨a22, ⟨k1A, n1B, s1C, f1D⟩⟩ := uu0Y
 refine kp h fun hb23 h => ?_
 refine kg (sat_getN h) fun b24 huu25 h => ?_
 refine ⟨true, rfl, ?_⟩
 conv => whnf
 exact ⟨(lG.set (0 + v0W.toNat) true), k1A, n1B, s1C, f1D, _, LN, ss h, rfl⟩
 rintro _ ⟨lB, v0N, v0O, s0P, l0Q, _, rfl, h, rfl⟩
 replace h := hrR0K _ h
 obtain ⟨R0L, h, a0L, hrR0L⟩ := sc h
 refine kX (fun σ => ∃ v0R vK vM sN lO, R0L (.inr (v0R, vK, vM, sN, lO)) ∧ σ = ⟨[(0, .c (.isl .dfn lP)), pT 6, pT 7, pT 8, pT 9, pT 10, (12, .c (.osl (.s 22) 0 lB.length)), (13, iD v6), pT 17, (18, iD v0R), (24, .c (.osl (.x 0) 0 l5.length)), (25, iD ((r9.length : Nat) : Int)), (26, iD v6)], [eV (.s 6) [ci opQ, .str nmU, .str toV, .isl .str nsW, ci nY, ci loZ, ci hi00, .int .u8 sep01, ci k02, ci n03, .str s04, .isl .fld f05, .isl .two prs06, .isl .lens ks07], eV (.s 7) [ci k08, .str m09, ci lo0A, ci hi0B, .str p0C, .isl .part ps0D], eV (.s 8) [ci k0E, ci n0F, .str s0G, .osl (.x 0) 0 l5.length], eV (.s 9) [ci k0H, ci n0I, .str s0J, .isl .fld fH], eV (.s 10) zV, (.s 22, (eR .bool lB)), eV (.s 17) [ci vK, ci vM, .str sN, .isl .fld lO], (.x 0, (eR .fld l5))]⟩) ?_ ?_
 refine kg (sat_getL h) fun uu0Z huu0Z h => ?_
 obtain ⟨op26, nm27, to28, ns29, n2A, lo2B, hi2C, sep2D, ⟨k2E, n2F, s2G, f2H⟩, prs2I, ks2J⟩ := uu0Z
 refine kg (sat_getL h) fun uu10 huu10 h => ?_
 obtain ⟨a2K, ⟨k2L, m2M, lo2N, hi2O, p2P, ps2Q⟩⟩ := uu10
 refine kc h ?_ ?_ <;> intro h
 conv => whnf
 refine ⟨?_, ?_⟩
 refine kL [] (h1062 _ _ _ _ _ _ _ _ _ _ _ _ _ _ _ _ _ _ _ _ _ _ _ _ _ _ _ _ _ _ _ _ ?_ (sb h))
 rintro k1E n1F s1G f1H v1I h
 conv => whnf
 exact ⟨v1I, k1E, n1F, s1G, f1H, ss h, rfl⟩
 refine kL [] (h1062 _ _ _ _ _ _ _ _ _ _ _ _ _ _ _ _ _ _ _ _ _ _ _ _ _ _ _ _ _ _ _ _ ?_ (sb h))
 rintro k1J n1K s1L f1M v1N h
 conv => whnf
 exact ⟨v1N, k1J, n1K, s1L, f1M, ss h, rfl⟩
 conv => whnf
 refine ⟨?_, ?_⟩
 refine kL [] (h1062 _ _ _ _ _ _ _ _ _ _ _ _ _ _ _ _ _ _ _ _ _ _ _ _ _ _ _ _ _ _ _ _ ?_ (sb h))
 rintro k1O n1P s1Q f1R v1S h
 conv => whnf
 exact ⟨v1S, k1O, n1P, s1Q, f1R, ss h, rfl⟩
 refine kL [] (h1062 _ _ _ _ _ _ _ _ _ _ _ _ _ _ _ _ _ _ _ _ _ _ _ _ _ _ _ _ _ _ _ _ ?_ (sb h))
 rintro k1T n1U s1V f1W v1X h
 conv => whnf
 exact ⟨v1X, k1T, n1U, s1V, f1W, ss h, rfl⟩
 rintro _ ⟨v0R, vK, vM, sN, lO, h, rfl⟩
 replace h := hrR0L _ h
 refine kc h ?_ ?_ <;> intro h
 refine kp h fun hb2R h => ?_
 refine kg (sat_getN h) fun uu11 huu11 h => ?_
 obtain ⟨a12, ⟨k2S, n2T, s2U, f2V⟩⟩ := uu11
 refine ⟨(a12, (V.mk vK vM sN lO)), rfl, ?_⟩
 conv => whnf
 exact ⟨gA, nls, gA, v6 + 1, _, lB, (l5.set (0 + v6.toNat) (a12, (V.mk vK vM sN lO))), _, _, rfl, hfgA, hpgA, hwgA.symm, LN, LN, LN, h, rfl⟩
 exact (sat_none h).elim
 rintro _ ⟨lC, _, rfl, hkllC, h, rfl⟩
 replace h := hrRI _ h
 conv => whnf
 refine ⟨LN, ?_⟩
 exact kR [] (ND 1) (hQ _ _ _ _ _ _ LN (ss h))
theorem cg1062 {P : Program} {fid : Nat → FuncId} (mx : MX P) (k1062 : KF P fid 1062 j1062) (k1074 : KF P fid 1074 j1074) (h66 : ∀ n, C66 (SP P fid) (f66 n)) (h79 : C79 (SP P fid) f79) (h1063 : ∀ n, C1063 (SP P fid) (f1063 n)) (h1075 : ∀ n, C1075 (SP P fid) (f1075 n)) : ∀ n, C1062 (SP P fid) (f1062 n) ∧ C1074 (SP P fid) (f1074 n) := by
 intro n
 induction n with
 | zero => exact ⟨fun a6 a7 a8 a9 aA aC aD aE aF aG aH aI aJ aK aL aM aN aO aP aQ aS aT aU aW aX aY aZ a00 a01 a02 Q R hQ h => (sat_none h).elim, fun a6 a7 a8 a9 aA aC aD aE aF aG aH aI aJ aK aL aM aN aO aP aQ aS aT aU aW aX aY aZ a00 a01 n6 e6 Q R hQ h => (sat_none h).elim⟩
 | succ n ih =>
  obtain ⟨ih6, ih7⟩ := ih
  exact ⟨fun a6 a7 a8 a9 aA aC aD aE aF aG aH aI aJ aK aL aM aN aO aP aQ aS aT aU aW aX aY aZ a00 a01 a02 Q R hQ h => spec_of_vc mx k1062 (w1062 n (f1074 n) (h66 n) h79 (h1063 n) ih7 a6 a7 a8 a9 aA aC aD aE aF aG aH aI aJ aK aL aM aN aO aP aQ aS aT aU aW aX aY aZ a00 a01 a02 Q R hQ h), fun a6 a7 a8 a9 aA aC aD aE aF aG aH aI aJ aK aL aM aN aO aP aQ aS aT aU aW aX aY aZ a00 a01 n6 e6 Q R hQ h => spec_of_vc mx k1074 (w1074 n (f1062 n) ih6 (h1075 n) a6 a7 a8 a9 aA aC aD aE aF aG aH aI aJ aK aL aM aN aO aP aQ aS aT aU aW aX aY aZ a00 a01 n6 e6 Q R hQ h)⟩
theorem c1062 {P : Program} {fid : Nat → FuncId} (mx : MX P) (k1062 : KF P fid 1062 j1062) (k1074 : KF P fid 1074 j1074) (h66 : ∀ n, C66 (SP P fid) (f66 n)) (h79 : C79 (SP P fid) f79) (h1063 : ∀ n, C1063 (SP P fid) (f1063 n)) (h1075 : ∀ n, C1075 (SP P fid) (f1075 n)) : ∀ n, C1062 (SP P fid) (f1062 n) := fun n => (cg1062 mx k1062 k1074 h66 h79 h1063 h1075 n).1
def f1067 (fuel : Nat) : V → Int → Option (V × Int)
  | .mk k5 n6 s7 f8, v9 => cond (v9 != 0) (none) ((f51 fuel (V.mk k5 n6 s7 f8)).bind fun vA => cond (vA != 0) (none) ((f57 fuel (V.mk k5 n6 s7 f8)).bind fun (.mk kB nC sF fG) => some ((V.mk kB nC sF fG), 0)))
def C1067 (O : Oracle TT) (m : V → Int → Option (V × Int)) : Prop :=
  ∀ k5 n6 s7 f8 v9 (Q : (V × Int) → Prop) (R : RR) (_ : ∀ kA nB sC fF vG, Q ((V.mk kA nB sC fF), vG) → R (.tup [.agg [ci kA, ci nB, .str sC, .isl .fld fF], iD vG]) []) (_ : sat (m (V.mk k5 n6 s7 f8) v9) Q), O 1067 [.agg [ci k5, ci n6, .str s7, .isl .fld f8], iD v9] [] R
def j1067 : Fn TT := ⟨16, [.cell 4 4 true, .t 5], (sr [qo 2 (.box 2 0),qo 4 (.alloc 4 zV),qo 5 (.mv (iC 0))] (.seq (sr [qm 6 1,qo 7 (.bin .neq .num 6 (iC 0))] (.cond 7 .dead .skip)) (.seq (sr [qo 10 (.load 2 4 true),qo 11 (.call 11 51 [10]),qo 12 (.bin .neq .num 11 (iC 0))] (.cond 12 .dead .skip)) (sr [qo 14 (.load 2 4 true),
 qo 15 (.call 15 57 [14]),qp (.store 4 15 4),qo 5 (.mv (iC 0))] .ret))))⟩
theorem w1067 {O : Oracle TT} (fuel : Nat) (h51 : C51 O (f51 fuel)) (h57 : C57 O (f57 fuel)) : C1067 (fun _ => vcF (S := SS) O j1067) (f1067 fuel) := by
 intro k5 n6 s7 f8 v9 Q R hQ h
 unfold f1067 at h
 refine ⟨nle rfl, rfl, ?_⟩
 refine kc h ?_ ?_ <;> intro h
 refine kL [] (h51 _ _ _ _ _ _ ?_ (sb h))
 rintro vA h
 refine kc h ?_ ?_ <;> intro h
 refine kL [] (h57 _ _ _ _ _ _ ?_ (sb h))
 rintro kB nC sF fG h
 exact kR [] (ND 0) (hQ _ _ _ _ _ (ss h))
 exact (sat_none h).elim
 exact (sat_none h).elim
def f1061 (fuel : Nat) : PT → Ln → Tp → V → V → Option (V × Int)
  | l5, .mk opC nmF toG nsH nI loJ hiK sepM (.mk kN nO sP fQ) prsU ksV, .mk k6 m7 lo8 hi9 pA psB, .mk kW nY sZ f00, .mk k01 n02 s03 f04 => (f1032 fuel l5 (Ln.mk opC nmF toG nsH nI loJ hiK sepM (V.mk kN nO sP fQ) prsU ksV) (Tp.mk k6 m7 lo8 hi9 pA psB)).bind fun ((.mk k05 m06 lo07 hi08 p09 ps0A), v0B) => cond (v0B != 0) (none) ((f1042 fuel l5 (Tp.mk k05 m06 lo07 hi08 p09 ps0A) (V.mk kW nY sZ f00)).bind fun q0C => cond q0C ((f1042 fuel l5 (Tp.mk k6 m7 lo8 hi9 pA psB) (V.mk k01 n02 s03 f04)).bind fun q0D => cond q0D ((f57 fuel (V.mk kW nY sZ f00)).bind fun (.mk k0E n0F s0G f0H) => (f57 fuel (V.mk k01 n02 s03 f04)).bind fun (.mk k0I n0J s0K f0L) => (f1062 fuel l5 (Ln.mk opC nmF toG nsH nI loJ hiK sepM (V.mk kN nO sP fQ) prsU ksV) (Tp.mk k6 m7 lo8 hi9 pA psB) (V.mk k0E n0F s0G f0H) (V.mk k0I n0J s0K f0L) true).bind fun ((.mk k0M n0N s0O f0P), v0Q) => (f1067 fuel (V.mk k0M n0N s0O f0P) v0Q).bind fun ((.mk k0R n0S s0T f0U), v0V) => some ((V.mk k0R n0S s0T f0U), v0V)) (some ((V.mk 0 0 (⟨#[]⟩ : BA) []), 8))) (some ((V.mk 0 0 (⟨#[]⟩ : BA) []), 8)))
def C1061 (O : Oracle TT) (m : PT → Ln → Tp → V → V → Option (V × Int)) : Prop :=
  ∀ l5 op6 nm7 to8 ns9 nA loB hiC sepF kG nH sI fJ prsK ksM kN mO loP hiQ pU psV kW nY sZ f00 k01 n02 s03 f04 (Q : (V × Int) → Prop) (R : RR) (_ : ∀ k05 n06 s07 f08 v09, Q ((V.mk k05 n06 s07 f08), v09) → R (.tup [.agg [ci k05, ci n06, .str s07, .isl .fld f08], iD v09]) []) (_ : sat (m l5 (Ln.mk op6 nm7 to8 ns9 nA loB hiC sepF (V.mk kG nH sI fJ) prsK ksM) (Tp.mk kN mO loP hiQ pU psV) (V.mk kW nY sZ f00) (V.mk k01 n02 s03 f04)) Q), O 1061 [.c (.isl .dfn l5), .agg [ci op6, .str nm7, .str to8, .isl .str ns9, ci nA, ci loB, ci hiC, .int .u8 sepF, ci kG, ci nH, .str sI, .isl .fld fJ, .isl .two prsK, .isl .lens ksM], .agg [ci kN, .str mO, ci loP, ci hiQ, .str pU, .isl .part psV], .agg [ci kW, ci nY, .str sZ, .isl .fld f00], .agg [ci k01, ci n02, .str s03, .isl .fld f04]] [] R
def j1061 : Fn TT := ⟨51, [.cell 10 4 true, .t 11], (sr [qo 6 (.box 6 1),qo 7 (.box 7 2),qo 8 (.box 8 3),qo 9 (.box 9 4),qo 10 (.alloc 10 zV),qo 11 (.mv (iC 0))] (sr [qm 15 0,qo 16 (.load 6 14 true),qo 17 (.load 7 6 true),qo 18 (.call 18 1032 [15, 16, 17]),qm 14 18,qo 19 (.ext 14 0),qo 20 (.ext 14 1),qo 12 (.alloc 12 zTp),qp (.store 12 19 6),
 qm 13 20] (.seq (sr [qm 21 13,qo 22 (.bin .neq .num 21 (iC 0))] (.cond 22 .dead .skip)) (.seq (sr [qm 25 0,qo 26 (.load 12 6 true),qo 27 (.load 8 4 true),qo 28 (.call 28 1042 [25, 26, 27]),qo 29 (.un .not 28),qm 30 29,qf 30 31 (.mv 0),qf 30 32 (.load 7 6 true),qf 30 33 (.load 9 4 true),qf 30 34 (.call 34 1042 [31, 32, 33]),
 qf 30 35 (.un .not 34),qo 36 (.pick 30 bT 35)] (.cond 36 (sr [qo 37 (.build zV []),qp (.store 10 37 4),qo 11 (.mv (iC 8))] .ret) .skip)) (.seq (.drw [] (ol [0, 1, 2, 3, 5, 4, 6, 7, 8, 9, 10, 11, 12, 13, 14]) [13] [0, 1, 2, 3, 5, 8, 9, 11, 12, 14] [qm 38 0,qo 39 (.load 6 14 true),qo 40 (.load 7 6 true),qo 41 (.load 8 4 true),qo 42 (.call 42 57 [41]),qo 43 (.load 9 4 true),
 qo 44 (.call 44 57 [43]),qo 45 (.call 45 1062 [38, 39, 40, 42, 44, bT]),qo 46 (.ext 45 0),qo 47 (.ext 45 1),qo 48 (.call 48 1067 [46, 47]),qo 49 (.ext 48 0),qo 50 (.ext 48 1),qp (.store 10 49 4),qm 11 50]) .ret)))))⟩
theorem w1061 {O : Oracle TT} (fuel : Nat) (h1032 : C1032 O (f1032 fuel)) (h1042 : C1042 O (f1042 fuel)) (h57 : C57 O (f57 fuel)) (h1062 : C1062 O (f1062 fuel)) (h1067 : C1067 O (f1067 fuel)) : C1061 (fun _ => vcF (S := SS) O j1061) (f1061 fuel) := by
 intro l7 op8 nm9 toA nsB nC loF hiG sepH kI nJ sK fM prsN ksO kP mQ loU hiV pW psY kZ n00 s01 f02 k03 n04 s05 f06 Q R hQ h
 unfold f1061 at h
 refine ⟨nle rfl, rfl, ?_⟩
 refine kL [] (h1032 _ _ _ _ _ _ _ _ _ _ _ _ _ _ _ _ _ _ _ _ _ _ _ ?_ (sb h))
 rintro k07 m08 lo09 hi0A p0B ps0C v0D h
 refine kc h ?_ ?_ <;> intro h
 refine kL [] (h1042 _ _ _ _ _ _ _ _ _ _ _ _ _ ?_ (sb h))
 rintro q5 h
 cases q5
 replace h := cf h
 exact kR [] (ND 0) (hQ _ _ _ _ _ (ss h))
 replace h := ct h
 refine kL [] (h1042 _ _ _ _ _ _ _ _ _ _ _ _ _ ?_ (sb h))
 rintro q6 h
 cases q6
 replace h := cf h
 exact kR [] (ND 0) (hQ _ _ _ _ _ (ss h))
 replace h := ct h
 refine kL [] (h57 _ _ _ _ _ _ ?_ (sb h))
 rintro k0E n0F s0G f0H h
 refine kL [] (h57 _ _ _ _ _ _ ?_ (sb h))
 rintro k0I n0J s0K f0L h
 refine kL [] (h1062 _ _ _ _ _ _ _ _ _ _ _ _ _ _ _ _ _ _ _ _ _ _ _ _ _ _ _ _ _ _ _ _ ?_ (sb h))
 rintro k0M n0N s0O f0P v0Q h
 refine kL [] (h1067 _ _ _ _ _ _ _ ?_ (sb h))
 rintro k0R n0S s0T f0U v0V h
 exact kR [] (ND 0) (hQ _ _ _ _ _ (ss h))
 exact (sat_none h).elim
def f8_L2 : LI → Nat → FV → Option (Sum (V) (FV))
  | [], j6, l5 => some (.inr l5)
  | vC :: tlF, j6, l5 => (f26 vC (9 : Int)).bind fun v7 => (f30 (wrap .i64 (Int.tdiv v7 3)) (Int.tmod v7 3)).bind fun (.mk k8 n9 sA fB) => grdP (l5.length + ([((⟨#[]⟩ : BA), (V.mk k8 n9 sA fB))] : FV).length ≤ 68719476736) (f8_L2 tlF (j6 + 1) (l5 ++ ([((⟨#[]⟩ : BA), (V.mk k8 n9 sA fB))] : FV)))
def f8 : LI → Option (V)
  | l0 => sbind (ο := FV) (grdP ((0 : Int) ≤ (if 7 < ((l0.length : Nat) : Int) then 7 else ((l0.length : Nat) : Int)) ∧ 0 ≤ (if 7 < ((l0.length : Nat) : Int) then 7 else ((l0.length : Nat) : Int)).toNat ∧ (if 7 < ((l0.length : Nat) : Int) then 7 else ((l0.length : Nat) : Int)).toNat ≤ l0.length) (f8_L2 ((l0.drop 0).take ((if 7 < ((l0.length : Nat) : Int) then 7 else ((l0.length : Nat) : Int)).toNat - 0)) 0 [])) (fun l3 => some (V.mk 8 0 (⟨#[]⟩ : BA) l3))
def C8 (O : Oracle TT) (m : LI → Option (V)) : Prop :=
  ∀ l5 (Q : V → Prop) (R : RR) (_ : ∀ k6 n7 s8 f9, Q (V.mk k6 n7 s8 f9) → R (.agg [ci k6, ci n7, .str s8, .isl .fld f9]) []) (_ : sat (m l5) Q), O 8 [.c (.isl .int l5)] [] R
def j8 : Fn TT := ⟨32, [.cell 2 4 true], (sr [qo 2 (.alloc 2 zV)] (sr [qo 6 (.build [.int .i64 0, .int .i64 0, .str eB, .nils] [((0, 1), (iC 8))]),qo 3 (.alloc 3 zV),qp (.store 3 6 4)] (.cut [2, 3] [(.s 2), (.s 3), (.sub (.sub (.s 3) 600) 3)] (sr [qm 7 0,qm 8 0,qo 9 (.len false 8),qo 10 (.mn [9, (iC 7)]),qo 11 (.slc 1 7 none (some 10)),
 qo 12 (.len false 11),qo 13 (.mv (iC 0))] (.block 0 (.pre [.ownc (.s 3) 3 .fld (.sub (.sub (.s 3) 600) 3)] (.loop (.keep [2, 3, 11, 12, 13] [(.s 2), (.s 3), (.sub (.sub (.s 3) 600) 3)] (.aft (sr [qo 14 (.bin .lss .num 13 12)] (.seq (.cond 14 .skip (.exit 0)) (.seq (.block 1 (sr [qo 15 (.idxA 11 13 1),qo 16 (ld 15),qm 5 16] (sr [qm 17 5,
 qo 18 (.call 18 26 [17, (iC 9)]),qm 5 18] (.drw [(.sub (.sub (.s 3) 600) 3)] (oR 12) [11] [0, 1, 2, 3, 4, 5, 7, 10] [qo 19 (.fa 3 3),qo 20 (ld 19),qm 21 5,qo 22 (.bin .quo .num 21 (iC 3)),qm 23 5,qo 24 (.bin .rem .num 23 (iC 3)),qo 25 (.call 25 30 [22, 24]),qo 26 (.build zFd [((1, 4), 25)]),qo 27 (.bsl .fld [26]),qo 28 (.app 28 .fld 68719476736 20 27),
 qo 29 (.fa 3 3),qp (.store 29 28 1)])))) (.reg [qo 30 (.bin .add .num 13 (iC 1)),qm 13 30])))) [.keep [2, 3, 11, 12, 13] [(.s 2), (.s 3), (.s 28)], .ownc (.s 3) 3 .fld (.sub (.sub (.s 3) 600) 3)])))))) (sr [qo 31 (.load 3 4 true),qp (.store 2 31 4)] (.pre [.frzc (.s 2) 3 .fld] .ret)))))⟩
theorem w8 {O : Oracle TT} (h26 : C26 O f26) (h30 : C30 O f30) : C8 (fun _ => vcF (S := SS) O j8) f8 := by
 intro l5 Q R hQ h
 unfold f8 at h
 refine ⟨nle rfl, rfl, ?_⟩
 obtain ⟨RA, h, aA, bA⟩ := sc h
 refine kX (fun σ => ∃ (lC : FV) (nI : Nat), nI = lC.length ∧ RA (.inr lC) ∧ σ = ⟨[pT 2, pT 3], [eV (.s 2) zV, eV (.s 3) [ci 8, ci 0, .str eB, .osl (.sub (.sub (.s 3) 600) 3) 0 nI], (.sub (.sub (.s 3) 600) 3, (eR .fld lC))]⟩) ?_ ?_
 intro hlV
 conv => whnf
 obtain ⟨⟨hbM, hbN⟩, h⟩ := sat_grdP h
 refine ⟨hbM, ?_⟩
 conv => whnf
 refine ⟨hbN, ?_⟩
 intro hlO
 refine kX (fun σ n => ∃ (rem6 : LI) (j8 : Nat) (z : Int) (l9 : FV) (nJ : Nat), n = rem6.length ∧ ((l5.drop 0).take ((if 7 < ((l5.length : Nat) : Int) then 7 else ((l5.length : Nat) : Int)).toNat - 0)).drop j8 = rem6 ∧ z = ((j8 : Nat) : Int) ∧ nJ = l9.length ∧ sat (f8_L2 rem6 j8 l9) RA ∧ σ.keep [2, 3, 11, 12, 13] [(.s 2), (.s 3), (.sub (.sub (.s 3) 600) 3)] = ⟨[pT 2, pT 3, (11, .c (.isl .int ((l5.drop 0).take ((if 7 < ((l5.length : Nat) : Int) then 7 else ((l5.length : Nat) : Int)).toNat - 0)))), (12, iD ((((l5.drop 0).take ((if 7 < ((l5.length : Nat) : Int) then 7 else ((l5.length : Nat) : Int)).toNat - 0)).length : Nat) : Int)), (13, iD z)], [eV (.s 2) zV, eV (.s 3) [ci 8, ci 0, .str eB, .osl (.sub (.sub (.s 3) 600) 3) 0 nJ], (.sub (.sub (.s 3) 600) 3, (eR .fld l9))]⟩) ⟨_, ((l5.drop 0).take ((if 7 < ((l5.length : Nat) : Int) then 7 else ((l5.length : Nat) : Int)).toNat - 0)), 0, _, [], _, rfl, rfl, rfl, LN, h, rfl⟩ ?_
 rintro σ n ⟨rem6, j8, _, l9, _, rfl, hrem6, rfl, rfl, h, hσ⟩
 refine kk hσ ?_
 intro tB (htB : tB = decide (((j8 : Nat) : Int) < ((((l5.drop 0).take ((if 7 < ((l5.length : Nat) : Int) then 7 else ((l5.length : Nat) : Int)).toNat - 0)).length : Nat) : Int)))
 cases tB
 obtain rfl := ll_nil hrem6 htB
 rw [f8_L2] at h
 conv => whnf
 exact ⟨l9, _, LN, ss h, rfl⟩
 obtain ⟨vW, tlG, rfl, hxH, htlG⟩ := ll_cons hrem6 htB
 rw [f8_L2] at h
 conv => whnf
 refine ⟨lx_bd hxH, fun uuK huuK => ?_⟩
 obtain rfl := lx_eq hxH huuK
 refine kL [] (h26 _ _ _ _ ?_ (sb h))
 rintro vY h
 conv => whnf
 refine ⟨by decide, ?_⟩
 conv => whnf
 refine ⟨by decide, ?_⟩
 refine kL [] (h30 _ _ _ _ ?_ (sb h))
 rintro kP nQ sS fU h
 conv => whnf
 refine ⟨LN, rfl, ?_⟩
 conv => whnf
 refine ⟨rfl, ?_⟩
 refine kp h fun hbZ h => ?_
 conv => whnf
 exact ⟨tlG.length, nls, tlG, j8 + 1, _, (l9 ++ ([(eB, (V.mk kP nQ sS fU))] : FV)), _, rfl, htlG, lx_wr hxH hlO, LN, h, rfl⟩
 rintro _ ⟨lC, _, rfl, h, rfl⟩
 replace h := bA _ h
 conv => whnf
 refine ⟨LN, ?_⟩
 exact kR [] (ND 0) (hQ _ _ _ _ (ss h))
def f1078 (fuel : Nat) : Option (Bool) := (f325).bind fun (.mk op6 nm7 to8 ns9 nA loB hiC sepF (.mk kG nH sI fJ) prsK ksM) => (f1029).bind fun (.mk kN mO loP hiQ pU psV) => (f30 (1 : Int) (2 : Int)).bind fun (.mk kW nY sZ f00) => (f1047 fuel [] (Ln.mk op6 nm7 to8 ns9 nA loB hiC sepF (V.mk kG nH sI fJ) prsK ksM) (Tp.mk kN mO loP hiQ pU psV) (V.mk kW nY sZ f00)).bind fun ((.mk k0C n0D s0E f5), v01) => cond (v01 == 0) (cond (((f5.length : Nat) : Int) == 1) (getL f5 0 fun uu02 => match uu02 with | (a0F, .mk k03 n04 s05 f06) => (f44 (1 : Int)).bind fun (.mk k07 n08 s09 f0A) => (f11 fuel (V.mk k03 n04 s05 f06) (V.mk k07 n08 s09 f0A)).bind fun q0B => some q0B) (some false)) (some false)
def C1078 (O : Oracle TT) (m : Option (Bool)) : Prop :=
  ∀ (Q : Bool → Prop) (R : RR) (_ : ∀ q0, Q q0 → R (bD q0) []) (_ : sat (m) Q), O 1078 [] [] R
def j1078 : Fn TT := ⟨27, [.t 0], (sr [qm 0 bF] (sr [qo 4 (.call 4 325 []),qo 5 (.call 5 1029 []),qo 6 (.call 6 30 [(iC 1), (iC 2)]),qo 7 (.call 7 1047 [(.c (.isl .dfn [])), 4, 5, 6]),qm 3 7,qo 8 (.ext 3 0),qo 9 (.ext 3 1),qo 1 (.alloc 1 zV),qp (.store 1 8 4),qm 2 9] (.seq
 (.drw [] (oR 18) [] [0, 1, 2, 3, 4, 5, 6, 7, 8, 9, 10, 11, 12, 13, 16, 17] [qm 10 2,qo 11 (.bin .eql .num 10 (iC 0)),qm 12 11,qg 12 13 (.fa 1 3),qg 12 14 (ld 13),qg 12 15 (.len false 14),qg 12 16 (.bin .eql .num 15 (iC 1)),qo 17 (.pick 12 16 bF),qm 18 17,qg 18 19 (.fa 1 3),qg 18 20 (ld 19),qg 18 21 (.idxA 20 (iC 0) 5),qg 18 22 (.fa 21 1),
 qg 18 23 (.load 22 4 true),qg 18 24 (.call 24 44 [(iC 1)]),qg 18 25 (.call 25 11 [23, 24]),qo 26 (.pick 18 25 bF),qm 0 26]) .ret)))⟩
theorem w1078 {O : Oracle TT} (fuel : Nat) (h325 : C325 O f325) (h44 : C44 O f44) (h1029 : C1029 O f1029) (h30 : C30 O f30) (h11 : C11 O (f11 fuel)) (h1047 : C1047 O (f1047 fuel)) : C1078 (fun _ => vcF (S := SS) O j1078) (f1078 fuel) := by
 intro Q R hQ h
 unfold f1078 at h
 refine ⟨nle rfl, rfl, ?_⟩
 refine kL [] (h325 _ _ ?_ (sb h))
 rintro op6 nm8 to9 nsA nB loC hiF sepG kH nI sJ fK prsM ksN h
 refine kL [] (h1029 _ _ ?_ (sb h))
 rintro kO mP loQ hiU pV psW h
 refine kL [] (h30 _ _ _ _ ?_ (sb h))
 rintro kY nZ s00 f01 h
 refine kL [] (h1047 _ _ _ _ _ _ _ _ _ _ _ _ _ _ _ _ _ _ _ _ _ _ _ _ _ _ _ ?_ (sb h))
 rintro k02 n03 s04 f05 v06 h
 refine kc h ?_ ?_ <;> intro h
 exact kR [] (ND 0) (hQ _ (ss h))
 intro hl07
 refine kc h ?_ ?_ <;> intro h
 exact kR [] (ND 0) (hQ _ (ss h))
 refine kg (sat_getL h) fun uu5 huu5 h => ?_
 obtain ⟨a08, ⟨k09, n0A, s0B, f0C⟩⟩ := uu5
 refine kL [] (h44 _ _ _ ?_ (sb h))
 rintro k0D n0E s0F f0G h
 refine kL [] (h11 _ _ _ _ _ _ _ _ _ _ ?_ (sb h))
 rintro q0H h
 exact kR [] (ND 0) (hQ _ (ss h))
def f1077 (fuel : Nat) : Option (Bool) := (f325).bind fun (.mk op5 nm6 to7 ns8 n9 loA hiB sepC (.mk kF nG sH fI) prsJ ksK) => (f1029).bind fun (.mk kM mN loO hiP pQ psU) => (f44 (5 : Int)).bind fun (.mk kV nW sY fZ) => (f30 (1 : Int) (2 : Int)).bind fun (.mk k00 n01 s02 f03) => (f1061 fuel [] (Ln.mk op5 nm6 to7 ns8 n9 loA hiB sepC (V.mk kF nG sH fI) prsJ ksK) (Tp.mk kM mN loO hiP pQ psU) (V.mk 6 0 (⟨#[]⟩ : BA) ([((⟨#[97]⟩ : BA), (V.mk kV nW sY fZ))] : FV)) (V.mk k00 n01 s02 f03)).bind fun ((.mk k04 n05 s06 f07), v08) => (f1078 fuel).bind fun q09 => cond q09 (cond (v08 == 0) ((f30 (5 : Int) (2 : Int)).bind fun (.mk k0A n0B s0C f0D) => (f11 fuel (V.mk k04 n05 s06 f07) (V.mk k0A n0B s0C f0D)).bind fun q0E => some q0E) (some false)) (some false)
def C1077 (O : Oracle TT) (m : Option (Bool)) : Prop :=
  ∀ (Q : Bool → Prop) (R : RR) (_ : ∀ q0, Q q0 → R (bD q0) []) (_ : sat (m) Q), O 1077 [] [] R
def j1077 : Fn TT := ⟨24, [.t 0], (sr [qm 0 bF] (sr [qo 4 (.call 4 325 []),qo 5 (.call 5 1029 []),qo 6 (.call 6 44 [(iC 5)]),qo 7 (.build zFd [((0, 1), (.c (.str (⟨#[97]⟩ : BA)))), ((1, 4), 6)]),qo 8 (.bsl .fld [7]),qo 9 (.build zV [((0, 1), (iC 6)), ((3, 1), 8)]),qo 10 (.call 10 30 [(iC 1), (iC 2)]),
 qo 11 (.call 11 1061 [(.c (.isl .dfn [])), 4, 5, 9, 10]),qm 3 11,qo 12 (.ext 3 0),qo 13 (.ext 3 1),qo 1 (.alloc 1 zV),qp (.store 1 12 4),qm 2 13] (.seq (.drw [] (oR 11) [] [1, 2, 3, 4, 5, 6, 9, 10] [qo 14 (.call 14 1078 []),qm 15 14,qg 15 16 (.mv 2),qg 15 17 (.bin .eql .num 16 (iC 0)),qo 18 (.pick 15 17 bF),qm 19 18,qg 19 20 (.load 1 4 true),
 qg 19 21 (.call 21 30 [(iC 5), (iC 2)]),qg 19 22 (.call 22 11 [20, 21]),qo 23 (.pick 19 22 bF),qm 0 23]) .ret)))⟩
theorem w1077 {O : Oracle TT} (fuel : Nat) (h325 : C325 O f325) (h44 : C44 O f44) (h1029 : C1029 O f1029) (h30 : C30 O f30) (h11 : C11 O (f11 fuel)) (h1061 : C1061 O (f1061 fuel)) (h1078 : C1078 O (f1078 fuel)) : C1077 (fun _ => vcF (S := SS) O j1077) (f1077 fuel) := by
 intro Q R hQ h
 unfold f1077 at h
 refine ⟨nle rfl, rfl, ?_⟩
 refine kL [] (h325 _ _ ?_ (sb h))
 rintro op6 nm7 to8 ns9 nA loB hiC sepF kG nH sI fJ prsK ksM h
 refine kL [] (h1029 _ _ ?_ (sb h))
 rintro kN mO loP hiQ pU psV h
 refine kL [] (h44 _ _ _ ?_ (sb h))
 rintro kW nY sZ f00 h
 refine kL [] (h30 _ _ _ _ ?_ (sb h))
 rintro k01 n02 s03 f04 h
 refine kL [] (h1061 _ _ _ _ _ _ _ _ _ _ _ _ _ _ _ _ _ _ _ _ _ _ _ _ _ _ _ _ _ _ _ ?_ (sb h))
 rintro k05 n06 s07 f08 v09 h
 refine kL [] (h1078 _ _ ?_ (sb h))
 rintro q5 h
 cases q5
 replace h := cf h
 exact kR [] (ND 0) (hQ _ (ss h))
 replace h := ct h
 refine kc h ?_ ?_ <;> intro h
 exact kR [] (ND 0) (hQ _ (ss h))
 refine kL [] (h30 _ _ _ _ ?_ (sb h))
 rintro k0A n0B s0C f0D h
 refine kL [] (h11 _ _ _ _ _ _ _ _ _ _ ?_ (sb h))
 rintro q0E h
 exact kR [] (ND 0) (hQ _ (ss h))
def f31_L2 (fuel : Nat) : List V → Nat → Option (Sum (Int) (Unit))
  | [], j5 => some (.inr ())
  | (.mk k6 n7 s8 f9) :: tlA, j5 => (f51 fuel (V.mk k6 n7 s8 f9)).bind fun vB => cond (vB != 0) (none) (cond (k6 != 8) (lft (some 8)) (f31_L2 fuel tlA (j5 + 1)))
def f31 (fuel : Nat) : V → V → Option (Int)
  | .mk k5 n6 s7 f8, .mk k9 nA sB fC => sbind (ο := Unit) (f31_L2 fuel ([(V.mk k5 n6 s7 f8), (V.mk k9 nA sB fC)] : List V) 0) (fun () => some 0)
def C31 (O : Oracle TT) (m : V → V → Option (Int)) : Prop :=
  ∀ k5 n6 s7 f8 k9 nA sB fC (Q : Int → Prop) (R : RR) (_ : ∀ vF, Q vF → R (iD vF) []) (_ : sat (m (V.mk k5 n6 s7 f8) (V.mk k9 nA sB fC)) Q), O 31 [.agg [ci k5, ci n6, .str s7, .isl .fld f8], .agg [ci k9, ci nA, .str sB, .isl .fld fC]] [] R
def j31 : Fn TT := ⟨25, [.t 4], (sr [qo 2 (.box 2 0),qo 3 (.box 3 1),qo 4 (.mv (iC 0))] (.cut [] [] (sr [qo 8 (.load 2 4 true),qo 9 (.load 3 4 true),qo 10 (.bsl .val [8, 9]),qo 11 (.len false 10),qo 12 (.mv (iC 0))] (.block 0 (.loop (.keep [10, 11, 12] [] (.aft (sr [qo 13 (.bin .lss .num 12 11)] (.seq (.cond 13 .skip (.exit 0)) (.seq (.block 1 (.seq
 (.reg [qo 14 (.idxA 10 12 4),qo 15 (.load 14 4 true),qo 6 (.alloc 6 zV),qp (.store 6 15 4)]) (.seq (sr [qo 16 (.load 6 4 true),qo 17 (.call 17 51 [16]),qm 7 17] (sr [qm 18 7,qo 19 (.bin .neq .num 18 (iC 0))] (.cond 19 .dead .skip))) (sr [qo 21 (.fa 6 0),qo 22 (ld 21),qo 23 (.bin .neq .num 22 (iC 8))] (.cond 23 (.seq
 (.reg [qo 4 (.mv (iC 8))]) .ret) .skip))))) (.reg [qo 24 (.bin .add .num 12 (iC 1)),qm 12 24])))) [.keep [10, 11, 12] []]))))) (sr [qo 4 (.mv (iC 0))] .ret)))⟩
theorem w31 {O : Oracle TT} (fuel : Nat) (h51 : C51 O (f51 fuel)) : C31 (fun _ => vcF (S := SS) O j31) (f31 fuel) := by
 intro k9 nA sB fC kG nH sI fJ Q R hQ h
 unfold f31 at h
 refine ⟨nle rfl, rfl, ?_⟩
 obtain ⟨R6, h, a6, b6⟩ := sc h
 refine kX (fun σ => R6 (.inr ()) ∧ σ = ⟨[], []⟩) ?_ ?_
 intro hlP
 refine kX (fun σ n => ∃ (rem5 : List V) (j8 : Nat) (z : Int), n = rem5.length ∧ ([(V.mk k9 nA sB fC), (V.mk kG nH sI fJ)] : List V).drop j8 = rem5 ∧ z = ((j8 : Nat) : Int) ∧ sat (f31_L2 fuel rem5 j8) R6 ∧ σ.keep [10, 11, 12] [] = ⟨[(10, .c (.isl .val ([(V.mk k9 nA sB fC), (V.mk kG nH sI fJ)] : List V))), (11, iD ((([(V.mk k9 nA sB fC), (V.mk kG nH sI fJ)] : List V).length : Nat) : Int)), (12, iD z)], []⟩) ⟨_, ([(V.mk k9 nA sB fC), (V.mk kG nH sI fJ)] : List V), 0, _, rfl, rfl, rfl, h, rfl⟩ ?_
 rintro σ n ⟨rem5, j8, _, rfl, hrem5, rfl, h, hσ⟩
 refine kk hσ ?_
 intro tK (htK : tK = decide (((j8 : Nat) : Int) < ((([(V.mk k9 nA sB fC), (V.mk kG nH sI fJ)] : List V).length : Nat) : Int)))
 cases tK
 obtain rfl := ll_nil hrem5 htK
 rw [f31_L2] at h
 conv => whnf
 exact ⟨ss h, rfl⟩
 obtain ⟨xM, tlN, rfl, hxM, htlN⟩ := ll_cons hrem5 htK
 obtain ⟨kQ, nS, sU, fV⟩ := xM
 rw [f31_L2] at h
 conv => whnf
 refine ⟨lx_bd hxM, fun uuO huuO => ?_⟩
 obtain rfl := lx_eq hxM huuO
 refine kL [] (h51 _ _ _ _ _ _ ?_ (sb h))
 rintro vW h
 refine kc h ?_ ?_ <;> intro h
 refine kc h ?_ ?_ <;> intro h
 conv => whnf
 exact ⟨tlN.length, nls, tlN, j8 + 1, _, rfl, htlN, lx_wr hxM hlP, h, rfl⟩
 replace h := sat_lft a6 h
 exact kR [] (ND 0) (hQ _ (ss h))
 exact (sat_none h).elim
 rintro _ ⟨h, rfl⟩
 replace h := b6 _ h
 exact kR [] (ND 0) (hQ _ (ss h))
def f16_L10 (fuel : Nat) (s5 : BA) : FV → Nat → Option (Sum (Sum ((List (Int × Int)) × Int) (Unit)) (Unit))
  | [], j6 => some (.inr ())
  | ((aF, .mk k7 n8 s9 fA)) :: tlB, j6 => cond (k7 != 6) (lft (lft (some ([], 8)))) ((f35 fuel (V.mk k7 n8 s9 fA) s5).bind fun ((.mk kG nH sI fJ), qC) => cond qC (f16_L10 fuel s5 tlB (j6 + 1)) (lft (lft (some ([], 16)))))
def f16_L8 (fuel : Nat) (s5 : BA) : List V → Nat → Option (Sum ((List (Int × Int)) × Int) (Unit))
  | [], j6 => some (.inr ())
  | (.mk k9 nA sB f7) :: tl8, j6 => sbind (ο := Unit) (f16_L10 fuel s5 f7 0) (fun () => f16_L8 fuel s5 tl8 (j6 + 1))
def f16_L20 (fuel : Nat) (s9 : BA) (j8 : Nat) (l6 : List Bool) (l7 : List (Int × Int)) (kA : Int) (nB : Int) (sC : BA) (fG : FV) : FV → Nat → Option (Sum (Sum ((List (Int × Int)) × Int) ((List (Int × Int)))) ((List Bool) × (List (Int × Int))))
  | [], j5 => some (.inr (l6, l7))
  | ((aV, .mk kI nJ sK fM)) :: tlH, j5 => (f35 fuel (V.mk kI nJ sK fM) s9).bind fun ((.mk kN nO sP fQ), qW) => grdP ((0 : Int) ≤ ((j5 : Nat) : Int) ∧ ((j5 : Nat) : Int) < ((l6.length : Nat) : Int)) (getN l6 (0 + ((j5 : Nat) : Int).toNat) fun bS => cond bS (f16_L20 fuel s9 j8 l6 l7 kA nB sC fG tlH (j5 + 1)) ((f11 fuel (V.mk kA nB sC fG) (V.mk kN nO sP fQ)).bind fun qU => cond qU (grdP ((0 : Int) ≤ ((j5 : Nat) : Int) ∧ ((j5 : Nat) : Int) < ((l6.length : Nat) : Int)) (getN l6 (0 + ((j5 : Nat) : Int).toNat) fun bY => grdP (l7.length + ([(((j5 : Nat) : Int), ((j8 : Nat) : Int))] : List (Int × Int)).length ≤ 68719476736) (some (.inr ((l6.set (0 + ((j5 : Nat) : Int).toNat) true), (l7 ++ ([(((j5 : Nat) : Int), ((j8 : Nat) : Int))] : List (Int × Int)))))))) (f16_L20 fuel s9 j8 l6 l7 kA nB sC fG tlH (j5 + 1))))
def f16_L18 (fuel : Nat) (f8 : FV) (s5 : BA) : FV → Nat → (List Bool) → (List (Int × Int)) → Option (Sum ((List (Int × Int)) × Int) ((List (Int × Int))))
  | [], j6, l9, l7 => some (.inr l7)
  | ((aO, .mk kA nB sC fF)) :: tlG, j6, l9, l7 => sbind (ο := (List Bool) × (List (Int × Int))) ((f35 fuel (V.mk kA nB sC fF) s5).bind fun ((.mk kH nI sJ fK), qP) => f16_L20 fuel s5 j6 l9 l7 kH nI sJ fK f8 0) (fun (lM, lN) => f16_L18 fuel f8 s5 tlG (j6 + 1) lM lN)
def f16 (fuel : Nat) : V → V → BA → Option ((List (Int × Int)) × Int)
  | .mk k7 n8 s9 f5, .mk kA nB sC f6, sF => (f31 fuel (V.mk k7 n8 s9 f5) (V.mk kA nB sC f6)).bind fun vG => cond (vG != 0) (none) (sbind (ο := Unit) (f16_L8 fuel sF ([(V.mk k7 n8 s9 f5), (V.mk kA nB sC f6)] : List V) 0) (fun () => grdP ((0 : Int) ≤ ((f5.length : Nat) : Int) ∧ ((f5.length : Nat) : Int) ≤ 68719476736) (sbind (ο := (List (Int × Int))) (f16_L18 fuel f5 sF f6 0 (List.replicate ((f5.length : Nat) : Int).toNat false) []) (fun lH => some (lH, 0)))))
def C16 (O : Oracle TT) (m : V → V → BA → Option ((List (Int × Int)) × Int)) : Prop :=
  ∀ k5 n6 s7 f8 k9 nA sB fC sF (Q : ((List (Int × Int)) × Int) → Prop) (R : RR) (_ : ∀ (lG : List (Int × Int)) vH, Q (lG, vH) → R (.tup [.c (.isl .pair lG), iD vH]) []) (_ : sat (m (V.mk k5 n6 s7 f8) (V.mk k9 nA sB fC) sF) Q), O 16 [.agg [ci k5, ci n6, .str s7, .isl .fld f8], .agg [ci k9, ci nA, .str sB, .isl .fld fC], sD sF] [] R
def j16 : Fn TT := ⟨117, [.t 6, .t 7], (sr [qo 3 (.box 3 0),qo 4 (.box 4 1),qo 6 (.mv (.c (.nils))),qo 7 (.mv (iC 0))] (.seq (sr [qo 25 (.load 3 4 true),qo 26 (.load 4 4 true),qo 27 (.call 27 31 [25, 26]),qm 8 27] (sr [qm 28 8,qo 29 (.bin .neq .num 28 (iC 0))] (.cond 29 .dead .skip))) (.cut [2, 3, 4] [(.s 3), (.s 4)] (.seq
 (.reg [qo 31 (.load 3 4 true),qo 32 (.load 4 4 true),qo 33 (.bsl .val [31, 32]),qo 34 (.len false 33),qo 35 (.mv (iC 0))]) (.block 0 (.loop (.keep [2, 3, 4, 33, 34, 35] [(.s 3), (.s 4)] (.aft (sr [qo 36 (.bin .lss .num 35 34)] (.seq (.cond 36 .skip (.exit 0)) (.cut [2, 3, 4, 33, 34, 35] [(.s 3), (.s 4)] (.block 1 (sr [qo 37 (.idxA 33 35 4),qo 38 (.load 37 4 true),
 qo 10 (.alloc 10 zV),qp (.store 10 38 4)] (sr [qo 39 (.fa 10 3),qo 40 (ld 39),qo 41 (.len false 40),qo 42 (.mv (iC 0))] (.block 2 (.loop (.keep [2, 3, 4, 33, 34, 35, 40, 41, 42] [(.s 3), (.s 4)] (.aft (sr [qo 43 (.bin .lss .num 42 41)] (.seq (.cond 43 .skip (.exit 2)) (.seq (.block 3 (sr [qo 44 (.idxA 40 42 5),qo 45 (.load 44 5 true),
 qo 12 (.alloc 12 zFd),qp (.store 12 45 5)] (.seq (sr [qo 46 (.fa 12 1),qo 47 (.fa 46 0),qo 48 (ld 47),qo 49 (.bin .neq .num 48 (iC 6))] (.cond 49 (sr [qo 6 (.mv (.c (.nils))),qo 7 (.mv (iC 8))] (.pre [.frz 6 0 .pair] .ret)) .skip)) (sr [qo 51 (.fa 12 1),qo 52 (.load 51 4 true),qm 53 2,qo 54 (.call 54 35 [52, 53]),qm 50 54,
 qo 55 (.ext 50 0),qo 56 (.ext 50 1),qo 13 (.alloc 13 zV),qp (.store 13 55 4),qm 14 56] (sr [qm 57 14,qo 58 (.un .not 57)] (.cond 58 (sr [qo 6 (.mv (.c (.nils))),qo 7 (.mv (iC 16))] (.pre [.frz 6 0 .pair] .ret)) .skip)))))) (.reg [qo 59 (.bin .add .num 42 (iC 1)),qm 42 59])))) [.keep [2, 3, 4, 33, 34, 35, 40, 41, 42] [(.s 3), (.s 4)]])))))))
 (.reg [qo 60 (.bin .add .num 35 (iC 1)),qm 35 60])))) [.keep [2, 3, 4, 33, 34, 35] [(.s 3), (.s 4)]]))))) (sr [qo 61 (.fa 3 3),qo 62 (ld 61),qo 63 (.len false 62),qo 64 (.mk 64 .bool false 68719476736 63),qm 15 64] (sr [qo 16 (.mv (.c (.nils)))] (.cut [16] [(.sub (.sub (.s 16) 602) 0)] (sr [qo 65 (.fa 4 3),qo 66 (ld 65),
 qo 67 (.len false 66),qo 68 (.mv (iC 0))] (.block 4 (.pre [.own 16 0 .pair (.sub (.sub (.s 16) 602) 0)] (.loop (.keep [2, 3, 15, 16, 66, 67, 68] [(.s 3), (.s 64), (.sub (.sub (.s 16) 602) 0)] (.aft (sr [qo 69 (.bin .lss .num 68 67)] (.seq (.cond 69 .skip (.exit 4)) (.cut [2, 3, 15, 16, 66, 67, 68] [(.s 3), (.s 64), (.sub (.sub (.s 16) 4791) 0)] (.aft (.block 5 (.seq
 (.reg [qm 70 68,qo 71 (.idxA 66 68 5),qo 72 (.load 71 5 true),qo 18 (.alloc 18 zFd),qm 17 70,qp (.store 18 72 5)]) (sr [qo 74 (.fa 18 1),qo 75 (.load 74 4 true),qm 76 2,qo 77 (.call 77 35 [75, 76]),qm 73 77,qo 78 (.ext 73 0),qo 79 (.ext 73 1),qo 19 (.alloc 19 zV),qp (.store 19 78 4),qm 20 79] (sr [qo 80 (.fa 3 3),
 qo 81 (ld 80),qo 82 (.len false 81),qo 83 (.mv (iC 0))] (.block 6 (.loop (.keep [2, 3, 15, 16, 17, 19, 66, 67, 68, 81, 82, 83] [(.s 3), (.s 64), (.sub (.sub (.s 16) 602) 0), (.s 19)] (.aft (sr [qo 84 (.bin .lss .num 83 82)] (.seq (.cond 84 .skip (.exit 6)) (.seq (.block 7 (sr [qm 85 83,qo 86 (.idxA 81 83 5),qo 87 (.load 86 5 true),qo 22 (.alloc 22 zFd),
 qm 21 85,qp (.store 22 87 5)] (sr [qo 89 (.fa 22 1),qo 90 (.load 89 4 true),qm 91 2,qo 92 (.call 92 35 [90, 91]),qm 88 92,qo 93 (.ext 88 0),qo 94 (.ext 88 1),qo 23 (.alloc 23 zV),qp (.store 23 93 4),qm 24 94] (sr [qm 95 15,qm 96 21,qo 97 (.idxA 95 96 1),qo 98 (ld 97),qo 99 (.un .not 98),qm 100 99,
 qg 100 101 (.load 19 4 true),qg 100 102 (.load 23 4 true),qg 100 103 (.call 103 11 [101, 102]),qo 104 (.pick 100 103 bF)] (.cond 104 (sr [qm 105 15,qm 106 21,qo 107 (.idxA 105 106 1),qp (.store 107 bT 1)] (sr [qm 108 16,qm 109 21,qm 110 17,qo 111 (.build [.int .i64 0, .int .i64 0] [((0, 1), 109), ((1, 1), 110)]),qo 112 (.bsl .pair [111]),
 qo 113 (.app 113 .pair 68719476736 108 112),qm 16 113] (.exit 6))) .skip))))) (.reg [qo 114 (.bin .add .num 83 (iC 1)),qm 83 114])))) [.keep [2, 3, 15, 16, 17, 19, 66, 67, 68, 81, 82, 83] [(.s 3), (.s 64), (.sub (.sub (.s 16) 602) 0), (.s 19)]])))))))) [.own 16 0 .pair (.sub (.sub (.s 16) 4791) 0)]) (.reg [qo 115 (.bin .add .num 68 (iC 1)),
 qm 68 115])))) [.keep [2, 3, 15, 16, 66, 67, 68] [(.s 3), (.s 64), (.sub (.sub (.s 16) 4791) 0)], .own 16 0 .pair (.sub (.sub (.s 16) 602) 0)])))))) (sr [qm 116 16,qm 6 116,qo 7 (.mv (iC 0))] (.pre [.frz 6 0 .pair] .ret))))))))⟩
theorem w16 {O : Oracle TT} (fuel : Nat) (h11 : C11 O (f11 fuel)) (h35 : C35 O (f35 fuel)) (h31 : C31 O (f31 fuel)) : C16 (fun _ => vcF (S := SS) O j16) (f16 fuel) := by
 intro k8 n9 sA f5 kB nC sG f6 sH Q R hQ h
 unfold f16 at h
 refine ⟨nle rfl, rfl, ?_⟩
 refine kL [] (h31 _ _ _ _ _ _ _ _ _ _ ?_ (sb h))
 rintro v10 h
 refine kc h ?_ ?_ <;> intro h
 obtain ⟨RO, h, aO, hrRO⟩ := sc h
 refine kX (fun σ => RO (.inr ()) ∧ σ = ⟨[(2, sD sH), pT 3, pT 4], [eV (.s 3) [ci k8, ci n9, .str sA, .isl .fld f5], eV (.s 4) [ci kB, ci nC, .str sG, .isl .fld f6]]⟩) ?_ ?_
 intro hl0U
 refine kX (fun σ n => ∃ (remP : List V) (jN : Nat) (z : Int), n = remP.length ∧ ([(V.mk k8 n9 sA f5), (V.mk kB nC sG f6)] : List V).drop jN = remP ∧ z = ((jN : Nat) : Int) ∧ sat (f16_L8 fuel sH remP jN) RO ∧ σ.keep [2, 3, 4, 33, 34, 35] [(.s 3), (.s 4)] = ⟨[(2, sD sH), pT 3, pT 4, (33, .c (.isl .val ([(V.mk k8 n9 sA f5), (V.mk kB nC sG f6)] : List V))), (34, iD ((([(V.mk k8 n9 sA f5), (V.mk kB nC sG f6)] : List V).length : Nat) : Int)), (35, iD z)], [eV (.s 3) [ci k8, ci n9, .str sA, .isl .fld f5], eV (.s 4) [ci kB, ci nC, .str sG, .isl .fld f6]]⟩) ⟨_, ([(V.mk k8 n9 sA f5), (V.mk kB nC sG f6)] : List V), 0, _, rfl, rfl, rfl, h, rfl⟩ ?_
 rintro σ n ⟨remP, jN, _, rfl, hremP, rfl, h, hσ⟩
 refine kk hσ ?_
 intro t00 (ht00 : t00 = decide (((jN : Nat) : Int) < ((([(V.mk k8 n9 sA f5), (V.mk kB nC sG f6)] : List V).length : Nat) : Int)))
 cases t00
 obtain rfl := ll_nil hremP ht00
 rw [f16_L8] at h
 conv => whnf
 exact ⟨ss h, rfl⟩
 obtain ⟨x01, tl0C, rfl, hx01, htl0C⟩ := ll_cons hremP ht00
 obtain ⟨k11, n12, s13, f02⟩ := x01
 rw [f16_L8] at h
 obtain ⟨RQ, h, aQ, hrRQ⟩ := sc h
 refine kX (fun σ => RQ (.inr ()) ∧ σ = ⟨[(2, sD sH), pT 3, pT 4, (33, .c (.isl .val ([(V.mk k8 n9 sA f5), (V.mk kB nC sG f6)] : List V))), (34, iD ((([(V.mk k8 n9 sA f5), (V.mk kB nC sG f6)] : List V).length : Nat) : Int)), (35, iD ((jN : Nat) : Int))], [eV (.s 3) [ci k8, ci n9, .str sA, .isl .fld f5], eV (.s 4) [ci kB, ci nC, .str sG, .isl .fld f6]]⟩) ?_ ?_
 conv => whnf
 refine ⟨lx_bd hx01, fun uu0G huu0G => ?_⟩
 obtain rfl := lx_eq hx01 huu0G
 intro hl0V
 refine kX (fun σ n => ∃ (remS : FV) (jY : Nat) (z : Int), n = remS.length ∧ f02.drop jY = remS ∧ z = ((jY : Nat) : Int) ∧ sat (f16_L10 fuel sH remS jY) RQ ∧ σ.keep [2, 3, 4, 33, 34, 35, 40, 41, 42] [(.s 3), (.s 4)] = ⟨[(2, sD sH), pT 3, pT 4, (33, .c (.isl .val ([(V.mk k8 n9 sA f5), (V.mk kB nC sG f6)] : List V))), (34, iD ((([(V.mk k8 n9 sA f5), (V.mk kB nC sG f6)] : List V).length : Nat) : Int)), (35, iD ((jN : Nat) : Int)), (40, .c (.isl .fld f02)), (41, iD ((f02.length : Nat) : Int)), (42, iD z)], [eV (.s 3) [ci k8, ci n9, .str sA, .isl .fld f5], eV (.s 4) [ci kB, ci nC, .str sG, .isl .fld f6]]⟩) ⟨_, f02, 0, _, rfl, rfl, rfl, h, rfl⟩ ?_
 rintro σ n ⟨remS, jY, _, rfl, hremS, rfl, h, hσ⟩
 refine kk hσ ?_
 intro t03 (ht03 : t03 = decide (((jY : Nat) : Int) < ((f02.length : Nat) : Int)))
 cases t03
 obtain rfl := ll_nil hremS ht03
 rw [f16_L10] at h
 conv => whnf
 exact ⟨ss h, rfl⟩
 obtain ⟨x04, tl0D, rfl, hx04, htl0D⟩ := ll_cons hremS ht03
 obtain ⟨a14, ⟨k15, n17, s18, f19⟩⟩ := x04
 rw [f16_L10] at h
 conv => whnf
 refine ⟨lx_bd hx04, fun uu0H huu0H => ?_⟩
 obtain rfl := lx_eq hx04 huu0H
 refine kc h ?_ ?_ <;> intro h
 refine kL [] (h35 _ _ _ _ _ _ _ ?_ (sb h))
 rintro k1A n1B s1C f1D q0W h
 cases q0W
 replace h := cf h
 replace h := sat_lft aQ h
 replace h := sat_lft aO h
 exact kR [] (ND 0) (hQ _ _ (ss h))
 replace h := ct h
 conv => whnf
 exact ⟨tl0D.length, nls, tl0D, jY + 1, _, rfl, htl0D, lx_wr hx04 hl0V, h, rfl⟩
 replace h := sat_lft aQ h
 replace h := sat_lft aO h
 exact kR [] (ND 0) (hQ _ _ (ss h))
 rintro _ ⟨h, rfl⟩
 replace h := hrRQ _ h
 conv => whnf
 exact ⟨tl0C.length, nls, tl0C, jN + 1, _, rfl, htl0C, lx_wr hx01 hl0U, h, rfl⟩
 rintro _ ⟨h, rfl⟩
 replace h := hrRO _ h
 intro hl1E
 refine kp h fun hb1F h => ?_
 obtain ⟨R05, h, a05, hrR05⟩ := sc h
 refine kX (fun σ => ∃ (l0E : List (Int × Int)) (n0I : Nat), n0I = l0E.length ∧ R05 (.inr l0E) ∧ σ = ⟨[(16, .c (.osl (.sub (.sub (.s 16) 602) 0) 0 n0I))], [(.sub (.sub (.s 16) 602) 0, (eR .pair l0E))]⟩) ?_ ?_
 intro hl0X
 refine kX (fun σ n => ∃ (remU : FV) (jI : Nat) (z : Int) (lK : List Bool) (lJ : List (Int × Int)) (n0J : Nat) (n0K : Nat), n = remU.length ∧ f6.drop jI = remU ∧ z = ((jI : Nat) : Int) ∧ n0J = lK.length ∧ n0K = lJ.length ∧ sat (f16_L18 fuel f5 sH remU jI lK lJ) R05 ∧ σ.keep [2, 3, 15, 16, 66, 67, 68] [(.s 3), (.s 64), (.sub (.sub (.s 16) 602) 0)] = ⟨[(2, sD sH), pT 3, (15, .c (.osl (.s 64) 0 n0J)), (16, .c (.osl (.sub (.sub (.s 16) 602) 0) 0 n0K)), (66, .c (.isl .fld f6)), (67, iD ((f6.length : Nat) : Int)), (68, iD z)], [eV (.s 3) [ci k8, ci n9, .str sA, .isl .fld f5], (.s 64, (eR .bool lK)), (.sub (.sub (.s 16) 602) 0, (eR .pair lJ))]⟩) ⟨_, f6, 0, _, (List.replicate ((f5.length : Nat) : Int).toNat false), [], _, _, rfl, rfl, rfl, LN, LN, h, rfl⟩ ?_
 rintro σ n ⟨remU, jI, _, lK, lJ, _, _, rfl, hremU, rfl, rfl, rfl, h, hσ⟩
 refine kk hσ ?_
 intro t06 (ht06 : t06 = decide (((jI : Nat) : Int) < ((f6.length : Nat) : Int)))
 cases t06
 obtain rfl := ll_nil hremU ht06
 rw [f16_L18] at h
 conv => whnf
 exact ⟨lJ, _, LN, ss h, rfl⟩
 obtain ⟨x07, tl0F, rfl, hx07, htl0F⟩ := ll_cons hremU ht06
 obtain ⟨a1G, ⟨k1H, n1I, s1J, f1K⟩⟩ := x07
 rw [f16_L18] at h
 obtain ⟨R08, h, a08, hrR08⟩ := sc h
 refine kX (fun σ => ∃ (l09 : List Bool) (l0A : List (Int × Int)) (n0L : Nat) (n0M : Nat), n0L = l09.length ∧ n0M = l0A.length ∧ R08 (.inr (l09, l0A)) ∧ σ = ⟨[(2, sD sH), pT 3, (15, .c (.osl (.s 64) 0 n0L)), (16, .c (.osl (.sub (.sub (.s 16) 4791) 0) 0 n0M)), (66, .c (.isl .fld f6)), (67, iD ((f6.length : Nat) : Int)), (68, iD ((jI : Nat) : Int))], [eV (.s 3) [ci k8, ci n9, .str sA, .isl .fld f5], (.s 64, (eR .bool l09)), (.sub (.sub (.s 16) 4791) 0, (eR .pair l0A))]⟩) ?_ ?_
 conv => whnf
 refine ⟨lx_bd hx07, fun uu0N huu0N => ?_⟩
 obtain rfl := lx_eq hx07 huu0N
 refine kL [] (h35 _ _ _ _ _ _ _ ?_ (sb h))
 rintro k0O n0P s0Q f0R q1L h
 intro hl0S
 refine kX (fun σ n => ∃ (remV : FV) (jM : Nat) (z : Int), n = remV.length ∧ f5.drop jM = remV ∧ z = ((jM : Nat) : Int) ∧ sat (f16_L20 fuel sH jI lK lJ k0O n0P s0Q f0R remV jM) R08 ∧ σ.keep [2, 3, 15, 16, 17, 19, 66, 67, 68, 81, 82, 83] [(.s 3), (.s 64), (.sub (.sub (.s 16) 602) 0), (.s 19)] = ⟨[(2, sD sH), pT 3, (15, .c (.osl (.s 64) 0 lK.length)), (16, .c (.osl (.sub (.sub (.s 16) 602) 0) 0 lJ.length)), (17, iD ((jI : Nat) : Int)), pT 19, (66, .c (.isl .fld f6)), (67, iD ((f6.length : Nat) : Int)), (68, iD ((jI : Nat) : Int)), (81, .c (.isl .fld f5)), (82, iD ((f5.length : Nat) : Int)), (83, iD z)], [eV (.s 3) [ci k8, ci n9, .str sA, .isl .fld f5], (.s 64, (eR .bool lK)), (.sub (.sub (.s 16) 602) 0, (eR .pair lJ)), eV (.s 19) [ci k0O, ci n0P, .str s0Q, .isl .fld f0R]]⟩) ⟨_, f5, 0, _, rfl, rfl, rfl, h, rfl⟩ ?_
 rintro σ n ⟨remV, jM, _, rfl, hremV, rfl, h, hσ⟩
 refine kk hσ ?_
 intro t0B (ht0B : t0B = decide (((jM : Nat) : Int) < ((f5.length : Nat) : Int)))
 cases t0B
 obtain rfl := ll_nil hremV ht0B
 rw [f16_L20] at h
 conv => whnf
 exact ⟨lK, lJ, _, _, LN, LN, ss h, rfl⟩
 obtain ⟨xZ, tlW, rfl, hxZ, htlW⟩ := ll_cons hremV ht0B
 obtain ⟨a1M, ⟨k1N, n1O, s1P, f1Q⟩⟩ := xZ
 rw [f16_L20] at h
 conv => whnf
 refine ⟨lx_bd hxZ, fun uu0T huu0T => ?_⟩
 obtain rfl := lx_eq hxZ huu0T
 refine kL [] (h35 _ _ _ _ _ _ _ ?_ (sb h))
 rintro k1R n1S s1T f1U q1V h
 refine kp h fun hb1W h => ?_
 refine kg (sat_getN h) fun b0Y huu1X h => ?_
 cases b0Y
 replace h := cf h
 refine kL [] (h11 _ _ _ _ _ _ _ _ _ _ ?_ (sb h))
 rintro q0Z h
 cases q0Z
 replace h := cf h
 conv => whnf
 exact ⟨tlW.length, nls, tlW, jM + 1, _, rfl, htlW, lx_wr hxZ hl0S, h, rfl⟩
 replace h := ct h
 refine kp h fun hb1Y h => ?_
 refine kg (sat_getN h) fun b1Z huu20 h => ?_
 refine ⟨true, rfl, ?_⟩
 conv => whnf
 refine ⟨LN, rfl, ?_⟩
 conv => whnf
 refine ⟨rfl, ?_⟩
 refine kp h fun hb21 h => ?_
 conv => whnf
 exact ⟨(lK.set (0 + ((jM : Nat) : Int).toNat) true), (lJ ++ ([(((jM : Nat) : Int), ((jI : Nat) : Int))] : List (Int × Int))), _, _, LN, LN, ss h, rfl⟩
 replace h := ct h
 conv => whnf
 exact ⟨tlW.length, nls, tlW, jM + 1, _, rfl, htlW, lx_wr hxZ hl0S, h, rfl⟩
 rintro _ ⟨l09, l0A, _, _, rfl, rfl, h, rfl⟩
 replace h := hrR08 _ h
 conv => whnf
 exact ⟨tl0F.length, nls, tl0F, jI + 1, _, l09, l0A, _, _, rfl, htl0F, lx_wr hx07 hl0X, LN, LN, h, rfl⟩
 rintro _ ⟨l0E, _, rfl, h, rfl⟩
 replace h := hrR05 _ h
 conv => whnf
 refine ⟨LN, ?_⟩
 exact kR [] (ND 0) (hQ _ _ (ss h))
 exact (sat_none h).elim
def f12_L2 (v8 : Int) (v9 : Int) : List (Int × Int) → Nat → (List Bool) → (List Bool) → Option (Sum (Int) (Unit))
  | [], jA, l6, l7 => some (.inr ())
  | ((x0, y5)) :: tlB, jA, l6, l7 => cond (decide (x0 < 0)) (lft (some 11)) (cond (decide (x0 ≥ v8)) (lft (some 11)) (cond (decide (y5 < 0)) (lft (some 11)) (cond (decide (y5 ≥ v9)) (lft (some 11)) (grdP ((0 : Int) ≤ x0 ∧ x0 < ((l6.length : Nat) : Int)) (getN l6 (0 + x0.toNat) fun bC => cond bC (lft (some 5)) (grdP ((0 : Int) ≤ y5 ∧ y5 < ((l7.length : Nat) : Int)) (getN l7 (0 + y5.toNat) fun bE => cond bE (lft (some 5)) (grdP ((0 : Int) ≤ x0 ∧ x0 < ((l6.length : Nat) : Int)) (getN l6 (0 + x0.toNat) fun bG => grdP ((0 : Int) ≤ y5 ∧ y5 < ((l7.length : Nat) : Int)) (getN l7 (0 + y5.toNat) fun bH => f12_L2 v8 v9 tlB (jA + 1) (l6.set (0 + x0.toNat) true) (l7.set (0 + y5.toNat) true)))))))))))
def f12 : (List (Int × Int)) → Int → Int → Option (Int)
  | l6, v0, v5 => cond (decide (v0 < 0)) (some 1) (cond (decide (v5 < 0)) (some 1) (cond (decide (v0 > 200)) (some 1) (cond (decide (v5 > 200)) (some 1) (sbind (ο := Unit) (grdP ((0 : Int) ≤ v0 ∧ v0 ≤ 68719476736) (grdP ((0 : Int) ≤ v5 ∧ v5 ≤ 68719476736) (some (.inr ())))) (fun () => sbind (ο := Unit) (f12_L2 v0 v5 l6 0 (List.replicate v0.toNat false) (List.replicate v5.toNat false)) (fun () => some 0))))))
def C12 (O : Oracle TT) (m : (List (Int × Int)) → Int → Int → Option (Int)) : Prop :=
  ∀ (l0 : List (Int × Int)) v5 v6 (Q : Int → Prop) (R : RR) (_ : ∀ v7, Q v7 → R (iD v7) []) (_ : sat (m l0 v5 v6) Q), O 12 [.c (.isl .pair l0), iD v5, iD v6] [] R
def j12 : Fn TT := ⟨76, [.t 6], (sr [qo 6 (.mv (iC 0))] (.seq (sr [qm 11 1,qo 12 (.bin .lss .num 11 (iC 0)),qm 13 12,qf 13 14 (.mv 2),qf 13 15 (.bin .lss .num 14 (iC 0)),qo 16 (.pick 13 bT 15),qm 17 16,qf 17 18 (.mv 1),qf 17 19 (.bin .gtr .num 18 (iC 200)),qo 20 (.pick 17 bT 19),qm 21 20,qf 21 22 (.mv 2),
 qf 21 23 (.bin .gtr .num 22 (iC 200)),qo 24 (.pick 21 bT 23)] (.cond 24 (sr [qo 6 (.mv (iC 1))] .ret) .skip)) (.cut [0, 1, 2, 7, 8] [(.s 26), (.s 28)] (.drw [] (.go 0 (.go 2 (.alt 1 (.go 4 (.go 3 (.go 5 .nil))) 3 (.go 1 (.go 4 (.go 5 .nil)))))) [] [0, 2, 4, 5] [qm 25 1,qo 26 (.mk 26 .bool false 68719476736 25),qm 27 2,qo 28 (.mk 28 .bool false 68719476736 27),
 qm 7 26,qm 8 28]) (.cut [] [] (sr [qm 29 0,qo 30 (.len false 29),qo 31 (.mv (iC 0))] (.block 0 (.loop (.keep [1, 2, 7, 8, 29, 30, 31] [(.s 26), (.s 28)] (.aft (sr [qo 32 (.bin .lss .num 31 30)] (.seq (.cond 32 .skip (.exit 0)) (.seq (.block 1 (sr [qo 33 (.idxA 29 31 2),qo 34 (.load 33 2 true),qo 10 (.alloc 10 [.int .i64 0, .int .i64 0]),
 qp (.store 10 34 2)] (.seq (sr [qo 35 (.fa 10 0),qo 36 (ld 35),qo 37 (.bin .lss .num 36 (iC 0)),qm 38 37,qf 38 39 (.fa 10 0),qf 38 40 (ld 39),qf 38 41 (.mv 1),qf 38 42 (.bin .geq .num 40 41),qo 43 (.pick 38 bT 42),qm 44 43,qf 44 45 (.fa 10 1),qf 44 46 (ld 45),qf 44 47 (.bin .lss .num 46 (iC 0)),qo 48 (.pick 44 bT 47),
 qm 49 48,qf 49 50 (.fa 10 1),qf 49 51 (ld 50),qf 49 52 (.mv 2),qf 49 53 (.bin .geq .num 51 52),qo 54 (.pick 49 bT 53)] (.cond 54 (sr [qo 6 (.mv (iC 11))] .ret) .skip)) (.seq (sr [qm 55 7,qo 56 (.fa 10 0),qo 57 (ld 56),qo 58 (.idxA 55 57 1),qo 59 (ld 58),qm 60 59,qf 60 61 (.mv 8),qf 60 62 (.fa 10 1),
 qf 60 63 (ld 62),qf 60 64 (.idxA 61 63 1),qf 60 65 (ld 64),qo 66 (.pick 60 bT 65)] (.cond 66 (sr [qo 6 (.mv (iC 5))] .ret) .skip)) (.drw [(.s 26)] (oR 10) [9] [0, 1, 2, 3, 4, 5, 6, 8] [qm 67 7,qo 68 (.fa 10 0),qo 69 (ld 68),qm 70 8,qo 71 (.fa 10 1),qo 72 (ld 71),qo 73 (.idxA 67 69 1),qp (.store 73 bT 1),
 qo 74 (.idxA 70 72 1),qp (.store 74 bT 1)]))))) (.reg [qo 75 (.bin .add .num 31 (iC 1)),qm 31 75])))) [.keep [1, 2, 7, 8, 29, 30, 31] [(.s 26), (.s 28)]]))))) (sr [qo 6 (.mv (iC 0))] .ret)))))⟩
theorem w12 {O : Oracle TT} : C12 (fun _ => vcF (S := SS) O j12) f12 := by
 intro l8 v9 vA Q R hQ h
 unfold f12 at h
 refine ⟨nle rfl, rfl, ?_⟩
 refine kc h ?_ ?_ <;> intro h
 refine kc h ?_ ?_ <;> intro h
 refine kc h ?_ ?_ <;> intro h
 refine kc h ?_ ?_ <;> intro h
 obtain ⟨RI, h, aI, hrRI⟩ := sc h
 refine kX (fun σ => RI (.inr ()) ∧ σ = ⟨[(0, .c (.isl .pair l8)), (1, iD v9), (2, iD vA), (7, .c (.osl (.s 26) 0 v9.toNat)), (8, .c (.osl (.s 28) 0 vA.toNat))], [(.s 26, (eR .bool (List.replicate v9.toNat false))), (.s 28, (eR .bool (List.replicate vA.toNat false)))]⟩) ?_ ?_
 conv => whnf
 refine ⟨?_, ?_⟩
 conv => whnf
 first | (refine ⟨hbq, ?_⟩) | (obtain ⟨hbK, h⟩ := sat_grdP h; refine ⟨hbK, ?_⟩) | (obtain ⟨hbq, h⟩ := sat_grdP h; obtain ⟨hbK, h⟩ := sat_grdP h; refine ⟨hbK, ?_⟩)
 conv => whnf
 first | (refine ⟨hbq, ?_⟩) | (obtain ⟨hbL, h⟩ := sat_grdP h; refine ⟨hbL, ?_⟩) | (obtain ⟨hbq, h⟩ := sat_grdP h; obtain ⟨hbL, h⟩ := sat_grdP h; refine ⟨hbL, ?_⟩)
 conv => whnf
 exact ⟨ss h, rfl⟩
 conv => whnf
 first | (refine ⟨hbq, ?_⟩) | (obtain ⟨hbM, h⟩ := sat_grdP h; refine ⟨hbM, ?_⟩) | (obtain ⟨hbq, h⟩ := sat_grdP h; obtain ⟨hbM, h⟩ := sat_grdP h; refine ⟨hbM, ?_⟩)
 conv => whnf
 first | (refine ⟨hbq, ?_⟩) | (obtain ⟨hbN, h⟩ := sat_grdP h; refine ⟨hbN, ?_⟩) | (obtain ⟨hbq, h⟩ := sat_grdP h; obtain ⟨hbN, h⟩ := sat_grdP h; refine ⟨hbN, ?_⟩)
 conv => whnf
 exact ⟨ss h, rfl⟩
 rintro _ ⟨h, rfl⟩
 replace h := hrRI _ h
 obtain ⟨R5, h, a5, hrR5⟩ := sc h
 refine kX (fun σ => R5 (.inr ()) ∧ σ = ⟨[], []⟩) ?_ ?_
 intro hlS
 refine kX (fun σ n => ∃ (rem6 : List (Int × Int)) (jB : Nat) (z : Int) (lC : List Bool) (lE : List Bool) (nO : Nat) (nP : Nat), n = rem6.length ∧ l8.drop jB = rem6 ∧ z = ((jB : Nat) : Int) ∧ nO = lC.length ∧ nP = lE.length ∧ sat (f12_L2 v9 vA rem6 jB lC lE) R5 ∧ σ.keep [1, 2, 7, 8, 29, 30, 31] [(.s 26), (.s 28)] = ⟨[(1, iD v9), (2, iD vA), (7, .c (.osl (.s 26) 0 nO)), (8, .c (.osl (.s 28) 0 nP)), (29, .c (.isl .pair l8)), (30, iD ((l8.length : Nat) : Int)), (31, iD z)], [(.s 26, (eR .bool lC)), (.s 28, (eR .bool lE))]⟩) ⟨_, l8, 0, _, (List.replicate v9.toNat false), (List.replicate vA.toNat false), _, _, rfl, rfl, rfl, LN, LN, h, rfl⟩ ?_
 rintro σ n ⟨rem6, jB, _, lC, lE, _, _, rfl, hrem6, rfl, rfl, rfl, h, hσ⟩
 refine kk hσ ?_
 intro tG (htG : tG = decide (((jB : Nat) : Int) < ((l8.length : Nat) : Int)))
 cases tG
 obtain rfl := ll_nil hrem6 htG
 rw [f12_L2] at h
 conv => whnf
 exact ⟨ss h, rfl⟩
 obtain ⟨xH, tlJ, rfl, hxH, htlJ⟩ := ll_cons hrem6 htG
 obtain ⟨xU, yV⟩ := xH
 rw [f12_L2] at h
 conv => whnf
 refine ⟨lx_bd hxH, fun uuQ huuQ => ?_⟩
 obtain rfl := lx_eq hxH huuQ
 refine kc h ?_ ?_ <;> intro h
 refine kc h ?_ ?_ <;> intro h
 refine kc h ?_ ?_ <;> intro h
 refine kc h ?_ ?_ <;> intro h
 refine kp h fun hbZ h => ?_
 refine kg (sat_getN h) fun bW huu00 h => ?_
 cases bW
 replace h := cf h
 refine kp h fun hb01 h => ?_
 refine kg (sat_getN h) fun bY huu02 h => ?_
 cases bY
 replace h := cf h
 refine kp h fun hb03 h => ?_
 refine kg (sat_getN h) fun b04 huu05 h => ?_
 refine ⟨true, rfl, ?_⟩
 refine kp h fun hb06 h => ?_
 refine kg (sat_getN h) fun b07 huu08 h => ?_
 refine ⟨true, rfl, ?_⟩
 conv => whnf
 exact ⟨tlJ.length, nls, tlJ, jB + 1, _, (lC.set (0 + xU.toNat) true), (lE.set (0 + yV.toNat) true), _, _, rfl, htlJ, lx_wr hxH hlS, LN, LN, h, rfl⟩
 replace h := ct h
 replace h := sat_lft a5 h
 exact kR [] (ND 0) (hQ _ (ss h))
 replace h := ct h
 replace h := sat_lft a5 h
 exact kR [] (ND 0) (hQ _ (ss h))
 replace h := sat_lft a5 h
 exact kR [] (ND 0) (hQ _ (ss h))
 replace h := sat_lft a5 h
 exact kR [] (ND 0) (hQ _ (ss h))
 replace h := sat_lft a5 h
 exact kR [] (ND 0) (hQ _ (ss h))
 replace h := sat_lft a5 h
 exact kR [] (ND 0) (hQ _ (ss h))
 rintro _ ⟨h, rfl⟩
 replace h := hrR5 _ h
 exact kR [] (ND 0) (hQ _ (ss h))
 exact kR [] (ND 0) (hQ _ (ss h))
 exact kR [] (ND 0) (hQ _ (ss h))
 exact kR [] (ND 0) (hQ _ (ss h))
 exact kR [] (ND 0) (hQ _ (ss h))
def f17_L2 : Nat → Int → LI → Option (Sum (LI × LI × Int) (LI))
  | 0, v0, l5 => some (.inr l5)
  | g6 + 1, v0, l5 => grdP ((0 : Int) ≤ v0 ∧ v0 < ((l5.length : Nat) : Int)) (getN l5 (0 + v0.toNat) fun v7 => f17_L2 g6 (v0 + 1) (l5.set (0 + v0.toNat) (-1)))
def f17_L4 : List (Int × Int) → Nat → LI → (List Bool) → Option (Sum (LI × LI × Int) (LI × (List Bool)))
  | [], j8, l0, l5 => some (.inr (l0, l5))
  | ((x6, y7)) :: tl9, j8, l0, l5 => grdP ((0 : Int) ≤ y7 ∧ y7 < ((l0.length : Nat) : Int)) (getN l0 (0 + y7.toNat) fun vA => grdP ((0 : Int) ≤ x6 ∧ x6 < ((l5.length : Nat) : Int)) (getN l5 (0 + x6.toNat) fun bB => f17_L4 tl9 (j8 + 1) (l0.set (0 + y7.toNat) x6) (l5.set (0 + x6.toNat) true)))
def f17_L6 (l6 : List Bool) : Nat → Int → LI → Option (Sum (LI × LI × Int) (LI))
  | 0, v0, l5 => some (.inr l5)
  | g7 + 1, v0, l5 => grdP ((0 : Int) ≤ v0 ∧ v0 < ((l6.length : Nat) : Int)) (getN l6 (0 + v0.toNat) fun b8 => cond b8 (f17_L6 l6 g7 (v0 + 1) l5) (grdP (l5.length + ([v0] : LI).length ≤ 68719476736) (f17_L6 l6 g7 (v0 + 1) (l5 ++ ([v0] : LI)))))
def f17 : (List (Int × Int)) → Int → Int → Option (LI × LI × Int)
  | l7, v5, v0 => (f12 l7 v5 v0).bind fun v8 => cond (v8 != 0) (none) (grdP ((0 : Int) ≤ v0 ∧ v0 ≤ 68719476736) (sbind (ο := LI) (grdP (((v0.toNat : Nat) : Int) ≤ 9223372036854775807) (f17_L2 (((v0.toNat : Nat) : Int) - 0).toNat 0 (List.replicate v0.toNat (0 : Int)))) (fun l9 => grdP ((0 : Int) ≤ v5 ∧ v5 ≤ 68719476736) (sbind (ο := LI × (List Bool)) (f17_L4 l7 0 l9 (List.replicate v5.toNat false)) (fun (lA, l6) => sbind (ο := LI) (grdP (((l6.length : Nat) : Int) ≤ 9223372036854775807) (f17_L6 l6 (((l6.length : Nat) : Int) - 0).toNat 0 [])) (fun lB => some (lA, lB, 0)))))))
def C17 (O : Oracle TT) (m : (List (Int × Int)) → Int → Int → Option (LI × LI × Int)) : Prop :=
  ∀ (l0 : List (Int × Int)) v5 v6 (Q : (LI × LI × Int) → Prop) (R : RR) (_ : ∀ l7 l8 v9, Q (l7, l8, v9) → R (.tup [.c (.isl .int l7), .c (.isl .int l8), iD v9]) []) (_ : sat (m l0 v5 v6) Q), O 17 [.c (.isl .pair l0), iD v5, iD v6] [] R
def j17 : Fn TT := ⟨71, [.t 6, .t 7, .t 8], (sr [qo 6 (.mv (.c (.nils))),qo 7 (.mv (.c (.nils))),qo 8 (.mv (iC 0))] (.seq (sr [qm 18 0,qm 19 1,qm 20 2,qo 21 (.call 21 12 [18, 19, 20]),qm 9 21] (sr [qm 22 9,qo 23 (.bin .neq .num 22 (iC 0))] (.cond 23 .dead .skip))) (sr [qm 25 2,
 qo 26 (.mk 26 .int (0 : Int) 68719476736 25),qm 10 26] (.cut [0, 1, 10] [(.s 26)] (sr [qm 27 10,qo 28 (.len false 27),qo 29 (.mv (iC 0))] (.block 0 (.loop (.keep [0, 1, 10, 28, 29] [(.s 26)] (.aft (sr [qo 30 (.bin .lss .num 29 28)] (.seq (.cond 30 .skip (.exit 0)) (.seq (.block 1 (sr [qm 31 29,qm 11 31] (.reg [qm 32 10,qm 33 11,
 qo 34 (.idxA 32 33 1),qp (.store 34 (iC (-1)) 1)]))) (.reg [qo 35 (.bin .add .num 29 (iC 1)),qm 29 35])))) [.keep [0, 1, 10, 28, 29] [(.s 26)]]))))) (sr [qm 36 1,qo 37 (.mk 37 .bool false 68719476736 36),qm 12 37] (.cut [10, 12] [(.s 26), (.s 37)] (sr [qm 38 0,qo 39 (.len false 38),qo 40 (.mv (iC 0))] (.block 2
 (.loop (.keep [10, 12, 38, 39, 40] [(.s 26), (.s 37)] (.aft (sr [qo 41 (.bin .lss .num 40 39)] (.seq (.cond 41 .skip (.exit 2)) (.seq (.block 3 (sr [qo 42 (.idxA 38 40 2),qo 43 (.load 42 2 true),qo 14 (.alloc 14 [.int .i64 0, .int .i64 0]),qp (.store 14 43 2)] (.drw [(.s 26)] (oR 12) [11] [0, 1, 2, 3, 4, 5, 6, 7, 8, 10] [qm 44 10,qo 45 (.fa 14 1),
 qo 46 (ld 45),qm 47 12,qo 48 (.fa 14 0),qo 49 (ld 48),qo 50 (.fa 14 0),qo 51 (ld 50),qo 52 (.idxA 44 46 1),qp (.store 52 51 1),qo 53 (.idxA 47 49 1),qp (.store 53 bT 1)]))) (.reg [qo 54 (.bin .add .num 40 (iC 1)),qm 40 54])))) [.keep [10, 12, 38, 39, 40] [(.s 26), (.s 37)]]))))) (sr [qo 15 (.mv (.c (.nils)))]
 (.cut [10, 15] [(.s 26), (.sub (.sub (.s 15) 602) 0)] (sr [qm 55 12,qo 56 (.len false 55),qo 57 (.mv (iC 0))] (.block 4 (.pre [.own 15 0 .int (.sub (.sub (.s 15) 602) 0)] (.loop (.keep [10, 15, 55, 56, 57] [(.s 26), (.sub (.sub (.s 15) 602) 0), (.s 37)] (.aft (sr [qo 58 (.bin .lss .num 57 56)] (.seq (.cond 58 .skip (.exit 4)) (.seq (.block 5 (sr [qm 59 57,
 qo 60 (.idxA 55 57 1),qo 61 (ld 60),qm 16 59,qm 17 61] (sr [qm 62 17,qo 63 (.un .not 62)] (.cond 63 (.reg [qm 64 15,qm 65 16,qo 66 (.bsl .int [65]),qo 67 (.app 67 .int 68719476736 64 66),qm 15 67]) .skip)))) (.reg [qo 68 (.bin .add .num 57 (iC 1)),
 qm 57 68])))) [.keep [10, 15, 55, 56, 57] [(.s 26), (.s 67), (.s 37), (.sub (.sub (.s 15) 602) 0)], .own 15 0 .int (.sub (.sub (.s 15) 602) 0)])))))) (sr [qm 69 10,qm 70 15,qm 6 69,qm 7 70,qo 8 (.mv (iC 0))] (.pre [.frz 6 0 .int, .frz 7 0 .int] .ret))))))))))⟩
theorem w17 {O : Oracle TT} (h12 : C12 O f12) : C17 (fun _ => vcF (S := SS) O j17) f17 := by
 intro lG v01 vY Q R hQ h
 unfold f17 at h
 refine ⟨nle rfl, rfl, ?_⟩
 refine kL [] (h12 _ _ _ _ _ ?_ (sb h))
 rintro v0H h
 refine kc h ?_ ?_ <;> intro h
 refine kp h fun hb0I h => ?_
 obtain ⟨RN, h, aN, hrRN⟩ := sc h
 refine kX (fun σ => ∃ (lO : LI) (n03 : Nat), n03 = lO.length ∧ RN (.inr lO) ∧ σ = ⟨[(0, .c (.isl .pair lG)), (1, iD v01), (10, .c (.osl (.s 26) 0 n03))], [(.s 26, (eR .int lO))]⟩) ?_ ?_
 intro hl0J
 obtain ⟨hN0C, h⟩ := sat_grdP h
 refine kX (fun σ n => ∃ (f8 : Nat) (vB : Int) (z : Int) (lJ : LI) (n04 : Nat), f8 = n ∧ f8 = (((vY.toNat : Nat) : Int) - vB).toNat ∧ 0 ≤ vB ∧ vB = z ∧ n04 = lJ.length ∧ sat (f17_L2 f8 vB lJ) RN ∧ σ.keep [0, 1, 10, 28, 29] [(.s 26)] = ⟨[(0, .c (.isl .pair lG)), (1, iD v01), (10, .c (.osl (.s 26) 0 n04)), (28, iD ((vY.toNat : Nat) : Int)), (29, iD z)], [(.s 26, (eR .int lJ))]⟩) ⟨_, _, 0, _, (List.replicate vY.toNat (0 : Int)), _, rfl, rfl, (by decide), rfl, LN, h, rfl⟩ ?_
 rintro σ n ⟨f8, vB, _, lJ, _, rfl, hf8, hpf8, rfl, rfl, h, hσ⟩
 refine kk hσ ?_
 intro tP (htP : tP = decide (vB < ((vY.toNat : Nat) : Int)))
 cases tP
 obtain rfl := il_nil hf8 htP
 rw [f17_L2] at h
 conv => whnf
 exact ⟨lJ, _, LN, ss h, rfl⟩
 obtain ⟨gC, rfl, hwgC, hpgC, hfgC⟩ := il_cons hf8 hpf8 htP hN0C
 rw [f17_L2] at h
 refine kp h fun hb0K h => ?_
 refine kg (sat_getN h) fun v0L huu0M h => ?_
 refine ⟨(-1), rfl, ?_⟩
 conv => whnf
 exact ⟨gC, nls, gC, vB + 1, _, (lJ.set (0 + vB.toNat) (-1)), _, rfl, hfgC, hpgC, hwgC.symm, LN, h, rfl⟩
 rintro _ ⟨lO, _, rfl, h, rfl⟩
 replace h := hrRN _ h
 refine kp h fun hb0N h => ?_
 obtain ⟨RQ, h, aQ, hrRQ⟩ := sc h
 refine kX (fun σ => ∃ (lE : LI) (l6 : List Bool) (n05 : Nat) (n06 : Nat), n05 = lE.length ∧ n06 = l6.length ∧ RQ (.inr (lE, l6)) ∧ σ = ⟨[(10, .c (.osl (.s 26) 0 n05)), (12, .c (.osl (.s 37) 0 n06))], [(.s 26, (eR .int lE)), (.s 37, (eR .bool l6))]⟩) ?_ ?_
 intro hl0D
 refine kX (fun σ n => ∃ (remH : List (Int × Int)) (jK : Nat) (z : Int) (lL : LI) (lM : List Bool) (n07 : Nat) (n08 : Nat), n = remH.length ∧ lG.drop jK = remH ∧ z = ((jK : Nat) : Int) ∧ n07 = lL.length ∧ n08 = lM.length ∧ sat (f17_L4 remH jK lL lM) RQ ∧ σ.keep [10, 12, 38, 39, 40] [(.s 26), (.s 37)] = ⟨[(10, .c (.osl (.s 26) 0 n07)), (12, .c (.osl (.s 37) 0 n08)), (38, .c (.isl .pair lG)), (39, iD ((lG.length : Nat) : Int)), (40, iD z)], [(.s 26, (eR .int lL)), (.s 37, (eR .bool lM))]⟩) ⟨_, lG, 0, _, lO, (List.replicate v01.toNat false), _, _, rfl, rfl, rfl, LN, LN, h, rfl⟩ ?_
 rintro σ n ⟨remH, jK, _, lL, lM, _, _, rfl, hremH, rfl, rfl, rfl, h, hσ⟩
 refine kk hσ ?_
 intro tS (htS : tS = decide (((jK : Nat) : Int) < ((lG.length : Nat) : Int)))
 cases tS
 obtain rfl := ll_nil hremH htS
 rw [f17_L4] at h
 conv => whnf
 exact ⟨lL, lM, _, _, LN, LN, ss h, rfl⟩
 obtain ⟨xU, tlZ, rfl, hxU, htlZ⟩ := ll_cons hremH htS
 obtain ⟨x02, y0E⟩ := xU
 rw [f17_L4] at h
 conv => whnf
 refine ⟨lx_bd hxU, fun uu09 huu09 => ?_⟩
 obtain rfl := lx_eq hxU huu09
 refine kp h fun hb0O h => ?_
 refine kg (sat_getN h) fun v0P huu0Q h => ?_
 refine ⟨x02, rfl, ?_⟩
 refine kp h fun hb0R h => ?_
 refine kg (sat_getN h) fun b0S huu0T h => ?_
 refine ⟨true, rfl, ?_⟩
 conv => whnf
 exact ⟨tlZ.length, nls, tlZ, jK + 1, _, (lL.set (0 + y0E.toNat) x02), (lM.set (0 + x02.toNat) true), _, _, rfl, htlZ, lx_wr hxU hl0D, LN, LN, h, rfl⟩
 rintro _ ⟨lE, l6, _, _, rfl, rfl, h, rfl⟩
 replace h := hrRQ _ h
 obtain ⟨RV, h, aV, hrRV⟩ := sc h
 refine kX (fun σ => ∃ (l00 : LI) (n0A : Nat), n0A = l00.length ∧ RV (.inr l00) ∧ σ = ⟨[(10, .c (.osl (.s 26) 0 lE.length)), (15, .c (.osl (.sub (.sub (.s 15) 602) 0) 0 n0A))], [(.s 26, (eR .int lE)), (.sub (.sub (.s 15) 602) 0, (eR .int l00))]⟩) ?_ ?_
 intro hl0U
 obtain ⟨hN0F, h⟩ := sat_grdP h
 refine kX (fun σ n => ∃ (f9 : Nat) (vA : Int) (z : Int) (lI : LI) (n0B : Nat), f9 = n ∧ f9 = (((l6.length : Nat) : Int) - vA).toNat ∧ 0 ≤ vA ∧ vA = z ∧ n0B = lI.length ∧ sat (f17_L6 l6 f9 vA lI) RV ∧ σ.keep [10, 15, 55, 56, 57] [(.s 26), (.sub (.sub (.s 15) 602) 0), (.s 37)] = ⟨[(10, .c (.osl (.s 26) 0 lE.length)), (15, .c (.osl (.sub (.sub (.s 15) 602) 0) 0 n0B)), (55, .c (.osl (.s 37) 0 l6.length)), (56, iD ((l6.length : Nat) : Int)), (57, iD z)], [(.s 26, (eR .int lE)), (.sub (.sub (.s 15) 602) 0, (eR .int lI)), (.s 37, (eR .bool l6))]⟩) ⟨_, _, 0, _, [], _, rfl, rfl, (by decide), rfl, LN, h, rfl⟩ ?_
 rintro σ n ⟨f9, vA, _, lI, _, rfl, hf9, hpf9, rfl, rfl, h, hσ⟩
 refine kk hσ ?_
 intro tW (htW : tW = decide (vA < ((l6.length : Nat) : Int)))
 cases tW
 obtain rfl := il_nil hf9 htW
 rw [f17_L6] at h
 conv => whnf
 exact ⟨lI, _, LN, ss h, rfl⟩
 obtain ⟨g5, rfl, hwg5, hpg5, hfg5⟩ := il_cons hf9 hpf9 htW hN0F
 rw [f17_L6] at h
 refine kp h fun hb0V h => ?_
 refine kg (sat_getN h) fun b0G huu0W h => ?_
 cases b0G
 replace h := cf h
 conv => whnf
 refine ⟨LN, rfl, ?_⟩
 conv => whnf
 refine ⟨rfl, ?_⟩
 refine kp h fun hb0X h => ?_
 conv => whnf
 exact ⟨g5, nls, g5, vA + 1, _, (lI ++ ([vA] : LI)), _, rfl, hfg5, hpg5, hwg5.symm, LN, h, rfl⟩
 replace h := ct h
 conv => whnf
 exact ⟨g5, nls, g5, vA + 1, _, lI, _, rfl, hfg5, hpg5, hwg5.symm, LN, h, rfl⟩
 rintro _ ⟨l00, _, rfl, h, rfl⟩
 replace h := hrRV _ h
 conv => whnf
 refine ⟨LN, ?_⟩
 conv => whnf
 refine ⟨LN, ?_⟩
 exact kR [] (ND 0) (hQ _ _ _ (ss h))
 exact (sat_none h).elim
def f1076_L2 (fuel : Nat) (l6 : FV) (l8 : FV) (l9 : FV) : LI → Nat → Option (Sum (Bool) (Unit))
  | [], j5 => some (.inr ())
  | v7 :: tlG, j5 => sbind (ο := Int × Int × BA × FV) (getL l8 ((j5 : Nat) : Int) fun uuH => match uuH with | (a07, .mk k08 n09 s0A fI) => getL fI 0 fun uuJ => match uuJ with | (a0B, .mk k0C nK s0D f0E) => (f30 nK (7 : Int)).bind fun (.mk kM nN sO fP) => some (.inr (kM, nN, sO, fP))) (fun (vA, vB, sC, lF) => sbind (ο := Int × Int × BA × FV) (cond (decide (v7 ≥ 0)) (cond (decide (v7 < ((l6.length : Nat) : Int))) (getL l6 v7 fun uuQ => match uuQ with | (a0F, .mk kS nT sU fV) => some (.inr (kS, nT, sU, fV))) (some (.inr (vA, vB, sC, lF)))) (some (.inr (vA, vB, sC, lF)))) (fun (vW, vY, sZ, l00) => getL l9 ((j5 : Nat) : Int) fun uu01 => match uu01 with | (a0G, .mk k02 n03 s04 f05) => (f11 fuel (V.mk k02 n03 s04 f05) (V.mk vW vY sZ l00)).bind fun q06 => cond q06 (f1076_L2 fuel l6 l8 l9 tlG (j5 + 1)) (lft (some false))))
def f1076 (fuel : Nat) : LI → LI → Option (Bool)
  | lK, lM => sbind (ο := Int × Int × BA × FV × Int × Int × BA × FV) ((f8 lK).bind fun (.mk kN nO sP fQ) => (f8 lM).bind fun (.mk kU nV sW fY) => some (.inr (kN, nO, sP, fQ, kU, nV, sW, fY))) (fun (v9, vA, sB, l6, vZ, v00, s01, l5) => sbind (ο := PT) ((f1029).bind fun (.mk k02 m03 lo04 hi05 p06 ps07) => some (.inr ([((⟨#[]⟩ : BA), (Tp.mk k02 m03 lo04 hi05 p06 ps07))] : PT))) (fun l7 => sbind (ο := (List Ln)) ((f325).bind fun (.mk op08 nm09 to0A ns0B n0C lo0D hi0E sep0F (.mk k0G n0H s0I f0J) prs0K ks0L) => some (.inr ([(Ln.mk op08 nm09 to0A ns0B n0C lo0D hi0E sep0F (V.mk k0G n0H s0I f0J) prs0K ks0L)] : List Ln))) (fun l8 => sbind (ο := Int × Int × Int × BA × FV) ((f1047 fuel [] (Ln.mk 13 (⟨#[97]⟩ : BA) (⟨#[]⟩ : BA) [] 0 0 0 0 (V.mk 0 0 (⟨#[]⟩ : BA) []) [] l8) (Tp.mk 8 (⟨#[]⟩ : BA) 0 7 (⟨#[]⟩ : BA) l7) (V.mk vZ v00 s01 l5)).bind fun ((.mk k0M n0N s0O f0P), v0Q) => some (.inr (v0Q, k0M, n0N, s0O, f0P))) (fun (v0R, vC, vF, sG, lH) => sbind (ο := Int × Int × Int × BA × FV) ((f1047 fuel [] (Ln.mk 13 (⟨#[97]⟩ : BA) (⟨#[]⟩ : BA) [] 0 0 0 0 (V.mk 0 0 (⟨#[]⟩ : BA) []) [] l8) (Tp.mk 8 (⟨#[]⟩ : BA) 0 7 (⟨#[]⟩ : BA) l7) (V.mk v9 vA sB l6)).bind fun ((.mk k0S n0T s0U f0V), v0W) => some (.inr (v0W, k0S, n0T, s0U, f0V))) (fun (v0X, v0Y, v0Z, s10, l11) => (f1077 fuel).bind fun q12 => cond q12 (cond (v0R != 0) (some false) (cond (v0X != 0) (some false) (sbind (ο := Int × Int × Int × BA × FV) ((f1061 fuel [] (Ln.mk 13 (⟨#[97]⟩ : BA) (⟨#[]⟩ : BA) [] 0 0 0 0 (V.mk 0 0 (⟨#[]⟩ : BA) []) [] l8) (Tp.mk 8 (⟨#[]⟩ : BA) 0 7 (⟨#[]⟩ : BA) l7) (V.mk vC vF sG lH) (V.mk v9 vA sB l6)).bind fun ((.mk k13 n14 s15 f16), v17) => some (.inr (v17, k13, n14, s15, f16))) (fun (v18, v1G, v1H, s1I, lI) => sbind (ο := Int × (List (Int × Int))) ((f16 fuel (V.mk v0Y v0Z s10 l11) (V.mk vC vF sG lH) (⟨#[97]⟩ : BA)).bind fun (l19, v1A) => some (.inr (v1A, l19))) (fun (v1B, l1C) => cond (v18 != 0) (some false) (cond (v1B != 0) (some false) (cond (((lI.length : Nat) : Int) != ((l5.length : Nat) : Int)) (some false) (sbind (ο := Int × LI) ((f17 l1C ((l6.length : Nat) : Int) ((l5.length : Nat) : Int)).bind fun (l1D, l1J, v1E) => some (.inr (v1E, l1D))) (fun (v1F, lJ) => cond (v1F != 0) (some false) (cond (((lJ.length : Nat) : Int) != ((l5.length : Nat) : Int)) (some false) (sbind (ο := Unit) (f1076_L2 fuel l6 l5 lI lJ 0) (fun () => some true)))))))))))) (some false))))))
def C1076 (O : Oracle TT) (m : LI → LI → Option (Bool)) : Prop :=
  ∀ l0 l5 (Q : Bool → Prop) (R : RR) (_ : ∀ q6, Q q6 → R (bD q6) []) (_ : sat (m l0 l5) Q), O 1076 [.c (.isl .int l0), .c (.isl .int l5)] [] R
def j1076 : Fn TT := ⟨150, [.t 4], (sr [qm 4 bF] (.cut [5, 6] [(.s 5), (.s 6)] (.reg [qm 20 0,qo 21 (.call 21 8 [20]),qm 22 1,qo 23 (.call 23 8 [22]),qo 5 (.alloc 5 zV),qo 6 (.alloc 6 zV),qp (.store 5 21 4),qp (.store 6 23 4)]) (.cut [5, 6, 7] [(.s 5), (.s 6), (.s 7)] (.reg [qo 24 (.call 24 1029 []),qo 25 (.build zPt [((1, 6), 24)]),
 qo 26 (.bsl .part [25]),qo 27 (.build zTp [((0, 1), (iC 8)), ((3, 1), (iC 7)), ((5, 1), 26)]),qo 7 (.alloc 7 zTp),qp (.store 7 27 6)]) (.cut [5, 6, 7, 8] [(.s 5), (.s 6), (.s 7), (.s 8)] (.reg [qo 28 (.call 28 325 []),qo 29 (.bsl .lens [28]),qo 30 (.build zLn [((0, 1), (iC 13)), ((1, 1), (.c (.str (⟨#[97]⟩ : BA)))), ((13, 1), 29)]),qo 8 (.alloc 8 zLn),qp (.store 8 30 14)])
 (.cut [5, 6, 7, 8, 9, 10] [(.s 5), (.s 6), (.s 7), (.s 8), (.s 9)] (.reg [qo 32 (.load 8 14 true),qo 33 (.load 7 6 true),qo 34 (.load 6 4 true),qo 35 (.call 35 1047 [(.c (.isl .dfn [])), 32, 33, 34]),qm 31 35,qo 36 (.ext 31 0),qo 37 (.ext 31 1),qo 9 (.alloc 9 zV),qp (.store 9 36 4),qm 10 37]) (.cut [5, 6, 7, 8, 9, 10, 11, 12] [(.s 5), (.s 6), (.s 7), (.s 8), (.s 9), (.s 11)]
 (.reg [qo 39 (.load 8 14 true),qo 40 (.load 7 6 true),qo 41 (.load 5 4 true),qo 42 (.call 42 1047 [(.c (.isl .dfn [])), 39, 40, 41]),qm 38 42,qo 43 (.ext 38 0),qo 44 (.ext 38 1),qo 11 (.alloc 11 zV),qp (.store 11 43 4),qm 12 44]) (.seq (sr [qo 45 (.call 45 1077 []),qo 46 (.un .not 45),qm 47 46,qf 47 48 (.mv 10),qf 47 49 (.bin .neq .num 48 (iC 0)),
 qo 50 (.pick 47 bT 49),qm 51 50,qf 51 52 (.mv 12),qf 51 53 (.bin .neq .num 52 (iC 0)),qo 54 (.pick 51 bT 53)] (.cond 54 (sr [qm 4 bF] .ret) .skip)) (.cut [5, 6, 9, 10, 11, 13] [(.s 5), (.s 6), (.s 9), (.s 11), (.s 13)] (.reg [qo 56 (.load 8 14 true),qo 57 (.load 7 6 true),qo 58 (.load 9 4 true),qo 59 (.load 5 4 true),
 qo 60 (.call 60 1061 [(.c (.isl .dfn [])), 56, 57, 58, 59]),qm 55 60,qo 61 (.ext 55 0),qo 62 (.ext 55 1),qo 13 (.alloc 13 zV),qp (.store 13 61 4),qm 10 62]) (.cut [5, 6, 10, 12, 13, 14] [(.s 5), (.s 6), (.s 13)] (.reg [qo 64 (.load 11 4 true),qo 65 (.load 9 4 true),qo 66 (.call 66 16 [64, 65, (.c (.str (⟨#[97]⟩ : BA)))]),qm 63 66,qo 67 (.ext 63 0),
 qo 68 (.ext 63 1),qm 14 67,qm 12 68]) (.seq (sr [qm 69 10,qo 70 (.bin .neq .num 69 (iC 0)),qm 71 70,qf 71 72 (.mv 12),qf 71 73 (.bin .neq .num 72 (iC 0)),qo 74 (.pick 71 bT 73),qm 75 74,qf 75 76 (.fa 13 3),qf 75 77 (ld 76),qf 75 78 (.len false 77),qf 75 79 (.fa 6 3),qf 75 80 (ld 79),qf 75 81 (.len false 80),
 qf 75 82 (.bin .neq .num 78 81),qo 83 (.pick 75 bT 82)] (.cond 83 (sr [qm 4 bF] .ret) .skip)) (.cut [5, 6, 10, 13, 15] [(.s 5), (.s 6), (.s 13)] (.reg [qm 85 14,qo 86 (.fa 5 3),qo 87 (ld 86),qo 88 (.len false 87),qo 89 (.fa 6 3),qo 90 (ld 89),qo 91 (.len false 90),qo 92 (.call 92 17 [85, 88, 91]),qm 84 92,qo 93 (.ext 84 0),
 qo 94 (.ext 84 1),qo 95 (.ext 84 2),qm 15 93,qm 16 94,qm 10 95]) (.seq (sr [qm 96 10,qo 97 (.bin .neq .num 96 (iC 0)),qm 98 97,qf 98 99 (.mv 15),qf 98 100 (.len false 99),qf 98 101 (.fa 6 3),qf 98 102 (ld 101),qf 98 103 (.len false 102),qf 98 104 (.bin .neq .num 100 103),qo 105 (.pick 98 bT 104)] (.cond 105 (sr [qm 4 bF]
 .ret) .skip)) (.cut [] [] (sr [qm 106 15,qo 107 (.len false 106),qo 108 (.mv (iC 0))] (.block 0 (.loop (.keep [5, 6, 13, 106, 107, 108] [(.s 5), (.s 6), (.s 13)] (.aft (sr [qo 109 (.bin .lss .num 108 107)] (.seq (.cond 109 .skip (.exit 0)) (.seq (.block 1 (sr [qm 110 108,qo 111 (.idxA 106 108 1),qo 112 (ld 111),qm 17 110,
 qm 18 112] (.cut [5, 6, 13, 17, 18, 19, 106, 107, 108] [(.s 5), (.s 6), (.s 13), (.s 19)] (.reg [qo 113 (.fa 6 3),qo 114 (ld 113),qm 115 17,qo 116 (.idxA 114 115 5),qo 117 (.fa 116 1),qo 118 (.fa 117 3),qo 119 (ld 118),qo 120 (.idxA 119 (iC 0) 5),qo 121 (.fa 120 1),qo 122 (.fa 121 1),qo 123 (ld 122),qo 124 (.call 124 30 [123, (iC 7)]),
 qo 19 (.alloc 19 zV),qp (.store 19 124 4)]) (.cut [5, 6, 13, 17, 19, 106, 107, 108] [(.s 5), (.s 6), (.s 13), (.s 19)] (sr [qm 125 18,qo 126 (.bin .geq .num 125 (iC 0)),qm 127 126,qg 127 128 (.mv 18),qg 127 129 (.fa 5 3),qg 127 130 (ld 129),qg 127 131 (.len false 130),qg 127 132 (.bin .lss .num 128 131),qo 133 (.pick 127 132 bF)] (.cond 133
 (.reg [qo 134 (.fa 5 3),qo 135 (ld 134),qm 136 18,qo 137 (.idxA 135 136 5),qo 138 (.fa 137 1),qo 139 (.load 138 4 true),qp (.store 19 139 4)]) .skip)) (.seq (.drw [] (oR 9) [] [0, 1, 2, 3, 4, 5, 6, 8] [qo 140 (.fa 13 3),qo 141 (ld 140),qm 142 17,qo 143 (.idxA 141 142 5),qo 144 (.fa 143 1),qo 145 (.load 144 4 true),qo 146 (.load 19 4 true),
 qo 147 (.call 147 11 [145, 146]),qo 148 (.un .not 147)]) (.cond 148 (sr [qm 4 bF] .ret) .skip)))))) (.reg [qo 149 (.bin .add .num 108 (iC 1)),qm 108 149])))) [.keep [5, 6, 13, 106, 107, 108] [(.s 5), (.s 6), (.s 13)]]))))) (sr [qm 4 bT] .ret))))))))))))))⟩
theorem w1076 {O : Oracle TT} (fuel : Nat) (h325 : C325 O f325) (h1029 : C1029 O f1029) (h30 : C30 O f30) (h11 : C11 O (f11 fuel)) (h1047 : C1047 O (f1047 fuel)) (h1061 : C1061 O (f1061 fuel)) (h8 : C8 O f8) (h1077 : C1077 O (f1077 fuel)) (h16 : C16 O (f16 fuel)) (h17 : C17 O f17) : C1076 (fun _ => vcF (S := SS) O j1076) (f1076 fuel) := by
 intro l2O l2P Q R hQ h
 unfold f1076 at h
 refine ⟨nle rfl, rfl, ?_⟩
 obtain ⟨R05, h, a05, b05⟩ := sc h
 refine kX (fun σ => ∃ v8 v9 sA l5 vB vC sG l6, R05 (.inr (v8, v9, sA, l5, vB, vC, sG, l6)) ∧ σ = ⟨[pT 5, pT 6], [eV (.s 5) [ci v8, ci v9, .str sA, .isl .fld l5], eV (.s 6) [ci vB, ci vC, .str sG, .isl .fld l6]]⟩) ?_ ?_
 refine kL [] (h8 _ _ _ ?_ (sb h))
 rintro k10 n11 s12 f13 h
 refine kL [] (h8 _ _ _ ?_ (sb h))
 rintro k14 n15 s17 f18 h
 conv => whnf
 exact ⟨k10, n11, s12, f13, k14, n15, s17, f18, ss h, rfl⟩
 rintro _ ⟨v8, v9, sA, l5, vB, vC, sG, l6, h, rfl⟩
 replace h := b05 _ h
 obtain ⟨R06, h, a06, b06⟩ := sc h
 refine kX (fun σ => ∃ lP, R06 (.inr lP) ∧ σ = ⟨[pT 5, pT 6, pT 7], [eV (.s 5) [ci v8, ci v9, .str sA, .isl .fld l5], eV (.s 6) [ci vB, ci vC, .str sG, .isl .fld l6], eV (.s 7) [ci 8, .str eB, ci 0, ci 7, .str eB, .isl .part lP]]⟩) ?_ ?_
 refine kL [] (h1029 _ _ ?_ (sb h))
 rintro k19 m1A lo1B hi1C p1D ps1E h
 conv => whnf
 exact ⟨([(eB, (Tp.mk k19 m1A lo1B hi1C p1D ps1E))] : PT), ss h, rfl⟩
 rintro _ ⟨lP, h, rfl⟩
 replace h := b06 _ h
 obtain ⟨R07, h, a07, b07⟩ := sc h
 refine kX (fun σ => ∃ lU, R07 (.inr lU) ∧ σ = ⟨[pT 5, pT 6, pT 7, pT 8], [eV (.s 5) [ci v8, ci v9, .str sA, .isl .fld l5], eV (.s 6) [ci vB, ci vC, .str sG, .isl .fld l6], eV (.s 7) [ci 8, .str eB, ci 0, ci 7, .str eB, .isl .part lP], eV (.s 8) [ci 13, .str (⟨#[97]⟩ : BA), .str eB, .isl .str [], ci 0, ci 0, ci 0, .int .u8 0, ci 0, ci 0, .str eB, .isl .fld [], .isl .two [], .isl .lens lU]]⟩) ?_ ?_
 refine kL [] (h325 _ _ ?_ (sb h))
 rintro op1F nm1G to1H ns1I n1J lo1K hi1L sep1M k1N n1O s1P f1Q prs1R ks1S h
 conv => whnf
 exact ⟨([(Ln.mk op1F nm1G to1H ns1I n1J lo1K hi1L sep1M (V.mk k1N n1O s1P f1Q) prs1R ks1S)] : List Ln), ss h, rfl⟩
 rintro _ ⟨lU, h, rfl⟩
 replace h := b07 _ h
 obtain ⟨R08, h, a08, b08⟩ := sc h
 refine kX (fun σ => ∃ v09 vV vW sY lZ, R08 (.inr (v09, vV, vW, sY, lZ)) ∧ σ = ⟨[pT 5, pT 6, pT 7, pT 8, pT 9, (10, iD v09)], [eV (.s 5) [ci v8, ci v9, .str sA, .isl .fld l5], eV (.s 6) [ci vB, ci vC, .str sG, .isl .fld l6], eV (.s 7) [ci 8, .str eB, ci 0, ci 7, .str eB, .isl .part lP], eV (.s 8) [ci 13, .str (⟨#[97]⟩ : BA), .str eB, .isl .str [], ci 0, ci 0, ci 0, .int .u8 0, ci 0, ci 0, .str eB, .isl .fld [], .isl .two [], .isl .lens lU], eV (.s 9) [ci vV, ci vW, .str sY, .isl .fld lZ]]⟩) ?_ ?_
 refine kL [] (h1047 _ _ _ _ _ _ _ _ _ _ _ _ _ _ _ _ _ _ _ _ _ _ _ _ _ _ _ ?_ (sb h))
 rintro k1T n1U s1V f1W v1X h
 conv => whnf
 exact ⟨v1X, k1T, n1U, s1V, f1W, ss h, rfl⟩
 rintro _ ⟨v09, vV, vW, sY, lZ, h, rfl⟩
 replace h := b08 _ h
 obtain ⟨R0A, h, a0A, b0A⟩ := sc h
 refine kX (fun σ => ∃ v0M v0B v0C s0D l0E, R0A (.inr (v0M, v0B, v0C, s0D, l0E)) ∧ σ = ⟨[pT 5, pT 6, pT 7, pT 8, pT 9, (10, iD v09), pT 11, (12, iD v0M)], [eV (.s 5) [ci v8, ci v9, .str sA, .isl .fld l5], eV (.s 6) [ci vB, ci vC, .str sG, .isl .fld l6], eV (.s 7) [ci 8, .str eB, ci 0, ci 7, .str eB, .isl .part lP], eV (.s 8) [ci 13, .str (⟨#[97]⟩ : BA), .str eB, .isl .str [], ci 0, ci 0, ci 0, .int .u8 0, ci 0, ci 0, .str eB, .isl .fld [], .isl .two [], .isl .lens lU], eV (.s 9) [ci vV, ci vW, .str sY, .isl .fld lZ], eV (.s 11) [ci v0B, ci v0C, .str s0D, .isl .fld l0E]]⟩) ?_ ?_
 refine kL [] (h1047 _ _ _ _ _ _ _ _ _ _ _ _ _ _ _ _ _ _ _ _ _ _ _ _ _ _ _ ?_ (sb h))
 rintro k1Y n1Z s20 f21 v22 h
 conv => whnf
 exact ⟨v22, k1Y, n1Z, s20, f21, ss h, rfl⟩
 rintro _ ⟨v0M, v0B, v0C, s0D, l0E, h, rfl⟩
 replace h := b0A _ h
 refine kL [] (h1077 _ _ ?_ (sb h))
 rintro q23 h
 cases q23
 replace h := cf h
 exact kR [] (ND 0) (hQ _ (ss h))
 replace h := ct h
 refine kc h ?_ ?_ <;> intro h
 refine kc h ?_ ?_ <;> intro h
 obtain ⟨R0F, h, a0F, b0F⟩ := sc h
 refine kX (fun σ => ∃ v0G vK vM sN lJ, R0F (.inr (v0G, vK, vM, sN, lJ)) ∧ σ = ⟨[pT 5, pT 6, pT 9, (10, iD v0G), pT 11, pT 13], [eV (.s 5) [ci v8, ci v9, .str sA, .isl .fld l5], eV (.s 6) [ci vB, ci vC, .str sG, .isl .fld l6], eV (.s 9) [ci vV, ci vW, .str sY, .isl .fld lZ], eV (.s 11) [ci v0B, ci v0C, .str s0D, .isl .fld l0E], eV (.s 13) [ci vK, ci vM, .str sN, .isl .fld lJ]]⟩) ?_ ?_
 refine kL [] (h1061 _ _ _ _ _ _ _ _ _ _ _ _ _ _ _ _ _ _ _ _ _ _ _ _ _ _ _ _ _ _ _ ?_ (sb h))
 rintro k24 n25 s26 f27 v28 h
 conv => whnf
 exact ⟨v28, k24, n25, s26, f27, ss h, rfl⟩
 rintro _ ⟨v0G, vK, vM, sN, lJ, h, rfl⟩
 replace h := b0F _ h
 obtain ⟨R0H, h, a0H, b0H⟩ := sc h
 refine kX (fun σ => ∃ (v0N : Int) (l0O : List (Int × Int)), R0H (.inr (v0N, l0O)) ∧ σ = ⟨[pT 5, pT 6, (10, iD v0G), (12, iD v0N), pT 13, (14, .c (.isl .pair l0O))], [eV (.s 5) [ci v8, ci v9, .str sA, .isl .fld l5], eV (.s 6) [ci vB, ci vC, .str sG, .isl .fld l6], eV (.s 13) [ci vK, ci vM, .str sN, .isl .fld lJ]]⟩) ?_ ?_
 refine kL [] (h16 _ _ _ _ _ _ _ _ _ _ _ ?_ (sb h))
 rintro l29 v2A h
 conv => whnf
 exact ⟨v2A, l29, ss h, rfl⟩
 rintro _ ⟨v0N, l0O, h, rfl⟩
 replace h := b0H _ h
 refine kc h ?_ ?_ <;> intro h
 refine kc h ?_ ?_ <;> intro h
 intro hl2Q
 intro hl2R
 refine kc h ?_ ?_ <;> intro h
 obtain ⟨R0I, h, a0I, b0I⟩ := sc h
 refine kX (fun σ => ∃ v0P lH, R0I (.inr (v0P, lH)) ∧ σ = ⟨[pT 5, pT 6, (10, iD v0P), pT 13, (15, .c (.isl .int lH))], [eV (.s 5) [ci v8, ci v9, .str sA, .isl .fld l5], eV (.s 6) [ci vB, ci vC, .str sG, .isl .fld l6], eV (.s 13) [ci vK, ci vM, .str sN, .isl .fld lJ]]⟩) ?_ ?_
 intro hl2S
 intro hl2T
 refine kL [] (h17 _ _ _ _ _ ?_ (sb h))
 rintro l2B l2U v2C h
 conv => whnf
 exact ⟨v2C, l2B, ss h, rfl⟩
 rintro _ ⟨v0P, lH, h, rfl⟩
 replace h := b0I _ h
 refine kc h ?_ ?_ <;> intro h
 intro hl2V
 intro hl2W
 refine kc h ?_ ?_ <;> intro h
 obtain ⟨RQ, h, aQ, bQ⟩ := sc h
 refine kX (fun σ => RQ (.inr ()) ∧ σ = ⟨[], []⟩) ?_ ?_
 intro hl2D
 refine kX (fun σ n => ∃ (remO : LI) (jI : Nat) (z : Int), n = remO.length ∧ lH.drop jI = remO ∧ z = ((jI : Nat) : Int) ∧ sat (f1076_L2 fuel l5 l6 lJ remO jI) RQ ∧ σ.keep [5, 6, 13, 106, 107, 108] [(.s 5), (.s 6), (.s 13)] = ⟨[pT 5, pT 6, pT 13, (106, .c (.isl .int lH)), (107, iD ((lH.length : Nat) : Int)), (108, iD z)], [eV (.s 5) [ci v8, ci v9, .str sA, .isl .fld l5], eV (.s 6) [ci vB, ci vC, .str sG, .isl .fld l6], eV (.s 13) [ci vK, ci vM, .str sN, .isl .fld lJ]]⟩) ⟨_, lH, 0, _, rfl, rfl, rfl, h, rfl⟩ ?_
 rintro σ n ⟨remO, jI, _, rfl, hremO, rfl, h, hσ⟩
 refine kk hσ ?_
 intro t00 (ht00 : t00 = decide (((jI : Nat) : Int) < ((lH.length : Nat) : Int)))
 cases t00
 obtain rfl := ll_nil hremO ht00
 rw [f1076_L2] at h
 conv => whnf
 exact ⟨ss h, rfl⟩
 obtain ⟨v2E, tl0J, rfl, hx0Q, htl0J⟩ := ll_cons hremO ht00
 rw [f1076_L2] at h
 conv => whnf
 refine ⟨lx_bd hx0Q, fun uu0V huu0V => ?_⟩
 obtain rfl := lx_eq hx0Q huu0V
 obtain ⟨R0K, h, a0K, b0K⟩ := sc h
 refine kX (fun σ => ∃ v01 v02 s03 l04, R0K (.inr (v01, v02, s03, l04)) ∧ σ = ⟨[pT 5, pT 6, pT 13, (17, iD ((jI : Nat) : Int)), (18, iD v2E), pT 19, (106, .c (.isl .int lH)), (107, iD ((lH.length : Nat) : Int)), (108, iD ((jI : Nat) : Int))], [eV (.s 5) [ci v8, ci v9, .str sA, .isl .fld l5], eV (.s 6) [ci vB, ci vC, .str sG, .isl .fld l6], eV (.s 13) [ci vK, ci vM, .str sN, .isl .fld lJ], eV (.s 19) [ci v01, ci v02, .str s03, .isl .fld l04]]⟩) ?_ ?_
 refine kg (sat_getL h) fun uu0W huu0W h => ?_
 obtain ⟨a2X, ⟨k2Y, n2Z, s30, f31⟩⟩ := uu0W
 refine kg (sat_getL h) fun uu0X huu0X h => ?_
 obtain ⟨a32, ⟨k33, n34, s35, f36⟩⟩ := uu0X
 refine kL [] (h30 _ _ _ _ ?_ (sb h))
 rintro k2F n2G s2H f2I h
 conv => whnf
 exact ⟨k2F, n2G, s2H, f2I, ss h, rfl⟩
 rintro _ ⟨v01, v02, s03, l04, h, rfl⟩
 replace h := b0K _ h
 obtain ⟨R0L, h, a0L, b0L⟩ := sc h
 refine kX (fun σ => ∃ v0R v0S s0T l0U, R0L (.inr (v0R, v0S, s0T, l0U)) ∧ σ = ⟨[pT 5, pT 6, pT 13, (17, iD ((jI : Nat) : Int)), pT 19, (106, .c (.isl .int lH)), (107, iD ((lH.length : Nat) : Int)), (108, iD ((jI : Nat) : Int))], [eV (.s 5) [ci v8, ci v9, .str sA, .isl .fld l5], eV (.s 6) [ci vB, ci vC, .str sG, .isl .fld l6], eV (.s 13) [ci vK, ci vM, .str sN, .isl .fld lJ], eV (.s 19) [ci v0R, ci v0S, .str s0T, .isl .fld l0U]]⟩) ?_ ?_
 refine kc h ?_ ?_ <;> intro h
 conv => whnf
 exact ⟨v01, v02, s03, l04, ss h, rfl⟩
 intro hl37
 refine kc h ?_ ?_ <;> intro h
 conv => whnf
 exact ⟨v01, v02, s03, l04, ss h, rfl⟩
 refine kg (sat_getL h) fun uu0Y huu0Y h => ?_
 obtain ⟨a38, ⟨k2J, n2K, s2L, f2M⟩⟩ := uu0Y
 conv => whnf
 exact ⟨k2J, n2K, s2L, f2M, ss h, rfl⟩
 rintro _ ⟨v0R, v0S, s0T, l0U, h, rfl⟩
 replace h := b0L _ h
 refine kg (sat_getL h) fun uu0Z huu0Z h => ?_
 obtain ⟨a39, ⟨k3A, n3B, s3C, f3D⟩⟩ := uu0Z
 refine kL [] (h11 _ _ _ _ _ _ _ _ _ _ ?_ (sb h))
 rintro q2N h
 cases q2N
 replace h := cf h
 replace h := sat_lft aQ h
 exact kR [] (ND 0) (hQ _ (ss h))
 replace h := ct h
 conv => whnf
 exact ⟨tl0J.length, nls, tl0J, jI + 1, _, rfl, htl0J, lx_wr hx0Q hl2D, h, rfl⟩
 rintro _ ⟨h, rfl⟩
 replace h := bQ _ h
 exact kR [] (ND 0) (hQ _ (ss h))
 exact kR [] (ND 0) (hQ _ (ss h))
 exact kR [] (ND 0) (hQ _ (ss h))
 exact kR [] (ND 0) (hQ _ (ss h))
 exact kR [] (ND 0) (hQ _ (ss h))
 exact kR [] (ND 0) (hQ _ (ss h))
 exact kR [] (ND 0) (hQ _ (ss h))
 exact kR [] (ND 0) (hQ _ (ss h))
end Go.Clap
