/- The checks of the small code against the loaded functions. -/
import Derived.Test.YtnjgakngmbbmfaaGreatDoorClapA7
set_option linter.unusedVariables false
set_option linter.unusedSimpArgs false
set_option maxHeartbeats 4000000
set_option maxRecDepth 100000
namespace Go.Clap
open Go.IntKind (wrap)
def f1006_quote_L2 (s1 : BA) : Nat → Int → LI → Option (Sum (BA) (LI))
 | 0, v78, l82 => some (.inr l82)
 | g80 + 1, v78, l82 => getB s1 v78 fun c85 => cond (decide ((c85.toNat : Int) < 33)) (getB (⟨#[48, 49, 50, 51, 52, 53, 54, 55, 56, 57, 97, 98, 99, 100, 101, 102]⟩ : BA) (bShr .u8 (c85.toNat : Int) 4) fun c100 => getB (⟨#[48, 49, 50, 51, 52, 53, 54, 55, 56, 57, 97, 98, 99, 100, 101, 102]⟩ : BA) (bAnd .u8 (c85.toNat : Int) 15) fun c101 => grdP (l82.length + ([92, (c100.toNat : Int), (c101.toNat : Int)] : LI).length ≤ 68719476736) (f1006_quote_L2 s1 g80 (v78 + 1) (l82 ++ ([92, (c100.toNat : Int), (c101.toNat : Int)] : LI)))) (cond (decide ((c85.toNat : Int) > 126)) (getB (⟨#[48, 49, 50, 51, 52, 53, 54, 55, 56, 57, 97, 98, 99, 100, 101, 102]⟩ : BA) (bShr .u8 (c85.toNat : Int) 4) fun c97 => getB (⟨#[48, 49, 50, 51, 52, 53, 54, 55, 56, 57, 97, 98, 99, 100, 101, 102]⟩ : BA) (bAnd .u8 (c85.toNat : Int) 15) fun c98 => grdP (l82.length + ([92, (c97.toNat : Int), (c98.toNat : Int)] : LI).length ≤ 68719476736) (f1006_quote_L2 s1 g80 (v78 + 1) (l82 ++ ([92, (c97.toNat : Int), (c98.toNat : Int)] : LI)))) (cond ((c85.toNat : Int) == 34) (getB (⟨#[48, 49, 50, 51, 52, 53, 54, 55, 56, 57, 97, 98, 99, 100, 101, 102]⟩ : BA) (bShr .u8 (c85.toNat : Int) 4) fun c94 => getB (⟨#[48, 49, 50, 51, 52, 53, 54, 55, 56, 57, 97, 98, 99, 100, 101, 102]⟩ : BA) (bAnd .u8 (c85.toNat : Int) 15) fun c95 => grdP (l82.length + ([92, (c94.toNat : Int), (c95.toNat : Int)] : LI).length ≤ 68719476736) (f1006_quote_L2 s1 g80 (v78 + 1) (l82 ++ ([92, (c94.toNat : Int), (c95.toNat : Int)] : LI)))) (cond ((c85.toNat : Int) == 92) (getB (⟨#[48, 49, 50, 51, 52, 53, 54, 55, 56, 57, 97, 98, 99, 100, 101, 102]⟩ : BA) (bShr .u8 (c85.toNat : Int) 4) fun c91 => getB (⟨#[48, 49, 50, 51, 52, 53, 54, 55, 56, 57, 97, 98, 99, 100, 101, 102]⟩ : BA) (bAnd .u8 (c85.toNat : Int) 15) fun c92 => grdP (l82.length + ([92, (c91.toNat : Int), (c92.toNat : Int)] : LI).length ≤ 68719476736) (f1006_quote_L2 s1 g80 (v78 + 1) (l82 ++ ([92, (c91.toNat : Int), (c92.toNat : Int)] : LI)))) (grdP (l82.length + ([(c85.toNat : Int)] : LI).length ≤ 68719476736) (f1006_quote_L2 s1 g80 (v78 + 1) (l82 ++ ([(c85.toNat : Int)] : LI)))))))
def f1006_quote : BA → Option (BA)
 | s1 => sbind (ο := LI) (grdP ((s1.size : Int) ≤ 9223372036854775807) (f1006_quote_L2 s1 ((s1.size : Int) - 0).toNat 0 ([34] : LI))) (fun l51 => grdP (l51.length + ([34] : LI).length ≤ 68719476736) (some (strOfNums (l51 ++ ([34] : LI)))))
def C1006_quote (O : Oracle TT) (m : BA → Option (BA)) : Prop :=
 ∀ (s1 : BA) (Q : BA → Prop) (R : RR) (_ : ∀ (s104 : BA), Q s104 → R (sD s104) []) (_ : sat (m s1) Q), O 1006 [sD s1] [] R
def j1006_quote : Fn TT := ⟨47, [.t 2], (.seq (.reg [qo 2 (.mv sE)]) (.seq (.reg [qo 6 (.bslice 6 .u8 [(.c (.int .u8 34))]),qo 3 (.mv 6)]) (.cut [3] [(.sub (.sub (.s 3) 600) 0)] (.seq (.reg [qo 7 (.mv 0),qo 8 (.len true 7),qo 9 (.mv (iC 0))]) (.block 0 (.pre [.own 3 0 .u8 (.sub (.sub (.s 3) 600) 0)] (.loop (.keep [0, 3, 8, 9] [(.sub (.sub (.s 3) 600) 0)] (.aft (.seq
 (.reg [qo 10 (.bin .lss .num 9 8)]) (.seq (.cond 10 .skip (.exit 0)) (.seq (.block 1 (.seq (.reg [qo 11 (.mv 9),qo 4 (.mv 11)]) (.seq (.reg [qo 12 (.mv 0),qo 13 (.mv 4),qo 14 (.idxS 12 13),qo 5 (.mv 14)]) (.seq (.reg [qo 15 (.mv 5),qo 16 (.bin .lss .num 15 (.c (.int .u8 33))),qo 17 (.mv 16),qf 17 18 (.mv 5),qf 17 19 (.bin .gtr .num 18 (.c (.int .u8 126))),qo 20 (.pick 17 bT 19),
 qo 21 (.mv 20),qf 21 22 (.mv 5),qf 21 23 (.bin .eql .num 22 (.c (.int .u8 34))),qo 24 (.pick 21 bT 23),qo 25 (.mv 24),qf 25 26 (.mv 5),qf 25 27 (.bin .eql .num 26 (.c (.int .u8 92))),qo 28 (.pick 25 bT 27)]) (.cond 28 (.drw [(.s 6), (.sub (.sub (.s 3) 600) 0)] (oR 10) [] [0, 1, 2, 3, 4, 5, 6, 9] [qo 29 (.mv 3),qo 30 (.mv 5),qo 31 (.bin .shr .num 30 (.c (.int .u64 4))),
 qo 32 (.idxS (.c (.str (⟨#[48, 49, 50, 51, 52, 53, 54, 55, 56, 57, 97, 98, 99, 100, 101, 102]⟩ : BA))) 31),qo 33 (.mv 5),qo 34 (.bin .and .num 33 (.c (.int .u8 15))),qo 35 (.idxS (.c (.str (⟨#[48, 49, 50, 51, 52, 53, 54, 55, 56, 57, 97, 98, 99, 100, 101, 102]⟩ : BA))) 34),qo 36 (.bsl .u8 [(.c (.int .u8 92)), 32, 35]),qo 37 (.app 37 .u8 68719476736 29 36),qo 3 (.mv 37)])
 (.reg [qo 38 (.mv 3),qo 39 (.mv 5),qo 40 (.bsl .u8 [39]),qo 41 (.app 41 .u8 68719476736 38 40),qo 3 (.mv 41)])))))) (.reg [qo 42 (.bin .add .num 9 (iC 1)),qo 9 (.mv 42)])))) [.keep [0, 3, 8, 9] [(.s 41), (.s 37)], .own 3 0 .u8 (.sub (.sub (.s 3) 600) 0)])))))) (.seq (.reg [qo 43 (.mv 3),qo 44 (.bsl .u8 [(.c (.int .u8 34))]),qo 45 (.app 45 .u8 68719476736 43 44),qo 46 (.b2s 45),
 qo 2 (.mv 46)]) .ret))))⟩
theorem w1006_quote {O : Oracle TT} : C1006_quote (fun _ => vcF (S := SS) O j1006_quote) f1006_quote := by
 intro s1 Q R hQ h
 unfold f1006_quote at h
 refine ⟨nle rfl, rfl, ?_⟩
 obtain ⟨R53, h, hlR53, hrR53⟩ := sat_sbind h
 refine kX (fun σ => ∃ (l51 : LI) (n52 : Nat), n52 = l51.length ∧ R53 (.inr l51) ∧ σ = ⟨[(3, .c (.osl (.sub (.sub (.s 3) 600) 0) 0 n52))], [(.sub (.sub (.s 3) 600) 0, some (.row false .u8 l51))]⟩) ?_ ?_
 obtain ⟨hN81, h⟩ := sat_grdP h
 refine kX (fun σ n => ∃ (f79 : Nat) (v78 : Int) (z : Int) (l82 : LI) (n83 : Nat), f79 = n ∧ f79 = ((s1.size : Int) - v78).toNat ∧ 0 ≤ v78 ∧ v78 = z ∧ n83 = l82.length ∧ sat (f1006_quote_L2 s1 f79 v78 l82) R53 ∧ σ.keep [0, 3, 8, 9] [(.sub (.sub (.s 3) 600) 0)] = ⟨[(0, sD s1), (3, .c (.osl (.sub (.sub (.s 3) 600) 0) 0 n83)), (8, iD (s1.size : Int)), (9, iD z)], [(.sub (.sub (.s 3) 600) 0, some (.row false .u8 l82))]⟩) ⟨_, _, 0, _, ([34] : LI), _, rfl, rfl, (by decide), rfl, LN, h, rfl⟩ ?_
 rintro σ n ⟨f79, v78, _, l82, _, rfl, hf79, hpf79, rfl, rfl, h, hσ⟩
 refine kk hσ ?_
 intro t84 (ht84 : t84 = decide (v78 < (s1.size : Int)))
 cases t84
 obtain rfl := il_nil hf79 ht84
 rw [f1006_quote_L2] at h
 conv => whnf
 exact ⟨l82, _, LN, sat_some h, rfl⟩
 obtain ⟨g80, rfl, hwg80, hpg80, hfg80⟩ := il_cons hf79 hpf79 ht84 hN81
 rw [f1006_quote_L2] at h
 refine kg (sat_getB h) fun c85 hc85 h => ?_
 refine kc h (fun h => ?_) fun h => ?_
 refine kc h (fun h => ?_) fun h => ?_
 refine kc h (fun h => ?_) fun h => ?_
 refine kc h (fun h => ?_) fun h => ?_
 conv => whnf
 refine ⟨LN, rfl, ?_⟩
 conv => whnf
 refine ⟨rfl, ?_⟩
 refine kp h fun hb90 h => ?_
 conv => whnf
 exact ⟨g80, nls, g80, v78 + 1, _, (l82 ++ ([(c85.toNat : Int)] : LI)), _, rfl, hfg80, hpg80, hwg80.symm, LN, h, rfl⟩
 conv => whnf
 refine ⟨by decide, ?_⟩
 refine kg (sat_getB h) fun c91 hc91 h => ?_
 refine kg (sat_getB h) fun c92 hc92 h => ?_
 conv => whnf
 refine ⟨LN, rfl, ?_⟩
 conv => whnf
 refine ⟨rfl, ?_⟩
 refine kp h fun hb93 h => ?_
 conv => whnf
 exact ⟨g80, nls, g80, v78 + 1, _, (l82 ++ ([92, (c91.toNat : Int), (c92.toNat : Int)] : LI)), _, rfl, hfg80, hpg80, hwg80.symm, LN, h, rfl⟩
 conv => whnf
 refine ⟨by decide, ?_⟩
 refine kg (sat_getB h) fun c94 hc94 h => ?_
 refine kg (sat_getB h) fun c95 hc95 h => ?_
 conv => whnf
 refine ⟨LN, rfl, ?_⟩
 conv => whnf
 refine ⟨rfl, ?_⟩
 refine kp h fun hb96 h => ?_
 conv => whnf
 exact ⟨g80, nls, g80, v78 + 1, _, (l82 ++ ([92, (c94.toNat : Int), (c95.toNat : Int)] : LI)), _, rfl, hfg80, hpg80, hwg80.symm, LN, h, rfl⟩
 conv => whnf
 refine ⟨by decide, ?_⟩
 refine kg (sat_getB h) fun c97 hc97 h => ?_
 refine kg (sat_getB h) fun c98 hc98 h => ?_
 conv => whnf
 refine ⟨LN, rfl, ?_⟩
 conv => whnf
 refine ⟨rfl, ?_⟩
 refine kp h fun hb99 h => ?_
 conv => whnf
 exact ⟨g80, nls, g80, v78 + 1, _, (l82 ++ ([92, (c97.toNat : Int), (c98.toNat : Int)] : LI)), _, rfl, hfg80, hpg80, hwg80.symm, LN, h, rfl⟩
 conv => whnf
 refine ⟨by decide, ?_⟩
 refine kg (sat_getB h) fun c100 hc100 h => ?_
 refine kg (sat_getB h) fun c101 hc101 h => ?_
 conv => whnf
 refine ⟨LN, rfl, ?_⟩
 conv => whnf
 refine ⟨rfl, ?_⟩
 refine kp h fun hb102 h => ?_
 conv => whnf
 exact ⟨g80, nls, g80, v78 + 1, _, (l82 ++ ([92, (c100.toNat : Int), (c101.toNat : Int)] : LI)), _, rfl, hfg80, hpg80, hwg80.symm, LN, h, rfl⟩
 rintro _ ⟨l51, _, rfl, h, rfl⟩
 replace h := hrR53 _ h
 conv => whnf
 refine ⟨LN, rfl, ?_⟩
 conv => whnf
 refine ⟨rfl, ?_⟩
 refine kp h fun hb103 h => ?_
 conv => whnf
 refine ⟨LN, (l51 ++ ([34] : LI)), rfl, ?_⟩
 exact kR [] (ND 0) (hQ _ (sat_some h))
theorem c1006_quote {P : Program} {fid : Nat → FuncId} (mx : MX P) (k1006_quote : KF P fid 1006 j1006_quote) : C1006_quote (SP P fid) f1006_quote :=
 fun a0 Q R hQ h => spec_of_vc mx k1006_quote (w1006_quote a0 Q R hQ h)
def f1007_unquote_L2 (s1 : BA) : Nat → LI → Int → Option (Sum (BA × Bool) (LI))
 | 0, _, _ => none
 | g63 + 1, l65, v66 => cond (decide (v66 < ((s1.extract ((1 : Int).toNat) ((wrap .i64 ((s1.size : Int) - 1)).toNat)).size : Int))) (getB (s1.extract ((1 : Int).toNat) ((wrap .i64 ((s1.size : Int) - 1)).toNat)) v66 fun c69 => cond ((c69.toNat : Int) != 92) (getB (s1.extract ((1 : Int).toNat) ((wrap .i64 ((s1.size : Int) - 1)).toNat)) v66 fun c79 => grdP (l65.length + ([(c79.toNat : Int)] : LI).length ≤ 68719476736) (f1007_unquote_L2 s1 g63 (l65 ++ ([(c79.toNat : Int)] : LI)) (wrap .i64 (v66 + 1)))) (cond (decide ((wrap .i64 (v66 + 2)) ≥ ((s1.extract ((1 : Int).toNat) ((wrap .i64 ((s1.size : Int) - 1)).toNat)).size : Int))) (lft (some ((⟨#[]⟩ : BA), false))) (getB (s1.extract ((1 : Int).toNat) ((wrap .i64 ((s1.size : Int) - 1)).toNat)) (wrap .i64 (v66 + 1)) fun c72 => getB (s1.extract ((1 : Int).toNat) ((wrap .i64 ((s1.size : Int) - 1)).toNat)) (wrap .i64 (v66 + 2)) fun c73 => (f91_IndexByte (⟨#[48, 49, 50, 51, 52, 53, 54, 55, 56, 57, 97, 98, 99, 100, 101, 102]⟩ : BA) (c72.toNat : Int)).bind fun v74 => (f91_IndexByte (⟨#[48, 49, 50, 51, 52, 53, 54, 55, 56, 57, 97, 98, 99, 100, 101, 102]⟩ : BA) (c73.toNat : Int)).bind fun v75 => cond (decide (v74 < 0)) (lft (some ((⟨#[]⟩ : BA), false))) (cond (decide (v75 < 0)) (lft (some ((⟨#[]⟩ : BA), false))) (grdP (l65.length + ([(wrap .u8 (wrap .i64 ((wrap .i64 ((16 : Int) * v74)) + v75)))] : LI).length ≤ 68719476736) (f1007_unquote_L2 s1 g63 (l65 ++ ([(wrap .u8 (wrap .i64 ((wrap .i64 ((16 : Int) * v74)) + v75)))] : LI)) (wrap .i64 ((wrap .i64 (v66 + 2)) + 1)))))))) (some (.inr l65))
def f1007_unquote (fuel : Nat) : BA → Option (BA × Bool)
 | s1 => cond (decide ((s1.size : Int) < 2)) (some ((⟨#[]⟩ : BA), false)) (getB s1 0 fun c3 => cond ((c3.toNat : Int) != 34) (some ((⟨#[]⟩ : BA), false)) (getB s1 (wrap .i64 ((s1.size : Int) - 1)) fun c5 => cond ((c5.toNat : Int) != 34) (some ((⟨#[]⟩ : BA), false)) (grdP ((0 : Int) ≤ (wrap .i64 ((s1.size : Int) - 1)) ∧ (0 : Int) ≤ 1 ∧ (1 : Int).toNat ≤ (wrap .i64 ((s1.size : Int) - 1)).toNat ∧ (wrap .i64 ((s1.size : Int) - 1)).toNat ≤ s1.size) (sbind (ο := LI) (f1007_unquote_L2 s1 fuel [] (0 : Int)) (fun l44 => sbind (ο := Bool) (grdP ((((⟨#[34]⟩ : BA).size + (s1.extract ((1 : Int).toNat) ((wrap .i64 ((s1.size : Int) - 1)).toNat)).size : Nat) : Int) ≤ 9223372036854775807) (grdP (((((⟨#[34]⟩ : BA) ++ (s1.extract ((1 : Int).toNat) ((wrap .i64 ((s1.size : Int) - 1)).toNat))).size + (⟨#[34]⟩ : BA).size : Nat) : Int) ≤ 9223372036854775807) ((f1006_quote (strOfNums l44)).bind fun s93 => cond (s93.toList == (((⟨#[34]⟩ : BA) ++ (s1.extract ((1 : Int).toNat) ((wrap .i64 ((s1.size : Int) - 1)).toNat))) ++ (⟨#[34]⟩ : BA)).toList) (some (.inr true)) (some (.inr false))))) (fun q89 => some ((strOfNums l44), q89)))))))
def C1007_unquote (O : Oracle TT) (m : BA → Option (BA × Bool)) : Prop :=
 ∀ (s1 : BA) (Q : (BA × Bool) → Prop) (R : RR) (_ : ∀ (s99 : BA) (q100 : Bool), Q (s99, q100) → R (.tup [sD s99, bD q100]) []) (_ : sat (m s1) Q), O 1007 [sD s1] [] R
def j1007_unquote : Fn TT := ⟨85, [.t 2, .t 3], (.seq (.reg [qo 2 (.mv sE),qo 3 (.mv bF)]) (.seq (.seq (.reg [qo 8 (.mv 0),qo 9 (.len true 8),qo 10 (.bin .lss .num 9 (iC 2)),qo 11 (.mv 10),qf 11 12 (.mv 0),qf 11 13 (.idxS 12 (iC 0)),qf 11 14 (.bin .neq .num 13 (.c (.int .u8 34))),qo 15 (.pick 11 bT 14),qo 16 (.mv 15),qf 16 17 (.mv 0),qf 16 18 (.mv 0),qf 16 19 (.len true 18),
 qf 16 20 (.bin .sub .num 19 (iC 1)),qf 16 21 (.idxS 17 20),qf 16 22 (.bin .neq .num 21 (.c (.int .u8 34))),qo 23 (.pick 16 bT 22)]) (.cond 23 (.seq (.reg [qo 2 (.mv sE),qo 3 (.mv bF)]) .ret) .skip)) (.seq (.reg [qo 24 (.mv 0),qo 25 (.mv 0),qo 26 (.len true 25),qo 27 (.bin .sub .num 26 (iC 1)),qo 28 (.slc 0 24 (some (iC 1)) (some 27)),qo 0 (.mv 28)]) (.seq (.reg [qo 4 (.mv (.c (.nils)))])
 (.cut [0, 4] [(.sub (.sub (.s 4) 600) 0)] (.seq (.reg [qo 5 (.mv (iC 0))]) (.block 0 (.pre [.own 4 0 .u8 (.sub (.sub (.s 4) 600) 0)] (.loop (.keep [0, 4, 5] [(.sub (.sub (.s 4) 600) 0)] (.aft (.seq (.seq (.reg [qo 29 (.mv 5),qo 30 (.mv 0),qo 31 (.len true 30),qo 32 (.bin .lss .num 29 31)]) (.cond 32 .skip (.exit 0))) (.seq (.block 1 (.seq (.seq (.reg [qo 35 (.mv 0),qo 36 (.mv 5),
 qo 37 (.idxS 35 36),qo 38 (.bin .neq .num 37 (.c (.int .u8 92)))]) (.cond 38 (.seq (.reg [qo 39 (.mv 4),qo 40 (.mv 0),qo 41 (.mv 5),qo 42 (.idxS 40 41),qo 43 (.bsl .u8 [42]),qo 44 (.app 44 .u8 68719476736 39 43),qo 4 (.mv 44)]) (.exit 1)) .skip)) (.seq (.seq (.reg [qo 45 (.mv 5),qo 46 (.bin .add .num 45 (iC 2)),qo 47 (.mv 0),qo 48 (.len true 47),qo 49 (.bin .geq .num 46 48)]) (.cond 49
 (.seq (.reg [qo 2 (.mv sE),qo 3 (.mv bF)]) .ret) .skip)) (.seq (.drw [] (ol [0, 1, 2, 3, 5, 6, 7, 8, 4, 9, 10, 11]) [] [0, 1, 2, 3, 5, 6, 7, 8, 10, 11] [qo 50 (.mv 0),qo 51 (.mv 5),qo 52 (.bin .add .num 51 (iC 1)),qo 53 (.idxS 50 52),qo 54 (.call 54 91 [(.c (.str (⟨#[48, 49, 50, 51, 52, 53, 54, 55, 56, 57, 97, 98, 99, 100, 101, 102]⟩ : BA))), 53]),qo 55 (.mv 0),qo 56 (.mv 5),
 qo 57 (.bin .add .num 56 (iC 2)),qo 58 (.idxS 55 57),qo 59 (.call 59 91 [(.c (.str (⟨#[48, 49, 50, 51, 52, 53, 54, 55, 56, 57, 97, 98, 99, 100, 101, 102]⟩ : BA))), 58]),qo 6 (.mv 54),qo 7 (.mv 59)]) (.seq (.seq (.reg [qo 60 (.mv 6),qo 61 (.bin .lss .num 60 (iC 0)),qo 62 (.mv 61),qf 62 63 (.mv 7),qf 62 64 (.bin .lss .num 63 (iC 0)),qo 65 (.pick 62 bT 64)]) (.cond 65 (.seq
 (.reg [qo 2 (.mv sE),qo 3 (.mv bF)]) .ret) .skip)) (.seq (.reg [qo 66 (.mv 4),qo 67 (.mv 6),qo 68 (.bin .mul .num (iC 16) 67),qo 69 (.mv 7),qo 70 (.bin .add .num 68 69),qo 71 (.conv .u8 70),qo 72 (.bsl .u8 [71]),qo 73 (.app 73 .u8 68719476736 66 72),qo 4 (.mv 73)]) (.reg [qo 74 (.mv 5),qo 75 (.bin .add .num 74 (iC 2)),qo 5 (.mv 75)]))))))) (.reg [qo 33 (.mv 5),
 qo 34 (.bin .add .num 33 (iC 1)),qo 5 (.mv 34)]))) [.keep [0, 4, 5] [(.s 73), (.s 44)], .own 4 0 .u8 (.sub (.sub (.s 4) 600) 0)])))))) (.cut [2, 3] [] (.pre [.frz 4 0 .u8]
 (.drw [] (.go 0 (.go 2 (.go 5 (.go 6 (.go 7 (.alt 1 (.go 3 (.go 4 (.go 8 (.go 9 (.go 10 .nil))))) 3 (.alt 1 (.go 4 (.go 8 (.go 9 (.go 10 .nil)))) 4 (.go 8 (.go 1 (.go 9 (.go 10 .nil))))))))))) [] [0, 2, 5, 6, 7, 8, 9, 10] [qo 76 (.mv 4),qo 77 (.b2s 76),qo 78 (.mv 4),qo 79 (.b2s 78),qo 80 (.call 80 1006 [79]),qo 81 (.mv 0),qo 82 (.bin .add .str (.c (.str (⟨#[34]⟩ : BA))) 81),
 qo 83 (.bin .add .str 82 (.c (.str (⟨#[34]⟩ : BA)))),qo 84 (.bin .eql .str 80 83),qo 2 (.mv 77),qo 3 (.mv 84)])) .ret))))))⟩
theorem w1007_unquote {O : Oracle TT} (fuel : Nat) (h91_IndexByte : C91_IndexByte O f91_IndexByte) (h1006_quote : C1006_quote O f1006_quote) : C1007_unquote (fun _ => vcF (S := SS) O j1007_unquote) (f1007_unquote fuel) := by
 intro s1 Q R hQ h
 unfold f1007_unquote at h
 refine ⟨nle rfl, rfl, ?_⟩
 refine kc h (fun h => ?_) fun h => ?_
 refine kg (sat_getB h) fun c3 hc3 h => ?_
 refine kc h (fun h => ?_) fun h => ?_
 refine kg (sat_getB h) fun c5 hc5 h => ?_
 refine kc h (fun h => ?_) fun h => ?_
 conv => whnf
 obtain ⟨⟨hb7, hb8, hb9⟩, h⟩ := sat_grdP h
 refine ⟨hb7, ?_⟩
 conv => whnf
 refine ⟨hb8, ?_⟩
 conv => whnf
 refine ⟨hb9, ?_⟩
 obtain ⟨R46, h, hlR46, hrR46⟩ := sat_sbind h
 refine kX (fun σ => ∃ (l44 : LI) (n45 : Nat), n45 = l44.length ∧ R46 (.inr l44) ∧ σ = ⟨[(0, sD (s1.extract ((1 : Int).toNat) ((wrap .i64 ((s1.size : Int) - 1)).toNat))), (4, .c (.osl (.sub (.sub (.s 4) 600) 0) 0 n45))], [(.sub (.sub (.s 4) 600) 0, some (.row false .u8 l44))]⟩) ?_ ?_
 refine kX (fun σ n => ∃ (f64 : Nat) (l65 : LI) (v66 : Int) (n67 : Nat), f64 = n ∧ n67 = l65.length ∧ sat (f1007_unquote_L2 s1 f64 l65 v66) R46 ∧ σ.keep [0, 4, 5] [(.sub (.sub (.s 4) 600) 0)] = ⟨[(0, sD (s1.extract ((1 : Int).toNat) ((wrap .i64 ((s1.size : Int) - 1)).toNat))), (4, .c (.osl (.sub (.sub (.s 4) 600) 0) 0 n67)), (5, iD v66)], [(.sub (.sub (.s 4) 600) 0, some (.row false .u8 l65))]⟩) ⟨_, _, [], (0 : Int), _, rfl, LN, h, rfl⟩ ?_
 rintro σ n ⟨f64, l65, v66, _, rfl, rfl, h, hσ⟩
 refine kk hσ ?_
 rcases f64 with _ | g63
 rw [f1007_unquote_L2] at h; exact nn h
 rw [f1007_unquote_L2] at h
 refine kc h (fun h => ?_) fun h => ?_
 conv => whnf
 exact ⟨l65, _, LN, sat_some h, rfl⟩
 refine kg (sat_getB h) fun c69 hc69 h => ?_
 refine kc h (fun h => ?_) fun h => ?_
 refine kc h (fun h => ?_) fun h => ?_
 refine kg (sat_getB h) fun c72 hc72 h => ?_
 refine kg (sat_getB h) fun c73 hc73 h => ?_
 refine kL [] (h91_IndexByte _ _ _ _ ?_ (sat_bind h))
 rintro v74 h
 refine kL [] (h91_IndexByte _ _ _ _ ?_ (sat_bind h))
 rintro v75 h
 refine kc h (fun h => ?_) fun h => ?_
 refine kc h (fun h => ?_) fun h => ?_
 conv => whnf
 refine ⟨LN, rfl, ?_⟩
 conv => whnf
 refine ⟨rfl, ?_⟩
 refine kp h fun hb78 h => ?_
 conv => whnf
 exact ⟨g63, nls, g63, (l65 ++ ([(wrap .u8 (wrap .i64 ((wrap .i64 ((16 : Int) * v74)) + v75)))] : LI)), (wrap .i64 ((wrap .i64 (v66 + 2)) + 1)), _, rfl, LN, h, rfl⟩
 replace h := sat_lft hlR46 h
 exact kR [] (ND 0) (hQ _ _ (sat_some h))
 replace h := sat_lft hlR46 h
 exact kR [] (ND 0) (hQ _ _ (sat_some h))
 replace h := sat_lft hlR46 h
 exact kR [] (ND 0) (hQ _ _ (sat_some h))
 refine kg (sat_getB h) fun c79 hc79 h => ?_
 conv => whnf
 refine ⟨LN, rfl, ?_⟩
 conv => whnf
 refine ⟨rfl, ?_⟩
 refine kp h fun hb80 h => ?_
 conv => whnf
 exact ⟨g63, nls, g63, (l65 ++ ([(c79.toNat : Int)] : LI)), (wrap .i64 (v66 + 1)), _, rfl, LN, h, rfl⟩
 rintro _ ⟨l44, _, rfl, h, rfl⟩
 replace h := hrR46 _ h
 obtain ⟨R90, h, hlR90, hrR90⟩ := sat_sbind h
 refine kX (fun σ => ∃ (q89 : Bool), R90 (.inr q89) ∧ σ = ⟨[(2, sD (strOfNums l44)), (3, bD q89)], []⟩) ?_ ?_
 conv => whnf
 refine ⟨LN, ?_⟩
 refine kp h fun hb91 h => ?_
 refine kp h fun hb92 h => ?_
 conv => whnf
 refine ⟨?_, ?_⟩
 conv => whnf
 refine ⟨l44, rfl, ?_⟩
 conv => whnf
 refine ⟨l44, rfl, ?_⟩
 refine kL [] (h1006_quote _ _ _ ?_ (sat_bind h))
 rintro s93 h
 refine kc h (fun h => ?_) fun h => ?_
 conv => whnf
 exact ⟨false, sat_some h, rfl⟩
 conv => whnf
 exact ⟨true, sat_some h, rfl⟩
 conv => whnf
 refine ⟨l44, rfl, ?_⟩
 conv => whnf
 refine ⟨?_, ?_⟩
 conv => whnf
 refine ⟨l44, rfl, ?_⟩
 refine kL [] (h1006_quote _ _ _ ?_ (sat_bind h))
 rintro s95 h
 refine kc h (fun h => ?_) fun h => ?_
 conv => whnf
 exact ⟨false, sat_some h, rfl⟩
 conv => whnf
 exact ⟨true, sat_some h, rfl⟩
 refine kL [] (h1006_quote _ _ _ ?_ (sat_bind h))
 rintro s97 h
 refine kc h (fun h => ?_) fun h => ?_
 conv => whnf
 refine ⟨l44, rfl, ?_⟩
 conv => whnf
 exact ⟨false, sat_some h, rfl⟩
 conv => whnf
 refine ⟨l44, rfl, ?_⟩
 conv => whnf
 exact ⟨true, sat_some h, rfl⟩
 rintro _ ⟨q89, h, rfl⟩
 replace h := hrR90 _ h
 exact kR [] (ND 0) (hQ _ _ (sat_some h))
 exact kR [] (ND 0) (hQ _ _ (sat_some h))
 exact kR [] (ND 0) (hQ _ _ (sat_some h))
 exact kR [] (ND 0) (hQ _ _ (sat_some h))
theorem c1007_unquote {P : Program} {fid : Nat → FuncId} (mx : MX P) (k1007_unquote : KF P fid 1007 j1007_unquote) (h91_IndexByte : C91_IndexByte (SP P fid) f91_IndexByte) (h1006_quote : C1006_quote (SP P fid) f1006_quote) : ∀ n, C1007_unquote (SP P fid) (f1007_unquote n) :=
 fun n => fun a0 Q R hQ h => spec_of_vc mx k1007_unquote (w1007_unquote n h91_IndexByte h1006_quote a0 Q R hQ h)
def f1016_Index : BA → BA → Option (Int)
 | s1, s2 => cond ((s2.size : Int) == 0) (some 0) (cond (s2.toList == s1.toList) (some 0) (cond ((s2.size : Int) == 1) (getB s2 0 fun c6 => (f114_IndexByte s1 (c6.toNat : Int)).bind fun v7 => some v7) (none)))
def C1016_Index (O : Oracle TT) (m : BA → BA → Option (Int)) : Prop :=
 ∀ (s1 : BA) (s2 : BA) (Q : Int → Prop) (R : RR) (_ : ∀ (v8 : Int), Q v8 → R (iD v8) []) (_ : sat (m s1 s2) Q), O 1016 [sD s1, sD s2] [] R
def j1016_Index : Fn TT := ⟨143, [.t 4], (.seq (.reg [qo 4 (.mv (iC 0))]) (.seq (.reg [qo 14 (.mv 1),qo 15 (.len true 14),qo 5 (.mv 15)]) (.seq (.block 0 (.seq (.reg [qo 17 (.mv 5),qo 18 (.bin .eql .num 17 (iC 0)),qo 19 (.mv 18),qf 19 20 (.mv 1),qf 19 21 (.mv 0),qf 19 22 (.bin .eql .str 20 21),qo 23 (.pick 19 bT 22),qo 16 (.mv 23)]) (.cond 16 (.seq (.reg [qo 4 (.mv (iC 0))]) .ret) (.seq
 (.reg [qo 25 (.mv 5),qo 26 (.bin .eql .num 25 (iC 1)),qo 24 (.mv 26)]) (.cond 24 (.seq (.reg [qo 27 (.mv 0),qo 28 (.mv 1),qo 29 (.idxS 28 (iC 0)),qo 30 (.call 30 114 [27, 29]),qo 4 (.mv 30)]) .ret) .dead))))) .dead)))⟩
theorem w1016_Index {O : Oracle TT} (h114_IndexByte : C114_IndexByte O f114_IndexByte) : C1016_Index (fun _ => vcF (S := SS) O j1016_Index) f1016_Index := by
 intro s1 s2 Q R hQ h
 unfold f1016_Index at h
 refine ⟨nle rfl, rfl, ?_⟩
 refine kc h (fun h => ?_) fun h => ?_
 refine kc h (fun h => ?_) fun h => ?_
 refine kc h (fun h => ?_) fun h => ?_
 exact (sat_none h).elim
 refine kg (sat_getB h) fun c6 hc6 h => ?_
 refine kL [] (h114_IndexByte _ _ _ _ ?_ (sat_bind h))
 rintro v7 h
 exact kR [] (ND 0) (hQ _ (sat_some h))
 exact kR [] (ND 0) (hQ _ (sat_some h))
 exact kR [] (ND 0) (hQ _ (sat_some h))
theorem c1016_Index {P : Program} {fid : Nat → FuncId} (mx : MX P) (k1016_Index : KF P fid 1016 j1016_Index) (h114_IndexByte : C114_IndexByte (SP P fid) f114_IndexByte) : C1016_Index (SP P fid) f1016_Index :=
 fun a0 a1 Q R hQ h => spec_of_vc mx k1016_Index (w1016_Index h114_IndexByte a0 a1 Q R hQ h)
def f1015_Cut : BA → BA → Option (BA × BA × Bool)
 | s1, s2 => (f1016_Index s1 s2).bind fun v3 => cond (decide (v3 ≥ 0)) (grdP ((0 : Int) ≤ v3 ∧ 0 ≤ v3.toNat ∧ v3.toNat ≤ s1.size) (grdP ((0 : Int) ≤ (wrap .i64 (v3 + (s2.size : Int))) ∧ (wrap .i64 (v3 + (s2.size : Int))).toNat ≤ s1.size ∧ s1.size ≤ s1.size) (some ((s1.extract 0 v3.toNat), (s1.extract ((wrap .i64 (v3 + (s2.size : Int))).toNat) s1.size), true)))) (some (s1, (⟨#[]⟩ : BA), false))
def C1015_Cut (O : Oracle TT) (m : BA → BA → Option (BA × BA × Bool)) : Prop :=
 ∀ (s1 : BA) (s2 : BA) (Q : (BA × BA × Bool) → Prop) (R : RR) (_ : ∀ (s9 : BA) (s10 : BA) (q11 : Bool), Q (s9, s10, q11) → R (.tup [sD s9, sD s10, bD q11]) []) (_ : sat (m s1 s2) Q), O 1015 [sD s1, sD s2] [] R
def j1015_Cut : Fn TT := ⟨23, [.t 4, .t 5, .t 6], (.seq (.reg [qo 4 (.mv sE),qo 5 (.mv sE),qo 6 (.mv bF)]) (.seq (.seq (.reg [qo 8 (.mv 0),qo 9 (.mv 1),qo 10 (.call 10 1016 [8, 9]),qo 7 (.mv 10)]) (.seq (.reg [qo 11 (.mv 7),qo 12 (.bin .geq .num 11 (iC 0))]) (.cond 12 (.seq (.drw [] (oR 12) [] (List.range 12) [qo 13 (.mv 0),qo 14 (.mv 7),qo 15 (.slc 0 13 none (some 14)),qo 16 (.mv 0),
 qo 17 (.mv 7),qo 18 (.mv 1),qo 19 (.len true 18),qo 20 (.bin .add .num 17 19),qo 21 (.slc 0 16 (some 20) none),qo 4 (.mv 15),qo 5 (.mv 21),qo 6 (.mv bT)]) .ret) .skip))) (.seq (.reg [qo 22 (.mv 0),qo 4 (.mv 22),qo 5 (.mv sE),qo 6 (.mv bF)]) .ret)))⟩
theorem w1015_Cut {O : Oracle TT} (h1016_Index : C1016_Index O f1016_Index) : C1015_Cut (fun _ => vcF (S := SS) O j1015_Cut) f1015_Cut := by
 intro s1 s2 Q R hQ h
 unfold f1015_Cut at h
 refine ⟨nle rfl, rfl, ?_⟩
 refine kL [] (h1016_Index _ _ _ _ ?_ (sat_bind h))
 rintro v3 h
 refine kc h (fun h => ?_) fun h => ?_
 exact kR [] (ND 0) (hQ _ _ _ (sat_some h))
 conv => whnf
 obtain ⟨⟨hb5, hb6⟩, h⟩ := sat_grdP h
 refine ⟨hb5, ?_⟩
 conv => whnf
 refine ⟨hb6, ?_⟩
 conv => whnf
 obtain ⟨⟨hb7, hb8⟩, h⟩ := sat_grdP h
 refine ⟨hb7, ?_⟩
 conv => whnf
 refine ⟨hb8, ?_⟩
 exact kR [] (ND 0) (hQ _ _ _ (sat_some h))
theorem c1015_Cut {P : Program} {fid : Nat → FuncId} (mx : MX P) (k1015_Cut : KF P fid 1015 j1015_Cut) (h1016_Index : C1016_Index (SP P fid) f1016_Index) : C1015_Cut (SP P fid) f1015_Cut :=
 fun a0 a1 Q R hQ h => spec_of_vc mx k1015_Cut (w1015_Cut h1016_Index a0 a1 Q R hQ h)
def f1014_Cut : BA → BA → Option (BA × BA × Bool)
 | s1, s2 => (f1015_Cut s1 s2).bind fun (s3, s4, q5) => some (s3, s4, q5)
def C1014_Cut (O : Oracle TT) (m : BA → BA → Option (BA × BA × Bool)) : Prop :=
 ∀ (s1 : BA) (s2 : BA) (Q : (BA × BA × Bool) → Prop) (R : RR) (_ : ∀ (s6 : BA) (s7 : BA) (q8 : Bool), Q (s6, s7, q8) → R (.tup [sD s6, sD s7, bD q8]) []) (_ : sat (m s1 s2) Q), O 1014 [sD s1, sD s2] [] R
def j1014_Cut : Fn TT := ⟨13, [.t 4, .t 5, .t 6], (.seq (.reg [qo 4 (.mv sE),qo 5 (.mv sE),qo 6 (.mv bF)]) (.seq (.reg [qo 7 (.mv 0),qo 8 (.mv 1),qo 9 (.call 9 1015 [7, 8]),qo 10 (.ext 9 0),qo 11 (.ext 9 1),qo 12 (.ext 9 2),qo 4 (.mv 10),qo 5 (.mv 11),qo 6 (.mv 12)]) .ret))⟩
theorem w1014_Cut {O : Oracle TT} (h1015_Cut : C1015_Cut O f1015_Cut) : C1014_Cut (fun _ => vcF (S := SS) O j1014_Cut) f1014_Cut := by
 intro s1 s2 Q R hQ h
 unfold f1014_Cut at h
 refine ⟨nle rfl, rfl, ?_⟩
 refine kL [] (h1015_Cut _ _ _ _ ?_ (sat_bind h))
 rintro s3 s4 q5 h
 exact kR [] (ND 0) (hQ _ _ _ (sat_some h))
theorem c1014_Cut {P : Program} {fid : Nat → FuncId} (mx : MX P) (k1014_Cut : KF P fid 1014 j1014_Cut) (h1015_Cut : C1015_Cut (SP P fid) f1015_Cut) : C1014_Cut (SP P fid) f1014_Cut :=
 fun a0 a1 Q R hQ h => spec_of_vc mx k1014_Cut (w1014_Cut h1015_Cut a0 a1 Q R hQ h)
def f1082_lower : Int → Option (Int)
 | v1 => some (bOr .u8 v1 32)
def C1082_lower (O : Oracle TT) (m : Int → Option (Int)) : Prop :=
 ∀ (v1 : Int) (Q : Int → Prop) (R : RR) (_ : ∀ (v2 : Int), Q v2 → R (.c (.int .u8 v2)) []) (_ : sat (m v1) Q), O 1082 [.c (.int .u8 v1)] [] R
def j1082_lower : Fn TT := ⟨5, [.t 2], (.seq (.reg [qo 2 (.mv (.c (.int .u8 0)))]) (.seq (.reg [qo 3 (.mv 0),qo 4 (.bin .or .num 3 (.c (.int .u8 32))),qo 2 (.mv 4)]) .ret))⟩
theorem w1082_lower {O : Oracle TT} : C1082_lower (fun _ => vcF (S := SS) O j1082_lower) f1082_lower := by
 intro v1 Q R hQ h
 unfold f1082_lower at h
 refine ⟨nle rfl, rfl, ?_⟩
 exact kR [] (ND 0) (hQ _ (sat_some h))
theorem c1082_lower {P : Program} {fid : Nat → FuncId} (mx : MX P) (k1082_lower : KF P fid 1082 j1082_lower) : C1082_lower (SP P fid) f1082_lower :=
 fun a0 Q R hQ h => spec_of_vc mx k1082_lower (w1082_lower a0 Q R hQ h)
def f1081_ParseUint_L2 (v2 : Int) (v13 : Int) (v20 : Int) : LI → Nat → Int → Option (Sum (Int × (Option Int)) (Int))
 | [], j220, v224 => some (.inr v224)
 | c226 :: tl222, j220, v224 => sbind (ο := Int) (cond (c226 == 95) (cond (decide ((48 : Int) ≤ c226)) (cond (decide (c226 ≤ 57)) (some (.inr (wrap .u8 (c226 - 48)))) ((f1082_lower c226).bind fun v275 => cond (decide ((97 : Int) ≤ v275)) ((f1082_lower c226).bind fun v277 => cond (decide (v277 ≤ 122)) ((f1082_lower c226).bind fun v279 => some (.inr (wrap .u8 ((wrap .u8 (v279 - 97)) + 10)))) (lft (lft (some (0, (some (2 : Int))))))) (lft (lft (some (0, (some (2 : Int)))))))) ((f1082_lower c226).bind fun v269 => cond (decide ((97 : Int) ≤ v269)) ((f1082_lower c226).bind fun v271 => cond (decide (v271 ≤ 122)) ((f1082_lower c226).bind fun v273 => some (.inr (wrap .u8 ((wrap .u8 (v273 - 97)) + 10)))) (lft (lft (some (0, (some (2 : Int))))))) (lft (lft (some (0, (some (2 : Int)))))))) (cond (decide ((48 : Int) ≤ c226)) (cond (decide (c226 ≤ 57)) (some (.inr (wrap .u8 (c226 - 48)))) ((f1082_lower c226).bind fun v263 => cond (decide ((97 : Int) ≤ v263)) ((f1082_lower c226).bind fun v265 => cond (decide (v265 ≤ 122)) ((f1082_lower c226).bind fun v267 => some (.inr (wrap .u8 ((wrap .u8 (v267 - 97)) + 10)))) (lft (lft (some (0, (some (2 : Int))))))) (lft (lft (some (0, (some (2 : Int)))))))) ((f1082_lower c226).bind fun v257 => cond (decide ((97 : Int) ≤ v257)) ((f1082_lower c226).bind fun v259 => cond (decide (v259 ≤ 122)) ((f1082_lower c226).bind fun v261 => some (.inr (wrap .u8 ((wrap .u8 (v261 - 97)) + 10)))) (lft (lft (some (0, (some (2 : Int))))))) (lft (lft (some (0, (some (2 : Int))))))))) (fun v253 => cond (decide (v253 ≥ (wrap .u8 v2))) (lft (some (0, (some (2 : Int))))) (cond (decide (v224 ≥ v20)) (lft (some ((wrap .u64 ((bShl .u64 1 (wrap .u64 v13)) - 1)), (some (1 : Int))))) (cond (decide ((wrap .u64 ((wrap .u64 (v224 * (wrap .u64 v2))) + (wrap .u64 v253))) < (wrap .u64 (v224 * (wrap .u64 v2))))) (lft (some ((wrap .u64 ((bShl .u64 1 (wrap .u64 v13)) - 1)), (some (1 : Int))))) (cond (decide ((wrap .u64 ((wrap .u64 (v224 * (wrap .u64 v2))) + (wrap .u64 v253))) > (wrap .u64 ((bShl .u64 1 (wrap .u64 v13)) - 1)))) (lft (some ((wrap .u64 ((bShl .u64 1 (wrap .u64 v13)) - 1)), (some (1 : Int))))) (f1081_ParseUint_L2 v2 v13 v20 tl222 (j220 + 1) (wrap .u64 ((wrap .u64 (v224 * (wrap .u64 v2))) + (wrap .u64 v253))))))))
def f1081_ParseUint_L4 (v2 : Int) (v292 : Int) (v299 : Int) : LI → Nat → Int → Option (Sum (Int × (Option Int)) (Int))
 | [], j427, v431 => some (.inr v431)
 | c433 :: tl429, j427, v431 => sbind (ο := Int) (cond (c433 == 95) (none) (cond (decide ((48 : Int) ≤ c433)) (cond (decide (c433 ≤ 57)) (some (.inr (wrap .u8 (c433 - 48)))) ((f1082_lower c433).bind fun v458 => cond (decide ((97 : Int) ≤ v458)) ((f1082_lower c433).bind fun v460 => cond (decide (v460 ≤ 122)) ((f1082_lower c433).bind fun v462 => some (.inr (wrap .u8 ((wrap .u8 (v462 - 97)) + 10)))) (lft (lft (some (0, (some (2 : Int))))))) (lft (lft (some (0, (some (2 : Int)))))))) ((f1082_lower c433).bind fun v452 => cond (decide ((97 : Int) ≤ v452)) ((f1082_lower c433).bind fun v454 => cond (decide (v454 ≤ 122)) ((f1082_lower c433).bind fun v456 => some (.inr (wrap .u8 ((wrap .u8 (v456 - 97)) + 10)))) (lft (lft (some (0, (some (2 : Int))))))) (lft (lft (some (0, (some (2 : Int))))))))) (fun v448 => cond (decide (v448 ≥ (wrap .u8 v2))) (lft (some (0, (some (2 : Int))))) (cond (decide (v431 ≥ v299)) (lft (some ((wrap .u64 ((bShl .u64 1 (wrap .u64 v292)) - 1)), (some (1 : Int))))) (cond (decide ((wrap .u64 ((wrap .u64 (v431 * (wrap .u64 v2))) + (wrap .u64 v448))) < (wrap .u64 (v431 * (wrap .u64 v2))))) (lft (some ((wrap .u64 ((bShl .u64 1 (wrap .u64 v292)) - 1)), (some (1 : Int))))) (cond (decide ((wrap .u64 ((wrap .u64 (v431 * (wrap .u64 v2))) + (wrap .u64 v448))) > (wrap .u64 ((bShl .u64 1 (wrap .u64 v292)) - 1)))) (lft (some ((wrap .u64 ((bShl .u64 1 (wrap .u64 v292)) - 1)), (some (1 : Int))))) (f1081_ParseUint_L4 v2 v292 v299 tl429 (j427 + 1) (wrap .u64 ((wrap .u64 (v431 * (wrap .u64 v2))) + (wrap .u64 v448))))))))
def f1081_ParseUint : BA → Int → Int → Option (Int × (Option Int))
 | s1, v2, v3 => cond (s1.toList == (⟨#[]⟩ : BA).toList) (some (0, (some (2 : Int)))) (cond (v2 == 0) (cond (decide ((2 : Int) ≤ v2)) (cond (decide (v2 ≤ 36)) (sbind (ο := Int) (cond (v3 == 0) (some (.inr 64)) (cond (decide (v3 < 0)) (none) (cond (decide (v3 > 64)) (none) (some (.inr v3))))) (fun v292 => sbind (ο := Int) (cond (v2 == 10) (some (.inr 1844674407370955162)) (cond (v2 == 16) (some (.inr 1152921504606846976)) (none))) (fun v299 => grdP (0 ≤ (wrap .u64 v292)) (sbind (ο := Int) (grdP ((s1.size : Nat) ≤ 9223372036854775807) (f1081_ParseUint_L4 v2 v292 v299 (bytesJ s1) 0 (0 : Int))) (fun v384 => some (v384, none)))))) (cond (v2 == 0) (none) (none))) (cond (v2 == 0) (none) (none))) (cond (decide ((2 : Int) ≤ v2)) (cond (decide (v2 ≤ 36)) (sbind (ο := Int) (cond (v3 == 0) (some (.inr 64)) (cond (decide (v3 < 0)) (none) (cond (decide (v3 > 64)) (none) (some (.inr v3))))) (fun v13 => sbind (ο := Int) (cond (v2 == 10) (some (.inr 1844674407370955162)) (cond (v2 == 16) (some (.inr 1152921504606846976)) (none))) (fun v20 => grdP (0 ≤ (wrap .u64 v13)) (sbind (ο := Int) (grdP ((s1.size : Nat) ≤ 9223372036854775807) (f1081_ParseUint_L2 v2 v13 v20 (bytesJ s1) 0 (0 : Int))) (fun v153 => some (v153, none)))))) (cond (v2 == 0) (none) (none))) (cond (v2 == 0) (none) (none))))
def C1081_ParseUint (O : Oracle TT) (m : BA → Int → Int → Option (Int × (Option Int))) : Prop :=
 ∀ (s1 : BA) (v2 : Int) (v3 : Int) (Q : (Int × (Option Int)) → Prop) (R : RR) (_ : ∀ (v468 : Int) (o469 : Option Int), Q (v468, o469) → R (.tup [.c (.int .u64 v468), .c (.ife o469)]) []) (_ : sat (m s1 v2 v3) Q), O 1081 [sD s1, iD v2, iD v3] [] R
def j1081_ParseUint : Fn TT := ⟨172, [.t 6, .t 7], (.seq (.reg [qo 6 (.mv (.c (.int .u64 0))),qo 7 (.mv (.c (.ife none)))]) (.seq (.seq (.reg [qo 18 (.mv 0),qo 19 (.bin .eql .str 18 sE)]) (.cond 19 (.seq (.reg [qo 20 (.mke (iC 2)),qo 6 (.mv (.c (.int .u64 0))),qo 7 (.mv 20)]) .ret) .skip)) (.seq (.reg [qo 21 (.mv 1),qo 22 (.bin .eql .num 21 (iC 0)),qo 8 (.mv 22)]) (.seq (.reg [qo 23 (.mv 0),
 qo 9 (.mv 23)]) (.seq (.block 0 (.seq (.reg [qo 26 (.mv 1),qo 27 (.bin .leq .num (iC 2) 26),qo 28 (.mv 27),qg 28 29 (.mv 1),qg 28 30 (.bin .leq .num 29 (iC 36)),qo 31 (.pick 28 30 bF),qo 25 (.mv 31)]) (.cond 25 .skip (.seq (.reg [qo 33 (.mv 1),qo 34 (.bin .eql .num 33 (iC 0)),qo 32 (.mv 34)]) .dead)))) (.cut [0, 1, 2, 8, 9] [] (.seq (.reg [qo 76 (.mv 2),qo 77 (.bin .eql .num 76 (iC 0))])
 (.cond 77 (.reg [qo 2 (.mv (iC 64))]) (.seq (.reg [qo 78 (.mv 2),qo 79 (.bin .lss .num 78 (iC 0)),qo 80 (.mv 79),qf 80 81 (.mv 2),qf 80 82 (.bin .gtr .num 81 (iC 64)),qo 83 (.pick 80 bT 82)]) (.cond 83 .dead .skip)))) (.seq (.reg [qo 10 (.mv (.c (.int .u64 0)))]) (.cut [0, 1, 2, 8, 9, 10] [] (.seq (.reg [qo 85 (.mv 1)]) (.block 2 (.seq (.reg [qo 91 (.bin .eql .num 85 (iC 10)),
 qo 90 (.mv 91)]) (.cond 90 (.reg [qo 10 (.mv (.c (.int .u64 1844674407370955162)))]) (.seq (.reg [qo 93 (.bin .eql .num 85 (iC 16)),qo 92 (.mv 93)]) (.cond 92 (.reg [qo 10 (.mv (.c (.int .u64 1152921504606846976)))]) .dead)))))) (.seq (.reg [qo 94 (.mv 2),qo 95 (.conv .u64 94),qo 96 (.bin .shl .num (.c (.int .u64 1)) 95),qo 97 (.bin .sub .num 96 (.c (.int .u64 1))),qo 11 (.mv 97)]) (.seq
 (.reg [qo 12 (.mv bF)]) (.seq (.reg [qo 13 (.mv (.c (.int .u64 0)))]) (.cut [9, 12, 13] [] (.seq (.reg [qo 98 (.mv 0),qo 99 (.s2b 98),qo 100 (.len false 99),qo 101 (.mv (iC 0))]) (.block 3 (.loop (.keep [1, 8, 9, 10, 11, 12, 13, 99, 100, 101] [] (.aft (.seq (.reg [qo 102 (.bin .lss .num 101 100)]) (.seq (.cond 102 .skip (.exit 3)) (.seq (.block 4 (.seq (.reg [qo 103 (.idxA 99 101 1),
 qo 104 (.load 103 1 false),qo 15 (.mv 104)]) (.seq (.reg [qo 16 (.mv (.c (.int .u8 0)))]) (.cut [1, 8, 9, 10, 11, 12, 13, 16, 99, 100, 101] [] (.block 5 (.seq (.reg [qo 107 (.mv 15),qo 108 (.bin .eql .num 107 (.c (.int .u8 95))),qo 109 (.mv 108),qg 109 110 (.mv 8),qo 111 (.pick 109 110 bF),qo 106 (.mv 111)]) (.cond 106 .dead (.seq (.reg [qo 113 (.mv 15),
 qo 114 (.bin .leq .num (.c (.int .u8 48)) 113),qo 115 (.mv 114),qg 115 116 (.mv 15),qg 115 117 (.bin .leq .num 116 (.c (.int .u8 57))),qo 118 (.pick 115 117 bF),qo 112 (.mv 118)]) (.cond 112 (.reg [qo 119 (.mv 15),qo 120 (.bin .sub .num 119 (.c (.int .u8 48))),qo 16 (.mv 120)]) (.seq (.reg [qo 122 (.mv 15),qo 123 (.call 123 1082 [122]),qo 124 (.bin .leq .num (.c (.int .u8 97)) 123),
 qo 125 (.mv 124),qg 125 126 (.mv 15),qg 125 127 (.call 127 1082 [126]),qg 125 128 (.bin .leq .num 127 (.c (.int .u8 122))),qo 129 (.pick 125 128 bF),qo 121 (.mv 129)]) (.cond 121 (.reg [qo 130 (.mv 15),qo 131 (.call 131 1082 [130]),qo 132 (.bin .sub .num 131 (.c (.int .u8 97))),qo 133 (.bin .add .num 132 (.c (.int .u8 10))),qo 16 (.mv 133)]) (.seq (.reg [qo 105 (.mke (iC 2)),
 qo 6 (.mv (.c (.int .u64 0))),qo 7 (.mv 105)]) .ret)))))))) (.seq (.seq (.reg [qo 134 (.mv 16),qo 135 (.mv 1),qo 136 (.conv .u8 135),qo 137 (.bin .geq .num 134 136)]) (.cond 137 (.seq (.reg [qo 138 (.mke (iC 2)),qo 6 (.mv (.c (.int .u64 0))),qo 7 (.mv 138)]) .ret) .skip)) (.seq (.seq (.reg [qo 139 (.mv 13),qo 140 (.mv 10),qo 141 (.bin .geq .num 139 140)]) (.cond 141 (.seq
 (.reg [qo 142 (.mv 11),qo 143 (.mke (iC 1)),qo 6 (.mv 142),qo 7 (.mv 143)]) .ret) .skip)) (.seq (.reg [qo 144 (.mv 13),qo 145 (.mv 1),qo 146 (.conv .u64 145),qo 147 (.bin .mul .num 144 146),qo 13 (.mv 147)]) (.seq (.reg [qo 148 (.mv 13),qo 149 (.mv 16),qo 150 (.conv .u64 149),qo 151 (.bin .add .num 148 150),qo 17 (.mv 151)]) (.seq (.seq (.reg [qo 152 (.mv 17),qo 153 (.mv 13),
 qo 154 (.bin .lss .num 152 153),qo 155 (.mv 154),qf 155 156 (.mv 17),qf 155 157 (.mv 11),qf 155 158 (.bin .gtr .num 156 157),qo 159 (.pick 155 bT 158)]) (.cond 159 (.seq (.reg [qo 160 (.mv 11),qo 161 (.mke (iC 1)),qo 6 (.mv 160),qo 7 (.mv 161)]) .ret) .skip)) (.reg [qo 162 (.mv 17),qo 13 (.mv 162)])))))))))) (.reg [qo 163 (.bin .add .num 101 (iC 1)),
 qo 101 (.mv 163)])))) [.keep [1, 8, 9, 10, 11, 12, 13, 99, 100, 101] []]))))) (.seq (.seq (.reg [qo 164 (.mv 12),qo 165 (.mv 164),qg 165 166 (.mv 9),qg 165 167 (.call 167 1087 [166]),qg 165 168 (.un .not 167),qo 169 (.pick 165 168 bF)]) (.cond 169 .dead .skip)) (.seq (.reg [qo 171 (.mv 13),qo 6 (.mv 171),qo 7 (.mv (.c (.ife none)))]) .ret))))))))))))))⟩
theorem w1081_ParseUint {O : Oracle TT} (h1082_lower : C1082_lower O f1082_lower) : C1081_ParseUint (fun _ => vcF (S := SS) O j1081_ParseUint) f1081_ParseUint := by
 intro s1 v2 v3 Q R hQ h
 unfold f1081_ParseUint at h
 refine ⟨nle rfl, rfl, ?_⟩
 refine kc h (fun h => ?_) fun h => ?_
 refine kc h (fun h => ?_) fun h => ?_
 refine kc h (fun h => ?_) fun h => ?_
 refine kc h (fun h => ?_) fun h => ?_
 exact (sat_none h).elim
 exact (sat_none h).elim
 refine kc h (fun h => ?_) fun h => ?_
 refine kc h (fun h => ?_) fun h => ?_
 exact (sat_none h).elim
 exact (sat_none h).elim
 obtain ⟨R14, h, hlR14, hrR14⟩ := sat_sbind h
 refine kX (fun σ => ∃ (v13 : Int), R14 (.inr v13) ∧ σ = ⟨[(0, sD s1), (1, iD v2), (2, iD v13), (8, bD false), (9, sD s1)], []⟩) ?_ ?_
 refine kc h (fun h => ?_) fun h => ?_
 refine kc h (fun h => ?_) fun h => ?_
 refine kc h (fun h => ?_) fun h => ?_
 conv => whnf
 exact ⟨v3, sat_some h, rfl⟩
 exact (sat_none h).elim
 exact (sat_none h).elim
 conv => whnf
 exact ⟨(64 : Int), sat_some h, rfl⟩
 rintro _ ⟨v13, h, rfl⟩
 replace h := hrR14 _ h
 obtain ⟨R21, h, hlR21, hrR21⟩ := sat_sbind h
 refine kX (fun σ => ∃ (v20 : Int), R21 (.inr v20) ∧ σ = ⟨[(0, sD s1), (1, iD v2), (2, iD v13), (8, bD false), (9, sD s1), (10, .c (.int .u64 v20))], []⟩) ?_ ?_
 refine kc h (fun h => ?_) fun h => ?_
 refine kc h (fun h => ?_) fun h => ?_
 exact (sat_none h).elim
 conv => whnf
 exact ⟨(1152921504606846976 : Int), sat_some h, rfl⟩
 conv => whnf
 exact ⟨(1844674407370955162 : Int), sat_some h, rfl⟩
 rintro _ ⟨v20, h, rfl⟩
 replace h := hrR21 _ h
 refine kp h fun hb284 h => ?_
 obtain ⟨R154, h, hlR154, hrR154⟩ := sat_sbind h
 refine kX (fun σ => ∃ (v153 : Int), R154 (.inr v153) ∧ σ = ⟨[(9, sD s1), (12, bD false), (13, .c (.int .u64 v153))], []⟩) ?_ ?_
 refine kp h fun hb155 h => ?_
 intro hl156
 refine kX (fun σ n => ∃ (rem221 : LI) (j220 : Nat) (z : Int) (v224 : Int), n = rem221.length ∧ (bytesJ s1).drop j220 = rem221 ∧ z = ((j220 : Nat) : Int) ∧ sat (f1081_ParseUint_L2 v2 v13 v20 rem221 j220 v224) R154 ∧ σ.keep [1, 8, 9, 10, 11, 12, 13, 99, 100, 101] [] = ⟨[(1, iD v2), (8, bD false), (9, sD s1), (10, .c (.int .u64 v20)), (11, .c (.int .u64 (wrap .u64 ((bShl .u64 1 (wrap .u64 v13)) - 1)))), (12, bD false), (13, .c (.int .u64 v224)), (99, .c (.isl .u8 (bytesJ s1))), (100, iD (((bytesJ s1).length : Nat) : Int)), (101, iD z)], []⟩) ⟨_, (bytesJ s1), 0, _, (0 : Int), rfl, rfl, rfl, h, rfl⟩ ?_
 rintro σ n ⟨rem221, j220, _, v224, rfl, hrem221, rfl, h, hσ⟩
 refine kk hσ ?_
 intro t225 (ht225 : t225 = decide (((j220 : Nat) : Int) < (((bytesJ s1).length : Nat) : Int)))
 cases t225
 obtain rfl := ll_nil hrem221 ht225
 rw [f1081_ParseUint_L2] at h
 conv => whnf
 exact ⟨v224, sat_some h, rfl⟩
 obtain ⟨c226, tl222, rfl, hx223, htl222⟩ := ll_cons hrem221 ht225
 rw [f1081_ParseUint_L2] at h
 conv => whnf
 refine ⟨lx_bd hx223, fun uu227 huu227 => ?_⟩
 obtain rfl := lx_eq hx223 huu227
 obtain ⟨R254, h, hlR254, hrR254⟩ := sat_sbind h
 refine kX (fun σ => ∃ (v253 : Int), R254 (.inr v253) ∧ σ = ⟨[(1, iD v2), (8, bD false), (9, sD s1), (10, .c (.int .u64 v20)), (11, .c (.int .u64 (wrap .u64 ((bShl .u64 1 (wrap .u64 v13)) - 1)))), (12, bD false), (13, .c (.int .u64 v224)), (16, .c (.int .u8 v253)), (99, .c (.isl .u8 (bytesJ s1))), (100, iD (((bytesJ s1).length : Nat) : Int)), (101, iD ((j220 : Nat) : Int))], []⟩) ?_ ?_
 refine kc h (fun h => ?_) fun h => ?_
 refine kc h (fun h => ?_) fun h => ?_
 refine kL [] (h1082_lower _ _ _ ?_ (sat_bind h))
 rintro v257 h
 refine kc h (fun h => ?_) fun h => ?_
 replace h := sat_lft hlR254 h
 replace h := sat_lft hlR154 h
 exact kR [] (ND 0) (hQ _ _ (sat_some h))
 refine kL [] (h1082_lower _ _ _ ?_ (sat_bind h))
 rintro v259 h
 refine kc h (fun h => ?_) fun h => ?_
 replace h := sat_lft hlR254 h
 replace h := sat_lft hlR154 h
 exact kR [] (ND 0) (hQ _ _ (sat_some h))
 refine kL [] (h1082_lower _ _ _ ?_ (sat_bind h))
 rintro v261 h
 conv => whnf
 exact ⟨(wrap .u8 ((wrap .u8 (v261 - 97)) + 10)), sat_some h, rfl⟩
 refine kc h (fun h => ?_) fun h => ?_
 refine kL [] (h1082_lower _ _ _ ?_ (sat_bind h))
 rintro v263 h
 refine kc h (fun h => ?_) fun h => ?_
 replace h := sat_lft hlR254 h
 replace h := sat_lft hlR154 h
 exact kR [] (ND 0) (hQ _ _ (sat_some h))
 refine kL [] (h1082_lower _ _ _ ?_ (sat_bind h))
 rintro v265 h
 refine kc h (fun h => ?_) fun h => ?_
 replace h := sat_lft hlR254 h
 replace h := sat_lft hlR154 h
 exact kR [] (ND 0) (hQ _ _ (sat_some h))
 refine kL [] (h1082_lower _ _ _ ?_ (sat_bind h))
 rintro v267 h
 conv => whnf
 exact ⟨(wrap .u8 ((wrap .u8 (v267 - 97)) + 10)), sat_some h, rfl⟩
 conv => whnf
 exact ⟨(wrap .u8 (c226 - 48)), sat_some h, rfl⟩
 refine kc h (fun h => ?_) fun h => ?_
 refine kL [] (h1082_lower _ _ _ ?_ (sat_bind h))
 rintro v269 h
 refine kc h (fun h => ?_) fun h => ?_
 replace h := sat_lft hlR254 h
 replace h := sat_lft hlR154 h
 exact kR [] (ND 0) (hQ _ _ (sat_some h))
 refine kL [] (h1082_lower _ _ _ ?_ (sat_bind h))
 rintro v271 h
 refine kc h (fun h => ?_) fun h => ?_
 replace h := sat_lft hlR254 h
 replace h := sat_lft hlR154 h
 exact kR [] (ND 0) (hQ _ _ (sat_some h))
 refine kL [] (h1082_lower _ _ _ ?_ (sat_bind h))
 rintro v273 h
 conv => whnf
 exact ⟨(wrap .u8 ((wrap .u8 (v273 - 97)) + 10)), sat_some h, rfl⟩
 refine kc h (fun h => ?_) fun h => ?_
 refine kL [] (h1082_lower _ _ _ ?_ (sat_bind h))
 rintro v275 h
 refine kc h (fun h => ?_) fun h => ?_
 replace h := sat_lft hlR254 h
 replace h := sat_lft hlR154 h
 exact kR [] (ND 0) (hQ _ _ (sat_some h))
 refine kL [] (h1082_lower _ _ _ ?_ (sat_bind h))
 rintro v277 h
 refine kc h (fun h => ?_) fun h => ?_
 replace h := sat_lft hlR254 h
 replace h := sat_lft hlR154 h
 exact kR [] (ND 0) (hQ _ _ (sat_some h))
 refine kL [] (h1082_lower _ _ _ ?_ (sat_bind h))
 rintro v279 h
 conv => whnf
 exact ⟨(wrap .u8 ((wrap .u8 (v279 - 97)) + 10)), sat_some h, rfl⟩
 conv => whnf
 exact ⟨(wrap .u8 (c226 - 48)), sat_some h, rfl⟩
 rintro _ ⟨v253, h, rfl⟩
 replace h := hrR254 _ h
 refine kc h (fun h => ?_) fun h => ?_
 refine kc h (fun h => ?_) fun h => ?_
 refine kc h (fun h => ?_) fun h => ?_
 refine kc h (fun h => ?_) fun h => ?_
 conv => whnf
 exact ⟨tl222.length, nls, tl222, j220 + 1, _, (wrap .u64 ((wrap .u64 (v224 * (wrap .u64 v2))) + (wrap .u64 v253))), rfl, htl222, lx_wr hx223 hl156, h, rfl⟩
 replace h := sat_lft hlR154 h
 exact kR [] (ND 0) (hQ _ _ (sat_some h))
 replace h := sat_lft hlR154 h
 exact kR [] (ND 0) (hQ _ _ (sat_some h))
 replace h := sat_lft hlR154 h
 exact kR [] (ND 0) (hQ _ _ (sat_some h))
 replace h := sat_lft hlR154 h
 exact kR [] (ND 0) (hQ _ _ (sat_some h))
 rintro _ ⟨v153, h, rfl⟩
 replace h := hrR154 _ h
 exact kR [] (ND 0) (hQ _ _ (sat_some h))
 refine kc h (fun h => ?_) fun h => ?_
 refine kc h (fun h => ?_) fun h => ?_
 exact (sat_none h).elim
 exact (sat_none h).elim
 refine kc h (fun h => ?_) fun h => ?_
 refine kc h (fun h => ?_) fun h => ?_
 exact (sat_none h).elim
 exact (sat_none h).elim
 obtain ⟨R293, h, hlR293, hrR293⟩ := sat_sbind h
 refine kX (fun σ => ∃ (v292 : Int), R293 (.inr v292) ∧ σ = ⟨[(0, sD s1), (1, iD v2), (2, iD v292), (8, bD true), (9, sD s1)], []⟩) ?_ ?_
 refine kc h (fun h => ?_) fun h => ?_
 refine kc h (fun h => ?_) fun h => ?_
 refine kc h (fun h => ?_) fun h => ?_
 conv => whnf
 exact ⟨v3, sat_some h, rfl⟩
 exact (sat_none h).elim
 exact (sat_none h).elim
 conv => whnf
 exact ⟨(64 : Int), sat_some h, rfl⟩
 rintro _ ⟨v292, h, rfl⟩
 replace h := hrR293 _ h
 obtain ⟨R300, h, hlR300, hrR300⟩ := sat_sbind h
 refine kX (fun σ => ∃ (v299 : Int), R300 (.inr v299) ∧ σ = ⟨[(0, sD s1), (1, iD v2), (2, iD v292), (8, bD true), (9, sD s1), (10, .c (.int .u64 v299))], []⟩) ?_ ?_
 refine kc h (fun h => ?_) fun h => ?_
 refine kc h (fun h => ?_) fun h => ?_
 exact (sat_none h).elim
 conv => whnf
 exact ⟨(1152921504606846976 : Int), sat_some h, rfl⟩
 conv => whnf
 exact ⟨(1844674407370955162 : Int), sat_some h, rfl⟩
 rintro _ ⟨v299, h, rfl⟩
 replace h := hrR300 _ h
 refine kp h fun hb467 h => ?_
 obtain ⟨R385, h, hlR385, hrR385⟩ := sat_sbind h
 refine kX (fun σ => ∃ (v384 : Int), R385 (.inr v384) ∧ σ = ⟨[(9, sD s1), (12, bD false), (13, .c (.int .u64 v384))], []⟩) ?_ ?_
 refine kp h fun hb386 h => ?_
 intro hl387
 refine kX (fun σ n => ∃ (rem428 : LI) (j427 : Nat) (z : Int) (v431 : Int), n = rem428.length ∧ (bytesJ s1).drop j427 = rem428 ∧ z = ((j427 : Nat) : Int) ∧ sat (f1081_ParseUint_L4 v2 v292 v299 rem428 j427 v431) R385 ∧ σ.keep [1, 8, 9, 10, 11, 12, 13, 99, 100, 101] [] = ⟨[(1, iD v2), (8, bD true), (9, sD s1), (10, .c (.int .u64 v299)), (11, .c (.int .u64 (wrap .u64 ((bShl .u64 1 (wrap .u64 v292)) - 1)))), (12, bD false), (13, .c (.int .u64 v431)), (99, .c (.isl .u8 (bytesJ s1))), (100, iD (((bytesJ s1).length : Nat) : Int)), (101, iD z)], []⟩) ⟨_, (bytesJ s1), 0, _, (0 : Int), rfl, rfl, rfl, h, rfl⟩ ?_
 rintro σ n ⟨rem428, j427, _, v431, rfl, hrem428, rfl, h, hσ⟩
 refine kk hσ ?_
 intro t432 (ht432 : t432 = decide (((j427 : Nat) : Int) < (((bytesJ s1).length : Nat) : Int)))
 cases t432
 obtain rfl := ll_nil hrem428 ht432
 rw [f1081_ParseUint_L4] at h
 conv => whnf
 exact ⟨v431, sat_some h, rfl⟩
 obtain ⟨c433, tl429, rfl, hx430, htl429⟩ := ll_cons hrem428 ht432
 rw [f1081_ParseUint_L4] at h
 conv => whnf
 refine ⟨lx_bd hx430, fun uu434 huu434 => ?_⟩
 obtain rfl := lx_eq hx430 huu434
 obtain ⟨R449, h, hlR449, hrR449⟩ := sat_sbind h
 refine kX (fun σ => ∃ (v448 : Int), R449 (.inr v448) ∧ σ = ⟨[(1, iD v2), (8, bD true), (9, sD s1), (10, .c (.int .u64 v299)), (11, .c (.int .u64 (wrap .u64 ((bShl .u64 1 (wrap .u64 v292)) - 1)))), (12, bD false), (13, .c (.int .u64 v431)), (16, .c (.int .u8 v448)), (99, .c (.isl .u8 (bytesJ s1))), (100, iD (((bytesJ s1).length : Nat) : Int)), (101, iD ((j427 : Nat) : Int))], []⟩) ?_ ?_
 refine kc h (fun h => ?_) fun h => ?_
 refine kc h (fun h => ?_) fun h => ?_
 refine kL [] (h1082_lower _ _ _ ?_ (sat_bind h))
 rintro v452 h
 refine kc h (fun h => ?_) fun h => ?_
 replace h := sat_lft hlR449 h
 replace h := sat_lft hlR385 h
 exact kR [] (ND 0) (hQ _ _ (sat_some h))
 refine kL [] (h1082_lower _ _ _ ?_ (sat_bind h))
 rintro v454 h
 refine kc h (fun h => ?_) fun h => ?_
 replace h := sat_lft hlR449 h
 replace h := sat_lft hlR385 h
 exact kR [] (ND 0) (hQ _ _ (sat_some h))
 refine kL [] (h1082_lower _ _ _ ?_ (sat_bind h))
 rintro v456 h
 conv => whnf
 exact ⟨(wrap .u8 ((wrap .u8 (v456 - 97)) + 10)), sat_some h, rfl⟩
 refine kc h (fun h => ?_) fun h => ?_
 refine kL [] (h1082_lower _ _ _ ?_ (sat_bind h))
 rintro v458 h
 refine kc h (fun h => ?_) fun h => ?_
 replace h := sat_lft hlR449 h
 replace h := sat_lft hlR385 h
 exact kR [] (ND 0) (hQ _ _ (sat_some h))
 refine kL [] (h1082_lower _ _ _ ?_ (sat_bind h))
 rintro v460 h
 refine kc h (fun h => ?_) fun h => ?_
 replace h := sat_lft hlR449 h
 replace h := sat_lft hlR385 h
 exact kR [] (ND 0) (hQ _ _ (sat_some h))
 refine kL [] (h1082_lower _ _ _ ?_ (sat_bind h))
 rintro v462 h
 conv => whnf
 exact ⟨(wrap .u8 ((wrap .u8 (v462 - 97)) + 10)), sat_some h, rfl⟩
 conv => whnf
 exact ⟨(wrap .u8 (c433 - 48)), sat_some h, rfl⟩
 exact (sat_none h).elim
 rintro _ ⟨v448, h, rfl⟩
 replace h := hrR449 _ h
 refine kc h (fun h => ?_) fun h => ?_
 refine kc h (fun h => ?_) fun h => ?_
 refine kc h (fun h => ?_) fun h => ?_
 refine kc h (fun h => ?_) fun h => ?_
 conv => whnf
 exact ⟨tl429.length, nls, tl429, j427 + 1, _, (wrap .u64 ((wrap .u64 (v431 * (wrap .u64 v2))) + (wrap .u64 v448))), rfl, htl429, lx_wr hx430 hl387, h, rfl⟩
 replace h := sat_lft hlR385 h
 exact kR [] (ND 0) (hQ _ _ (sat_some h))
 replace h := sat_lft hlR385 h
 exact kR [] (ND 0) (hQ _ _ (sat_some h))
 replace h := sat_lft hlR385 h
 exact kR [] (ND 0) (hQ _ _ (sat_some h))
 replace h := sat_lft hlR385 h
 exact kR [] (ND 0) (hQ _ _ (sat_some h))
 rintro _ ⟨v384, h, rfl⟩
 replace h := hrR385 _ h
 exact kR [] (ND 0) (hQ _ _ (sat_some h))
 exact kR [] (ND 0) (hQ _ _ (sat_some h))
theorem c1081_ParseUint {P : Program} {fid : Nat → FuncId} (mx : MX P) (k1081_ParseUint : KF P fid 1081 j1081_ParseUint) (h1082_lower : C1082_lower (SP P fid) f1082_lower) : C1081_ParseUint (SP P fid) f1081_ParseUint :=
 fun a0 a1 a2 Q R hQ h => spec_of_vc mx k1081_ParseUint (w1081_ParseUint h1082_lower a0 a1 a2 Q R hQ h)
def f1080_ParseInt : BA → Int → Int → Option (Int × (Option Int))
 | s1, v2, v3 => cond (s1.toList == (⟨#[]⟩ : BA).toList) (some (0, (some (2 : Int)))) (sbind (ο := BA × Bool) (getB s1 0 fun c15 => cond ((c15.toNat : Int) == 43) (grdP ((0 : Int) ≤ 1 ∧ (1 : Int).toNat ≤ s1.size ∧ s1.size ≤ s1.size) (some (.inr ((s1.extract ((1 : Int).toNat) s1.size), false)))) (cond ((c15.toNat : Int) == 45) (grdP ((0 : Int) ≤ 1 ∧ (1 : Int).toNat ≤ s1.size ∧ s1.size ≤ s1.size) (some (.inr ((s1.extract ((1 : Int).toNat) s1.size), true)))) (some (.inr (s1, false))))) (fun (s12, q13) => (f1081_ParseUint s12 v2 v3).bind fun (v22, o23) => cond (bne (o23).isNone true) (cond (bne (o23 == (some (1 : Int))) true) (some (0, o23)) (sbind (ο := Int) (cond (v3 == 0) (some (.inr 64)) (some (.inr v3))) (fun v34 => grdP (0 ≤ (wrap .u64 (wrap .i64 (v34 - 1)))) (cond q13 (cond (decide (v22 > (bShl .u64 1 (wrap .u64 (wrap .i64 (v34 - 1)))))) (some ((wrap .i64 (0 - (wrap .i64 (bShl .u64 1 (wrap .u64 (wrap .i64 (v34 - 1))))))), (some (1 : Int)))) (some ((wrap .i64 (0 - (wrap .i64 v22))), none))) (cond (decide (v22 ≥ (bShl .u64 1 (wrap .u64 (wrap .i64 (v34 - 1)))))) (some ((wrap .i64 (wrap .u64 ((bShl .u64 1 (wrap .u64 (wrap .i64 (v34 - 1)))) - 1))), (some (1 : Int)))) (some ((wrap .i64 v22), none))))))) (sbind (ο := Int) (cond (v3 == 0) (some (.inr 64)) (some (.inr v3))) (fun v26 => grdP (0 ≤ (wrap .u64 (wrap .i64 (v26 - 1)))) (cond q13 (cond (decide (v22 > (bShl .u64 1 (wrap .u64 (wrap .i64 (v26 - 1)))))) (some ((wrap .i64 (0 - (wrap .i64 (bShl .u64 1 (wrap .u64 (wrap .i64 (v26 - 1))))))), (some (1 : Int)))) (some ((wrap .i64 (0 - (wrap .i64 v22))), none))) (cond (decide (v22 ≥ (bShl .u64 1 (wrap .u64 (wrap .i64 (v26 - 1)))))) (some ((wrap .i64 (wrap .u64 ((bShl .u64 1 (wrap .u64 (wrap .i64 (v26 - 1)))) - 1))), (some (1 : Int)))) (some ((wrap .i64 v22), none))))))))
def C1080_ParseInt (O : Oracle TT) (m : BA → Int → Int → Option (Int × (Option Int))) : Prop :=
 ∀ (s1 : BA) (v2 : Int) (v3 : Int) (Q : (Int × (Option Int)) → Prop) (R : RR) (_ : ∀ (v40 : Int) (o41 : Option Int), Q (v40, o41) → R (.tup [iD v40, .c (.ife o41)]) []) (_ : sat (m s1 v2 v3) Q), O 1080 [sD s1, iD v2, iD v3] [] R
def j1080_ParseInt : Fn TT := ⟨73, [.t 6, .t 7], (.seq (.reg [qo 6 (.mv (iC 0)),qo 7 (.mv (.c (.ife none)))]) (.seq (.seq (.reg [qo 12 (.mv 0),qo 13 (.bin .eql .str 12 sE)]) (.cond 13 (.seq (.reg [qo 14 (.mke (iC 2)),qo 6 (.mv (iC 0)),qo 7 (.mv 14)]) .ret) .skip)) (.seq (.reg [qo 8 (.mv bF)]) (.cut [0, 1, 2, 8] [] (.seq (.reg [qo 15 (.mv 0),qo 16 (.idxS 15 (iC 0))]) (.block 0 (.seq
 (.reg [qo 18 (.bin .eql .num 16 (.c (.int .u8 43))),qo 17 (.mv 18)]) (.cond 17 (.reg [qo 19 (.mv 0),qo 20 (.slc 0 19 (some (iC 1)) none),qo 0 (.mv 20)]) (.seq (.reg [qo 22 (.bin .eql .num 16 (.c (.int .u8 45))),qo 21 (.mv 22)]) (.cond 21 (.seq (.reg [qo 23 (.mv 0),qo 24 (.slc 0 23 (some (iC 1)) none),qo 0 (.mv 24)]) (.reg [qo 8 (.mv bT)])) .skip)))))) (.seq
 (.reg [qo 9 (.mv (.c (.int .u64 0)))]) (.seq (.reg [qo 26 (.mv 0),qo 27 (.mv 1),qo 28 (.mv 2),qo 29 (.call 29 1081 [26, 27, 28]),qo 25 (.mv 29),qo 30 (.ext 25 0),qo 31 (.ext 25 1),qo 9 (.mv 30),qo 7 (.mv 31)]) (.seq (.seq (.reg [qo 32 (.mv 7),qo 33 (.isnil true 32),qo 34 (.mv 33),qg 34 35 (.mv 7),qg 34 36 (.mke (iC 1)),qg 34 37 (.eqe true 35 36),qo 38 (.pick 34 37 bF)]) (.cond 38
 (.seq (.reg [qo 39 (.mv 7),qo 6 (.mv (iC 0)),qo 7 (.mv 39)]) .ret) .skip)) (.cut [2, 8, 9] [] (.seq (.reg [qo 40 (.mv 2),qo 41 (.bin .eql .num 40 (iC 0))]) (.cond 41 (.reg [qo 2 (.mv (iC 64))]) .skip)) (.seq (.reg [qo 42 (.mv 2),qo 43 (.bin .sub .num 42 (iC 1)),qo 44 (.conv .u64 43),qo 45 (.bin .shl .num (.c (.int .u64 1)) 44),qo 10 (.mv 45)]) (.seq (.seq (.reg [qo 46 (.mv 8),
 qo 47 (.un .not 46),qo 48 (.mv 47),qg 48 49 (.mv 9),qg 48 50 (.mv 10),qg 48 51 (.bin .geq .num 49 50),qo 52 (.pick 48 51 bF)]) (.cond 52 (.seq (.reg [qo 53 (.mv 10),qo 54 (.bin .sub .num 53 (.c (.int .u64 1))),qo 55 (.conv .i64 54),qo 56 (.mke (iC 1)),qo 6 (.mv 55),qo 7 (.mv 56)]) .ret) .skip)) (.seq (.seq (.reg [qo 57 (.mv 8),qo 58 (.mv 57),qg 58 59 (.mv 9),qg 58 60 (.mv 10),
 qg 58 61 (.bin .gtr .num 59 60),qo 62 (.pick 58 61 bF)]) (.cond 62 (.seq (.reg [qo 63 (.mv 10),qo 64 (.conv .i64 63),qo 65 (.un .neg 64),qo 66 (.mke (iC 1)),qo 6 (.mv 65),qo 7 (.mv 66)]) .ret) .skip)) (.seq (.reg [qo 67 (.mv 9),qo 68 (.conv .i64 67),qo 11 (.mv 68)]) (.seq (.seq (.reg [qo 69 (.mv 8)]) (.cond 69 (.reg [qo 70 (.mv 11),qo 71 (.un .neg 70),qo 11 (.mv 71)]) .skip)) (.seq
 (.reg [qo 72 (.mv 11),qo 6 (.mv 72),qo 7 (.mv (.c (.ife none)))]) .ret))))))))))))))⟩
theorem w1080_ParseInt {O : Oracle TT} (h1081_ParseUint : C1081_ParseUint O f1081_ParseUint) : C1080_ParseInt (fun _ => vcF (S := SS) O j1080_ParseInt) f1080_ParseInt := by
 intro s1 v2 v3 Q R hQ h
 unfold f1080_ParseInt at h
 refine ⟨nle rfl, rfl, ?_⟩
 refine kc h (fun h => ?_) fun h => ?_
 obtain ⟨R14, h, hlR14, hrR14⟩ := sat_sbind h
 refine kX (fun σ => ∃ (s12 : BA) (q13 : Bool), R14 (.inr (s12, q13)) ∧ σ = ⟨[(0, sD s12), (1, iD v2), (2, iD v3), (8, bD q13)], []⟩) ?_ ?_
 refine kg (sat_getB h) fun c15 hc15 h => ?_
 refine kc h (fun h => ?_) fun h => ?_
 refine kc h (fun h => ?_) fun h => ?_
 conv => whnf
 exact ⟨s1, false, sat_some h, rfl⟩
 conv => whnf
 obtain ⟨⟨hb18, hb19⟩, h⟩ := sat_grdP h
 refine ⟨hb18, ?_⟩
 conv => whnf
 refine ⟨hb19, ?_⟩
 conv => whnf
 exact ⟨(s1.extract ((1 : Int).toNat) s1.size), true, sat_some h, rfl⟩
 conv => whnf
 obtain ⟨⟨hb20, hb21⟩, h⟩ := sat_grdP h
 refine ⟨hb20, ?_⟩
 conv => whnf
 refine ⟨hb21, ?_⟩
 conv => whnf
 exact ⟨(s1.extract ((1 : Int).toNat) s1.size), false, sat_some h, rfl⟩
 rintro _ ⟨s12, q13, h, rfl⟩
 replace h := hrR14 _ h
 refine kL [] (h1081_ParseUint _ _ _ _ _ ?_ (sat_bind h))
 rintro v22 o23 h
 refine kc h (fun h => ?_) fun h => ?_
 obtain ⟨R27, h, hlR27, hrR27⟩ := sat_sbind h
 refine kX (fun σ => ∃ (v26 : Int), R27 (.inr v26) ∧ σ = ⟨[(2, iD v26), (8, bD q13), (9, .c (.int .u64 v22))], []⟩) ?_ ?_
 refine kc h (fun h => ?_) fun h => ?_
 conv => whnf
 exact ⟨v3, sat_some h, rfl⟩
 conv => whnf
 exact ⟨(64 : Int), sat_some h, rfl⟩
 rintro _ ⟨v26, h, rfl⟩
 replace h := hrR27 _ h
 refine kp h fun hb31 h => ?_
 cases q13
 replace h := sat_cf h
 refine kc h (fun h => ?_) fun h => ?_
 exact kR [] (ND 0) (hQ _ _ (sat_some h))
 exact kR [] (ND 0) (hQ _ _ (sat_some h))
 replace h := sat_ct h
 refine kc h (fun h => ?_) fun h => ?_
 exact kR [] (ND 0) (hQ _ _ (sat_some h))
 exact kR [] (ND 0) (hQ _ _ (sat_some h))
 refine kc h (fun h => ?_) fun h => ?_
 obtain ⟨R35, h, hlR35, hrR35⟩ := sat_sbind h
 refine kX (fun σ => ∃ (v34 : Int), R35 (.inr v34) ∧ σ = ⟨[(2, iD v34), (8, bD q13), (9, .c (.int .u64 v22))], []⟩) ?_ ?_
 refine kc h (fun h => ?_) fun h => ?_
 conv => whnf
 exact ⟨v3, sat_some h, rfl⟩
 conv => whnf
 exact ⟨(64 : Int), sat_some h, rfl⟩
 rintro _ ⟨v34, h, rfl⟩
 replace h := hrR35 _ h
 refine kp h fun hb39 h => ?_
 cases q13
 replace h := sat_cf h
 refine kc h (fun h => ?_) fun h => ?_
 exact kR [] (ND 0) (hQ _ _ (sat_some h))
 exact kR [] (ND 0) (hQ _ _ (sat_some h))
 replace h := sat_ct h
 refine kc h (fun h => ?_) fun h => ?_
 exact kR [] (ND 0) (hQ _ _ (sat_some h))
 exact kR [] (ND 0) (hQ _ _ (sat_some h))
 exact kR [] (ND 0) (hQ _ _ (sat_some h))
 exact kR [] (ND 0) (hQ _ _ (sat_some h))
theorem c1080_ParseInt {P : Program} {fid : Nat → FuncId} (mx : MX P) (k1080_ParseInt : KF P fid 1080 j1080_ParseInt) (h1081_ParseUint : C1081_ParseUint (SP P fid) f1081_ParseUint) : C1080_ParseInt (SP P fid) f1080_ParseInt :=
 fun a0 a1 a2 Q R hQ h => spec_of_vc mx k1080_ParseInt (w1080_ParseInt h1081_ParseUint a0 a1 a2 Q R hQ h)
def f1027_Atoi_L4 : LI → Nat → Int → Option (Sum (Sum (Int × (Option Int)) (Unit)) (Int))
 | [], j124, v128 => some (.inr v128)
 | c130 :: tl126, j124, v128 => cond (decide ((wrap .u8 (c130 - 48)) > 9)) (lft (lft (some (0, (some (2 : Int)))))) (f1027_Atoi_L4 tl126 (j124 + 1) (wrap .i64 ((wrap .i64 (v128 * 10)) + (wrap .i64 (wrap .u8 (c130 - 48))))))
def f1027_Atoi : BA → Option (Int × (Option Int))
 | s1 => sbind (ο := Unit) (cond (decide ((0 : Int) < (s1.size : Int))) (cond (decide ((s1.size : Int) < 19)) (sbind (ο := BA) (getB s1 0 fun c83 => cond ((c83.toNat : Int) == 45) (grdP ((0 : Int) ≤ 1 ∧ (1 : Int).toNat ≤ s1.size ∧ s1.size ≤ s1.size) (cond (decide (((s1.extract ((1 : Int).toNat) s1.size).size : Int) < 1)) (lft (lft (some (0, (some (2 : Int)))))) (some (.inr (s1.extract ((1 : Int).toNat) s1.size))))) (getB s1 0 fun c85 => cond ((c85.toNat : Int) == 43) (grdP ((0 : Int) ≤ 1 ∧ (1 : Int).toNat ≤ s1.size ∧ s1.size ≤ s1.size) (cond (decide (((s1.extract ((1 : Int).toNat) s1.size).size : Int) < 1)) (lft (lft (some (0, (some (2 : Int)))))) (some (.inr (s1.extract ((1 : Int).toNat) s1.size))))) (some (.inr s1)))) (fun s81 => sbind (ο := Int) (grdP ((s81.size : Nat) ≤ 9223372036854775807) (f1027_Atoi_L4 (bytesJ s81) 0 (0 : Int))) (fun v112 => getB s1 0 fun c133 => cond ((c133.toNat : Int) == 45) (lft (some ((wrap .i64 (0 - v112)), none))) (lft (some (v112, none)))))) (some (.inr ()))) (some (.inr ()))) (fun () => (f1080_ParseInt s1 (10 : Int) (0 : Int)).bind fun (v135, o136) => some (v135, o136))
def C1027_Atoi (O : Oracle TT) (m : BA → Option (Int × (Option Int))) : Prop :=
 ∀ (s1 : BA) (Q : (Int × (Option Int)) → Prop) (R : RR) (_ : ∀ (v137 : Int) (o138 : Option Int), Q (v137, o138) → R (.tup [iD v137, .c (.ife o138)]) []) (_ : sat (m s1) Q), O 1027 [sD s1] [] R
def j1027_Atoi : Fn TT := ⟨77, [.t 2, .t 3], (.seq (.reg [qo 2 (.mv (iC 0)),qo 3 (.mv (.c (.ife none)))]) (.seq (.reg [qo 11 (.mv 0),qo 12 (.len true 11),qo 4 (.mv 12)]) (.cut [0] [] (.seq (.reg [qo 13 (.mv bF),qg 13 14 (.mv 4),qg 13 15 (.bin .lss .num (iC 0) 14),qg 13 16 (.mv 15),qg 16 17 (.mv 4),qg 16 18 (.bin .lss .num 17 (iC 10)),qg 13 19 (.pick 16 18 bF),qo 20 (.pick 13 19 bF),
 qo 21 (.mv 20),qf 21 22 (.mv bT),qg 22 23 (.mv 4),qg 22 24 (.bin .lss .num (iC 0) 23),qg 22 25 (.mv 24),qg 25 26 (.mv 4),qg 25 27 (.bin .lss .num 26 (iC 19)),qg 22 28 (.pick 25 27 bF),qf 21 29 (.pick 22 28 bF),qo 30 (.pick 21 bT 29)]) (.cond 30 (.seq (.reg [qo 31 (.mv 0),qo 5 (.mv 31)]) (.cut [0, 5] [] (.seq (.reg [qo 32 (.mv 0),qo 33 (.idxS 32 (iC 0)),
 qo 34 (.bin .eql .num 33 (.c (.int .u8 45))),qo 35 (.mv 34),qf 35 36 (.mv 0),qf 35 37 (.idxS 36 (iC 0)),qf 35 38 (.bin .eql .num 37 (.c (.int .u8 43))),qo 39 (.pick 35 bT 38)]) (.cond 39 (.seq (.reg [qo 40 (.mv 0),qo 41 (.slc 0 40 (some (iC 1)) none),qo 0 (.mv 41)]) (.seq (.reg [qo 42 (.mv 0),qo 43 (.len true 42),qo 44 (.bin .lss .num 43 (iC 1))]) (.cond 44 (.seq
 (.reg [qo 45 (.mke (iC 2)),qo 2 (.mv (iC 0)),qo 3 (.mv 45)]) .ret) .skip))) .skip)) (.seq (.reg [qo 6 (.mv (iC 0))]) (.cut [5, 6] [] (.seq (.reg [qo 46 (.mv 0),qo 47 (.s2b 46),qo 48 (.len false 47),qo 49 (.mv (iC 0))]) (.block 0 (.loop (.keep [5, 6, 47, 48, 49] [] (.aft (.seq (.reg [qo 50 (.bin .lss .num 49 48)]) (.seq (.cond 50 .skip (.exit 0)) (.seq (.block 1 (.seq
 (.reg [qo 51 (.idxA 47 49 1),qo 52 (.load 51 1 false),qo 8 (.mv 52)]) (.seq (.reg [qo 53 (.mv 8),qo 54 (.bin .sub .num 53 (.c (.int .u8 48))),qo 8 (.mv 54)]) (.seq (.seq (.reg [qo 55 (.mv 8),qo 56 (.bin .gtr .num 55 (.c (.int .u8 9)))]) (.cond 56 (.seq (.reg [qo 57 (.mke (iC 2)),qo 2 (.mv (iC 0)),qo 3 (.mv 57)]) .ret) .skip)) (.reg [qo 58 (.mv 6),qo 59 (.bin .mul .num 58 (iC 10)),
 qo 60 (.mv 8),qo 61 (.conv .i64 60),qo 62 (.bin .add .num 59 61),qo 6 (.mv 62)]))))) (.reg [qo 63 (.bin .add .num 49 (iC 1)),qo 49 (.mv 63)])))) [.keep [5, 6, 47, 48, 49] []]))))) (.seq (.seq (.reg [qo 64 (.mv 5),qo 65 (.idxS 64 (iC 0)),qo 66 (.bin .eql .num 65 (.c (.int .u8 45)))]) (.cond 66 (.reg [qo 67 (.mv 6),qo 68 (.un .neg 67),qo 6 (.mv 68)]) .skip)) (.seq (.reg [qo 69 (.mv 6),
 qo 2 (.mv 69),qo 3 (.mv (.c (.ife none)))]) .ret)))))) .skip)) (.seq (.reg [qo 71 (.mv 0),qo 72 (.call 72 1080 [71, (iC 10), (iC 0)]),qo 70 (.mv 72),qo 73 (.ext 70 0),qo 74 (.ext 70 1),qo 9 (.mv 73),qo 10 (.mv 74)]) (.seq (.reg [qo 75 (.mv 9),qo 76 (.mv 10),qo 2 (.mv 75),qo 3 (.mv 76)]) .ret)))))⟩
theorem w1027_Atoi {O : Oracle TT} (h1080_ParseInt : C1080_ParseInt O f1080_ParseInt) : C1027_Atoi (fun _ => vcF (S := SS) O j1027_Atoi) f1027_Atoi := by
 intro s1 Q R hQ h
 unfold f1027_Atoi at h
 refine ⟨nle rfl, rfl, ?_⟩
 obtain ⟨R68, h, hlR68, hrR68⟩ := sat_sbind h
 refine kX (fun σ => R68 (.inr ()) ∧ σ = ⟨[(0, sD s1)], []⟩) ?_ ?_
 refine kc h (fun h => ?_) fun h => ?_
 conv => whnf
 exact ⟨sat_some h, rfl⟩
 refine kc h (fun h => ?_) fun h => ?_
 conv => whnf
 exact ⟨sat_some h, rfl⟩
 obtain ⟨R82, h, hlR82, hrR82⟩ := sat_sbind h
 refine kX (fun σ => ∃ (s81 : BA), R82 (.inr s81) ∧ σ = ⟨[(0, sD s81), (5, sD s1)], []⟩) ?_ ?_
 refine kg (sat_getB h) fun c83 hc83 h => ?_
 refine kc h (fun h => ?_) fun h => ?_
 refine kg (sat_getB h) fun c85 hc85 h => ?_
 refine kc h (fun h => ?_) fun h => ?_
 conv => whnf
 exact ⟨s1, sat_some h, rfl⟩
 conv => whnf
 obtain ⟨⟨hb87, hb88⟩, h⟩ := sat_grdP h
 refine ⟨hb87, ?_⟩
 conv => whnf
 refine ⟨hb88, ?_⟩
 refine kc h (fun h => ?_) fun h => ?_
 conv => whnf
 exact ⟨(s1.extract ((1 : Int).toNat) s1.size), sat_some h, rfl⟩
 replace h := sat_lft hlR82 h
 replace h := sat_lft hlR68 h
 exact kR [] (ND 0) (hQ _ _ (sat_some h))
 conv => whnf
 obtain ⟨⟨hb90, hb91⟩, h⟩ := sat_grdP h
 refine ⟨hb90, ?_⟩
 conv => whnf
 refine ⟨hb91, ?_⟩
 refine kc h (fun h => ?_) fun h => ?_
 conv => whnf
 exact ⟨(s1.extract ((1 : Int).toNat) s1.size), sat_some h, rfl⟩
 replace h := sat_lft hlR82 h
 replace h := sat_lft hlR68 h
 exact kR [] (ND 0) (hQ _ _ (sat_some h))
 rintro _ ⟨s81, h, rfl⟩
 replace h := hrR82 _ h
 obtain ⟨R113, h, hlR113, hrR113⟩ := sat_sbind h
 refine kX (fun σ => ∃ (v112 : Int), R113 (.inr v112) ∧ σ = ⟨[(5, sD s1), (6, iD v112)], []⟩) ?_ ?_
 refine kp h fun hb114 h => ?_
 intro hl115
 refine kX (fun σ n => ∃ (rem125 : LI) (j124 : Nat) (z : Int) (v128 : Int), n = rem125.length ∧ (bytesJ s81).drop j124 = rem125 ∧ z = ((j124 : Nat) : Int) ∧ sat (f1027_Atoi_L4 rem125 j124 v128) R113 ∧ σ.keep [5, 6, 47, 48, 49] [] = ⟨[(5, sD s1), (6, iD v128), (47, .c (.isl .u8 (bytesJ s81))), (48, iD (((bytesJ s81).length : Nat) : Int)), (49, iD z)], []⟩) ⟨_, (bytesJ s81), 0, _, (0 : Int), rfl, rfl, rfl, h, rfl⟩ ?_
 rintro σ n ⟨rem125, j124, _, v128, rfl, hrem125, rfl, h, hσ⟩
 refine kk hσ ?_
 intro t129 (ht129 : t129 = decide (((j124 : Nat) : Int) < (((bytesJ s81).length : Nat) : Int)))
 cases t129
 obtain rfl := ll_nil hrem125 ht129
 rw [f1027_Atoi_L4] at h
 conv => whnf
 exact ⟨v128, sat_some h, rfl⟩
 obtain ⟨c130, tl126, rfl, hx127, htl126⟩ := ll_cons hrem125 ht129
 rw [f1027_Atoi_L4] at h
 conv => whnf
 refine ⟨lx_bd hx127, fun uu131 huu131 => ?_⟩
 obtain rfl := lx_eq hx127 huu131
 refine kc h (fun h => ?_) fun h => ?_
 conv => whnf
 exact ⟨tl126.length, nls, tl126, j124 + 1, _, (wrap .i64 ((wrap .i64 (v128 * 10)) + (wrap .i64 (wrap .u8 (c130 - 48))))), rfl, htl126, lx_wr hx127 hl115, h, rfl⟩
 replace h := sat_lft hlR113 h
 replace h := sat_lft hlR68 h
 exact kR [] (ND 0) (hQ _ _ (sat_some h))
 rintro _ ⟨v112, h, rfl⟩
 replace h := hrR113 _ h
 refine kg (sat_getB h) fun c133 hc133 h => ?_
 refine kc h (fun h => ?_) fun h => ?_
 replace h := sat_lft hlR68 h
 exact kR [] (ND 0) (hQ _ _ (sat_some h))
 replace h := sat_lft hlR68 h
 exact kR [] (ND 0) (hQ _ _ (sat_some h))
 rintro _ ⟨h, rfl⟩
 replace h := hrR68 _ h
 refine kL [] (h1080_ParseInt _ _ _ _ _ ?_ (sat_bind h))
 rintro v135 o136 h
 exact kR [] (ND 0) (hQ _ _ (sat_some h))
theorem c1027_Atoi {P : Program} {fid : Nat → FuncId} (mx : MX P) (k1027_Atoi : KF P fid 1027 j1027_Atoi) (h1080_ParseInt : C1080_ParseInt (SP P fid) f1080_ParseInt) : C1027_Atoi (SP P fid) f1027_Atoi :=
 fun a0 Q R hQ h => spec_of_vc mx k1027_Atoi (w1027_Atoi h1080_ParseInt a0 Q R hQ h)
def f1085_Clone : BA → Option BA
 | s => grdP (s.size ≤ 281474976710656) (some s)
def C1085_Clone (O : Oracle TT) (m : BA → Option (BA)) : Prop :=
 ∀ (s1 : BA) (Q : BA → Prop) (R : RR) (_ : ∀ (s2 : BA), Q s2 → R (sD s2) []) (_ : sat (m s1) Q), O 1085 [sD s1] [] R
def f1084_rangeError : BA → BA → Option (BA × BA)
 | s1, s2 => sbind (ο := BA) ((f1085_Clone s2).bind fun s7 => some (.inr s7)) (fun s5 => some (s1, s5))
def C1084_rangeError (O : Oracle TT) (m : BA → BA → Option (BA × BA)) : Prop :=
 ∀ (s1 : BA) (s2 : BA) (Q : (BA × BA) → Prop) (R : RR) (_ : ∀ (s9 : BA) (s10 : BA), Q (s9, s10) → R (pX 0) [(.x 0, some (.var [.str s9, .str s10, .any]))]) (_ : sat (m s1 s2) Q), O 1084 [sD s1, sD s2] [] R
def j1084_rangeError : Fn TT := ⟨11, [.t 4], (.seq (.reg [qo 4 (.mv (.c (.nilp)))]) (.cut [4] [(.s 10)] (.drw [] (.go 0 (.go 1 (.alt 2 (.go 3 (.go 4 (.go 5 (.go 6 .nil)))) 3 (.go 2 (.go 4 (.go 5 (.go 6 .nil))))))) [] [0, 1, 4, 6] [qo 5 (.mv 0),qo 6 (.mv 1),qo 7 (.call 7 1085 [6]),qo 8 (.ldg 3),qo 9 (.build [.str eB, .str eB, .any] [((0, 1), 5), ((1, 1), 7), ((2, 1), 8)]),qo 10 (.box 10 9),
 qo 4 (.mv 10)]) .ret))⟩
theorem w1084_rangeError {O : Oracle TT} (h1085_Clone : C1085_Clone O f1085_Clone) : C1084_rangeError (fun _ => vcF (S := SS) O j1084_rangeError) f1084_rangeError := by
 intro s1 s2 Q R hQ h
 unfold f1084_rangeError at h
 refine ⟨nle rfl, rfl, ?_⟩
 obtain ⟨R6, h, hlR6, hrR6⟩ := sat_sbind h
 refine kX (fun σ => ∃ (s5 : BA), R6 (.inr s5) ∧ σ = ⟨[(4, pS 10)], [(.s 10, some (.var [.str s1, .str s5, .any]))]⟩) ?_ ?_
 conv => whnf
 refine ⟨?_, ?_⟩
 refine kL [] (h1085_Clone _ _ _ ?_ (sat_bind h))
 rintro s7 h
 conv => whnf
 exact ⟨s7, sat_some h, rfl⟩
 refine kL [] (h1085_Clone _ _ _ ?_ (sat_bind h))
 rintro s8 h
 conv => whnf
 exact ⟨s8, sat_some h, rfl⟩
 rintro _ ⟨s5, h, rfl⟩
 replace h := hrR6 _ h
 exact kR [(.s 10)] (ND 0) (hQ _ _ (sat_some h))
theorem c1084_rangeError {P : Program} {fid : Nat → FuncId} (mx : MX P) (k1084_rangeError : KF P fid 1084 j1084_rangeError) (h1085_Clone : C1085_Clone (SP P fid) f1085_Clone) : C1084_rangeError (SP P fid) f1084_rangeError :=
 fun a0 a1 Q R hQ h => spec_of_vc mx k1084_rangeError (w1084_rangeError h1085_Clone a0 a1 Q R hQ h)
def f1086_syntaxError : BA → BA → Option (BA × BA)
 | s1, s2 => sbind (ο := BA) ((f1085_Clone s2).bind fun s7 => some (.inr s7)) (fun s5 => some (s1, s5))
def C1086_syntaxError (O : Oracle TT) (m : BA → BA → Option (BA × BA)) : Prop :=
 ∀ (s1 : BA) (s2 : BA) (Q : (BA × BA) → Prop) (R : RR) (_ : ∀ (s9 : BA) (s10 : BA), Q (s9, s10) → R (pX 0) [(.x 0, some (.var [.str s9, .str s10, .any]))]) (_ : sat (m s1 s2) Q), O 1086 [sD s1, sD s2] [] R
def j1086_syntaxError : Fn TT := ⟨11, [.t 4], (.seq (.reg [qo 4 (.mv (.c (.nilp)))]) (.cut [4] [(.s 10)] (.drw [] (.go 0 (.go 1 (.alt 2 (.go 3 (.go 4 (.go 5 (.go 6 .nil)))) 3 (.go 2 (.go 4 (.go 5 (.go 6 .nil))))))) [] [0, 1, 4, 6] [qo 5 (.mv 0),qo 6 (.mv 1),qo 7 (.call 7 1085 [6]),qo 8 (.ldg 2),qo 9 (.build [.str eB, .str eB, .any] [((0, 1), 5), ((1, 1), 7), ((2, 1), 8)]),qo 10 (.box 10 9),
 qo 4 (.mv 10)]) .ret))⟩
theorem w1086_syntaxError {O : Oracle TT} (h1085_Clone : C1085_Clone O f1085_Clone) : C1086_syntaxError (fun _ => vcF (S := SS) O j1086_syntaxError) f1086_syntaxError := by
 intro s1 s2 Q R hQ h
 unfold f1086_syntaxError at h
 refine ⟨nle rfl, rfl, ?_⟩
 obtain ⟨R6, h, hlR6, hrR6⟩ := sat_sbind h
 refine kX (fun σ => ∃ (s5 : BA), R6 (.inr s5) ∧ σ = ⟨[(4, pS 10)], [(.s 10, some (.var [.str s1, .str s5, .any]))]⟩) ?_ ?_
 conv => whnf
 refine ⟨?_, ?_⟩
 refine kL [] (h1085_Clone _ _ _ ?_ (sat_bind h))
 rintro s7 h
 conv => whnf
 exact ⟨s7, sat_some h, rfl⟩
 refine kL [] (h1085_Clone _ _ _ ?_ (sat_bind h))
 rintro s8 h
 conv => whnf
 exact ⟨s8, sat_some h, rfl⟩
 rintro _ ⟨s5, h, rfl⟩
 replace h := hrR6 _ h
 exact kR [(.s 10)] (ND 0) (hQ _ _ (sat_some h))
theorem c1086_syntaxError {P : Program} {fid : Nat → FuncId} (mx : MX P) (k1086_syntaxError : KF P fid 1086 j1086_syntaxError) (h1085_Clone : C1085_Clone (SP P fid) f1085_Clone) : C1086_syntaxError (SP P fid) f1086_syntaxError :=
 fun a0 a1 Q R hQ h => spec_of_vc mx k1086_syntaxError (w1086_syntaxError h1085_Clone a0 a1 Q R hQ h)
def f1083_toError : BA → BA → Int → Int → (Option Int) → Option (Bool)
 | s1, s2, v3, v4, o5 => cond (bne (o5 == (some (2 : Int))) false) ((f1086_syntaxError s1 s2).bind fun (s11, s12) => some false) (cond (bne (o5 == (some (1 : Int))) false) ((f1084_rangeError s1 s2).bind fun (s9, s10) => some false) (cond (bne (o5 == (some (3 : Int))) false) (none) (none)))
def C1083_toError (O : Oracle TT) (m : BA → BA → Int → Int → (Option Int) → Option (Bool)) : Prop :=
 ∀ (s1 : BA) (s2 : BA) (v3 : Int) (v4 : Int) (o5 : Option Int) (Q : Bool → Prop) (R : RR) (_ : ∀ (q13 : Bool), Q q13 → R (.c (.ifc q13)) []) (_ : sat (m s1 s2 v3 v4 o5) Q), O 1083 [sD s1, sD s2, iD v3, iD v4, .c (.ife o5)] [] R
def j1083_toError : Fn TT := ⟨43, [.t 10], (.seq (.reg [qo 10 (.mv (.c (.ifc true)))]) (.seq (.seq (.reg [qo 11 (.mv 4)]) (.block 0 (.seq (.reg [qo 13 (.mke (iC 2)),qo 14 (.eqe false 11 13),qo 12 (.mv 14)]) (.cond 12 (.seq (.reg [qo 15 (.mv 0),qo 16 (.mv 1),qo 17 (.call 17 1086 [15, 16]),qo 18 (.mki),qo 10 (.mv 18)]) .ret) (.seq (.reg [qo 20 (.mke (iC 1)),qo 21 (.eqe false 11 20),
 qo 19 (.mv 21)]) (.cond 19 (.seq (.reg [qo 22 (.mv 0),qo 23 (.mv 1),qo 24 (.call 24 1084 [22, 23]),qo 25 (.mki),qo 10 (.mv 25)]) .ret) (.seq (.reg [qo 27 (.mke (iC 3)),qo 28 (.eqe false 11 27),qo 26 (.mv 28)]) .dead))))))) .dead))⟩
theorem w1083_toError {O : Oracle TT} (h1084_rangeError : C1084_rangeError O f1084_rangeError) (h1086_syntaxError : C1086_syntaxError O f1086_syntaxError) : C1083_toError (fun _ => vcF (S := SS) O j1083_toError) f1083_toError := by
 intro s1 s2 v3 v4 o5 Q R hQ h
 unfold f1083_toError at h
 refine ⟨nle rfl, rfl, ?_⟩
 refine kc h (fun h => ?_) fun h => ?_
 refine kc h (fun h => ?_) fun h => ?_
 refine kc h (fun h => ?_) fun h => ?_
 exact (sat_none h).elim
 exact (sat_none h).elim
 refine kL [] (h1084_rangeError _ _ _ _ ?_ (sat_bind h))
 rintro s9 s10 h
 exact kR [] (ND 0) (hQ _ (sat_some h))
 refine kL [] (h1086_syntaxError _ _ _ _ ?_ (sat_bind h))
 rintro s11 s12 h
 exact kR [] (ND 0) (hQ _ (sat_some h))
theorem c1083_toError {P : Program} {fid : Nat → FuncId} (mx : MX P) (k1083_toError : KF P fid 1083 j1083_toError) (h1084_rangeError : C1084_rangeError (SP P fid) f1084_rangeError) (h1086_syntaxError : C1086_syntaxError (SP P fid) f1086_syntaxError) : C1083_toError (SP P fid) f1083_toError :=
 fun a0 a1 a2 a3 a4 Q R hQ h => spec_of_vc mx k1083_toError (w1083_toError h1084_rangeError h1086_syntaxError a0 a1 a2 a3 a4 Q R hQ h)
def f1026_Atoi : BA → Option (Int × Bool)
 | s1 => (f1027_Atoi s1).bind fun (v2, o3) => cond (bne (o3).isNone true) ((f1083_toError (⟨#[65, 116, 111, 105]⟩ : BA) s1 (0 : Int) (0 : Int) o3).bind fun q5 => some (v2, q5)) (some (v2, true))
def C1026_Atoi (O : Oracle TT) (m : BA → Option (Int × Bool)) : Prop :=
 ∀ (s1 : BA) (Q : (Int × Bool) → Prop) (R : RR) (_ : ∀ (v6 : Int) (q7 : Bool), Q (v6, q7) → R (.tup [iD v6, .c (.ifc q7)]) []) (_ : sat (m s1) Q), O 1026 [sD s1] [] R
def j1026_Atoi : Fn TT := ⟨18, [.t 2, .t 3], (.seq (.reg [qo 2 (.mv (iC 0)),qo 3 (.mv (.c (.ifc true)))]) (.seq (.reg [qo 7 (.mv 0),qo 8 (.call 8 1027 [7]),qo 6 (.mv 8),qo 9 (.ext 6 0),qo 10 (.ext 6 1),qo 4 (.mv 9),qo 5 (.mv 10)]) (.seq (.seq (.reg [qo 11 (.mv 5),qo 12 (.isnil true 11)]) (.cond 12 (.seq (.reg [qo 13 (.mv 4),qo 14 (.mv 0),qo 15 (.mv 5),
 qo 16 (.call 16 1083 [(.c (.str (⟨#[65, 116, 111, 105]⟩ : BA))), 14, (iC 0), (iC 0), 15]),qo 2 (.mv 13),qo 3 (.mv 16)]) .ret) .skip)) (.seq (.reg [qo 17 (.mv 4),qo 2 (.mv 17),qo 3 (.mv (.c (.ifc true)))]) .ret))))⟩
theorem w1026_Atoi {O : Oracle TT} (h1027_Atoi : C1027_Atoi O f1027_Atoi) (h1083_toError : C1083_toError O f1083_toError) : C1026_Atoi (fun _ => vcF (S := SS) O j1026_Atoi) f1026_Atoi := by
 intro s1 Q R hQ h
 unfold f1026_Atoi at h
 refine ⟨nle rfl, rfl, ?_⟩
 refine kL [] (h1027_Atoi _ _ _ ?_ (sat_bind h))
 rintro v2 o3 h
 refine kc h (fun h => ?_) fun h => ?_
 exact kR [] (ND 0) (hQ _ _ (sat_some h))
 refine kL [] (h1083_toError _ _ _ _ _ _ _ ?_ (sat_bind h))
 rintro q5 h
 exact kR [] (ND 0) (hQ _ _ (sat_some h))
theorem c1026_Atoi {P : Program} {fid : Nat → FuncId} (mx : MX P) (k1026_Atoi : KF P fid 1026 j1026_Atoi) (h1027_Atoi : C1027_Atoi (SP P fid) f1027_Atoi) (h1083_toError : C1083_toError (SP P fid) f1083_toError) : C1026_Atoi (SP P fid) f1026_Atoi :=
 fun a0 Q R hQ h => spec_of_vc mx k1026_Atoi (w1026_Atoi h1027_Atoi h1083_toError a0 Q R hQ h)
def f1088_ParseUint : BA → Int → Int → Option (Int × Bool)
 | s1, v2, v3 => (f1081_ParseUint s1 v2 v3).bind fun (v4, o5) => cond (bne (o5).isNone true) ((f1083_toError (⟨#[80, 97, 114, 115, 101, 85, 105, 110, 116]⟩ : BA) s1 v2 v3 o5).bind fun q7 => some (v4, q7)) (some (v4, true))
def C1088_ParseUint (O : Oracle TT) (m : BA → Int → Int → Option (Int × Bool)) : Prop :=
 ∀ (s1 : BA) (v2 : Int) (v3 : Int) (Q : (Int × Bool) → Prop) (R : RR) (_ : ∀ (v8 : Int) (q9 : Bool), Q (v8, q9) → R (.tup [.c (.int .u64 v8), .c (.ifc q9)]) []) (_ : sat (m s1 v2 v3) Q), O 1088 [sD s1, iD v2, iD v3] [] R
def j1088_ParseUint : Fn TT := ⟨26, [.t 6, .t 7], (.seq (.reg [qo 6 (.mv (.c (.int .u64 0))),qo 7 (.mv (.c (.ifc true)))]) (.seq (.reg [qo 11 (.mv 0),qo 12 (.mv 1),qo 13 (.mv 2),qo 14 (.call 14 1081 [11, 12, 13]),qo 10 (.mv 14),qo 15 (.ext 10 0),qo 16 (.ext 10 1),qo 8 (.mv 15),qo 9 (.mv 16)]) (.seq (.seq (.reg [qo 17 (.mv 9),qo 18 (.isnil true 17)]) (.cond 18 (.seq (.reg [qo 19 (.mv 8),
 qo 20 (.mv 0),qo 21 (.mv 1),qo 22 (.mv 2),qo 23 (.mv 9),qo 24 (.call 24 1083 [(.c (.str (⟨#[80, 97, 114, 115, 101, 85, 105, 110, 116]⟩ : BA))), 20, 21, 22, 23]),qo 6 (.mv 19),qo 7 (.mv 24)]) .ret) .skip)) (.seq (.reg [qo 25 (.mv 8),qo 6 (.mv 25),qo 7 (.mv (.c (.ifc true)))]) .ret))))⟩
theorem w1088_ParseUint {O : Oracle TT} (h1081_ParseUint : C1081_ParseUint O f1081_ParseUint) (h1083_toError : C1083_toError O f1083_toError) : C1088_ParseUint (fun _ => vcF (S := SS) O j1088_ParseUint) f1088_ParseUint := by
 intro s1 v2 v3 Q R hQ h
 unfold f1088_ParseUint at h
 refine ⟨nle rfl, rfl, ?_⟩
 refine kL [] (h1081_ParseUint _ _ _ _ _ ?_ (sat_bind h))
 rintro v4 o5 h
 refine kc h (fun h => ?_) fun h => ?_
 exact kR [] (ND 0) (hQ _ _ (sat_some h))
 refine kL [] (h1083_toError _ _ _ _ _ _ _ ?_ (sat_bind h))
 rintro q7 h
 exact kR [] (ND 0) (hQ _ _ (sat_some h))
theorem c1088_ParseUint {P : Program} {fid : Nat → FuncId} (mx : MX P) (k1088_ParseUint : KF P fid 1088 j1088_ParseUint) (h1081_ParseUint : C1081_ParseUint (SP P fid) f1081_ParseUint) (h1083_toError : C1083_toError (SP P fid) f1083_toError) : C1088_ParseUint (SP P fid) f1088_ParseUint :=
 fun a0 a1 a2 Q R hQ h => spec_of_vc mx k1088_ParseUint (w1088_ParseUint h1081_ParseUint h1083_toError a0 a1 a2 Q R hQ h)
end Go.Clap
