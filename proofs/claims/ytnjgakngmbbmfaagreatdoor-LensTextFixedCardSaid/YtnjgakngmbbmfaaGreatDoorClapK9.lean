/- The checks of the small code against the loaded functions. -/
import Derived.Test.YtnjgakngmbbmfaaGreatDoorClapK7
set_option linter.unusedVariables false
set_option linter.unusedSimpArgs false
set_option maxRecDepth 100000
namespace Go.Clap
open Go.IntKind (wrap)
abbrev Ws := List (List UInt8)
theorem sbind_eq {τ ο : Type} {A : Option (Sum τ ο)} {K : ο → Option τ} (x : ο) {r : Option τ} (h : A = some (.inr x)) (k : K x = r) : sbind A K = r := by
 subst h; exact k
def opar (b : Bool) (ws : Ws) : Ws := if b then [BL wOpen] ++ ws ++ [BL wShut] else []
def owd (b : Bool) (ws : Ws) : Ws := if b then ws else []
theorem paren {τ : Type} {F : LI → Option τ} {loop : LI → Option (Sum τ LI)} {ws : Ws} {r : LI} (hl : r ≠ []) (hb : r.length + (px (opar true ws)).length ≤ 100000)
 (h : ∀ l : LI, l ≠ [] → l.length + (px ws).length ≤ 100000 → loop l = some (.inr (l ++ px ws))) :
 ((f1005a_put ([wOpen] : LB) r).bind fun l => sbind (loop l) fun l' => (f1005a_put ([wShut] : LB) l').bind F) = F (r ++ px (opar true ws)) := by
 have hb2 : r.length + ((px [BL wOpen]).length + (px ws).length + (px [BL wShut]).length) ≤ 100000 := by
  have : opar true ws = [BL wOpen] ++ ws ++ [BL wShut] := rfl
  rw [this, px_append, px_append, List.length_append, List.length_append] at hb; exact hb
 rw [put1 _ hl (by omega)]
 show sbind (loop (r ++ px [BL wOpen])) _ = _
 rw [h _ (px_ne (w := BL wOpen) r hl) (by rw [List.length_append]; omega)]
 show (f1005a_put ([wShut] : LB) ((r ++ px [BL wOpen]) ++ px ws)).bind F = _
 rw [put1 _ (by simp [hl]) (by rw [List.length_append, List.length_append]; omega), ← px3]
 rfl
def PN (op : Int) (ns : LB) (ws : Ws) : Prop := ∀ (j : Nat) (l : LI), l ≠ [] → l.length + (px ws).length ≤ 100000 → f1103_rest_L4 op ns j l = some (.inr (l ++ px ws))
def PPw (k : Nat) (ps : LW) (ws : Ws) : Prop := ∀ n, k ≤ n → ∀ (j : Nat) (l : LI), l ≠ [] → l.length + (px ws).length ≤ 100000 → f1103_rest_L8 n ps j l = some (.inr (l ++ px ws))
def PL (k : Nat) (x : Ln) (ws : Ws) : Prop := ∀ n, k ≤ n → ∀ l : LI, l ≠ [] → l.length + (px ws).length ≤ 100000 → f1018a_lens n x l = some (l ++ px ws)
def PK (k : Nat) (ks : List Ln) (ws : Ws) : Prop := ∀ n, k ≤ n → ∀ (j : Nat) (l : LI), l ≠ [] → l.length + (px ws).length ≤ 100000 → f1103_rest_L10 (f1018a_lens n) ks j l = some (.inr (l ++ px ws))
theorem pn_nil (op : Int) : PN op [] [] := fun j l hl hb => by
 rw [px_nil, List.append_nil]
 unfold f1103_rest_L4
 rfl
theorem pn_cons {op : Int} {a w : BA} {ns : LB} {us : Ws} (hw : (op = 9 → f1006_quote a = some w) ∧ (op ≠ 9 → a = w)) (h : PN op ns us) : PN op (a :: ns) ([BL w] ++ us) := by
 intro j l hl hb
 have hb2 : l.length + ((px [BL w]).length + (px us).length) ≤ 100000 := by rw [px_append, List.length_append] at hb; exact hb
 have fin : (f1005a_put ([w] : LB) l).bind (fun l139 => f1103_rest_L4 op ns (j + 1) l139) = some (.inr (l ++ px ([BL w] ++ us))) := by
  rw [put1 _ hl (by omega)]
  show f1103_rest_L4 op ns (j + 1) (l ++ px [BL w]) = _
  rw [h (j + 1) _ (px_ne (w := BL w) l hl) (by rw [List.length_append]; omega), px_append, List.append_assoc]
 unfold f1103_rest_L4
 by_cases h9 : op = 9
 · have : (op == 9) = true := by simpa using h9
   rw [this, cond_true, hw.1 h9]
   exact fin
 · have : (op == 9) = false := by simpa using h9
   rw [this, cond_false, hw.2 h9]
   exact fin
theorem pp_nil (k : Nat) : PPw k [] [] := fun n hn j l hl hb => by
 rw [px_nil, List.append_nil]
 unfold f1103_rest_L8
 rfl
theorem pp_cons {k : Nat} {x y : V} {ps : LW} {a b us : Ws} (hx : PV k x a) (hy : PV k y b) (h : PPw k ps us) : PPw k ((x, y) :: ps) ((a ++ b) ++ us) := by
 intro n hn j l hl hb
 have hb2 : l.length + ((px a).length + (px b).length + (px us).length) ≤ 100000 := by rw [px_append, px_append, List.length_append, List.length_append] at hb; exact hb
 obtain ⟨k1, n1, s1, f1⟩ := x
 obtain ⟨k2, n2, s2, f2⟩ := y
 unfold f1103_rest_L8
 rw [hx n hn l hl (by omega)]
 show (f1104_value n (V.mk k2 n2 s2 f2) (l ++ px a)).bind _ = _
 rw [hy n hn _ (by simp [hl]) (by rw [List.length_append]; omega)]
 show f1103_rest_L8 n ps (j + 1) ((l ++ px a) ++ px b) = _
 rw [h n hn (j + 1) _ (by simp [hl]) (by rw [List.length_append, List.length_append]; omega), px3]
theorem pk_nil (k : Nat) : PK k [] [] := fun n hn j l hl hb => by
 rw [px_nil, List.append_nil]
 unfold f1103_rest_L10
 rfl
theorem pk_cons {k : Nat} {x : Ln} {ks : List Ln} {a us : Ws} (hx : PL k x a) (h : PK k ks us) : PK k (x :: ks) (a ++ us) := by
 intro n hn j l hl hb
 have hb2 : l.length + ((px a).length + (px us).length) ≤ 100000 := by rw [px_append, List.length_append] at hb; exact hb
 obtain ⟨op, nm, to, ns, N, lo, hi, sep, ⟨k1, n1, s1, f1⟩, prs, kk⟩ := x
 unfold f1103_rest_L10
 rw [hx n hn l hl (by omega)]
 show f1103_rest_L10 (f1018a_lens n) ks (j + 1) (l ++ px a) = _
 rw [h n hn (j + 1) _ (by simp [hl]) (by rw [List.length_append]; omega), px_append, List.append_assoc]
theorem px_opar_false (l : LI) (ws : Ws) : l ++ px (opar false ws) = l := by simp [opar, px]
theorem px_owd_false (l : LI) (ws : Ws) : l ++ px (owd false ws) = l := by simp [owd, px]
theorem rest_p {m N : Nat} (hN : m ≤ N) {op : Int} {nm to : BA} {ns : LB} {n lo hi sep : Int} {x : V} {prs : LW} {ks : List Ln} {q1 q2 q3 q4 q5 q6 q7 q8 : Bool} {v9 : Int} {wN wV wP wK : Ws}
 (h1 : q3 = true → PN op ns wN) (h2 : q7 = true → PV m x wV) (h3 : q8 = true → PPw m prs wP) (h4 : (v9 != 0) = true → PK m ks wK) {l : LI} (hl : l ≠ [])
 (hb : l.length + (px (((opar q3 wN ++ owd q7 wV) ++ opar q8 wP) ++ opar (v9 != 0) wK)).length ≤ 100000) :
 f1103_rest (N + 1) (.mk op nm to ns n lo hi sep x prs ks) q1 q2 q3 q4 q5 q6 q7 q8 v9 l = some (l ++ px (((opar q3 wN ++ owd q7 wV) ++ opar q8 wP) ++ opar (v9 != 0) wK)) := by
 rw [px_append, px_append, px_append, List.length_append, List.length_append, List.length_append] at hb
 obtain ⟨xk, xn, xs, xf⟩ := x
 show b1103_rest N (f1018a_lens N) (.mk op nm to ns n lo hi sep (.mk xk xn xs xf) prs ks) q1 q2 q3 q4 q5 q6 q7 q8 v9 l = _
 unfold b1103_rest
 dsimp only
 refine sbind_eq (q3, l ++ px (opar q3 wN)) ?_ ?_
 · cases q3 with
   | false => rw [px_opar_false]; rfl
   | true => exact paren (F := fun l142 => some (.inr (true, l142))) hl (by omega) fun l hl hb => h1 rfl 0 l hl hb
 dsimp only
 have e1 : l ++ px (opar q3 wN) ≠ [] := by simp [hl]
 refine sbind_eq (q7, (l ++ px (opar q3 wN)) ++ px (owd q7 wV)) ?_ ?_
 · cases q7 with
   | false => rw [px_owd_false]; rfl
   | true =>
    have ew : owd true wV = wV := rfl
    rw [ew] at hb ⊢
    rw [cond_true, h2 rfl N hN _ e1 (by rw [List.length_append]; omega)]
    rfl
 dsimp only
 refine sbind_eq (q8, ((l ++ px (opar q3 wN)) ++ px (owd q7 wV)) ++ px (opar q8 wP)) ?_ ?_
 · cases q8 with
   | false => rw [px_opar_false]; rfl
   | true =>
    have e2 : (l ++ px (opar q3 wN)) ++ px (owd q7 wV) ≠ [] := by simp [hl]
    have b2 : ((l ++ px (opar q3 wN)) ++ px (owd q7 wV)).length + (px (opar true wP)).length ≤ 100000 := by rw [List.length_append, List.length_append]; omega
    exact paren (F := fun l306 => some (.inr (true, l306))) e2 b2 fun l hl hb => h3 rfl N hN 0 l hl hb
 dsimp only
 have e4 : l ++ px (((opar q3 wN ++ owd q7 wV) ++ opar q8 wP) ++ opar (v9 != 0) wK) = (((l ++ px (opar q3 wN)) ++ px (owd q7 wV)) ++ px (opar q8 wP)) ++ px (opar (v9 != 0) wK) := by simp [px_append]
 rw [e4]
 cases h9 : (v9 != 0) with
 | false => rw [px_opar_false]; rfl
 | true =>
  rw [h9] at hb
  have e3 : ((l ++ px (opar q3 wN)) ++ px (owd q7 wV)) ++ px (opar q8 wP) ≠ [] := by simp [hl]
  have b3 : (((l ++ px (opar q3 wN)) ++ px (owd q7 wV)) ++ px (opar q8 wP)).length + (px (opar true wK)).length ≤ 100000 := by rw [List.length_append, List.length_append, List.length_append]; omega
  exact paren (F := fun l404 => some l404) e3 b3 fun l hl hb => h4 h9 N hN 0 l hl hb
end Go.Clap

set_option linter.unusedVariables false
set_option linter.unusedSimpArgs false
set_option maxRecDepth 100000
namespace Go.Clap
open Go.IntKind (wrap)
abbrev RestT := Ln → Bool → Bool → Bool → Bool → Bool → Bool → Bool → Bool → Int → LI → Option LI
def tailP (rest : RestT) (op1 : Int) (nm2 to3 : BA) (ns4 : LB) (n5 lo6 hi7 sep8 k9 n10 : Int) (s11 : BA) (f12 : FV) (prs13 : LW) (ks14 : List Ln) (q18 q19 q20 q21 q22 q23 q24 q25 : Bool) (v26 : Int) (l17 : LI) : Option LI :=
 sbind (ο := Bool × LI) (cond q18 (cond (nm2.toList == (⟨#[]⟩ : BA).toList) ((f1005a_put ([(⟨#[45]⟩ : BA)] : LB) l17).bind fun l36 => some (.inr (true, l36))) ((f1005a_put ([nm2] : LB) l17).bind fun l35 => some (.inr (true, l35)))) (some (.inr (false, l17)))) (fun (q30, l31) => sbind (ο := Bool × LI) (cond q19 ((f1005a_put ([to3] : LB) l31).bind fun l42 => some (.inr (true, l42))) (some (.inr (false, l31)))) (fun (q38, l39) => sbind (ο := Bool × LI) (cond q21 ((f1022_Itoa n5).bind fun s49 => (f1005a_put ([s49] : LB) l39).bind fun l50 => some (.inr (true, l50))) (some (.inr (false, l39)))) (fun (q45, l46) => sbind (ο := Bool × LI) (cond q22 ((f1022_Itoa lo6).bind fun s58 => (f1022_Itoa hi7).bind fun s59 => (f1005a_put ([s58, s59] : LB) l46).bind fun l60 => some (.inr (true, l60))) (some (.inr (false, l46)))) (fun (q54, l55) => cond q23 ((f1022_Itoa (wrap .i64 sep8)).bind fun s62 => (f1005a_put ([s62] : LB) l55).bind fun l63 => (rest (Ln.mk op1 nm2 to3 ns4 n5 lo6 hi7 sep8 (V.mk k9 n10 s11 f12) prs13 ks14) q30 q38 q20 q45 q54 true q24 q25 v26 l63).bind fun l64 => some l64) ((rest (Ln.mk op1 nm2 to3 ns4 n5 lo6 hi7 sep8 (V.mk k9 n10 s11 f12) prs13 ks14) q30 q38 q20 q45 q54 false q24 q25 v26 l55).bind fun l61 => some l61)))))
theorem lens_a (N : Nat) (op1 : Int) (nm2 to3 : BA) (ns4 : LB) (n5 lo6 hi7 sep8 k9 n10 : Int) (s11 : BA) (f12 : FV) (prs13 : LW) (ks14 : List Ln) (r : LI) :
 f1018a_lens (N + 1) (.mk op1 nm2 to3 ns4 n5 lo6 hi7 sep8 (.mk k9 n10 s11 f12) prs13 ks14) r = (f1019_word op1).bind fun s => (f1005a_put ([s] : LB) r).bind fun l => (f144_table op1).bind fun (q18, q19, q20, q21, q22, q23, q24, q25, v26) => tailP (f1103_rest N) op1 nm2 to3 ns4 n5 lo6 hi7 sep8 k9 n10 s11 f12 prs13 ks14 q18 q19 q20 q21 q22 q23 q24 q25 v26 l := rfl
theorem lens_0 (N : Nat) (op1 : Int) (nm2 to3 : BA) (ns4 : LB) (n5 lo6 hi7 sep8 k9 n10 : Int) (s11 : BA) (f12 : FV) (prs13 : LW) (ks14 : List Ln) :
 f1018_lens N (.mk op1 nm2 to3 ns4 n5 lo6 hi7 sep8 (.mk k9 n10 s11 f12) prs13 ks14) = (f1019_word op1).bind fun s => (f1005_put ([s] : LB)).bind fun l => (f144_table op1).bind fun (q18, q19, q20, q21, q22, q23, q24, q25, v26) => tailP (f1103_rest N) op1 nm2 to3 ns4 n5 lo6 hi7 sep8 k9 n10 s11 f12 prs13 ks14 q18 q19 q20 q21 q22 q23 q24 q25 v26 l := rfl
def nmw (x : BA) : BA := if x = ⟨#[]⟩ then ⟨#[45]⟩ else x
theorem px_owd_false' (ws : Ws) : px (owd false ws) = [] := rfl
theorem tail_p {rest : RestT} {op : Int} {nm to : BA} {ns : LB} {n lo hi sep k9 n10 : Int} {s11 : BA} {f12 : FV} {prs : LW} {ks : List Ln} {q1 q2 q3 q4 q5 q6 q7 q8 : Bool} {v9 : Int} {wn wl wh ws : BA} {wR : Ws}
 (h4 : q4 = true → f1022_Itoa n = some wn) (h5 : q5 = true → f1022_Itoa lo = some wl ∧ f1022_Itoa hi = some wh) (h6 : q6 = true → f1022_Itoa (wrap .i64 sep) = some ws)
 (hR : ∀ l : LI, l ≠ [] → l.length + (px wR).length ≤ 100000 → rest (.mk op nm to ns n lo hi sep (.mk k9 n10 s11 f12) prs ks) q1 q2 q3 q4 q5 q6 q7 q8 v9 l = some (l ++ px wR)) {l : LI} (hl : l ≠ [])
 (hb : l.length + (px (((((owd q1 [BL (nmw nm)] ++ owd q2 [BL to]) ++ owd q4 [BL wn]) ++ owd q5 [BL wl, BL wh]) ++ owd q6 [BL ws]) ++ wR)).length ≤ 100000) :
 tailP rest op nm to ns n lo hi sep k9 n10 s11 f12 prs ks q1 q2 q3 q4 q5 q6 q7 q8 v9 l = some (l ++ px (((((owd q1 [BL (nmw nm)] ++ owd q2 [BL to]) ++ owd q4 [BL wn]) ++ owd q5 [BL wl, BL wh]) ++ owd q6 [BL ws]) ++ wR)) := by
 have e0 : l ++ px (((((owd q1 [BL (nmw nm)] ++ owd q2 [BL to]) ++ owd q4 [BL wn]) ++ owd q5 [BL wl, BL wh]) ++ owd q6 [BL ws]) ++ wR) = (((((l ++ px (owd q1 [BL (nmw nm)])) ++ px (owd q2 [BL to])) ++ px (owd q4 [BL wn])) ++ px (owd q5 [BL wl, BL wh])) ++ px (owd q6 [BL ws])) ++ px wR := by simp [px_append]
 have hb2 : l.length + ((px (owd q1 [BL (nmw nm)])).length + (px (owd q2 [BL to])).length + (px (owd q4 [BL wn])).length + (px (owd q5 [BL wl, BL wh])).length + (px (owd q6 [BL ws])).length + (px wR).length) ≤ 100000 := by
  simp only [px_append, List.length_append] at hb
  omega
 rw [e0]
 clear e0 hb
 unfold tailP
 generalize hW1 : px (owd q1 [BL (nmw nm)]) = W1 at hb2 ⊢
 generalize hW2 : px (owd q2 [BL to]) = W2 at hb2 ⊢
 generalize hW3 : px (owd q4 [BL wn]) = W3 at hb2 ⊢
 generalize hW4 : px (owd q5 [BL wl, BL wh]) = W4 at hb2 ⊢
 generalize hW5 : px (owd q6 [BL ws]) = W5 at hb2 ⊢
 have n1 : l ++ W1 ≠ [] := by simp [hl]
 have n2 : (l ++ W1) ++ W2 ≠ [] := by simp [hl]
 have n3 : ((l ++ W1) ++ W2) ++ W3 ≠ [] := by simp [hl]
 have n4 : (((l ++ W1) ++ W2) ++ W3) ++ W4 ≠ [] := by simp [hl]
 have n5' : ((((l ++ W1) ++ W2) ++ W3) ++ W4) ++ W5 ≠ [] := by simp [hl]
 refine sbind_eq (q1, l ++ W1) ?_ ?_
 · subst hW1
   cases q1 with
   | false => rw [px_owd_false]; rfl
   | true =>
    have ew : owd true [BL (nmw nm)] = [BL (nmw nm)] := rfl
    rw [ew] at hb2 ⊢
    rw [cond_true]
    by_cases hnm : nm = ⟨#[]⟩
    · subst hnm
      rw [k_beq, cond_true]
      have : nmw (⟨#[]⟩ : BA) = ⟨#[45]⟩ := rfl
      rw [this] at hb2 ⊢
      rw [put1 _ hl (by omega)]
      rfl
    · have hne : (nm.toList == (⟨#[]⟩ : BA).toList) = false := by
       cases hc : (nm.toList == (⟨#[]⟩ : BA).toList) with
       | false => rfl
       | true => exact absurd (k_eq hc) hnm
      have : nmw nm = nm := if_neg hnm
      rw [this] at hb2 ⊢
      rw [hne, cond_false, put1 _ hl (by omega)]
      rfl
 dsimp only
 refine sbind_eq (q2, (l ++ W1) ++ W2) ?_ ?_
 · subst hW2
   cases q2 with
   | false => rw [px_owd_false]; rfl
   | true =>
    have ew : owd true [BL to] = [BL to] := rfl
    rw [ew] at hb2 ⊢
    rw [cond_true, put1 _ n1 (by rw [List.length_append]; omega)]
    rfl
 dsimp only
 refine sbind_eq (q4, ((l ++ W1) ++ W2) ++ W3) ?_ ?_
 · subst hW3
   cases q4 with
   | false => rw [px_owd_false]; rfl
   | true =>
    have ew : owd true [BL wn] = [BL wn] := rfl
    rw [ew] at hb2 ⊢
    rw [cond_true, h4 rfl]
    show (f1005a_put ([wn] : LB) ((l ++ W1) ++ W2)).bind _ = _
    rw [put1 _ n2 (by simp only [List.length_append]; omega)]
    rfl
 dsimp only
 refine sbind_eq (q5, (((l ++ W1) ++ W2) ++ W3) ++ W4) ?_ ?_
 · subst hW4
   cases q5 with
   | false => rw [px_owd_false]; rfl
   | true =>
    have ew : owd true [BL wl, BL wh] = [BL wl, BL wh] := rfl
    rw [ew] at hb2 ⊢
    rw [cond_true, (h5 rfl).1]
    show ((f1022_Itoa hi).bind fun s59 => (f1005a_put ([wl, s59] : LB) (((l ++ W1) ++ W2) ++ W3)).bind _) = _
    rw [(h5 rfl).2]
    show (f1005a_put ([wl, wh] : LB) (((l ++ W1) ++ W2) ++ W3)).bind _ = _
    rw [put2 _ _ n3 (by simp only [List.length_append]; omega)]
    rfl
 dsimp only
 cases q6 with
 | false =>
  rw [px_owd_false'] at hW5
  subst hW5
  rw [List.append_nil] at n5' ⊢
  rw [cond_false, hR _ n4 (by simp only [List.length_append]; omega)]
  rfl
 | true =>
  have ew : owd true [BL ws] = [BL ws] := rfl
  rw [ew] at hW5
  rw [cond_true, h6 rfl]
  show (f1005a_put ([ws] : LB) ((((l ++ W1) ++ W2) ++ W3) ++ W4)).bind _ = _
  subst hW5
  rw [put1 _ n4 (by simp only [List.length_append]; omega)]
  show (rest _ _ _ _ _ _ _ _ _ _ _).bind _ = _
  rw [hR _ n5' (by simp only [List.length_append]; omega)]
  rfl
end Go.Clap
