/- The checks of the small code against the loaded functions. -/
import Derived.Test.YtnjgakngmbbmfaaGreatDoorClapK5
set_option linter.unusedVariables false
set_option linter.unusedSimpArgs false
set_option maxRecDepth 100000
namespace Go.Clap
open Go.IntKind (wrap)
theorem PV.mono {k m : Nat} (h : k ≤ m) {x : V} {ws : List (List UInt8)} (hx : PV k x ws) : PV m x ws := fun n hn => hx n (by omega)
theorem PF.mono {k m : Nat} (h : k ≤ m) {kd : Int} {x : FV} {ws : List (List UInt8)} (hx : PF k kd x ws) : PF m kd x ws := fun n hn => hx n (by omega)
abbrev wUnit : BA := ⟨#[117, 110, 105, 116]⟩
abbrev wFloat : BA := ⟨#[102, 108, 111, 97, 116]⟩
abbrev wText : BA := ⟨#[116, 101, 120, 116]⟩
abbrev wOpen : BA := ⟨#[40]⟩
abbrev wShut : BA := ⟨#[41]⟩
theorem pv_unit (n : Int) (s : BA) (f : FV) : PV 1 (.mk 0 n s f) [BL wUnit] := by
 intro N hN l hl hb
 obtain ⟨N, rfl⟩ : ∃ m, N = m + 1 := ⟨N - 1, by omega⟩
 show (f1005a_put ([wUnit] : LB) l).bind (fun l189 => some l189) = _
 rw [put1 _ hl hb]
 rfl
theorem pv_num {k n : Int} {s : BA} {f : FV} {w kw : BA} (hk : (k = 1 ∨ k = 2 ∨ k = 4 ∨ k = 11) ∧ KK k kw) (hw : f1022_Itoa n = some w) : PV 1 (.mk k n s f) [BL kw, BL w] := by
 intro N hN l hl hb
 obtain ⟨N, rfl⟩ : ∃ m, N = m + 1 := ⟨N - 1, by omega⟩
 have fin : ((f1022_Itoa n).bind fun s187 => (f1005a_put ([kw, s187] : LB) l).bind fun l188 => some l188) = some (l ++ px [BL kw, BL w]) := by
  rw [hw]
  show (f1005a_put ([kw, w] : LB) l).bind (fun l188 => some l188) = _
  rw [put2 _ _ hl hb]
  rfl
 obtain ⟨h1, h2⟩ := hk
 unfold KK at h2
 rcases h1 with rfl | rfl | rfl | rfl
 · have : kw = ⟨#[98, 111, 111, 108]⟩ := by simpa using h2
   subst this; exact fin
 · have : kw = ⟨#[105, 110, 116]⟩ := by simpa using h2
   subst this; exact fin
 · have : kw = ⟨#[100, 97, 121]⟩ := by simpa using h2
   subst this; exact fin
 · have : kw = ⟨#[109, 97, 114, 107]⟩ := by simpa using h2
   subst this; exact fin
theorem pv_text {n : Int} {s : BA} {f : FV} {w : BA} (hw : f1006_quote s = some w) : PV 1 (.mk 5 n s f) [BL wText, BL w] := by
 intro N hN l hl hb
 obtain ⟨N, rfl⟩ : ∃ m, N = m + 1 := ⟨N - 1, by omega⟩
 show ((f1006_quote s).bind fun s130 => (f1005a_put ([wText, s130] : LB) l).bind fun l131 => some l131) = _
 rw [hw]
 show (f1005a_put ([wText, w] : LB) l).bind (fun l131 => some l131) = _
 rw [put2 _ _ hl hb]
 rfl
theorem pv_float {s : BA} {f : FV} {w : BA} (h : Hx16 w) : PV 1 (.mk 3 (wrap .i64 ((val (BL w) 0 : Nat) : Int)) s f) [BL wFloat, BL w] := by
 intro N hN l hl hb
 obtain ⟨N, rfl⟩ : ∃ m, N = m + 1 := ⟨N - 1, by omega⟩
 obtain ⟨o, ho, rfl⟩ := float_loop h 16 0 (List.replicate 16 (0 : Int)) rfl rfl (fun j u hj => by omega)
 generalize wrap .i64 ((val (BL w) 0 : Nat) : Int) = n at ho ⊢
 show (sbind (ο := LI) (f1104_value_L4 n 16 ((0 : Nat) : Int) (List.replicate 16 (0 : Int))) (fun l157 => (f1005a_put ([wFloat, (strOfNums l157)] : LB) l).bind fun l184 => some l184)) = _
 rw [ho]
 show (f1005a_put ([wFloat, (strOfNums ((BL w).map fun u => (u.toNat : Int)))] : LB) l).bind (fun l184 => some l184) = _
 rw [nums_back, ba_data, put2 _ _ hl hb]
 rfl
theorem px3 (a b c : List (List UInt8)) (l : LI) : l ++ px (a ++ b ++ c) = ((l ++ px a) ++ px b) ++ px c := by simp [px_append]
theorem pv_fields {m : Nat} {k n : Int} {s : BA} {f : FV} {kw : BA} {ws : List (List UInt8)} (hk : (k = 6 ∨ k = 7 ∨ k = 8 ∨ k = 9) ∧ KK k kw) (hf : PF m k f ws) : PV (m + 1) (.mk k n s f) ([BL kw, BL wOpen] ++ ws ++ [BL wShut]) := by
 intro N hN l hl hb
 obtain ⟨N, rfl⟩ : ∃ m, N = m + 1 := ⟨N - 1, by omega⟩
 have hb2 : l.length + ((px [BL kw, BL wOpen]).length + (px ws).length + (px [BL wShut]).length) ≤ 100000 := by
  rw [px_append, px_append, List.length_append, List.length_append] at hb; exact hb
 have fin : ((f1005a_put ([kw, wOpen] : LB) l).bind fun l21 => sbind (ο := LI) (f1104_value_L2 (f1104_value N) k f 0 l21) (fun l74 => (f1005a_put ([wShut] : LB) l74).bind fun l129 => some l129)) = some (l ++ px ([BL kw, BL wOpen] ++ ws ++ [BL wShut])) := by
  rw [put2 _ _ hl (by omega)]
  show sbind (ο := LI) (f1104_value_L2 (f1104_value N) k f 0 (l ++ px [BL kw, BL wOpen])) _ = _
  rw [hf N (by omega) 0 _ (px_ne (w := BL kw) l hl) (by rw [List.length_append]; omega)]
  show (f1005a_put ([wShut] : LB) ((l ++ px [BL kw, BL wOpen]) ++ px ws)).bind (fun l129 => some l129) = _
  rw [put1 _ (by simp [hl]) (by rw [List.length_append, List.length_append]; omega), px3]
  rfl
 obtain ⟨h1, h2⟩ := hk
 unfold KK at h2
 rcases h1 with rfl | rfl | rfl | rfl
 · have : kw = ⟨#[114, 101, 99, 111, 114, 100]⟩ := by simpa using h2
   subst this; exact fin
 · have : kw = ⟨#[99, 104, 111, 105, 99, 101]⟩ := by simpa using h2
   subst this; exact fin
 · have : kw = ⟨#[108, 105, 115, 116]⟩ := by simpa using h2
   subst this; exact fin
 · have : kw = ⟨#[109, 97, 112]⟩ := by simpa using h2
   subst this; exact fin
theorem pf_nil (m : Nat) (k : Int) : PF m k [] [] := by
 intro N hN j l hl hb
 show (some (.inr l) : Option (Sum LI LI)) = _
 rw [px_nil, List.append_nil]
theorem pf_name {m : Nat} {k : Int} (hk : k = 6 ∨ k = 7) (a : BA) {x : V} {fs : FV} {ws us : List (List UInt8)} (hx : PV m x ws) (hf : PF m k fs us) : PF m k ((a, x) :: fs) (([BL a] ++ ws) ++ us) := by
 intro N hN j l hl hb
 have hb2 : l.length + ((px [BL a]).length + (px ws).length + (px us).length) ≤ 100000 := by
  rw [px_append, px_append, List.length_append, List.length_append] at hb; exact hb
 obtain ⟨k1, n1, s1, f1⟩ := x
 have fin : ((f1005a_put ([a] : LB) l).bind fun l127 => (f1104_value N (V.mk k1 n1 s1 f1) l127).bind fun l128 => f1104_value_L2 (f1104_value N) k fs (j + 1) l128) = some (.inr (l ++ px (([BL a] ++ ws) ++ us))) := by
  rw [put1 _ hl (by omega)]
  show (f1104_value N (V.mk k1 n1 s1 f1) (l ++ px [BL a])).bind _ = _
  rw [hx N hN _ (px_ne (w := BL a) l hl) (by rw [List.length_append]; omega)]
  show f1104_value_L2 (f1104_value N) k fs (j + 1) ((l ++ px [BL a]) ++ px ws) = _
  rw [hf N hN (j + 1) _ (by simp [hl]) (by rw [List.length_append, List.length_append]; omega), px3]
 rcases hk with rfl | rfl <;> exact fin
theorem pf_key {m : Nat} {a w : BA} (ha : f1006_quote a = some w) {x : V} {fs : FV} {ws us : List (List UInt8)} (hx : PV m x ws) (hf : PF m 9 fs us) : PF m 9 ((a, x) :: fs) (([BL w] ++ ws) ++ us) := by
 intro N hN j l hl hb
 have hb2 : l.length + ((px [BL w]).length + (px ws).length + (px us).length) ≤ 100000 := by
  rw [px_append, px_append, List.length_append, List.length_append] at hb; exact hb
 obtain ⟨k1, n1, s1, f1⟩ := x
 show ((f1006_quote a).bind fun s124 => (f1005a_put ([s124] : LB) l).bind fun l125 => (f1104_value N (V.mk k1 n1 s1 f1) l125).bind fun l126 => f1104_value_L2 (f1104_value N) 9 fs (j + 1) l126) = _
 rw [ha]
 show ((f1005a_put ([w] : LB) l).bind fun l125 => (f1104_value N (V.mk k1 n1 s1 f1) l125).bind fun l126 => f1104_value_L2 (f1104_value N) 9 fs (j + 1) l126) = _
 rw [put1 _ hl (by omega)]
 show (f1104_value N (V.mk k1 n1 s1 f1) (l ++ px [BL w])).bind _ = _
 rw [hx N hN _ (px_ne (w := BL w) l hl) (by rw [List.length_append]; omega)]
 show f1104_value_L2 (f1104_value N) 9 fs (j + 1) ((l ++ px [BL w]) ++ px ws) = _
 rw [hf N hN (j + 1) _ (by simp [hl]) (by rw [List.length_append, List.length_append]; omega), px3]
theorem pf_elem {m : Nat} {a : BA} {x : V} {fs : FV} {ws us : List (List UInt8)} (hx : PV m x ws) (hf : PF m 8 fs us) : PF m 8 ((a, x) :: fs) (ws ++ us) := by
 intro N hN j l hl hb
 have hb2 : l.length + ((px ws).length + (px us).length) ≤ 100000 := by
  rw [px_append, List.length_append] at hb; exact hb
 obtain ⟨k1, n1, s1, f1⟩ := x
 show ((f1104_value N (V.mk k1 n1 s1 f1) l).bind fun l123 => f1104_value_L2 (f1104_value N) 8 fs (j + 1) l123) = _
 rw [hx N hN _ hl (by omega)]
 show f1104_value_L2 (f1104_value N) 8 fs (j + 1) (l ++ px ws) = _
 rw [hf N hN (j + 1) _ (by simp [hl]) (by rw [List.length_append]; omega), px_append, List.append_assoc]
theorem RdW.lt {s : BA} {v v' : Int} {ws : List (List UInt8)} (h : RdW s v ws v') (hw : ws ≠ []) : v < v' := by
 obtain ⟨h1, h2, h3⟩ := h
 rcases Int.lt_or_eq_of_le h1 with h4 | h4
 · exact h4
 · exfalso
   subst h4
   have := congrArg List.length h3
   rw [List.length_append] at this
   cases ws with
   | nil => exact hw rfl
   | cons w ws => rw [enc_cons, List.length_append, List.length_cons] at this; omega
end Go.Clap
