/- The checks of the small code against the loaded functions. -/
import Derived.Test.YtnjgakngmbbmfaaGreatDoorClapJ2
import Derived.Test.YtnjgakngmbbmfaaGreatDoorClapL0
import Derived.Lib.IndexLaws
import Derived.Lib.IndexBytes
import Derived.Lib.Strings
set_option linter.unusedVariables false
set_option linter.unusedSimpArgs false
set_option maxRecDepth 100000
namespace Go.Clap
open Go.IntKind (wrap)
abbrev BL (s : BA) : List UInt8 := s.data.toList
def X1 (s : BA) : List UInt8 := BL s ++ [32]
def enc (ws : List (List UInt8)) : List UInt8 := ws.flatMap fun w => w ++ [32]
theorem enc_cons (w : List UInt8) (ws : List (List UInt8)) : enc (w :: ws) = w ++ 32 :: enc ws := by simp [enc]
theorem enc_append (a b : List (List UInt8)) : enc (a ++ b) = enc a ++ enc b := by simp [enc]
theorem enc_one (w : List UInt8) : enc [w] = w ++ [32] := by simp [enc]
theorem X1_len (s : BA) : (X1 s).length = s.size + 1 := by unfold X1; rw [List.length_append]; rfl
theorem BL_len (s : BA) : (BL s).length = s.size := rfl
theorem ba_eq {a b : BA} (h : BL a = BL b) : a = b := ByteArray.ext (Array.toList_inj.mp h)
theorem k_eq {a b : BA} (h : (a.toList == b.toList) = true) : a = b := by
 have h1 := beq_iff_eq.1 h
 rw [Lib.toList_data, Lib.toList_data] at h1
 exact ba_eq h1
theorem k_ne {a b : BA} (h : (a.toList == b.toList) = false) : a ≠ b := fun e => by subst e; rw [beq_self_eq_true] at h; cases h
theorem k_beq (a : BA) : (a.toList == a.toList) = true := beq_self_eq_true _
theorem i_getB' {β : Type} {s : BA} {i : Int} {f : UInt8 → Option β} {R : β → Prop} (h0 : 0 ≤ i) (h1 : i < s.size) (h : ∀ u, (BL s)[i.toNat]? = some u → sat (f u) R) : sat (getB s i f) R := by
 unfold getB
 have hi : i.toNat < (BL s).length := by rw [BL_len]; omega
 have e : s.data[i.toNat]? = (BL s)[i.toNat]? := by simp [BL]
 rw [if_pos h0, e, List.getElem?_eq_getElem hi]
 exact h _ (List.getElem?_eq_getElem hi)
theorem wrap64 {x : Int} (h0 : -9223372036854775808 ≤ x) (h1 : x ≤ 9223372036854775807) : wrap .i64 x = x := wrap_id h0 h1
theorem index_t (t : BA) (ht : t.size ≤ 4000) : sat (f1016_Index t ⟨#[32]⟩) fun i => i = Lib.indexByte (BL t) 32 := by
 unfold f1016_Index
 refine i_cond (fun h => absurd h (by decide)) fun _ => i_cond (fun h => ?_) fun _ => i_cond (fun _ => ?_) (fun h => absurd h (by decide))
 · have := k_eq h
   subst this
   exact sat_mk (by decide)
 · refine i_getB' (by decide) (by decide) fun u hu => ?_
   have hu : u = 32 := by simpa [BL] using hu.symm
   subst hu
   unfold f114_IndexByte
   refine i_bind (sat_mk (sat_mk ?_))
   have h32 : (((32 : UInt8).toNat : Int)).toNat.toUInt8 = 32 := by decide
   rw [h32]
   exact Lib.firstIdx_eq t 32
theorem cut_t (t : BA) (ht : t.size ≤ 4000) : sat (f1014_Cut t ⟨#[32]⟩) fun r => ∃ e, BL t = BL r.1 ++ e ∧ 32 ∉ BL r.1 ∧ (e = [] ∨ ∃ e', e = 32 :: e') := by
 unfold f1014_Cut f1015_Cut
 refine i_call (Q := fun r : BA × BA × Bool => ∃ e, BL t = BL r.1 ++ e ∧ 32 ∉ BL r.1 ∧ (e = [] ∨ ∃ e', e = 32 :: e')) ?_ fun r h => sat_mk h
 refine i_call (index_t t ht) fun i hi => ?_
 subst hi
 have hge := Lib.indexByte_ge (BL t) 32
 refine i_cond (fun h => ?_) fun h => ?_
 · have h0 : 0 ≤ Lib.indexByte (BL t) 32 := by simpa using h
   generalize hq : Lib.indexByte (BL t) 32 = i at h0
   obtain ⟨o, rfl⟩ := Int.eq_ofNat_of_zero_le h0
   obtain ⟨h1, h2⟩ := Lib.indexByte_some hq
   have hlt : o < t.size := by rw [← BL_len]; exact (List.getElem?_eq_some_iff.1 h1).1
   have h32 : (((⟨#[32]⟩ : BA).size : Nat) : Int) = 1 := by decide
   have ew : wrap .i64 ((o : Int) + 1) = (o : Int) + 1 := wrap64 (by omega) (by omega)
   rw [h32, ew]
   refine i_grdP ⟨by omega, by omega, by omega⟩ (i_grdP ⟨by omega, by omega, by omega⟩ (sat_mk ?_))
   have e1 : BL (t.extract 0 ((o : Int)).toNat) = (BL t).take o := by
    show (t.extract 0 ((o : Int)).toNat).data.toList = _
    rw [Lib.extract_data]; simp
   refine ⟨(BL t).drop o, ?_, ?_, .inr ⟨(BL t).drop (o + 1), ?_⟩⟩
   · show BL t = BL (t.extract 0 ((o : Int)).toNat) ++ _
     rw [e1, List.take_append_drop]
   · show 32 ∉ BL (t.extract 0 ((o : Int)).toNat)
     rw [e1]
     intro hm
     obtain ⟨k, hk, he⟩ := List.mem_iff_getElem.1 hm
     rw [List.length_take] at hk
     refine h2 k (by omega) ?_
     rw [List.getElem_take] at he
     rw [List.getElem?_eq_getElem (by omega), he]
   · have hl : o < (BL t).length := by rw [BL_len]; exact hlt
     rw [List.drop_eq_getElem_cons hl]
     rw [List.getElem?_eq_getElem hl] at h1
     rw [Option.some.inj h1]
 · have h0 : Lib.indexByte (BL t) 32 = -1 := by
    have : ¬ 0 ≤ Lib.indexByte (BL t) 32 := by simpa using h
    omega
   refine sat_mk ⟨[], by simp, ?_, .inl rfl⟩
   intro hm
   obtain ⟨k, hk, he⟩ := List.mem_iff_getElem.1 hm
   exact Lib.indexByte_none h0 k (by rw [List.getElem?_eq_getElem hk, he])
def Wrd (s : BA) (v : Int) (w : BA) : Prop := v + w.size ≤ s.size ∧ 32 ∉ BL w ∧ (X1 s).drop v.toNat = BL w ++ 32 :: (X1 s).drop (v + w.size + 1).toNat
theorem peek_s {s : BA} {v : Int} {q : Bool} (h0 : 0 ≤ v) (h1 : v ≤ s.size + 1) (hs : s.size ≤ 4000) : sat (f1013_peek s v q) fun r => r.2 = true → Wrd s v r.1 := by
 unfold f1013_peek
 refine i_cond (fun _ => sat_mk (fun h => by cases h)) fun hv => ?_
 have hv : v ≤ s.size := by have := of_decide_eq_false hv; omega
 refine i_grdP ⟨by omega, by omega, by omega⟩ ?_
 have hx : BL (s.extract v.toNat s.size) = (BL s).drop v.toNat := Lib.extract_to_end s v.toNat
 have hz : (s.extract v.toNat s.size).size ≤ 4000 := by
  rw [← BL_len, hx, List.length_drop, BL_len]; omega
 refine i_call (cut_t _ hz) fun r ⟨e, h2, h3, h4⟩ => sat_mk fun _ => ?_
 obtain ⟨w, w2, q2⟩ := r
 dsimp only at h2 h3 ⊢
 rw [hx] at h2
 have hlen : s.size - v.toNat = w.size + e.length := by
  have := congrArg List.length h2
  simpa [BL_len, List.length_drop, List.length_append] using this
 have hd : (X1 s).drop v.toNat = BL w ++ (e ++ [32]) := by
  unfold X1
  rw [List.drop_append_of_le_length (by rw [BL_len]; omega), h2, List.append_assoc]
 obtain ⟨Y, hY⟩ : ∃ Y, e ++ [32] = 32 :: Y := by
  rcases h4 with rfl | ⟨e', rfl⟩
  · exact ⟨[], rfl⟩
  · exact ⟨e' ++ [32], rfl⟩
 rw [hY] at hd
 refine ⟨by omega, h3, ?_⟩
 rw [hd]
 have e2 : (v + w.size + 1).toNat = v.toNat + (w.size + 1) := by omega
 rw [e2, ← List.drop_drop, hd, ← BL_len w, ← List.drop_drop, List.drop_left]
 rfl
def RdW (s : BA) (v : Int) (ws : List (List UInt8)) (v' : Int) : Prop := v ≤ v' ∧ v' ≤ s.size + 1 ∧ (X1 s).drop v.toNat = enc ws ++ (X1 s).drop v'.toNat
theorem RdW.refl {s : BA} {v : Int} (h : v ≤ s.size + 1) : RdW s v [] v := ⟨by omega, h, rfl⟩
theorem RdW.trans {s : BA} {a b c : Int} {ws us : List (List UInt8)} (h : RdW s a ws b) (k : RdW s b us c) : RdW s a (ws ++ us) c :=
 ⟨by have := h.1; have := k.1; omega, k.2.1, by rw [h.2.2, k.2.2, enc_append, List.append_assoc]⟩
theorem Wrd.rd {s : BA} {v : Int} {w : BA} (h : Wrd s v w) : RdW s v [BL w] (v + w.size + 1) := by
 obtain ⟨h1, h2, h3⟩ := h
 exact ⟨by omega, by omega, by rw [h3, enc_one, List.append_assoc]; rfl⟩
end Go.Clap

set_option linter.unusedVariables false
set_option linter.unusedSimpArgs false
set_option maxRecDepth 100000
namespace Go.Clap
open Go.IntKind (wrap)
theorem nib : ∀ n : Nat, n < 256 → (0 ≤ bShr .u8 (n : Int) 4 ∧ bShr .u8 (n : Int) 4 < 16) ∧ (0 ≤ bAnd .u8 (n : Int) 15 ∧ bAnd .u8 (n : Int) 15 < 16) := by decide +kernel
abbrev HX : BA := ⟨#[48, 49, 50, 51, 52, 53, 54, 55, 56, 57, 97, 98, 99, 100, 101, 102]⟩
theorem nibs {β : Type} {R : β → Prop} (c : UInt8) {f : UInt8 → UInt8 → Option β} (h : ∀ a b, sat (f a b) R) : sat (getB HX (bShr .u8 (c.toNat : Int) 4) fun a => getB HX (bAnd .u8 (c.toNat : Int) 15) fun b => f a b) R := by
 obtain ⟨⟨h1, h2⟩, h3, h4⟩ := nib c.toNat c.toNat_lt
 exact i_getB' h1 h2 fun a _ => i_getB' h3 h4 fun b _ => h a b
theorem i_any' {τ ο : Type} {m : Option (Sum τ ο)} {K : ο → Option τ} {R : τ → Prop} (P : ο → Prop) (h : sat m fun o => ∃ x, o = .inr x ∧ P x) (k : ∀ x, P x → sat (K x) R) : sat (sbind m K) R := by
 refine i_sbind (sat_mono h ?_)
 rintro _ ⟨x, rfl, hx⟩
 exact k x hx
theorem quote_loop (s : BA) : ∀ (g : Nat) (v : Int) (l : LI), 0 ≤ v → g + v = s.size → l.length + 3 * g ≤ 20000 → sat (f1006_quote_L2 s g v l) fun o => ∃ l' : LI, o = .inr l' ∧ l'.length ≤ 20000
 | 0, v, l, _, _, hl => sat_mk ⟨l, rfl, by omega⟩
 | g + 1, v, l, h0, h1, hl => by
  unfold f1006_quote_L2
  refine i_getB' h0 (by omega) fun c _ => ?_
  have three : ∀ a b : UInt8, sat (grdP (l.length + ([92, (a.toNat : Int), (b.toNat : Int)] : LI).length ≤ 68719476736) (f1006_quote_L2 s g (v + 1) (l ++ ([92, (a.toNat : Int), (b.toNat : Int)] : LI)))) fun o => ∃ l' : LI, o = .inr l' ∧ l'.length ≤ 20000 :=
   fun a b => i_grdP (by simp only [List.length_cons, List.length_nil]; omega) (quote_loop s g (v + 1) _ (by omega) (by omega) (by simp only [List.length_append, List.length_cons, List.length_nil]; omega))
  refine i_cond (fun _ => nibs c three) fun _ => i_cond (fun _ => nibs c three) fun _ => i_cond (fun _ => nibs c three) fun _ => i_cond (fun _ => nibs c three) fun _ => ?_
  exact i_grdP (by simp only [List.length_cons, List.length_nil]; omega) (quote_loop s g (v + 1) _ (by omega) (by omega) (by simp only [List.length_append, List.length_cons, List.length_nil]; omega))
theorem quote_s (s : BA) (hs : s.size ≤ 4000) : sat (f1006_quote s) fun _ => True := by
 unfold f1006_quote
 refine i_sbind (i_grdP (by omega) (sat_mono (quote_loop s _ 0 [34] (by omega) (by omega) (by simp only [List.length_cons, List.length_nil]; omega)) ?_))
 rintro o ⟨l', rfl, h⟩
 exact i_grdP (by simp only [List.length_cons, List.length_nil]; omega) (sat_mk trivial)
theorem unq_loop (w : BA) (hw : w.size ≤ 4000) (h2 : 2 ≤ w.size) : ∀ (g : Nat) (l : LI) (i : Int), 0 ≤ i → w.size < g + i → (l.length : Int) ≤ i → i ≤ (w.size : Int) - 2 →
 sat (f1007_unquote_L2 w g l i) fun o => o = .inl (⟨#[]⟩, false) ∨ ∃ l' : LI, o = .inr l' ∧ (l'.length : Int) ≤ w.size
 | 0, l, i, h0, hg, hl, hi => by
  unfold f1007_unquote_L2
  exfalso; omega
 | g + 1, l, i, h0, hg, hl, hi => by
  unfold f1007_unquote_L2
  have e0 : wrap .i64 ((w.size : Int) - 1) = (w.size : Int) - 1 := wrap64 (by omega) (by omega)
  have e1 : wrap .i64 (i + 1) = i + 1 := wrap64 (by omega) (by omega)
  have e2 : wrap .i64 (i + 2) = i + 2 := wrap64 (by omega) (by omega)
  have e3 : wrap .i64 (i + 2 + 1) = i + 2 + 1 := wrap64 (by omega) (by omega)
  rw [e0, e1, e2, e3]
  have hz : (w.extract ((1 : Int).toNat) (((w.size : Int) - 1).toNat)).size = w.size - 2 := by
   rw [ByteArray.size_extract]; omega
  generalize hu : w.extract ((1 : Int).toNat) (((w.size : Int) - 1).toNat) = u at hz ⊢
  refine i_cond (fun h => ?_) fun h => sat_mk (.inr ⟨l, rfl, by omega⟩)
  · have hlt : i < u.size := of_decide_eq_true h
    refine i_getB' h0 hlt fun c _ => i_cond (fun _ => ?_) fun _ => i_cond (fun _ => i_lft (sat_mk (.inl rfl))) fun h3 => ?_
    · exact i_getB' h0 hlt fun c _ => i_grdP (by simp only [List.length_cons, List.length_nil]; omega) (unq_loop w hw h2 g _ _ (by omega) (by omega) (by simp only [List.length_append, List.length_cons, List.length_nil]; omega) (by omega))
    · have hlt2 : i + 2 < u.size := by have := of_decide_eq_false h3; omega
      refine i_getB' (by omega) (by omega) fun c _ => i_getB' (by omega) (by omega) fun d _ => ?_
      have hI : ∀ x : Int, sat (f91_IndexByte HX x) fun _ => True := fun x => ⟨_, rfl, trivial⟩
      refine i_call (hI _) fun a _ => i_call (hI _) fun b _ => i_cond (fun _ => i_lft (sat_mk (.inl rfl))) fun _ => i_cond (fun _ => i_lft (sat_mk (.inl rfl))) fun _ => ?_
      exact i_grdP (by simp only [List.length_cons, List.length_nil]; omega) (unq_loop w hw h2 g _ _ (by omega) (by omega) (by simp only [List.length_append, List.length_cons, List.length_nil]; omega) (by omega))
theorem unquote_s (n : Nat) (w : BA) (hw : w.size ≤ 4000) (hn : 4010 ≤ n) : sat (f1007_unquote n w) fun r => r.2 = true → f1006_quote r.1 = some w := by
 unfold f1007_unquote
 refine i_cond (fun _ => sat_mk (fun h => by cases h)) fun h2 => ?_
 have h2 : 2 ≤ w.size := by have := of_decide_eq_false h2; omega
 have e0 : wrap .i64 ((w.size : Int) - 1) = (w.size : Int) - 1 := wrap64 (by omega) (by omega)
 rw [e0]
 refine i_getB' (by omega) (by omega) fun c hc => i_cond (fun _ => sat_mk (fun h => by cases h)) fun k1 => ?_
 refine i_getB' (by omega) (by omega) fun d hd => i_cond (fun _ => sat_mk (fun h => by cases h)) fun k2 => ?_
 have hc : c = 34 := by
  have : (c.toNat : Int) = 34 := by simpa using k1
  exact UInt8.toNat_inj.1 (by simpa using (by omega : c.toNat = 34))
 have hd' : d = 34 := by
  have : (d.toNat : Int) = 34 := by simpa using k2
  exact UInt8.toNat_inj.1 (by simpa using (by omega : d.toNat = 34))
 subst hc; subst hd'
 refine i_grdP ⟨by omega, by omega, by omega, by omega⟩ (i_sbind (sat_mono (unq_loop w hw h2 n [] 0 (by omega) (by omega) (by simp) (by omega)) ?_))
 rintro o (rfl | ⟨l', rfl, hl⟩)
 · exact fun h => by cases h
 have hz : (w.extract ((1 : Int).toNat) (((w.size : Int) - 1).toNat)).size = w.size - 2 := by
  rw [ByteArray.size_extract]; omega
 have h34 : (⟨#[34]⟩ : BA).size = 1 := by decide
 refine i_any' (fun q : Bool => q = true → f1006_quote (strOfNums l') = some w) (i_grdP (by rw [h34, hz]; omega) (i_grdP (by rw [ByteArray.size_append, h34, hz]; omega) ?_)) fun q hq => sat_mk hq
 have hq := quote_s (strOfNums l') (by rw [strOfNums_size]; omega)
 obtain ⟨x, hx, _⟩ := hq
 rw [hx]
 refine i_cond (fun h => sat_mk ⟨true, rfl, fun _ => ?_⟩) fun _ => sat_mk ⟨false, rfl, fun h => by cases h⟩
 have hxe := k_eq h
 rw [hxe]
 refine congrArg some (ba_eq ?_)
 have e1 : BL (w.extract ((1 : Int).toNat) (((w.size : Int) - 1).toNat)) = ((BL w).drop 1).take (w.size - 2) := by
  show (w.extract ((1 : Int).toNat) (((w.size : Int) - 1).toNat)).data.toList = _
  rw [Lib.extract_data, show ((1 : Int)).toNat = 1 from rfl, show ((w.size : Int) - 1).toNat - 1 = w.size - 2 by omega]
 have e2 : ∀ a b : BA, BL (a ++ b) = BL a ++ BL b := fun a b => by simp [BL]
 rw [e2, e2, e1]
 have hlen : (BL w).length = w.size := rfl
 apply List.ext_getElem?
 intro k
 have e3 : BL (⟨#[34]⟩ : BA) = [34] := rfl
 rw [e3]
 rcases Nat.lt_trichotomy k (w.size - 1) with hk | hk | hk
 · rw [List.getElem?_append_left (by simp; omega)]
   cases k with
   | zero => simpa using hc.symm
   | succ k =>
    rw [List.getElem?_append_right (by simp)]
    simp only [List.length_cons, List.length_nil, Nat.add_sub_cancel, Nat.zero_add]
    rw [List.getElem?_take, if_pos (by omega), List.getElem?_drop, Nat.add_comm]
 · rw [List.getElem?_append_right (by simp; omega)]
   have : k - ([34] ++ ((BL w).drop 1).take (w.size - 2)).length = 0 := by simp; omega
   rw [this]
   have hd2 : (BL w)[k]? = some 34 := by rw [← hd]; congr 1; omega
   rw [hd2]; rfl
 · rw [List.getElem?_eq_none (by simp; omega), List.getElem?_eq_none (by omega)]
end Go.Clap

set_option linter.unusedVariables false
set_option linter.unusedSimpArgs false
set_option maxRecDepth 100000
namespace Go.Clap
open Go.IntKind (wrap)
def I64 (x : Int) : Prop := -9223372036854775808 ≤ x ∧ x ≤ 9223372036854775807
theorem I64w (x : Int) : I64 (wrap .i64 x) := by unfold I64; rw [IntKind.wrap_i64]; omega
def ErO (o : Option Int) : Prop := o = none ∨ o = some 1 ∨ o = some 2
theorem er1 : ErO (some 1) := .inr (.inl rfl)
theorem er2 : ErO (some 2) := .inr (.inr rfl)
theorem pu_loop (a b c : Int) : ∀ (l : LI) (j : Nat) (v : Int), sat (f1081_ParseUint_L2 a b c l j v) fun o => (∃ r, o = .inl r ∧ ErO r.2) ∨ ∃ v', o = .inr v'
 | [], j, v => sat_mk (.inr ⟨v, rfl⟩)
 | x :: l, j, v => by
  unfold f1081_ParseUint_L2
  have low : ∀ y, sat (f1082_lower y) fun _ => True := fun y => ⟨_, rfl, trivial⟩
  refine i_sbind (sat_mono (R := fun o => o = .inl (.inl (0, some 2)) ∨ ∃ d, o = .inr d) ?_ ?_)
  · repeat' first
     | (refine i_cond (fun _ => ?_) (fun _ => ?_))
     | (refine i_call (low _) fun _ _ => ?_)
     | exact sat_mk (.inr ⟨_, rfl⟩)
     | exact ⟨_, rfl, .inl rfl⟩
  · rintro o (rfl | ⟨d, rfl⟩)
    · exact .inl ⟨_, rfl, er2⟩
    · refine i_cond (fun _ => i_lft (sat_mk (.inl ⟨_, rfl, er2⟩))) fun _ => i_cond (fun _ => i_lft (sat_mk (.inl ⟨_, rfl, er1⟩))) fun _ => i_cond (fun _ => i_lft (sat_mk (.inl ⟨_, rfl, er1⟩))) fun _ => i_cond (fun _ => i_lft (sat_mk (.inl ⟨_, rfl, er1⟩))) fun _ => pu_loop a b c l _ _
theorem pu_s (s : BA) (hs : s.size ≤ 4000) (a b : Int) (ha : a = 10 ∨ a = 16) (hb : b = 0 ∨ b = 64) : sat (f1081_ParseUint s a b) fun r => ErO r.2 := by
 unfold f1081_ParseUint
 refine i_cond (fun _ => sat_mk er2) fun _ => i_cond (fun h => ?_) fun _ => i_cond (fun _ => ?_) fun h => ?_
 · exfalso; rcases ha with rfl | rfl <;> exact absurd h (by decide)
 · refine i_cond (fun _ => ?_) fun h => ?_
   · refine i_any' (fun v => v = 64) ?_ fun v hv => ?_
     · rcases hb with rfl | rfl
       · exact sat_mk ⟨_, rfl, rfl⟩
       · exact sat_mk ⟨_, rfl, rfl⟩
     · subst hv
       refine i_any' (fun _ => True) ?_ fun c _ => ?_
       · rcases ha with rfl | rfl
         · exact sat_mk ⟨_, rfl, trivial⟩
         · exact sat_mk ⟨_, rfl, trivial⟩
       · refine i_grdP (by decide) (i_sbind (i_grdP (by omega) (sat_mono (pu_loop a 64 c _ _ _) ?_)))
         rintro o (⟨r, rfl, h⟩ | ⟨v', rfl⟩)
         · exact h
         · exact sat_mk (.inl rfl)
   · exfalso; rcases ha with rfl | rfl <;> exact absurd h (by decide)
 · exfalso; rcases ha with rfl | rfl <;> exact absurd h (by decide)
theorem mkW (x : Int) (o : Option Int) (h : ErO o) : sat (some (wrap .i64 x, o)) fun r : Int × Option Int => I64 r.1 ∧ ErO r.2 := sat_mk ⟨I64w x, h⟩
theorem pi_s (s : BA) (hs : s.size ≤ 4000) : sat (f1080_ParseInt s 10 0) fun r => I64 r.1 ∧ ErO r.2 := by
 have h0 : I64 0 := by unfold I64; omega
 unfold f1080_ParseInt
 refine i_cond (fun _ => sat_mk ⟨h0, er2⟩) fun hne => ?_
 have hpos : 0 < s.size := by
  rcases Nat.eq_zero_or_pos s.size with h | h
  · exfalso
    refine k_ne hne (ba_eq ?_)
    exact List.eq_nil_of_length_eq_zero h
  · exact h
 refine i_any' (fun p : BA × Bool => p.1.size ≤ 4000) ?_ fun p hp => ?_
 · have hz : (s.extract ((1 : Int).toNat) s.size).size ≤ 4000 := by rw [ByteArray.size_extract]; omega
   refine i_getB' (by omega) (by omega) fun c _ => i_cond (fun _ => i_grdP ⟨by omega, by omega, by omega⟩ (sat_mk ⟨_, rfl, hz⟩)) fun _ => i_cond (fun _ => i_grdP ⟨by omega, by omega, by omega⟩ (sat_mk ⟨_, rfl, hz⟩)) fun _ => sat_mk ⟨_, rfl, hs⟩
 · obtain ⟨t, q⟩ := p
   have fin : ∀ (x : Int), sat (sbind (ο := Int) (cond ((0 : Int) == 0) (some (.inr 64)) (some (.inr 0))) (fun v => grdP (0 ≤ (wrap .u64 (wrap .i64 (v - 1)))) (cond q (cond (decide (x > (bShl .u64 1 (wrap .u64 (wrap .i64 (v - 1)))))) (some ((wrap .i64 (0 - (wrap .i64 (bShl .u64 1 (wrap .u64 (wrap .i64 (v - 1))))))), (some (1 : Int)))) (some ((wrap .i64 (0 - (wrap .i64 x))), (none : Option Int)))) (cond (decide (x ≥ (bShl .u64 1 (wrap .u64 (wrap .i64 (v - 1)))))) (some ((wrap .i64 (wrap .u64 ((bShl .u64 1 (wrap .u64 (wrap .i64 (v - 1)))) - 1))), (some (1 : Int)))) (some ((wrap .i64 x), none)))))) fun r => I64 r.1 ∧ ErO r.2 := by
    intro x
    refine i_any' (fun v => v = 64) ⟨_, rfl, _, rfl, rfl⟩ fun v hv => ?_
    subst hv
    refine i_grdP (by decide) (i_cond (fun _ => i_cond (fun _ => mkW _ _ er1) fun _ => mkW _ _ (.inl rfl)) fun _ => i_cond (fun _ => mkW _ _ er1) fun _ => mkW _ _ (.inl rfl))
   refine i_call (pu_s t hp 10 0 (.inl rfl) (.inl rfl)) fun r hr => ?_
   obtain ⟨x, o⟩ := r
   exact i_cond (fun _ => i_cond (fun _ => sat_mk ⟨h0, hr⟩) fun _ => fin x) fun _ => fin x
theorem ai_loop : ∀ (l : LI) (j : Nat) (v : Int), I64 v → sat (f1027_Atoi_L4 l j v) fun o => o = .inl (.inl (0, some 2)) ∨ ∃ v', o = .inr v' ∧ I64 v'
 | [], j, v, h => sat_mk (.inr ⟨v, rfl, h⟩)
 | x :: l, j, v, h => by
  unfold f1027_Atoi_L4
  exact i_cond (fun _ => ⟨_, rfl, .inl rfl⟩) fun _ => ai_loop l _ _ (I64w _)
theorem ai_s (s : BA) (hs : s.size ≤ 4000) : sat (f1027_Atoi s) fun r => I64 r.1 ∧ ErO r.2 := by
 have h0 : I64 0 := by unfold I64; omega
 unfold f1027_Atoi
 refine i_sbind (sat_mono (R := fun o => o = .inr () ∨ ∃ r, o = .inl r ∧ I64 r.1 ∧ ErO r.2) ?_ ?_)
 · refine i_cond (fun hp => i_cond (fun _ => ?_) fun _ => sat_mk (.inl rfl)) fun _ => sat_mk (.inl rfl)
   have hp : 0 < s.size := by have := of_decide_eq_true hp; omega
   refine i_sbind (sat_mono (R := fun o => o = .inl (.inl (0, some 2)) ∨ ∃ t : BA, o = .inr t ∧ t.size ≤ 4000) ?_ ?_)
   · have hz : (s.extract ((1 : Int).toNat) s.size).size ≤ 4000 := by rw [ByteArray.size_extract]; omega
     have two : sat (grdP ((0 : Int) ≤ 1 ∧ (1 : Int).toNat ≤ s.size ∧ s.size ≤ s.size) (cond (decide (((s.extract ((1 : Int).toNat) s.size).size : Int) < 1)) (lft (lft (some ((0 : Int), (some (2 : Int)))))) (some (.inr (s.extract ((1 : Int).toNat) s.size))))) fun o : Sum (Sum (Int × Option Int) Unit) BA => o = .inl (.inl (0, some 2)) ∨ ∃ t : BA, o = .inr t ∧ t.size ≤ 4000 :=
      i_grdP ⟨by omega, by omega, by omega⟩ (i_cond (fun _ => ⟨_, rfl, .inl rfl⟩) fun _ => sat_mk (.inr ⟨_, rfl, hz⟩))
     refine i_getB' (by omega) (by omega) fun c _ => i_cond (fun _ => two) fun _ => i_getB' (by omega) (by omega) fun c _ => i_cond (fun _ => two) fun _ => sat_mk (.inr ⟨_, rfl, hs⟩)
   · rintro o (rfl | ⟨t, rfl, ht⟩)
     · exact .inr ⟨_, rfl, h0, er2⟩
     · refine i_sbind (i_grdP (by omega) (sat_mono (ai_loop _ _ _ h0) ?_))
       rintro o (rfl | ⟨v, rfl, hv⟩)
       · exact .inr ⟨_, rfl, h0, er2⟩
       · exact i_getB' (by omega) (by omega) fun c _ => i_cond (fun _ => i_lft (sat_mk (.inr ⟨_, rfl, I64w _, .inl rfl⟩))) fun _ => i_lft (sat_mk (.inr ⟨_, rfl, hv, .inl rfl⟩))
 · rintro o (rfl | ⟨r, rfl, h⟩)
   · exact i_call (pi_s s hs) fun r hr => sat_mk hr
   · exact h
theorem toError_s (f s : BA) (a b : Int) (o : Option Int) (hs : s.size ≤ 4000) (h : o = some 1 ∨ o = some 2) : sat (f1083_toError f s a b o) fun r => r = false := by
 have h1 : sat (f1086_syntaxError f s) fun _ => True := by
  unfold f1086_syntaxError f1085_Clone
  exact i_any' (fun _ => True) (i_bind (i_grdP (by omega) (sat_mk (sat_mk ⟨_, rfl, trivial⟩)))) fun _ _ => sat_mk trivial
 have h2 : sat (f1084_rangeError f s) fun _ => True := by
  unfold f1084_rangeError f1085_Clone
  exact i_any' (fun _ => True) (i_bind (i_grdP (by omega) (sat_mk (sat_mk ⟨_, rfl, trivial⟩)))) fun _ _ => sat_mk trivial
 unfold f1083_toError
 rcases h with rfl | rfl
 · exact i_cond (fun h => absurd h (by decide)) fun _ => i_cond (fun _ => i_call h2 fun _ _ => sat_mk rfl) fun h => absurd h (by decide)
 · exact i_cond (fun _ => i_call h1 fun _ _ => sat_mk rfl) fun h => absurd h (by decide)
theorem atoi_s (s : BA) (hs : s.size ≤ 4000) : sat (f1026_Atoi s) fun r => I64 r.1 := by
 unfold f1026_Atoi
 refine i_call (ai_s s hs) fun r hr => ?_
 obtain ⟨v, o⟩ := r
 obtain ⟨h1, h2⟩ := hr
 refine i_cond (fun h => ?_) fun _ => sat_mk h1
 refine i_call (toError_s _ s _ _ o hs ?_) fun _ _ => sat_mk h1
 rcases h2 with rfl | h2 | h2
 · exact absurd h (by decide)
 · exact .inl h2
 · exact .inr h2
end Go.Clap
