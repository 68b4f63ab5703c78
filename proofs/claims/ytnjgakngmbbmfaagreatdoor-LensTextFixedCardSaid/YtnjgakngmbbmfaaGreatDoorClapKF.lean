/- The checks of the small code against the loaded functions. -/
import Derived.Test.YtnjgakngmbbmfaaGreatDoorClapKE
import Derived.KernelRfl
set_option linter.unusedVariables false
set_option linter.unusedSimpArgs false
set_option maxRecDepth 100000
namespace Go.Clap
open Go.IntKind (wrap)
theorem px_enc : ∀ ws : Ws, px ws ++ [32] = 32 :: nm (enc ws)
 | [] => rfl
 | w :: ws => by
  have h := px_enc ws
  have e : px (w :: ws) = 32 :: nm w ++ px ws := by simp [px]
  rw [e, enc_cons, List.append_assoc, h]
  simp [nm]
theorem enc_px (w : List UInt8) (us : Ws) : nm (enc (w :: us)) = (nm w ++ px us) ++ [32] := by
 rw [enc_cons, List.append_assoc, px_enc]
 simp [nm]
theorem drop_v : f325_drop = some (Ln.mk 4 ⟨#[98]⟩ ⟨#[]⟩ [] 0 0 0 0 (V.mk 2 7 ⟨#[]⟩ []) [] []) := rfl
theorem text_v : f1017_Text 6000 (Ln.mk 4 ⟨#[98]⟩ ⟨#[]⟩ [] 0 0 0 0 (V.mk 2 7 ⟨#[]⟩ []) [] []) = some (⟨#[100, 114, 111, 112, 32, 98, 32, 105, 110, 116, 32, 55]⟩, 0) := by kernel_rfl
theorem read_v : f1009_Read 6000 ⟨#[100, 114, 111, 112, 32, 98, 32, 105, 110, 116, 32, 55]⟩ = some (Ln.mk 4 ⟨#[98]⟩ ⟨#[]⟩ [] 0 0 0 0 (V.mk 2 7 ⟨#[]⟩ []) [] [], 0, 0) := by kernel_rfl
theorem equal_v : f1000_Equal 6000 (Ln.mk 4 ⟨#[98]⟩ ⟨#[]⟩ [] 0 0 0 0 (V.mk 2 7 ⟨#[]⟩ []) [] []) (Ln.mk 4 ⟨#[98]⟩ ⟨#[]⟩ [] 0 0 0 0 (V.mk 2 7 ⟨#[]⟩ []) [] []) = some true := by kernel_rfl
theorem read_s (s : BA) : sat (f1009_Read 6000 s) fun r => r.2.2 = 0 → f1017_Text 6000 r.1 = some (s, 0) := by
 unfold f1009_Read
 refine i_cond (fun _ => sat_mk fun h => absurd h (by decide)) fun hsz => ?_
 have hsz : s.size ≤ 4000 := by have := of_decide_eq_false hsz; omega
 have hA : At s 0 := ⟨hsz, by omega, by omega⟩
 refine i_call (lens_s 41 6000 (by omega) (by omega) 0 s 0 true rfl hA) fun r hr => ?_
 obtain ⟨⟨op, nm', to, ns, N, lo, hi, sep, ⟨k1, n1, s1, f1⟩, prs, ks⟩, v', q'⟩ := r
 obtain ⟨h1, h2⟩ := hr
 refine i_any' (fun b => b = true → q' = true ∧ v' = s.size + 1) ?_ fun b hb => i_cond (fun hb' => ?_) fun _ => sat_mk fun h => by have h : (14 : Int) = 0 := h; omega
 · refine i_cond (fun hq => i_cond (fun _ => sat_mk ⟨_, rfl, fun h => by cases h⟩) fun hv => sat_mk ⟨_, rfl, fun _ => ⟨hq, ?_⟩⟩) fun _ => sat_mk ⟨_, rfl, fun h => by cases h⟩
   have h3 := of_decide_eq_false hv
   have h4 := h1.2
   have h4 : v' ≤ s.size + 1 := h4
   omega
 obtain ⟨hq, hv⟩ := hb hb'
 obtain ⟨_, ws, hne, hrd, _, ⟨w, us, rfl, hw, hP⟩, hD⟩ := h2 hq
 have hv : v' = s.size + 1 := hv
 subst hv
 obtain ⟨_, _, hX⟩ := hrd
 have hX : X1 s = enc (w :: us) := by
  have e1 : (X1 s).drop ((0 : Int)).toNat = X1 s := rfl
  have e2 : (X1 s).drop (((s.size : Nat) : Int) + 1).toNat = [] := List.drop_eq_nil_of_le (by rw [X1_len]; omega)
  rw [e1, e2, List.append_nil] at hX
  exact hX
 have hY : nm (BL s) = nm w ++ px us := by
  have h3 := congrArg nm hX
  rw [enc_px] at h3
  unfold X1 at h3
  rw [show nm (BL s ++ [32]) = nm (BL s) ++ [32] by simp [nm]] at h3
  exact List.append_cancel_right h3
 have hlen : (px (w :: us)).length ≤ 90000 := by
  have h3 := congrArg List.length hY
  have e : px (w :: us) = 32 :: nm w ++ px us := by simp [px]
  rw [nm_len, List.length_append] at h3
  rw [e]
  simp only [List.cons_append, List.length_cons, List.length_append]
  omega
 have hpr := hP 6000 (by omega) hlen
 obtain ⟨c, hc, _⟩ := lcheck_s (k := 42) (n := 6000) (by omega) hD
 refine i_bind (sat_mk_of' hc (i_cond (fun hc0 => sat_mk fun h => ?_) fun hc0 => sat_mk fun _ => ?_))
 · exfalso
   have h : c = 0 := h
   subst h
   exact absurd hc0 (by decide)
 · have hc0 : c = 0 := by simpa using hc0
   subst hc0
   unfold f1017_Text
   dsimp only
   rw [hc]
   show (f1018_lens 6000 (Ln.mk op nm' to ns N lo hi sep (V.mk k1 n1 s1 f1) prs ks)).bind _ = _
   rw [hpr, ← hY]
   show cond (decide ((((nm (BL s)).length : Nat) : Int) > 4000)) _ (some (strOfNums (nm (BL s)), 0)) = _
   have hl : decide ((((nm (BL s)).length : Nat) : Int) > 4000) = false := decide_eq_false (by rw [nm_len]; omega)
   rw [hl, cond_false]
   have := nums_back (BL s)
   rw [show strOfNums (nm (BL s)) = s from this.trans (ba_data s)]
theorem fixed_law (s : BA) : sat (f1105_LensTextFixed 6000 s) fun q => q = true := by
 unfold f1105_LensTextFixed
 refine i_bind (sat_mk_of' drop_v ?_)
 dsimp only
 refine i_bind (sat_mk_of' text_v ?_)
 dsimp only
 refine i_bind (sat_mk_of' read_v ?_)
 dsimp only
 refine i_cond (fun h => absurd h (by decide)) fun _ => i_cond (fun h => absurd h (by decide)) fun _ => i_cond (fun h => ?_) fun _ => ?_
 · rw [k_beq] at h; cases h
 refine i_bind (sat_mk_of' drop_v ?_)
 dsimp only
 refine i_bind (sat_mk_of' equal_v ?_)
 refine i_cond (fun _ => ?_) fun h => by cases h
 refine i_call (read_s s) fun r hr => ?_
 obtain ⟨⟨op, nm', to, ns, N, lo, hi, sep, ⟨k1, n1, s1, f1⟩, prs, ks⟩, v', e⟩ := r
 refine i_cond (fun _ => sat_mk rfl) fun he => ?_
 have he : e = 0 := by simpa using he
 refine i_bind (sat_mk_of' (hr he) ?_)
 dsimp only
 refine i_cond (fun _ => ?_) fun h => absurd h (by decide)
 rw [k_beq]
 exact sat_mk rfl
end Go.Clap
