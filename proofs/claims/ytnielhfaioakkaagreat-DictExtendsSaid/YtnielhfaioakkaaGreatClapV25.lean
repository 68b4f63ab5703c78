/- The law DictThree, of the loaded functions. -/
import Derived.Test.YtnielhfaioakkaaGreatClapP2
import Derived.Test.YtnielhfaioakkaaGreatClapP3
import Derived.Test.YtnielhfaioakkaaGreatClapV13
import Derived.Test.YtnielhfaioakkaaGreatClapV19
import Derived.Test.YtnielhfaioakkaaGreatClapDel
set_option linter.unusedVariables false
set_option linter.unusedSimpArgs false
namespace Go.Clap
open Go.Shelf Go.Proofs
variable {P : Program} {fid : Nat → FuncId}

structure HLook (P : Program) (fid : Nat → FuncId) : Prop extends HCop P fid where
  c94 : chkF SS P fid 94 ir94 = true
  c95 : chkF SS P fid 95 ir95 = true
  c70 : chkF SS P fid 70 ir70 = true
  c96 : chkF SS P fid 96 ir96 = true
  c116 : chkF SS P fid 116 ir116 = true
  c144 : chkF SS P fid 144 ir144 = true
  c145 : chkF SS P fid 145 ir145 = true
  c158 : chkF SS P fid 158 ir158 = true
  c161 : chkF SS P fid 161 ir161 = true
  c46 : chkF SS P fid 46 ir46 = true
  c71 : chkF SS P fid 71 ir71 = true
  c72 : chkF SS P fid 72 ir72 = true
  c47 : chkF SS P fid 47 ir47 = true
  c48 : chkF SS P fid 48 ir48 = true
  c73 : chkF SS P fid 73 ir73 = true
  c74 : chkF SS P fid 74 ir74 = true
  c97 : chkF SS P fid 97 ir97 = true
  c117 : chkF SS P fid 117 ir117 = true
  c98 : chkF SS P fid 98 ir98 = true
  c126 : chkF SS P fid 126 ir126 = true

theorem g158 (H : HLook P fid) (k : Int) : Gives (Spec SS P fid) 158 [iD k] (bD (plainB k)) := fun R hR => spec_of_vc H.mx H.c158 (vc158 k R hR)
theorem g161 (H : HLook P fid) (ps : WL) (hv : VP ps) : Gives (Spec SS P fid) 161 [lD .two ps] (iD 0) := fun R hR =>
  spec_of_vc H.mx H.c161 (vc161 (g51 H.toHChk) (g158 H) (g11 H.toHCmp) ps hv R hR)
theorem g46 (H : HLook P fid) (ps : WL) (hv : VP ps) : Gives (Spec SS P fid) 46 [lD .two ps] (iD 0) := fun R hR => by
  have h94 : Gives (Spec SS P fid) 94 [lnD (lookL ps)] (iD 1) := fun R hR => spec_of_vc H.mx H.c94 (vc94 ps R hR)
  have h95 : Gives (Spec SS P fid) 95 [lnD (lookL ps)] (iD 1) := fun R hR => spec_of_vc H.mx H.c95 (vc95 ps R hR)
  have h144 : Gives (Spec SS P fid) 144 [iD 11] (.agg [.bool false, .bool false, .bool false, .bool false, .bool false, .bool false, .bool false, .bool true, .int .i64 0]) := fun R hR => spec_of_vc H.mx H.c144 (vc144 R hR)
  have h145 : Gives (Spec SS P fid) 145 [lnD (lookL ps)] (iD 0) := fun R hR => spec_of_vc H.mx H.c145 (vc145 ps (g161 H ps hv) R hR)
  have h11 : Gives (Spec SS P fid) 11 [vD zeroV, vD zeroV] (bD true) := by
    have := g11 H.toHCmp zeroV zeroV
    rwa [show decide (cmpV zeroV zeroV = 0) = true by decide +kernel] at this
  have hne : ps ≠ [] := by
    rintro rfl
    have := hv.pos
    simp at this
  have h116 : Gives (Spec SS P fid) 116 [lnD (lookL ps)] (iD 0) := fun R hR => spec_of_vc H.mx H.c116 (vc116 ps hne h144 h11 h145 R hR)
  have h96 : Gives (Spec SS P fid) 96 [lnD (lookL ps)] (iD 0) := fun R hR => spec_of_vc H.mx H.c96 (vc96 ps h116 R hR)
  exact spec_of_vc H.mx H.c46 (vc46 ps (fun R hR => spec_of_vc H.mx H.c70 (vc70 ps h94 h95 h96 R hR)) R hR)
theorem g47 (H : HLook P fid) (k : Nat) (hk : k = 0 ∨ k = 1) (v : V) (l : WL) : Gives (Spec SS P fid) 47 [lD .two l, iD k, vD v] (iD (idxP k v l 0)) := fun R hR =>
  spec_of_vc H.mx H.c47 (vc47 k v l (fun R hR => spec_of_vc H.mx H.c71 (vc71 k v l (fun p hp R hR => spec_of_vc H.mx H.c72 (vc72 (g11 H.toHCmp) k hk p v R hR)) R hR)) R hR)
theorem g74 (H : HLook P fid) (p q : V × V) : Gives (Spec SS P fid) 74 [twD p, twD q] (iD (cmpV p.1 q.1)) := fun R hR => spec_of_vc H.mx H.c74 (vc74 (g34 H.toHCmp) p q R hR)
theorem g73 (H : HLook P fid) (ky : V × V → Int) (l : WL) (hl : l.length ≤ 12) (hky : ∀ p ∈ l, ∀ q ∈ l, decide (cmpV p.1 q.1 < 0) = decide (ky p < ky q)) (R : RR)
    (hR : ∀ l' : WL, (l'.Perm l ∧ SortedK ky l') → R (.tup []) (rW l')) : Spec SS P fid 73 [oW l.length, .c (.fn 74 [])] (rW l) R :=
  spec_of_vc H.mx H.c73 (vc73 l hl (fun R hR => spec_of_vc H.mx H.c98 (vc98 _ (fun R hR => spec_of_vc H.mx H.c126 (vc126 _ (wrap64_nn _) R hR)) R hR)) (fun l' => l'.Perm l ∧ SortedK ky l')
    (fun m R hR => spec_of_vc H.mx H.c97 (vc97 l hl m _ (fun R hR => spec_of_vc H.mx H.c117 (vc117 ky l (by omega) hky (g74 H) R (fun l' h1 h2 => hR l' ⟨h1, h2⟩))) R hR)) R hR)
theorem g48 (H : HLook P fid) (ky : V × V → Int) (l : WL) (hl : l.length ≤ 12) (hky : ∀ p ∈ l, ∀ q ∈ l, decide (cmpV p.1 q.1 < 0) = decide (ky p < ky q)) (hs : ∀ p ∈ l, smallV p.1 ∧ smallV p.2) (R : RR)
    (hR : ∀ l' : WL, (l'.Perm l ∧ SortedK ky l') → R (lD .two l') []) : Spec SS P fid 48 [lD .two l] [] R :=
  spec_of_vc H.mx H.c48 (vc48 l hl _ (fun l' h => h.1.length_eq) (fun p hp => ⟨g57 H.toHCop p.1 (hs p hp).1, g57 H.toHCop p.2 (hs p hp).2⟩) (g73 H ky l hl hky) R hR)

structure HComp (P : Program) (fid : Nat → FuncId) : Prop extends HLook P fid where
  c28 : chkF SS P fid 28 ir28 = true
theorem g28 (H : HComp P fid) (a b : WL) (hva : VP a) (hvb : VP b) (ha : a.length ≤ 12) (hne : compW b a ≠ []) (ky : V × V → Int)
    (hky : ∀ p ∈ compW b a, ∀ q ∈ compW b a, decide (cmpV p.1 q.1 < 0) = decide (ky p < ky q)) (hs : ∀ p ∈ compW b a, smallV p.1 ∧ smallV p.2) (R : RR)
    (hR : ∀ l' : WL, (l'.Perm (compW b a) ∧ SortedK ky l') → R (.tup [lD .two l', iD 0]) []) : Spec SS P fid 28 [lD .two a, lD .two b] [] R :=
  spec_of_vc H.mx H.c28 (vc28 a b ha (fun k hk => by
      rcases List.mem_cons.1 hk with rfl | hk
      · exact g46 H.toHLook k hva
      · obtain rfl := List.mem_singleton.1 hk
        exact g46 H.toHLook k hvb) (fun v => g47 H.toHLook 0 (.inl rfl) v b) hne _
    (g48 H.toHLook ky _ (Nat.le_trans (compW_len b a) ha) hky hs) R hR)

structure HTab (P : Program) (fid : Nat → FuncId) : Prop extends HComp P fid where
  c15 : chkF SS P fid 15 ir15 = true
  c29 : chkF SS P fid 29 ir29 = true
  c49 : chkF SS P fid 49 ir49 = true
  c50 : chkF SS P fid 50 ir50 = true
  c27 : chkF SS P fid 27 ir27 = true
  del : ∃ ρr : Ren, Lays2.n23 P ρr ∧ ρr.f 23 = fid 45
structure HThree (P : Program) (fid : Nat → FuncId) : Prop extends HTab P fid where
  c7 : chkF SS P fid 7 ir7 = true

theorem g45 (H : HTab P fid) : Dl (Spec SS P fid) := fun xs i R hi hR => by
  obtain ⟨ρr, L, hf⟩ := H.del
  refine spec_del L hf xs i (i + 1) (by omega) (by omega) R ?_
  rw [show i + 1 - i = 1 by omega]
  exact hR
theorem g29 (H : HTab P fid) (l : WL) (h : ∀ p ∈ l, cmpV p.1 p.1 = 0 ∧ cmpV p.2 p.2 = 0) : Gives (Spec SS P fid) 29 [lD .two l, lD .two l] (bD true) := fun R hR =>
  spec_of_vc H.mx H.c29 (vc29 l (fun R hR => spec_of_vc H.mx H.c49 (vc49 l (fun p hp R hR => spec_of_vc H.mx H.c50 (vc50 p p (by
    have := g11 H.toHCmp p.1 p.1
    rwa [decide_eq_true (h p hp).1] at this) (by
    have := g11 H.toHCmp p.2 p.2
    rwa [decide_eq_true (h p hp).2] at this) R hR)) R hR)) R hR)
theorem g27 (H : HTab P fid) (ds : LIS) (n : Nat) (hn : 1 ≤ n) (hn2 : n ≤ 12) (R : RR) (hR : ∀ σ : LIS, σ.Perm (rng n) → R (lD .two (tabW σ)) []) : Spec SS P fid 27 [lD .int ds, iD n] [] R :=
  spec_of_vc H.mx H.c27 (vc27 (fun l n R hR => g15 H.toHChk H.c15 l n R hR) (g44 H.toHChk) (g45 H) ds n hn hn2 R hR)

theorem tab_num (σ : LIS) (p : V × V) (hp : p ∈ tabW σ) : ∃ a b, p = (numV a, numV b) := by
  obtain ⟨j, hj⟩ := List.getElem?_of_mem hp
  obtain ⟨x, h1, rfl⟩ := tabF_get _ _ _ _ hj
  exact ⟨_, _, rfl⟩
theorem g28t (H : HComp P fid) (n : Nat) (hn : 1 ≤ n) (hn2 : n ≤ 12) (a b : LIS) (h1 : Pm n a) (h2 : Pm n b) : Gives (Spec SS P fid) 28 [lD .two (tabW a), lD .two (tabW b)] (.tup [lD .two (tabW (thr a b)), iD 0]) := fun R hR => by
  have hc := comp_tab b n (pm_len h2) a 0 (fun x hx => mem_rng (h1.subset hx))
  have hlen : (tabF 0 (thr a b)).length = n := by rw [tabF_len, thr_len, pm_len h1]
  refine g28 H (tabW a) (tabW b) (vp_tab (by omega) (by omega) h1) (vp_tab (by omega) (by omega) h2) (by rw [tabF_len, pm_len h1]; omega) ?_ kyN ?_ ?_ R (fun l' hl' => ?_)
  · rw [hc]
    intro h
    rw [h] at hlen
    simp at hlen
    omega
  · rw [hc]
    exact ky_tab
  · rw [hc]
    intro p hp
    obtain ⟨a, b, rfl⟩ := tab_num _ p hp
    exact ⟨small_num a, small_num b⟩
  · rw [hc] at hl'
    rw [uniqK kyN _ _ (rise_tab _ 0).1 hl'.1 hl'.2]
    exact hR
theorem g29t (H : HTab P fid) (a : LIS) : Gives (Spec SS P fid) 29 [lD .two (tabW a), lD .two (tabW a)] (bD true) :=
  g29 H _ fun p hp => by
    obtain ⟨a, b, rfl⟩ := tab_num _ p hp
    exact ⟨by rw [cmp_num, cmpI_eq0], by rw [cmp_num, cmpI_eq0]⟩

theorem g7 (H : HThree P fid) (x y z : LIS) (d : Int) : Gives (Spec SS P fid) 7 [lD .int x, lD .int y, lD .int z, iD d] (bD true) := by
  obtain ⟨k, hk, hb⟩ := bel_bd d 12 (by omega) (by omega)
  exact fun R hR => spec_of_vc H.mx H.c7 (vc7 x y z d (k + 1) (by rw [show bel d 12 = (k : Int) from hb]; omega) (by omega) (by omega) thr thr_len (Pm (k + 1)) (fun a h => pm_len h) (fun a b h1 h2 => thr_pm h1 h2)
    (fun a b c h1 h2 h3 => thr_assoc h1 h2 h3) (g26 H.toHChk d 12 (by decide)) (fun l R hR => g27 H.toHTab l (k + 1) (by omega) (by omega) R hR) (fun a b h1 h2 => g28t H.toHComp (k + 1) (by omega) (by omega) a b h1 h2) (fun a h => g29t H.toHTab a) R hR)

end Go.Clap
