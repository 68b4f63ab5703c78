/- The law AlignKept, of the loaded functions. -/
import Derived.Test.YtnielhfaioakkaaGreatClapP2
import Derived.Test.YtnielhfaioakkaaGreatClapV13
set_option linter.unusedVariables false
set_option linter.unusedSimpArgs false
namespace Go.Clap
variable {P : Program} {fid : Nat → FuncId}

structure HCop (P : Program) (fid : Nat → FuncId) : Prop extends HChk P fid where
  c57 : chkF SS P fid 57 ir57 = true
  c79 : chkF SS P fid 79 ir79 = true
structure HCopy (P : Program) (fid : Nat → FuncId) : Prop extends HVal P fid where
  c57 : chkF SS P fid 57 ir57 = true
  c79 : chkF SS P fid 79 ir79 = true
  c35 : chkF SS P fid 35 ir35 = true

theorem HCopy.cop (H : HCopy P fid) : HCop P fid := ⟨H.toHChk, H.c57, H.c79⟩
theorem g79 (H : HCop P fid) : Own79 (Spec SS P fid) := fun l R hl h1 h2 => spec_of_vc H.mx H.c79 (vc79 l R hl h1 h2)
theorem g57 (H : HCop P fid) : ∀ v : V, smallV v → Gives (Spec SS P fid) 57 [vD v] (vD v)
  | .mk k n s fs, h => fun R hR => spec_of_vc H.mx H.c57 (vc57 (g79 H) (.mk k n s fs) h (fun x hx => g57 H x.2 (smallFs_mem (by rw [smallV] at h; exact h.2) hx)) R hR)
termination_by v => SizeOf.sizeOf v
decreasing_by exact size_fs hx
theorem g35 (H : HCopy P fid) (v : V) (nm : ByteArray) (hv : ∀ x ∈ v.fs, smallV x.2) : Gives (Spec SS P fid) 35 [vD v, sD nm] (getD v nm) :=
  fun R hR => spec_of_vc H.mx H.c35 (vc35 v nm (fun x hx => g57 H.cop x.2 (hv x hx)) R hR)

structure HKept (P : Program) (fid : Nat → FuncId) : Prop extends HCopy P fid where
  c10 : chkF SS P fid 10 ir10 = true
  c12 : chkF SS P fid 12 ir12 = true
  c16 : chkF SS P fid 16 ir16 = true
  c17 : chkF SS P fid 17 ir17 = true
  c37 : chkF SS P fid 37 ir37 = true
  c80 : chkF SS P fid 80 ir80 = true
  c58 : chkF SS P fid 58 ir58 = true
  c36 : chkF SS P fid 36 ir36 = true
  c18 : chkF SS P fid 18 ir18 = true
  c19 : chkF SS P fid 19 ir19 = true
  c20 : chkF SS P fid 20 ir20 = true
  c5 : chkF SS P fid 5 ir5 = true

theorem g37 (H : HKept P fid) (p q : Int × Int) : Gives (Spec SS P fid) 37 [pD p, pD q] (iD (cmpI p.2 q.2)) := fun R hR => spec_of_vc H.mx H.c37 (vc37 (g38 H.toHCmp) p q R hR)
theorem g36 (H : HKept P fid) (l : PL) (hl : l.length ≤ 19) (R : RR) (hR : ∀ l' : PL, l'.Perm l → SortedP l' → R (.tup []) [(.x 0, some (.row false .pair l'))]) :
    Spec SS P fid 36 [.c (.osl (.x 0) 0 l.length), .c (.fn 37 [])] [(.x 0, some (.row false .pair l))] R :=
  spec_of_vc H.mx H.c36 (vc36 l (fun R hR => spec_of_vc H.mx H.c58 (vc58 l hl (fun R hR => spec_of_vc H.mx H.c80 (vc80 (g37 H) l (by omega) R hR)) R hR)) R hR)
theorem g18 (H : HKept P fid) (l : PL) (hl : l.length ≤ 19) (R : RR) (hR : ∀ l' : PL, l'.Perm (l.map sw) → SortedP l' → R (lD .pair l') []) : Spec SS P fid 18 [lD .pair l] [] R :=
  spec_of_vc H.mx H.c18 (vc18 l hl (g36 H) R hR)
theorem g19 (H : HKept P fid) (a b : PL) (ha : a.length ≤ 1000) (hb : b.length ≤ 1000) : Gives (Spec SS P fid) 19 [lD .pair a, lD .pair b] (lD .pair (compL a b)) :=
  fun R hR => spec_of_vc H.mx H.c19 (vc19 a b ha hb R hR)
theorem g20 (H : HKept P fid) (a b : PL) : Gives (Spec SS P fid) 20 [lD .pair a, lD .pair b] (bD (decide (a = b))) := fun R hR => spec_of_vc H.mx H.c20 (vc20 a b R hR)

theorem g5 (H : HKept P fid) (x y : LIS) : Gives (Spec SS P fid) 5 [lD .int x, lD .int y] (bD true) := by
  have hx := len_list x
  have hy := len_list y
  have ex := el_list x
  have ey := el_list y
  obtain ⟨q1, q2, q3, q4⟩ := byK_all kyE (listV x).fs (listV y).fs (List.replicate (listV x).fs.length false) 0 (by simp)
  generalize hl : byK kyE (listV x).fs (List.replicate (listV x).fs.length false) (listV y).fs 0 = l at q1 q2 q3 q4
  have hin : ∀ p ∈ l, (0 ≤ p.1 ∧ p.1 < ((listV x).fs.length : Int)) ∧ (0 ≤ p.2 ∧ p.2 < ((listV y).fs.length : Int)) := fun p hp => by
    obtain ⟨⟨a, h1, h2, _⟩, h3⟩ := q1 p hp
    omega
  have g16 : Gives (Spec SS P fid) 16 [vD (listV x), vD (listV y), sD nmA] (.tup [lD .pair l, iD 0]) := by
    intro R hR
    have h31 : Gives (Spec SS P fid) 31 [vD (listV x), vD (listV y)] (iD 0) := by
      have := g31 H.toHVal (listV x) (listV y)
      rwa [check_two x y] at this
    refine spec_of_vc H.mx H.c16 (vc16 (listV x) (listV y) nmA kyE h31 (fun f hf => ?_) (g11 H.toHCmp) (by omega) (by omega) R (by rw [hl]; exact hR))
    have key : ∀ l : FL, El l → f ∈ l → f.2.kind = 6 ∧ Gives (Spec SS P fid) 35 [vD f.2, sD nmA] (.tup [vD (kyE f), bD true]) := fun l he hf => by
      obtain ⟨h1, h2⟩ := get_el he hf
      refine ⟨h1, ?_⟩
      obtain ⟨i, _, rfl⟩ := he f hf
      have := g35 H.toHCopy (eN i) nmA (small_eN i)
      rwa [h2] at this
    rcases hf with hf | hf
    · exact key _ ex hf
    · exact key _ ey hf
  have h12 : Gives (Spec SS P fid) 12 [lD .pair l, iD (listV x).fs.length, iD (listV y).fs.length] (iD 0) := by
    have := g12 H.toHVal H.c12 l (listV x).fs.length (listV y).fs.length
    have e : checkP l (listV x).fs.length (listV y).fs.length = 0 := by
      have e1 : decide (((listV x).fs.length : Int) < 0) = false := decide_eq_false (by omega)
      have e2 : decide (((listV y).fs.length : Int) < 0) = false := decide_eq_false (by omega)
      have e3 : decide (((listV x).fs.length : Int) > 200) = false := decide_eq_false (by omega)
      have e4 : decide (((listV y).fs.length : Int) > 200) = false := decide_eq_false (by omega)
      rw [checkP, e1, e2, e3, e4]
      exact chkAcc_diff _ _ l _ _ q2 q3 hin fun p hp => ⟨getD_rep _ _, getD_rep _ _⟩
    rwa [e] at this
  have g17 : Gives (Spec SS P fid) 17 [lD .pair l, iD (listV x).fs.length, iD (listV y).fs.length]
      (.tup [lD .int (fromL (List.replicate (listV y).fs.length (-1)) l), lD .int (lostL (usedL (List.replicate (listV x).fs.length false) l) 0), iD 0]) := fun R hR =>
    spec_of_vc H.mx H.c17 (vc17 l _ _ (by omega) (by omega) h12 hin (by omega) R hR)
  have hlost : (lostL (usedL (List.replicate (listV x).fs.length false) l) 0).length + l.length = (listV x).fs.length := by
    rw [lostL_count]
    have := usedL_count l (List.replicate (listV x).fs.length false) q3 fun p hp => by
      obtain ⟨⟨a, h1, h2, h3⟩, _⟩ := q1 p hp
      exact ⟨a, h1, h3⟩
    rw [this]
    simp
  have hfrom : ∀ p ∈ l, (0 ≤ p.2 ∧ p.2 < ((listV y).fs.length : Int)) ∧ (fromL (List.replicate (listV y).fs.length (-1)) l)[p.2.toNat]? = some p.1 := fun p hp =>
    ⟨(hin p hp).2, fromL_get l _ q2 (fun q hq => by have := (hin q hq).2; simpa using this) p hp⟩
  exact fun R hR => spec_of_vc H.mx H.c5 (vc5_of x y (listV x).fs (listV y).fs l _ _ (g8 H.toHVal x) (g8 H.toHVal y) g16 g17 (g10 H.toHVal H.c10) (by rw [fromL_len]; simp) hlost hfrom
    (g18 H) (g19 H) (g20 H) (turned_ok q2 q3) (by omega) hx hy R hR)

end Go.Clap
