/- The checks of the small code against the loaded functions. -/
import Derived.Test.YtnjgakngmbbmfaaGreatDoorClapSig
namespace Go.Clap
end Go.Clap

set_option linter.unusedVariables false
set_option linter.unusedSimpArgs false
namespace Go.Clap
abbrev RR := D TT → List (Id × Option (Ent TT)) → Prop
abbrev iD (n : Int) : D TT := .c (.int .i64 n)
abbrev bD (b : Bool) : D TT := .c (.bool b)
abbrev sD (s : ByteArray) : D TT := .c (.str s)
variable {O : Oracle TT}
def V.kind : V → Int
 | .mk k _ _ _ => k
def V.n : V → Int
 | .mk _ n _ _ => n
def V.s : V → ByteArray
 | .mk _ _ s _ => s
def V.fs : V → List (ByteArray × V)
 | .mk _ _ _ fs => fs
end Go.Clap

set_option linter.unusedVariables false
set_option linter.unusedSimpArgs false
namespace Go.Clap
def sat {α : Type} (m : Option α) (R : α → Prop) : Prop := ∃ r, m = some r ∧ R r
def sbind {τ ο : Type} (A : Option (Sum τ ο)) (K : ο → Option τ) : Option τ :=
 match A with
 | none => none
 | some (.inl t) => some t
 | some (.inr o) => K o
def lft {τ ο : Type} (m : Option τ) : Option (Sum τ ο) :=
 match m with
 | none => none
 | some t => some (.inl t)
def grdP {α : Type} (p : Prop) [Decidable p] (m : Option α) : Option α := if p then m else none
def getL {α β : Type} (xs : List α) (i : Int) (f : α → Option β) : Option β :=
 if 0 ≤ i then (match xs[i.toNat]? with | some u => f u | none => none) else none
def getN {α β : Type} (xs : List α) (i : Nat) (f : α → Option β) : Option β :=
 match xs[i]? with | some u => f u | none => none
def getB {β : Type} (s : ByteArray) (i : Int) (f : UInt8 → Option β) : Option β :=
 if 0 ≤ i then (match s.data[i.toNat]? with | some u => f u | none => none) else none
def bytesJ (s : ByteArray) : List Int := s.data.toList.map fun b => (b.toNat : Int)
def bAnd (k : IntKind) (a b : Int) : Int := k.wrap (BitVec.ofInt k.bits a &&& BitVec.ofInt k.bits b).toNat
def bOr (k : IntKind) (a b : Int) : Int := k.wrap (BitVec.ofInt k.bits a ||| BitVec.ofInt k.bits b).toNat
def bNot (k : IntKind) (n : Int) : Int := k.wrap (BitVec.ofInt k.bits (if k.signed then -1 else k.max) ^^^ BitVec.ofInt k.bits n).toNat
def bShl (k : IntKind) (a b : Int) : Int := k.wrap (a * 2 ^ (min b.toNat k.bits))
def bShr (k : IntKind) (a b : Int) : Int := a.fdiv (2 ^ (min b.toNat k.bits))
section
variable {α β τ ο : Type}
theorem sat_none {R : α → Prop} (h : sat none R) : False := by obtain ⟨_, h, _⟩ := h; cases h
theorem sat_some {v : α} {R : α → Prop} (h : sat (some v) R) : R v := by obtain ⟨r, h, hr⟩ := h; cases h; exact hr
theorem sat_mk {v : α} {R : α → Prop} (h : R v) : sat (some v) R := ⟨v, rfl, h⟩
theorem sat_mono {m : Option α} {R R' : α → Prop} (h : sat m R) (hr : ∀ r, R r → R' r) : sat m R' := by obtain ⟨r, h, hR⟩ := h; exact ⟨r, h, hr r hR⟩
theorem sat_bind {m : Option α} {f : α → Option β} {R : β → Prop} (h : sat (m.bind f) R) : sat m fun r => sat (f r) R := by
 obtain ⟨r, h, hR⟩ := h
 cases m with
 | none => cases h
 | some v => exact ⟨v, rfl, r, h, hR⟩
theorem sat_ct {A B : Option α} {R : α → Prop} (h : sat (cond true A B) R) : sat A R := h
theorem sat_cf {A B : Option α} {R : α → Prop} (h : sat (cond false A B) R) : sat B R := h
theorem sat_grdP {p : Prop} [Decidable p] {m : Option α} {R : α → Prop} (h : sat (grdP p m) R) : p ∧ sat m R := by
 unfold grdP at h
 split at h
 · exact ⟨‹_›, h⟩
 · exact (sat_none h).elim
theorem sat_getN {xs : List α} {i : Nat} {f : α → Option β} {R : β → Prop} (h : sat (getN xs i f) R) : i < xs.length ∧ ∀ u, xs[i]? = some u → sat (f u) R := by
 unfold getN at h
 split at h
 · rename_i u hu
   refine ⟨(List.getElem?_eq_some_iff.1 hu).1, fun v hv => ?_⟩
   rw [hu] at hv; cases hv; exact h
 · exact (sat_none h).elim
theorem sat_getL {xs : List α} {i : Int} {f : α → Option β} {R : β → Prop} (h : sat (getL xs i f) R) : (0 ≤ i ∧ i < xs.length) ∧ ∀ u, xs[i.toNat]? = some u → sat (f u) R := by
 unfold getL at h
 split at h
 · rename_i h0
   have := sat_getN (f := f) h
   exact ⟨⟨h0, by omega⟩, this.2⟩
 · exact (sat_none h).elim
theorem sat_getB {s : ByteArray} {i : Int} {f : UInt8 → Option β} {R : β → Prop} (h : sat (getB s i f) R) : (0 ≤ i ∧ i < s.size) ∧ ∀ u, s.data[i.toNat]? = some u → sat (f u) R := by
 unfold getB at h
 split at h
 · rename_i h0
   split at h
   · rename_i u hu
     have := (Array.getElem?_eq_some_iff.1 hu).1
     have hs : s.size = s.data.size := rfl
     refine ⟨⟨h0, by omega⟩, fun v hv => ?_⟩
     rw [hu] at hv; cases hv; exact h
   · exact (sat_none h).elim
 · exact (sat_none h).elim
theorem sat_lft {m : Option τ} {R1 : Sum τ ο → Prop} {R : τ → Prop} (hl : ∀ t, R1 (.inl t) → R t) (h : sat (lft m) R1) : sat m R := by
 obtain ⟨r, h, hR⟩ := h
 cases m with
 | none => cases h
 | some v => cases h; exact ⟨v, rfl, hl v hR⟩
theorem sat_sbind {A : Option (Sum τ ο)} {K : ο → Option τ} {R : τ → Prop} (h : sat (sbind A K) R) :
 ∃ R1 : Sum τ ο → Prop, sat A R1 ∧ (∀ t, R1 (.inl t) → R t) ∧ ∀ o, R1 (.inr o) → sat (K o) R := by
 refine ⟨fun | .inl t => R t | .inr o => sat (K o) R, ?_, fun _ h => h, fun _ h => h⟩
 obtain ⟨r, h, hR⟩ := h
 cases A with
 | none => cases h
 | some v =>
  cases v with
  | inl t => cases h; exact ⟨_, rfl, hR⟩
  | inr o => exact ⟨_, rfl, r, h, hR⟩
theorem map_get {γ : Type} {f : α → γ} {xs : List α} {i : Nat} {c : γ} (h : (xs.map f)[i]? = some c) : ∃ x, xs[i]? = some x ∧ c = f x := by
 rw [List.getElem?_map, Option.map_eq_some_iff] at h
 obtain ⟨x, h1, h2⟩ := h
 exact ⟨x, h1, h2.symm⟩
theorem ll_nil {xs rem : List α} {j : Nat} (h : xs.drop j = rem) (ht : false = decide (((j : Nat) : Int) < ((xs.length : Nat) : Int))) : rem = [] := by
 subst h
 exact List.drop_eq_nil_of_le (by have := of_decide_eq_false ht.symm; omega)
theorem ll_cons {xs rem : List α} {j : Nat} (h : xs.drop j = rem) (ht : true = decide (((j : Nat) : Int) < ((xs.length : Nat) : Int))) : ∃ x tl, rem = x :: tl ∧ xs[j]? = some x ∧ xs.drop (j + 1) = tl := by
 have hj : j < xs.length := by have := of_decide_eq_true ht.symm; omega
 subst h
 exact ⟨xs[j], xs.drop (j + 1), List.drop_eq_getElem_cons hj, List.getElem?_eq_getElem hj, rfl⟩
theorem lx_bd {xs : List α} {j : Nat} {x : α} (h : xs[j]? = some x) : (0 : Int) ≤ ((j : Nat) : Int) ∧ ((j : Nat) : Int) < xs.length := by
 have := (List.getElem?_eq_some_iff.1 h).1
 omega
theorem lx_eq {xs : List α} {j : Nat} {x u : α} (h : xs[j]? = some x) (hu : xs[((j : Nat) : Int).toNat]? = some u) : x = u := by
 rw [Int.toNat_natCast, h] at hu
 exact Option.some.inj hu
theorem wrap_lt {z : Int} (h1 : -9223372036854775808 ≤ z) (h2 : z ≤ 9223372036854775807) : IntKind.wrap .i64 z = z := by
 rw [IntKind.wrap_i64]; omega
theorem lx_wr {xs : List α} {j : Nat} {x : α} (h : xs[j]? = some x) (hl : xs.length ≤ 9223372036854775807) : IntKind.wrap .i64 (((j : Nat) : Int) + 1) = ((j + 1 : Nat) : Int) := by
 have := (List.getElem?_eq_some_iff.1 h).1
 rw [wrap_lt (by omega) (by omega)]; omega
theorem il_nil {f : Nat} {N i : Int} (h : f = (N - i).toNat) (ht : false = decide (i < N)) : f = 0 := by
 have := of_decide_eq_false ht.symm
 omega
theorem il_cons {f : Nat} {N i : Int} (h : f = (N - i).toNat) (hp : 0 ≤ i) (ht : true = decide (i < N)) (hN : N ≤ 9223372036854775807) :
 ∃ g, f = g + 1 ∧ IntKind.wrap .i64 (i + 1) = i + 1 ∧ 0 ≤ i + 1 ∧ g = (N - (i + 1)).toNat := by
 have := of_decide_eq_true ht.symm
 exact ⟨(N - (i + 1)).toNat, by omega, wrap_lt (by omega) (by omega), by omega, rfl⟩
def caseI {γ : Type} (a : Int) (l : List (Option γ)) : Option γ := if 0 ≤ a then (l[a.toNat]?).join else none
theorem sat_caseI {γ : Type} {a : Int} {l : List (Option γ)} {R : γ → Prop} (h : sat (caseI a l) R) : (0 ≤ a ∧ a < l.length) ∧ ∀ j : Nat, (j : Int) = a → sat ((l[j]?).join) R := by
 unfold caseI at h
 split at h
 · rename_i h0
   cases hl : l[a.toNat]? with
   | none => rw [hl] at h; exact (sat_none h).elim
   | some m =>
    have := (List.getElem?_eq_some_iff.1 hl).1
    exact ⟨⟨h0, by omega⟩, fun j hj => by subst hj; exact h⟩
 · exact (sat_none h).elim
section
variable {γ : Type} {A B C D : Option γ} {l : List (Option γ)} {R : γ → Prop}
theorem sat_j0 (h : sat (((A :: l)[0]?).join) R) : sat A R := h
theorem sat_j1 (h : sat (((A :: B :: l)[1]?).join) R) : sat B R := h
theorem sat_j2 (h : sat (((A :: B :: C :: l)[2]?).join) R) : sat C R := h
theorem sat_j3 (h : sat (((A :: B :: C :: D :: l)[3]?).join) R) : sat D R := h
end
def mget {κ ν : Type} [BEq κ] : List (κ × ν) → κ → Option ν
 | [], _ => none
 | (a, v) :: l, u => cond (u == a) (some v) (mget l u)
theorem mfind_set4 {vc : Cd} : ∀ (l : List ((Int × Int × Int × Int) × CU vc)) (u : Int × Int × Int × Int), mfind SS .set4 vc l u = some (mget l u)
 | [], _ => rfl
 | ((a1, a2, a3, a4), v) :: l, (u1, u2, u3, u4) => by
  have he : eqCells (SS.row .set4 (u1, u2, u3, u4)) (SS.row .set4 (a1, a2, a3, a4)) = some ((u1, u2, u3, u4) == (a1, a2, a3, a4)) := by
   show some ((u1 == a1) && ((u2 == a2) && ((u3 == a3) && ((u4 == a4) && true)))) = some ((u1 == a1) && ((u2 == a2) && ((u3 == a3) && (u4 == a4))))
   rw [Bool.and_true]
  rw [mfind, he, mget]
  cases (u1, u2, u3, u4) == (a1, a2, a3, a4)
  · exact mfind_set4 l _
  · rfl
theorem mfind_none {α ν : Type} {f : List (α × ν) → α → Option (Option ν)} {g : List (α × ν) → α → Option ν} (h : ∀ l u, f l u = some (g l u)) {l : List (α × ν)} {u : α} (hb : (g l u).isNone = true) : f l u = some none := by
 rw [h, Option.isNone_iff_eq_none.1 hb]
end
abbrev BA := ByteArray
abbrev FV := List (ByteArray × V)
abbrev N4 := Int × Int × Int × Int
abbrev L4 := List (Int × Int × Int × Int)
abbrev LW := List (V × V)
abbrev LI := List Int
abbrev LB := List ByteArray
abbrev MX (P : Program) : Prop := P.follows .mixedOrders = true
abbrev KF (P : Program) (fid : Nat → FuncId) (n : Nat) (j : Fn TT) : Prop := chkF SS P fid n j = true
abbrev SP (P : Program) (fid : Nat → FuncId) : Oracle TT := Spec SS P fid
instance {T : TyS} {n : Nat} : OfNat (Opd T) n := ⟨.t n⟩
abbrev iC (n : Int) : Opd TT := .c (.int .i64 n)
abbrev bF : Opd TT := .c (.bool false)
abbrev bT : Opd TT := .c (.bool true)
abbrev qo (d : Nat) (o : IOp TT) : Ins TT := ⟨some d, none, o⟩
abbrev qp (o : IOp TT) : Ins TT := ⟨none, none, o⟩
abbrev qg (k d : Nat) (o : IOp TT) : Ins TT := ⟨some d, some (k, true), o⟩
abbrev qf (k d : Nat) (o : IOp TT) : Ins TT := ⟨some d, some (k, false), o⟩
abbrev oR (n : Nat) : OT := ol (List.range n)
theorem nle {a b : Nat} (h : Nat.ble a b = true) : a ≤ b := Nat.le_of_ble_eq_true h
theorem nls {a : Nat} : a < a + 1 := Nat.lt_succ_self a
theorem nn {α : Type} {R : α → Prop} {X : Prop} (h : sat none R) : X := (sat_none h).elim
theorem LN {p : Prop} (h : p := by first | rfl | omega | (simp; done) | (simp only [List.length_append, List.length_set, List.length_cons, List.length_nil, List.length_replicate]; omega) | (clear h; simp only [List.length_append, List.length_set, List.length_cons, List.length_nil, List.length_replicate] at * <;> omega)) : p := h
theorem ND (m : Nat) {l : List Id} (h : (lX m ++ l).Nodup := by decide) : (lX m ++ l).Nodup := h
section
variable {α β : Type}
theorem kc {c : Bool} {A B : Option α} {R : α → Prop} {X : Bool → Prop} (h : sat (cond c A B) R) (f : sat B R → X false) (g : sat A R → X true) : ∀ t, t = c → X t := by
 intro t e
 subst e
 cases t
 · exact f h
 · exact g h
theorem kp {p : Prop} {d : Decidable p} {m : Option α} {R : α → Prop} {X : Prop} (h : sat (@grdP α p d m) R) (k : p → sat m R → X) : p ∧ X := by
 obtain ⟨a, b⟩ := sat_grdP h
 exact ⟨a, k a b⟩
theorem kg {b : Prop} {P : β → Prop} {f : β → Option α} {R : α → Prop} {X : β → Prop} (h : b ∧ ∀ u, P u → sat (f u) R) (k : ∀ u, P u → sat (f u) R → X u) : b ∧ ∀ u, P u → X u :=
 ⟨h.1, fun u hu => k u hu (h.2 u hu)⟩
end
theorem kk {O : Oracle TT} {ks : List Nat} {ids : List Id} {c : IC TT} {σ σ' : St TT} {K : Ex → St TT → Prop} (e : σ.keep ks ids = σ') (h : vcC (S := SS) O c σ' K) : vcC (S := SS) O (.keep ks ids c) σ K := by
 unfold vcC
 rw [e]
 exact h
theorem kL {α : Type} {p : α → Prop} (a : α) (h : p a) : ∃ a, p a := ⟨a, h⟩
theorem kX {α : Type} {p q : α → Prop} (a : α) (h : p a) (k : q a) : ∃ a, p a ∧ q a := ⟨a, h, k⟩
theorem kR {p q : List Id → Prop} (a : List Id) (h : p a) (k : q a) : ∃ a, p a ∧ q a := ⟨a, h, k⟩
theorem row_bytesJ (s : ByteArray) : (bytesJ s).map (SS.row .u8) = s.data.toList.map (fun b => [C.int IntKind.u8 (b.toNat : Int)]) := by
 simp only [bytesJ, List.map_map]; rfl
abbrev eB : BA := ⟨#[]⟩
abbrev sE : Opd TT := .c (.str eB)
abbrev pX (n : Nat) : D TT := .c (.ptr (.x n) 0 0)
abbrev pS (n : Nat) : D TT := .c (.ptr (.s n) 0 0)
abbrev ci (n : Int) : C TT := .int .i64 n
abbrev zV : List (C TT) := [.int .i64 0, .int .i64 0, .str eB, .isl .fld []]
abbrev zFd : List (C TT) := [.str eB, .int .i64 0, .int .i64 0, .str eB, .isl .fld []]
abbrev zTw : List (C TT) := [.int .i64 0, .int .i64 0, .str eB, .isl .fld [], .int .i64 0, .int .i64 0, .str eB, .isl .fld []]
abbrev zLn : List (C TT) := [.int .i64 0, .str eB, .str eB, .isl .str [], .int .i64 0, .int .i64 0, .int .i64 0, .int .u8 0, .int .i64 0, .int .i64 0, .str eB, .isl .fld [], .isl .two [], .isl .lens []]
end Go.Clap
