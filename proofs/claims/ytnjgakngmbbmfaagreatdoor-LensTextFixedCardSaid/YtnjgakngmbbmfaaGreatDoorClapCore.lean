/- The checks of the small code against the loaded functions. -/
import Derived.Calls
import Derived.Orders
import Derived.Below
import Derived.Laws.CopyRow
import Derived.Laws.Append
import Derived.Laws.Slices
set_option linter.unusedVariables false
set_option linter.unusedSimpArgs false
namespace Go.Clap
structure TyS where
 Ty : Type
 U : Ty → Type
inductive Id where
 | s (n : Nat)
 | x (n : Nat)
 | sub (i : Id) (n : Nat)
 deriving DecidableEq
inductive C (T : TyS) where
 | int (k : IntKind) (n : Int)
 | bool (b : Bool)
 | str (s : ByteArray)
 | isl (c : T.Ty) (xs : List (T.U c))
 | nils
 | nilp
 | nilf
 | osl (id : Id) (off len : Nat)
 | ptr (id : Id) (e off : Nat)
 | iptr (c : T.Ty) (x : T.U c) (off : Nat)
 | fn (f : Nat) (caps : List Id)
 | mapp (id : Id)
 | ifc (nil : Bool)
 | ife (o : Option Int)
 | any
inductive D (T : TyS) where
 | any
 | c (x : C T)
 | agg (cs : List (C T))
 | tup (ds : List (D T))
 | arrv (c : T.Ty) (xs : List (T.U c))
inductive Ent (T : TyS) where
 | row (ro : Bool) (c : T.Ty) (xs : List (T.U c))
 | var (cs : List (C T))
 | tab (c : T.Ty) (rows : List (List (T.U c))) (cur : Option (Nat × Option (Id × Nat)))
 | map (kc vc : T.Ty) (l : List (T.U kc × T.U vc))
def Ent.ro {T : TyS} : Ent T → Bool
 | .row ro _ _ => ro
 | _ => false
def tabC {T : TyS} (c : T.Ty) (cur : Option (Nat × Option (Id × Nat))) (j : Nat) (r : List (T.U c)) : C T :=
 match cur with
 | none => .isl c r
 | some (k, o) => if j = k then (match o with | some (id, len) => .osl id 0 len | none => .any) else .isl c r
def C.data {T : TyS} : C T → Bool
 | .int _ _ | .bool _ | .str _ | .isl _ _ => true
 | _ => false
def C.ids {T : TyS} : C T → List Id
 | .osl id _ _ => [id]
 | .ptr id _ _ => [id]
 | .fn _ caps => caps
 | .mapp id => [id]
 | _ => []
def idsL {T : TyS} : List (C T) → List Id
 | [] => []
 | c :: cs => c.ids ++ idsL cs
theorem mem_idsL {T : TyS} {cs : List (C T)} {c : C T} {id : Id} (h : c ∈ cs) (hi : id ∈ c.ids) : id ∈ idsL cs := by
 induction cs with
 | nil => cases h
 | cons d ds ih =>
  simp only [idsL, List.mem_append]
  rcases List.mem_cons.1 h with rfl | h
  · exact .inl hi
  · exact .inr (ih h)
def D.ids1 {T : TyS} : D T → List Id
 | .c x => x.ids
 | .agg cs => idsL cs
 | _ => []
def idsD {T : TyS} : List (D T) → List Id
 | [] => []
 | d :: ds => d.ids1 ++ idsD ds
theorem mem_idsD {T : TyS} {ds : List (D T)} {d : D T} {id : Id} (h : d ∈ ds) (hi : id ∈ d.ids1) : id ∈ idsD ds := by
 induction ds with
 | nil => cases h
 | cons e es ih =>
  simp only [idsD, List.mem_append]
  rcases List.mem_cons.1 h with rfl | h
  · exact .inl hi
  · exact .inr (ih h)
def D.ids {T : TyS} : D T → List Id
 | .tup ds => idsD ds
 | d => d.ids1
def Ent.ids {T : TyS} : Ent T → List Id
 | .row _ _ _ => []
 | .var cs => idsL cs
 | .tab _ _ (some (_, some (id, _))) => [id]
 | .tab _ _ _ => []
 | .map _ _ _ => []
theorem tabC_ids {T : TyS} {c : T.Ty} {rows : List (List (T.U c))} {cur : Option (Nat × Option (Id × Nat))} {j : Nat} {r : List (T.U c)} {id : Id} (h : id ∈ (tabC c cur j r).ids) : id ∈ (Ent.tab c rows cur).ids := by
 unfold tabC at h
 split at h
 · cases h
 · split at h
   · split at h
     · simpa [C.ids, Ent.ids] using h
     · cases h
   · cases h
def C.le {T : TyS} (a b : C T) : Prop := a = b ∨ (a = .nils ∧ ∃ c, b = .isl c [])
structure Sig extends TyS where
 sz : Ty → Nat
 row : (c : Ty) → U c → List (C toTyS)
 row_len : ∀ c x, (row c x).length = sz c
 sz_pos : ∀ c, 0 < sz c
 row_data : ∀ c x d, d ∈ row c x → d.data = true
 byte : Ty
 byteV : UInt8 → U byte
 byte_row : ∀ b, row byte (byteV b) = [.int .u8 b.toNat]
 unrow : (c : Ty) → List (C toTyS) → Option (U c)
 errT : TypeId := 0
 glob : List Nat := []
 gok : Nat → Array Value → Prop := fun _ _ => True
 gone : List Nat := []
 gok1 : ∀ b ∈ gone, b ∈ glob ∧ ∀ arr, gok b arr → ∃ v, arr[0]? = some v ∧ v.oneCell' = true := by intro b h; cases h
 unrow_spec : ∀ (c : Ty) (cs : List (C toTyS)) (x : U c), unrow c cs = some x → cs.length = sz c ∧ ∀ (j : Nat) (a b : C toTyS), cs[j]? = some a → (row c x)[j]? = some b → C.le a b
variable {S : Sig}
inductive Where where
 | dead
 | empty
 | blk (b n sz : Nat)
inductive IRel (S : Sig) (w : World) (ok : Nat → Prop) : Value → C S.toTyS → Prop
 | int (k : IntKind) (n : Int) : IRel S w ok (.int k n) (.int k n)
 | bool (b : Bool) : IRel S w ok (.bool b) (.bool b)
 | str (s : ByteArray) : IRel S w ok (.string s) (.str s)
 | isl (c : S.Ty) (xs : List (S.U c)) (base : Option Addr) (cap blk off : Nat) (u : Nat → Nat → Value)
  (hcap : xs.length ≤ cap) (hmax : cap ≤ maxLen)
  (hb : xs ≠ [] → base = some ⟨blk, off, none⟩ ∧ ok blk)
  (hc : ∀ i x j d, xs[i]? = some x → (S.row c x)[j]? = some d → w.cell? ⟨blk, off + i * S.sz c + j, none⟩ = some (u i j))
  (hr : ∀ i x j d, xs[i]? = some x → (S.row c x)[j]? = some d → IRel S w ok (u i j) d) :
  IRel S w ok (.slice base xs.length cap) (.isl c xs)
theorem IRel.int_inv {w : World} {ok : Nat → Prop} {v : Value} {k : IntKind} {n : Int} (h : IRel S w ok v (.int k n)) : v = .int k n := by
 cases h; rfl
def ISl (S : Sig) (w : World) (ok : Nat → Prop) (base : Option Addr) (cap : Nat) (c : S.Ty) (xs : List (S.U c)) : Prop :=
 xs.length ≤ cap ∧ cap ≤ maxLen ∧ (xs ≠ [] → ∃ blk off, base = some ⟨blk, off, none⟩ ∧ ok blk ∧
  ∀ i x j d, xs[i]? = some x → (S.row c x)[j]? = some d → ∃ u, w.cell? ⟨blk, off + i * S.sz c + j, none⟩ = some u ∧ IRel S w ok u d)
theorem IRel.isl_inv {w : World} {ok : Nat → Prop} {v : Value} {c : S.Ty} {xs : List (S.U c)} (h : IRel S w ok v (.isl c xs)) :
 ∃ base cap, v = .slice base xs.length cap ∧ ISl S w ok base cap c xs := by
 cases h with
 | isl _ _ base cap blk off u hcap hmax hb hc hr =>
  refine ⟨base, cap, rfl, hcap, hmax, fun hne => ?_⟩
  obtain ⟨h1, h2⟩ := hb hne
  exact ⟨blk, off, h1, h2, fun i x j d hx hd => ⟨u i j, hc i x j d hx hd, hr i x j d hx hd⟩⟩
theorem IRel.of_isl {w : World} {ok : Nat → Prop} {base : Option Addr} {cap : Nat} {c : S.Ty} {xs : List (S.U c)} (h : ISl S w ok base cap c xs) :
 IRel S w ok (.slice base xs.length cap) (.isl c xs) := by
 obtain ⟨hcap, hmax, h⟩ := h
 by_cases hne : xs = []
 · subst hne
   exact .isl c [] base cap 0 0 (fun _ _ => .nilFunc) hcap hmax (fun h => absurd rfl h) (fun i x j d hx => by simp at hx) (fun i x j d hx => by simp at hx)
 · obtain ⟨blk, off, rfl, hok, hx⟩ := h hne
   have ch : ∀ i j, ∃ u, ∀ x d, xs[i]? = some x → (S.row c x)[j]? = some d → w.cell? ⟨blk, off + i * S.sz c + j, none⟩ = some u ∧ IRel S w ok u d := by
    intro i j
    cases hi : xs[i]? with
    | none => exact ⟨.nilFunc, fun x d h => by simp at h⟩
    | some x =>
     cases hj : (S.row c x)[j]? with
     | none => exact ⟨.nilFunc, fun x' d h h' => by cases h; simp [hj] at h'⟩
     | some d =>
      obtain ⟨u, h1, h2⟩ := hx i x j d hi hj
      exact ⟨u, fun x' d' h h' => by cases h; rw [hj] at h'; cases h'; exact ⟨h1, h2⟩⟩
   obtain ⟨u, hu⟩ : ∃ u : Nat → Nat → Value, ∀ i j x d, xs[i]? = some x → (S.row c x)[j]? = some d → w.cell? ⟨blk, off + i * S.sz c + j, none⟩ = some (u i j) ∧ IRel S w ok (u i j) d := by
    have ch' : ∀ i, ∃ f : Nat → Value, ∀ j x d, xs[i]? = some x → (S.row c x)[j]? = some d → w.cell? ⟨blk, off + i * S.sz c + j, none⟩ = some (f j) ∧ IRel S w ok (f j) d := by
     intro i
     obtain ⟨f, hf⟩ := Classical.axiomOfChoice (ch i)
     exact ⟨f, fun j x d => hf j x d⟩
    obtain ⟨f, hf⟩ := Classical.axiomOfChoice ch'
    exact ⟨f, fun i j x d => hf i j x d⟩
   exact .isl c xs _ cap blk off u hcap hmax (fun _ => ⟨rfl, hok⟩) (fun i x j d h h' => (hu i j x d h h').1) (fun i x j d h h' => (hu i j x d h h').2)
theorem IRel.mono {w w' : World} {ok ok' : Nat → Prop} (hs : ∀ b, ok b → w'.heap[b]? = w.heap[b]?) (ho : ∀ b, ok b → ok' b) {v : Value} {d : C S.toTyS}
 (h : IRel S w ok v d) : IRel S w' ok' v d := by
 induction h with
 | int k n => exact .int k n
 | bool b => exact .bool b
 | str s => exact .str s
 | isl c xs base cap blk off u hcap hmax hb hc hr ih =>
  refine .isl c xs base cap blk off u hcap hmax (fun hne => ⟨(hb hne).1, ho _ (hb hne).2⟩) (fun i x j d hx hd => ?_) ih
  have hne : xs ≠ [] := by rintro rfl; simp at hx
  rw [← hc i x j d hx hd]
  exact World.cell?_of_block (w := w) (hs blk (hb hne).2)
theorem IRel.oneCell {w : World} {ok : Nat → Prop} {v : Value} {d : C S.toTyS} (h : IRel S w ok v d) : v.oneCell' = true := by
 cases h <;> rfl
def CRel (S : Sig) (fid : Nat → FuncId) (w : World) (ok : Nat → Prop) (ρ : Id → Where) (v : Value) : C S.toTyS → Prop
 | .int k n => v = Value.int k n
 | .bool b => v = Value.bool b
 | .str s => v = Value.string s
 | .isl c xs => IRel S w ok v (.isl c xs)
 | .nils => v = Value.slice none 0 0
 | .nilp => v = Value.pointer none
 | .nilf => v = Value.nilFunc
 | .osl id off len => match ρ id with
  | .dead => v.oneCell' = true
  | .empty => off = 0 ∧ len = 0 ∧ v = Value.slice none 0 0
  | .blk b n sz => ∃ base cap, v = Value.slice base len cap ∧ len ≤ cap ∧ cap ≤ maxLen ∧ (0 < cap → base = some ⟨b, off * sz, none⟩ ∧ (off + cap) * sz ≤ n)
 | .ptr id e off => match ρ id with
  | .blk b _ sz => v = Value.pointer (some ⟨b, e * sz + off, none⟩)
  | .empty => False
  | .dead => v.oneCell' = true
 | .iptr c x off => ∃ b base, ok b ∧ v = Value.pointer (some ⟨b, base + off, none⟩) ∧
  ∀ j d, (S.row c x)[j]? = some d → ∃ u, w.cell? ⟨b, base + j, none⟩ = some u ∧ IRel S w ok u d
 | .fn f caps => ∃ vs : Array Value, v = Value.func (.func (fid f)) #[] vs ∧ vs.size = caps.length ∧
  ∀ (i : Nat) (id : Id) (b n sz : Nat), caps[i]? = some id → ρ id = .blk b n sz → vs[i]? = some (Value.pointer (some ⟨b, 0, none⟩))
 | .mapp id => match ρ id with
  | .blk b _ _ => v = Value.map (some b)
  | .empty => False
  | .dead => v.oneCell' = true
 | .ife o => (o = none ∧ v = Value.nilIface) ∨ ∃ n, o = some n ∧ v = Value.iface S.errT (.int .i64 n)
 | .ifc b => (b = true ∧ v = Value.nilIface) ∨ (b = false ∧ ∃ t u, v = Value.iface t u)
 | .any => v.oneCell' = true
theorem CRel.oneCell {fid : Nat → FuncId} {w : World} {ok : Nat → Prop} {ρ : Id → Where} {v : Value} {d : C S.toTyS} (h : CRel S fid w ok ρ v d) : v.oneCell' = true := by
 cases d <;> simp only [CRel] at h
 case isl => exact h.oneCell
 case osl id off len =>
  split at h
  · exact h
  · obtain ⟨_, _, rfl⟩ := h; rfl
  · obtain ⟨base, cap, rfl, _⟩ := h; rfl
 case ptr id e off =>
  split at h
  · subst h; rfl
  · exact h.elim
  · exact h
 case iptr => obtain ⟨b, base, _, rfl, _⟩ := h; rfl
 case fn => obtain ⟨vs, rfl, _⟩ := h; rfl
 case mapp id =>
  split at h
  · subst h; rfl
  · exact h.elim
  · exact h
 case ife => rcases h with ⟨_, rfl⟩ | ⟨n, _, rfl⟩ <;> rfl
 case ifc => rcases h with ⟨_, rfl⟩ | ⟨_, t, u, rfl⟩ <;> rfl
 case any => exact h
 all_goals (subst h; rfl)
theorem IRel.crel {fid : Nat → FuncId} {w : World} {ok : Nat → Prop} {ρ : Id → Where} {v : Value} {d : C S.toTyS} (h : IRel S w ok v d) : CRel S fid w ok ρ v d := by
 cases h with
 | int => rfl
 | bool => rfl
 | str => rfl
 | isl c xs base cap blk off u hcap hmax hb hc hr => exact .isl c xs base cap blk off u hcap hmax hb hc hr
theorem CRel.irel {fid : Nat → FuncId} {w : World} {ok : Nat → Prop} {ρ : Id → Where} {v : Value} {d : C S.toTyS} (h : CRel S fid w ok ρ v d) (hd : d.data = true) : IRel S w ok v d := by
 cases d <;> simp [C.data] at hd <;> simp only [CRel] at h
 case isl => exact h
 all_goals (subst h; constructor)
theorem CRel.le {fid : Nat → FuncId} {w : World} {ok : Nat → Prop} {ρ : Id → Where} {v : Value} {a b : C S.toTyS} (h : CRel S fid w ok ρ v a) (hl : C.le a b) : CRel S fid w ok ρ v b := by
 rcases hl with rfl | ⟨rfl, c, rfl⟩
 · exact h
 · simp only [CRel] at h
   subst h
   have hi : ISl S w ok none 0 c ([] : List (S.U c)) := ⟨by simp, by simp, fun hne => absurd rfl hne⟩
   exact IRel.of_isl hi
def Stays (ids : List Id) (ρ ρ' : Id → Where) : Prop := ∀ id ∈ ids, ρ' id = ρ id ∨ ρ' id = .dead
theorem Stays.refl (ids : List Id) (ρ : Id → Where) : Stays ids ρ ρ := fun _ _ => .inl rfl
theorem CRel.mono {fid : Nat → FuncId} {w w' : World} {ok ok' : Nat → Prop} {ρ ρ' : Id → Where} (hs : ∀ b, ok b → w'.heap[b]? = w.heap[b]?) (ho : ∀ b, ok b → ok' b)
 {v : Value} {d : C S.toTyS} (hρ : Stays d.ids ρ ρ') (h : CRel S fid w ok ρ v d) : CRel S fid w' ok' ρ' v d := by
 have h1 := h.oneCell
 cases d <;> simp only [CRel] at h ⊢
 case isl => exact h.mono hs ho
 case osl id off len =>
  rcases hρ id (by simp [C.ids]) with e | e
  · rw [e]; exact h
  · rw [e]; exact h1
 case ptr id e off =>
  rcases hρ id (by simp [C.ids]) with e | e
  · rw [e]; exact h
  · rw [e]; exact h1
 case iptr c x off =>
  obtain ⟨b, base, hb, rfl, hc⟩ := h
  refine ⟨b, base, ho b hb, rfl, fun j d hd => ?_⟩
  obtain ⟨u, hu, hi⟩ := hc j d hd
  exact ⟨u, by rw [← hu]; exact World.cell?_of_block (w := w) (hs b hb), hi.mono hs ho⟩
 case fn f caps =>
  obtain ⟨vs, rfl, hl, hc⟩ := h
  refine ⟨vs, rfl, hl, fun i id b n sz hi hb => ?_⟩
  rcases hρ id (by simpa [C.ids] using List.mem_of_getElem? hi) with e | e
  · exact hc i id b n sz hi (e ▸ hb)
  · rw [e] at hb; cases hb
 case mapp id =>
  rcases hρ id (by simp [C.ids]) with e | e
  · rw [e]; exact h
  · rw [e]; exact h1
 all_goals exact h
def LRel (S : Sig) (fid : Nat → FuncId) (w : World) (ok : Nat → Prop) (ρ : Id → Where) (vs : List Value) (cs : List (C S.toTyS)) : Prop :=
 vs.length = cs.length ∧ ∀ (i : Nat) (v : Value) (c : C S.toTyS), vs[i]? = some v → cs[i]? = some c → CRel S fid w ok ρ v c
def DRel1 (S : Sig) (fid : Nat → FuncId) (w : World) (ok : Nat → Prop) (ρ : Id → Where) (v : Value) : D S.toTyS → Prop
 | .any => True
 | .c x => CRel S fid w ok ρ v x
 | .agg cs => ∃ arr : Array Value, v = .agg arr ∧ LRel S fid w ok ρ arr.toList cs
 | .tup _ => False
 | .arrv c xs => ∃ arr : Array Value, v = .agg arr ∧ arr.toList.length = (xs.flatMap (S.row c)).length ∧ ∀ (i : Nat) (u : Value) (d : C S.toTyS), arr.toList[i]? = some u → (xs.flatMap (S.row c))[i]? = some d → IRel S w ok u d
def DRel (S : Sig) (fid : Nat → FuncId) (w : World) (ok : Nat → Prop) (ρ : Id → Where) (v : Value) : D S.toTyS → Prop
 | .tup ds => ∃ arr : Array Value, v = .tuple arr ∧ arr.size = ds.length ∧ ∀ (i : Nat) (u : Value) (d : D S.toTyS), arr[i]? = some u → ds[i]? = some d → DRel1 S fid w ok ρ u d
 | d => DRel1 S fid w ok ρ v d
section
variable {fid : Nat → FuncId} {w w' : World} {ok ok' : Nat → Prop} {ρ ρ' : Id → Where}
theorem LRel.mono (hs : ∀ b, ok b → w'.heap[b]? = w.heap[b]?) (ho : ∀ b, ok b → ok' b) {vs : List Value} {cs : List (C S.toTyS)} (hρ : Stays (idsL cs) ρ ρ')
 (h : LRel S fid w ok ρ vs cs) : LRel S fid w' ok' ρ' vs cs :=
 ⟨h.1, fun i v c hv hc => (h.2 i v c hv hc).mono hs ho fun id hi => hρ id (mem_idsL (List.mem_of_getElem? hc) hi)⟩
theorem DRel1.mono (hs : ∀ b, ok b → w'.heap[b]? = w.heap[b]?) (ho : ∀ b, ok b → ok' b) {v : Value} {d : D S.toTyS} (hρ : Stays d.ids1 ρ ρ')
 (h : DRel1 S fid w ok ρ v d) : DRel1 S fid w' ok' ρ' v d := by
 cases d with
 | any => exact True.intro
 | c x => exact CRel.mono hs ho hρ h
 | agg cs => obtain ⟨arr, rfl, hl⟩ := h; exact ⟨arr, rfl, hl.mono hs ho hρ⟩
 | tup ds => exact h.elim
 | arrv c xs => obtain ⟨arr, rfl, hl, hr⟩ := h; exact ⟨arr, rfl, hl, fun i u d hu hd => (hr i u d hu hd).mono hs ho⟩
theorem DRel.mono (hs : ∀ b, ok b → w'.heap[b]? = w.heap[b]?) (ho : ∀ b, ok b → ok' b) {v : Value} {d : D S.toTyS} (hρ : Stays d.ids ρ ρ')
 (h : DRel S fid w ok ρ v d) : DRel S fid w' ok' ρ' v d := by
 cases d with
 | tup ds =>
  obtain ⟨arr, rfl, hl, hc⟩ := h
  exact ⟨arr, rfl, hl, fun i u d hu hd => (hc i u d hu hd).mono hs ho fun id hi => hρ id (mem_idsD (List.mem_of_getElem? hd) hi)⟩
 | any => exact True.intro
 | c x => exact CRel.mono hs ho hρ h
 | agg cs => exact DRel1.mono (d := .agg cs) hs ho hρ h
 | arrv c xs => exact DRel1.mono (fid := fid) (d := .arrv c xs) hs ho hρ h
end
def cV {T : TyS} : C T → Value
 | .int k n => .int k n
 | .bool b => .bool b
 | .str s => .string s
 | _ => .nilFunc
def C.isInt {T : TyS} : C T → Bool
 | .int _ _ => true
 | _ => false
def intCells {T : TyS} (cs : List (C T)) : Bool := cs.all C.isInt
def keyV (S : Sig) (kc : S.Ty) (u : S.U kc) : Value := .agg ((S.row kc u).map cV).toArray
def EntRel (S : Sig) (fid : Nat → FuncId) (w : World) (ok : Nat → Prop) (ρ : Id → Where) : Where → Ent S.toTyS → Prop
 | .empty, .row _ _ xs => xs = []
 | .blk b n sz, .tab c rows cur => sz = 1 ∧ ∃ arr t, w.heap[b]? = some (.cells arr t (0, 0)) ∧ arr.size = n ∧ rows.length ≤ n ∧
  ∀ (j : Nat) (r : List (S.U c)), rows[j]? = some r → ∃ u, arr[j]? = some u ∧ CRel S fid w ok ρ u (tabC c cur j r)
 | .blk b n sz, .row _ c xs => sz = S.sz c ∧ ∃ arr t, w.heap[b]? = some (.cells arr t (0, 0)) ∧ arr.size = n ∧ xs.length * sz ≤ n ∧
  ∀ (i : Nat) (x : S.U c) (j : Nat) (d : C S.toTyS), xs[i]? = some x → (S.row c x)[j]? = some d → ∃ u, arr[i * sz + j]? = some u ∧ IRel S w ok u d
 | .blk b _ _, .map kc vc l => ∃ es clock, w.heap[b]? = some (.map es clock) ∧ es.size = l.length ∧
  ∀ (i : Nat) (p : S.U kc × S.U vc), l[i]? = some p → intCells (S.row kc p.1) = true ∧ ∃ e, es[i]? = some e ∧ e.key = keyV S kc p.1 ∧ ∀ d, (S.row vc p.2)[0]? = some d → IRel S w ok e.val d
 | .blk b n _, .var cs => ∃ arr t, w.heap[b]? = some (.cells arr t (0, 0)) ∧ arr.size = n ∧ LRel S fid w ok ρ arr.toList cs
 | _, _ => False
structure Mem (S : Sig) (fid : Nat → FuncId) (w : World) (ok : Nat → Prop) (ρ : Id → Where) (ent : Id → Option (Ent S.toTyS)) : Prop where
 live : ∀ id e, ent id = some e → EntRel S fid w ok ρ (ρ id) e
 gone : ∀ id, ent id = none → ρ id = .dead
 inj : ∀ i j b n s n' s', ρ i = .blk b n s → ρ j = .blk b n' s' → i = j
 excl : ∀ id e b n s, ent id = some e → e.ro = false → ρ id = .blk b n s → ¬ ok b
 okl : ∀ b, ok b → b < w.heap.size
def Gl (S : Sig) (w : World) (ok : Nat → Prop) (ρ : Id → Where) : Prop := ∀ b ∈ S.glob, ok b ∧ (∀ id n s, ρ id ≠ .blk b n s) ∧ ∃ arr t fr, w.heap[b]? = some (.cells arr t fr) ∧ S.gok b arr
end Go.Clap
