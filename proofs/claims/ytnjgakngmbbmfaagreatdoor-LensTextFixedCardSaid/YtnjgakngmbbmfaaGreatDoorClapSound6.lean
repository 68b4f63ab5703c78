/- The checks of the small code against the loaded functions. -/
import Derived.Lib.AppendStr
import Derived.Test.YtnjgakngmbbmfaaGreatDoorClapSound5
import Derived.Laws.IdiomStrings
set_option linter.unusedVariables false
set_option linter.unusedSimpArgs false
namespace Go.Clap
variable {S : Sig} {fid : Nat → FuncId} {P : Program} {X : Ctx S} {σ : St S.toTyS} {a : Act} {w : World} {ok : Nat → Prop} {ρ : Id → Where}
variable {o : Oper} {next : Act → World → Prop} {Q : Exit → Act → World → Prop} {K : D S.toTyS → St S.toTyS → Prop} {O : Oracle S.toTyS} {T : Id → Prop}
theorem Gam.congr {σ' : St S.toTyS} (h : Gam S fid X σ a w ok ρ) (h1 : ∀ k, σ'.get k = σ.get k) (h2 : ∀ id, σ'.ent id = σ.ent id) : Gam S fid X σ' a w ok ρ where
 defers := h.defers
 size := h.size
 env k := by rw [h1]; exact h.env k
 mem := ⟨fun id e he => h.mem.live id e (h2 id ▸ he), fun id he => h.mem.gone id (h2 id ▸ he), h.mem.inj, fun id e b n s he => h.mem.excl id e b n s (h2 id ▸ he), h.mem.okl⟩
 okf := h.okf
 ownf := h.ownf
 fr := h.fr
 okm := h.okm
 xst := h.xst
theorem St.fresh_put_none {id j : Id} (h : σ.fresh id = true) : (σ.put j none).fresh id = true := by
 have h0 := St.fresh_none h
 simp only [St.fresh, Bool.and_eq_true] at h ⊢
 refine ⟨⟨h.1.1, ?_⟩, ?_⟩
 · simp only [St.put, List.all_cons]
   simpa using h.1.2
 · rw [St.ent_put]
   split
   · rfl
   · rw [h0]; rfl
theorem Gam.newEmpty (h : Gam S fid X σ a w ok ρ) {id : Id} (hx : ∀ j, id ≠ .x j) (hf : σ.fresh id = true) (c : S.Ty) :
 Gam S fid X (σ.put id (some (.row false c []))) a w ok (updW ρ id .empty) := by
 have hin : ∀ {j b n s}, updW ρ id .empty j = .blk b n s → ρ j = .blk b n s := fun {j b n s} hb => by
  by_cases e : j = id
  · subst e; rw [updW_same] at hb; cases hb
  · rwa [updW_ne e] at hb
 refine ⟨h.defers, h.size, fun k => (h.env k).mono (fun _ _ => rfl) (fun _ x => x) (updW_stays (St.fresh_get hf k)), ⟨fun j e' hj => ?_, fun j hj => ?_, fun i j b n s n' s' hi hj => h.mem.inj i j b n s n' s' (hin hi) (hin hj), fun j e' b n s hj hr hb => ?_, h.mem.okl⟩, h.okf, fun j b n s hb => h.ownf j b n s (hin hb), h.fr, h.okm, fun j => by rw [updW_ne (fun e => hx j e.symm)]; exact h.xst j⟩
 · rw [St.ent_put] at hj
   by_cases hji : j = id
   · subst hji
     simp only [if_true, Option.some.injEq] at hj
     subst hj
     rw [updW_same]
     rfl
   · rw [if_neg hji] at hj
     rw [updW_ne hji]
     exact (h.mem.live j e' hj).mono (fun _ _ => rfl) (fun _ x => x) (updW_stays (St.fresh_ent hf hj)) (fun _ _ _ _ => rfl)
 · rw [St.ent_put] at hj
   by_cases hji : j = id
   · subst hji; simp at hj
   · rw [if_neg hji] at hj; rw [updW_ne hji]; exact h.mem.gone j hj
 · rw [St.ent_put] at hj
   by_cases hji : j = id
   · subst hji; rw [updW_same] at hb; cases hb
   · rw [if_neg hji] at hj; exact h.mem.excl j e' b n s hj hr (hin hb)
theorem exists_fresh (σ : St S.toTyS) : ∃ n, σ.fresh (.s n) = true := by
 have big : ∀ l : List Id, ∃ n, ∀ m, n ≤ m → Id.s m ∉ l := by
  intro l
  induction l with
  | nil => exact ⟨0, fun m _ h => by cases h⟩
  | cons i l ih =>
   obtain ⟨n, hn⟩ := ih
   cases i with
   | s k => exact ⟨n + k + 1, fun m hm h => by
    rcases List.mem_cons.1 h with h | h
    · cases h; omega
    · exact hn m (by omega) h⟩
   | x k => exact ⟨n, fun m hm h => by
    rcases List.mem_cons.1 h with h | h
    · cases h
    · exact hn m hm h⟩
   | sub j k => exact ⟨n, fun m hm h => by
    rcases List.mem_cons.1 h with h | h
    · cases h
    · exact hn m hm h⟩
 obtain ⟨n1, h1⟩ := big (σ.env.flatMap fun p => p.2.ids)
 obtain ⟨n2, h2⟩ := big (σ.loc.flatMap fun p => match p.2 with | some e => e.ids | none => [])
 obtain ⟨n3, h3⟩ := big (σ.loc.map (·.1))
 refine ⟨n1 + n2 + n3, ?_⟩
 simp only [St.fresh, Bool.and_eq_true, List.all_eq_true]
 refine ⟨⟨fun p hp => ?_, fun p hp => ?_⟩, ?_⟩
 · have := h1 (n1 + n2 + n3) (by omega)
   simp only [List.mem_flatMap, not_exists, not_and] at this
   simpa using this p hp
 · have := h2 (n1 + n2 + n3) (by omega)
   simp only [List.mem_flatMap, not_exists, not_and] at this
   have h4 := this p hp
   cases hp2 : p.2 with
   | none => rfl
   | some e => rw [hp2] at h4; simpa using h4
 · have := h3 (n1 + n2 + n3) (by omega)
   unfold St.ent
   cases hl : σ.loc.lookup (.s (n1 + n2 + n3)) with
   | none => rfl
   | some o => exact absurd (List.mem_map_of_mem (f := (·.1)) (lookup_mem hl)) this
theorem snd_bsl {c : S.Ty} {ys : List (Opd S.toTyS)} (hc : chkI S P fid o.op (.bsl c ys) = true) (g : Gam S fid X σ a w ok ρ) (hk : (IOp.bsl c ys).vc O σ K) (hn : Owes S fid X a o next K w ok ρ T) : o.wp P a w next Q := by
 simp only [IOp.vc, chk_iff, decide_eq_true_eq] at hk
 split at hk
 case h_2 => exact hk.elim
 rename_i xs hxs
 obtain ⟨k, hf⟩ := exists_fresh σ
 refine snd_bslice (O := O) (K := fun d σ' => d = .c (.osl (.s k) 0 xs.length) ∧ σ' = σ.put (.s k) (some (.row false c xs))) (k := k) (T := T) (by simpa only [chkI] using hc) g (by simp only [IOp.vc, hxs, chk_iff]; exact ⟨hf, trivial, trivial⟩) ?_
 rintro v w' d σ' ok' ρ' ⟨rfl, rfl⟩ g' hd hfr
 have hid : (σ.put (.s k) (some (.row false c xs))).ent (.s k) = some (.row false c xs) := by rw [St.ent_put, if_pos rfl]
 have g2 := g'.freeze hid
 have hr : CRel S fid w' (fun b => ok' b ∨ ∃ n s, ρ' (.s k) = .blk b n s) ρ' v (.isl c ((xs.drop 0).take xs.length)) :=
  g2.frozen_rel (ro := true) (by rw [St.ent_put, if_pos rfl]) (fun b n s hb => .inr ⟨n, s, hb⟩) (by omega) (CRel.mono (fun _ _ => rfl) (fun b hb => .inl hb) (.refl _ _) hd)
 have g3 := (g2.drop (.s k)).congr (σ' := σ) (fun _ => rfl) (fun id => by
  simp only [St.ent_put]
  by_cases e : id = .s k
  · subst e; simp [St.fresh_none hf]
  · simp [e])
 simp only [List.drop_zero, List.take_length] at hr
 have hr' : DRel S fid w' (fun b => ok' b ∨ ∃ n s, ρ' (.s k) = .blk b n s) (updW ρ' (.s k) .dead) v (.c (.isl c xs)) := hr
 refine hn v w' _ σ _ _ hk g3 hr' ⟨hfr.1, hfr.2.1, fun b hb => .inl (hfr.2.2.1 b hb), fun id b n s hid hb => ?_⟩
 have := hfr.2.2.2 id b n s hid hb
 rw [updW_ne]
 · exact this
 · rintro rfl
   rw [g.mem.gone _ (St.fresh_none hf)] at hb
   cases hb
theorem Gam.newData (h : Gam S fid X σ a w ok ρ) (ob : Obj) : Gam S fid X σ a (w.drew.alloc ob) (fun b => ok b ∨ b = w.heap.size) ρ := by
 have ho : ∀ b, ok b → (ok b ∨ b = w.heap.size) := fun b hb => .inl hb
 have hsz : (w.drew.alloc ob).heap.size = w.heap.size + 1 := Array.size_push _
 have hk := h.keep (w' := w.drew.alloc ob) rfl rfl rfl (by omega) (fun b hb => heap_alloc_old w.drew ob b hb)
 refine ⟨hk.defers, hk.size, fun k => (hk.env k).mono (fun _ _ => rfl) ho (.refl _ _), ⟨fun j e hj => (hk.mem.live j e hj).mono (fun _ _ => rfl) ho (.refl _ _) (fun _ _ _ _ => rfl), hk.mem.gone, hk.mem.inj, fun j e b n s hj hr hb hok => ?_, fun b hb => ?_⟩, fun b hb => ?_, hk.ownf, hk.fr, fun b hb => .inl (hk.okm b hb), hk.xst⟩
 · rcases hok with hok | rfl
   · exact h.mem.excl j e b n s hj hr hb hok
   · exact absurd (h.mem.lt hb) (Nat.lt_irrefl _)
 · rcases hb with hb | rfl
   · exact hk.mem.okl b hb
   · omega
 · rcases hb with hb | rfl
   · exact h.okf b hb
   · exact .inr (.inl h.fr.size)
theorem snd_s2b {y : Opd S.toTyS} (hc : chkI S P fid o.op (.s2b y) = true) (g : Gam S fid X σ a w ok ρ) (hk : (IOp.s2b y).vc O σ K) (hn : Owes S fid X a o next K w ok ρ T) : o.wp P a w next Q := by
 simp only [chkI] at hc
 split at hc
 case h_2 => cases hc
 case h_1 t d x he =>
  simp only [Bool.and_eq_true] at hc
  obtain ⟨⟨h1, h2⟩, h3⟩ := hc
  have r1 := okOpd_rel h1 g
  split at h2
  case h_2 => cases h2
  rename_i hs
  split at h3
  case h_2 => cases h3
  rename_i e hel
  split at h3
  case h_2 => cases h3
  rename_i hu8
  have hd := elemOfB_spec hel
  simp only [IOp.vc] at hk
  split at hk
  case h_2 => exact hk.elim
  rename_i s hq
  rw [hq] at r1
  have v1 : a.eval x = .string s := r1
  obtain ⟨h5, hK⟩ := hk
  have hrun := run_bytes_of_string (P := P) w t d e s hs hd hu8
  have g' := g.newData (.cells (bytesRow s (grownCap w s.size 0 e)) e ((bytesRow s (grownCap w s.size 0 e)).size, (bytesRow s (grownCap w s.size 0 e)).size + 1))
  have hxl : (s.data.toList.map S.byteV).length = s.size := by rw [List.length_map, Array.length_toList]; rfl
  have hisl : IRel S (w.drew.alloc (.cells (bytesRow s (grownCap w s.size 0 e)) e ((bytesRow s (grownCap w s.size 0 e)).size, (bytesRow s (grownCap w s.size 0 e)).size + 1))) (fun b => ok b ∨ b = w.heap.size)
   (.slice (some ⟨w.heap.size, 0, none⟩) (s.data.toList.map S.byteV).length (grownCap w s.size 0 e)) (.isl S.byte (s.data.toList.map S.byteV)) := by
   refine IRel.of_isl ⟨by rw [hxl]; exact grownCap_ge _ _ _ _, grownCap_le_maxLen _ _ _ _ (by simp only [maxLen]; omega), fun _ => ⟨w.heap.size, 0, rfl, .inr rfl, fun i u j d hu hd => ?_⟩⟩
   have hi := (List.getElem?_eq_some_iff.1 hu).1
   simp only [List.length_map, Array.length_toList] at hi
   rw [List.getElem?_map, Array.getElem?_toList, Array.getElem?_eq_getElem hi] at hu
   obtain rfl : S.byteV s.data[i] = u := Option.some.inj hu
   have hsz : S.sz S.byte = 1 := by rw [← S.row_len S.byte (S.byteV 0), S.byte_row]; rfl
   rw [S.byte_row] at hd
   cases j with
   | succ j => simp at hd
   | zero =>
    simp at hd
    subst hd
    refine ⟨_, ?_, .int _ _⟩
    have := World.cell?_alloc_mark w.drew (bytesRow s (grownCap w s.size 0 e)) e ((bytesRow s (grownCap w s.size 0 e)).size, (bytesRow s (grownCap w s.size 0 e)).size + 1) i
    rw [hsz, Nat.mul_one, Nat.zero_add, Nat.add_zero]
    exact this.trans (bytesRow_at s _ i hi)
  rw [hxl] at hisl
  have hfr : Fr2 T w ok ρ (w.drew.alloc (.cells (bytesRow s (grownCap w s.size 0 e)) e ((bytesRow s (grownCap w s.size 0 e)).size, (bytesRow s (grownCap w s.size 0 e)).size + 1))) (fun b => ok b ∨ b = w.heap.size) ρ := by
   refine ⟨?_, fun b hb _ => heap_alloc_old w.drew _ b hb, fun b hb => .inl hb, fun _ _ _ _ _ h => h⟩
   have : (w.drew.alloc (.cells (bytesRow s (grownCap w s.size 0 e)) e ((bytesRow s (grownCap w s.size 0 e)).size, (bytesRow s (grownCap w s.size 0 e)).size + 1))).heap.size = w.heap.size + 1 := Array.size_push _
   omega
  exact wp_value (by simp only [execOp, he, v1, Sem.run_bind, hrun, Result.andThen_ok, Sem.run_pure]) (hn (.slice (some ⟨w.heap.size, 0, none⟩) s.size (grownCap w s.size 0 e)) _ (.c (.isl S.byte (s.data.toList.map S.byteV))) σ _ ρ hK g' hisl hfr)
theorem Gam.rename (h : Gam S fid X σ a w ok ρ) {id new : Id} {ro : Bool} {c : S.Ty} {xs : List (S.U c)} (hx : ∀ j, new ≠ .x j) (hid : σ.ent id = some (.row ro c xs)) (hf : σ.fresh new = true) :
 Gam S fid X ((σ.put id none).put new (some (.row ro c xs))) a w ok (updW (updW ρ id .dead) new (ρ id)) := by
 have hne : new ≠ id := by rintro rfl; rw [St.fresh_none hf] at hid; cases hid
 have hst : ∀ {ids}, new ∉ ids → Stays ids ρ (updW (updW ρ id .dead) new (ρ id)) := fun {ids} hn j hj => by
  have hjn : j ≠ new := fun e => hn (e ▸ hj)
  rw [updW_ne hjn]
  by_cases e : j = id
  · subst e; exact .inr (updW_same _ _ _)
  · exact .inl (updW_ne e)
 have hin : ∀ {j b n s}, updW (updW ρ id .dead) new (ρ id) j = .blk b n s → (j = new ∧ ρ id = .blk b n s) ∨ (j ≠ new ∧ j ≠ id ∧ ρ j = .blk b n s) := fun {j b n s} hb => by
  by_cases e : j = new
  · subst e; rw [updW_same] at hb; exact .inl ⟨rfl, hb⟩
  · rw [updW_ne e] at hb
    by_cases e' : j = id
    · subst e'; rw [updW_same] at hb; cases hb
    · rw [updW_ne e'] at hb; exact .inr ⟨e, e', hb⟩
 refine ⟨h.defers, h.size, fun k => (h.env k).mono (fun _ _ => rfl) (fun _ x => x) (hst (St.fresh_get hf k)), ⟨fun j e' hj => ?_, fun j hj => ?_, fun i j b n s n' s' hi hj => ?_, fun j e' b n s hj hr hb => ?_, h.mem.okl⟩, h.okf, fun j b n s hb => ?_, h.fr, h.okm, fun j => by
  rw [updW_ne (fun e => hx j e.symm)]
  by_cases e : Id.x j = id
  · rw [e, updW_same]; exact .inr rfl
  · rw [updW_ne e]; exact h.xst j⟩
 · rw [St.ent_put] at hj
   by_cases hji : j = new
   · subst hji
     simp only [if_true, Option.some.injEq] at hj
     subst hj
     rw [updW_same]
     have := h.mem.live id _ hid
     cases hw : ρ id <;> rw [hw] at this <;> exact this
   · rw [if_neg hji, St.ent_put] at hj
     by_cases hji' : j = id
     · subst hji'; simp at hj
     · rw [if_neg hji'] at hj
       rw [updW_ne hji, updW_ne hji']
       exact (h.mem.live j e' hj).mono (fun _ _ => rfl) (fun _ x => x) (hst (St.fresh_ent hf hj)) (fun _ _ _ _ => rfl)
 · rw [St.ent_put] at hj
   by_cases hji : j = new
   · subst hji; simp at hj
   · rw [if_neg hji, St.ent_put] at hj
     rw [updW_ne hji]
     by_cases hji' : j = id
     · subst hji'; exact updW_same _ _ _
     · rw [if_neg hji'] at hj; rw [updW_ne hji']; exact h.mem.gone j hj
 · rcases hin hi with ⟨e1, h1⟩ | ⟨e1, e2, h1⟩ <;> rcases hin hj with ⟨e3, h3⟩ | ⟨e3, e4, h3⟩
   · rw [e1, e3]
   · exact absurd (h.mem.inj id j _ _ _ _ _ h1 h3).symm e4
   · exact absurd (h.mem.inj i id _ _ _ _ _ h1 h3) e2
   · exact h.mem.inj i j _ _ _ _ _ h1 h3
 · rcases hin hb with ⟨rfl, h1⟩ | ⟨e1, e2, h1⟩
   · rw [St.ent_put, if_pos rfl] at hj
     cases hj
     exact h.mem.excl id _ b n s hid hr h1
   · rw [St.ent_put, if_neg e1, St.ent_put, if_neg e2] at hj
     exact h.mem.excl j e' b n s hj hr h1
 · rcases hin hb with ⟨rfl, h1⟩ | ⟨e1, e2, h1⟩
   · exact h.ownf _ b n s h1
   · exact h.ownf _ b n s h1
def Laid (S : Sig) (w : World) (ok : Nat → Prop) (c : S.Ty) (ys : List (S.U c)) (news : List Value) : Prop :=
 news.length = ys.length * S.sz c ∧ ∀ (i : Nat) (x : S.U c) (j : Nat) (d : C S.toTyS), ys[i]? = some x → (S.row c x)[j]? = some d → ∃ u, news[i * S.sz c + j]? = some u ∧ IRel S w ok u d
theorem laid_of {c : S.Ty} {ys : List (S.U c)} {get : Nat → Option Value} (h : ∀ (i : Nat) (x : S.U c) (j : Nat) (d : C S.toTyS), ys[i]? = some x → (S.row c x)[j]? = some d → ∃ u, get (i * S.sz c + j) = some u ∧ IRel S w ok u d) :
 ∃ news, Laid S w ok c ys news ∧ ∀ q u, news[q]? = some u → get q = some u := by
 have hp := S.sz_pos c
 obtain ⟨news, h1, h2⟩ := exists_list (α := Value) (ys.length * S.sz c) (p := fun q u => get q = some u) (fun q hq => by
  have hi : q / S.sz c < ys.length := (Nat.div_lt_iff_lt_mul hp).2 hq
  have hj : q % S.sz c < (S.row c ys[q / S.sz c]).length := by rw [S.row_len]; exact Nat.mod_lt _ hp
  obtain ⟨u, h3, _⟩ := h (q / S.sz c) _ (q % S.sz c) _ (List.getElem?_eq_getElem hi) (List.getElem?_eq_getElem hj)
  rw [Nat.div_add_mod'] at h3
  exact ⟨u, h3⟩)
 refine ⟨news, ⟨h1, fun i x j d hx hd => ?_⟩, h2⟩
 obtain ⟨u, h3, h4⟩ := h i x j d hx hd
 have hi := (List.getElem?_eq_some_iff.1 hx).1
 have hj := (List.getElem?_eq_some_iff.1 hd).1
 rw [S.row_len] at hj
 have hlt : i * S.sz c + j < news.length := by
  rw [h1]
  have := Nat.mul_le_mul_right (S.sz c) hi
  rw [Nat.succ_mul] at this
  omega
 have h5 := h2 _ _ (List.getElem?_eq_getElem hlt)
 rw [h3] at h5
 cases h5
 exact ⟨_, List.getElem?_eq_getElem hlt, h4⟩
theorem Laid.nil (c : S.Ty) : Laid S w ok c [] [] := ⟨by simp, fun i x j d h => by simp at h⟩
theorem Laid.append {c : S.Ty} {xs ys : List (S.U c)} {us vs : List Value} (h : Laid S w ok c xs us) (h' : Laid S w ok c ys vs) : Laid S w ok c (xs ++ ys) (us ++ vs) := by
 refine ⟨by simp [h.1, h'.1, Nat.add_mul], fun i x j d hx hd => ?_⟩
 have hj : j < S.sz c := by
  have := (List.getElem?_eq_some_iff.1 hd).1
  rwa [S.row_len] at this
 rw [List.getElem?_append] at hx
 split at hx
 · rename_i hi
   obtain ⟨u, h1, h2⟩ := h.2 i x j d hx hd
   have hlt := (List.getElem?_eq_some_iff.1 h1).1
   exact ⟨u, by rw [List.getElem?_append_left hlt]; exact h1, h2⟩
 · rename_i hi
   obtain ⟨u, h1, h2⟩ := h'.2 _ x j d hx hd
   refine ⟨u, ?_, h2⟩
   have hge : us.length ≤ i * S.sz c + j := by
    rw [h.1]
    have := Nat.mul_le_mul_right (S.sz c) (Nat.le_of_not_lt hi)
    omega
   rw [List.getElem?_append_right hge, h.1]
   have : i * S.sz c + j - xs.length * S.sz c = (i - xs.length) * S.sz c + j := by
    rw [Nat.sub_mul]
    have := Nat.mul_le_mul_right (S.sz c) (Nat.le_of_not_lt hi)
    omega
   rw [this]; exact h1
theorem Laid.one {c : S.Ty} {ys : List (S.U c)} {news : List Value} (h : Laid S w ok c ys news) : ∀ u ∈ news, u.oneCell' = true := by
 intro u hu
 have hp := S.sz_pos c
 obtain ⟨q, hq, rfl⟩ := List.mem_iff_getElem.1 hu
 have hq' := hq
 rw [h.1] at hq'
 have hi : q / S.sz c < ys.length := (Nat.div_lt_iff_lt_mul hp).2 hq'
 have hj : q % S.sz c < (S.row c ys[q / S.sz c]).length := by rw [S.row_len]; exact Nat.mod_lt _ hp
 obtain ⟨u, h3, h4⟩ := h.2 (q / S.sz c) _ (q % S.sz c) _ (List.getElem?_eq_getElem hi) (List.getElem?_eq_getElem hj)
 rw [Nat.div_add_mod', List.getElem?_eq_getElem hq] at h3
 cases h3
 exact h4.oneCell
theorem vcSrc_rel (g : Gam S fid X σ a w ok ρ) {c : S.Ty} {d : D S.toTyS} {v : Value} {K' : List (S.U c) → Prop} (hd : DRel S fid w ok ρ v d) (h : vcSrc σ c d K') :
 ∃ ys news base cap, K' ys ∧ v = .slice base ys.length cap ∧ Laid S w ok c ys news ∧
  ∀ w' : World, (∀ b : Nat, w'.heap[b]? = w.heap[b]?) → (Builtin.firstCells (S.sz c) ys.length v).run P w' = .ok news.toArray w' := by
 have fin : ∀ (ys : List (S.U c)) news blk off cap, Laid S w ok c ys news → (∀ q u, news[q]? = some u → w.cell? ⟨blk, off + q, none⟩ = some u) →
  ∀ w' : World, (∀ b : Nat, w'.heap[b]? = w.heap[b]?) → (Builtin.firstCells (S.sz c) ys.length (.slice (some ⟨blk, off, none⟩) ys.length cap)).run P w' = .ok news.toArray w' := by
  intro ys news blk off cap hl hc w' hw
  refine run_firstCells_some w' _ _ _ _ _ _ hl.1 (fun q u hq => ?_)
  rw [add_at, ← hc q u hq]
  exact World.cell?_of_block (w := w) (hw blk)
 have emp : ∀ base cap, ∀ w' : World, (Builtin.firstCells (S.sz c) 0 (.slice base 0 cap)).run P w' = .ok ([] : List Value).toArray w' := by
  intro base cap w'
  cases base with
  | none => simp [Builtin.firstCells]
  | some b => exact run_firstCells_some w' _ 0 b 0 cap [] (by simp) (fun q u hq => by simp at hq)
 unfold vcSrc at h
 split at h
 · exact ⟨[], [], none, 0, h, hd, Laid.nil c, fun w' _ => (show v = .slice none 0 0 from hd) ▸ emp none 0 w'⟩
 · rename_i c' ys
   obtain ⟨rfl, hK⟩ := h
   obtain ⟨base, cap, rfl, hcap, hmax, hisl⟩ := IRel.isl_inv hd
   by_cases hne : ys = []
   · subst hne
     exact ⟨[], [], base, cap, hK, rfl, Laid.nil _, fun w' _ => emp base cap w'⟩
   · obtain ⟨blk, off, rfl, hok, hc⟩ := hisl hne
     obtain ⟨news, h1, h2⟩ := laid_of (get := fun q => w.cell? ⟨blk, off + q, none⟩) (fun i x j d hx hd => by
      obtain ⟨u, h3, h4⟩ := hc i x j d hx hd
      exact ⟨u, by rw [← h3, Nat.add_assoc], h4⟩)
     exact ⟨ys, news, _, cap, hK, rfl, h1, fin ys news blk off cap h1 h2⟩
 · rename_i id off ln
   split at h
   case h_2 => exact h.elim
   rename_i ro c' ys hid
   obtain ⟨hle, rfl, hK⟩ := h
   have hd' : CRel S fid w ok ρ v (.osl id off ln) := hd
   have hm := g.mem.live id _ hid
   have hlen : ((ys.drop off).take ln).length = ln := by simp; omega
   simp only [CRel] at hd'
   cases hw : ρ id with
   | dead => rw [hw] at hm; exact hm.elim
   | empty =>
    rw [hw] at hd' hm
    obtain ⟨rfl, rfl, rfl⟩ := hd'
    exact ⟨_, [], none, 0, hK, by simp, by simpa using Laid.nil c', fun w' _ => by simpa using emp none 0 w'⟩
   | blk b n s =>
    rw [hw] at hd' hm
    obtain ⟨base, cap, rfl, h1, h2, h3⟩ := hd'
    obtain ⟨rfl, arr, t, hh, h4, h5, h6⟩ := hm
    by_cases h0 : ln = 0
    · subst h0
      exact ⟨_, [], base, cap, hK, by simp, by simpa using Laid.nil c', fun w' _ => by simpa using emp base cap w'⟩
    · obtain ⟨rfl, h7⟩ := h3 (by omega)
      obtain ⟨news, h8, h9⟩ := laid_of (w := w) (ok := ok) (c := c') (ys := (ys.drop off).take ln) (get := fun q => w.cell? ⟨b, off * S.sz c' + q, none⟩) (fun i x j d hx hd => by
       obtain ⟨u, h10, h11⟩ := h6 _ x j d (getElem?_drop_take hx).1 hd
       refine ⟨u, ?_, h11⟩
       rw [cell_at hh, ← h10]
       congr 1
       rw [Nat.add_mul]; omega)
      have h12 := fin _ news b (off * S.sz c') cap h8 h9
      rw [hlen] at h12
      exact ⟨_, news, _, cap, hK, by rw [hlen], h8, by rw [hlen]; exact h12⟩
 · exact h.elim
def SrcV (P : Program) (t' : TypeId) (v : Value) (n : Nat) : Prop :=
 (∃ e' by_ cy, P.underlying t' = some (.slice e') ∧ v = .slice by_ n cy) ∨ ∃ str : ByteArray, P.underlying t' = some .string ∧ v = .string str ∧ str.size = n
theorem run_app_room {t t' ty e : TypeId} {i : TypeInfo} {v : Value} {n : Nat} (hu : P.underlying t = some (.slice e)) (hs : SrcV P t' v n) (hi : P.info? e = some i)
 {base : Option Addr} {sLen sCap : Nat} {news : List Value} {w' : World} (hroom : sLen + n ≤ sCap)
 (hnew : (Builtin.firstCells i.size n v).run P w = .ok news.toArray w)
 (hst : ∀ b, base = some b → (storeCells (b.add (sLen * i.size)) news).run P w = .ok () w') (hno : base = none → w' = w) :
 (Builtin.append_ #[t, t'] ty #[.slice base sLen sCap, v]).run P w = .ok (.slice base (sLen + n) sCap) w' := by
 rcases hs with ⟨e', by_, cy, hu', rfl⟩ | ⟨str, hu', rfl, rfl⟩ <;> cases base with
 | none =>
  have := hno rfl
  subst this
  simp [Builtin.append_, run_underlying hu, run_underlying hu', sizeOf, typeInfo, hi, Builtin.lenOf, hroom, hnew]
 | some b =>
  have := hst b rfl
  simp [Builtin.append_, run_underlying hu, run_underlying hu', sizeOf, typeInfo, hi, Builtin.lenOf, hroom, hnew, this]
theorem run_app_grow {t t' ty e : TypeId} {i : TypeInfo} {z v : Value} {n : Nat} (hu : P.underlying t = some (.slice e)) (hs : SrcV P t' v n) (hi : P.info? e = some i) (hz : i.zero = some z)
 {base : Option Addr} {sLen sCap : Nat} {olds news : List Value} (hg : sCap < sLen + n) (h63 : ((sLen + n : Nat) : Int) ≤ 9223372036854775807)
 (hfit : Builtin.nextslicecap (sLen + n) sCap * i.bytes ≤ 281474976710656)
 (hold : (Builtin.firstCells i.size sLen (.slice base sLen sCap)).run P w.drew = .ok olds.toArray w.drew)
 (hnew : (Builtin.firstCells i.size n v).run P w.drew = .ok news.toArray w.drew) :
 (Builtin.append_ #[t, t'] ty #[.slice base sLen sCap, v]).run P w = .ok (.slice (some ⟨w.heap.size, 0, none⟩) (sLen + n) (grownCap w (sLen + n) sCap e))
  (w.drew.alloc (.cells (olds.toArray ++ news.toArray ++ Builtin.zeroCells z.cells (grownCap w (sLen + n) sCap e - (sLen + n))) e)) := by
 have hn : ¬ (sLen + n ≤ sCap) := by omega
 have h63' : ¬ (9223372036854775807 < ((sLen : Int) + (n : Int))) := by omega
 have h48' : ¬ (281474976710656 < Builtin.nextslicecap (sLen + n) sCap * i.bytes) := by omega
 rcases hs with ⟨e', by_, cy, hu', rfl⟩ | ⟨str, hu', rfl, rfl⟩ <;> simp [Builtin.append_, run_underlying hu, run_underlying hu', sizeOf, typeInfo, zeroValue, hi, hz, Builtin.lenOf, hn, h63', h48', Question.forced, hold, hnew, newRow, grownCap]
 all_goals
  congr 2
  apply Array.ext'
  simp [List.append_assoc]
theorem Fr2.trans {w1 w2 : World} {ok1 ok2 : Nat → Prop} {ρ1 ρ2 : Id → Where} (h : Fr2 T w ok ρ w1 ok1 ρ1) (k : Fr2 T w1 ok1 ρ1 w2 ok2 ρ2)
 (hor : ∀ id b n s, ρ1 id = .blk b n s → b < w.heap.size → ∃ id0 n0 s0, (T id → T id0) ∧ ρ id0 = .blk b n0 s0) : Fr2 T w ok ρ w2 ok2 ρ2 := by
 obtain ⟨h1, h2, h3, h4⟩ := h
 obtain ⟨k1, k2, k3, k4⟩ := k
 refine ⟨Nat.le_trans h1 k1, fun b hb hT => ?_, fun b hb => k3 b (h3 b hb), fun id b n s hid hb => k4 id b n s hid (h4 id b n s hid hb)⟩
 rw [k2 b (by omega) ?_, h2 b hb hT]
 rcases hT with h5 | h5
 · exact .inl (h3 b h5)
 · refine .inr (fun id n s hid e => ?_)
   obtain ⟨id0, n0, s0, h6, h7⟩ := hor id b n s e hb
   exact h5 id0 n0 s0 (h6 hid) h7
theorem Fr2.upd {id : Id} {wh : Where} (h : T id ∨ ρ id = .dead) : Fr2 T w ok ρ w ok (updW ρ id wh) := by
 refine ⟨Nat.le_refl _, fun _ _ _ => rfl, fun _ h => h, fun j b n s hj hb => ?_⟩
 by_cases e : j = id
 · subst e
   rcases h with h | h
   · exact absurd h hj
   · rw [h] at hb; cases hb
 · rw [updW_ne e]; exact hb
theorem upd_or {id : Id} {wh : Where} (h : ∀ b n s, wh ≠ .blk b n s) : ∀ j b n s, updW ρ id wh j = .blk b n s → b < w.heap.size → ∃ id0 n0 s0, (T j → T id0) ∧ ρ id0 = .blk b n0 s0 := by
 intro j b n s hb _
 by_cases e : j = id
 · subst e; rw [updW_same] at hb; exact absurd hb (h b n s)
 · rw [updW_ne e] at hb; exact ⟨j, n, s, fun h => h, hb⟩
theorem grow_row (g : Gam S fid X σ a w ok ρ) {id : Id} (hx : ∀ j, id ≠ .x j) (hf : σ.fresh id = true) {c : S.Ty} {zs : List (S.U c)} {cells : List Value} (h : Laid S w ok c zs cells) {z : Value} (hz : z.cells.size = S.sz c)
 (e : TypeId) {sCap : Nat} (hmax : zs.length ≤ maxLen) :
 ∃ ρ', Gam S fid X (σ.put id (some (.row false c zs))) a (w.drew.alloc (.cells (cells.toArray ++ Builtin.zeroCells z.cells (grownCap w zs.length sCap e - zs.length)) e)) ok ρ' ∧
 DRel S fid (w.drew.alloc (.cells (cells.toArray ++ Builtin.zeroCells z.cells (grownCap w zs.length sCap e - zs.length)) e)) ok ρ' (.slice (some ⟨w.heap.size, 0, none⟩) zs.length (grownCap w zs.length sCap e)) (.c (.osl id 0 zs.length)) ∧ ∀ T, Fr2 T w ok ρ (w.drew.alloc (.cells (cells.toArray ++ Builtin.zeroCells z.cells (grownCap w zs.length sCap e - zs.length)) e)) ok ρ' := by
 have hge := grownCap_ge w zs.length sCap e
 have hle := grownCap_le_maxLen w zs.length sCap e hmax
 have hsz : (cells.toArray ++ Builtin.zeroCells z.cells (grownCap w zs.length sCap e - zs.length)).size = grownCap w zs.length sCap e * S.sz c := by
  simp only [Array.size_append, List.size_toArray, h.1]
  have : (Builtin.zeroCells z.cells (grownCap w zs.length sCap e - zs.length)).size = (grownCap w zs.length sCap e - zs.length) * S.sz c := by simp [Builtin.zeroCells, hz]
  rw [this, Nat.sub_mul]
  have := Nat.mul_le_mul_right (S.sz c) hge
  omega
 have g1 : Gam S fid X σ a w.drew ok ρ := g.drew
 obtain ⟨g', hd⟩ := new_row (w := w.drew) (arr := cells.toArray ++ Builtin.zeroCells z.cells (grownCap w zs.length sCap e - zs.length)) (c := c) (xs := zs) g1 hx hf e (grownCap w zs.length sCap e) hge hle (by rw [hsz]; exact Nat.le_refl _) (fun i x j d hx hd => by
  obtain ⟨u, h1, h2⟩ := h.2 i x j d hx hd
  have hlt := (List.getElem?_eq_some_iff.1 h1).1
  refine ⟨u, ?_, IRel.mono (w := w) (w' := w.drew) (fun _ _ => rfl) (fun _ x => x) h2⟩
  rw [Array.getElem?_append_left (by simpa using hlt)]
  simpa using h1)
 exact ⟨_, g', hd, fun T => Fr2.trans (w1 := w.drew) (ok1 := ok) (ρ1 := ρ) ⟨Nat.le_refl _, fun _ _ _ => rfl, fun _ h => h, fun _ _ _ _ _ h => h⟩ (.alloc _ _ _ _ (g.mem.gone _ (St.fresh_none hf))) (fun id b n s h _ => ⟨id, n, s, fun h => h, h⟩)⟩
theorem snd_app_core {k : Nat} {c : S.Ty} {mx : Nat} {y : Opd S.toTyS} {no : Id → Bool} {VS : (List (S.U c) → Prop) → Prop} {x x' : Operand} {t t' : TypeId} (hT : ∀ id off len, σ.ev y = .c (.osl id off len) → T id)
 (he : o.op = .call { callee := .builtin .append, args := #[x, x'], argTypes := #[t, t'] }) (r1 : DRel S fid w ok ρ (a.eval x) (σ.ev y)) (h3 : okElem S P t c mx = true)
 (src : ∀ K' : List (S.U c) → Prop, VS K' → ∃ ys news, K' ys ∧ SrcV P t' (a.eval x') ys.length ∧ Laid S w ok c ys news ∧ ∀ w' : World, (∀ b : Nat, w'.heap[b]? = w.heap[b]?) → (Builtin.firstCells (S.sz c) ys.length (a.eval x')).run P w' = .ok news.toArray w')
 (g : Gam S fid X σ a w ok ρ) (hk : appVC σ k c mx (σ.ev y) no VS K) (hn : Owes S fid X a o next K w ok ρ T) : o.wp P a w next Q := by
 obtain ⟨e, i, zv, hu, hi, hz, hsz, hb1, hb2, hzc, hone⟩ := okElem_spec h3
 have hexec : ∀ v w', (Builtin.append_ #[t, t'] o.type #[a.eval x, a.eval x']).run P w = .ok v w' → (execOp a.eval o).run P w = .ok (.value v) w' := by
  intro v w' hr
  simp [execOp, he, resolve, invoke, builtin, hr]
 have hfitN : ∀ need sCap, sCap < need → need ≤ mx → Builtin.nextslicecap need sCap * i.bytes ≤ 281474976710656 := by
  intro need sCap h5 h6
  have h7 := nextslicecap_le h5
  have h8 := Nat.mul_le_mul_right i.bytes (show Builtin.nextslicecap need sCap ≤ 4 * mx by omega)
  omega
 have grow : ∀ (σ1 : St S.toTyS) ρ1, Gam S fid X σ1 a w ok ρ1 → Fr2 T w ok ρ w ok ρ1 → (∀ id b n s, ρ1 id = .blk b n s → b < w.heap.size → ∃ id0 n0 s0, (T id → T id0) ∧ ρ id0 = .blk b n0 s0) → σ1.fresh (.s k) = true → ∀ (olds : List Value) (os ys : List (S.U c)) news base sCap, a.eval x = .slice base os.length sCap → SrcV P t' (a.eval x') ys.length →
  Laid S w ok c os olds → Laid S w ok c ys news → (Builtin.firstCells (S.sz c) os.length (.slice base os.length sCap)).run P w.drew = .ok olds.toArray w.drew →
  (Builtin.firstCells (S.sz c) ys.length (a.eval x')).run P w.drew = .ok news.toArray w.drew → sCap < os.length + ys.length → os.length + ys.length ≤ mx →
  K (.c (.osl (.s k) 0 (os.length + ys.length))) (σ1.put (.s k) (some (.row false c (os ++ ys)))) → o.wp P a w next Q := by
  intro σ1 ρ1 g1 hfr hor hf olds os ys news base sCap v1 v2 hl1 hl2 hf1 hf2 hlt hle hK
  have hrun := run_app_grow (P := P) (w := w) (ty := o.type) hu v2 hi hz (base := base) hlt (by omega) (hfitN _ _ hlt hle) (by rw [hsz]; exact hf1) (by rw [hsz]; exact hf2)
  have e1 : (os ++ ys).length = os.length + ys.length := by simp
  obtain ⟨ρ', g', hd, hfr2⟩ := grow_row g1 (by intro j h; cases h) hf (hl1.append hl2) hzc e (sCap := sCap) (by rw [e1]; simp only [maxLen]; omega)
  rw [e1] at g' hd
  refine wp_value (hexec _ _ (by rw [v1]; exact hrun)) (hn _ _ _ _ _ _ hK (by simpa using g') (by simpa using hd) (hfr.trans (by have := hfr2 T; rw [e1] at this; simpa using this) hor))
 simp only [appVC, chk_iff, decide_eq_true_eq] at hk
 split at hk
 · rename_i hq
   rw [hq] at r1
   have v1 : a.eval x = .slice none 0 0 := r1
   obtain ⟨ys, news, ⟨h5, hf, hK⟩, v2, hl, hrd⟩ := src _ hk
   by_cases h0 : ys = []
   · subst h0
     have hnn : news = [] := by have := hl.1; simpa using this
     subst hnn
     have hrun := run_app_room (P := P) (w := w) (w' := w) (ty := o.type) (base := none) (sLen := 0) (sCap := 0) (n := 0) hu v2 hi (Nat.le_refl _) (by rw [hsz]; exact hrd w (fun _ => rfl)) (fun b hb => by cases hb) (fun _ => rfl)
     refine wp_value (hexec _ _ (by rw [v1]; exact hrun)) (hn _ _ _ _ _ _ hK (g.newEmpty (by intro j h; cases h) hf c) ?_ (.upd (.inr (g.mem.gone _ (St.fresh_none hf)))))
     simp [DRel, DRel1, CRel, updW_same]
   · have hpos : 0 < ys.length := List.length_pos_iff.2 h0
     exact grow σ ρ g (.refl _ _ _ _) (fun id b n s h _ => ⟨id, n, s, fun h => h, h⟩) hf [] [] ys news none 0 (by simpa using v1) v2 (Laid.nil c) hl (by simp [Builtin.firstCells]) (by exact hrd w.drew (fun _ => rfl)) (by simpa using hpos) (by simpa using h5) (by simpa using hK)
 · rename_i id off len hq
   rw [hq] at r1
   split at hk
   case h_2 => exact hk.elim
   rename_i c' xs hid
   obtain ⟨rfl, rfl, rfl, hk⟩ := hk
   obtain ⟨ys, news, ⟨hself, h5, hf, hK⟩, v2, hl, hrd⟩ := src _ hk
   have hm := g.mem.live id _ hid
   have r1' : CRel S fid w ok ρ (a.eval x) (.osl id 0 xs.length) := r1
   simp only [CRel] at r1'
   have hd1 := g.drop id
   have hfd := St.fresh_put_none (j := id) hf
   have hrn : ∀ w' : World, (∀ b : Nat, w'.heap[b]? = w.heap[b]?) → (Builtin.firstCells (S.sz c') ys.length (a.eval x')).run P w' = .ok news.toArray w' := fun w' hw' => by
    exact hrd w' hw'
   cases hw : ρ id with
   | dead => rw [hw] at hm; exact hm.elim
   | empty =>
    rw [hw] at r1' hm
    obtain ⟨_, hx0, v1⟩ := r1'
    have hxn : xs = [] := hm
    subst hxn
    by_cases h0 : ys = []
    · subst h0
      have hnn : news = [] := by have := hl.1; simpa using this
      subst hnn
      have hrun := run_app_room (P := P) (w := w) (w' := w) (ty := o.type) (base := none) (sLen := 0) (sCap := 0) (n := 0) hu v2 hi (Nat.le_refl _) (by rw [hsz]; exact hrn w (fun _ => rfl)) (fun b hb => by cases hb) (fun _ => rfl)
      refine wp_value (hexec _ _ (by rw [v1]; exact hrun)) (hn _ _ _ _ _ _ hK (hd1.newEmpty (by intro j h; cases h) hfd c') ?_ ((Fr2.upd (.inl (hT _ _ _ hq))).trans (.upd (.inr (hd1.mem.gone _ (St.fresh_none hfd)))) (upd_or (fun _ _ _ h => by cases h))))
      simp [DRel, DRel1, CRel, updW_same]
    · have hpos : 0 < ys.length := List.length_pos_iff.2 h0
      exact grow _ _ hd1 (.upd (.inl (hT _ _ _ hq))) (upd_or (fun _ _ _ h => by cases h)) hfd [] [] ys news none 0 (by simpa using v1) v2 (Laid.nil c') hl (by simp [Builtin.firstCells]) (hrn w.drew (fun _ => rfl)) (by simpa using hpos) (by simpa using h5) hK
   | blk b n s =>
    rw [hw] at r1' hm
    obtain ⟨base, cap, v1, h6, h7, h8⟩ := r1'
    obtain ⟨rfl, arr, ta, hh, h9, h10, h11⟩ := hm
    obtain ⟨olds, ho1, ho2⟩ := laid_of (w := w) (ok := ok) (c := c') (ys := xs) (get := fun q => w.cell? ⟨b, 0 + q, none⟩) (fun i x j d hx hd => by
     obtain ⟨u, h12, h13⟩ := h11 i x j d hx hd
     exact ⟨u, by rw [cell_at hh, Nat.zero_add]; exact h12, h13⟩)
    by_cases hroom : xs.length + ys.length ≤ cap
    ·
     have hnl := hl.1
     have hok : ¬ ok b := g.mem.excl id _ b n _ hid rfl hw
     have hfit : 0 < cap → xs.length * S.sz c' + news.length ≤ arr.size := fun hp => by
      have := (h8 hp).2
      rw [hnl, ← Nat.add_mul, h9]
      exact Nat.le_trans (Nat.mul_le_mul_right _ (by omega)) this
     obtain ⟨w', hst, hno, g', hval⟩ : ∃ w', (∀ a, base = some a → (storeCells (a.add (xs.length * S.sz c')) news).run P w = .ok () w') ∧ (base = none → w' = w) ∧
      Gam S fid X (σ.put id (some (.row false c' (xs ++ ys)))) a w' ok ρ ∧ Fr2 T w ok ρ w' ok ρ := by
      by_cases hcp : 0 < cap
      · obtain ⟨rfl, h12⟩ := h8 hcp
        have hrun := run_storeCells_at P b (xs.length * S.sz c') ta news 0 arr w hh (by simpa using hfit hcp) hl.one
        simp only [Nat.add_zero] at hrun
        refine ⟨_, (fun a ha => (by cases ha; simp only [Nat.zero_mul, add_at, Nat.zero_add]; exact hrun)), (fun hb => (by cases hb)), ?_, .setRow (hT _ _ _ hq) hok hw⟩
        refine g.write hid rfl hw hh ⟨rfl, _, ta, setRow_get hh, ?_, ?_, fun i x j d hx hd => ?_⟩
        · have := splice_length (l := arr.toList) (xs := news) (off := xs.length * S.sz c') (by simpa using hfit hcp)
          simp only [Clap.splice] at this
          simp only [List.size_toArray]
          rw [this]; simpa using h9
        · have := hfit hcp
          rw [hnl, ← Nat.add_mul] at this
          simp only [List.length_append]; omega
        · obtain ⟨u, h13, h14⟩ := (ho1.append hl).2 i x j d hx hd
          refine ⟨u, ?_, h14.mono (fun b' hb' => setRow_other (b := b) (fun e => hok (by rw [← e]; exact hb'))) (fun _ x => x)⟩
          have hsp := splice_get (l := arr.toList) (xs := news) (off := xs.length * S.sz c') (by simpa using hfit hcp) (i * S.sz c' + j)
          simp only [Clap.splice] at hsp
          simp only [List.getElem?_toArray]
          rw [hsp]
          have hol := ho1.1
          rw [List.getElem?_append] at h13
          by_cases hlt : i * S.sz c' + j < olds.length
          · rw [if_pos hlt] at h13
            rw [if_neg (by omega)]
            have := ho2 _ _ h13
            rw [cell_at hh, Nat.zero_add] at this
            simpa using this
          · rw [if_neg hlt] at h13
            have := (List.getElem?_eq_some_iff.1 h13).1
            rw [if_pos (by omega), ← hol]
            exact h13
      · have hx0 : xs.length = 0 := by omega
        have hy0 : ys.length = 0 := by omega
        have hxn : xs = [] := List.eq_nil_of_length_eq_zero hx0
        have hyn : ys = [] := List.eq_nil_of_length_eq_zero hy0
        have hnn : news = [] := List.eq_nil_of_length_eq_zero (by rw [hnl, hy0]; simp)
        subst hxn hyn hnn
        refine ⟨w, fun a _ => by simp [storeCells], fun _ => rfl, ?_, .refl _ _ _ _⟩
        refine g.congr (fun _ => rfl) (fun j => ?_)
        rw [St.ent_put]
        split
        · rename_i e; rw [e, hid]; rfl
        · rfl
     have hrun := run_app_room (P := P) (w := w) (w' := w') (ty := o.type) hu v2 hi (base := base) hroom (by rw [hsz]; exact hrn w (fun _ => rfl)) (by rw [hsz]; exact hst) hno
     have hf1 : (σ.put id (some (.row false c' (xs ++ ys)))).fresh (.s k) = true := by
      have h0 := St.fresh_none hf
      simp only [St.fresh, Bool.and_eq_true] at hf ⊢
      refine ⟨⟨hf.1.1, by simp only [St.put, List.all_cons]; simpa [Ent.ids] using hf.1.2⟩, ?_⟩
      rw [St.ent_put]
      split
      · rename_i e; rw [e, hid] at h0; cases h0
      · rw [h0]; rfl
     have g2 := g'.rename (new := .s k) (by intro j h; cases h) (by rw [St.ent_put, if_pos rfl]) hf1
     have hne : Id.s k ≠ id := by intro e; have := St.fresh_none hf; rw [e, hid] at this; cases this
     have g3 := g2.congr (σ' := (σ.put id none).put (.s k) (some (.row false c' (xs ++ ys)))) (fun _ => rfl) (fun j => by
      simp only [St.ent_put]
      split
      · rfl
      · split <;> rfl)
     refine wp_value (hexec _ _ (by rw [v1]; exact hrun)) (hn _ _ _ _ _ _ hK g3 ?_ (hval.trans ((Fr2.upd (.inl (hT _ _ _ hq))).trans (.upd (.inr (by rw [updW_ne hne]; exact g.mem.gone _ (St.fresh_none hf)))) (upd_or (fun _ _ _ h => by cases h))) (fun id b n s h _ => ⟨id, n, s, fun h => h, h⟩)))
     simp only [DRel, DRel1, CRel, updW_same, hw]
     exact ⟨base, cap, rfl, hroom, h7, h8⟩
    · have hfirst : (Builtin.firstCells (S.sz c') xs.length (.slice base xs.length cap)).run P w.drew = .ok olds.toArray w.drew := by
       by_cases hcp : 0 < cap
       · obtain ⟨rfl, h12⟩ := h8 hcp
         refine run_firstCells_some w.drew _ _ _ _ _ _ ho1.1 (fun q u hq => ?_)
         rw [Nat.zero_mul, add_at]
         exact ho2 q u hq
       · have hx0 : xs.length = 0 := by omega
         have hxn : xs = [] := List.eq_nil_of_length_eq_zero hx0
         subst hxn
         have : olds = [] := List.eq_nil_of_length_eq_zero (by rw [ho1.1]; simp)
         subst this
         cases base with
         | none => simp [Builtin.firstCells]
         | some b => exact run_firstCells_some w.drew _ 0 b 0 cap [] (by simp) (fun q u hq => by simp at hq)
      exact grow _ _ hd1 (.upd (.inl (hT _ _ _ hq))) (upd_or (fun _ _ _ h => by cases h)) hfd olds xs ys news base cap v1 v2 ho1 hl hfirst (hrn w.drew (fun _ => rfl)) (by omega) h5 hK
 · exact hk.elim
theorem snd_app {k : Nat} {c : S.Ty} {mx : Nat} {y z : Opd S.toTyS} (hT : ∀ id off len, σ.ev y = .c (.osl id off len) → T id) (hc : chkI S P fid o.op (.app k c mx y z) = true) (g : Gam S fid X σ a w ok ρ) (hk : (IOp.app k c mx y z).vc O σ K) (hn : Owes S fid X a o next K w ok ρ T) : o.wp P a w next Q := by
 simp only [chkI] at hc
 split at hc
 case h_2 => cases hc
 case h_1 xs ts he =>
  simp only [Bool.and_eq_true] at hc
  obtain ⟨h1, h2⟩ := hc
  obtain ⟨x, x', hx, hy1, hy2⟩ := okOpds_two h1
  have hxs : xs = #[x, x'] := by cases xs; simp at hx; subst hx; rfl
  subst hxs
  have r1 := okOpd_rel hy1 g
  have r2 := okOpd_rel hy2 g
  split at h2
  case h_2 => cases h2
  rename_i t t' hts
  have hts' : ts = #[t, t'] := by cases ts; simp at hts; subst hts; rfl
  subst hts'
  simp only [Bool.and_eq_true] at h2
  obtain ⟨h3, h4⟩ := h2
  split at h4
  case h_2 => cases h4
  rename_i e' hu'
  refine snd_app_core hT he r1 h3 (fun K' hv => ?_) g hk hn
  obtain ⟨ys, news, by_, cy, h1, v2, hl, hrd⟩ := vcSrc_rel (P := P) g r2 hv
  exact ⟨ys, news, h1, .inl ⟨_, _, _, hu', v2⟩, hl, hrd⟩
theorem snd_apps {k : Nat} {c : S.Ty} {mx : Nat} {y z : Opd S.toTyS} (hT : ∀ id off len, σ.ev y = .c (.osl id off len) → T id) (hc : chkI S P fid o.op (.apps k c mx y z) = true) (g : Gam S fid X σ a w ok ρ) (hk : (IOp.apps k c mx y z).vc O σ K) (hn : Owes S fid X a o next K w ok ρ T) : o.wp P a w next Q := by
 simp only [chkI] at hc
 split at hc
 case h_2 => cases hc
 case h_1 xs ts he =>
  simp only [Bool.and_eq_true] at hc
  obtain ⟨h1, h2⟩ := hc
  obtain ⟨x, x', hx, hy1, hy2⟩ := okOpds_two h1
  have hxs : xs = #[x, x'] := by cases xs; simp at hx; subst hx; rfl
  subst hxs
  have r1 := okOpd_rel hy1 g
  have r2 := okOpd_rel hy2 g
  split at h2
  case h_2 => cases h2
  rename_i t t' hts
  have hts' : ts = #[t, t'] := by cases ts; simp at hts; subst hts; rfl
  subst hts'
  simp only [Bool.and_eq_true] at h2
  obtain ⟨h3, h4⟩ := h2
  split at h4
  case h_2 => cases h4
  rename_i hu'
  refine snd_app_core hT he r1 h3 (fun K' hv => ?_) g hk hn
  unfold vcStr at hv
  split at hv
  case h_2 => exact hv.elim
  rename_i str hq
  obtain ⟨ys, hys, hK⟩ := hv
  rw [hq] at r2
  have v2 : a.eval x' = .string str := r2
  have hyl : ys.length = str.size := by have := congrArg List.length hys; simpa using this
  have hrow : ∀ (i : Nat) (u : S.U c), ys[i]? = some u → ∃ b : UInt8, str.data.toList[i]? = some b ∧ S.row c u = [C.int .u8 (b.toNat : Int)] := fun i u hu => by
   have := congrArg (fun l => l[i]?) hys
   simp only [List.getElem?_map, hu, Option.map_some] at this
   cases hb : str.data.toList[i]? with
   | none => rw [hb] at this; cases this
   | some b => rw [hb] at this; exact ⟨b, rfl, Option.some.inj this⟩
  have hsz : ys ≠ [] → S.sz c = 1 := fun h0 => by
   obtain ⟨u, hu⟩ : ∃ u, ys[0]? = some u := ⟨ys[0]'(List.length_pos_iff.2 h0), List.getElem?_eq_getElem _⟩
   obtain ⟨b, _, hr⟩ := hrow 0 u hu
   rw [← S.row_len c u, hr]; rfl
  refine ⟨ys, str.data.toList.map fun b => Value.int .u8 (b.toNat : Int), hK, .inr ⟨str, hu', v2, hyl.symm⟩, ⟨?_, fun i u j d hu hd => ?_⟩, fun w' _ => ?_⟩
  · rw [List.length_map, Array.length_toList]
    by_cases h0 : ys = []
    · subst h0
      rw [List.length_nil, Nat.zero_mul]
      exact hyl.symm
    · rw [hsz h0, Nat.mul_one]
      exact hyl.symm
  · obtain ⟨b, hb, hr⟩ := hrow i u hu
    have h1 := hsz (fun e => by subst e; cases hu)
    rw [hr] at hd
    cases j with
    | succ j => cases hd
    | zero =>
     obtain rfl := Option.some.inj (show some (C.int IntKind.u8 (b.toNat : Int)) = some d from hd)
     refine ⟨.int .u8 b.toNat, ?_, .int ..⟩
     rw [h1, Nat.mul_one, Nat.add_zero, List.getElem?_map, hb]; rfl
  · rw [v2, hyl]
    exact Lib.run_firstCells_string w' (S.sz c) str
end Go.Clap
