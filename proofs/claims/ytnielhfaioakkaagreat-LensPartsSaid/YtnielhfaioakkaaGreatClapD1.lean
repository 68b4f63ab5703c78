/- The checks of the small code against the loaded functions. -/
import Derived.Test.YtnielhfaioakkaaGreatRows
import Derived.Test.YtnielhfaioakkaaGreatClapD0
import Derived.Shelf.RegionOpenPlain
import Derived.WalkKit
import Derived.Deep.LoopGhost
import Derived.Deep.RegionLaw
import Derived.Lib.Walk
import Derived.Lib.SliceRun
set_option linter.unusedVariables false
set_option linter.unusedSimpArgs false
namespace Go.Proofs
open Go.RowKit Go.Lib Go.Clap
theorem zeroPart (w : World) : (zeroValue 99).run Tryz.prog w = .ok (.agg #[.string ⟨#[]⟩, .int .i64 0, .string ⟨#[]⟩, .int .i64 0, .int .i64 0, .string ⟨#[]⟩, .slice none 0 0]) w := by kernel_rfl
set_option maxHeartbeats 4000000 in
set_option maxRecDepth 1000000 in
theorem Tryz.delete_part (b cap i j len : Nat) (F : List Value) (w : World) (hF : F.length = len * 7) (hc : ∀ t v, F[t]? = some v → w.cell? ⟨b, t, none⟩ = some v) (hf : ∀ t, t < len * 7 → w.frozen? ⟨b, t, none⟩ = false)
 (h1 : ∀ v ∈ F, v.oneCell' = true) (hij : i < j) (hj : j ≤ len) (hcap : len ≤ cap) (hm : cap ≤ 9223372036854775807) :
 Calls Tryz.prog 143 #[.slice (some ⟨b, 0, none⟩) len cap, .int .i64 i, .int .i64 j] w fun e w' => e = .returned (.slice (some ⟨b, 0, none⟩) (len - (j - i)) cap) ∧
  ∃ Z : List Value, Z.length = (j - i) * 7 ∧ w' = (w.drew.setCells b (i * 7) (F.drop (j * 7))).setCells b ((len - (j - i)) * 7) Z := by
 have t22 := Tryz.underlying45
 have hi0 : Tryz.prog.info? 99 = some Tryz.t99 := by kernel_rfl
 have hz0 : Tryz.t99.size = 7 := by kernel_rfl
 have mixed : Tryz.prog.follows .mixedOrders = true := by kernel_rfl
 obtain ⟨news, hnews⟩ : ∃ news, news = F.drop (j * 7) := ⟨_, rfl⟩
 have hlen : news.length = (len - j) * 7 := by rw [hnews, List.length_drop, hF, Nat.sub_mul]
 obtain ⟨A, hA, hsrc⟩ : ∃ A : Addr, (if cap = j then some (⟨b, 0, none⟩ : Addr) else some ⟨b, j * 7, none⟩) = some A ∧ Hid (∀ t u, news[t]? = some u → w.drew.cell? (A.add t) = some u) := by
  by_cases h : cap = j
  · refine ⟨⟨b, 0, none⟩, by simp [h], fun t u hu => ?_⟩
    have h0 : news.length = 0 := by rw [hlen, show len - j = 0 by omega, Nat.zero_mul]
    rw [List.length_eq_zero_iff.1 h0] at hu
    simp at hu
  · refine ⟨⟨b, j * 7, none⟩, by simp [h], fun t u hu => ?_⟩
    rw [hnews, List.getElem?_drop] at hu
    rw [Addr.add_lit]
    exact hc _ _ hu
 have hex : ∀ t, t < len * 7 → (w.cell? ⟨b, t, none⟩).isSome = true := fun t ht => by rw [hc t F[t] (List.getElem?_eq_getElem (by omega))]; rfl
 have s1 : Hid (news.length = (len - j) * 7) := hlen
 have s2 : Hid (∀ u ∈ news, u.oneCell' = true) := by
  intro u hu
  rw [hnews] at hu
  exact h1 u (List.mem_of_mem_drop hu)
 have s3 : Hid (∀ t, t < news.length → (w.drew.cell? ⟨b, 0 + i * 7 + t, none⟩).isSome = true ∧ w.drew.frozen? ⟨b, 0 + i * 7 + t, none⟩ = false) := by
  intro t ht
  rw [hlen] at ht
  rw [Nat.zero_add]
  exact ⟨hex _ (by omega), hf _ (by omega)⟩
 obtain ⟨W1, hW1⟩ : ∃ W1, W1 = w.drew.setCells b (0 + i * 7) news := ⟨_, rfl⟩
 have hex1 : ∀ t, t < len * 7 → (W1.cell? ⟨b, t, none⟩).isSome = true := fun t ht => by
  rw [hW1]
  by_cases hin : 0 + i * 7 ≤ t ∧ t < 0 + i * 7 + news.length
  · have := World.cell?_setCells_in b news (0 + i * 7) w.drew (fun j hj => (s3.out j hj).1) (t - (0 + i * 7)) (by omega)
    rw [show 0 + i * 7 + (t - (0 + i * 7)) = t by omega] at this
    rw [this]; rfl
  · rw [World.cell?_setCells_out b news _ w.drew ⟨b, t, none⟩ (fun _ _ => by show t < _ ∨ _ ≤ t; omega)]
    exact hex t ht
 have hfz1 : ∀ t, t < len * 7 → W1.frozen? ⟨b, t, none⟩ = false := fun t ht => by rw [hW1, World.frozen?_setCells]; exact hf t ht
 obtain ⟨Z, hZ⟩ : ∃ Z, Z = (Builtin.zeroCells (Value.cells (.agg #[.string ⟨#[]⟩, .int .i64 0, .string ⟨#[]⟩, .int .i64 0, .int .i64 0, .string ⟨#[]⟩, .slice none 0 0])) (len - (i + (len - j)))).toList := ⟨_, rfl⟩
 have hZl : Z.length = (j - i) * 7 := by
  rw [hZ]
  simp [Builtin.zeroCells, Value.cells]
  omega
 have hcl : ∀ ty, (Builtin.clear_ #[45] ty #[.slice (some ⟨b, (i + (len - j)) * 7, none⟩) (len - (i + (len - j))) (cap - (i + (len - j)))]).run Tryz.prog W1 = .ok (.tuple #[]) (W1.setCells b ((i + (len - j)) * 7) Z) := fun ty => by
  rw [hZ]
  exact run_clear_k W1 45 99 ty _ 7 t22 zeroPart rfl (by decide) (by omega) b _ _ _ (by omega) (fun t ht => hex1 _ (by omega)) (fun t ht => hfz1 _ (by omega))
 have hW : Hid (W1 = w.drew.setCells b (0 + i * 7) news) := hW1
 have hic : i ≤ cap := by omega
 have hjc : j ≤ cap := by omega
 have hne : ¬ i = j := by omega
 have fin : Hid (∃ Z' : List Value, Z'.length = (j - i) * 7 ∧ W1.setCells b ((i + (len - j)) * 7) Z = (w.drew.setCells b (i * 7) (F.drop (j * 7))).setCells b ((len - (j - i)) * 7) Z') :=
  ⟨Z, hZl, by rw [hW1, hnews, Nat.zero_add, show len - (j - i) = i + (len - j) by omega]⟩
 clear hW1 hc hf h1 hF hnews hlen hex hex1 hfz1 hZ hZl
 go_enter Tryz.func143, Tryz.ntmps143
 go_wp2_with fail
 go_region_law_o (refine step_append_room rfl (.tmp 22) (.tmp 25) 45 rfl 99 Tryz.t99 7 t22 hi0 hz0 b 0 i cap (by simp [Act.eval, Act.put]) A (len - j) (cap - j) news (by simp [Act.eval, Act.put]) s1.out hsrc.out s2.out (by omega) s3.out ?_; rw [← hW.out])
 go_wp2
 go_ret
 refine ⟨by rw [show len - (j - i) = i + (len - j) by omega]; rfl, fin.out⟩
end Go.Proofs
