/- pattern.Quote in seat Try: walked once over the kit's contracts of strings.Builder, as a contract of the small machine. -/
import Derived.Shelf.Lay
import Derived.Shelf.LaySoft
import Derived.Shelf.Strings.Builder1
import Derived.Shelf.Small.Strs
import Derived.Shelf.Strings.OnBuilder
import Derived.WalkKit
import Derived.WalkSpells
import Derived.Deep.LoopGhost
import Derived.Test.YtnielhfaioakkaaRows
import Derived.Test.YtnielhfaioakkaaClapK3
import Derived.Test.YtnielhfaioakkaaClapFn
set_option linter.unusedVariables false
namespace Go.Proofs
open Go.Shelf Go.RowKit

/-- By hand: no twin is found for the structure's type 20, which no body names. -/
def Try.lays167_ren : Ren := ⟨fun x => match x with | 167 => 92 | 240 => 115 | 276 => 143 | n => n, fun x => match x with | 70 => 153 | 72 => 155 | 164 => 221 | 37 => 115 | 75 => 158 | 80 => 141 | n => n, fun x => x⟩
theorem Try.lays167 : Lays.n167 Try.prog Try.lays167_ren where
  mixed := by kernel_rfl
  f167 := by kernel_rfl
  f240 := by kernel_rfl
  f276 := by kernel_rfl
  t0 := by kernel_rfl
  a0 := fun w => by kernel_rfl
  z0 := fun w => by kernel_rfl
  v0 := fun w => by kernel_rfl
  t4 := by kernel_rfl
  a4 := fun w => by kernel_rfl
  z4 := fun w => by kernel_rfl
  v4 := fun w => by kernel_rfl
  t5 := by kernel_rfl
  a5 := fun w => by kernel_rfl
  z5 := fun w => by kernel_rfl
  v5 := fun w => by kernel_rfl
  t9 := by kernel_rfl
  a9 := fun w => by kernel_rfl
  z9 := fun w => by kernel_rfl
  v9 := fun w => by kernel_rfl
  t20 := by kernel_rfl
  a20 := fun w => by kernel_rfl
  z20 := fun w => by kernel_rfl
  v20 := fun w => by kernel_rfl
  t37 := by kernel_rfl
  a37 := fun w => by kernel_rfl
  z37 := fun w => by kernel_rfl
  v37 := fun w => by kernel_rfl
  t70 := by kernel_rfl
  a70 := fun w => by kernel_rfl
  z70 := fun w => by kernel_rfl
  v70 := fun w => by kernel_rfl
  t72 := by kernel_rfl
  a72 := fun w => by kernel_rfl
  z72 := fun w => by kernel_rfl
  v72 := fun w => by kernel_rfl
  t75 := by kernel_rfl
  a75 := fun w => by kernel_rfl
  z75 := fun w => by kernel_rfl
  v75 := fun w => by kernel_rfl
  t164 := by kernel_rfl
  a164 := fun w => by kernel_rfl
  z164 := fun w => by kernel_rfl
  v164 := fun w => by kernel_rfl
theorem Try.Builder_Extra_167 : Builder.Extra Try.prog Try.lays167_ren where
  sizeBuilder := by kernel_rfl
  liesBuilder := by kernel_rfl
  t5 := Try.underlying5
  a5 := Try.isAgg5
  z5 := Try.sizeOf5
  v5 := Try.zeroValue5
  infoByte := by kernel_rfl
  cellsByte := by kernel_rfl
  sizeByte := by kernel_rfl
  neB5 := by decide
def Try.lays169_ren : Ren := ⟨fun x => match x with | 169 => 93 | n => n, fun x => match x with | 70 => 153 | 72 => 155 | 37 => 115 | 127 => 194 | n => n, fun x => x⟩
theorem Try.lays169 : Lays.n169 Try.prog Try.lays169_ren where
  mixed := by kernel_rfl
  f169 := by kernel_rfl
  t0 := by kernel_rfl
  a0 := fun w => by kernel_rfl
  z0 := fun w => by kernel_rfl
  v0 := fun w => by kernel_rfl
  t3 := by kernel_rfl
  a3 := fun w => by kernel_rfl
  z3 := fun w => by kernel_rfl
  v3 := fun w => by kernel_rfl
  t9 := by kernel_rfl
  a9 := fun w => by kernel_rfl
  z9 := fun w => by kernel_rfl
  v9 := fun w => by kernel_rfl
  t37 := by kernel_rfl
  a37 := fun w => by kernel_rfl
  z37 := fun w => by kernel_rfl
  v37 := fun w => by kernel_rfl
  t70 := by kernel_rfl
  a70 := fun w => by kernel_rfl
  z70 := fun w => by kernel_rfl
  v70 := fun w => by kernel_rfl
  t72 := by kernel_rfl
  a72 := fun w => by kernel_rfl
  z72 := fun w => by kernel_rfl
  v72 := fun w => by kernel_rfl
  t127 := by kernel_rfl
  a127 := fun w => by kernel_rfl
  z127 := fun w => by kernel_rfl
  v127 := fun w => by kernel_rfl
theorem Try.Builder_Extra_169 : Builder.Extra Try.prog Try.lays169_ren where
  sizeBuilder := by kernel_rfl
  liesBuilder := by kernel_rfl
  t5 := Try.underlying5
  a5 := Try.isAgg5
  z5 := Try.sizeOf5
  v5 := Try.zeroValue5
  infoByte := by kernel_rfl
  cellsByte := by kernel_rfl
  sizeByte := by kernel_rfl
  neB5 := by decide
def Try.lays137_ren : Ren := ⟨fun x => match x with | 137 => 91 | 217 => 114 | 266 => 142 | n => n, fun x => x, fun x => x⟩
theorem Try.lays137 : Lays.n137 Try.prog Try.lays137_ren where
  mixed := by kernel_rfl
  f137 := by kernel_rfl
  f217 := by kernel_rfl
  f266 := by kernel_rfl
  t3 := by kernel_rfl
  a3 := fun w => by kernel_rfl
  z3 := fun w => by kernel_rfl
  v3 := fun w => by kernel_rfl
  t5 := by kernel_rfl
  a5 := fun w => by kernel_rfl
  z5 := fun w => by kernel_rfl
  v5 := fun w => by kernel_rfl
  t9 := by kernel_rfl
  a9 := fun w => by kernel_rfl
  z9 := fun w => by kernel_rfl
  v9 := fun w => by kernel_rfl
theorem Try.Builder_WriteByte (B b : Nat) (bs : List Value) (c : Int) (w : World) (h : Lib.IsBuilder 155 5 B b bs w) (hlen : bs.length + 1 ≤ 140737488355328) (hBw : B ≤ w.heap.size) :
    Calls Try.prog 92 #[.pointer (some ⟨b, 0, none⟩), .int .u8 c] w fun e w' => e = .returned .nilIface ∧ (Lib.BuilderAt 155 5 B b (.pointer (some ⟨b, 0, none⟩)) (bs ++ [.int .u8 c]) w' ∧ Below B w w') := Any.Builder_WriteByte Try.lays167 Try.Builder_Extra_167 B b bs c w h hlen hBw
theorem Try.Builder_String_any (B b : Nat) (l : List UInt8) (w : World) (h : Lib.IsBuilder 155 5 B b (Lib.byteCells l) w) (hBw : B ≤ w.heap.size) :
    Calls Try.prog 93 #[.pointer (some ⟨b, 0, none⟩)] w fun e w' => e = .returned (.string ⟨l.toArray⟩) ∧ Below B w w' := Any.Builder_String_any Try.lays169 Try.Builder_Extra_169 B b l w h hBw
theorem Try.strings_IndexByte (s : ByteArray) (c : Int) (w : World) :
    Calls Try.prog 91 #[.string s, .int .u8 c] w fun e w' => e = .returned (.int .i64 (Lib.indexByte s.data.toList c.toNat.toUInt8)) ∧ w' = w := Any.strings_IndexByte Try.lays137 s c w
end Go.Proofs
namespace Go.Clap
theorem ib (l : List UInt8) (c : UInt8) : -1 ≤ Lib.indexByte l c ∧ (0 ≤ Lib.indexByte l c ↔ l.contains c = true) := by
  induction l with
  | nil => simp [Lib.indexByte]
  | cons b l ih =>
    unfold Lib.indexByte
    by_cases h : (b == c) = true
    · have h' : b = c := by simpa using h
      rw [if_pos h]
      exact ⟨by omega, by simp [h']⟩
    · have h' : ¬ c = b := fun e => h (by simp [e])
      rw [if_neg h]
      obtain ⟨h1, h2⟩ := ih
      have hc : (b :: l).contains c = l.contains c := by simp [h']
      rw [hc, ← h2]
      by_cases h3 : (Lib.indexByte l c == -1) = true
      · have h3' : Lib.indexByte l c = -1 := by simpa using h3
        rw [if_pos h3, h3']
        exact ⟨by omega, Iff.rfl⟩
      · have h3' : ¬ Lib.indexByte l c = -1 := by simpa using h3
        rw [if_neg h3]
        exact ⟨by omega, by omega⟩
theorem qMeta_eq (b : UInt8) : qMeta b = decide (0 ≤ Lib.indexByte [124, 42, 43, 63, 40, 41, 91, 93, 46, 92] b) := by
  have h := (ib [124, 42, 43, 63, 40, 41, 91, 93, 46, 92] b).2
  unfold qMeta
  by_cases h0 : 0 ≤ Lib.indexByte [124, 42, 43, 63, 40, 41, 91, 93, 46, 92] b
  · rw [decide_eq_true h0, h.1 h0]
  · rw [decide_eq_false h0]
    exact Bool.eq_false_iff.2 fun hc => h0 (h.2 hc)
theorem quoteL_append (a b : List UInt8) : quoteL (a ++ b) = quoteL a ++ quoteL b := by
  induction a with
  | nil => rfl
  | cons x r ih => simp only [List.cons_append, quoteL]; split <;> simp [ih]
theorem quoteL_length (a : List UInt8) : (quoteL a).length ≤ 2 * a.length := by
  induction a with
  | nil => simp [quoteL]
  | cons x r ih => simp only [quoteL]; split <;> simp <;> omega
theorem quoteL_step (s : ByteArray) (k : Nat) (h : k < s.size) :
    quoteL (s.data.toList.take (k + 1)) = quoteL (s.data.toList.take k) ++ (if qMeta s[k] then [92, s[k]] else [s[k]]) := by
  have e : s.data.toList.take (k + 1) = s.data.toList.take k ++ [s[k]] := by
    rw [List.take_succ_eq_append_getElem (by simpa using h)]
    rfl
  rw [e, quoteL_append]
  simp only [quoteL]
end Go.Clap
namespace Go.Proofs
open Go.Shelf Go.RowKit

set_option maxHeartbeats 2000000 in
set_option maxRecDepth 100000 in
theorem Try.quote (s : ByteArray) (w : World) (hs : 2 * s.size ≤ 140737488355328) :
    Calls Try.prog 69 #[.string s] w fun e w' => e = .returned (.string ⟨(Clap.quoteL s.data.toList).toArray⟩) ∧ Below w.heap.size w w' := by
  have h0 : Lib.IsBuilder 155 5 w.heap.size w.heap.size [] (w.alloc (.cells #[.pointer none, .slice none 0 0] 155)) := Lib.fresh_isBuilder 155 5 w
  have b0 : Below w.heap.size w (w.alloc (.cells #[.pointer none, .slice none 0 0] 155)) := (Below.refl _ w).alloc (Nat.le_refl _) _
  go_enter Try.func69, Try.ntmps69
  go_wp2
  go_loopg [7] s.size (fun g s7 wx => ∃ k : Nat, k + g = s.size ∧ s7 = .int .i64 k ∧ Lib.IsBuilder 155 5 w.heap.size w.heap.size (Lib.byteCells (Clap.quoteL (s.data.toList.take k))) wx ∧ Below w.heap.size w wx)
  case atStart => exact ⟨0, by omega, rfl, h0, b0⟩
  case round =>
    obtain ⟨k, hk, rfl, hB, hb⟩ := hrel
    cases gk with
    | zero =>
      obtain rfl : k = s.size := by omega
      have cS := Try.Builder_String_any w.heap.size w.heap.size _ wr hB hb.size
      have e : s.data.toList.take s.size = s.data.toList := List.take_of_length_le (by simp)
      rw [e] at cS
      clear hB e
      go_wp2_with (go_at_call 93; refine cS.mono ?_; rintro e w' ⟨rfl, b1⟩)
      go_ret
      exact ⟨rfl, hb.trans b1⟩
    | succ g =>
      have hlt : k < s.size := by omega
      have cI := Try.strings_IndexByte ⟨#[124, 42, 43, 63, 40, 41, 91, 93, 46, 92]⟩ ((s[k]'hlt).toNat : Int) wr
      have hstep := Clap.quoteL_step s k hlt
      have hlen : (Clap.quoteL (s.data.toList.take k)).length ≤ 2 * k := by
        have := Clap.quoteL_length (s.data.toList.take k)
        have h2 : (s.data.toList.take k).length ≤ k := List.length_take_le _ _
        omega
      generalize Clap.quoteL (s.data.toList.take k) = pre at *
      obtain ⟨v, hv⟩ : ∃ v, v = Lib.indexByte [124, 42, 43, 63, 40, 41, 91, 93, 46, 92] (s[k]'hlt) := ⟨_, rfl⟩
      have hcI : Lib.indexByte (ByteArray.mk #[124, 42, 43, 63, 40, 41, 91, 93, 46, 92]).data.toList (((s[k]'hlt).toNat : Int).toNat.toUInt8) = v := by
        rw [hv]; simp
      rw [hcI] at cI
      have hq : Clap.qMeta (s[k]'hlt) = decide (0 ≤ v) := by rw [hv]; exact Clap.qMeta_eq _
      rw [hq] at hstep
      clear hcI hv hq
      have key : ∀ (l : List UInt8) (W : World), Lib.BuilderAt 155 5 w.heap.size w.heap.size (.pointer (some ⟨w.heap.size, 0, none⟩)) (Lib.byteCells pre ++ Lib.byteCells l) W → Below w.heap.size wr W → l = (if decide (0 ≤ v) then [92, s[k]'hlt] else [s[k]'hlt]) →
          ∃ k' : Nat, k' + g = s.size ∧ Value.int .i64 (k + 1 : Int) = .int .i64 k' ∧ Lib.IsBuilder 155 5 w.heap.size w.heap.size (Lib.byteCells (Clap.quoteL (s.data.toList.take k'))) W ∧ Below w.heap.size w W := by
        intro l W hW hWb hl
        refine ⟨k + 1, by omega, by simp, ?_, hb.trans hWb⟩
        rw [hstep, ← hl]
        exact .inr (by simpa [Lib.byteCells] using hW)
      have hpl : (Lib.byteCells pre).length ≤ 2 * k := by rw [Lib.byteCells_length]; exact hlen
      have KEY := Any.hidU key
      clear key hstep hlen
      by_cases hv : 0 ≤ v
      · go_wp2_with (first
          | (go_at_call 91; refine cI.mono ?_; rintro e w' ⟨rfl, rfl⟩)
          | (go_at_call 92; refine (Try.Builder_WriteByte w.heap.size w.heap.size _ 92 _ hB (by omega) hb.size).mono ?_))
        rintro e W1 ⟨rfl, h1, b1⟩
        have cW := Try.Builder_WriteByte w.heap.size w.heap.size _ ((s[k]'hlt).toNat : Int) W1 (.inr h1) (by simp; omega) (hb.trans b1).size
        clear cI
        go_wp2_with (go_at_call 92; refine cW.mono ?_)
        rintro e W2 ⟨rfl, h2, b2⟩
        have k2 := KEY.out [92, s[k]'hlt] W2 (by simpa [Lib.byteCells] using h2) (b1.trans b2) (by rw [if_pos (by simpa using hv)])
        clear KEY h2 h1 cW
        go_wp2
        go_roundg g
        case measure => omega
        case rel => exact k2
      · go_wp2_with (first
          | (go_at_call 91; refine cI.mono ?_; rintro e w' ⟨rfl, rfl⟩)
          | (go_at_call 92; refine (Try.Builder_WriteByte w.heap.size w.heap.size _ ((s[k]'hlt).toNat : Int) _ hB (by omega) hb.size).mono ?_))
        rintro e W1 ⟨rfl, h1, b1⟩
        have k2 := KEY.out [s[k]'hlt] W1 (by simpa [Lib.byteCells] using h1) b1 (by rw [if_neg (by simpa using hv)])
        clear KEY h1 cI
        go_wp2
        go_roundg g
        case measure => omega
        case rel => exact k2
end Go.Proofs
namespace Go.Clap
open Go.Proofs
theorem spec_quote : C69_Quote (Spec SS Try.prog id) f69_Quote := by
  intro s Q R hQ h
  obtain ⟨hs, h⟩ := sat_grdP h
  have hq := hQ _ (sat_some h)
  refine ⟨⟨_, Try.func69, rfl, rfl⟩, fun w vals ok ρ hsz hv hm => ?_⟩
  obtain ⟨v0, rfl⟩ : ∃ v0, vals = #[v0] := by
    refine ⟨vals[0]'(by simp at hsz; omega), ?_⟩
    apply Array.ext
    · simpa using hsz
    · intro k h1 h2
      have : k = 0 := by simp at h2; omega
      subst this
      rfl
  have r0 : CRel SS id w ok ρ v0 (.str s) := hv 0 _ _ rfl rfl
  obtain rfl : v0 = .string s := r0
  refine (Try.quote s w hs).mono ?_
  rintro e w' ⟨rfl, hB⟩
  have hn : ∀ i : Id, entOf ([] : List (Id × Option (Ent SS.toTyS))) i = none := fun i => rfl
  refine ⟨_, _, _, ok, ρ, rfl, hq, rfl, ⟨?_, ?_, hm.inj, ?_, ?_⟩, fun b hb => .inl hb, fun b hb => hb, fun id _ => .inl rfl, fun id b n s h => .inr ⟨id, n, s, h⟩, hB.os, hB.tape, hB.output, hB.size, fun b hb _ => hB.block b hb⟩
  · intro i e he; rw [hn] at he; cases he
  · intro i he; exact hm.gone i he
  · intro i e b n s he; rw [hn] at he; cases he
  · intro b hb; exact Nat.lt_of_lt_of_le (hm.okl b hb) hB.size
end Go.Clap
