/- The checks of the small code against the loaded functions. -/
import Derived.Test.YtnjgakngmbbmfaaGreatDoorProg
import Derived.Shelf.Strconv.Itoa4
import Derived.Shelf.Strconv.Clone
import Derived.Shelf.Strings.SlTrimAscii
import Derived.Lib.AppendIntMem
import Derived.Test.YtnjgakngmbbmfaaGreatDoorClapJ2
import Derived.Test.YtnjgakngmbbmfaaGreatDoorClapY9
import Derived.KernelRfl
set_option linter.unusedVariables false
set_option linter.unusedSimpArgs false
namespace Go.Proofs
open Go.Shelf
def Tryz.lays171_ren : Ren := ⟨fun x => match x with | 171 => 28 | 243 => 42 | 246 => 70 | 283 => 93 | 284 => 94 | 285 => 95 | 286 => 96 | 129 => 125 | 317 => 124 | 318 => 126 | 319 => 127 | 320 => 128 | 337 => 160 | 338 => 161 | n => n, fun x => match x with | 171 => 142 | 53 => 124 | 37 => 50 | 173 => 145 | 212 => 173 | 51 => 174 | 213 => 175 | 46 => 122 | 232 => 239 | 233 => 240 | n => n, fun x => match x with | 17 => 1 | 18 => 4 | 19 => 5 | n => n⟩
theorem Tryz.lays171p : Lays.n171 Tryz.prog Tryz.lays171_ren where
 mixed := by kernel_rfl
 f129 := by kernel_rfl
 f171 := by kernel_rfl
 f243 := by kernel_rfl
 f246 := by kernel_rfl
 f283 := by kernel_rfl
 f284 := by kernel_rfl
 f285 := by kernel_rfl
 f286 := by kernel_rfl
 f317 := by kernel_rfl
 f318 := by kernel_rfl
 f319 := by kernel_rfl
 f320 := by kernel_rfl
 f337 := by kernel_rfl
 f338 := by kernel_rfl
 t0 := by kernel_rfl
 a0 := fun w => by kernel_rfl
 z0 := fun w => by kernel_rfl
 v0 := fun w => by kernel_rfl
 t2 := by kernel_rfl
 a2 := fun w => by kernel_rfl
 z2 := fun w => by kernel_rfl
 v2 := fun w => by kernel_rfl
 t3 := by kernel_rfl
 a3 := fun w => by kernel_rfl
 z3 := fun w => by kernel_rfl
 v3 := fun w => by kernel_rfl
 t4 := by kernel_rfl
 a4 := fun w => by kernel_rfl
 z4 := fun w => by kernel_rfl
 v4 := fun w => by kernel_rfl
 t5 := by kernel_rfl
 a5 := fun w => by kernel_rfl
 z5 := fun w => by kernel_rfl
 v5 := fun w => by kernel_rfl
 t9 := by kernel_rfl
 a9 := fun w => by kernel_rfl
 z9 := fun w => by kernel_rfl
 v9 := fun w => by kernel_rfl
 t20 := by kernel_rfl
 a20 := fun w => by kernel_rfl
 z20 := fun w => by kernel_rfl
 v20 := fun w => by kernel_rfl
 t37 := by kernel_rfl
 a37 := fun w => by kernel_rfl
 z37 := fun w => by kernel_rfl
 v37 := fun w => by kernel_rfl
 t46 := by kernel_rfl
 a46 := fun w => by kernel_rfl
 z46 := fun w => by kernel_rfl
 v46 := fun w => by kernel_rfl
 t51 := by kernel_rfl
 a51 := fun w => by kernel_rfl
 z51 := fun w => by kernel_rfl
 v51 := fun w => by kernel_rfl
 t53 := by kernel_rfl
 a53 := fun w => by kernel_rfl
 z53 := fun w => by kernel_rfl
 v53 := fun w => by kernel_rfl
 t171 := by kernel_rfl
 a171 := fun w => by kernel_rfl
 z171 := fun w => by kernel_rfl
 v171 := fun w => by kernel_rfl
 t173 := by kernel_rfl
 a173 := fun w => by kernel_rfl
 z173 := fun w => by kernel_rfl
 v173 := fun w => by kernel_rfl
 t212 := by kernel_rfl
 a212 := fun w => by kernel_rfl
 z212 := fun w => by kernel_rfl
 v212 := fun w => by kernel_rfl
 t213 := by kernel_rfl
 a213 := fun w => by kernel_rfl
 z213 := fun w => by kernel_rfl
 t232 := by kernel_rfl
 a232 := fun w => by kernel_rfl
 z232 := fun w => by kernel_rfl
 v232 := fun w => by kernel_rfl
 t233 := by kernel_rfl
 a233 := fun w => by kernel_rfl
 z233 := fun w => by kernel_rfl
 v233 := fun w => by kernel_rfl
 g17 := by kernel_rfl
 g18 := by kernel_rfl
 g19 := by kernel_rfl
theorem Tryz.lays171 : LaysM.n171 Tryz.prog Tryz.lays171_ren where
 ton171 := Tryz.lays171p
 i0 := by kernel_rfl
 i2 := by kernel_rfl
 i3 := by kernel_rfl
 i4 := by kernel_rfl
 i5 := by kernel_rfl
 i9 := by kernel_rfl
 i20 := by kernel_rfl
 i37 := by kernel_rfl
 i46 := by kernel_rfl
 i51 := by kernel_rfl
 i53 := by kernel_rfl
 i171 := by kernel_rfl
 i173 := by kernel_rfl
 i212 := by kernel_rfl
 i232 := by kernel_rfl
 i233 := by kernel_rfl
 m17 := by kernel_rfl
 m18 := by kernel_rfl
 m19 := by kernel_rfl
def Tryz.lays316_ren : Ren := ⟨fun x => match x with | 316 => 130 | n => n, fun x => match x with | 37 => 50 | 127 => 217 | n => n, fun x => x⟩
theorem Tryz.lays316p : Lays.n316 Tryz.prog Tryz.lays316_ren where
 mixed := by kernel_rfl
 f316 := by kernel_rfl
 t0 := by kernel_rfl
 a0 := fun w => by kernel_rfl
 z0 := fun w => by kernel_rfl
 v0 := fun w => by kernel_rfl
 t3 := by kernel_rfl
 a3 := fun w => by kernel_rfl
 z3 := fun w => by kernel_rfl
 v3 := fun w => by kernel_rfl
 t4 := by kernel_rfl
 a4 := fun w => by kernel_rfl
 z4 := fun w => by kernel_rfl
 v4 := fun w => by kernel_rfl
 t9 := by kernel_rfl
 a9 := fun w => by kernel_rfl
 z9 := fun w => by kernel_rfl
 v9 := fun w => by kernel_rfl
 t37 := by kernel_rfl
 a37 := fun w => by kernel_rfl
 z37 := fun w => by kernel_rfl
 v37 := fun w => by kernel_rfl
 t127 := by kernel_rfl
 a127 := fun w => by kernel_rfl
 z127 := fun w => by kernel_rfl
 v127 := fun w => by kernel_rfl
theorem Tryz.lays316 : LaysM.n316 Tryz.prog Tryz.lays316_ren where
 ton316 := Tryz.lays316p
 t5 := by kernel_rfl
 a5 := fun w => by kernel_rfl
 z5 := fun w => by kernel_rfl
 v5 := fun w => by kernel_rfl
 i0 := by kernel_rfl
 i3 := by kernel_rfl
 i4 := by kernel_rfl
 i5 := by kernel_rfl
 i9 := by kernel_rfl
 i37 := by kernel_rfl
 i127 := by kernel_rfl
def Tryz.lays160_ren : Ren := ⟨fun x => match x with | 160 => 81 | 232 => 106 | 231 => 105 | 227 => 107 | 234 => 109 | 233 => 108 | 236 => 111 | 235 => 110 | 228 => 135 | 271 => 138 | 151 => 137 | 197 => 136 | 120 => 168 | 152 => 167 | 260 => 166 | 137 => 103 | 119 => 185 | 224 => 163 | 225 => 162 | 217 => 132 | 266 => 165 | n => n, fun x => match x with | 117 => 157 | 116 => 156 | 124 => 160 | 105 => 182 | 46 => 122 | 119 => 243 | 139 => 246 | 138 => 245 | n => n, fun x => match x with | 3 => 6 | 4 => 7 | n => n⟩
theorem Tryz.lays160 : Lays.n160 Tryz.prog Tryz.lays160_ren where
 mixed := by kernel_rfl
 f119 := by kernel_rfl
 f120 := by kernel_rfl
 f137 := by kernel_rfl
 f151 := by kernel_rfl
 f152 := by kernel_rfl
 f160 := by kernel_rfl
 f197 := by kernel_rfl
 f217 := by kernel_rfl
 f224 := by kernel_rfl
 f225 := by kernel_rfl
 f227 := by kernel_rfl
 f228 := by kernel_rfl
 f231 := by kernel_rfl
 f232 := by kernel_rfl
 f233 := by kernel_rfl
 f234 := by kernel_rfl
 f235 := by kernel_rfl
 f236 := by kernel_rfl
 f260 := by kernel_rfl
 f266 := by kernel_rfl
 f271 := by kernel_rfl
 t0 := by kernel_rfl
 a0 := fun w => by kernel_rfl
 z0 := fun w => by kernel_rfl
 v0 := fun w => by kernel_rfl
 t3 := by kernel_rfl
 a3 := fun w => by kernel_rfl
 z3 := fun w => by kernel_rfl
 v3 := fun w => by kernel_rfl
 t4 := by kernel_rfl
 a4 := fun w => by kernel_rfl
 z4 := fun w => by kernel_rfl
 v4 := fun w => by kernel_rfl
 t5 := by kernel_rfl
 a5 := fun w => by kernel_rfl
 z5 := fun w => by kernel_rfl
 v5 := fun w => by kernel_rfl
 t9 := by kernel_rfl
 a9 := fun w => by kernel_rfl
 z9 := fun w => by kernel_rfl
 v9 := fun w => by kernel_rfl
 t21 := by kernel_rfl
 a21 := fun w => by kernel_rfl
 z21 := fun w => by kernel_rfl
 v21 := fun w => by kernel_rfl
 t46 := by kernel_rfl
 a46 := fun w => by kernel_rfl
 z46 := fun w => by kernel_rfl
 v46 := fun w => by kernel_rfl
 t105 := by kernel_rfl
 a105 := fun w => by kernel_rfl
 z105 := fun w => by kernel_rfl
 v105 := fun w => by kernel_rfl
 t116 := by kernel_rfl
 a116 := fun w => by kernel_rfl
 z116 := fun w => by kernel_rfl
 t117 := by kernel_rfl
 a117 := fun w => by kernel_rfl
 z117 := fun w => by kernel_rfl
 v117 := fun w => by kernel_rfl
 t119 := by kernel_rfl
 a119 := fun w => by kernel_rfl
 z119 := fun w => by kernel_rfl
 t124 := by kernel_rfl
 a124 := fun w => by kernel_rfl
 z124 := fun w => by kernel_rfl
 v124 := fun w => by kernel_rfl
 t138 := by kernel_rfl
 a138 := fun w => by kernel_rfl
 z138 := fun w => by kernel_rfl
 v138 := fun w => by kernel_rfl
 t139 := by kernel_rfl
 a139 := fun w => by kernel_rfl
 z139 := fun w => by kernel_rfl
 v139 := fun w => by kernel_rfl
 g3 := by kernel_rfl
 g4 := by kernel_rfl
end Go.Proofs
namespace Go.Clap
open Go.Proofs Go.RowKit
theorem spec_str {P : Program} {fid : Nat → FuncId} {f : Nat} {args : List (D TT)} {fn : Func} {r : BA} {R : RR} (hR : R (sD r) []) (hf : P.funcs[fid f]? = some fn) (hb : fn.body.isSome = true) (hn : (fn.name == "runtime.NumGoroutine") = false)
 (h : ∀ (w : World) (vals : Array Value) (ok : Nat → Prop) (ρ : Id → Where), vals.size = args.length → (∀ (i : Nat) v d, vals[i]? = some v → args[i]? = some d → DRel SS fid w ok ρ v d) → Gl SS w ok ρ →
  Calls P (fid f) vals w fun e w' => e = .returned (.string r) ∧ Below w.heap.size w w') : Spec SS P fid f args [] R := by
 refine ⟨⟨fn, hf, hb, hn⟩, fun w vals ok ρ hsz hv hm hgl => ?_⟩
 refine (h w vals ok ρ hsz hv hgl).mono ?_
 rintro e w' ⟨rfl, hB⟩
 have hn : ∀ i : Id, entOf ([] : List (Id × Option (Ent SS.toTyS))) i = none := fun i => rfl
 refine ⟨_, _, _, ok, ρ, rfl, hR, rfl, ⟨?_, ?_, hm.inj, ?_, ?_⟩, fun b hb => .inl hb, fun b hb => hb, fun id _ => .inl rfl, fun id b n s h => .inr ⟨id, n, s, h⟩, hB.os, hB.tape, hB.output, hB.size, fun b hb _ => hB.block b hb⟩
 · intro i e he; rw [hn] at he; cases he
 · intro i he; exact hm.gone i he
 · intro i e b n s he; rw [hn] at he; cases he
 · intro b hb; exact Nat.lt_of_lt_of_le (hm.okl b hb) hB.size
theorem vals1 {vals : Array Value} (h : vals.size = 1) : ∃ v, vals = #[v] := by
 refine ⟨vals[0], ?_⟩
 apply Array.ext
 · simpa using h
 · intro k h1 h2
   have : k = 0 := by simp at h2; omega
   subst this
   rfl
theorem vals2 {vals : Array Value} (h : vals.size = 2) : ∃ v u, vals = #[v, u] := by
 refine ⟨vals[0], vals[1], ?_⟩
 apply Array.ext
 · simpa using h
 · intro k h1 h2
   have : k = 0 ∨ k = 1 := by simp at h2; omega
   rcases this with rfl | rfl <;> rfl
theorem spec_clone : C1085_Clone (Spec SS Tryz.prog fidF) f1085_Clone := by
 intro s Q R hQ h
 obtain ⟨hs, h⟩ := sat_grdP h
 refine spec_str (hQ _ (sat_some h)) Tryz.func130 rfl rfl fun w vals ok ρ hsz hv hgl => ?_
 obtain ⟨v, rfl⟩ := vals1 (by simpa using hsz)
 have r0 : CRel SS fidF w ok ρ v (.str s) := hv 0 _ _ rfl rfl
 obtain rfl : v = .string s := r0
 exact Any.stringslite_Clone Tryz.lays316 s w hs
theorem spec_trim : C1020_Trim (Spec SS Tryz.prog fidF) f1020_Trim := by
 intro s c Q R hQ h
 obtain ⟨⟨hc, hs⟩, h⟩ := sat_grdP h
 obtain rfl : c = hexB := ByteArray.ext (Array.toList_inj.mp hc)
 refine spec_str (hQ _ (sat_some h)) Tryz.func81 rfl rfl fun w vals ok ρ hsz hv hgl => ?_
 obtain ⟨v, u, rfl⟩ := vals2 (by simpa using hsz)
 have r0 : CRel SS fidF w ok ρ v (.str s) := hv 0 _ _ rfl rfl
 obtain rfl : v = .string s := r0
 have r1 : CRel SS fidF w ok ρ u (.str hexB) := hv 1 _ _ rfl rfl
 obtain rfl : u = .string hexB := r1
 refine Any.strings_Trim_laid Tryz.lays160 (by kernel_rfl) s hexB w hs (by decide) (fun j b hb => ?_)
 have hm := List.mem_of_getElem? hb
 have : ∀ b ∈ hexB.data.toList, b.toNat < 128 := by decide
 exact this b hm
theorem spec_itoa : C1022_Itoa (Spec SS Tryz.prog fidF) f1022_Itoa := by
 intro n Q R hQ h
 obtain ⟨⟨h0, h1⟩, h⟩ := sat_grdP h
 refine spec_str (hQ _ (sat_some h)) Tryz.func28 rfl rfl fun w vals ok ρ hsz hv hgl => ?_
 obtain ⟨v, rfl⟩ := vals1 (by simpa using hsz)
 have r0 : CRel SS fidF w ok ρ v (.int .i64 n) := hv 0 _ _ rfl rfl
 obtain rfl : v = .int .i64 n := r0
 obtain ⟨_, _, arr, t, fr, hh, hg⟩ := hgl 1 (by decide)
 have htab : Lib.TabIs Tryz.prog w "internal/strconv.uint64pow10" .u64 Lib.pow10Tab := by
  have hgn : Tryz.prog.globalNamed "internal/strconv.uint64pow10" = some 1 := by kernel_rfl
  unfold Lib.TabIs World.var?
  rw [hgn]
  show (match w.heap[1]? with | some (.cells cs _ _) => some cs | _ => none) = _
  rw [hh]
  exact congrArg some (hg.1 rfl)
 refine (Any.strconv_Itoa Tryz.lays171 n h0 h1 w htab).mono ?_
 rintro e w' ⟨rfl, k, os, rfl⟩
 exact ⟨rfl, Lib.below_grow _ w (Nat.le_refl _) k os⟩
end Go.Clap
