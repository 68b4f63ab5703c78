/- Small records of digits; tables. -/
import Derived.Test.YthhdejjjcaamiaaGreatDoorClapG0
set_option linter.unusedVariables false
namespace Go.Clap

abbrev ee : ByteArray := ⟨#[]⟩
abbrev aa : ByteArray := ⟨#[97]⟩
abbrev bb : ByteArray := ⟨#[98]⟩
abbrev nm (n : Int) : V := V.mk 2 n ee []
abbrev fs (a b : Int) : List (ByteArray × V) := [(aa, nm a), (bb, nm b)]
abbrev rc (a b : Int) : V := V.mk 6 0 ee (fs a b)
abbrev on (s : ByteArray) (a : Int) : V := V.mk 6 0 ee [(s, nm a)]
abbrev dg : Tp := Tp.mk 2 ee 0 9 ee []
abbrev pp : List (ByteArray × Tp) := [(aa, dg), (bb, dg)]
abbrev pr : Tp := Tp.mk 6 ee 0 0 ee pp
abbrev dp (s : ByteArray) (v : Int) : Ln := Ln.mk 4 s ee [] 0 0 0 0 (nm v) [] []
def dig : List Int := [0, 1, 2, 3, 4, 5, 6, 7, 8, 9]

theorem tab1 {α : Type} {F G : Int → α} (h : dig.map F = dig.map G) : ∀ a ∈ dig, F a = G a := List.map_inj_left.1 h
theorem tab2 {α : Type} {F G : Int → Int → α} (h : (dig.map fun a => dig.map (F a)) = (dig.map fun a => dig.map (G a))) : ∀ a ∈ dig, ∀ b ∈ dig, F a b = G a b :=
  fun a ha => tab1 (List.map_inj_left.1 h a ha)
theorem tab3 {α : Type} {F G : Int → Int → Int → α} (h : (dig.map fun a => dig.map fun b => dig.map (F a b)) = (dig.map fun a => dig.map fun b => dig.map (G a b))) : ∀ a ∈ dig, ∀ b ∈ dig, ∀ c ∈ dig, F a b c = G a b c :=
  fun a ha => tab2 (List.map_inj_left.1 h a ha)

end Go.Clap
