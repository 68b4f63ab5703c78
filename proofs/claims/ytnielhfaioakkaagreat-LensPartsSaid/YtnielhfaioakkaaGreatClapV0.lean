/- The checks of the small code against the loaded functions. -/
import Derived.Test.YtnielhfaioakkaaGreatClapSig
set_option linter.unusedVariables false
set_option linter.unusedSimpArgs false
namespace Go.Clap
abbrev RR := D TT → List (Id × Option (Ent TT)) → Prop
abbrev iD (n : Int) : D TT := .c (.int .i64 n)
abbrev bD (b : Bool) : D TT := .c (.bool b)
abbrev sD (s : ByteArray) : D TT := .c (.str s)
variable {O : Oracle TT}
def V.kind : V → Int
 | .mk k _ _ _ => k
def V.n : V → Int
 | .mk _ n _ _ => n
def V.s : V → ByteArray
 | .mk _ _ s _ => s
def V.fs : V → List (ByteArray × V)
 | .mk _ _ _ fs => fs
end Go.Clap
