/- The checks of the small code against the loaded functions. -/
import Derived.Test.YtnielhfaioakkaaGreatClapD5
import Derived.Test.YtnielhfaioakkaaGreatClapY0
import Derived.Test.YtnielhfaioakkaaGreatRows
set_option maxRecDepth 1000000
namespace Go.Clap
open Go Go.Proofs
theorem mxP : Tryz.prog.follows .mixedOrders = true := by kernel_rfl
abbrev SY : Oracle TT := SP Tryz.prog fidY
theorem k26 : chkF SS Tryz.prog fidY 26 j26 = true := by kernel_rfl
theorem s26 : C26 SY f26 :=
 fun a0 a5 Q R hQ h => spec_of_vc mxP k26 (w26 a0 a5 Q R hQ h)
theorem k15 : chkF SS Tryz.prog fidY 15 j15 = true := by kernel_rfl
theorem s15 : C15 SY f15 :=
 fun a0 a5 Q R hQ h => spec_of_vc mxP k15 (w15 s26 a0 a5 Q R hQ h)
theorem k39 : chkF SS Tryz.prog fidY 39 j39 = true := by kernel_rfl
theorem s39 : C39 SY f39 :=
 fun a0 a5 a6 a7 a8 a9 Q R hQ h => spec_of_vc mxP k39 (w39 a0 a5 a6 a7 a8 a9 Q R hQ h)
theorem k40 : chkF SS Tryz.prog fidY 40 j40 = true := by kernel_rfl
theorem s40 : C40 SY f40 :=
 fun a0 a5 Q R hQ h => spec_of_vc mxP k40 (w40 s15 a0 a5 Q R hQ h)
theorem k21 : chkF SS Tryz.prog fidY 21 j21 = true := by kernel_rfl
theorem s21 : C21 SY f21 :=
 fun a0 Q R hQ h => spec_of_vc mxP k21 (w21 s15 s39 s40 a0 Q R hQ h)
theorem k62 : chkF SS Tryz.prog fidY 62 j62 = true := by kernel_rfl
theorem s62 : C62 SY f62 :=
 fun a0 Q R hQ h => spec_of_vc mxP k62 (w62 s26 a0 Q R hQ h)
theorem k61 : chkF SS Tryz.prog fidY 61 j61 = true := by kernel_rfl
theorem s61 : C61 SY f61 :=
 fun a0 a5 Q R hQ h => spec_of_vc mxP k61 (w61 s15 a0 a5 Q R hQ h)
theorem k60 : chkF SS Tryz.prog fidY 60 j60 = true := by kernel_rfl
theorem s60 : C60 SY f60 :=
 fun a0 a5 Q R hQ h => spec_of_vc mxP k60 (w60 s15 a0 a5 Q R hQ h)
theorem k41 : chkF SS Tryz.prog fidY 41 j41 = true := by kernel_rfl
theorem s41 : ∀ n, C41 SY (f41 n) := c41 mxP k41 s15 s39 s40 s62 s61 s60
theorem k22 : chkF SS Tryz.prog fidY 22 j22 = true := by kernel_rfl
theorem s22 : ∀ n, C22 SY (f22 n) :=
 fun n => fun a0 a5 Q R hQ h => spec_of_vc mxP k22 (w22 n (s41 n) a0 a5 Q R hQ h)
theorem k63 : chkF SS Tryz.prog fidY 63 j63 = true := by kernel_rfl
theorem s63 : C63 SY f63 :=
 fun a0 a5 a6 a7 a8 a9 aA Q R hQ h => spec_of_vc mxP k63 (w63 a0 a5 a6 a7 a8 a9 aA Q R hQ h)
theorem k164 : chkF SS Tryz.prog fidY 164 j164 = true := by kernel_rfl
theorem s164 : C164 SY f164 :=
 fun a0 a5 a6 Q R hQ h => spec_of_vc mxP k164 (w164 a0 a5 a6 Q R hQ h)
theorem k153 : chkF SS Tryz.prog fidY 153 j153 = true := by kernel_rfl
theorem s153 : ∀ n, C153 SY (f153 n) :=
 fun n => fun a0 a5 a6 Q R hQ h => spec_of_vc mxP k153 (w153 n s15 s164 a0 a5 a6 Q R hQ h)
theorem k82 : chkF SS Tryz.prog fidY 82 j82 = true := by kernel_rfl
theorem k104 : chkF SS Tryz.prog fidY 104 j104 = true := by kernel_rfl
theorem k131 : chkF SS Tryz.prog fidY 131 j131 = true := by kernel_rfl
theorem s82 : ∀ n, C82 SY (f82 n) := c82 mxP k82 k104 k131 s15 s61 s153
theorem k65 : chkF SS Tryz.prog fidY 65 j65 = true := by kernel_rfl
theorem s65 : ∀ n, C65 SY (f65 n) :=
 fun n => fun a0 a5 Q R hQ h => spec_of_vc mxP k65 (w65 n (s82 n) a0 a5 Q R hQ h)
theorem k64 : chkF SS Tryz.prog fidY 64 j64 = true := by kernel_rfl
theorem s64 : C64 SY f64 :=
 fun a0 a5 Q R hQ h => spec_of_vc mxP k64 (w64 s15 s61 s60 a0 a5 Q R hQ h)
theorem k42 : chkF SS Tryz.prog fidY 42 j42 = true := by kernel_rfl
theorem s42 : ∀ n, C42 SY (f42 n) := c42 mxP k42 s15 s63 s65 s64
theorem k79 : chkF SS Tryz.prog fidY 79 j79 = true := by kernel_rfl
theorem s79 : C79 SY f79 :=
 fun a0 Q R hQ h => spec_of_vc mxP k79 (w79 a0 Q R hQ h)
theorem k57 : chkF SS Tryz.prog fidY 57 j57 = true := by kernel_rfl
theorem s57 : ∀ n, C57 SY (f57 n) := c57 mxP k57 s79
theorem k108 : chkF SS Tryz.prog fidY 108 j108 = true := by kernel_rfl
theorem s108 : C108 SY f108 :=
 fun a0 Q R hQ h => spec_of_vc mxP k108 (w108 a0 Q R hQ h)
theorem k156b : chkF SS Tryz.prog fidY 156 j156b = true := by kernel_rfl
theorem s156b : C156b SY f156b :=
 fun a6 a7 a8 a9 aA aC aD aE aF aG aH aI aJ aK n6 e6 n7 e7 Q R hQ h => spec_of_vc mxP k156b (w156b a6 a7 a8 a9 aA aC aD aE aF aG aH aI aJ aK n6 e6 n7 e7 Q R hQ h)
theorem k157b : chkF SS Tryz.prog fidY 157 j157b = true := by kernel_rfl
theorem s157b : C157b SY f157b :=
 fun a6 a7 a8 a9 aA aC aD aE aF aG aH aI aJ aK n6 e6 n7 e7 Q R hQ h => spec_of_vc mxP k157b (w157b a6 a7 a8 a9 aA aC aD aE aF aG aH aI aJ aK n6 e6 n7 e7 Q R hQ h)
theorem k114 : chkF SS Tryz.prog fidY 114 j114 = true := by kernel_rfl
theorem s114 : C114 SY f114 :=
 fun a0 a5 Q R hQ h => spec_of_vc mxP k114 (w114 a0 a5 Q R hQ h)
theorem k91 : chkF SS Tryz.prog fidY 91 j91 = true := by kernel_rfl
theorem s91 : C91 SY f91 :=
 fun a0 a5 Q R hQ h => spec_of_vc mxP k91 (w91 s114 a0 a5 Q R hQ h)
theorem k178 : chkF SS Tryz.prog fidY 178 j178 = true := by kernel_rfl
theorem s178 : C178 SY f178 :=
 fun a0 a5 a6 a7 a8 Q R hQ h => spec_of_vc mxP k178 (w178 a0 a5 a6 a7 a8 Q R hQ h)
theorem k110 : chkF SS Tryz.prog fidY 110 j110 = true := by kernel_rfl
theorem s110 : C110 SY f110 :=
 fun a0 a5 a6 a7 a8 a9 aA aB aC aD Q R hQ h => spec_of_vc mxP k110 (w110 a0 a5 a6 a7 a8 a9 aA aB aC aD Q R hQ h)
theorem k110a : chkF SS Tryz.prog fidY 110 j110a = true := by kernel_rfl
theorem s110a : C110a SY f110a :=
 fun a0 a5 a6 a7 a8 a9 aA aB aC aD Q R hQ h => spec_of_vc mxP k110a (w110a a0 a5 a6 a7 a8 a9 aA aB aC aD Q R hQ h)
theorem k179 : chkF SS Tryz.prog fidY 179 j179 = true := by kernel_rfl
theorem s179 : C179 SY f179 :=
 fun a6 a7 a8 a9 aA aC aD aE aF aG aH aI aJ aK aL aM aN aO n6 e6 n7 e7 Q R hQ h => spec_of_vc mxP k179 (w179 s110 s110a a6 a7 a8 a9 aA aC aD aE aF aG aH aI aJ aK aL aM aN aO n6 e6 n7 e7 Q R hQ h)
theorem k180 : chkF SS Tryz.prog fidY 180 j180 = true := by kernel_rfl
theorem s180 : C180 SY f180 :=
 fun a6 a7 a8 a9 aA aC aD aE aF aG aH aI aJ aK n6 e6 n7 e7 Q R hQ h => spec_of_vc mxP k180 (w180 a6 a7 a8 a9 aA aC aD aE aF aG aH aI aJ aK n6 e6 n7 e7 Q R hQ h)
theorem k176 : chkF SS Tryz.prog fidY 176 j176 = true := by kernel_rfl
theorem s176 : C176 SY f176 :=
 fun a0 a5 a6 a7 Q R hQ h => spec_of_vc mxP k176 (w176 a0 a5 a6 a7 Q R hQ h)
theorem k177 : chkF SS Tryz.prog fidY 177 j177 = true := by kernel_rfl
theorem s177 : ∀ n, C177 SY (f177 n) :=
 fun n => fun a6 a7 a8 a9 aA aC aD aE aF aG aH aI aJ aK n6 e6 n7 e7 Q R hQ h => spec_of_vc mxP k177 (w177 n s178 s156b s157b s180 s176 a6 a7 a8 a9 aA aC aD aE aF aG aH aI aJ aK n6 e6 n7 e7 Q R hQ h)
theorem k140 : chkF SS Tryz.prog fidY 140 j140 = true := by kernel_rfl
theorem s140 : C140 SY f140 :=
 fun a0 a5 a6 a7 a8 Q R hQ h => spec_of_vc mxP k140 (w140 a0 a5 a6 a7 a8 Q R hQ h)
theorem k141 : chkF SS Tryz.prog fidY 141 j141 = true := by kernel_rfl
theorem s141 : C141 SY f141 :=
 fun a0 a5 a6 a7 a8 a9 Q R hQ h => spec_of_vc mxP k141 (w141 a0 a5 a6 a7 a8 a9 Q R hQ h)
theorem k169 : chkF SS Tryz.prog fidY 169 j169 = true := by kernel_rfl
theorem s169 : C169 SY f169 :=
 fun a6 a7 a8 a9 aA aC aD aE aF aG aH aI aJ aK aL aM aN aO aP aQ aS aT n6 e6 n7 e7 Q R hQ h => spec_of_vc mxP k169 (w169 s140 s141 a6 a7 a8 a9 aA aC aD aE aF aG aH aI aJ aK aL aM aN aO aP aQ aS aT n6 e6 n7 e7 Q R hQ h)
theorem k141a : chkF SS Tryz.prog fidY 141 j141a = true := by kernel_rfl
theorem s141a : C141a SY f141a :=
 fun a0 a5 a6 a7 a8 a9 aA aB aC aD aE aF aG Q R hQ h => spec_of_vc mxP k141a (w141a a0 a5 a6 a7 a8 a9 aA aB aC aD aE aF aG Q R hQ h)
theorem k141b : chkF SS Tryz.prog fidY 141 j141b = true := by kernel_rfl
theorem s141b : C141b SY f141b :=
 fun a0 a5 a6 a7 a8 a9 aA aB aC aD aE aF aG Q R hQ h => spec_of_vc mxP k141b (w141b a0 a5 a6 a7 a8 a9 aA aB aC aD aE aF aG Q R hQ h)
theorem k138 : chkF SS Tryz.prog fidY 138 j138 = true := by kernel_rfl
theorem k155 : chkF SS Tryz.prog fidY 155 j155 = true := by kernel_rfl
theorem k168 : chkF SS Tryz.prog fidY 168 j168 = true := by kernel_rfl
theorem k173 : chkF SS Tryz.prog fidY 173 j173 = true := by kernel_rfl
theorem s138 : ∀ n, C138 SY (f138 n) := c138 mxP k138 k155 k168 k173 s156b s157b s141a s141b s169 s91 s178 s179 s177 s176
theorem k109 : chkF SS Tryz.prog fidY 109 j109 = true := by kernel_rfl
theorem s109 : ∀ n, C109 SY (f109 n) :=
 fun n => fun a0 Q R hQ h => spec_of_vc mxP k109 (w109 n (s138 n) a0 Q R hQ h)
theorem k110b : chkF SS Tryz.prog fidY 110 j110b = true := by kernel_rfl
theorem s110b : C110b SY f110b :=
 fun a0 a5 a6 a7 a8 Q R hQ h => spec_of_vc mxP k110b (w110b a0 a5 a6 a7 a8 Q R hQ h)
theorem k139 : chkF SS Tryz.prog fidY 139 j139 = true := by kernel_rfl
theorem s139 : C139 SY f139 :=
 fun a0 a5 a6 a7 a8 Q R hQ h => spec_of_vc mxP k139 (w139 a0 a5 a6 a7 a8 Q R hQ h)
theorem k110c : chkF SS Tryz.prog fidY 110 j110c = true := by kernel_rfl
theorem s110c : C110c SY f110c :=
 fun a0 a5 a6 Q R hQ h => spec_of_vc mxP k110c (w110c a0 a5 a6 Q R hQ h)
theorem k111 : chkF SS Tryz.prog fidY 111 j111 = true := by kernel_rfl
theorem s111 : C111 SY f111 :=
 fun a0 a5 a6 a7 a8 a9 aA aB aC aD aE Q R hQ h => spec_of_vc mxP k111 (w111 s139 s110c a0 a5 a6 a7 a8 a9 aA aB aC aD aE Q R hQ h)
theorem k141c : chkF SS Tryz.prog fidY 141 j141c = true := by kernel_rfl
theorem s141c : C141c SY f141c :=
 fun a0 a5 a6 a7 a8 a9 aA aB Q R hQ h => spec_of_vc mxP k141c (w141c a0 a5 a6 a7 a8 a9 aA aB Q R hQ h)
theorem k112 : chkF SS Tryz.prog fidY 112 j112 = true := by kernel_rfl
theorem s112 : C112 SY f112 :=
 fun a0 a5 a6 a7 a8 a9 aA aB aC aD aE aF aG aH aI Q R hQ h => spec_of_vc mxP k112 (w112 s140 s141c a0 a5 a6 a7 a8 a9 aA aB aC aD aE aF aG aH aI Q R hQ h)
theorem k113 : chkF SS Tryz.prog fidY 113 j113 = true := by kernel_rfl
theorem s113 : C113 SY f113 :=
 fun a0 a5 a6 a7 a8 a9 aA aB aC aD aE aF aG aH aI Q R hQ h => spec_of_vc mxP k113 (w113 s140 a0 a5 a6 a7 a8 a9 aA aB aC aD aE aF aG aH aI Q R hQ h)
theorem k86 : chkF SS Tryz.prog fidY 86 j86 = true := by kernel_rfl
theorem s86 : ∀ n, C86 SY (f86 n) :=
 fun n => fun a0 Q R hQ h => spec_of_vc mxP k86 (w86 n (s109 n) s110b s111 s112 s113 a0 Q R hQ h)
theorem k160 : chkF SS Tryz.prog fidY 160 j160 = true := by kernel_rfl
theorem s160 : ∀ n, C160 SY (f160 n) :=
 fun n => fun a0 Q R hQ h => spec_of_vc mxP k160 (w160 n (s86 n) a0 Q R hQ h)
theorem k52 : chkF SS Tryz.prog fidY 52 j52 = true := by kernel_rfl
theorem s52 : C52 SY f52 :=
 fun a0 Q R hQ h => spec_of_vc mxP k52 (w52 a0 Q R hQ h)
theorem k59 : chkF SS Tryz.prog fidY 59 j59 = true := by kernel_rfl
theorem s59 : C59 SY f59 :=
 fun a0 Q R hQ h => spec_of_vc mxP k59 (w59 a0 Q R hQ h)
theorem k38 : chkF SS Tryz.prog fidY 38 j38 = true := by kernel_rfl
theorem s38 : C38 SY f38 :=
 fun a0 a5 Q R hQ h => spec_of_vc mxP k38 (w38 s59 a0 a5 Q R hQ h)
theorem k78 : chkF SS Tryz.prog fidY 78 j78 = true := by kernel_rfl
theorem s78 : C78 SY f78 :=
 fun a0 a5 Q R hQ h => spec_of_vc mxP k78 (w78 a0 a5 Q R hQ h)
theorem k54 : chkF SS Tryz.prog fidY 54 j54 = true := by kernel_rfl
theorem s54 : C54 SY f54 :=
 fun a0 a5 Q R hQ h => spec_of_vc mxP k54 (w54 s78 a0 a5 Q R hQ h)
theorem k53 : chkF SS Tryz.prog fidY 53 j53 = true := by kernel_rfl
theorem s53 : C53 SY f53 :=
 fun a0 Q R hQ h => spec_of_vc mxP k53 (w53 a0 Q R hQ h)
theorem k34 : chkF SS Tryz.prog fidY 34 j34 = true := by kernel_rfl
theorem k55 : chkF SS Tryz.prog fidY 55 j55 = true := by kernel_rfl
theorem k56 : chkF SS Tryz.prog fidY 56 j56 = true := by kernel_rfl
theorem s34 : ∀ n, C34 SY (f34 n) := c34 mxP k34 k55 k56 s52 s38 s54 s53
theorem k11 : chkF SS Tryz.prog fidY 11 j11 = true := by kernel_rfl
theorem s11 : ∀ n, C11 SY (f11 n) :=
 fun n => fun a0 a5 a6 a7 a8 a9 aA aB Q R hQ h => spec_of_vc mxP k11 (w11 n (s34 n) a0 a5 a6 a7 a8 a9 aA aB Q R hQ h)
theorem k75 : chkF SS Tryz.prog fidY 75 j75 = true := by kernel_rfl
theorem s75 : ∀ n, C75 SY (f75 n) := c75 mxP k75
theorem k76 : chkF SS Tryz.prog fidY 76 j76 = true := by kernel_rfl
theorem s76 : ∀ n, C76 SY (f76 n) := c76 mxP k76
theorem k127 : chkF SS Tryz.prog fidY 127 j127 = true := by kernel_rfl
theorem s127 : C127 SY f127 :=
 fun a0 Q R hQ h => spec_of_vc mxP k127 (w127 a0 Q R hQ h)
theorem k99 : chkF SS Tryz.prog fidY 99 j99 = true := by kernel_rfl
theorem s99 : C99 SY f99 :=
 fun a0 a5 a6 a7 Q R hQ h => spec_of_vc mxP k99 (w99 s127 a0 a5 a6 a7 Q R hQ h)
theorem k100 : chkF SS Tryz.prog fidY 100 j100 = true := by kernel_rfl
theorem s100 : C100 SY f100 :=
 fun a0 a5 a6 a7 Q R hQ h => spec_of_vc mxP k100 (w100 a0 a5 a6 a7 Q R hQ h)
theorem k129 : chkF SS Tryz.prog fidY 129 j129 = true := by kernel_rfl
theorem s129 : C129 SY f129 :=
 fun a0 a5 a6 a7 Q R hQ h => spec_of_vc mxP k129 (w129 a0 a5 a6 a7 Q R hQ h)
theorem k132 : chkF SS Tryz.prog fidY 132 j132 = true := by kernel_rfl
theorem s132 : C132 SY f132 :=
 fun a0 Q R hQ h => spec_of_vc mxP k132 (w132 a0 Q R hQ h)
theorem k152 : chkF SS Tryz.prog fidY 152 j152 = true := by kernel_rfl
theorem s152 : C152 SY f152 :=
 fun a0 a5 a6 a7 a8 a9 aA aB aC aD Q R hQ h => spec_of_vc mxP k152 (w152 a0 a5 a6 a7 a8 a9 aA aB aC aD Q R hQ h)
theorem k163 : chkF SS Tryz.prog fidY 163 j163 = true := by kernel_rfl
theorem s163 : C163 SY f163 :=
 fun a0 a5 a6 a7 a8 a9 Q R hQ h => spec_of_vc mxP k163 (w163 s152 a0 a5 a6 a7 a8 a9 Q R hQ h)
theorem k151 : chkF SS Tryz.prog fidY 151 j151 = true := by kernel_rfl
theorem s151 : C151 SY f151 :=
 fun a0 a5 a6 a7 a8 a9 Q R hQ h => spec_of_vc mxP k151 (w151 s163 a0 a5 a6 a7 a8 a9 Q R hQ h)
theorem k128 : chkF SS Tryz.prog fidY 128 j128 = true := by kernel_rfl
theorem s128 : C128 SY f128 :=
 fun a0 Q R hQ h => spec_of_vc mxP k128 (w128 s132 s151 a0 Q R hQ h)
theorem k101 : chkF SS Tryz.prog fidY 101 j101 = true := by kernel_rfl
theorem s101 : C101 SY f101 :=
 fun a0 a5 a6 a7 Q R hQ h => spec_of_vc mxP k101 (w101 s129 s128 a0 a5 a6 a7 Q R hQ h)
theorem k77 : chkF SS Tryz.prog fidY 77 j77 = true := by kernel_rfl
theorem s77 : ∀ n, C77 SY (f77 n) := c77 mxP k77 s99 s100 s101
theorem k51 : chkF SS Tryz.prog fidY 51 j51 = true := by kernel_rfl
theorem s51 : ∀ n, C51 SY (f51 n) :=
 fun n => fun a0 a5 a6 a7 Q R hQ h => spec_of_vc mxP k51 (w51 n (s75 n) (s76 n) (s77 n) a0 a5 a6 a7 Q R hQ h)
theorem k320 : chkF SS Tryz.prog fidY 320 j320 = true := by kernel_rfl
theorem s320 : ∀ n, C320 SY (f320 n) := c320 mxP k320 s57
theorem k94 : chkF SS Tryz.prog fidY 94 j94 = true := by kernel_rfl
theorem s94 : ∀ n, C94 SY (f94 n) := c94 mxP k94
theorem k95 : chkF SS Tryz.prog fidY 95 j95 = true := by kernel_rfl
theorem s95 : ∀ n, C95 SY (f95 n) := c95 mxP k95
theorem k144 : chkF SS Tryz.prog fidY 144 j144 = true := by kernel_rfl
theorem s144 : C144 SY f144 :=
 fun a0 Q R hQ h => spec_of_vc mxP k144 (w144 a0 Q R hQ h)
theorem k158 : chkF SS Tryz.prog fidY 158 j158 = true := by kernel_rfl
theorem s158 : C158 SY f158 :=
 fun a0 Q R hQ h => spec_of_vc mxP k158 (w158 a0 Q R hQ h)
theorem k161 : chkF SS Tryz.prog fidY 161 j161 = true := by kernel_rfl
theorem s161 : ∀ n, C161 SY (f161 n) :=
 fun n => fun a0 Q R hQ h => spec_of_vc mxP k161 (w161 n (s11 n) (s51 n) s158 a0 Q R hQ h)
theorem k174 : chkF SS Tryz.prog fidY 174 j174 = true := by kernel_rfl
theorem s174 : C174 SY f174 :=
 fun a0 a5 Q R hQ h => spec_of_vc mxP k174 (w174 a0 a5 Q R hQ h)
theorem k170 : chkF SS Tryz.prog fidY 170 j170 = true := by kernel_rfl
theorem s170 : C170 SY f170 :=
 fun a0 a5 Q R hQ h => spec_of_vc mxP k170 (w170 s174 a0 a5 Q R hQ h)
theorem k159 : chkF SS Tryz.prog fidY 159 j159 = true := by kernel_rfl
theorem s159 : C159 SY f159 :=
 fun a0 Q R hQ h => spec_of_vc mxP k159 (w159 s132 s170 a0 Q R hQ h)
theorem k145 : chkF SS Tryz.prog fidY 145 j145 = true := by kernel_rfl
theorem s145 : ∀ n, C145 SY (f145 n) :=
 fun n => fun a0 a5 a6 a7 a8 a9 aA aB aC aD aE aF aG aH Q R hQ h => spec_of_vc mxP k145 (w145 n (s160 n) (s161 n) s158 s159 a0 a5 a6 a7 a8 a9 aA aB aC aD aE aF aG aH Q R hQ h)
theorem k116 : chkF SS Tryz.prog fidY 116 j116 = true := by kernel_rfl
theorem s116 : ∀ n, C116 SY (f116 n) :=
 fun n => fun a0 a5 a6 a7 a8 a9 aA aB aC aD aE aF aG aH Q R hQ h => spec_of_vc mxP k116 (w116 n (s11 n) (s51 n) s132 s144 (s145 n) a0 a5 a6 a7 a8 a9 aA aB aC aD aE aF aG aH Q R hQ h)
theorem k96 : chkF SS Tryz.prog fidY 96 j96 = true := by kernel_rfl
theorem s96 : ∀ n, C96 SY (f96 n) := c96 mxP k96 s116
theorem k70 : chkF SS Tryz.prog fidY 70 j70 = true := by kernel_rfl
theorem s70 : ∀ n, C70 SY (f70 n) :=
 fun n => fun a0 a5 a6 a7 a8 a9 aA aB aC aD aE aF aG aH Q R hQ h => spec_of_vc mxP k70 (w70 n (s94 n) (s95 n) (s96 n) a0 a5 a6 a7 a8 a9 aA aB aC aD aE aF aG aH Q R hQ h)
theorem k380 : chkF SS Tryz.prog fidY 380 j380 = true := by kernel_rfl
theorem s380 : C380 SY f380 :=
 fun a0 a5 a6 a7 a8 a9 Q R hQ h => spec_of_vc mxP k380 (w380 a0 a5 a6 a7 a8 a9 Q R hQ h)
theorem k429 : chkF SS Tryz.prog fidY 429 j429 = true := by kernel_rfl
theorem s429 : C429 SY f429 :=
 fun a0 a5 a6 a7 a8 a9 aA aB aC aD aE aF aG aH Q R hQ h => spec_of_vc mxP k429 (w429 s380 a0 a5 a6 a7 a8 a9 aA aB aC aD aE aF aG aH Q R hQ h)
theorem k428 : chkF SS Tryz.prog fidY 428 j428 = true := by kernel_rfl
theorem s428 : C428 SY f428 :=
 fun a0 a5 a6 a7 a8 a9 aA aB aC aD aE aF aG aH Q R hQ h => spec_of_vc mxP k428 (w428 s15 s60 s380 (spec_sort (by kernel_rfl)) a0 a5 a6 a7 a8 a9 aA aB aC aD aE aF aG aH Q R hQ h)
theorem k438 : chkF SS Tryz.prog fidY 438 j438 = true := by kernel_rfl
theorem s438 : C438 SY f438 :=
 fun a0 a5 a6 a7 a8 a9 Q R hQ h => spec_of_vc mxP k438 (w438 s108 a0 a5 a6 a7 a8 a9 Q R hQ h)
theorem k479 : chkF SS Tryz.prog fidY 479 j479 = true := by kernel_rfl
theorem s479 : C479 SY f479 :=
 fun a0 a5 Q R hQ h => spec_of_vc mxP k479 (w479 a0 a5 Q R hQ h)
theorem k466 : chkF SS Tryz.prog fidY 466 j466 = true := by kernel_rfl
theorem s466 : C466 SY f466 :=
 fun a0 a5 Q R hQ h => spec_of_vc mxP k466 (w466 s479 a0 a5 Q R hQ h)
theorem k456 : chkF SS Tryz.prog fidY 456 j456 = true := by kernel_rfl
theorem s456 : C456 SY f456 :=
 fun a0 Q R hQ h => spec_of_vc mxP k456 (w456 s466 a0 Q R hQ h)
theorem k441 : chkF SS Tryz.prog fidY 441 j441 = true := by kernel_rfl
theorem s441 : C441 SY f441 :=
 fun a0 a5 a6 a7 Q R hQ h => spec_of_vc mxP k441 (w441 s456 a0 a5 a6 a7 Q R hQ h)
theorem k448 : chkF SS Tryz.prog fidY 448 j448 = true := by kernel_rfl
theorem s448 : ∀ n, C448 SY (f448 n) :=
 fun n => fun a0 a5 a6 a7 a8 a9 aA aB aC aD aE aF aG aH Q R hQ h => spec_of_vc mxP k448 (w448 n (s42 n) s63 s438 s441 a0 a5 a6 a7 a8 a9 aA aB aC aD aE aF aG aH Q R hQ h)
theorem k465 : chkF SS Tryz.prog fidY 465 j465 = true := by kernel_rfl
theorem s465 : C465 SY f465 :=
 fun a0 a5 a6 a7 a8 a9 aA aB Q R hQ h => spec_of_vc mxP k465 (w465 a0 a5 a6 a7 a8 a9 aA aB Q R hQ h)
theorem k175a : chkF SS Tryz.prog fidY 175 j175a = true := by kernel_rfl
theorem s175a : C175a SY f175a :=
 fun a0 a5 Q R hQ h => spec_of_vc mxP k175a (w175a s465 a0 a5 Q R hQ h)
theorem k455 : chkF SS Tryz.prog fidY 455 j455 = true := by kernel_rfl
theorem s455 : C455 SY f455 :=
 fun a0 a5 a6 a7 a8 a9 aA Q R hQ h => spec_of_vc mxP k455 (w455 s175a a0 a5 a6 a7 a8 a9 aA Q R hQ h)
theorem k440 : chkF SS Tryz.prog fidY 440 j440 = true := by kernel_rfl
theorem s440 : C440 SY f440 :=
 fun a0 a5 a6 a7 a8 a9 aA aB Q R hQ h => spec_of_vc mxP k440 (w440 s15 s455 a0 a5 a6 a7 a8 a9 aA aB Q R hQ h)
theorem k447 : chkF SS Tryz.prog fidY 447 j447 = true := by kernel_rfl
theorem s447 : C447 SY f447 :=
 fun a0 a5 a6 a7 a8 a9 aA aB aC Q R hQ h => spec_of_vc mxP k447 (w447 s63 s438 (spec_del_part (by kernel_rfl)) a0 a5 a6 a7 a8 a9 aA aB aC Q R hQ h)
theorem k445 : chkF SS Tryz.prog fidY 445 j445 = true := by kernel_rfl
theorem s445 : C445 SY f445 :=
 fun a0 a5 a6 a7 a8 a9 aA aB aC Q R hQ h => spec_of_vc mxP k445 (w445 s63 s438 s455 (spec_del_part (by kernel_rfl)) (spec_ins_part (by kernel_rfl)) a0 a5 a6 a7 a8 a9 aA aB aC Q R hQ h)
theorem k458 : chkF SS Tryz.prog fidY 458 j458 = true := by kernel_rfl
theorem s458 : ∀ n, C458 SY (f458 n) :=
 fun n => fun a6 n6 e6 Q R hQ h => spec_of_vc mxP k458 (w458 n a6 n6 e6 Q R hQ h)
theorem k444 : chkF SS Tryz.prog fidY 444 j444 = true := by kernel_rfl
theorem s444 : ∀ n, C444 SY (f444 n) :=
 fun n => fun a0 a5 a6 a7 a8 a9 aA aB Q R hQ h => spec_of_vc mxP k444 (w444 n s15 s170 s440 s455 (s458 n) a0 a5 a6 a7 a8 a9 aA aB Q R hQ h)
theorem k377 : chkF SS Tryz.prog fidY 377 j377 = true := by kernel_rfl
theorem k406 : chkF SS Tryz.prog fidY 406 j406 = true := by kernel_rfl
theorem k427 : chkF SS Tryz.prog fidY 427 j427 = true := by kernel_rfl
theorem k426 : chkF SS Tryz.prog fidY 426 j426 = true := by kernel_rfl
theorem k425 : chkF SS Tryz.prog fidY 425 j425 = true := by kernel_rfl
theorem s377 : ∀ n, C377 SY (f377 n) := c377 mxP k377 k406 k427 k426 k425 s15 s63 s380 s429 s428 s438 s448 s42 s440 s60 s64 s441 s447 (spec_del_part (by kernel_rfl)) (spec_ins_part (by kernel_rfl)) s445 s444
theorem k378 : chkF SS Tryz.prog fidY 378 j378 = true := by kernel_rfl
theorem s378 : ∀ n, C378 SY (f378 n) := c378 mxP k378
theorem k379 : chkF SS Tryz.prog fidY 379 j379 = true := by kernel_rfl
theorem s379 : ∀ n, C379 SY (f379 n) := c379 mxP k379
theorem k361 : chkF SS Tryz.prog fidY 361 j361 = true := by kernel_rfl
theorem s361 : ∀ n, C361 SY (f361 n) :=
 fun n => fun a0 a5 a6 a7 a8 a9 aA aB Q R hQ h => spec_of_vc mxP k361 (w361 n (s377 n) s380 (s378 n) (s379 n) a0 a5 a6 a7 a8 a9 aA aB Q R hQ h)
theorem k340 : chkF SS Tryz.prog fidY 340 j340 = true := by kernel_rfl
theorem s340 : ∀ n, C340 SY (f340 n) :=
 fun n => fun a0 a5 a6 a7 a8 a9 aA aB Q R hQ h => spec_of_vc mxP k340 (w340 n (s361 n) a0 a5 a6 a7 a8 a9 aA aB Q R hQ h)
theorem k319 : chkF SS Tryz.prog fidY 319 j319 = true := by kernel_rfl
theorem s319 : ∀ n, C319 SY (f319 n) :=
 fun n => fun a0 a5 a6 Q R hQ h => spec_of_vc mxP k319 (w319 n s21 (s22 n) (s340 n) a0 a5 a6 Q R hQ h)
theorem k44 : chkF SS Tryz.prog fidY 44 j44 = true := by kernel_rfl
theorem s44 : C44 SY f44 :=
 fun a0 Q R hQ h => spec_of_vc mxP k44 (w44 a0 Q R hQ h)
theorem k325 : chkF SS Tryz.prog fidY 325 j325 = true := by kernel_rfl
theorem s325 : C325 SY f325 :=
 fun Q R hQ h => spec_of_vc mxP k325 (w325 s44 Q R hQ h)
theorem k305 : chkF SS Tryz.prog fidY 305 j305 = true := by kernel_rfl
theorem s305 : ∀ n, C305 SY (f305 n) :=
 fun n => fun a0 a5 a6 a7 Q R hQ h => spec_of_vc mxP k305 (w305 n (s320 n) (s70 n) (s94 n) (s95 n) (s116 n) (s319 n) s325 a0 a5 a6 a7 Q R hQ h)
end Go.Clap
