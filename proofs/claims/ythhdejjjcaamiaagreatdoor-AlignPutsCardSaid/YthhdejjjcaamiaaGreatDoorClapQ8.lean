/- The checks of the small code against the loaded functions, and the contracts in the seat. -/
import Derived.Test.YthhdejjjcaamiaaGreatDoorClapE3
import Derived.Test.YthhdejjjcaamiaaGreatDoorClapF0
import Derived.Test.YthhdejjjcaamiaaGreatDoorRows
set_option maxRecDepth 1000000
namespace Go.Clap
open Go Go.Proofs
theorem mxP : Tryz.prog.follows .mixedOrders = true := by kernel_rfl
abbrev SY : Oracle TT := SP Tryz.prog fidE
theorem k26 : chkF SS Tryz.prog fidE 26 j26 = true := by kernel_rfl
theorem s26 : C26 SY f26 :=
 fun a0 a5 Q R hQ h => spec_of_vc mxP k26 (w26 a0 a5 Q R hQ h)
theorem k44 : chkF SS Tryz.prog fidE 44 j44 = true := by kernel_rfl
theorem s44 : C44 SY f44 :=
 fun a0 Q R hQ h => spec_of_vc mxP k44 (w44 a0 Q R hQ h)
theorem k325 : chkF SS Tryz.prog fidE 325 j325 = true := by kernel_rfl
theorem s325 : C325 SY f325 :=
 fun Q R hQ h => spec_of_vc mxP k325 (w325 s44 Q R hQ h)
theorem k25 : chkF SS Tryz.prog fidE 25 j25 = true := by kernel_rfl
theorem s25 : C25 SY f25 :=
 fun Q R hQ h => spec_of_vc mxP k25 (w25 Q R hQ h)
theorem k1029 : chkF SS Tryz.prog fidE 1029 j1029 = true := by kernel_rfl
theorem s1029 : C1029 SY f1029 :=
 fun Q R hQ h => spec_of_vc mxP k1029 (w1029 s25 Q R hQ h)
theorem k30 : chkF SS Tryz.prog fidE 30 j30 = true := by kernel_rfl
theorem s30 : C30 SY f30 :=
 fun a0 a5 Q R hQ h => spec_of_vc mxP k30 (w30 s44 a0 a5 Q R hQ h)
theorem k105 : chkF SS Tryz.prog fidE 105 j105 = true := by kernel_rfl
theorem s105 : ∀ n, C105 SY (f105 n) :=
 fun n => fun a0 Q R hQ h => spec_of_vc mxP k105 (w105 n a0 Q R hQ h)
theorem k59 : chkF SS Tryz.prog fidE 59 j59 = true := by kernel_rfl
theorem s59 : C59 SY f59 :=
 fun a0 Q R hQ h => spec_of_vc mxP k59 (w59 a0 Q R hQ h)
theorem k38 : chkF SS Tryz.prog fidE 38 j38 = true := by kernel_rfl
theorem s38 : C38 SY f38 :=
 fun a0 a5 Q R hQ h => spec_of_vc mxP k38 (w38 s59 a0 a5 Q R hQ h)
theorem k78 : chkF SS Tryz.prog fidE 78 j78 = true := by kernel_rfl
theorem s78 : C78 SY f78 :=
 fun a0 a5 Q R hQ h => spec_of_vc mxP k78 (w78 a0 a5 Q R hQ h)
theorem k54 : chkF SS Tryz.prog fidE 54 j54 = true := by kernel_rfl
theorem s54 : C54 SY f54 :=
 fun a0 a5 Q R hQ h => spec_of_vc mxP k54 (w54 s78 a0 a5 Q R hQ h)
theorem k53 : chkF SS Tryz.prog fidE 53 j53 = true := by kernel_rfl
theorem s53 : C53 SY f53 :=
 fun a0 Q R hQ h => spec_of_vc mxP k53 (w53 a0 Q R hQ h)
theorem k34 : chkF SS Tryz.prog fidE 34 j34 = true := by kernel_rfl
theorem k55 : chkF SS Tryz.prog fidE 55 j55 = true := by kernel_rfl
theorem k56 : chkF SS Tryz.prog fidE 56 j56 = true := by kernel_rfl
theorem s34 : ∀ n, C34 SY (f34 n) := c34 mxP k34 k55 k56 s38 s54 s53
theorem k11 : chkF SS Tryz.prog fidE 11 j11 = true := by kernel_rfl
theorem s11 : ∀ n, C11 SY (f11 n) :=
 fun n => fun a0 a5 a6 a7 a8 a9 aA aB Q R hQ h => spec_of_vc mxP k11 (w11 n (s34 n) a0 a5 a6 a7 a8 a9 aA aB Q R hQ h)
theorem k75 : chkF SS Tryz.prog fidE 75 j75 = true := by kernel_rfl
theorem s75 : ∀ n, C75 SY (f75 n) := c75 mxP k75
theorem k76 : chkF SS Tryz.prog fidE 76 j76 = true := by kernel_rfl
theorem s76 : ∀ n, C76 SY (f76 n) := c76 mxP k76
theorem k127 : chkF SS Tryz.prog fidE 127 j127 = true := by kernel_rfl
theorem s127 : C127 SY f127 :=
 fun a0 Q R hQ h => spec_of_vc mxP k127 (w127 a0 Q R hQ h)
theorem k99 : chkF SS Tryz.prog fidE 99 j99 = true := by kernel_rfl
theorem s99 : C99 SY f99 :=
 fun a0 a5 a6 a7 Q R hQ h => spec_of_vc mxP k99 (w99 s127 a0 a5 a6 a7 Q R hQ h)
theorem k100 : chkF SS Tryz.prog fidE 100 j100 = true := by kernel_rfl
theorem s100 : C100 SY f100 :=
 fun a0 a5 a6 a7 Q R hQ h => spec_of_vc mxP k100 (w100 a0 a5 a6 a7 Q R hQ h)
theorem k129 : chkF SS Tryz.prog fidE 129 j129 = true := by kernel_rfl
theorem s129 : C129 SY f129 :=
 fun a0 a5 a6 a7 Q R hQ h => spec_of_vc mxP k129 (w129 a0 a5 a6 a7 Q R hQ h)
theorem k132 : chkF SS Tryz.prog fidE 132 j132 = true := by kernel_rfl
theorem s132 : C132 SY f132 :=
 fun a0 Q R hQ h => spec_of_vc mxP k132 (w132 a0 Q R hQ h)
theorem k152 : chkF SS Tryz.prog fidE 152 j152 = true := by kernel_rfl
theorem s152 : C152 SY f152 :=
 fun a0 a5 a6 a7 a8 a9 aA aB aC aD Q R hQ h => spec_of_vc mxP k152 (w152 a0 a5 a6 a7 a8 a9 aA aB aC aD Q R hQ h)
theorem k163 : chkF SS Tryz.prog fidE 163 j163 = true := by kernel_rfl
theorem s163 : C163 SY f163 :=
 fun a0 a5 a6 a7 a8 a9 Q R hQ h => spec_of_vc mxP k163 (w163 s152 a0 a5 a6 a7 a8 a9 Q R hQ h)
theorem k151 : chkF SS Tryz.prog fidE 151 j151 = true := by kernel_rfl
theorem s151 : C151 SY f151 :=
 fun a0 a5 a6 a7 a8 a9 Q R hQ h => spec_of_vc mxP k151 (w151 s163 a0 a5 a6 a7 a8 a9 Q R hQ h)
theorem k128 : chkF SS Tryz.prog fidE 128 j128 = true := by kernel_rfl
theorem s128 : C128 SY f128 :=
 fun a0 Q R hQ h => spec_of_vc mxP k128 (w128 s132 s151 a0 Q R hQ h)
theorem k101 : chkF SS Tryz.prog fidE 101 j101 = true := by kernel_rfl
theorem s101 : C101 SY f101 :=
 fun a0 a5 a6 a7 Q R hQ h => spec_of_vc mxP k101 (w101 s129 s128 a0 a5 a6 a7 Q R hQ h)
theorem k77 : chkF SS Tryz.prog fidE 77 j77 = true := by kernel_rfl
theorem s77 : ∀ n, C77 SY (f77 n) := c77 mxP k77 s99 s100 s101
theorem k51 : chkF SS Tryz.prog fidE 51 j51 = true := by kernel_rfl
theorem s51 : ∀ n, C51 SY (f51 n) :=
 fun n => fun a0 a5 a6 a7 Q R hQ h => spec_of_vc mxP k51 (w51 n (s75 n) (s76 n) (s77 n) a0 a5 a6 a7 Q R hQ h)
theorem k133 : chkF SS Tryz.prog fidE 133 j133 = true := by kernel_rfl
theorem s133 : ∀ n, C133 SY (f133 n) := c133 mxP k133
theorem k134 : chkF SS Tryz.prog fidE 134 j134 = true := by kernel_rfl
theorem s134 : ∀ n, C134 SY (f134 n) := c134 mxP k134
theorem k165 : chkF SS Tryz.prog fidE 165 j165 = true := by kernel_rfl
theorem s165 : C165 SY f165 :=
 fun a0 Q R hQ h => spec_of_vc mxP k165 (w165 a0 Q R hQ h)
theorem k166 : chkF SS Tryz.prog fidE 166 j166 = true := by kernel_rfl
theorem s166 : C166 SY f166 :=
 fun a0 a5 a6 a7 a8 a9 Q R hQ h => spec_of_vc mxP k166 (w166 a0 a5 a6 a7 a8 a9 Q R hQ h)
theorem k172 : chkF SS Tryz.prog fidE 172 j172 = true := by kernel_rfl
theorem s172 : C172 SY f172 :=
 fun a0 a5 a6 a7 a8 a9 aA aB aC aD aE aF aG aH Q R hQ h => spec_of_vc mxP k172 (w172 a0 a5 a6 a7 a8 a9 aA aB aC aD aE aF aG aH Q R hQ h)
theorem k175 : chkF SS Tryz.prog fidE 175 j175 = true := by kernel_rfl
theorem s175 : C175 SY f175 :=
 fun a0 a5 a6 a7 a8 a9 aA aB Q R hQ h => spec_of_vc mxP k175 (w175 s172 a0 a5 a6 a7 a8 a9 aA aB Q R hQ h)
theorem k171 : chkF SS Tryz.prog fidE 171 j171 = true := by kernel_rfl
theorem s171 : C171 SY f171 :=
 fun a0 a5 a6 a7 a8 a9 aA aB Q R hQ h => spec_of_vc mxP k171 (w171 s175 a0 a5 a6 a7 a8 a9 aA aB Q R hQ h)
theorem k167 : chkF SS Tryz.prog fidE 167 j167 = true := by kernel_rfl
theorem s167 : C167 SY f167 :=
 fun a0 a5 a6 a7 a8 a9 Q R hQ h => spec_of_vc mxP k167 (w167 s132 s171 a0 a5 a6 a7 a8 a9 Q R hQ h)
theorem k154 : chkF SS Tryz.prog fidE 154 j154 = true := by kernel_rfl
theorem s154 : C154 SY f154 :=
 fun a0 a5 a6 a7 a8 a9 aA Q R hQ h => spec_of_vc mxP k154 (w154 s165 s166 s167 a0 a5 a6 a7 a8 a9 aA Q R hQ h)
theorem k135 : chkF SS Tryz.prog fidE 135 j135 = true := by kernel_rfl
theorem s135 : ∀ n, C135 SY (f135 n) := c135 mxP k135 s154
theorem k106 : chkF SS Tryz.prog fidE 106 j106 = true := by kernel_rfl
theorem s106 : ∀ n, C106 SY (f106 n) :=
 fun n => fun a0 a5 a6 a7 a8 a9 aA Q R hQ h => spec_of_vc mxP k106 (w106 n (s133 n) (s134 n) (s135 n) a0 a5 a6 a7 a8 a9 aA Q R hQ h)
theorem k83 : chkF SS Tryz.prog fidE 83 j83 = true := by kernel_rfl
theorem s83 : ∀ n, C83 SY (f83 n) :=
 fun n => fun a0 a5 a6 a7 a8 a9 aA Q R hQ h => spec_of_vc mxP k83 (w83 n (s105 n) (s106 n) a0 a5 a6 a7 a8 a9 aA Q R hQ h)
theorem k94 : chkF SS Tryz.prog fidE 94 j94 = true := by kernel_rfl
theorem s94 : ∀ n, C94 SY (f94 n) := c94 mxP k94
theorem k95 : chkF SS Tryz.prog fidE 95 j95 = true := by kernel_rfl
theorem s95 : ∀ n, C95 SY (f95 n) := c95 mxP k95
theorem k144 : chkF SS Tryz.prog fidE 144 j144 = true := by kernel_rfl
theorem s144 : C144 SY f144 :=
 fun a0 Q R hQ h => spec_of_vc mxP k144 (w144 a0 Q R hQ h)
theorem k145 : chkF SS Tryz.prog fidE 145 j145 = true := by kernel_rfl
theorem s145 : C145 SY f145 :=
 fun a0 a5 a6 a7 a8 a9 aA aB aC aD aE aF aG aH Q R hQ h => spec_of_vc mxP k145 (w145 a0 a5 a6 a7 a8 a9 aA aB aC aD aE aF aG aH Q R hQ h)
theorem k116 : chkF SS Tryz.prog fidE 116 j116 = true := by kernel_rfl
theorem s116 : ∀ n, C116 SY (f116 n) :=
 fun n => fun a0 a5 a6 a7 a8 a9 aA aB aC aD aE aF aG aH Q R hQ h => spec_of_vc mxP k116 (w116 n (s11 n) (s51 n) s132 s144 s145 a0 a5 a6 a7 a8 a9 aA aB aC aD aE aF aG aH Q R hQ h)
theorem k96 : chkF SS Tryz.prog fidE 96 j96 = true := by kernel_rfl
theorem s96 : ∀ n, C96 SY (f96 n) := c96 mxP k96 s116
theorem k70 : chkF SS Tryz.prog fidE 70 j70 = true := by kernel_rfl
theorem s70 : ∀ n, C70 SY (f70 n) :=
 fun n => fun a0 a5 a6 a7 a8 a9 aA aB aC aD aE aF aG aH Q R hQ h => spec_of_vc mxP k70 (w70 n (s94 n) (s95 n) (s96 n) a0 a5 a6 a7 a8 a9 aA aB aC aD aE aF aG aH Q R hQ h)
theorem k84 : chkF SS Tryz.prog fidE 84 j84 = true := by kernel_rfl
theorem s84 : ∀ n, C84 SY (f84 n) :=
 fun n => fun a0 a5 a6 a7 a8 a9 aA Q R hQ h => spec_of_vc mxP k84 (w84 n a0 a5 a6 a7 a8 a9 aA Q R hQ h)
theorem k108 : chkF SS Tryz.prog fidE 108 j108 = true := by kernel_rfl
theorem s108 : C108 SY f108 :=
 fun a0 Q R hQ h => spec_of_vc mxP k108 (w108 a0 Q R hQ h)
theorem k85 : chkF SS Tryz.prog fidE 85 j85 = true := by kernel_rfl
theorem s85 : ∀ n, C85 SY (f85 n) := c85 mxP k85 s108
theorem k66 : chkF SS Tryz.prog fidE 66 j66 = true := by kernel_rfl
theorem s66 : ∀ n, C66 SY (f66 n) :=
 fun n => fun a0 a5 a6 a7 a8 a9 aA Q R hQ h => spec_of_vc mxP k66 (w66 n (s83 n) (s84 n) (s85 n) a0 a5 a6 a7 a8 a9 aA Q R hQ h)
theorem k1037 : chkF SS Tryz.prog fidE 1037 j1037 = true := by kernel_rfl
theorem s1037 : C1037 SY f1037 :=
 fun a0 a5 a6 a7 a8 a9 aA aB Q R hQ h => spec_of_vc mxP k1037 (w1037 a0 a5 a6 a7 a8 a9 aA aB Q R hQ h)
theorem k175a : chkF SS Tryz.prog fidE 175 j175a = true := by kernel_rfl
theorem s175a : C175a SY f175a :=
 fun a0 a5 Q R hQ h => spec_of_vc mxP k175a (w175a s1037 a0 a5 Q R hQ h)
theorem k1036 : chkF SS Tryz.prog fidE 1036 j1036 = true := by kernel_rfl
theorem s1036 : C1036 SY f1036 :=
 fun a0 a5 a6 a7 a8 a9 aA Q R hQ h => spec_of_vc mxP k1036 (w1036 s175a a0 a5 a6 a7 a8 a9 aA Q R hQ h)
theorem k1054 : chkF SS Tryz.prog fidE 1054 j1054 = true := by kernel_rfl
theorem s1054 : C1054 SY f1054 :=
 fun a0 a5 a6 a7 a8 a9 aA aB aC aD aE aF Q R hQ h => spec_of_vc mxP k1054 (w1054 a0 a5 a6 a7 a8 a9 aA aB aC aD aE aF Q R hQ h)
theorem k1055 : chkF SS Tryz.prog fidE 1055 j1055 = true := by kernel_rfl
theorem s1055 : C1055 SY f1055 :=
 fun a0 a5 Q R hQ h => spec_of_vc mxP k1055 (w1055 s1054 a0 a5 Q R hQ h)
theorem k1040 : chkF SS Tryz.prog fidE 1040 j1040 = true := by kernel_rfl
theorem s1040 : C1040 SY f1040 :=
 fun a0 a5 a6 a7 a8 a9 aA aB aC aD Q R hQ h => spec_of_vc mxP k1040 (w1040 s1055 a0 a5 a6 a7 a8 a9 aA aB aC aD Q R hQ h)
theorem k1079 : chkF SS Tryz.prog fidE 1079 j1079 = true := by kernel_rfl
theorem s1079 : C1079 SY f1079 :=
 fun a0 Q R hQ h => spec_of_vc mxP k1079 (w1079 a0 Q R hQ h)
theorem k1024 : chkF SS Tryz.prog fidE 1024 j1024 = true := by kernel_rfl
theorem s1024 : C1024 SY f1024 :=
 fun a0 a5 Q R hQ h => spec_of_vc mxP k1024 (w1024 s1079 a0 a5 Q R hQ h)
theorem k1023 : chkF SS Tryz.prog fidE 1023 j1023 = true := by kernel_rfl
theorem s1023 : C1023 SY f1023 :=
 fun a0 Q R hQ h => spec_of_vc mxP k1023 (w1023 s1024 a0 Q R hQ h)
theorem k1022 : chkF SS Tryz.prog fidE 1022 j1022 = true := by kernel_rfl
theorem s1022 : C1022 SY f1022 :=
 fun a0 Q R hQ h => spec_of_vc mxP k1022 (w1022 s1023 a0 Q R hQ h)
theorem k1039 : chkF SS Tryz.prog fidE 1039 j1039 = true := by kernel_rfl
theorem s1039 : ∀ n, C1039 SY (f1039 n) := c1039 mxP k1039 s84 s1040 s1022
theorem k1039a : chkF SS Tryz.prog fidE 1039 j1039a = true := by kernel_rfl
theorem s1039a : ∀ n, C1039a SY (f1039a n) :=
 fun n => fun a0 a5 a6 a7 a8 a9 aA aB aC aD aE Q R hQ h => spec_of_vc mxP k1039a (w1039a n (s84 n) (s1039 n) s1040 s1022 a0 a5 a6 a7 a8 a9 aA aB aC aD aE Q R hQ h)
theorem k458 : chkF SS Tryz.prog fidE 458 j458 = true := by kernel_rfl
theorem s458 : ∀ n, C458 SY (f458 n) :=
 fun n => fun a6 n6 e6 Q R hQ h => spec_of_vc mxP k458 (w458 n a6 n6 e6 Q R hQ h)
theorem k1038 : chkF SS Tryz.prog fidE 1038 j1038 = true := by kernel_rfl
theorem s1038 : ∀ n, C1038 SY (f1038 n) :=
 fun n => fun a0 a5 a6 a7 a8 a9 aA aB aC aD aE Q R hQ h => spec_of_vc mxP k1038 (w1038 n (s51 n) (s83 n) (s1039a n) (s458 n) a0 a5 a6 a7 a8 a9 aA aB aC aD aE Q R hQ h)
theorem k1034 : chkF SS Tryz.prog fidE 1034 j1034 = true := by kernel_rfl
theorem s1034 : ∀ n, C1034 SY (f1034 n) := c1034 mxP k1034
theorem k1034a : chkF SS Tryz.prog fidE 1034 j1034a = true := by kernel_rfl
theorem s1034a : ∀ n, C1034a SY (f1034a n) :=
 fun n => fun a0 a5 a6 a7 a8 a9 Q R hQ h => spec_of_vc mxP k1034a (w1034a n (s1034 n) a0 a5 a6 a7 a8 a9 Q R hQ h)
theorem k1073 : chkF SS Tryz.prog fidE 1073 j1073 = true := by kernel_rfl
theorem s1073 : ∀ n, C1073 SY (f1073 n) :=
 fun n => fun a0 a5 a6 a7 a8 a9 aA aB Q R hQ h => spec_of_vc mxP k1073 (w1073 n (s66 n) s1036 a0 a5 a6 a7 a8 a9 aA aB Q R hQ h)
theorem k1035 : chkF SS Tryz.prog fidE 1035 j1035 = true := by kernel_rfl
theorem s1035 : ∀ n, C1035 SY (f1035 n) :=
 fun n => fun a0 a5 a6 a7 a8 a9 aA aB aC aD aE aF aG aH aI aJ aK aL aM aN aO Q R hQ h => spec_of_vc mxP k1035 (w1035 n s1036 (s1038 n) (s1034a n) (spec_del_part (by kernel_rfl)) a0 a5 a6 a7 a8 a9 aA aB aC aD aE aF aG aH aI aJ aK aL aM aN aO Q R hQ h)
theorem k1033 : chkF SS Tryz.prog fidE 1033 j1033 = true := by kernel_rfl
theorem k1072 : chkF SS Tryz.prog fidE 1072 j1072 = true := by kernel_rfl
theorem s1033 : ∀ n, C1033 SY (f1033 n) := c1033 mxP k1033 k1072 s66 s1035 s1036 s1038 s1034a s1073
theorem k1032 : chkF SS Tryz.prog fidE 1032 j1032 = true := by kernel_rfl
theorem s1032 : ∀ n, C1032 SY (f1032 n) :=
 fun n => fun a0 a5 a6 a7 a8 a9 aA aB aC aD aE aF aG aH aI aJ aK aL aM aN aO Q R hQ h => spec_of_vc mxP k1032 (w1032 n (s105 n) (s83 n) (s70 n) (s1033 n) a0 a5 a6 a7 a8 a9 aA aB aC aD aE aF aG aH aI aJ aK aL aM aN aO Q R hQ h)
theorem k1042 : chkF SS Tryz.prog fidE 1042 j1042 = true := by kernel_rfl
theorem s1042 : ∀ n, C1042 SY (f1042 n) :=
 fun n => fun a0 a5 a6 a7 a8 a9 aA aB aC aD aE Q R hQ h => spec_of_vc mxP k1042 (w1042 n (s51 n) (s1038 n) a0 a5 a6 a7 a8 a9 aA aB aC aD aE Q R hQ h)
theorem k79 : chkF SS Tryz.prog fidE 79 j79 = true := by kernel_rfl
theorem s79 : C79 SY f79 :=
 fun a0 Q R hQ h => spec_of_vc mxP k79 (w79 a0 Q R hQ h)
theorem k57 : chkF SS Tryz.prog fidE 57 j57 = true := by kernel_rfl
theorem s57 : ∀ n, C57 SY (f57 n) := c57 mxP k57 s79
theorem k1053 : chkF SS Tryz.prog fidE 1053 j1053 = true := by kernel_rfl
theorem s1053 : C1053 SY f1053 :=
 fun a0 a5 a6 a7 a8 a9 Q R hQ h => spec_of_vc mxP k1053 (w1053 a0 a5 a6 a7 a8 a9 Q R hQ h)
theorem k163a : chkF SS Tryz.prog fidE 163 j163a = true := by kernel_rfl
theorem s163a : C163a SY f163a :=
 fun a6 a7 n6 e6 Q R hQ h => spec_of_vc mxP k163a (w163a s1053 a6 a7 n6 e6 Q R hQ h)
theorem k1052 : chkF SS Tryz.prog fidE 1052 j1052 = true := by kernel_rfl
theorem s1052 : C1052 SY f1052 :=
 fun a6 a7 a8 a9 aA n6 e6 Q R hQ h => spec_of_vc mxP k1052 (w1052 s163a a6 a7 a8 a9 aA n6 e6 Q R hQ h)
theorem k1048 : chkF SS Tryz.prog fidE 1048 j1048 = true := by kernel_rfl
theorem k1049 : chkF SS Tryz.prog fidE 1049 j1049 = true := by kernel_rfl
theorem s1048 : ∀ n, C1048 SY (f1048 n) := c1048 mxP k1048 k1049 s79 s1052 (spec_del_fld (by kernel_rfl))
theorem k1047 : chkF SS Tryz.prog fidE 1047 j1047 = true := by kernel_rfl
theorem s1047 : ∀ n, C1047 SY (f1047 n) :=
 fun n => fun a0 a5 a6 a7 a8 a9 aA aB aC aD aE aF aG aH aI aJ aK aL aM aN aO aP aQ aR aS Q R hQ h => spec_of_vc mxP k1047 (w1047 n (s51 n) (s1032 n) (s1042 n) (s57 n) (s1048 n) a0 a5 a6 a7 a8 a9 aA aB aC aD aE aF aG aH aI aJ aK aL aM aN aO aP aQ aR aS Q R hQ h)
theorem k35 : chkF SS Tryz.prog fidE 35 j35 = true := by kernel_rfl
theorem s35 : ∀ n, C35 SY (f35 n) :=
 fun n => fun a0 a5 a6 a7 a8 Q R hQ h => spec_of_vc mxP k35 (w35 n (s57 n) a0 a5 a6 a7 a8 Q R hQ h)
theorem k1065 : chkF SS Tryz.prog fidE 1065 j1065 = true := by kernel_rfl
theorem s1065 : C1065 SY f1065 :=
 fun a0 a5 a6 a7 a8 a9 aA aB Q R hQ h => spec_of_vc mxP k1065 (w1065 a0 a5 a6 a7 a8 a9 aA aB Q R hQ h)
theorem k175b : chkF SS Tryz.prog fidE 175 j175b = true := by kernel_rfl
theorem s175b : C175b SY f175b :=
 fun a0 a5 Q R hQ h => spec_of_vc mxP k175b (w175b s1065 a0 a5 Q R hQ h)
theorem k1064 : chkF SS Tryz.prog fidE 1064 j1064 = true := by kernel_rfl
theorem s1064 : C1064 SY f1064 :=
 fun a0 a5 a6 a7 a8 a9 aA Q R hQ h => spec_of_vc mxP k1064 (w1064 s175b a0 a5 a6 a7 a8 a9 aA Q R hQ h)
theorem k1063 : chkF SS Tryz.prog fidE 1063 j1063 = true := by kernel_rfl
theorem s1063 : ∀ n, C1063 SY (f1063 n) :=
 fun n => fun a6 a7 a8 a9 aA aC aD aE aF aG aH aI aJ aK aL aM aN aO aP aQ aS aT aU aW aX aY aZ a00 a01 a02 n6 e6 Q R hQ h => spec_of_vc mxP k1063 (w1063 n (s57 n) (s35 n) s1064 (spec_ins_fld (by kernel_rfl)) a6 a7 a8 a9 aA aC aD aE aF aG aH aI aJ aK aL aM aN aO aP aQ aS aT aU aW aX aY aZ a00 a01 a02 n6 e6 Q R hQ h)
theorem k163b : chkF SS Tryz.prog fidE 163 j163b = true := by kernel_rfl
theorem s163b : C163b SY f163b :=
 fun a0 a5 Q R hQ h => spec_of_vc mxP k163b (w163b s1053 a0 a5 Q R hQ h)
theorem k1052a : chkF SS Tryz.prog fidE 1052 j1052a = true := by kernel_rfl
theorem s1052a : C1052a SY f1052a :=
 fun a0 a5 a6 a7 a8 Q R hQ h => spec_of_vc mxP k1052a (w1052a s163b a0 a5 a6 a7 a8 Q R hQ h)
theorem k1075 : chkF SS Tryz.prog fidE 1075 j1075 = true := by kernel_rfl
theorem s1075 : ∀ n, C1075 SY (f1075 n) :=
 fun n => fun a6 a7 a8 a9 aA aC aD aE aF aG aH aI aJ aK aL aM aN aO aP aQ aS aT aU aW aX aY aZ a00 a01 a02 a03 n6 e6 Q R hQ h => spec_of_vc mxP k1075 (w1075 n (s11 n) (s1048 n) (s35 n) s1052a a6 a7 a8 a9 aA aC aD aE aF aG aH aI aJ aK aL aM aN aO aP aQ aS aT aU aW aX aY aZ a00 a01 a02 a03 n6 e6 Q R hQ h)
theorem k1062 : chkF SS Tryz.prog fidE 1062 j1062 = true := by kernel_rfl
theorem k1074 : chkF SS Tryz.prog fidE 1074 j1074 = true := by kernel_rfl
theorem s1062 : ∀ n, C1062 SY (f1062 n) := c1062 mxP k1062 k1074 s66 s79 s1063 s1075
theorem k1067 : chkF SS Tryz.prog fidE 1067 j1067 = true := by kernel_rfl
theorem s1067 : ∀ n, C1067 SY (f1067 n) :=
 fun n => fun a0 a5 a6 a7 a8 Q R hQ h => spec_of_vc mxP k1067 (w1067 n (s51 n) (s57 n) a0 a5 a6 a7 a8 Q R hQ h)
theorem k1061 : chkF SS Tryz.prog fidE 1061 j1061 = true := by kernel_rfl
theorem s1061 : ∀ n, C1061 SY (f1061 n) :=
 fun n => fun a0 a5 a6 a7 a8 a9 aA aB aC aD aE aF aG aH aI aJ aK aL aM aN aO aP aQ aR aS aT aU aV aW Q R hQ h => spec_of_vc mxP k1061 (w1061 n (s1032 n) (s1042 n) (s57 n) (s1062 n) (s1067 n) a0 a5 a6 a7 a8 a9 aA aB aC aD aE aF aG aH aI aJ aK aL aM aN aO aP aQ aR aS aT aU aV aW Q R hQ h)
theorem k8 : chkF SS Tryz.prog fidE 8 j8 = true := by kernel_rfl
theorem s8 : C8 SY f8 :=
 fun a0 Q R hQ h => spec_of_vc mxP k8 (w8 s26 s30 a0 Q R hQ h)
theorem k1078 : chkF SS Tryz.prog fidE 1078 j1078 = true := by kernel_rfl
theorem s1078 : ∀ n, C1078 SY (f1078 n) :=
 fun n => fun Q R hQ h => spec_of_vc mxP k1078 (w1078 n s325 s44 s1029 s30 (s11 n) (s1047 n) Q R hQ h)
theorem k1077 : chkF SS Tryz.prog fidE 1077 j1077 = true := by kernel_rfl
theorem s1077 : ∀ n, C1077 SY (f1077 n) :=
 fun n => fun Q R hQ h => spec_of_vc mxP k1077 (w1077 n s325 s44 s1029 s30 (s11 n) (s1061 n) (s1078 n) Q R hQ h)
theorem k31 : chkF SS Tryz.prog fidE 31 j31 = true := by kernel_rfl
theorem s31 : ∀ n, C31 SY (f31 n) :=
 fun n => fun a0 a5 a6 a7 a8 a9 aA aB Q R hQ h => spec_of_vc mxP k31 (w31 n (s51 n) a0 a5 a6 a7 a8 a9 aA aB Q R hQ h)
theorem k16 : chkF SS Tryz.prog fidE 16 j16 = true := by kernel_rfl
theorem s16 : ∀ n, C16 SY (f16 n) :=
 fun n => fun a0 a5 a6 a7 a8 a9 aA aB aC Q R hQ h => spec_of_vc mxP k16 (w16 n (s11 n) (s35 n) (s31 n) a0 a5 a6 a7 a8 a9 aA aB aC Q R hQ h)
theorem k12 : chkF SS Tryz.prog fidE 12 j12 = true := by kernel_rfl
theorem s12 : C12 SY f12 :=
 fun a0 a5 a6 Q R hQ h => spec_of_vc mxP k12 (w12 a0 a5 a6 Q R hQ h)
theorem k17 : chkF SS Tryz.prog fidE 17 j17 = true := by kernel_rfl
theorem s17 : C17 SY f17 :=
 fun a0 a5 a6 Q R hQ h => spec_of_vc mxP k17 (w17 s12 a0 a5 a6 Q R hQ h)
theorem k1076 : chkF SS Tryz.prog fidE 1076 j1076 = true := by kernel_rfl
theorem s1076 : ∀ n, C1076 SY (f1076 n) :=
 fun n => fun a0 a5 Q R hQ h => spec_of_vc mxP k1076 (w1076 n s325 s1029 s30 (s11 n) (s1047 n) (s1061 n) s8 (s1077 n) (s16 n) s17 a0 a5 Q R hQ h)
end Go.Clap
