/- The checks of the small code against the loaded functions. -/
import Derived.Test.YtnjgakngmbbmfaaGreatDoorProg
import Derived.Test.YtnjgakngmbbmfaaGreatDoorClapY9
import Derived.Test.YtnjgakngmbbmfaaGreatDoorClapA3
import Derived.KernelRfl
import Derived.Test.YtnjgakngmbbmfaaGreatDoorClapA5
import Derived.Test.YtnjgakngmbbmfaaGreatDoorClapA7
import Derived.Test.YtnjgakngmbbmfaaGreatDoorClapJ1
import Derived.Test.YtnjgakngmbbmfaaGreatDoorClapJ2
import Derived.Test.YtnjgakngmbbmfaaGreatDoorClapJ3
import Derived.Test.YtnjgakngmbbmfaaGreatDoorClapJ4
set_option maxRecDepth 100000
namespace Go.Clap
theorem k156b_more : chkF SS Proofs.Tryz.prog fidF 156 j156b_more = true := by kernel_rfl
theorem k157b_peek : chkF SS Proofs.Tryz.prog fidF 157 j157b_peek = true := by kernel_rfl
theorem k114_IndexByte : chkF SS Proofs.Tryz.prog fidF 114 j114_IndexByte = true := by kernel_rfl
theorem k91_IndexByte : chkF SS Proofs.Tryz.prog fidF 91 j91_IndexByte = true := by kernel_rfl
theorem k178_add : chkF SS Proofs.Tryz.prog fidF 178 j178_add = true := by kernel_rfl
theorem k110_add : chkF SS Proofs.Tryz.prog fidF 110 j110_add = true := by kernel_rfl
theorem k110a_add : chkF SS Proofs.Tryz.prog fidF 110 j110a_add = true := by kernel_rfl
theorem k179_position : chkF SS Proofs.Tryz.prog fidF 179 j179_position = true := by kernel_rfl
theorem k180_single : chkF SS Proofs.Tryz.prog fidF 180 j180_single = true := by kernel_rfl
theorem k176_turn : chkF SS Proofs.Tryz.prog fidF 176 j176_turn = true := by kernel_rfl
theorem k177_bytes : chkF SS Proofs.Tryz.prog fidF 177 j177_bytes = true := by kernel_rfl
theorem k140_has : chkF SS Proofs.Tryz.prog fidF 140 j140_has = true := by kernel_rfl
theorem k141_join : chkF SS Proofs.Tryz.prog fidF 141 j141_join = true := by kernel_rfl
theorem k169_link : chkF SS Proofs.Tryz.prog fidF 169 j169_link = true := by kernel_rfl
theorem k141a_join : chkF SS Proofs.Tryz.prog fidF 141 j141a_join = true := by kernel_rfl
theorem k141b_join : chkF SS Proofs.Tryz.prog fidF 141 j141b_join = true := by kernel_rfl
theorem k138_alternatives : chkF SS Proofs.Tryz.prog fidF 138 j138_alternatives = true := by kernel_rfl
theorem k155_sequence : chkF SS Proofs.Tryz.prog fidF 155 j155_sequence = true := by kernel_rfl
theorem k168_item : chkF SS Proofs.Tryz.prog fidF 168 j168_item = true := by kernel_rfl
theorem k173_atom : chkF SS Proofs.Tryz.prog fidF 173 j173_atom = true := by kernel_rfl
theorem k109_parse : chkF SS Proofs.Tryz.prog fidF 109 j109_parse = true := by kernel_rfl
theorem k110b_add : chkF SS Proofs.Tryz.prog fidF 110 j110b_add = true := by kernel_rfl
theorem k139_has : chkF SS Proofs.Tryz.prog fidF 139 j139_has = true := by kernel_rfl
theorem k110c_add : chkF SS Proofs.Tryz.prog fidF 110 j110c_add = true := by kernel_rfl
theorem k111_at : chkF SS Proofs.Tryz.prog fidF 111 j111_at = true := by kernel_rfl
theorem k141c_join : chkF SS Proofs.Tryz.prog fidF 141 j141c_join = true := by kernel_rfl
theorem k112_behind : chkF SS Proofs.Tryz.prog fidF 112 j112_behind = true := by kernel_rfl
theorem k113_ends : chkF SS Proofs.Tryz.prog fidF 113 j113_ends = true := by kernel_rfl
theorem k86_build : chkF SS Proofs.Tryz.prog fidF 86 j86_build = true := by kernel_rfl
theorem k160_Check : chkF SS Proofs.Tryz.prog fidF 160 j160_Check = true := by kernel_rfl
end Go.Clap

set_option maxRecDepth 100000
namespace Go.Clap
theorem k52_order : chkF SS Proofs.Tryz.prog fidF 52 j52_order = true := by kernel_rfl
theorem k59_isNaN : chkF SS Proofs.Tryz.prog fidF 59 j59_isNaN = true := by kernel_rfl
theorem k38_Compare : chkF SS Proofs.Tryz.prog fidF 38 j38_Compare = true := by kernel_rfl
theorem k78_CompareString : chkF SS Proofs.Tryz.prog fidF 78 j78_CompareString = true := by kernel_rfl
theorem k54_Compare : chkF SS Proofs.Tryz.prog fidF 54 j54_Compare = true := by kernel_rfl
theorem k53_Or : chkF SS Proofs.Tryz.prog fidF 53 j53_Or = true := by kernel_rfl
theorem k34_Cmp : chkF SS Proofs.Tryz.prog fidF 34 j34_Cmp = true := by kernel_rfl
theorem k55_CompareFunc : chkF SS Proofs.Tryz.prog fidF 55 j55_CompareFunc = true := by kernel_rfl
theorem k56_1 : chkF SS Proofs.Tryz.prog fidF 56 j56_1 = true := by kernel_rfl
theorem k11_Same : chkF SS Proofs.Tryz.prog fidF 11 j11_Same = true := by kernel_rfl
theorem k75_Size : chkF SS Proofs.Tryz.prog fidF 75 j75_Size = true := by kernel_rfl
theorem k76_Deep : chkF SS Proofs.Tryz.prog fidF 76 j76_Deep = true := by kernel_rfl
theorem k127_Scalar : chkF SS Proofs.Tryz.prog fidF 127 j127_Scalar = true := by kernel_rfl
theorem k99_unused : chkF SS Proofs.Tryz.prog fidF 99 j99_unused = true := by kernel_rfl
theorem k100_number : chkF SS Proofs.Tryz.prog fidF 100 j100_number = true := by kernel_rfl
theorem k129_keys : chkF SS Proofs.Tryz.prog fidF 129 j129_keys = true := by kernel_rfl
theorem k132_Name : chkF SS Proofs.Tryz.prog fidF 132 j132_Name = true := by kernel_rfl
theorem k152_1 : chkF SS Proofs.Tryz.prog fidF 152 j152_1 = true := by kernel_rfl
theorem k163_IndexFunc : chkF SS Proofs.Tryz.prog fidF 163 j163_IndexFunc = true := by kernel_rfl
theorem k151_ContainsFunc : chkF SS Proofs.Tryz.prog fidF 151 j151_ContainsFunc = true := by kernel_rfl
theorem k128_names : chkF SS Proofs.Tryz.prog fidF 128 j128_names = true := by kernel_rfl
theorem k101_fields : chkF SS Proofs.Tryz.prog fidF 101 j101_fields = true := by kernel_rfl
theorem k77_node : chkF SS Proofs.Tryz.prog fidF 77 j77_node = true := by kernel_rfl
theorem k51_Check : chkF SS Proofs.Tryz.prog fidF 51 j51_Check = true := by kernel_rfl
end Go.Clap

set_option maxRecDepth 100000
namespace Go.Clap
theorem k94_Size : chkF SS Proofs.Tryz.prog fidF 94 j94_Size = true := by kernel_rfl
theorem k95_Deep : chkF SS Proofs.Tryz.prog fidF 95 j95_Deep = true := by kernel_rfl
theorem k144_table : chkF SS Proofs.Tryz.prog fidF 144 j144_table = true := by kernel_rfl
theorem k158_Plain : chkF SS Proofs.Tryz.prog fidF 158 j158_Plain = true := by kernel_rfl
theorem k161_pairs : chkF SS Proofs.Tryz.prog fidF 161 j161_pairs = true := by kernel_rfl
theorem k174_Index : chkF SS Proofs.Tryz.prog fidF 174 j174_Index = true := by kernel_rfl
theorem k170_Contains : chkF SS Proofs.Tryz.prog fidF 170 j170_Contains = true := by kernel_rfl
theorem k159_names : chkF SS Proofs.Tryz.prog fidF 159 j159_names = true := by kernel_rfl
theorem k145_special : chkF SS Proofs.Tryz.prog fidF 145 j145_special = true := by kernel_rfl
theorem k116_Node : chkF SS Proofs.Tryz.prog fidF 116 j116_Node = true := by kernel_rfl
theorem k96_walk : chkF SS Proofs.Tryz.prog fidF 96 j96_walk = true := by kernel_rfl
theorem k70_Check : chkF SS Proofs.Tryz.prog fidF 70 j70_Check = true := by kernel_rfl
end Go.Clap

set_option maxRecDepth 100000
namespace Go.Clap
theorem k1006_quote : chkF SS Proofs.Tryz.prog fidF 1006 j1006_quote = true := by kernel_rfl
theorem k1007_unquote : chkF SS Proofs.Tryz.prog fidF 1007 j1007_unquote = true := by kernel_rfl
theorem k1016_Index : chkF SS Proofs.Tryz.prog fidF 1016 j1016_Index = true := by kernel_rfl
theorem k1015_Cut : chkF SS Proofs.Tryz.prog fidF 1015 j1015_Cut = true := by kernel_rfl
theorem k1014_Cut : chkF SS Proofs.Tryz.prog fidF 1014 j1014_Cut = true := by kernel_rfl
theorem k1082_lower : chkF SS Proofs.Tryz.prog fidF 1082 j1082_lower = true := by kernel_rfl
theorem k1081_ParseUint : chkF SS Proofs.Tryz.prog fidF 1081 j1081_ParseUint = true := by kernel_rfl
theorem k1080_ParseInt : chkF SS Proofs.Tryz.prog fidF 1080 j1080_ParseInt = true := by kernel_rfl
theorem k1027_Atoi : chkF SS Proofs.Tryz.prog fidF 1027 j1027_Atoi = true := by kernel_rfl
theorem k1084_rangeError : chkF SS Proofs.Tryz.prog fidF 1084 j1084_rangeError = true := by kernel_rfl
theorem k1086_syntaxError : chkF SS Proofs.Tryz.prog fidF 1086 j1086_syntaxError = true := by kernel_rfl
theorem k1083_toError : chkF SS Proofs.Tryz.prog fidF 1083 j1083_toError = true := by kernel_rfl
theorem k1026_Atoi : chkF SS Proofs.Tryz.prog fidF 1026 j1026_Atoi = true := by kernel_rfl
theorem k1088_ParseUint : chkF SS Proofs.Tryz.prog fidF 1088 j1088_ParseUint = true := by kernel_rfl
end Go.Clap

set_option maxRecDepth 100000
namespace Go.Clap
theorem k1013_peek : chkF SS Proofs.Tryz.prog fidF 1013 j1013_peek = true := by kernel_rfl
theorem k1090_1 : chkF SS Proofs.Tryz.prog fidF 1090 j1090_1 = true := by kernel_rfl
theorem k1012a_take : chkF SS Proofs.Tryz.prog fidF 1012 j1012a_take = true := by kernel_rfl
theorem k1089_any : chkF SS Proofs.Tryz.prog fidF 1089 j1089_any = true := by kernel_rfl
theorem k1092_1 : chkF SS Proofs.Tryz.prog fidF 1092 j1092_1 = true := by kernel_rfl
theorem k1012b_take : chkF SS Proofs.Tryz.prog fidF 1012 j1012b_take = true := by kernel_rfl
theorem k1091_number : chkF SS Proofs.Tryz.prog fidF 1091 j1091_number = true := by kernel_rfl
theorem k1019_word : chkF SS Proofs.Tryz.prog fidF 1019 j1019_word = true := by kernel_rfl
theorem k1011a_1 : chkF SS Proofs.Tryz.prog fidF 1011 j1011a_1 = true := by kernel_rfl
theorem k1012d_take : chkF SS Proofs.Tryz.prog fidF 1012 j1012d_take = true := by kernel_rfl
theorem k1095_1 : chkF SS Proofs.Tryz.prog fidF 1095 j1095_1 = true := by kernel_rfl
theorem k1012c_take : chkF SS Proofs.Tryz.prog fidF 1012 j1012c_take = true := by kernel_rfl
theorem k1094_must : chkF SS Proofs.Tryz.prog fidF 1094 j1094_must = true := by kernel_rfl
theorem k1096_is : chkF SS Proofs.Tryz.prog fidF 1096 j1096_is = true := by kernel_rfl
theorem k1098_1 : chkF SS Proofs.Tryz.prog fidF 1098 j1098_1 = true := by kernel_rfl
theorem k1012e_take : chkF SS Proofs.Tryz.prog fidF 1012 j1012e_take = true := by kernel_rfl
theorem k1097_quoted : chkF SS Proofs.Tryz.prog fidF 1097 j1097_quoted = true := by kernel_rfl
theorem k1008_kindOf : chkF SS Proofs.Tryz.prog fidF 1008 j1008_kindOf = true := by kernel_rfl
theorem k1100_1 : chkF SS Proofs.Tryz.prog fidF 1100 j1100_1 = true := by kernel_rfl
theorem k1012f_take : chkF SS Proofs.Tryz.prog fidF 1012 j1012f_take = true := by kernel_rfl
theorem k1102_2 : chkF SS Proofs.Tryz.prog fidF 1102 j1102_2 = true := by kernel_rfl
theorem k1012g_take : chkF SS Proofs.Tryz.prog fidF 1012 j1012g_take = true := by kernel_rfl
theorem k1099_value : chkF SS Proofs.Tryz.prog fidF 1099 j1099_value = true := by kernel_rfl
theorem k1101_field : chkF SS Proofs.Tryz.prog fidF 1101 j1101_field = true := by kernel_rfl
theorem k1010_lens : chkF SS Proofs.Tryz.prog fidF 1010 j1010_lens = true := by kernel_rfl
theorem k1093_rest : chkF SS Proofs.Tryz.prog fidF 1093 j1093_rest = true := by kernel_rfl
theorem k1009_Read : chkF SS Proofs.Tryz.prog fidF 1009 j1009_Read = true := by kernel_rfl
end Go.Clap

set_option maxRecDepth 100000
namespace Go.Clap
theorem k1005_put : chkF SS Proofs.Tryz.prog fidF 1005 j1005_put = true := by kernel_rfl
theorem k1005a_put : chkF SS Proofs.Tryz.prog fidF 1005 j1005a_put = true := by kernel_rfl
theorem k1104_value : chkF SS Proofs.Tryz.prog fidF 1104 j1104_value = true := by kernel_rfl
theorem k1103_rest : chkF SS Proofs.Tryz.prog fidF 1103 j1103_rest = true := by kernel_rfl
theorem k1018a_lens : chkF SS Proofs.Tryz.prog fidF 1018 j1018a_lens = true := by kernel_rfl
theorem k1018_lens : chkF SS Proofs.Tryz.prog fidF 1018 j1018_lens = true := by kernel_rfl
theorem k1017_Text : chkF SS Proofs.Tryz.prog fidF 1017 j1017_Text = true := by kernel_rfl
end Go.Clap

set_option maxRecDepth 100000
namespace Go.Clap
theorem k44_num : chkF SS Proofs.Tryz.prog fidF 44 j44_num = true := by kernel_rfl
theorem k325_drop : chkF SS Proofs.Tryz.prog fidF 325 j325_drop = true := by kernel_rfl
theorem k1001_Equal : chkF SS Proofs.Tryz.prog fidF 1001 j1001_Equal = true := by kernel_rfl
theorem k1002_samePair : chkF SS Proofs.Tryz.prog fidF 1002 j1002_samePair = true := by kernel_rfl
theorem k1003_EqualFunc : chkF SS Proofs.Tryz.prog fidF 1003 j1003_EqualFunc = true := by kernel_rfl
theorem k1000_Equal : chkF SS Proofs.Tryz.prog fidF 1000 j1000_Equal = true := by kernel_rfl
theorem k1004_EqualFunc : chkF SS Proofs.Tryz.prog fidF 1004 j1004_EqualFunc = true := by kernel_rfl
theorem k1105_LensTextFixed : chkF SS Proofs.Tryz.prog fidF 1105 j1105_LensTextFixed = true := by kernel_rfl
end Go.Clap
