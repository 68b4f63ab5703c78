/- The checks of the small code against the loaded functions. -/
import Derived.Test.YtnjgakngmbbmfaaGreatDoorClapQA
import Derived.Test.YtnjgakngmbbmfaaGreatDoorClapHA
import Derived.Test.YtnjgakngmbbmfaaGreatDoorClapKF
namespace Go.Clap
theorem qmx : Proofs.Tryz.prog.follows .mixedOrders = true := by kernel_rfl
theorem q156b_more : C156b_more (SP Proofs.Tryz.prog fidF) f156b_more := c156b_more qmx k156b_more
theorem q157b_peek : C157b_peek (SP Proofs.Tryz.prog fidF) f157b_peek := c157b_peek qmx k157b_peek
theorem q114_IndexByte : C114_IndexByte (SP Proofs.Tryz.prog fidF) f114_IndexByte := c114_IndexByte qmx k114_IndexByte
theorem q91_IndexByte : C91_IndexByte (SP Proofs.Tryz.prog fidF) f91_IndexByte := c91_IndexByte qmx k91_IndexByte q114_IndexByte
theorem q178_add : C178_add (SP Proofs.Tryz.prog fidF) f178_add := c178_add qmx k178_add
theorem q110_add : C110_add (SP Proofs.Tryz.prog fidF) f110_add := c110_add qmx k110_add
theorem q110a_add : C110a_add (SP Proofs.Tryz.prog fidF) f110a_add := c110a_add qmx k110a_add
theorem q179_position : C179_position (SP Proofs.Tryz.prog fidF) f179_position := c179_position qmx k179_position q110_add q110a_add
theorem q180_single : C180_single (SP Proofs.Tryz.prog fidF) f180_single := c180_single qmx k180_single
theorem q176_turn : C176_turn (SP Proofs.Tryz.prog fidF) f176_turn := c176_turn qmx k176_turn
theorem q177_bytes : ∀ n, C177_bytes (SP Proofs.Tryz.prog fidF) (f177_bytes n) := c177_bytes qmx k177_bytes q178_add q156b_more q157b_peek q180_single q176_turn
theorem q140_has : C140_has (SP Proofs.Tryz.prog fidF) f140_has := c140_has qmx k140_has
theorem q141_join : C141_join (SP Proofs.Tryz.prog fidF) f141_join := c141_join qmx k141_join
theorem q169_link : C169_link (SP Proofs.Tryz.prog fidF) f169_link := c169_link qmx k169_link q140_has q141_join
theorem q141a_join : C141a_join (SP Proofs.Tryz.prog fidF) f141a_join := c141a_join qmx k141a_join
theorem q141b_join : C141b_join (SP Proofs.Tryz.prog fidF) f141b_join := c141b_join qmx k141b_join
theorem q138_alternatives : ∀ n, C138_alternatives (SP Proofs.Tryz.prog fidF) (f138_alternatives n) := c138_alternatives qmx k138_alternatives k155_sequence k168_item k173_atom q156b_more q157b_peek q141a_join q141b_join q169_link q91_IndexByte q178_add q179_position q177_bytes q176_turn
theorem q109_parse : ∀ n, C109_parse (SP Proofs.Tryz.prog fidF) (f109_parse n) := c109_parse qmx k109_parse q138_alternatives
theorem q110b_add : C110b_add (SP Proofs.Tryz.prog fidF) f110b_add := c110b_add qmx k110b_add
theorem q139_has : C139_has (SP Proofs.Tryz.prog fidF) f139_has := c139_has qmx k139_has
theorem q110c_add : C110c_add (SP Proofs.Tryz.prog fidF) f110c_add := c110c_add qmx k110c_add
theorem q111_at : C111_at (SP Proofs.Tryz.prog fidF) f111_at := c111_at qmx k111_at q139_has q110c_add
theorem q141c_join : C141c_join (SP Proofs.Tryz.prog fidF) f141c_join := c141c_join qmx k141c_join
theorem q112_behind : C112_behind (SP Proofs.Tryz.prog fidF) f112_behind := c112_behind qmx k112_behind q140_has q141c_join
theorem q113_ends : C113_ends (SP Proofs.Tryz.prog fidF) f113_ends := c113_ends qmx k113_ends q140_has
theorem q86_build : ∀ n, C86_build (SP Proofs.Tryz.prog fidF) (f86_build n) := c86_build qmx k86_build q109_parse q110b_add q111_at q112_behind q113_ends
theorem q160_Check : ∀ n, C160_Check (SP Proofs.Tryz.prog fidF) (f160_Check n) := c160_Check qmx k160_Check q86_build
theorem q52_order : C52_order (SP Proofs.Tryz.prog fidF) f52_order := c52_order qmx k52_order
theorem q59_isNaN : C59_isNaN (SP Proofs.Tryz.prog fidF) f59_isNaN := c59_isNaN qmx k59_isNaN
theorem q38_Compare : C38_Compare (SP Proofs.Tryz.prog fidF) f38_Compare := c38_Compare qmx k38_Compare q59_isNaN
theorem q78_CompareString : C78_CompareString (SP Proofs.Tryz.prog fidF) f78_CompareString := c78_CompareString qmx k78_CompareString
theorem q54_Compare : C54_Compare (SP Proofs.Tryz.prog fidF) f54_Compare := c54_Compare qmx k54_Compare q78_CompareString
theorem q53_Or : C53_Or (SP Proofs.Tryz.prog fidF) f53_Or := c53_Or qmx k53_Or
theorem q34_Cmp : ∀ n, C34_Cmp (SP Proofs.Tryz.prog fidF) (f34_Cmp n) := c34_Cmp qmx k34_Cmp k55_CompareFunc k56_1 q52_order q38_Compare q54_Compare q53_Or
theorem q11_Same : ∀ n, C11_Same (SP Proofs.Tryz.prog fidF) (f11_Same n) := c11_Same qmx k11_Same q34_Cmp
theorem q75_Size : ∀ n, C75_Size (SP Proofs.Tryz.prog fidF) (f75_Size n) := c75_Size qmx k75_Size
theorem q76_Deep : ∀ n, C76_Deep (SP Proofs.Tryz.prog fidF) (f76_Deep n) := c76_Deep qmx k76_Deep
theorem q127_Scalar : C127_Scalar (SP Proofs.Tryz.prog fidF) f127_Scalar := c127_Scalar qmx k127_Scalar
theorem q99_unused : C99_unused (SP Proofs.Tryz.prog fidF) f99_unused := c99_unused qmx k99_unused q127_Scalar
theorem q100_number : C100_number (SP Proofs.Tryz.prog fidF) f100_number := c100_number qmx k100_number
theorem q129_keys : C129_keys (SP Proofs.Tryz.prog fidF) f129_keys := c129_keys qmx k129_keys
theorem q132_Name : C132_Name (SP Proofs.Tryz.prog fidF) f132_Name := c132_Name qmx k132_Name
theorem q152_1 : C152_1 (SP Proofs.Tryz.prog fidF) f152_1 := c152_1 qmx k152_1
theorem q163_IndexFunc : C163_IndexFunc (SP Proofs.Tryz.prog fidF) f163_IndexFunc := c163_IndexFunc qmx k163_IndexFunc q152_1
theorem q151_ContainsFunc : C151_ContainsFunc (SP Proofs.Tryz.prog fidF) f151_ContainsFunc := c151_ContainsFunc qmx k151_ContainsFunc q163_IndexFunc
theorem q128_names : C128_names (SP Proofs.Tryz.prog fidF) f128_names := c128_names qmx k128_names q132_Name q151_ContainsFunc
theorem q101_fields : C101_fields (SP Proofs.Tryz.prog fidF) f101_fields := c101_fields qmx k101_fields q129_keys q128_names
theorem q77_node : ∀ n, C77_node (SP Proofs.Tryz.prog fidF) (f77_node n) := c77_node qmx k77_node q99_unused q100_number q101_fields
theorem q51_Check : ∀ n, C51_Check (SP Proofs.Tryz.prog fidF) (f51_Check n) := c51_Check qmx k51_Check q75_Size q76_Deep q77_node
theorem q94_Size : ∀ n, C94_Size (SP Proofs.Tryz.prog fidF) (f94_Size n) := c94_Size qmx k94_Size
theorem q95_Deep : ∀ n, C95_Deep (SP Proofs.Tryz.prog fidF) (f95_Deep n) := c95_Deep qmx k95_Deep
theorem q144_table : C144_table (SP Proofs.Tryz.prog fidF) f144_table := c144_table qmx k144_table
theorem q158_Plain : C158_Plain (SP Proofs.Tryz.prog fidF) f158_Plain := c158_Plain qmx k158_Plain
theorem q161_pairs : ∀ n, C161_pairs (SP Proofs.Tryz.prog fidF) (f161_pairs n) := c161_pairs qmx k161_pairs q11_Same q51_Check q158_Plain
theorem q174_Index : C174_Index (SP Proofs.Tryz.prog fidF) f174_Index := c174_Index qmx k174_Index
theorem q170_Contains : C170_Contains (SP Proofs.Tryz.prog fidF) f170_Contains := c170_Contains qmx k170_Contains q174_Index
theorem q159_names : C159_names (SP Proofs.Tryz.prog fidF) f159_names := c159_names qmx k159_names q132_Name q170_Contains
theorem q145_special : ∀ n, C145_special (SP Proofs.Tryz.prog fidF) (f145_special n) := c145_special qmx k145_special q160_Check q161_pairs q158_Plain q159_names
theorem q116_Node : ∀ n, C116_Node (SP Proofs.Tryz.prog fidF) (f116_Node n) := c116_Node qmx k116_Node q11_Same q51_Check q132_Name q144_table q145_special
theorem q96_walk : ∀ n, C96_walk (SP Proofs.Tryz.prog fidF) (f96_walk n) := c96_walk qmx k96_walk q116_Node
theorem q70_Check : ∀ n, C70_Check (SP Proofs.Tryz.prog fidF) (f70_Check n) := c70_Check qmx k70_Check q94_Size q95_Deep q96_walk
theorem q1006_quote : C1006_quote (SP Proofs.Tryz.prog fidF) f1006_quote := c1006_quote qmx k1006_quote
theorem q1007_unquote : ∀ n, C1007_unquote (SP Proofs.Tryz.prog fidF) (f1007_unquote n) := c1007_unquote qmx k1007_unquote q91_IndexByte q1006_quote
theorem q1016_Index : C1016_Index (SP Proofs.Tryz.prog fidF) f1016_Index := c1016_Index qmx k1016_Index q114_IndexByte
theorem q1015_Cut : C1015_Cut (SP Proofs.Tryz.prog fidF) f1015_Cut := c1015_Cut qmx k1015_Cut q1016_Index
theorem q1014_Cut : C1014_Cut (SP Proofs.Tryz.prog fidF) f1014_Cut := c1014_Cut qmx k1014_Cut q1015_Cut
theorem q1082_lower : C1082_lower (SP Proofs.Tryz.prog fidF) f1082_lower := c1082_lower qmx k1082_lower
theorem q1081_ParseUint : C1081_ParseUint (SP Proofs.Tryz.prog fidF) f1081_ParseUint := c1081_ParseUint qmx k1081_ParseUint q1082_lower
theorem q1080_ParseInt : C1080_ParseInt (SP Proofs.Tryz.prog fidF) f1080_ParseInt := c1080_ParseInt qmx k1080_ParseInt q1081_ParseUint
theorem q1027_Atoi : C1027_Atoi (SP Proofs.Tryz.prog fidF) f1027_Atoi := c1027_Atoi qmx k1027_Atoi q1080_ParseInt
theorem q1084_rangeError : C1084_rangeError (SP Proofs.Tryz.prog fidF) f1084_rangeError := c1084_rangeError qmx k1084_rangeError spec_clone
theorem q1086_syntaxError : C1086_syntaxError (SP Proofs.Tryz.prog fidF) f1086_syntaxError := c1086_syntaxError qmx k1086_syntaxError spec_clone
theorem q1083_toError : C1083_toError (SP Proofs.Tryz.prog fidF) f1083_toError := c1083_toError qmx k1083_toError q1084_rangeError q1086_syntaxError
theorem q1026_Atoi : C1026_Atoi (SP Proofs.Tryz.prog fidF) f1026_Atoi := c1026_Atoi qmx k1026_Atoi q1027_Atoi q1083_toError
theorem q1088_ParseUint : C1088_ParseUint (SP Proofs.Tryz.prog fidF) f1088_ParseUint := c1088_ParseUint qmx k1088_ParseUint q1081_ParseUint q1083_toError
theorem q1013_peek : C1013_peek (SP Proofs.Tryz.prog fidF) f1013_peek := c1013_peek qmx k1013_peek q1014_Cut
theorem q1090_1 : C1090_1 (SP Proofs.Tryz.prog fidF) f1090_1 := c1090_1 qmx k1090_1
theorem q1012a_take : C1012a_take (SP Proofs.Tryz.prog fidF) f1012a_take := c1012a_take qmx k1012a_take q1013_peek q1090_1
theorem q1089_any : C1089_any (SP Proofs.Tryz.prog fidF) f1089_any := c1089_any qmx k1089_any q1012a_take
theorem q1092_1 : C1092_1 (SP Proofs.Tryz.prog fidF) f1092_1 := c1092_1 qmx k1092_1 q1026_Atoi spec_itoa
theorem q1012b_take : C1012b_take (SP Proofs.Tryz.prog fidF) f1012b_take := c1012b_take qmx k1012b_take q1013_peek q1092_1
theorem q1091_number : C1091_number (SP Proofs.Tryz.prog fidF) f1091_number := c1091_number qmx k1091_number q1012b_take
theorem q1019_word : C1019_word (SP Proofs.Tryz.prog fidF) f1019_word := c1019_word qmx k1019_word
theorem q1011a_1 : C1011a_1 (SP Proofs.Tryz.prog fidF) f1011a_1 := c1011a_1 qmx k1011a_1 q1019_word
theorem q1012d_take : C1012d_take (SP Proofs.Tryz.prog fidF) f1012d_take := c1012d_take qmx k1012d_take q1013_peek q1011a_1
theorem q1095_1 : C1095_1 (SP Proofs.Tryz.prog fidF) f1095_1 := c1095_1 qmx k1095_1
theorem q1012c_take : C1012c_take (SP Proofs.Tryz.prog fidF) f1012c_take := c1012c_take qmx k1012c_take q1013_peek q1095_1
theorem q1094_must : C1094_must (SP Proofs.Tryz.prog fidF) f1094_must := c1094_must qmx k1094_must q1012c_take
theorem q1096_is : C1096_is (SP Proofs.Tryz.prog fidF) f1096_is := c1096_is qmx k1096_is q1013_peek
theorem q1098_1 : ∀ n, C1098_1 (SP Proofs.Tryz.prog fidF) (f1098_1 n) := c1098_1 qmx k1098_1 q1007_unquote
theorem q1012e_take : ∀ n, C1012e_take (SP Proofs.Tryz.prog fidF) (f1012e_take n) := c1012e_take qmx k1012e_take q1013_peek q1098_1
theorem q1097_quoted : ∀ n, C1097_quoted (SP Proofs.Tryz.prog fidF) (f1097_quoted n) := c1097_quoted qmx k1097_quoted q1012e_take
theorem q1008_kindOf : C1008_kindOf (SP Proofs.Tryz.prog fidF) f1008_kindOf := c1008_kindOf qmx k1008_kindOf
theorem q1100_1 : C1100_1 (SP Proofs.Tryz.prog fidF) f1100_1 := c1100_1 qmx k1100_1 q1008_kindOf
theorem q1012f_take : C1012f_take (SP Proofs.Tryz.prog fidF) f1012f_take := c1012f_take qmx k1012f_take q1013_peek q1100_1
theorem q1102_2 : C1102_2 (SP Proofs.Tryz.prog fidF) f1102_2 := c1102_2 qmx k1102_2 q1088_ParseUint spec_trim
theorem q1012g_take : C1012g_take (SP Proofs.Tryz.prog fidF) f1012g_take := c1012g_take qmx k1012g_take q1013_peek q1102_2
theorem q1099_value : ∀ n, C1099_value (SP Proofs.Tryz.prog fidF) (f1099_value n) := c1099_value qmx k1099_value k1101_field q1091_number q1094_must q1096_is q1097_quoted q1012f_take q1008_kindOf q1012g_take q1089_any
theorem q1010_lens : ∀ n, C1010_lens (SP Proofs.Tryz.prog fidF) (f1010_lens n) := c1010_lens qmx k1010_lens k1093_rest q144_table q1089_any q1091_number q1012d_take q1094_must q1096_is q1097_quoted q1099_value
theorem q1009_Read : ∀ n, C1009_Read (SP Proofs.Tryz.prog fidF) (f1009_Read n) := c1009_Read qmx k1009_Read q70_Check q1010_lens
theorem q1005_put : C1005_put (SP Proofs.Tryz.prog fidF) f1005_put := c1005_put qmx k1005_put
theorem q1005a_put : C1005a_put (SP Proofs.Tryz.prog fidF) f1005a_put := c1005a_put qmx k1005a_put
theorem q1104_value : ∀ n, C1104_value (SP Proofs.Tryz.prog fidF) (f1104_value n) := c1104_value qmx k1104_value q1006_quote spec_itoa q1005a_put
theorem q1103_rest : ∀ n, C1103_rest (SP Proofs.Tryz.prog fidF) (f1103_rest n) := c1103_rest qmx k1103_rest k1018a_lens q1006_quote q1005a_put q1104_value q144_table q1019_word spec_itoa
theorem q1018_lens : ∀ n, C1018_lens (SP Proofs.Tryz.prog fidF) (f1018_lens n) := c1018_lens qmx k1018_lens q144_table q1019_word spec_itoa q1005_put q1005a_put q1103_rest
theorem q1017_Text : ∀ n, C1017_Text (SP Proofs.Tryz.prog fidF) (f1017_Text n) := c1017_Text qmx k1017_Text q70_Check q1018_lens
theorem q44_num : C44_num (SP Proofs.Tryz.prog fidF) f44_num := c44_num qmx k44_num
theorem q325_drop : C325_drop (SP Proofs.Tryz.prog fidF) f325_drop := c325_drop qmx k325_drop q44_num
theorem q1001_Equal : C1001_Equal (SP Proofs.Tryz.prog fidF) f1001_Equal := c1001_Equal qmx k1001_Equal
theorem q1002_samePair : ∀ n, C1002_samePair (SP Proofs.Tryz.prog fidF) (f1002_samePair n) := c1002_samePair qmx k1002_samePair q11_Same
theorem q1003_EqualFunc : ∀ n, C1003_EqualFunc (SP Proofs.Tryz.prog fidF) (f1003_EqualFunc n) := c1003_EqualFunc qmx k1003_EqualFunc q1002_samePair
theorem q1000_Equal : ∀ n, C1000_Equal (SP Proofs.Tryz.prog fidF) (f1000_Equal n) := c1000_Equal qmx k1000_Equal k1004_EqualFunc q11_Same q1001_Equal q1003_EqualFunc
theorem q1105_LensTextFixed : ∀ n, C1105_LensTextFixed (SP Proofs.Tryz.prog fidF) (f1105_LensTextFixed n) := c1105_LensTextFixed qmx k1105_LensTextFixed q1009_Read q1017_Text q325_drop q1000_Equal
#check @q1105_LensTextFixed
end Go.Clap

namespace Go.Clap
theorem fixed_spec (s : ByteArray) : Spec SS Proofs.Tryz.prog fidF 1105 [.c (.str s)] [] fun d _ => d = .c (.bool true) :=
 q1105_LensTextFixed 6000 s (fun q => q = true) _ (by intro q h; subst h; rfl) (fixed_law s)
end Go.Clap
