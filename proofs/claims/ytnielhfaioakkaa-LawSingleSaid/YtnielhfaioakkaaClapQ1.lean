/- The checks of the small code against the loaded functions. -/
import Derived.Test.YtnielhfaioakkaaClapQ0
import Derived.Test.YtnielhfaioakkaaClapK3
set_option maxRecDepth 1000000
namespace Go.Clap
open Go Go.Proofs
theorem mxP : Try.prog.follows .mixedOrders = true := by kernel_rfl
theorem k26_Below : chkF SS Try.prog id 26 j26_Below = true := by kernel_rfl
theorem s26_Below : C26_Below (SP Try.prog id) f26_Below := c26_Below mxP k26_Below
theorem k15_Next : chkF SS Try.prog id 15 j15_Next = true := by kernel_rfl
theorem s15_Next : C15_Next (SP Try.prog id) f15_Next := c15_Next mxP k15_Next s26_Below
theorem k39_option : chkF SS Try.prog id 39 j39_option = true := by kernel_rfl
theorem s39_option : C39_option (SP Try.prog id) f39_option := c39_option mxP k39_option
theorem k40_pick : chkF SS Try.prog id 40 j40_pick = true := by kernel_rfl
theorem s40_pick : C40_pick (SP Try.prog id) f40_pick := c40_pick mxP k40_pick s15_Next
theorem k21_Schema : chkF SS Try.prog id 21 j21_Schema = true := by kernel_rfl
theorem s21_Schema : C21_Schema (SP Try.prog id) f21_Schema := c21_Schema mxP k21_Schema s15_Next s39_option s40_pick
theorem k62_fieldName : chkF SS Try.prog id 62 j62_fieldName = true := by kernel_rfl
theorem s62_fieldName : C62_fieldName (SP Try.prog id) f62_fieldName := c62_fieldName mxP k62_fieldName s26_Below
theorem k61_pick : chkF SS Try.prog id 61 j61_pick = true := by kernel_rfl
theorem s61_pick : C61_pick (SP Try.prog id) f61_pick := c61_pick mxP k61_pick s15_Next
theorem k60_pick : chkF SS Try.prog id 60 j60_pick = true := by kernel_rfl
theorem s60_pick : C60_pick (SP Try.prog id) f60_pick := c60_pick mxP k60_pick s15_Next
theorem k41_typ : chkF SS Try.prog id 41 j41_typ = true := by kernel_rfl
theorem s41_typ : ∀ n, C41_typ (SP Try.prog id) (f41_typ n) := c41_typ mxP k41_typ s15_Next s39_option s40_pick s62_fieldName s61_pick s60_pick
theorem k22_Type : chkF SS Try.prog id 22 j22_Type = true := by kernel_rfl
theorem s22_Type : ∀ n, C22_Type (SP Try.prog id) (f22_Type n) := c22_Type mxP k22_Type s41_typ
theorem k63_Resolve : chkF SS Try.prog id 63 j63_Resolve = true := by kernel_rfl
theorem s63_Resolve : C63_Resolve (SP Try.prog id) f63_Resolve := c63_Resolve mxP k63_Resolve
theorem k164_byte : chkF SS Try.prog id 164 j164_byte = true := by kernel_rfl
theorem s164_byte : C164_byte (SP Try.prog id) f164_byte := c164_byte mxP k164_byte
theorem k153_class : chkF SS Try.prog id 153 j153_class = true := by kernel_rfl
theorem s153_class : ∀ n, C153_class (SP Try.prog id) (f153_class n) := c153_class mxP k153_class s15_Next s164_byte
theorem k82_alternatives : chkF SS Try.prog id 82 j82_alternatives = true := by kernel_rfl
theorem k104_sequence : chkF SS Try.prog id 104 j104_sequence = true := by kernel_rfl
theorem k131_item : chkF SS Try.prog id 131 j131_item = true := by kernel_rfl
theorem s82_alternatives : ∀ n, C82_alternatives (SP Try.prog id) (f82_alternatives n) := c82_alternatives mxP k82_alternatives k104_sequence k131_item s15_Next s61_pick s153_class
theorem k65_Sample : chkF SS Try.prog id 65 j65_Sample = true := by kernel_rfl
theorem s65_Sample : ∀ n, C65_Sample (SP Try.prog id) (f65_Sample n) := c65_Sample mxP k65_Sample s82_alternatives
theorem k64_scalar : chkF SS Try.prog id 64 j64_scalar = true := by kernel_rfl
theorem s64_scalar : C64_scalar (SP Try.prog id) f64_scalar := c64_scalar mxP k64_scalar s15_Next s61_pick s60_pick
theorem k42_val : chkF SS Try.prog id 42 j42_val = true := by kernel_rfl
theorem s42_val : ∀ n, C42_val (SP Try.prog id) (f42_val n) := c42_val mxP k42_val s15_Next s63_Resolve s65_Sample s64_scalar
theorem k108_Clone : chkF SS Try.prog id 108 j108_Clone = true := by kernel_rfl
theorem s108_Clone : C108_Clone (SP Try.prog id) f108_Clone := c108_Clone mxP k108_Clone
theorem k85_Copy : chkF SS Try.prog id 85 j85_Copy = true := by kernel_rfl
theorem s85_Copy : ∀ n, C85_Copy (SP Try.prog id) (f85_Copy n) := c85_Copy mxP k85_Copy s108_Clone
theorem k156b_more : chkF SS Try.prog id 156 j156b_more = true := by kernel_rfl
theorem s156b_more : C156b_more (SP Try.prog id) f156b_more := c156b_more mxP k156b_more
theorem k157b_peek : chkF SS Try.prog id 157 j157b_peek = true := by kernel_rfl
theorem s157b_peek : C157b_peek (SP Try.prog id) f157b_peek := c157b_peek mxP k157b_peek
theorem k114_IndexByte : chkF SS Try.prog id 114 j114_IndexByte = true := by kernel_rfl
theorem s114_IndexByte : C114_IndexByte (SP Try.prog id) f114_IndexByte := c114_IndexByte mxP k114_IndexByte
theorem k91_IndexByte : chkF SS Try.prog id 91 j91_IndexByte = true := by kernel_rfl
theorem s91_IndexByte : C91_IndexByte (SP Try.prog id) f91_IndexByte := c91_IndexByte mxP k91_IndexByte s114_IndexByte
theorem k178_add : chkF SS Try.prog id 178 j178_add = true := by kernel_rfl
theorem s178_add : C178_add (SP Try.prog id) f178_add := c178_add mxP k178_add
theorem k110_add : chkF SS Try.prog id 110 j110_add = true := by kernel_rfl
theorem s110_add : C110_add (SP Try.prog id) f110_add := c110_add mxP k110_add
theorem k110a_add : chkF SS Try.prog id 110 j110a_add = true := by kernel_rfl
theorem s110a_add : C110a_add (SP Try.prog id) f110a_add := c110a_add mxP k110a_add
theorem k179_position : chkF SS Try.prog id 179 j179_position = true := by kernel_rfl
theorem s179_position : C179_position (SP Try.prog id) f179_position := c179_position mxP k179_position s110_add s110a_add
theorem k180_single : chkF SS Try.prog id 180 j180_single = true := by kernel_rfl
theorem s180_single : C180_single (SP Try.prog id) f180_single := c180_single mxP k180_single
theorem k176_turn : chkF SS Try.prog id 176 j176_turn = true := by kernel_rfl
theorem s176_turn : C176_turn (SP Try.prog id) f176_turn := c176_turn mxP k176_turn
theorem k177_bytes : chkF SS Try.prog id 177 j177_bytes = true := by kernel_rfl
theorem s177_bytes : ∀ n, C177_bytes (SP Try.prog id) (f177_bytes n) := c177_bytes mxP k177_bytes s178_add s156b_more s157b_peek s180_single s176_turn
theorem k140_has : chkF SS Try.prog id 140 j140_has = true := by kernel_rfl
theorem s140_has : C140_has (SP Try.prog id) f140_has := c140_has mxP k140_has
theorem k141_join : chkF SS Try.prog id 141 j141_join = true := by kernel_rfl
theorem s141_join : C141_join (SP Try.prog id) f141_join := c141_join mxP k141_join
theorem k169_link : chkF SS Try.prog id 169 j169_link = true := by kernel_rfl
theorem s169_link : C169_link (SP Try.prog id) f169_link := c169_link mxP k169_link s140_has s141_join
theorem k141a_join : chkF SS Try.prog id 141 j141a_join = true := by kernel_rfl
theorem s141a_join : C141a_join (SP Try.prog id) f141a_join := c141a_join mxP k141a_join
theorem k141b_join : chkF SS Try.prog id 141 j141b_join = true := by kernel_rfl
theorem s141b_join : C141b_join (SP Try.prog id) f141b_join := c141b_join mxP k141b_join
theorem k138_alternatives : chkF SS Try.prog id 138 j138_alternatives = true := by kernel_rfl
theorem k155_sequence : chkF SS Try.prog id 155 j155_sequence = true := by kernel_rfl
theorem k168_item : chkF SS Try.prog id 168 j168_item = true := by kernel_rfl
theorem k173_atom : chkF SS Try.prog id 173 j173_atom = true := by kernel_rfl
theorem s138_alternatives : ∀ n, C138_alternatives (SP Try.prog id) (f138_alternatives n) := c138_alternatives mxP k138_alternatives k155_sequence k168_item k173_atom s156b_more s157b_peek s141a_join s141b_join s169_link s91_IndexByte s178_add s179_position s177_bytes s176_turn
theorem k109_parse : chkF SS Try.prog id 109 j109_parse = true := by kernel_rfl
theorem s109_parse : ∀ n, C109_parse (SP Try.prog id) (f109_parse n) := c109_parse mxP k109_parse s138_alternatives
theorem k110b_add : chkF SS Try.prog id 110 j110b_add = true := by kernel_rfl
theorem s110b_add : C110b_add (SP Try.prog id) f110b_add := c110b_add mxP k110b_add
theorem k139_has : chkF SS Try.prog id 139 j139_has = true := by kernel_rfl
theorem s139_has : C139_has (SP Try.prog id) f139_has := c139_has mxP k139_has
theorem k110c_add : chkF SS Try.prog id 110 j110c_add = true := by kernel_rfl
theorem s110c_add : C110c_add (SP Try.prog id) f110c_add := c110c_add mxP k110c_add
theorem k111_at : chkF SS Try.prog id 111 j111_at = true := by kernel_rfl
theorem s111_at : C111_at (SP Try.prog id) f111_at := c111_at mxP k111_at s139_has s110c_add
theorem k141c_join : chkF SS Try.prog id 141 j141c_join = true := by kernel_rfl
theorem s141c_join : C141c_join (SP Try.prog id) f141c_join := c141c_join mxP k141c_join
theorem k112_behind : chkF SS Try.prog id 112 j112_behind = true := by kernel_rfl
theorem s112_behind : C112_behind (SP Try.prog id) f112_behind := c112_behind mxP k112_behind s140_has s141c_join
theorem k113_ends : chkF SS Try.prog id 113 j113_ends = true := by kernel_rfl
theorem s113_ends : C113_ends (SP Try.prog id) f113_ends := c113_ends mxP k113_ends s140_has
theorem k86_build : chkF SS Try.prog id 86 j86_build = true := by kernel_rfl
theorem s86_build : ∀ n, C86_build (SP Try.prog id) (f86_build n) := c86_build mxP k86_build s109_parse s110b_add s111_at s112_behind s113_ends
theorem k160_Check : chkF SS Try.prog id 160 j160_Check = true := by kernel_rfl
theorem s160_Check : ∀ n, C160_Check (SP Try.prog id) (f160_Check n) := c160_Check mxP k160_Check s86_build
theorem k88_1 : chkF SS Try.prog id 88 j88_1 = true := by kernel_rfl
theorem s88_1 : C88_1 (SP Try.prog id) f88_1 := c88_1 mxP k88_1
theorem k87_search : chkF SS Try.prog id 87 j87_search = true := by kernel_rfl
theorem s87_search : ∀ n, C87_search (SP Try.prog id) (f87_search n) := c87_search mxP k87_search s88_1
theorem k67_Least : chkF SS Try.prog id 67 j67_Least = true := by kernel_rfl
theorem s67_Least : ∀ n, C67_Least (SP Try.prog id) (f67_Least n) := c67_Least mxP k67_Least s86_build s87_search
theorem k89_two : chkF SS Try.prog id 89 j89_two = true := by kernel_rfl
theorem s89_two : ∀ n, C89_two (SP Try.prog id) (f89_two n) := c89_two mxP k89_two s86_build
theorem k90_1 : chkF SS Try.prog id 90 j90_1 = true := by kernel_rfl
theorem s90_1 : C90_1 (SP Try.prog id) f90_1 := c90_1 mxP k90_1
theorem k87a_search : chkF SS Try.prog id 87 j87a_search = true := by kernel_rfl
theorem s87a_search : ∀ n, C87a_search (SP Try.prog id) (f87a_search n) := c87a_search mxP k87a_search s90_1
theorem k68_Includes : chkF SS Try.prog id 68 j68_Includes = true := by kernel_rfl
theorem s68_Includes : ∀ n, C68_Includes (SP Try.prog id) (f68_Includes n) := c68_Includes mxP k68_Includes s86_build s89_two s87a_search
theorem k52_order : chkF SS Try.prog id 52 j52_order = true := by kernel_rfl
theorem s52_order : C52_order (SP Try.prog id) f52_order := c52_order mxP k52_order
theorem k59_isNaN : chkF SS Try.prog id 59 j59_isNaN = true := by kernel_rfl
theorem s59_isNaN : C59_isNaN (SP Try.prog id) f59_isNaN := c59_isNaN mxP k59_isNaN
theorem k38_Compare : chkF SS Try.prog id 38 j38_Compare = true := by kernel_rfl
theorem s38_Compare : C38_Compare (SP Try.prog id) f38_Compare := c38_Compare mxP k38_Compare s59_isNaN
theorem k78_CompareString : chkF SS Try.prog id 78 j78_CompareString = true := by kernel_rfl
theorem s78_CompareString : C78_CompareString (SP Try.prog id) f78_CompareString := c78_CompareString mxP k78_CompareString
theorem k54_Compare : chkF SS Try.prog id 54 j54_Compare = true := by kernel_rfl
theorem s54_Compare : C54_Compare (SP Try.prog id) f54_Compare := c54_Compare mxP k54_Compare s78_CompareString
theorem k53_Or : chkF SS Try.prog id 53 j53_Or = true := by kernel_rfl
theorem s53_Or : C53_Or (SP Try.prog id) f53_Or := c53_Or mxP k53_Or
theorem k34_Cmp : chkF SS Try.prog id 34 j34_Cmp = true := by kernel_rfl
theorem k55_CompareFunc : chkF SS Try.prog id 55 j55_CompareFunc = true := by kernel_rfl
theorem k56_1 : chkF SS Try.prog id 56 j56_1 = true := by kernel_rfl
theorem s34_Cmp : ∀ n, C34_Cmp (SP Try.prog id) (f34_Cmp n) := c34_Cmp mxP k34_Cmp k55_CompareFunc k56_1 s52_order s38_Compare s54_Compare s53_Or
theorem k11_Same : chkF SS Try.prog id 11 j11_Same = true := by kernel_rfl
theorem s11_Same : ∀ n, C11_Same (SP Try.prog id) (f11_Same n) := c11_Same mxP k11_Same s34_Cmp
theorem k132_Name : chkF SS Try.prog id 132 j132_Name = true := by kernel_rfl
theorem s132_Name : C132_Name (SP Try.prog id) f132_Name := c132_Name mxP k132_Name
theorem k137_1 : chkF SS Try.prog id 137 j137_1 = true := by kernel_rfl
theorem s137_1 : C137_1 (SP Try.prog id) f137_1 := c137_1 mxP k137_1
theorem k136_IndexFunc : chkF SS Try.prog id 136 j136_IndexFunc = true := by kernel_rfl
theorem s136_IndexFunc : C136_IndexFunc (SP Try.prog id) f136_IndexFunc := c136_IndexFunc mxP k136_IndexFunc s137_1
theorem k107_find : chkF SS Try.prog id 107 j107_find = true := by kernel_rfl
theorem s107_find : C107_find (SP Try.prog id) f107_find := c107_find mxP k107_find s136_IndexFunc
theorem k133_Size : chkF SS Try.prog id 133 j133_Size = true := by kernel_rfl
theorem s133_Size : ∀ n, C133_Size (SP Try.prog id) (f133_Size n) := c133_Size mxP k133_Size
theorem k134_Deep : chkF SS Try.prog id 134 j134_Deep = true := by kernel_rfl
theorem s134_Deep : ∀ n, C134_Deep (SP Try.prog id) (f134_Deep n) := c134_Deep mxP k134_Deep
theorem k165_bounds : chkF SS Try.prog id 165 j165_bounds = true := by kernel_rfl
theorem s165_bounds : C165_bounds (SP Try.prog id) f165_bounds := c165_bounds mxP k165_bounds
theorem k166_unused : chkF SS Try.prog id 166 j166_unused = true := by kernel_rfl
theorem s166_unused : C166_unused (SP Try.prog id) f166_unused := c166_unused mxP k166_unused
theorem k172_1 : chkF SS Try.prog id 172 j172_1 = true := by kernel_rfl
theorem s172_1 : C172_1 (SP Try.prog id) f172_1 := c172_1 mxP k172_1
theorem k175_IndexFunc : chkF SS Try.prog id 175 j175_IndexFunc = true := by kernel_rfl
theorem s175_IndexFunc : C175_IndexFunc (SP Try.prog id) f175_IndexFunc := c175_IndexFunc mxP k175_IndexFunc s172_1
theorem k171_ContainsFunc : chkF SS Try.prog id 171 j171_ContainsFunc = true := by kernel_rfl
theorem s171_ContainsFunc : C171_ContainsFunc (SP Try.prog id) f171_ContainsFunc := c171_ContainsFunc mxP k171_ContainsFunc s175_IndexFunc
theorem k167_parts : chkF SS Try.prog id 167 j167_parts = true := by kernel_rfl
theorem s167_parts : C167_parts (SP Try.prog id) f167_parts := c167_parts mxP k167_parts s132_Name s171_ContainsFunc
theorem k154_own : chkF SS Try.prog id 154 j154_own = true := by kernel_rfl
theorem s154_own : ∀ n, C154_own (SP Try.prog id) (f154_own n) := c154_own mxP k154_own s160_Check s107_find s165_bounds s166_unused s167_parts
theorem k135_node : chkF SS Try.prog id 135 j135_node = true := by kernel_rfl
theorem s135_node : ∀ n, C135_node (SP Try.prog id) (f135_node n) := c135_node mxP k135_node s154_own
theorem k106_right : chkF SS Try.prog id 106 j106_right = true := by kernel_rfl
theorem s106_right : ∀ n, C106_right (SP Try.prog id) (f106_right n) := c106_right mxP k106_right s133_Size s134_Deep s135_node
theorem k84_resolve : chkF SS Try.prog id 84 j84_resolve = true := by kernel_rfl
theorem s84_resolve : C84_resolve (SP Try.prog id) f84_resolve := c84_resolve mxP k84_resolve s107_find
theorem k105_Check : chkF SS Try.prog id 105 j105_Check = true := by kernel_rfl
theorem s105_Check : ∀ n, C105_Check (SP Try.prog id) (f105_Check n) := c105_Check mxP k105_Check s132_Name s107_find s106_right s84_resolve
theorem k83_Right : chkF SS Try.prog id 83 j83_Right = true := by kernel_rfl
theorem s83_Right : ∀ n, C83_Right (SP Try.prog id) (f83_Right n) := c83_Right mxP k83_Right s105_Check s106_right
theorem k66_Resolve : chkF SS Try.prog id 66 j66_Resolve = true := by kernel_rfl
theorem s66_Resolve : ∀ n, C66_Resolve (SP Try.prog id) (f66_Resolve n) := c66_Resolve mxP k66_Resolve s85_Copy s83_Right s84_resolve
theorem k43_single : chkF SS Try.prog id 43 j43_single = true := by kernel_rfl
theorem s43_single : ∀ n, C43_single (SP Try.prog id) (f43_single n) := c43_single mxP k43_single s67_Least s68_Includes s66_Resolve spec_quote
theorem k23_Value : chkF SS Try.prog id 23 j23_Value = true := by kernel_rfl
theorem s23_Value : ∀ n, C23_Value (SP Try.prog id) (f23_Value n) := c23_Value mxP k23_Value s42_val
theorem k24_Single : chkF SS Try.prog id 24 j24_Single = true := by kernel_rfl
theorem s24_Single : ∀ n, C24_Single (SP Try.prog id) (f24_Single n) := c24_Single mxP k24_Single s43_single
theorem k25_digit : chkF SS Try.prog id 25 j25_digit = true := by kernel_rfl
theorem s25_digit : C25_digit (SP Try.prog id) f25_digit := c25_digit mxP k25_digit
theorem k6_LawSingle : chkF SS Try.prog id 6 j6_LawSingle = true := by kernel_rfl
theorem s6_LawSingle : ∀ n, C6_LawSingle (SP Try.prog id) (f6_LawSingle n) := c6_LawSingle mxP k6_LawSingle s21_Schema s22_Type s11_Same s23_Value s24_Single s25_digit
end Go.Clap
