/- PRINTED by gm.py: small code, models, and that the code meets the models. -/
import Derived.Test.YtnielhfaioakkaaClapK1
set_option linter.unusedVariables false
set_option linter.unusedSimpArgs false
set_option maxHeartbeats 4000000
set_option maxRecDepth 100000
namespace Go.Clap
open Go.IntKind (wrap)
def f138_alternatives_L2 (self155_sequence : BA → Int → Bool → Int → Int → Int → Int → Int → Int → Int → Int → Bool → L4 → L4 → Option (Bool × Int × Int × Int × Int × Int × Int × Int × Int × Int × L4 × L4 × Bool)) (s1 : BA) (q3 : Bool) (v4 : Int) (v5 : Int) (v6 : Int) (v7 : Int) (v8 : Int) (v9 : Int) (v10 : Int) (v11 : Int) : Nat → L4 → L4 → Int → Bool → Bool → Int → Int → Int → Int → Int → Int → Int → Int → Option (Sum (Bool × Int × Int × Int × Int × Int × Int × Int × Int × Int × L4 × L4 × Bool) (Bool × Int × Int × Int × Int × Int × Int × Int × Int × Int × Bool × L4 × L4))
  | 0, _, _, _, _, _, _, _, _, _, _, _, _, _ => none
  | g202 + 1, l204, l205, v206, q207, q208, v209, v210, v211, v212, v213, v214, v215, v216 => (f156b_more s1 v206 q3 v4 v5 v6 v7 v8 v9 v10 v11 q207 l204 l205).bind fun (q219, l220, l221, q222) => cond q219 ((f157b_peek s1 v206 q3 v4 v5 v6 v7 v8 v9 v10 v11 q222 l220 l221).bind fun (v223, l224, l225) => cond (v223 == 124) ((self155_sequence s1 (wrap .i64 (v206 + 1)) q3 v4 v5 v6 v7 v8 v9 v10 v11 q222 l224 l225).bind fun (q227, v228, v229, v230, v231, v232, v233, v234, v235, v236, l237, l238, q239) => cond q208 ((f141a_join (v228, v229, v230, v231) true v209 v210 v211 v212 v213 v214 v215 v216).bind fun (v248, v249, v250, v251) => (f141b_join (v232, v233, v234, v235) true v248 v249 v250 v251 v213 v214 v215 v216).bind fun (v252, v253, v254, v255) => f138_alternatives_L2 self155_sequence s1 q3 v4 v5 v6 v7 v8 v9 v10 v11 g202 l237 l238 v236 q239 true v248 v249 v250 v251 v252 v253 v254 v255) ((f141a_join (v228, v229, v230, v231) q227 v209 v210 v211 v212 v213 v214 v215 v216).bind fun (v240, v241, v242, v243) => (f141b_join (v232, v233, v234, v235) q227 v240 v241 v242 v243 v213 v214 v215 v216).bind fun (v244, v245, v246, v247) => f138_alternatives_L2 self155_sequence s1 q3 v4 v5 v6 v7 v8 v9 v10 v11 g202 l237 l238 v236 q239 q227 v240 v241 v242 v243 v244 v245 v246 v247)) (some (.inr (q208, v209, v210, v211, v212, v213, v214, v215, v216, v206, q222, l224, l225)))) (some (.inr (q208, v209, v210, v211, v212, v213, v214, v215, v216, v206, q222, l220, l221)))
def b138_alternatives (fuel : Nat) (self155_sequence : BA → Int → Bool → Int → Int → Int → Int → Int → Int → Int → Int → Bool → L4 → L4 → Option (Bool × Int × Int × Int × Int × Int × Int × Int × Int × Int × L4 × L4 × Bool)) : BA → Int → Bool → Int → Int → Int → Int → Int → Int → Int → Int → Bool → L4 → L4 → Option (Bool × Int × Int × Int × Int × Int × Int × Int × Int × Int × L4 × L4 × Bool)
  | s1, v2, q3, v4, v5, v6, v7, v8, v9, v10, v11, q12, r13, r14 => (self155_sequence s1 v2 q3 v4 v5 v6 v7 v8 v9 v10 v11 q12 r13 r14).bind fun (q15, v16, v17, v18, v19, v20, v21, v22, v23, v24, l25, l26, q27) => sbind (ο := Bool × Int × Int × Int × Int × Int × Int × Int × Int × Int × Bool × L4 × L4) (f138_alternatives_L2 self155_sequence s1 q3 v4 v5 v6 v7 v8 v9 v10 v11 fuel l25 l26 v24 q27 q15 v16 v17 v18 v19 v20 v21 v22 v23) (fun (q134, v135, v136, v137, v138, v139, v140, v141, v142, v143, q144, l145, l146) => some (q134, v135, v136, v137, v138, v139, v140, v141, v142, v143, l145, l146, q144))
def f155_sequence_L2 (self168_item : BA → Int → Bool → Int → Int → Int → Int → Int → Int → Int → Int → Bool → L4 → L4 → Option (Bool × Int × Int × Int × Int × Int × Int × Int × Int × Int × L4 × L4 × Bool)) (s1 : BA) (q3 : Bool) (v4 : Int) (v5 : Int) (v6 : Int) (v7 : Int) (v8 : Int) (v9 : Int) (v10 : Int) (v11 : Int) : Nat → L4 → L4 → Int → Bool → Bool → Int → Int → Int → Int → Int → Int → Int → Int → Option (Sum (Bool × Int × Int × Int × Int × Int × Int × Int × Int × Int × L4 × L4 × Bool) (Bool × Int × Int × Int × Int × Int × Int × Int × Int × Int × Bool × L4 × L4))
  | 0, _, _, _, _, _, _, _, _, _, _, _, _, _ => none
  | g231 + 1, l233, l234, v235, q236, q237, v238, v239, v240, v241, v242, v243, v244, v245 => (f156b_more s1 v235 q3 v4 v5 v6 v7 v8 v9 v10 v11 q236 l233 l234).bind fun (q248, l249, l250, q251) => cond q248 ((f157b_peek s1 v235 q3 v4 v5 v6 v7 v8 v9 v10 v11 q251 l249 l250).bind fun (v252, l253, l254) => cond (v252 != 124) ((f157b_peek s1 v235 q3 v4 v5 v6 v7 v8 v9 v10 v11 q251 l253 l254).bind fun (v256, l257, l258) => cond (v256 != 41) ((self168_item s1 v235 q3 v4 v5 v6 v7 v8 v9 v10 v11 q251 l257 l258).bind fun (q260, v261, v262, v263, v264, v265, v266, v267, v268, v269, l270, l271, q272) => (f169_link (v242, v243, v244, v245) (v261, v262, v263, v264) s1 v269 q3 v4 v5 v6 v7 v8 v9 v10 v11 q272 l270 l271).bind fun (l273, l274) => sbind (ο := Bool × Int × Int × Int × Int) (cond q237 ((f141a_join (v261, v262, v263, v264) true v238 v239 v240 v241 v242 v243 v244 v245).bind fun (v285, v286, v287, v288) => some (.inr (true, v285, v286, v287, v288))) (some (.inr (false, v238, v239, v240, v241)))) (fun (q279, v280, v281, v282, v283) => sbind (ο := Int × Int × Int × Int × Bool) (cond q260 (some (.inr (v242, v243, v244, v245, true))) (some (.inr (0, 0, 0, 0, false)))) (fun (v289, v290, v291, v292, q293) => (f141b_join (v265, v266, v267, v268) q279 v280 v281 v282 v283 v289 v290 v291 v292).bind fun (v295, v296, v297, v298) => cond q279 (f155_sequence_L2 self168_item s1 q3 v4 v5 v6 v7 v8 v9 v10 v11 g231 l273 l274 v269 q272 q293 v280 v281 v282 v283 v295 v296 v297 v298) (f155_sequence_L2 self168_item s1 q3 v4 v5 v6 v7 v8 v9 v10 v11 g231 l273 l274 v269 q272 false v280 v281 v282 v283 v295 v296 v297 v298)))) (some (.inr (q237, v238, v239, v240, v241, v242, v243, v244, v245, v235, q251, l257, l258)))) (some (.inr (q237, v238, v239, v240, v241, v242, v243, v244, v245, v235, q251, l253, l254)))) (some (.inr (q237, v238, v239, v240, v241, v242, v243, v244, v245, v235, q251, l249, l250)))
def b155_sequence (fuel : Nat) (self168_item : BA → Int → Bool → Int → Int → Int → Int → Int → Int → Int → Int → Bool → L4 → L4 → Option (Bool × Int × Int × Int × Int × Int × Int × Int × Int × Int × L4 × L4 × Bool)) : BA → Int → Bool → Int → Int → Int → Int → Int → Int → Int → Int → Bool → L4 → L4 → Option (Bool × Int × Int × Int × Int × Int × Int × Int × Int × Int × L4 × L4 × Bool)
  | s1, v2, q3, v4, v5, v6, v7, v8, v9, v10, v11, q12, r13, r14 => sbind (ο := Bool × Int × Int × Int × Int × Int × Int × Int × Int × Int × Bool × L4 × L4) (f155_sequence_L2 self168_item s1 q3 v4 v5 v6 v7 v8 v9 v10 v11 fuel r13 r14 v2 q12 true (0 : Int) (0 : Int) (0 : Int) (0 : Int) (0 : Int) (0 : Int) (0 : Int) (0 : Int)) (fun (q149, v150, v151, v152, v153, v154, v155, v156, v157, v158, q159, l160, l161) => some (q149, v150, v151, v152, v153, v154, v155, v156, v157, v158, l160, l161, q159))
def b168_item (self173_atom : BA → Int → Bool → Int → Int → Int → Int → Int → Int → Int → Int → Bool → L4 → L4 → Option (Bool × Int × Int × Int × Int × Int × Int × Int × Int × Int × L4 × L4 × Bool)) : BA → Int → Bool → Int → Int → Int → Int → Int → Int → Int → Int → Bool → L4 → L4 → Option (Bool × Int × Int × Int × Int × Int × Int × Int × Int × Int × L4 × L4 × Bool)
  | s1, v2, q3, v4, v5, v6, v7, v8, v9, v10, v11, q12, r13, r14 => (self173_atom s1 v2 q3 v4 v5 v6 v7 v8 v9 v10 v11 q12 r13 r14).bind fun (q15, v16, v17, v18, v19, v20, v21, v22, v23, v24, l25, l26, q27) => (f156b_more s1 v24 q3 v4 v5 v6 v7 v8 v9 v10 v11 q27 l25 l26).bind fun (q28, l29, l30, q31) => cond q28 ((f157b_peek s1 v24 q3 v4 v5 v6 v7 v8 v9 v10 v11 q31 l29 l30).bind fun (v32, l33, l34) => cond (v32 != 42) (cond (v32 != 43) (cond (v32 != 63) (some (q15, v16, v17, v18, v19, v20, v21, v22, v23, v24, l33, l34, q31)) (cond (v32 != 63) ((f169_link (v20, v21, v22, v23) (v16, v17, v18, v19) s1 (wrap .i64 (v24 + 1)) q3 v4 v5 v6 v7 v8 v9 v10 v11 q31 l33 l34).bind fun (l50, l51) => cond q15 (some (true, v16, v17, v18, v19, v20, v21, v22, v23, (wrap .i64 (v24 + 1)), l50, l51, q31)) (cond (v32 != 43) (some (true, v16, v17, v18, v19, v20, v21, v22, v23, (wrap .i64 (v24 + 1)), l50, l51, q31)) (some (false, v16, v17, v18, v19, v20, v21, v22, v23, (wrap .i64 (v24 + 1)), l50, l51, q31)))) (cond q15 (some (true, v16, v17, v18, v19, v20, v21, v22, v23, (wrap .i64 (v24 + 1)), l33, l34, q31)) (cond (v32 != 43) (some (true, v16, v17, v18, v19, v20, v21, v22, v23, (wrap .i64 (v24 + 1)), l33, l34, q31)) (some (false, v16, v17, v18, v19, v20, v21, v22, v23, (wrap .i64 (v24 + 1)), l33, l34, q31)))))) (cond (v32 != 63) ((f169_link (v20, v21, v22, v23) (v16, v17, v18, v19) s1 (wrap .i64 (v24 + 1)) q3 v4 v5 v6 v7 v8 v9 v10 v11 q31 l33 l34).bind fun (l44, l45) => cond q15 (some (true, v16, v17, v18, v19, v20, v21, v22, v23, (wrap .i64 (v24 + 1)), l44, l45, q31)) (cond (v32 != 43) (some (true, v16, v17, v18, v19, v20, v21, v22, v23, (wrap .i64 (v24 + 1)), l44, l45, q31)) (some (false, v16, v17, v18, v19, v20, v21, v22, v23, (wrap .i64 (v24 + 1)), l44, l45, q31)))) (cond q15 (some (true, v16, v17, v18, v19, v20, v21, v22, v23, (wrap .i64 (v24 + 1)), l33, l34, q31)) (cond (v32 != 43) (some (true, v16, v17, v18, v19, v20, v21, v22, v23, (wrap .i64 (v24 + 1)), l33, l34, q31)) (some (false, v16, v17, v18, v19, v20, v21, v22, v23, (wrap .i64 (v24 + 1)), l33, l34, q31)))))) (cond (v32 != 63) ((f169_link (v20, v21, v22, v23) (v16, v17, v18, v19) s1 (wrap .i64 (v24 + 1)) q3 v4 v5 v6 v7 v8 v9 v10 v11 q31 l33 l34).bind fun (l38, l39) => cond q15 (some (true, v16, v17, v18, v19, v20, v21, v22, v23, (wrap .i64 (v24 + 1)), l38, l39, q31)) (cond (v32 != 43) (some (true, v16, v17, v18, v19, v20, v21, v22, v23, (wrap .i64 (v24 + 1)), l38, l39, q31)) (some (false, v16, v17, v18, v19, v20, v21, v22, v23, (wrap .i64 (v24 + 1)), l38, l39, q31)))) (cond q15 (some (true, v16, v17, v18, v19, v20, v21, v22, v23, (wrap .i64 (v24 + 1)), l33, l34, q31)) (cond (v32 != 43) (some (true, v16, v17, v18, v19, v20, v21, v22, v23, (wrap .i64 (v24 + 1)), l33, l34, q31)) (some (false, v16, v17, v18, v19, v20, v21, v22, v23, (wrap .i64 (v24 + 1)), l33, l34, q31)))))) (some (q15, v16, v17, v18, v19, v20, v21, v22, v23, v24, l29, l30, q31))
def b173_atom (fuel : Nat) (self138_alternatives : BA → Int → Bool → Int → Int → Int → Int → Int → Int → Int → Int → Bool → L4 → L4 → Option (Bool × Int × Int × Int × Int × Int × Int × Int × Int × Int × L4 × L4 × Bool)) : BA → Int → Bool → Int → Int → Int → Int → Int → Int → Int → Int → Bool → L4 → L4 → Option (Bool × Int × Int × Int × Int × Int × Int × Int × Int × Int × L4 × L4 × Bool)
  | s1, v2, q3, v4, v5, v6, v7, v8, v9, v10, v11, q12, r13, r14 => (f157b_peek s1 v2 q3 v4 v5 v6 v7 v8 v9 v10 v11 q12 r13 r14).bind fun (v15, l16, l17) => cond (v15 == 40) ((self138_alternatives s1 (wrap .i64 (v2 + 1)) q3 v4 v5 v6 v7 v8 v9 v10 v11 q12 l16 l17).bind fun (q94, v95, v96, v97, v98, v99, v100, v101, v102, v103, l104, l105, q106) => sbind (ο := Bool × L4 × L4) (cond q106 (some (.inr (true, l104, l105))) ((f157b_peek s1 v103 q3 v4 v5 v6 v7 v8 v9 v10 v11 false l104 l105).bind fun (v119, l120, l121) => cond (v119 != 41) (some (.inr (true, l120, l121))) (cond (decide (v103 ≥ (s1.size : Int))) (some (.inr (true, l120, l121))) (some (.inr (false, l120, l121)))))) (fun (q113, l114, l115) => cond q113 (some (q94, v95, v96, v97, v98, v99, v100, v101, v102, v103, l114, l115, true)) (some (q94, v95, v96, v97, v98, v99, v100, v101, v102, (wrap .i64 (v103 + 1)), l114, l115, false)))) (cond (v15 == 46) ((f176_turn (0 : Int) (0 : Int) (0 : Int) (0 : Int)).bind fun (v78, v79, v80, v81) => (f179_position (v78, v79, v80, v81) s1 (wrap .i64 (v2 + 1)) q3 v4 v5 v6 v7 v8 v9 v10 v11 q12 l16 l17).bind fun (q82, v83, v84, v85, v86, v87, v88, v89, v90, l91, l92, q93) => some (q82, v83, v84, v85, v86, v87, v88, v89, v90, (wrap .i64 (v2 + 1)), l91, l92, q93)) (cond (v15 == 91) ((f177_bytes fuel s1 (wrap .i64 (v2 + 1)) q3 v4 v5 v6 v7 v8 v9 v10 v11 q12 l16 l17).bind fun (((w58, w59, w60, w61)), v62, l63, l64, q65) => (f179_position (w58, w59, w60, w61) s1 v62 q3 v4 v5 v6 v7 v8 v9 v10 v11 q65 l63 l64).bind fun (q66, v67, v68, v69, v70, v71, v72, v73, v74, l75, l76, q77) => some (q66, v67, v68, v69, v70, v71, v72, v73, v74, v62, l75, l76, q77)) (cond (v15 == 92) (cond (decide ((wrap .i64 (v2 + 1)) ≥ (s1.size : Int))) (some (false, 0, 0, 0, 0, 0, 0, 0, 0, (wrap .i64 (v2 + 1)), l16, l17, true)) (getB s1 (wrap .i64 (v2 + 1)) fun c41 => (f178_add (c41.toNat : Int) (0 : Int) (0 : Int) (0 : Int) (0 : Int)).bind fun (v42, v43, v44, v45) => (f179_position (v42, v43, v44, v45) s1 (wrap .i64 ((wrap .i64 (v2 + 1)) + 1)) q3 v4 v5 v6 v7 v8 v9 v10 v11 q12 l16 l17).bind fun (q46, v47, v48, v49, v50, v51, v52, v53, v54, l55, l56, q57) => some (q46, v47, v48, v49, v50, v51, v52, v53, v54, (wrap .i64 ((wrap .i64 (v2 + 1)) + 1)), l55, l56, q57))) ((f91_IndexByte (⟨#[124, 42, 43, 63, 40, 41, 91, 93]⟩ : BA) v15).bind fun v22 => cond (decide (v22 ≥ 0)) (some (false, 0, 0, 0, 0, 0, 0, 0, 0, (wrap .i64 (v2 + 1)), l16, l17, true)) ((f178_add v15 (0 : Int) (0 : Int) (0 : Int) (0 : Int)).bind fun (v24, v25, v26, v27) => (f179_position (v24, v25, v26, v27) s1 (wrap .i64 (v2 + 1)) q3 v4 v5 v6 v7 v8 v9 v10 v11 q12 l16 l17).bind fun (q28, v29, v30, v31, v32, v33, v34, v35, v36, l37, l38, q39) => some (q28, v29, v30, v31, v32, v33, v34, v35, v36, (wrap .i64 (v2 + 1)), l37, l38, q39))))))
def S138_alternatives : Nat → (BA → Int → Bool → Int → Int → Int → Int → Int → Int → Int → Int → Bool → L4 → L4 → Option (Bool × Int × Int × Int × Int × Int × Int × Int × Int × Int × L4 × L4 × Bool)) × (BA → Int → Bool → Int → Int → Int → Int → Int → Int → Int → Int → Bool → L4 → L4 → Option (Bool × Int × Int × Int × Int × Int × Int × Int × Int × Int × L4 × L4 × Bool)) × (BA → Int → Bool → Int → Int → Int → Int → Int → Int → Int → Int → Bool → L4 → L4 → Option (Bool × Int × Int × Int × Int × Int × Int × Int × Int × Int × L4 × L4 × Bool)) × (BA → Int → Bool → Int → Int → Int → Int → Int → Int → Int → Int → Bool → L4 → L4 → Option (Bool × Int × Int × Int × Int × Int × Int × Int × Int × Int × L4 × L4 × Bool))
  | 0 => (fun _ _ _ _ _ _ _ _ _ _ _ _ _ _ => none, fun _ _ _ _ _ _ _ _ _ _ _ _ _ _ => none, fun _ _ _ _ _ _ _ _ _ _ _ _ _ _ => none, fun _ _ _ _ _ _ _ _ _ _ _ _ _ _ => none)
  | n + 1 => (b138_alternatives n (S138_alternatives n).2.1, b155_sequence n (S138_alternatives n).2.2.1, b168_item (S138_alternatives n).2.2.2, b173_atom n (S138_alternatives n).1)
def f138_alternatives (n : Nat) : BA → Int → Bool → Int → Int → Int → Int → Int → Int → Int → Int → Bool → L4 → L4 → Option (Bool × Int × Int × Int × Int × Int × Int × Int × Int × Int × L4 × L4 × Bool) := (S138_alternatives n).1
def f155_sequence (n : Nat) : BA → Int → Bool → Int → Int → Int → Int → Int → Int → Int → Int → Bool → L4 → L4 → Option (Bool × Int × Int × Int × Int × Int × Int × Int × Int × Int × L4 × L4 × Bool) := (S138_alternatives n).2.1
def f168_item (n : Nat) : BA → Int → Bool → Int → Int → Int → Int → Int → Int → Int → Int → Bool → L4 → L4 → Option (Bool × Int × Int × Int × Int × Int × Int × Int × Int × Int × L4 × L4 × Bool) := (S138_alternatives n).2.2.1
def f173_atom (n : Nat) : BA → Int → Bool → Int → Int → Int → Int → Int → Int → Int → Int → Bool → L4 → L4 → Option (Bool × Int × Int × Int × Int × Int × Int × Int × Int × Int × L4 × L4 × Bool) := (S138_alternatives n).2.2.2
def C138_alternatives (O : Oracle TT) (m : BA → Int → Bool → Int → Int → Int → Int → Int → Int → Int → Int → Bool → L4 → L4 → Option (Bool × Int × Int × Int × Int × Int × Int × Int × Int × Int × L4 × L4 × Bool)) : Prop :=
  ∀ (s1 : BA) (v2 : Int) (q3 : Bool) (v4 : Int) (v5 : Int) (v6 : Int) (v7 : Int) (v8 : Int) (v9 : Int) (v10 : Int) (v11 : Int) (q12 : Bool) (r13 : L4) (r14 : L4) (n0 : Nat) (en0 : n0 = r13.length) (n1 : Nat) (en1 : n1 = r14.length) (Q : (Bool × Int × Int × Int × Int × Int × Int × Int × Int × Int × L4 × L4 × Bool) → Prop) (R : RR) (_ : ∀ (q256 : Bool) (v257 : Int) (v258 : Int) (v259 : Int) (v260 : Int) (v261 : Int) (v262 : Int) (v263 : Int) (v264 : Int) (v265 : Int) (l266 : L4) (l267 : L4) (q268 : Bool) (n0r : Nat) (_ : n0r = l266.length) (n1r : Nat) (_ : n1r = l267.length), Q (q256, v257, v258, v259, v260, v261, v262, v263, v264, v265, l266, l267, q268) → R (.agg [.bool q256, .int .u64 v257, .int .u64 v258, .int .u64 v259, .int .u64 v260, .int .u64 v261, .int .u64 v262, .int .u64 v263, .int .u64 v264]) [(.x 0, some (.var [.str s1, .int .i64 v265, .osl (.x 3) 0 n0r, .osl (.x 4) 0 n1r, .bool q3, .int .u64 v4, .int .u64 v5, .int .u64 v6, .int .u64 v7, .int .u64 v8, .int .u64 v9, .int .u64 v10, .int .u64 v11, .bool q268])), (.x 1, none), (.x 2, none), (.x 3, some (.row false .set4 l266)), (.x 4, some (.row false .set4 l267))]) (_ : sat (m s1 v2 q3 v4 v5 v6 v7 v8 v9 v10 v11 q12 r13 r14) Q), O 138 [.c (.ptr (.x 0) 0 0)] [((.x 0), some (.var [.str s1, .int .i64 v2, .osl (.x 1) 0 n0, .osl (.x 2) 0 n1, .bool q3, .int .u64 v4, .int .u64 v5, .int .u64 v6, .int .u64 v7, .int .u64 v8, .int .u64 v9, .int .u64 v10, .int .u64 v11, .bool q12])), ((.x 1), some (.row false .set4 r13)), ((.x 2), some (.row false .set4 r14))] R
def j138_alternatives : Fn TT := ⟨39, [.cell 2 9 true], (.seq (.reg [qo 2 (.alloc 2 [.bool false, .int .u64 0, .int .u64 0, .int .u64 0, .int .u64 0, .int .u64 0, .int .u64 0, .int .u64 0, .int .u64 0])]) (.seq (.reg [qo 5 (.mv 0),qo 6 (.call 6 155 [5]),qo 3 (.alloc 3 [.bool false, .int .u64 0, .int .u64 0, .int .u64 0, .int .u64 0, .int .u64 0, .int .u64 0, .int .u64 0, .int .u64 0]),
 qp (.store 3 6 9)]) (.cut [2, 3] [(.s 2), (.s 3), (.x 0), (.sub (.sub (.x 0) 600) 2), (.sub (.sub (.x 0) 600) 3)] (.block 0 (.pre [.ownc (.x 0) 2 .set4 (.sub (.sub (.x 0) 600) 2), .ownc (.x 0) 3 .set4 (.sub (.sub (.x 0) 600) 3)] (.loop (.keep [0, 2, 3] [(.x 0), (.s 2), (.s 3), (.sub (.sub (.x 0) 600) 2), (.sub (.sub (.x 0) 600) 3)] (.aft (.seq (.seq (.reg [qo 7 (.mv 0),qo 8 (.call 8 156 [7]),
 qo 9 (.mv 8),qg 9 10 (.mv 0),qg 9 11 (.call 11 157 [10]),qg 9 12 (.bin .eql .num 11 (.c (.int .u8 124))),qo 13 (.pick 9 12 bF)]) (.cond 13 .skip (.exit 0))) (.block 1 (.seq (.reg [qo 14 (.mv 0),qo 15 (.nilck 14),qo 16 (.fa 15 1),qo 17 (.load 16 1 false),qo 18 (.bin .add .num 17 (iC 1)),qo 19 (.nilck 14),qo 20 (.fa 19 1),qp (.store 20 18 1)]) (.seq (.reg [qo 21 (.mv 0),
 qo 22 (.call 22 155 [21]),qo 4 (.alloc 4 [.bool false, .int .u64 0, .int .u64 0, .int .u64 0, .int .u64 0, .int .u64 0, .int .u64 0, .int .u64 0, .int .u64 0]),qp (.store 4 22 9)]) (.seq (.reg [qo 23 (.fa 3 0),qo 24 (.load 23 1 false),qo 25 (.mv 24),qf 25 26 (.fa 4 0),qf 25 27 (.load 26 1 false),qo 28 (.pick 25 bT 27),qo 29 (.fa 3 0),qp (.store 29 28 1)]) (.seq (.reg [qo 30 (.fa 3 1),
 qo 31 (.fa 4 1),qo 32 (.load 31 4 true),qo 33 (.call 33 141 [30, 32])]) (.reg [qo 34 (.fa 3 5),qo 35 (.fa 4 5),qo 36 (.load 35 4 true),qo 37 (.call 37 141 [34, 36])]))))))) [.keep [0, 2, 3] [(.x 0), (.s 2), (.s 3), (.sub (.s 22) 0), (.sub (.s 22) 1)], .ownc (.x 0) 2 .set4 (.sub (.sub (.x 0) 600) 2), .ownc (.x 0) 3 .set4 (.sub (.sub (.x 0) 600) 3)]))))) (.seq (.reg [qo 38 (.load 3 9 true),
 qp (.store 2 38 9)]) .ret))))⟩
def C155_sequence (O : Oracle TT) (m : BA → Int → Bool → Int → Int → Int → Int → Int → Int → Int → Int → Bool → L4 → L4 → Option (Bool × Int × Int × Int × Int × Int × Int × Int × Int × Int × L4 × L4 × Bool)) : Prop :=
  ∀ (s1 : BA) (v2 : Int) (q3 : Bool) (v4 : Int) (v5 : Int) (v6 : Int) (v7 : Int) (v8 : Int) (v9 : Int) (v10 : Int) (v11 : Int) (q12 : Bool) (r13 : L4) (r14 : L4) (n0 : Nat) (en0 : n0 = r13.length) (n1 : Nat) (en1 : n1 = r14.length) (Q : (Bool × Int × Int × Int × Int × Int × Int × Int × Int × Int × L4 × L4 × Bool) → Prop) (R : RR) (_ : ∀ (q299 : Bool) (v300 : Int) (v301 : Int) (v302 : Int) (v303 : Int) (v304 : Int) (v305 : Int) (v306 : Int) (v307 : Int) (v308 : Int) (l309 : L4) (l310 : L4) (q311 : Bool) (n0r : Nat) (_ : n0r = l309.length) (n1r : Nat) (_ : n1r = l310.length), Q (q299, v300, v301, v302, v303, v304, v305, v306, v307, v308, l309, l310, q311) → R (.agg [.bool q299, .int .u64 v300, .int .u64 v301, .int .u64 v302, .int .u64 v303, .int .u64 v304, .int .u64 v305, .int .u64 v306, .int .u64 v307]) [(.x 0, some (.var [.str s1, .int .i64 v308, .osl (.x 3) 0 n0r, .osl (.x 4) 0 n1r, .bool q3, .int .u64 v4, .int .u64 v5, .int .u64 v6, .int .u64 v7, .int .u64 v8, .int .u64 v9, .int .u64 v10, .int .u64 v11, .bool q311])), (.x 1, none), (.x 2, none), (.x 3, some (.row false .set4 l309)), (.x 4, some (.row false .set4 l310))]) (_ : sat (m s1 v2 q3 v4 v5 v6 v7 v8 v9 v10 v11 q12 r13 r14) Q), O 155 [.c (.ptr (.x 0) 0 0)] [((.x 0), some (.var [.str s1, .int .i64 v2, .osl (.x 1) 0 n0, .osl (.x 2) 0 n1, .bool q3, .int .u64 v4, .int .u64 v5, .int .u64 v6, .int .u64 v7, .int .u64 v8, .int .u64 v9, .int .u64 v10, .int .u64 v11, .bool q12])), ((.x 1), some (.row false .set4 r13)), ((.x 2), some (.row false .set4 r14))] R
def j155_sequence : Fn TT := ⟨49, [.cell 2 9 true], (.seq (.reg [qo 2 (.alloc 2 [.bool false, .int .u64 0, .int .u64 0, .int .u64 0, .int .u64 0, .int .u64 0, .int .u64 0, .int .u64 0, .int .u64 0])]) (.seq (.reg [qo 5 (.build [.bool false, .int .u64 0, .int .u64 0, .int .u64 0, .int .u64 0, .int .u64 0, .int .u64 0, .int .u64 0, .int .u64 0] [((0, 1), bT)]),
 qo 3 (.alloc 3 [.bool false, .int .u64 0, .int .u64 0, .int .u64 0, .int .u64 0, .int .u64 0, .int .u64 0, .int .u64 0, .int .u64 0]),qp (.store 3 5 9)]) (.cut [2, 3] [(.s 2), (.s 3), (.x 0), (.sub (.sub (.x 0) 600) 2), (.sub (.sub (.x 0) 600) 3)] (.block 0 (.pre [.ownc (.x 0) 2 .set4 (.sub (.sub (.x 0) 600) 2), .ownc (.x 0) 3 .set4 (.sub (.sub (.x 0) 600) 3)]
 (.loop (.keep [0, 2, 3] [(.x 0), (.s 2), (.s 3), (.sub (.sub (.x 0) 600) 2), (.sub (.sub (.x 0) 600) 3)] (.aft (.seq (.seq (.reg [qo 6 (.mv 0),qo 7 (.call 7 156 [6]),qo 8 (.mv 7),qg 8 9 (.mv 0),qg 8 10 (.call 10 157 [9]),qg 8 11 (.bin .neq .num 10 (.c (.int .u8 124))),qo 12 (.pick 8 11 bF),qo 13 (.mv 12),qg 13 14 (.mv 0),qg 13 15 (.call 15 157 [14]),
 qg 13 16 (.bin .neq .num 15 (.c (.int .u8 41))),qo 17 (.pick 13 16 bF)]) (.cond 17 .skip (.exit 0))) (.block 1 (.seq (.reg [qo 18 (.mv 0),qo 19 (.call 19 168 [18]),qo 4 (.alloc 4 [.bool false, .int .u64 0, .int .u64 0, .int .u64 0, .int .u64 0, .int .u64 0, .int .u64 0, .int .u64 0, .int .u64 0]),qp (.store 4 19 9)]) (.seq (.reg [qo 20 (.mv 0),qo 21 (.fa 3 5),qo 22 (.load 21 4 true),
 qo 23 (.fa 4 1),qo 24 (.load 23 4 true),qo 25 (.call 25 169 [20, 22, 24])]) (.cut [0, 2, 3, 4] [(.x 0), (.s 2), (.s 3), (.s 4), (.sub (.s 19) 0), (.sub (.s 19) 1)] (.seq (.reg [qo 26 (.fa 3 0),qo 27 (.load 26 1 false)]) (.cond 27 (.reg [qo 28 (.fa 3 1),qo 29 (.fa 4 1),qo 30 (.load 29 4 true),qo 31 (.call 31 141 [28, 30])]) .skip))
 (.cut [0, 2, 3, 4] [(.x 0), (.s 2), (.s 3), (.s 4), (.sub (.s 19) 0), (.sub (.s 19) 1)] (.seq (.reg [qo 32 (.fa 4 0),qo 33 (.load 32 1 false),qo 34 (.un .not 33)]) (.cond 34 (.reg [qo 35 (.build [.int .u64 0, .int .u64 0, .int .u64 0, .int .u64 0] []),qo 36 (.fa 3 5),qp (.store 36 35 4)]) .skip)) (.seq (.reg [qo 37 (.fa 3 5),qo 38 (.fa 4 5),qo 39 (.load 38 4 true),
 qo 40 (.call 40 141 [37, 39])]) (.reg [qo 41 (.fa 3 0),qo 42 (.load 41 1 false),qo 43 (.mv 42),qg 43 44 (.fa 4 0),qg 43 45 (.load 44 1 false),qo 46 (.pick 43 45 bF),qo 47 (.fa 3 0),qp (.store 47 46 1)])))))))) [.keep [0, 2, 3] [(.x 0), (.s 2), (.s 3), (.sub (.s 19) 0), (.sub (.s 19) 1)], .ownc (.x 0) 2 .set4 (.sub (.sub (.x 0) 600) 2), .ownc (.x 0) 3 .set4 (.sub (.sub (.x 0) 600) 3)])))))
 (.seq (.reg [qo 48 (.load 3 9 true),qp (.store 2 48 9)]) .ret))))⟩
def C168_item (O : Oracle TT) (m : BA → Int → Bool → Int → Int → Int → Int → Int → Int → Int → Int → Bool → L4 → L4 → Option (Bool × Int × Int × Int × Int × Int × Int × Int × Int × Int × L4 × L4 × Bool)) : Prop :=
  ∀ (s1 : BA) (v2 : Int) (q3 : Bool) (v4 : Int) (v5 : Int) (v6 : Int) (v7 : Int) (v8 : Int) (v9 : Int) (v10 : Int) (v11 : Int) (q12 : Bool) (r13 : L4) (r14 : L4) (n0 : Nat) (en0 : n0 = r13.length) (n1 : Nat) (en1 : n1 = r14.length) (Q : (Bool × Int × Int × Int × Int × Int × Int × Int × Int × Int × L4 × L4 × Bool) → Prop) (R : RR) (_ : ∀ (q53 : Bool) (v54 : Int) (v55 : Int) (v56 : Int) (v57 : Int) (v58 : Int) (v59 : Int) (v60 : Int) (v61 : Int) (v62 : Int) (l63 : L4) (l64 : L4) (q65 : Bool) (n0r : Nat) (_ : n0r = l63.length) (n1r : Nat) (_ : n1r = l64.length), Q (q53, v54, v55, v56, v57, v58, v59, v60, v61, v62, l63, l64, q65) → R (.agg [.bool q53, .int .u64 v54, .int .u64 v55, .int .u64 v56, .int .u64 v57, .int .u64 v58, .int .u64 v59, .int .u64 v60, .int .u64 v61]) [(.x 0, some (.var [.str s1, .int .i64 v62, .osl (.x 3) 0 n0r, .osl (.x 4) 0 n1r, .bool q3, .int .u64 v4, .int .u64 v5, .int .u64 v6, .int .u64 v7, .int .u64 v8, .int .u64 v9, .int .u64 v10, .int .u64 v11, .bool q65])), (.x 1, none), (.x 2, none), (.x 3, some (.row false .set4 l63)), (.x 4, some (.row false .set4 l64))]) (_ : sat (m s1 v2 q3 v4 v5 v6 v7 v8 v9 v10 v11 q12 r13 r14) Q), O 168 [.c (.ptr (.x 0) 0 0)] [((.x 0), some (.var [.str s1, .int .i64 v2, .osl (.x 1) 0 n0, .osl (.x 2) 0 n1, .bool q3, .int .u64 v4, .int .u64 v5, .int .u64 v6, .int .u64 v7, .int .u64 v8, .int .u64 v9, .int .u64 v10, .int .u64 v11, .bool q12])), ((.x 1), some (.row false .set4 r13)), ((.x 2), some (.row false .set4 r14))] R
def j168_item : Fn TT := ⟨47, [.cell 2 9 true], (.seq (.reg [qo 2 (.alloc 2 [.bool false, .int .u64 0, .int .u64 0, .int .u64 0, .int .u64 0, .int .u64 0, .int .u64 0, .int .u64 0, .int .u64 0])]) (.seq (.reg [qo 5 (.mv 0),qo 6 (.call 6 173 [5]),qo 3 (.alloc 3 [.bool false, .int .u64 0, .int .u64 0, .int .u64 0, .int .u64 0, .int .u64 0, .int .u64 0, .int .u64 0, .int .u64 0]),
 qp (.store 3 6 9)]) (.seq (.seq (.reg [qo 7 (.mv 0),qo 8 (.call 8 156 [7]),qo 9 (.un .not 8)]) (.cond 9 (.seq (.reg [qo 10 (.load 3 9 true),qp (.store 2 10 9)]) .ret) .skip)) (.seq (.reg [qo 11 (.mv 0),qo 12 (.call 12 157 [11]),qo 4 (.mv 12)]) (.seq (.seq (.reg [qo 13 (.mv 4),qo 14 (.bin .neq .num 13 (.c (.int .u8 42))),qo 15 (.mv 14),qg 15 16 (.mv 4),
 qg 15 17 (.bin .neq .num 16 (.c (.int .u8 43))),qo 18 (.pick 15 17 bF),qo 19 (.mv 18),qg 19 20 (.mv 4),qg 19 21 (.bin .neq .num 20 (.c (.int .u8 63))),qo 22 (.pick 19 21 bF)]) (.cond 22 (.seq (.reg [qo 23 (.load 3 9 true),qp (.store 2 23 9)]) .ret) .skip)) (.seq (.reg [qo 24 (.mv 0),qo 25 (.nilck 24),qo 26 (.fa 25 1),qo 27 (.load 26 1 false),qo 28 (.bin .add .num 27 (iC 1)),
 qo 29 (.nilck 24),qo 30 (.fa 29 1),qp (.store 30 28 1)]) (.seq (.seq (.reg [qo 31 (.mv 4),qo 32 (.bin .neq .num 31 (.c (.int .u8 63)))]) (.cond 32 (.reg [qo 33 (.mv 0),qo 34 (.fa 3 5),qo 35 (.load 34 4 true),qo 36 (.fa 3 1),qo 37 (.load 36 4 true),qo 38 (.call 38 169 [33, 35, 37])]) .skip)) (.seq (.reg [qo 39 (.fa 3 0),qo 40 (.load 39 1 false),qo 41 (.mv 40),qf 41 42 (.mv 4),
 qf 41 43 (.bin .neq .num 42 (.c (.int .u8 43))),qo 44 (.pick 41 bT 43),qo 45 (.fa 3 0),qp (.store 45 44 1)]) (.seq (.reg [qo 46 (.load 3 9 true),qp (.store 2 46 9)]) .ret)))))))))⟩
def C173_atom (O : Oracle TT) (m : BA → Int → Bool → Int → Int → Int → Int → Int → Int → Int → Int → Bool → L4 → L4 → Option (Bool × Int × Int × Int × Int × Int × Int × Int × Int × Int × L4 × L4 × Bool)) : Prop :=
  ∀ (s1 : BA) (v2 : Int) (q3 : Bool) (v4 : Int) (v5 : Int) (v6 : Int) (v7 : Int) (v8 : Int) (v9 : Int) (v10 : Int) (v11 : Int) (q12 : Bool) (r13 : L4) (r14 : L4) (n0 : Nat) (en0 : n0 = r13.length) (n1 : Nat) (en1 : n1 = r14.length) (Q : (Bool × Int × Int × Int × Int × Int × Int × Int × Int × Int × L4 × L4 × Bool) → Prop) (R : RR) (_ : ∀ (q125 : Bool) (v126 : Int) (v127 : Int) (v128 : Int) (v129 : Int) (v130 : Int) (v131 : Int) (v132 : Int) (v133 : Int) (v134 : Int) (l135 : L4) (l136 : L4) (q137 : Bool) (n0r : Nat) (_ : n0r = l135.length) (n1r : Nat) (_ : n1r = l136.length), Q (q125, v126, v127, v128, v129, v130, v131, v132, v133, v134, l135, l136, q137) → R (.agg [.bool q125, .int .u64 v126, .int .u64 v127, .int .u64 v128, .int .u64 v129, .int .u64 v130, .int .u64 v131, .int .u64 v132, .int .u64 v133]) [(.x 0, some (.var [.str s1, .int .i64 v134, .osl (.x 3) 0 n0r, .osl (.x 4) 0 n1r, .bool q3, .int .u64 v4, .int .u64 v5, .int .u64 v6, .int .u64 v7, .int .u64 v8, .int .u64 v9, .int .u64 v10, .int .u64 v11, .bool q137])), (.x 1, none), (.x 2, none), (.x 3, some (.row false .set4 l135)), (.x 4, some (.row false .set4 l136))]) (_ : sat (m s1 v2 q3 v4 v5 v6 v7 v8 v9 v10 v11 q12 r13 r14) Q), O 173 [.c (.ptr (.x 0) 0 0)] [((.x 0), some (.var [.str s1, .int .i64 v2, .osl (.x 1) 0 n0, .osl (.x 2) 0 n1, .bool q3, .int .u64 v4, .int .u64 v5, .int .u64 v6, .int .u64 v7, .int .u64 v8, .int .u64 v9, .int .u64 v10, .int .u64 v11, .bool q12])), ((.x 1), some (.row false .set4 r13)), ((.x 2), some (.row false .set4 r14))] R
def j173_atom : Fn TT := ⟨113, [.cell 2 9 true], (.seq (.reg [qo 2 (.alloc 2 [.bool false, .int .u64 0, .int .u64 0, .int .u64 0, .int .u64 0, .int .u64 0, .int .u64 0, .int .u64 0, .int .u64 0])]) (.seq (.reg [qo 6 (.mv 0),qo 7 (.call 7 157 [6]),qo 3 (.mv 7)]) (.seq (.reg [qo 8 (.mv 0),qo 9 (.nilck 8),qo 10 (.fa 9 1),qo 11 (.load 10 1 false),qo 12 (.bin .add .num 11 (iC 1)),
 qo 13 (.nilck 8),qo 14 (.fa 13 1),qp (.store 14 12 1)]) (.seq (.reg [qo 4 (.alloc 4 [.int .u64 0, .int .u64 0, .int .u64 0, .int .u64 0])]) (.seq (.block 0 (.seq (.reg [qo 18 (.mv 3),qo 19 (.bin .eql .num 18 (.c (.int .u8 40))),qo 17 (.mv 19)]) (.cond 17 (.seq (.reg [qo 20 (.mv 0),qo 21 (.call 21 138 [20]),
 qo 5 (.alloc 5 [.bool false, .int .u64 0, .int .u64 0, .int .u64 0, .int .u64 0, .int .u64 0, .int .u64 0, .int .u64 0, .int .u64 0]),qp (.store 5 21 9)]) (.seq (.cut [0, 2, 5] [(.x 0), (.s 2), (.s 5), (.x 1), (.x 2), (.sub (.s 21) 0), (.sub (.s 21) 1)]
 (.drw [(.x 0), (.x 1), (.x 2), (.sub (.s 21) 0), (.sub (.s 21) 1)] (.go 0 (.go 1 (.go 2 (.go 3 (.go 4 (.go 5 (.go 6 (.go 7 (.go 8 (.go 9 (.go 10 (.go 11 (.go 12 (.go 13 (.go 15 (.go 16 (.go 17 (.alt 14 (.go 18 (.go 19 (.go 20 (.go 21 (.go 22 (.go 23 (.go 24 .nil))))))) 18 (.go 19 (.go 14 (.go 20 (.go 21 (.go 22 (.go 23 (.go 24 .nil))))))))))))))))))))))))) [24] [0, 1, 2, 3, 5, 6, 8, 9, 10, 11, 12, 13, 15, 16, 17, 19, 20, 21, 22, 23] [qo 22 (.mv 0),
 qo 23 (.mv 0),qo 24 (.nilck 23),qo 25 (.fa 24 13),qo 26 (.load 25 1 false),qo 27 (.mv 26),qf 27 28 (.mv 0),qf 27 29 (.call 29 157 [28]),qf 27 30 (.bin .neq .num 29 (.c (.int .u8 41))),qo 31 (.pick 27 bT 30),qo 32 (.mv 31),qf 32 33 (.mv 0),qf 32 34 (.nilck 33),qf 32 35 (.fa 34 1),qf 32 36 (.load 35 1 false),qf 32 37 (.mv 0),qf 32 38 (.nilck 37),qf 32 39 (.fa 38 0),
 qf 32 40 (.load 39 1 false),qf 32 41 (.len true 40),qf 32 42 (.bin .geq .num 36 41),qo 43 (.pick 32 bT 42),qo 44 (.nilck 22),qo 45 (.fa 44 13),qp (.store 45 43 1)]) (.seq (.reg [qo 46 (.mv 0),qo 47 (.nilck 46),qo 48 (.fa 47 13),qo 49 (.load 48 1 false),qo 50 (.un .not 49)]) (.cond 50 (.reg [qo 51 (.mv 0),qo 52 (.nilck 51),qo 53 (.fa 52 1),qo 54 (.load 53 1 false),
 qo 55 (.bin .add .num 54 (iC 1)),qo 56 (.nilck 51),qo 57 (.fa 56 1),qp (.store 57 55 1)]) .skip))) (.seq (.reg [qo 58 (.load 5 9 true),qp (.store 2 58 9)]) (.pre [.ownc (.x 0) 2 .set4 (.sub (.sub (.x 0) 801) 2), .ownc (.x 0) 3 .set4 (.sub (.sub (.x 0) 801) 3)] .ret)))) (.seq (.reg [qo 60 (.mv 3),qo 61 (.bin .eql .num 60 (.c (.int .u8 46))),qo 59 (.mv 61)]) (.cond 59
 (.reg [qo 62 (.call 62 176 [4])]) (.seq (.reg [qo 64 (.mv 3),qo 65 (.bin .eql .num 64 (.c (.int .u8 91))),qo 63 (.mv 65)]) (.cond 63 (.reg [qo 66 (.mv 0),qo 67 (.call 67 177 [66]),qp (.store 4 67 4)]) (.seq (.reg [qo 69 (.mv 3),qo 70 (.bin .eql .num 69 (.c (.int .u8 92))),qo 68 (.mv 70)]) (.cond 68 (.seq (.seq (.drw [] (oR 10) [] (List.range 10) [qo 71 (.mv 0),qo 72 (.nilck 71),
 qo 73 (.fa 72 1),qo 74 (.load 73 1 false),qo 75 (.mv 0),qo 76 (.nilck 75),qo 77 (.fa 76 0),qo 78 (.load 77 1 false),qo 79 (.len true 78),qo 80 (.bin .geq .num 74 79)]) (.cond 80 (.seq (.reg [qo 81 (.mv 0),qo 82 (.nilck 81),qo 83 (.fa 82 13),qp (.store 83 bT 1)]) (.seq
 (.reg [qo 84 (.build [.bool false, .int .u64 0, .int .u64 0, .int .u64 0, .int .u64 0, .int .u64 0, .int .u64 0, .int .u64 0, .int .u64 0] []),qp (.store 2 84 9)]) (.pre [.ownc (.x 0) 2 .set4 (.sub (.sub (.x 0) 801) 2), .ownc (.x 0) 3 .set4 (.sub (.sub (.x 0) 801) 3)] .ret))) .skip)) (.seq (.drw [(.s 4)] (oR 10) [] (List.range 9) [qo 85 (.mv 0),qo 86 (.nilck 85),qo 87 (.fa 86 0),
 qo 88 (.load 87 1 false),qo 89 (.mv 0),qo 90 (.nilck 89),qo 91 (.fa 90 1),qo 92 (.load 91 1 false),qo 93 (.idxS 88 92),qo 94 (.call 94 178 [4, 93])]) (.reg [qo 95 (.mv 0),qo 96 (.nilck 95),qo 97 (.fa 96 1),qo 98 (.load 97 1 false),qo 99 (.bin .add .num 98 (iC 1)),qo 100 (.nilck 95),qo 101 (.fa 100 1),qp (.store 101 99 1)]))) (.seq (.reg [qo 103 (.mv 3),
 qo 104 (.call 104 91 [(.c (.str (⟨#[124, 42, 43, 63, 40, 41, 91, 93]⟩ : BA))), 103]),qo 105 (.bin .geq .num 104 (iC 0)),qo 102 (.mv 105)]) (.cond 102 (.seq (.reg [qo 106 (.mv 0),qo 107 (.nilck 106),qo 108 (.fa 107 13),qp (.store 108 bT 1)]) (.seq
 (.reg [qo 109 (.build [.bool false, .int .u64 0, .int .u64 0, .int .u64 0, .int .u64 0, .int .u64 0, .int .u64 0, .int .u64 0, .int .u64 0] []),qp (.store 2 109 9)]) (.pre [.ownc (.x 0) 2 .set4 (.sub (.sub (.x 0) 801) 2), .ownc (.x 0) 3 .set4 (.sub (.sub (.x 0) 801) 3)] .ret))) (.reg [qo 15 (.mv 3),qo 16 (.call 16 178 [4, 15])])))))))))))) (.seq (.reg [qo 110 (.mv 0),qo 111 (.load 4 4 true),
 qo 112 (.call 112 179 [110, 111]),qp (.store 2 112 9)]) .ret))))))⟩
theorem w138_alternatives {O : Oracle TT} (fuel : Nat) (self155_sequence : BA → Int → Bool → Int → Int → Int → Int → Int → Int → Int → Int → Bool → L4 → L4 → Option (Bool × Int × Int × Int × Int × Int × Int × Int × Int × Int × L4 × L4 × Bool)) (h155_sequence : C155_sequence O self155_sequence) (h156b_more : C156b_more O f156b_more) (h157b_peek : C157b_peek O f157b_peek) (h141a_join : C141a_join O f141a_join) (h141b_join : C141b_join O f141b_join) : C138_alternatives (fun _ => vcF (S := SS) O j138_alternatives) (b138_alternatives fuel self155_sequence) := by
 intro s1 v2 q3 v4 v5 v6 v7 v8 v9 v10 v11 q12 r13 r14 n0 en0 n1 en1 Q R hQ h
 subst en0
 subst en1
 unfold b138_alternatives at h
 refine ⟨nle rfl, rfl, ?_⟩
 conv => whnf
 refine ⟨[(.x 0), (.x 1), (.x 2)], ?_⟩
 conv => whnf
 refine h155_sequence _ _ _ _ _ _ _ _ _ _ _ _ _ _ _ LN _ LN _ _ ?_ (sat_bind h)
 rintro q15 v16 v17 v18 v19 v20 v21 v22 v23 v24 l25 l26 q27 _ rfl _ rfl h
 obtain ⟨R149, h, hlR149, hrR149⟩ := sat_sbind h
 conv => whnf
 refine ⟨fun σ => ∃ (q134 : Bool) (v135 : Int) (v136 : Int) (v137 : Int) (v138 : Int) (v139 : Int) (v140 : Int) (v141 : Int) (v142 : Int) (v143 : Int) (q144 : Bool) (l145 : L4) (l146 : L4) (n147 : Nat) (n148 : Nat), n147 = l145.length ∧ n148 = l146.length ∧ R149 (.inr (q134, v135, v136, v137, v138, v139, v140, v141, v142, v143, q144, l145, l146)) ∧ σ = ⟨[(2, .c (.ptr (.s 2) 0 0)), (3, .c (.ptr (.s 3) 0 0))], [((.s 2), some (.var [.bool false, .int .u64 0, .int .u64 0, .int .u64 0, .int .u64 0, .int .u64 0, .int .u64 0, .int .u64 0, .int .u64 0])), ((.s 3), some (.var [.bool q134, .int .u64 v135, .int .u64 v136, .int .u64 v137, .int .u64 v138, .int .u64 v139, .int .u64 v140, .int .u64 v141, .int .u64 v142])), ((.x 0), some (.var [.str s1, .int .i64 v143, .osl (.sub (.sub (.x 0) 600) 2) 0 n147, .osl (.sub (.sub (.x 0) 600) 3) 0 n148, .bool q3, .int .u64 v4, .int .u64 v5, .int .u64 v6, .int .u64 v7, .int .u64 v8, .int .u64 v9, .int .u64 v10, .int .u64 v11, .bool q144])), ((.sub (.sub (.x 0) 600) 2), some (.row false .set4 l145)), ((.sub (.sub (.x 0) 600) 3), some (.row false .set4 l146))]⟩, ?_, ?_⟩
 conv => whnf
 refine ⟨fun σ n => ∃ (f203 : Nat) (l204 : L4) (l205 : L4) (v206 : Int) (q207 : Bool) (q208 : Bool) (v209 : Int) (v210 : Int) (v211 : Int) (v212 : Int) (v213 : Int) (v214 : Int) (v215 : Int) (v216 : Int) (n217 : Nat) (n218 : Nat), f203 = n ∧ n217 = l204.length ∧ n218 = l205.length ∧ sat (f138_alternatives_L2 self155_sequence s1 q3 v4 v5 v6 v7 v8 v9 v10 v11 f203 l204 l205 v206 q207 q208 v209 v210 v211 v212 v213 v214 v215 v216) R149 ∧ σ.keep [0, 2, 3] [(.x 0), (.s 2), (.s 3), (.sub (.sub (.x 0) 600) 2), (.sub (.sub (.x 0) 600) 3)] = ⟨[(0, .c (.ptr (.x 0) 0 0)), (2, .c (.ptr (.s 2) 0 0)), (3, .c (.ptr (.s 3) 0 0))], [((.x 0), some (.var [.str s1, .int .i64 v206, .osl (.sub (.sub (.x 0) 600) 2) 0 n217, .osl (.sub (.sub (.x 0) 600) 3) 0 n218, .bool q3, .int .u64 v4, .int .u64 v5, .int .u64 v6, .int .u64 v7, .int .u64 v8, .int .u64 v9, .int .u64 v10, .int .u64 v11, .bool q207])), ((.s 2), some (.var [.bool false, .int .u64 0, .int .u64 0, .int .u64 0, .int .u64 0, .int .u64 0, .int .u64 0, .int .u64 0, .int .u64 0])), ((.s 3), some (.var [.bool q208, .int .u64 v209, .int .u64 v210, .int .u64 v211, .int .u64 v212, .int .u64 v213, .int .u64 v214, .int .u64 v215, .int .u64 v216])), ((.sub (.sub (.x 0) 600) 2), some (.row false .set4 l204)), ((.sub (.sub (.x 0) 600) 3), some (.row false .set4 l205))]⟩, ⟨_, _, l25, l26, v24, q27, q15, v16, v17, v18, v19, v20, v21, v22, v23, _, _, rfl, LN, LN, h, rfl⟩, ?_⟩
 rintro σ n ⟨f203, l204, l205, v206, q207, q208, v209, v210, v211, v212, v213, v214, v215, v216, _, _, rfl, rfl, rfl, h, hσ⟩
 refine kk hσ ?_
 rcases f203 with _ | g202
 rw [f138_alternatives_L2] at h; exact nn h
 rw [f138_alternatives_L2] at h
 conv => whnf
 refine ⟨[(.x 0), (.sub (.sub (.x 0) 600) 2), (.sub (.sub (.x 0) 600) 3)], ?_⟩
 conv => whnf
 refine h156b_more _ _ _ _ _ _ _ _ _ _ _ _ _ _ _ LN _ LN _ _ ?_ (sat_bind h)
 rintro q219 l220 l221 q222 _ rfl _ rfl hkrl220 hkrl221 h
 cases q219
 replace h := sat_cf h
 conv => whnf
 exact ⟨q208, v209, v210, v211, v212, v213, v214, v215, v216, v206, q222, l220, l221, _, _, LN, LN, sat_some h, rfl⟩
 replace h := sat_ct h
 conv => whnf
 refine ⟨[(.x 0), (.sub (.sub (.x 0) 600) 2), (.sub (.sub (.x 0) 600) 3)], ?_⟩
 conv => whnf
 refine h157b_peek _ _ _ _ _ _ _ _ _ _ _ _ _ _ _ LN _ LN _ _ ?_ (sat_bind h)
 rintro v223 l224 l225 _ rfl _ rfl hkrl224 hkrl225 h
 conv => whnf
 refine kc h (fun h => ?_) fun h => ?_
 conv => whnf
 exact ⟨q208, v209, v210, v211, v212, v213, v214, v215, v216, v206, q222, l224, l225, _, _, LN, LN, sat_some h, rfl⟩
 conv => whnf
 refine ⟨[(.x 0), (.sub (.sub (.x 0) 600) 2), (.sub (.sub (.x 0) 600) 3)], ?_⟩
 conv => whnf
 refine h155_sequence _ _ _ _ _ _ _ _ _ _ _ _ _ _ _ LN _ LN _ _ ?_ (sat_bind h)
 rintro q227 v228 v229 v230 v231 v232 v233 v234 v235 v236 l237 l238 q239 _ rfl _ rfl h
 cases q208
 replace h := sat_cf h
 conv => whnf
 refine ⟨[(.s 3)], ?_⟩
 conv => whnf
 refine h141a_join _ _ _ _ _ _ _ _ _ _ _ _ _ _ _ ?_ (sat_bind h)
 rintro v240 v241 v242 v243 h
 conv => whnf
 refine ⟨[(.s 3)], ?_⟩
 conv => whnf
 refine h141b_join _ _ _ _ _ _ _ _ _ _ _ _ _ _ _ ?_ (sat_bind h)
 rintro v244 v245 v246 v247 h
 conv => whnf
 exact ⟨g202, nls, g202, l237, l238, v236, q239, q227, v240, v241, v242, v243, v244, v245, v246, v247, _, _, rfl, LN, LN, h, rfl⟩
 replace h := sat_ct h
 conv => whnf
 refine ⟨[(.s 3)], ?_⟩
 conv => whnf
 refine h141a_join _ _ _ _ _ _ _ _ _ _ _ _ _ _ _ ?_ (sat_bind h)
 rintro v248 v249 v250 v251 h
 conv => whnf
 refine ⟨[(.s 3)], ?_⟩
 conv => whnf
 refine h141b_join _ _ _ _ _ _ _ _ _ _ _ _ _ _ _ ?_ (sat_bind h)
 rintro v252 v253 v254 v255 h
 conv => whnf
 exact ⟨g202, nls, g202, l237, l238, v236, q239, true, v248, v249, v250, v251, v252, v253, v254, v255, _, _, rfl, LN, LN, h, rfl⟩
 rintro _ ⟨q134, v135, v136, v137, v138, v139, v140, v141, v142, v143, q144, l145, l146, _, _, rfl, rfl, h, rfl⟩
 replace h := hrR149 _ h
 conv => whnf
 exact ⟨[(.sub (.sub (.x 0) 600) 2), (.sub (.sub (.x 0) 600) 3)], ND 3, hQ _ _ _ _ _ _ _ _ _ _ _ _ _ _ LN _ LN (sat_some h)⟩
theorem w155_sequence {O : Oracle TT} (fuel : Nat) (self168_item : BA → Int → Bool → Int → Int → Int → Int → Int → Int → Int → Int → Bool → L4 → L4 → Option (Bool × Int × Int × Int × Int × Int × Int × Int × Int × Int × L4 × L4 × Bool)) (h156b_more : C156b_more O f156b_more) (h157b_peek : C157b_peek O f157b_peek) (h168_item : C168_item O self168_item) (h169_link : C169_link O f169_link) (h141a_join : C141a_join O f141a_join) (h141b_join : C141b_join O f141b_join) : C155_sequence (fun _ => vcF (S := SS) O j155_sequence) (b155_sequence fuel self168_item) := by
 intro s1 v2 q3 v4 v5 v6 v7 v8 v9 v10 v11 q12 r13 r14 n0 en0 n1 en1 Q R hQ h
 subst en0
 subst en1
 unfold b155_sequence at h
 refine ⟨nle rfl, rfl, ?_⟩
 obtain ⟨R164, h, hlR164, hrR164⟩ := sat_sbind h
 conv => whnf
 refine ⟨fun σ => ∃ (q149 : Bool) (v150 : Int) (v151 : Int) (v152 : Int) (v153 : Int) (v154 : Int) (v155 : Int) (v156 : Int) (v157 : Int) (v158 : Int) (q159 : Bool) (l160 : L4) (l161 : L4) (n162 : Nat) (n163 : Nat), n162 = l160.length ∧ n163 = l161.length ∧ R164 (.inr (q149, v150, v151, v152, v153, v154, v155, v156, v157, v158, q159, l160, l161)) ∧ σ = ⟨[(2, .c (.ptr (.s 2) 0 0)), (3, .c (.ptr (.s 3) 0 0))], [((.s 2), some (.var [.bool false, .int .u64 0, .int .u64 0, .int .u64 0, .int .u64 0, .int .u64 0, .int .u64 0, .int .u64 0, .int .u64 0])), ((.s 3), some (.var [.bool q149, .int .u64 v150, .int .u64 v151, .int .u64 v152, .int .u64 v153, .int .u64 v154, .int .u64 v155, .int .u64 v156, .int .u64 v157])), ((.x 0), some (.var [.str s1, .int .i64 v158, .osl (.sub (.sub (.x 0) 600) 2) 0 n162, .osl (.sub (.sub (.x 0) 600) 3) 0 n163, .bool q3, .int .u64 v4, .int .u64 v5, .int .u64 v6, .int .u64 v7, .int .u64 v8, .int .u64 v9, .int .u64 v10, .int .u64 v11, .bool q159])), ((.sub (.sub (.x 0) 600) 2), some (.row false .set4 l160)), ((.sub (.sub (.x 0) 600) 3), some (.row false .set4 l161))]⟩, ?_, ?_⟩
 conv => whnf
 refine ⟨fun σ n => ∃ (f232 : Nat) (l233 : L4) (l234 : L4) (v235 : Int) (q236 : Bool) (q237 : Bool) (v238 : Int) (v239 : Int) (v240 : Int) (v241 : Int) (v242 : Int) (v243 : Int) (v244 : Int) (v245 : Int) (n246 : Nat) (n247 : Nat), f232 = n ∧ n246 = l233.length ∧ n247 = l234.length ∧ sat (f155_sequence_L2 self168_item s1 q3 v4 v5 v6 v7 v8 v9 v10 v11 f232 l233 l234 v235 q236 q237 v238 v239 v240 v241 v242 v243 v244 v245) R164 ∧ σ.keep [0, 2, 3] [(.x 0), (.s 2), (.s 3), (.sub (.sub (.x 0) 600) 2), (.sub (.sub (.x 0) 600) 3)] = ⟨[(0, .c (.ptr (.x 0) 0 0)), (2, .c (.ptr (.s 2) 0 0)), (3, .c (.ptr (.s 3) 0 0))], [((.x 0), some (.var [.str s1, .int .i64 v235, .osl (.sub (.sub (.x 0) 600) 2) 0 n246, .osl (.sub (.sub (.x 0) 600) 3) 0 n247, .bool q3, .int .u64 v4, .int .u64 v5, .int .u64 v6, .int .u64 v7, .int .u64 v8, .int .u64 v9, .int .u64 v10, .int .u64 v11, .bool q236])), ((.s 2), some (.var [.bool false, .int .u64 0, .int .u64 0, .int .u64 0, .int .u64 0, .int .u64 0, .int .u64 0, .int .u64 0, .int .u64 0])), ((.s 3), some (.var [.bool q237, .int .u64 v238, .int .u64 v239, .int .u64 v240, .int .u64 v241, .int .u64 v242, .int .u64 v243, .int .u64 v244, .int .u64 v245])), ((.sub (.sub (.x 0) 600) 2), some (.row false .set4 l233)), ((.sub (.sub (.x 0) 600) 3), some (.row false .set4 l234))]⟩, ⟨_, _, r13, r14, v2, q12, true, (0 : Int), (0 : Int), (0 : Int), (0 : Int), (0 : Int), (0 : Int), (0 : Int), (0 : Int), _, _, rfl, LN, LN, h, rfl⟩, ?_⟩
 rintro σ n ⟨f232, l233, l234, v235, q236, q237, v238, v239, v240, v241, v242, v243, v244, v245, _, _, rfl, rfl, rfl, h, hσ⟩
 refine kk hσ ?_
 rcases f232 with _ | g231
 rw [f155_sequence_L2] at h; exact nn h
 rw [f155_sequence_L2] at h
 conv => whnf
 refine ⟨[(.x 0), (.sub (.sub (.x 0) 600) 2), (.sub (.sub (.x 0) 600) 3)], ?_⟩
 conv => whnf
 refine h156b_more _ _ _ _ _ _ _ _ _ _ _ _ _ _ _ LN _ LN _ _ ?_ (sat_bind h)
 rintro q248 l249 l250 q251 _ rfl _ rfl hkrl249 hkrl250 h
 cases q248
 replace h := sat_cf h
 conv => whnf
 exact ⟨q237, v238, v239, v240, v241, v242, v243, v244, v245, v235, q251, l249, l250, _, _, LN, LN, sat_some h, rfl⟩
 replace h := sat_ct h
 conv => whnf
 refine ⟨[(.x 0), (.sub (.sub (.x 0) 600) 2), (.sub (.sub (.x 0) 600) 3)], ?_⟩
 conv => whnf
 refine h157b_peek _ _ _ _ _ _ _ _ _ _ _ _ _ _ _ LN _ LN _ _ ?_ (sat_bind h)
 rintro v252 l253 l254 _ rfl _ rfl hkrl253 hkrl254 h
 conv => whnf
 refine kc h (fun h => ?_) fun h => ?_
 conv => whnf
 exact ⟨q237, v238, v239, v240, v241, v242, v243, v244, v245, v235, q251, l253, l254, _, _, LN, LN, sat_some h, rfl⟩
 conv => whnf
 refine ⟨[(.x 0), (.sub (.sub (.x 0) 600) 2), (.sub (.sub (.x 0) 600) 3)], ?_⟩
 conv => whnf
 refine h157b_peek _ _ _ _ _ _ _ _ _ _ _ _ _ _ _ LN _ LN _ _ ?_ (sat_bind h)
 rintro v256 l257 l258 _ rfl _ rfl hkrl257 hkrl258 h
 conv => whnf
 refine kc h (fun h => ?_) fun h => ?_
 conv => whnf
 exact ⟨q237, v238, v239, v240, v241, v242, v243, v244, v245, v235, q251, l257, l258, _, _, LN, LN, sat_some h, rfl⟩
 conv => whnf
 refine ⟨[(.x 0), (.sub (.sub (.x 0) 600) 2), (.sub (.sub (.x 0) 600) 3)], ?_⟩
 conv => whnf
 refine h168_item _ _ _ _ _ _ _ _ _ _ _ _ _ _ _ LN _ LN _ _ ?_ (sat_bind h)
 rintro q260 v261 v262 v263 v264 v265 v266 v267 v268 v269 l270 l271 q272 _ rfl _ rfl h
 conv => whnf
 refine ⟨[(.x 0), (.sub (.s 19) 0), (.sub (.s 19) 1)], ?_⟩
 conv => whnf
 refine h169_link _ _ _ _ _ _ _ _ _ _ _ _ _ _ _ _ _ _ _ _ _ _ _ LN _ LN _ _ ?_ (sat_bind h)
 rintro l273 l274 _ rfl _ rfl hkrl273 hkrl274 h
 obtain ⟨R284, h, hlR284, hrR284⟩ := sat_sbind h
 conv => whnf
 refine ⟨fun σ => ∃ (q279 : Bool) (v280 : Int) (v281 : Int) (v282 : Int) (v283 : Int), R284 (.inr (q279, v280, v281, v282, v283)) ∧ σ = ⟨[(0, .c (.ptr (.x 0) 0 0)), (2, .c (.ptr (.s 2) 0 0)), (3, .c (.ptr (.s 3) 0 0)), (4, .c (.ptr (.s 4) 0 0))], [((.x 0), some (.var [.str s1, .int .i64 v269, .osl (.sub (.s 19) 0) 0 l273.length, .osl (.sub (.s 19) 1) 0 l274.length, .bool q3, .int .u64 v4, .int .u64 v5, .int .u64 v6, .int .u64 v7, .int .u64 v8, .int .u64 v9, .int .u64 v10, .int .u64 v11, .bool q272])), ((.s 2), some (.var [.bool false, .int .u64 0, .int .u64 0, .int .u64 0, .int .u64 0, .int .u64 0, .int .u64 0, .int .u64 0, .int .u64 0])), ((.s 3), some (.var [.bool q279, .int .u64 v280, .int .u64 v281, .int .u64 v282, .int .u64 v283, .int .u64 v242, .int .u64 v243, .int .u64 v244, .int .u64 v245])), ((.s 4), some (.var [.bool q260, .int .u64 v261, .int .u64 v262, .int .u64 v263, .int .u64 v264, .int .u64 v265, .int .u64 v266, .int .u64 v267, .int .u64 v268])), ((.sub (.s 19) 0), some (.row false .set4 l273)), ((.sub (.s 19) 1), some (.row false .set4 l274))]⟩, ?_, ?_⟩
 cases q237
 replace h := sat_cf h
 conv => whnf
 exact ⟨false, v238, v239, v240, v241, sat_some h, rfl⟩
 replace h := sat_ct h
 conv => whnf
 refine ⟨[(.s 3)], ?_⟩
 conv => whnf
 refine h141a_join _ _ _ _ _ _ _ _ _ _ _ _ _ _ _ ?_ (sat_bind h)
 rintro v285 v286 v287 v288 h
 conv => whnf
 exact ⟨true, v285, v286, v287, v288, sat_some h, rfl⟩
 rintro _ ⟨q279, v280, v281, v282, v283, h, rfl⟩
 replace h := hrR284 _ h
 obtain ⟨R294, h, hlR294, hrR294⟩ := sat_sbind h
 conv => whnf
 refine ⟨fun σ => ∃ (v289 : Int) (v290 : Int) (v291 : Int) (v292 : Int) (q293 : Bool), R294 (.inr (v289, v290, v291, v292, q293)) ∧ σ = ⟨[(0, .c (.ptr (.x 0) 0 0)), (2, .c (.ptr (.s 2) 0 0)), (3, .c (.ptr (.s 3) 0 0)), (4, .c (.ptr (.s 4) 0 0))], [((.x 0), some (.var [.str s1, .int .i64 v269, .osl (.sub (.s 19) 0) 0 l273.length, .osl (.sub (.s 19) 1) 0 l274.length, .bool q3, .int .u64 v4, .int .u64 v5, .int .u64 v6, .int .u64 v7, .int .u64 v8, .int .u64 v9, .int .u64 v10, .int .u64 v11, .bool q272])), ((.s 2), some (.var [.bool false, .int .u64 0, .int .u64 0, .int .u64 0, .int .u64 0, .int .u64 0, .int .u64 0, .int .u64 0, .int .u64 0])), ((.s 3), some (.var [.bool q279, .int .u64 v280, .int .u64 v281, .int .u64 v282, .int .u64 v283, .int .u64 v289, .int .u64 v290, .int .u64 v291, .int .u64 v292])), ((.s 4), some (.var [.bool q293, .int .u64 v261, .int .u64 v262, .int .u64 v263, .int .u64 v264, .int .u64 v265, .int .u64 v266, .int .u64 v267, .int .u64 v268])), ((.sub (.s 19) 0), some (.row false .set4 l273)), ((.sub (.s 19) 1), some (.row false .set4 l274))]⟩, ?_, ?_⟩
 cases q260
 replace h := sat_cf h
 conv => whnf
 exact ⟨(0 : Int), (0 : Int), (0 : Int), (0 : Int), false, sat_some h, rfl⟩
 replace h := sat_ct h
 conv => whnf
 exact ⟨v242, v243, v244, v245, true, sat_some h, rfl⟩
 rintro _ ⟨v289, v290, v291, v292, q293, h, rfl⟩
 replace h := hrR294 _ h
 conv => whnf
 refine ⟨[(.s 3)], ?_⟩
 conv => whnf
 refine h141b_join _ _ _ _ _ _ _ _ _ _ _ _ _ _ _ ?_ (sat_bind h)
 rintro v295 v296 v297 v298 h
 cases q279
 replace h := sat_cf h
 conv => whnf
 exact ⟨g231, nls, g231, l273, l274, v269, q272, false, v280, v281, v282, v283, v295, v296, v297, v298, _, _, rfl, LN, LN, h, rfl⟩
 replace h := sat_ct h
 conv => whnf
 exact ⟨g231, nls, g231, l273, l274, v269, q272, q293, v280, v281, v282, v283, v295, v296, v297, v298, _, _, rfl, LN, LN, h, rfl⟩
 rintro _ ⟨q149, v150, v151, v152, v153, v154, v155, v156, v157, v158, q159, l160, l161, _, _, rfl, rfl, h, rfl⟩
 replace h := hrR164 _ h
 conv => whnf
 exact ⟨[(.sub (.sub (.x 0) 600) 2), (.sub (.sub (.x 0) 600) 3)], ND 3, hQ _ _ _ _ _ _ _ _ _ _ _ _ _ _ LN _ LN (sat_some h)⟩
theorem w168_item {O : Oracle TT} (self173_atom : BA → Int → Bool → Int → Int → Int → Int → Int → Int → Int → Int → Bool → L4 → L4 → Option (Bool × Int × Int × Int × Int × Int × Int × Int × Int × Int × L4 × L4 × Bool)) (h156b_more : C156b_more O f156b_more) (h157b_peek : C157b_peek O f157b_peek) (h173_atom : C173_atom O self173_atom) (h169_link : C169_link O f169_link) : C168_item (fun _ => vcF (S := SS) O j168_item) (b168_item self173_atom) := by
 intro s1 v2 q3 v4 v5 v6 v7 v8 v9 v10 v11 q12 r13 r14 n0 en0 n1 en1 Q R hQ h
 subst en0
 subst en1
 unfold b168_item at h
 refine ⟨nle rfl, rfl, ?_⟩
 conv => whnf
 refine ⟨[(.x 0), (.x 1), (.x 2)], ?_⟩
 conv => whnf
 refine h173_atom _ _ _ _ _ _ _ _ _ _ _ _ _ _ _ LN _ LN _ _ ?_ (sat_bind h)
 rintro q15 v16 v17 v18 v19 v20 v21 v22 v23 v24 l25 l26 q27 _ rfl _ rfl h
 conv => whnf
 refine ⟨[(.x 0), (.sub (.s 6) 0), (.sub (.s 6) 1)], ?_⟩
 conv => whnf
 refine h156b_more _ _ _ _ _ _ _ _ _ _ _ _ _ _ _ LN _ LN _ _ ?_ (sat_bind h)
 rintro q28 l29 l30 q31 _ rfl _ rfl hkrl29 hkrl30 h
 cases q28
 replace h := sat_cf h
 conv => whnf
 exact ⟨[(.sub (.s 6) 0), (.sub (.s 6) 1)], ND 3, hQ _ _ _ _ _ _ _ _ _ _ _ _ _ _ LN _ LN (sat_some h)⟩
 replace h := sat_ct h
 conv => whnf
 refine ⟨[(.x 0), (.sub (.s 6) 0), (.sub (.s 6) 1)], ?_⟩
 conv => whnf
 refine h157b_peek _ _ _ _ _ _ _ _ _ _ _ _ _ _ _ LN _ LN _ _ ?_ (sat_bind h)
 rintro v32 l33 l34 _ rfl _ rfl hkrl33 hkrl34 h
 conv => whnf
 refine kc h (fun h => ?_) fun h => ?_
 conv => whnf
 refine kc h (fun h => ?_) fun h => ?_
 cases q15
 replace h := sat_cf h
 conv => whnf
 refine kc h (fun h => ?_) fun h => ?_
 conv => whnf
 exact ⟨[(.sub (.s 6) 0), (.sub (.s 6) 1)], ND 3, hQ _ _ _ _ _ _ _ _ _ _ _ _ _ _ LN _ LN (sat_some h)⟩
 conv => whnf
 exact ⟨[(.sub (.s 6) 0), (.sub (.s 6) 1)], ND 3, hQ _ _ _ _ _ _ _ _ _ _ _ _ _ _ LN _ LN (sat_some h)⟩
 replace h := sat_ct h
 conv => whnf
 exact ⟨[(.sub (.s 6) 0), (.sub (.s 6) 1)], ND 3, hQ _ _ _ _ _ _ _ _ _ _ _ _ _ _ LN _ LN (sat_some h)⟩
 conv => whnf
 refine ⟨[(.x 0), (.sub (.s 6) 0), (.sub (.s 6) 1)], ?_⟩
 conv => whnf
 refine h169_link _ _ _ _ _ _ _ _ _ _ _ _ _ _ _ _ _ _ _ _ _ _ _ LN _ LN _ _ ?_ (sat_bind h)
 rintro l38 l39 _ rfl _ rfl hkrl38 hkrl39 h
 cases q15
 replace h := sat_cf h
 conv => whnf
 refine kc h (fun h => ?_) fun h => ?_
 conv => whnf
 exact ⟨[(.sub (.s 6) 0), (.sub (.s 6) 1)], ND 3, hQ _ _ _ _ _ _ _ _ _ _ _ _ _ _ LN _ LN (sat_some h)⟩
 conv => whnf
 exact ⟨[(.sub (.s 6) 0), (.sub (.s 6) 1)], ND 3, hQ _ _ _ _ _ _ _ _ _ _ _ _ _ _ LN _ LN (sat_some h)⟩
 replace h := sat_ct h
 conv => whnf
 exact ⟨[(.sub (.s 6) 0), (.sub (.s 6) 1)], ND 3, hQ _ _ _ _ _ _ _ _ _ _ _ _ _ _ LN _ LN (sat_some h)⟩
 conv => whnf
 refine kc h (fun h => ?_) fun h => ?_
 conv => whnf
 refine kc h (fun h => ?_) fun h => ?_
 cases q15
 replace h := sat_cf h
 conv => whnf
 refine kc h (fun h => ?_) fun h => ?_
 conv => whnf
 exact ⟨[(.sub (.s 6) 0), (.sub (.s 6) 1)], ND 3, hQ _ _ _ _ _ _ _ _ _ _ _ _ _ _ LN _ LN (sat_some h)⟩
 conv => whnf
 exact ⟨[(.sub (.s 6) 0), (.sub (.s 6) 1)], ND 3, hQ _ _ _ _ _ _ _ _ _ _ _ _ _ _ LN _ LN (sat_some h)⟩
 replace h := sat_ct h
 conv => whnf
 exact ⟨[(.sub (.s 6) 0), (.sub (.s 6) 1)], ND 3, hQ _ _ _ _ _ _ _ _ _ _ _ _ _ _ LN _ LN (sat_some h)⟩
 conv => whnf
 refine ⟨[(.x 0), (.sub (.s 6) 0), (.sub (.s 6) 1)], ?_⟩
 conv => whnf
 refine h169_link _ _ _ _ _ _ _ _ _ _ _ _ _ _ _ _ _ _ _ _ _ _ _ LN _ LN _ _ ?_ (sat_bind h)
 rintro l44 l45 _ rfl _ rfl hkrl44 hkrl45 h
 cases q15
 replace h := sat_cf h
 conv => whnf
 refine kc h (fun h => ?_) fun h => ?_
 conv => whnf
 exact ⟨[(.sub (.s 6) 0), (.sub (.s 6) 1)], ND 3, hQ _ _ _ _ _ _ _ _ _ _ _ _ _ _ LN _ LN (sat_some h)⟩
 conv => whnf
 exact ⟨[(.sub (.s 6) 0), (.sub (.s 6) 1)], ND 3, hQ _ _ _ _ _ _ _ _ _ _ _ _ _ _ LN _ LN (sat_some h)⟩
 replace h := sat_ct h
 conv => whnf
 exact ⟨[(.sub (.s 6) 0), (.sub (.s 6) 1)], ND 3, hQ _ _ _ _ _ _ _ _ _ _ _ _ _ _ LN _ LN (sat_some h)⟩
 conv => whnf
 refine kc h (fun h => ?_) fun h => ?_
 conv => whnf
 refine kc h (fun h => ?_) fun h => ?_
 cases q15
 replace h := sat_cf h
 conv => whnf
 refine kc h (fun h => ?_) fun h => ?_
 conv => whnf
 exact ⟨[(.sub (.s 6) 0), (.sub (.s 6) 1)], ND 3, hQ _ _ _ _ _ _ _ _ _ _ _ _ _ _ LN _ LN (sat_some h)⟩
 conv => whnf
 exact ⟨[(.sub (.s 6) 0), (.sub (.s 6) 1)], ND 3, hQ _ _ _ _ _ _ _ _ _ _ _ _ _ _ LN _ LN (sat_some h)⟩
 replace h := sat_ct h
 conv => whnf
 exact ⟨[(.sub (.s 6) 0), (.sub (.s 6) 1)], ND 3, hQ _ _ _ _ _ _ _ _ _ _ _ _ _ _ LN _ LN (sat_some h)⟩
 conv => whnf
 refine ⟨[(.x 0), (.sub (.s 6) 0), (.sub (.s 6) 1)], ?_⟩
 conv => whnf
 refine h169_link _ _ _ _ _ _ _ _ _ _ _ _ _ _ _ _ _ _ _ _ _ _ _ LN _ LN _ _ ?_ (sat_bind h)
 rintro l50 l51 _ rfl _ rfl hkrl50 hkrl51 h
 cases q15
 replace h := sat_cf h
 conv => whnf
 refine kc h (fun h => ?_) fun h => ?_
 conv => whnf
 exact ⟨[(.sub (.s 6) 0), (.sub (.s 6) 1)], ND 3, hQ _ _ _ _ _ _ _ _ _ _ _ _ _ _ LN _ LN (sat_some h)⟩
 conv => whnf
 exact ⟨[(.sub (.s 6) 0), (.sub (.s 6) 1)], ND 3, hQ _ _ _ _ _ _ _ _ _ _ _ _ _ _ LN _ LN (sat_some h)⟩
 replace h := sat_ct h
 conv => whnf
 exact ⟨[(.sub (.s 6) 0), (.sub (.s 6) 1)], ND 3, hQ _ _ _ _ _ _ _ _ _ _ _ _ _ _ LN _ LN (sat_some h)⟩
 conv => whnf
 exact ⟨[(.sub (.s 6) 0), (.sub (.s 6) 1)], ND 3, hQ _ _ _ _ _ _ _ _ _ _ _ _ _ _ LN _ LN (sat_some h)⟩
theorem w173_atom {O : Oracle TT} (fuel : Nat) (self138_alternatives : BA → Int → Bool → Int → Int → Int → Int → Int → Int → Int → Int → Bool → L4 → L4 → Option (Bool × Int × Int × Int × Int × Int × Int × Int × Int × Int × L4 × L4 × Bool)) (h91_IndexByte : C91_IndexByte O f91_IndexByte) (h178_add : C178_add O f178_add) (h138_alternatives : C138_alternatives O self138_alternatives) (h157b_peek : C157b_peek O f157b_peek) (h179_position : C179_position O f179_position) (h177_bytes : C177_bytes O (f177_bytes fuel)) (h176_turn : C176_turn O f176_turn) : C173_atom (fun _ => vcF (S := SS) O j173_atom) (b173_atom fuel self138_alternatives) := by
 intro s1 v2 q3 v4 v5 v6 v7 v8 v9 v10 v11 q12 r13 r14 n0 en0 n1 en1 Q R hQ h
 subst en0
 subst en1
 unfold b173_atom at h
 refine ⟨nle rfl, rfl, ?_⟩
 conv => whnf
 refine ⟨[(.x 0), (.x 1), (.x 2)], ?_⟩
 conv => whnf
 refine h157b_peek _ _ _ _ _ _ _ _ _ _ _ _ _ _ _ LN _ LN _ _ ?_ (sat_bind h)
 rintro v15 l16 l17 _ rfl _ rfl hkrl16 hkrl17 h
 conv => whnf
 refine kc h (fun h => ?_) fun h => ?_
 conv => whnf
 refine kc h (fun h => ?_) fun h => ?_
 conv => whnf
 refine kc h (fun h => ?_) fun h => ?_
 conv => whnf
 refine kc h (fun h => ?_) fun h => ?_
 conv => whnf
 refine ⟨[], ?_⟩
 conv => whnf
 refine h91_IndexByte _ _ _ _ ?_ (sat_bind h)
 rintro v22 h
 conv => whnf
 refine kc h (fun h => ?_) fun h => ?_
 conv => whnf
 refine ⟨[(.s 4)], ?_⟩
 conv => whnf
 refine h178_add _ _ _ _ _ _ _ ?_ (sat_bind h)
 rintro v24 v25 v26 v27 h
 conv => whnf
 refine ⟨[(.x 0), (.x 1), (.x 2)], ?_⟩
 conv => whnf
 refine h179_position _ _ _ _ _ _ _ _ _ _ _ _ _ _ _ _ _ _ _ LN _ LN _ _ ?_ (sat_bind h)
 rintro q28 v29 v30 v31 v32 v33 v34 v35 v36 l37 l38 q39 _ rfl _ rfl h
 conv => whnf
 exact ⟨[(.sub (.s 112) 0), (.sub (.s 112) 1)], ND 3, hQ _ _ _ _ _ _ _ _ _ _ _ _ _ _ LN _ LN (sat_some h)⟩
 conv => whnf
 exact ⟨[(.sub (.sub (.x 0) 801) 2), (.sub (.sub (.x 0) 801) 3)], ND 3, hQ _ _ _ _ _ _ _ _ _ _ _ _ _ _ LN _ LN (sat_some h)⟩
 conv => whnf
 refine kc h (fun h => ?_) fun h => ?_
 conv => whnf
 refine kg (sat_getB h) fun c41 hc41 h => ?_
 conv => whnf
 refine ⟨[(.s 4)], ?_⟩
 conv => whnf
 refine h178_add _ _ _ _ _ _ _ ?_ (sat_bind h)
 rintro v42 v43 v44 v45 h
 conv => whnf
 refine ⟨[(.x 0), (.x 1), (.x 2)], ?_⟩
 conv => whnf
 refine h179_position _ _ _ _ _ _ _ _ _ _ _ _ _ _ _ _ _ _ _ LN _ LN _ _ ?_ (sat_bind h)
 rintro q46 v47 v48 v49 v50 v51 v52 v53 v54 l55 l56 q57 _ rfl _ rfl h
 conv => whnf
 exact ⟨[(.sub (.s 112) 0), (.sub (.s 112) 1)], ND 3, hQ _ _ _ _ _ _ _ _ _ _ _ _ _ _ LN _ LN (sat_some h)⟩
 conv => whnf
 exact ⟨[(.sub (.sub (.x 0) 801) 2), (.sub (.sub (.x 0) 801) 3)], ND 3, hQ _ _ _ _ _ _ _ _ _ _ _ _ _ _ LN _ LN (sat_some h)⟩
 conv => whnf
 refine ⟨[(.x 0), (.x 1), (.x 2)], ?_⟩
 conv => whnf
 refine h177_bytes _ _ _ _ _ _ _ _ _ _ _ _ _ _ _ LN _ LN _ _ ?_ (sat_bind h)
 rintro w58 w59 w60 w61 v62 l63 l64 q65 _ rfl _ rfl hkrl63 hkrl64 h
 conv => whnf
 refine ⟨[(.x 0), (.x 1), (.x 2)], ?_⟩
 conv => whnf
 refine h179_position _ _ _ _ _ _ _ _ _ _ _ _ _ _ _ _ _ _ _ LN _ LN _ _ ?_ (sat_bind h)
 rintro q66 v67 v68 v69 v70 v71 v72 v73 v74 l75 l76 q77 _ rfl _ rfl h
 conv => whnf
 exact ⟨[(.sub (.s 112) 0), (.sub (.s 112) 1)], ND 3, hQ _ _ _ _ _ _ _ _ _ _ _ _ _ _ LN _ LN (sat_some h)⟩
 conv => whnf
 refine ⟨[(.s 4)], ?_⟩
 conv => whnf
 refine h176_turn _ _ _ _ _ _ ?_ (sat_bind h)
 rintro v78 v79 v80 v81 h
 conv => whnf
 refine ⟨[(.x 0), (.x 1), (.x 2)], ?_⟩
 conv => whnf
 refine h179_position _ _ _ _ _ _ _ _ _ _ _ _ _ _ _ _ _ _ _ LN _ LN _ _ ?_ (sat_bind h)
 rintro q82 v83 v84 v85 v86 v87 v88 v89 v90 l91 l92 q93 _ rfl _ rfl h
 conv => whnf
 exact ⟨[(.sub (.s 112) 0), (.sub (.s 112) 1)], ND 3, hQ _ _ _ _ _ _ _ _ _ _ _ _ _ _ LN _ LN (sat_some h)⟩
 conv => whnf
 refine ⟨[(.x 0), (.x 1), (.x 2)], ?_⟩
 conv => whnf
 refine h138_alternatives _ _ _ _ _ _ _ _ _ _ _ _ _ _ _ LN _ LN _ _ ?_ (sat_bind h)
 rintro q94 v95 v96 v97 v98 v99 v100 v101 v102 v103 l104 l105 q106 _ rfl _ rfl h
 obtain ⟨R118, h, hlR118, hrR118⟩ := sat_sbind h
 conv => whnf
 refine ⟨fun σ => ∃ (q113 : Bool) (l114 : L4) (l115 : L4) (n116 : Nat) (n117 : Nat), n116 = l114.length ∧ n117 = l115.length ∧ R118 (.inr (q113, l114, l115)) ∧ σ = ⟨[(0, .c (.ptr (.x 0) 0 0)), (2, .c (.ptr (.s 2) 0 0)), (5, .c (.ptr (.s 5) 0 0))], [((.x 0), some (.var [.str s1, .int .i64 v103, .osl (.sub (.s 21) 0) 0 n116, .osl (.sub (.s 21) 1) 0 n117, .bool q3, .int .u64 v4, .int .u64 v5, .int .u64 v6, .int .u64 v7, .int .u64 v8, .int .u64 v9, .int .u64 v10, .int .u64 v11, .bool q113])), ((.s 2), some (.var [.bool false, .int .u64 0, .int .u64 0, .int .u64 0, .int .u64 0, .int .u64 0, .int .u64 0, .int .u64 0, .int .u64 0])), ((.s 5), some (.var [.bool q94, .int .u64 v95, .int .u64 v96, .int .u64 v97, .int .u64 v98, .int .u64 v99, .int .u64 v100, .int .u64 v101, .int .u64 v102])), ((.x 1), none), ((.x 2), none), ((.sub (.s 21) 0), some (.row false .set4 l114)), ((.sub (.s 21) 1), some (.row false .set4 l115))]⟩, ?_, ?_⟩
 cases q106
 replace h := sat_cf h
 conv => whnf
 refine ⟨[(.x 0), (.sub (.s 21) 0), (.sub (.s 21) 1)], ?_⟩
 conv => whnf
 refine h157b_peek _ _ _ _ _ _ _ _ _ _ _ _ _ _ _ LN _ LN _ _ ?_ (sat_bind h)
 rintro v119 l120 l121 _ rfl _ rfl hkrl120 hkrl121 h
 conv => whnf
 refine kc h (fun h => ?_) fun h => ?_
 conv => whnf
 refine ⟨?_, ?_⟩
 conv => whnf
 refine kc h (fun h => ?_) fun h => ?_
 conv => whnf
 exact ⟨false, l120, l121, _, _, LN, LN, sat_some h, rfl⟩
 conv => whnf
 exact ⟨true, l120, l121, _, _, LN, LN, sat_some h, rfl⟩
 conv => whnf
 refine kc h (fun h => ?_) fun h => ?_
 conv => whnf
 exact ⟨false, l120, l121, _, _, LN, LN, sat_some h, rfl⟩
 conv => whnf
 exact ⟨true, l120, l121, _, _, LN, LN, sat_some h, rfl⟩
 conv => whnf
 refine ⟨?_, ?_⟩
 conv => whnf
 exact ⟨true, l120, l121, _, _, LN, LN, sat_some h, rfl⟩
 conv => whnf
 exact ⟨true, l120, l121, _, _, LN, LN, sat_some h, rfl⟩
 replace h := sat_ct h
 conv => whnf
 refine ⟨?_, ?_⟩
 conv => whnf
 exact ⟨true, l104, l105, _, _, LN, LN, sat_some h, rfl⟩
 conv => whnf
 exact ⟨true, l104, l105, _, _, LN, LN, sat_some h, rfl⟩
 rintro _ ⟨q113, l114, l115, _, _, rfl, rfl, h, rfl⟩
 replace h := hrR118 _ h
 cases q113
 replace h := sat_cf h
 conv => whnf
 exact ⟨[(.sub (.sub (.x 0) 801) 2), (.sub (.sub (.x 0) 801) 3)], ND 3, hQ _ _ _ _ _ _ _ _ _ _ _ _ _ _ LN _ LN (sat_some h)⟩
 replace h := sat_ct h
 conv => whnf
 exact ⟨[(.sub (.sub (.x 0) 801) 2), (.sub (.sub (.x 0) 801) 3)], ND 3, hQ _ _ _ _ _ _ _ _ _ _ _ _ _ _ LN _ LN (sat_some h)⟩
theorem cg138_alternatives {P : Program} {fid : Nat → FuncId} (mx : MX P) (k138_alternatives : KF P fid 138 j138_alternatives) (k155_sequence : KF P fid 155 j155_sequence) (k168_item : KF P fid 168 j168_item) (k173_atom : KF P fid 173 j173_atom) (h156b_more : C156b_more (SP P fid) f156b_more) (h157b_peek : C157b_peek (SP P fid) f157b_peek) (h141a_join : C141a_join (SP P fid) f141a_join) (h141b_join : C141b_join (SP P fid) f141b_join) (h169_link : C169_link (SP P fid) f169_link) (h91_IndexByte : C91_IndexByte (SP P fid) f91_IndexByte) (h178_add : C178_add (SP P fid) f178_add) (h179_position : C179_position (SP P fid) f179_position) (h177_bytes : ∀ n, C177_bytes (SP P fid) (f177_bytes n)) (h176_turn : C176_turn (SP P fid) f176_turn) : ∀ n, C138_alternatives (SP P fid) (f138_alternatives n) ∧ C155_sequence (SP P fid) (f155_sequence n) ∧ C168_item (SP P fid) (f168_item n) ∧ C173_atom (SP P fid) (f173_atom n) := by
 intro n
 induction n with
 | zero => exact ⟨fun a0 a1 a2 a3 a4 a5 a6 a7 a8 a9 a10 a11 a12 a13 n0 e0 n1 e1 Q R hQ h => (sat_none h).elim, fun a0 a1 a2 a3 a4 a5 a6 a7 a8 a9 a10 a11 a12 a13 n0 e0 n1 e1 Q R hQ h => (sat_none h).elim, fun a0 a1 a2 a3 a4 a5 a6 a7 a8 a9 a10 a11 a12 a13 n0 e0 n1 e1 Q R hQ h => (sat_none h).elim, fun a0 a1 a2 a3 a4 a5 a6 a7 a8 a9 a10 a11 a12 a13 n0 e0 n1 e1 Q R hQ h => (sat_none h).elim⟩
 | succ n ih =>
  obtain ⟨ih0, ih1, ih2, ih3⟩ := ih
  exact ⟨fun a0 a1 a2 a3 a4 a5 a6 a7 a8 a9 a10 a11 a12 a13 n0 e0 n1 e1 Q R hQ h => spec_of_vc mx k138_alternatives (w138_alternatives n (f155_sequence n) ih1 h156b_more h157b_peek h141a_join h141b_join a0 a1 a2 a3 a4 a5 a6 a7 a8 a9 a10 a11 a12 a13 n0 e0 n1 e1 Q R hQ h), fun a0 a1 a2 a3 a4 a5 a6 a7 a8 a9 a10 a11 a12 a13 n0 e0 n1 e1 Q R hQ h => spec_of_vc mx k155_sequence (w155_sequence n (f168_item n) h156b_more h157b_peek ih2 h169_link h141a_join h141b_join a0 a1 a2 a3 a4 a5 a6 a7 a8 a9 a10 a11 a12 a13 n0 e0 n1 e1 Q R hQ h), fun a0 a1 a2 a3 a4 a5 a6 a7 a8 a9 a10 a11 a12 a13 n0 e0 n1 e1 Q R hQ h => spec_of_vc mx k168_item (w168_item (f173_atom n) h156b_more h157b_peek ih3 h169_link a0 a1 a2 a3 a4 a5 a6 a7 a8 a9 a10 a11 a12 a13 n0 e0 n1 e1 Q R hQ h), fun a0 a1 a2 a3 a4 a5 a6 a7 a8 a9 a10 a11 a12 a13 n0 e0 n1 e1 Q R hQ h => spec_of_vc mx k173_atom (w173_atom n (f138_alternatives n) h91_IndexByte h178_add ih0 h157b_peek h179_position (h177_bytes n) h176_turn a0 a1 a2 a3 a4 a5 a6 a7 a8 a9 a10 a11 a12 a13 n0 e0 n1 e1 Q R hQ h)⟩
theorem c138_alternatives {P : Program} {fid : Nat → FuncId} (mx : MX P) (k138_alternatives : KF P fid 138 j138_alternatives) (k155_sequence : KF P fid 155 j155_sequence) (k168_item : KF P fid 168 j168_item) (k173_atom : KF P fid 173 j173_atom) (h156b_more : C156b_more (SP P fid) f156b_more) (h157b_peek : C157b_peek (SP P fid) f157b_peek) (h141a_join : C141a_join (SP P fid) f141a_join) (h141b_join : C141b_join (SP P fid) f141b_join) (h169_link : C169_link (SP P fid) f169_link) (h91_IndexByte : C91_IndexByte (SP P fid) f91_IndexByte) (h178_add : C178_add (SP P fid) f178_add) (h179_position : C179_position (SP P fid) f179_position) (h177_bytes : ∀ n, C177_bytes (SP P fid) (f177_bytes n)) (h176_turn : C176_turn (SP P fid) f176_turn) : ∀ n, C138_alternatives (SP P fid) (f138_alternatives n) := fun n => (cg138_alternatives mx k138_alternatives k155_sequence k168_item k173_atom h156b_more h157b_peek h141a_join h141b_join h169_link h91_IndexByte h178_add h179_position h177_bytes h176_turn n).1
theorem c155_sequence {P : Program} {fid : Nat → FuncId} (mx : MX P) (k138_alternatives : KF P fid 138 j138_alternatives) (k155_sequence : KF P fid 155 j155_sequence) (k168_item : KF P fid 168 j168_item) (k173_atom : KF P fid 173 j173_atom) (h156b_more : C156b_more (SP P fid) f156b_more) (h157b_peek : C157b_peek (SP P fid) f157b_peek) (h141a_join : C141a_join (SP P fid) f141a_join) (h141b_join : C141b_join (SP P fid) f141b_join) (h169_link : C169_link (SP P fid) f169_link) (h91_IndexByte : C91_IndexByte (SP P fid) f91_IndexByte) (h178_add : C178_add (SP P fid) f178_add) (h179_position : C179_position (SP P fid) f179_position) (h177_bytes : ∀ n, C177_bytes (SP P fid) (f177_bytes n)) (h176_turn : C176_turn (SP P fid) f176_turn) : ∀ n, C155_sequence (SP P fid) (f155_sequence n) := fun n => (cg138_alternatives mx k138_alternatives k155_sequence k168_item k173_atom h156b_more h157b_peek h141a_join h141b_join h169_link h91_IndexByte h178_add h179_position h177_bytes h176_turn n).2.1
theorem c168_item {P : Program} {fid : Nat → FuncId} (mx : MX P) (k138_alternatives : KF P fid 138 j138_alternatives) (k155_sequence : KF P fid 155 j155_sequence) (k168_item : KF P fid 168 j168_item) (k173_atom : KF P fid 173 j173_atom) (h156b_more : C156b_more (SP P fid) f156b_more) (h157b_peek : C157b_peek (SP P fid) f157b_peek) (h141a_join : C141a_join (SP P fid) f141a_join) (h141b_join : C141b_join (SP P fid) f141b_join) (h169_link : C169_link (SP P fid) f169_link) (h91_IndexByte : C91_IndexByte (SP P fid) f91_IndexByte) (h178_add : C178_add (SP P fid) f178_add) (h179_position : C179_position (SP P fid) f179_position) (h177_bytes : ∀ n, C177_bytes (SP P fid) (f177_bytes n)) (h176_turn : C176_turn (SP P fid) f176_turn) : ∀ n, C168_item (SP P fid) (f168_item n) := fun n => (cg138_alternatives mx k138_alternatives k155_sequence k168_item k173_atom h156b_more h157b_peek h141a_join h141b_join h169_link h91_IndexByte h178_add h179_position h177_bytes h176_turn n).2.2.1
theorem c173_atom {P : Program} {fid : Nat → FuncId} (mx : MX P) (k138_alternatives : KF P fid 138 j138_alternatives) (k155_sequence : KF P fid 155 j155_sequence) (k168_item : KF P fid 168 j168_item) (k173_atom : KF P fid 173 j173_atom) (h156b_more : C156b_more (SP P fid) f156b_more) (h157b_peek : C157b_peek (SP P fid) f157b_peek) (h141a_join : C141a_join (SP P fid) f141a_join) (h141b_join : C141b_join (SP P fid) f141b_join) (h169_link : C169_link (SP P fid) f169_link) (h91_IndexByte : C91_IndexByte (SP P fid) f91_IndexByte) (h178_add : C178_add (SP P fid) f178_add) (h179_position : C179_position (SP P fid) f179_position) (h177_bytes : ∀ n, C177_bytes (SP P fid) (f177_bytes n)) (h176_turn : C176_turn (SP P fid) f176_turn) : ∀ n, C173_atom (SP P fid) (f173_atom n) := fun n => (cg138_alternatives mx k138_alternatives k155_sequence k168_item k173_atom h156b_more h157b_peek h141a_join h141b_join h169_link h91_IndexByte h178_add h179_position h177_bytes h176_turn n).2.2.2
def f109_parse (fuel : Nat) : BA → Option (L4 × L4 × Bool × Int × Int × Int × Int × Int × Int × Int × Int × Int)
  | s1 => cond (decide ((s1.size : Int) > 200)) (some ([], [], false, 0, 0, 0, 0, 0, 0, 0, 0, 2)) ((f138_alternatives fuel s1 (0 : Int) false (0 : Int) (0 : Int) (0 : Int) (0 : Int) (0 : Int) (0 : Int) (0 : Int) (0 : Int) false ([(0, 0, 0, 0)] : L4) ([(0, 0, 0, 0)] : L4)).bind fun (q3, v4, v5, v6, v7, v8, v9, v10, v11, v12, l13, l14, q15) => cond q15 (some ([], [], false, 0, 0, 0, 0, 0, 0, 0, 0, 14)) (cond (decide (v12 < (s1.size : Int))) (some ([], [], false, 0, 0, 0, 0, 0, 0, 0, 0, 14)) (grdP ((0 : Int) ≤ 0 ∧ 0 < ((l14.length : Nat) : Int)) (getN l14 (0 + (0 : Int).toNat) fun uu22 => match uu22 with | (w18, w19, w20, w21) => some (l13, (l14.set (0 + (0 : Int).toNat) (v4, v5, v6, v7)), q3, v4, v5, v6, v7, v8, v9, v10, v11, 0)))))
def C109_parse (O : Oracle TT) (m : BA → Option (L4 × L4 × Bool × Int × Int × Int × Int × Int × Int × Int × Int × Int)) : Prop :=
  ∀ (s1 : BA) (Q : (L4 × L4 × Bool × Int × Int × Int × Int × Int × Int × Int × Int × Int) → Prop) (R : RR) (_ : ∀ (l23 : L4) (l24 : L4) (q25 : Bool) (v26 : Int) (v27 : Int) (v28 : Int) (v29 : Int) (v30 : Int) (v31 : Int) (v32 : Int) (v33 : Int) (v34 : Int), Q (l23, l24, q25, v26, v27, v28, v29, v30, v31, v32, v33, v34) → R (.tup [.agg [.isl .set4 l23, .isl .set4 l24, .bool q25, .int .u64 v26, .int .u64 v27, .int .u64 v28, .int .u64 v29, .int .u64 v30, .int .u64 v31, .int .u64 v32, .int .u64 v33], .c (.int .i64 v34)]) []) (_ : sat (m s1) Q), O 109 [.c (.str s1)] [] R
def j109_parse : Fn TT := ⟨51, [.cell 2 11 true, .t 3], (.seq (.reg [qo 2 (.alloc 2 [.isl .set4 [], .isl .set4 [], .bool false, .int .u64 0, .int .u64 0, .int .u64 0, .int .u64 0, .int .u64 0, .int .u64 0, .int .u64 0, .int .u64 0]),qo 3 (.mv (iC 0))]) (.seq (.seq (.reg [qo 6 (.mv 0),qo 7 (.len true 6),qo 8 (.bin .gtr .num 7 (iC 200))]) (.cond 8 (.seq
 (.reg [qo 9 (.build [.isl .set4 [], .isl .set4 [], .bool false, .int .u64 0, .int .u64 0, .int .u64 0, .int .u64 0, .int .u64 0, .int .u64 0, .int .u64 0, .int .u64 0] []),qp (.store 2 9 11),qo 3 (.mv (iC 2))]) .ret) .skip)) (.seq (.reg [qo 10 (.mv 0),qo 11 (.build [.int .u64 0, .int .u64 0, .int .u64 0, .int .u64 0] []),qo 12 (.bslice 12 .set4 [11]),
 qo 13 (.build [.int .u64 0, .int .u64 0, .int .u64 0, .int .u64 0] []),qo 14 (.bslice 14 .set4 [13]),qo 15 (.build [.isl .set4 [], .isl .set4 [], .bool false, .int .u64 0, .int .u64 0, .int .u64 0, .int .u64 0, .int .u64 0, .int .u64 0, .int .u64 0, .int .u64 0] [((0, 1), 12), ((1, 1), 14)]),
 qo 16 (.build [.str (⟨#[]⟩ : BA), .int .i64 0, .isl .set4 [], .isl .set4 [], .bool false, .int .u64 0, .int .u64 0, .int .u64 0, .int .u64 0, .int .u64 0, .int .u64 0, .int .u64 0, .int .u64 0, .bool false] [((0, 1), 10), ((2, 11), 15)]),qo 17 (.box 17 16),qo 4 (.mv 17)]) (.seq (.reg [qo 18 (.mv 4),qo 19 (.call 19 138 [18]),
 qo 5 (.alloc 5 [.bool false, .int .u64 0, .int .u64 0, .int .u64 0, .int .u64 0, .int .u64 0, .int .u64 0, .int .u64 0, .int .u64 0]),qp (.store 5 19 9)]) (.seq (.seq (.reg [qo 20 (.mv 4),qo 21 (.nilck 20),qo 22 (.fa 21 13),qo 23 (.load 22 1 false),qo 24 (.mv 23),qf 24 25 (.mv 4),qf 24 26 (.nilck 25),qf 24 27 (.fa 26 1),qf 24 28 (.load 27 1 false),qf 24 29 (.mv 0),
 qf 24 30 (.len true 29),qf 24 31 (.bin .lss .num 28 30),qo 32 (.pick 24 bT 31)]) (.cond 32 (.seq (.reg [qo 33 (.build [.isl .set4 [], .isl .set4 [], .bool false, .int .u64 0, .int .u64 0, .int .u64 0, .int .u64 0, .int .u64 0, .int .u64 0, .int .u64 0, .int .u64 0] []),qp (.store 2 33 11),qo 3 (.mv (iC 14))]) .ret) .skip)) (.seq (.reg [qo 34 (.mv 4),qo 35 (.load 5 9 true),qo 36 (.nilck 34),
 qo 37 (.fa 36 2),qo 38 (.fa 37 2),qp (.store 38 35 9)]) (.seq (.drw [] (oR 9) [8] (List.range 8) [qo 39 (.mv 4),qo 40 (.nilck 39),qo 41 (.fa 40 2),qo 42 (.fa 41 1),qo 43 (.load 42 1 false),qo 44 (.fa 5 1),qo 45 (.load 44 4 true),qo 46 (.idxA 43 (iC 0) 4),qp (.store 46 45 4)]) (.seq (.reg [qo 47 (.mv 4),qo 48 (.nilck 47),qo 49 (.fa 48 2),qo 50 (.load 49 11 true),qp (.store 2 50 11),
 qo 3 (.mv (iC 0))]) (.pre [.frzc (.s 2) 0 .set4, .frzc (.s 2) 1 .set4] .ret)))))))))⟩
theorem w109_parse {O : Oracle TT} (fuel : Nat) (h138_alternatives : C138_alternatives O (f138_alternatives fuel)) : C109_parse (fun _ => vcF (S := SS) O j109_parse) (f109_parse fuel) := by
 intro s1 Q R hQ h
 unfold f109_parse at h
 refine ⟨nle rfl, rfl, ?_⟩
 conv => whnf
 refine kc h (fun h => ?_) fun h => ?_
 conv => whnf
 refine ⟨[(.s 17), (.s 12), (.s 14)], ?_⟩
 conv => whnf
 refine h138_alternatives _ _ _ _ _ _ _ _ _ _ _ _ _ _ _ LN _ LN _ _ ?_ (sat_bind h)
 rintro q3 v4 v5 v6 v7 v8 v9 v10 v11 v12 l13 l14 q15 _ rfl _ rfl h
 cases q15
 replace h := sat_cf h
 conv => whnf
 refine kc h (fun h => ?_) fun h => ?_
 conv => whnf
 refine kp h fun hb17 h => ?_
 conv => whnf
 refine kg (sat_getN h) fun uu22 huu22 h => ?_
 obtain ⟨w18, w19, w20, w21⟩ := uu22
 refine ⟨(v4, v5, v6, v7), rfl, ?_⟩
 conv => whnf
 refine ⟨LN, ?_⟩
 conv => whnf
 refine ⟨LN, ?_⟩
 conv => whnf
 exact ⟨[], ND 0, hQ _ _ _ _ _ _ _ _ _ _ _ _ (sat_some h)⟩
 conv => whnf
 exact ⟨[], ND 0, hQ _ _ _ _ _ _ _ _ _ _ _ _ (sat_some h)⟩
 replace h := sat_ct h
 conv => whnf
 exact ⟨[], ND 0, hQ _ _ _ _ _ _ _ _ _ _ _ _ (sat_some h)⟩
 conv => whnf
 exact ⟨[], ND 0, hQ _ _ _ _ _ _ _ _ _ _ _ _ (sat_some h)⟩
theorem c109_parse {P : Program} {fid : Nat → FuncId} (mx : MX P) (k109_parse : KF P fid 109 j109_parse) (h138_alternatives : ∀ n, C138_alternatives (SP P fid) (f138_alternatives n)) : ∀ n, C109_parse (SP P fid) (f109_parse n) :=
 fun n => fun a0 Q R hQ h => spec_of_vc mx k109_parse (w109_parse n (h138_alternatives n) a0 Q R hQ h)
def f110b_add : Int → Int → Int → Int → Int → Option N4
  | v1, v2, v3, v4, v5 => caseI (wrap .i64 (Int.tdiv v1 64)) [grdP (0 ≤ (Int.tmod v1 64)) (some ((bOr .u64 v2 (bShl .u64 1 (Int.tmod v1 64))), v3, v4, v5)), grdP (0 ≤ (Int.tmod v1 64)) (some (v2, (bOr .u64 v3 (bShl .u64 1 (Int.tmod v1 64))), v4, v5)), grdP (0 ≤ (Int.tmod v1 64)) (some (v2, v3, (bOr .u64 v4 (bShl .u64 1 (Int.tmod v1 64))), v5)), grdP (0 ≤ (Int.tmod v1 64)) (some (v2, v3, v4, (bOr .u64 v5 (bShl .u64 1 (Int.tmod v1 64)))))]
def C110b_add (O : Oracle TT) (m : Int → Int → Int → Int → Int → Option N4) : Prop :=
  ∀ (v1 : Int) (v2 : Int) (v3 : Int) (v4 : Int) (v5 : Int) (Q : N4 → Prop) (R : RR) (_ : ∀ (v15 : Int) (v16 : Int) (v17 : Int) (v18 : Int), Q (v15, v16, v17, v18) → R (.tup []) [(.x 0, some (.var [.int .u64 v15, .int .u64 v16, .int .u64 v17, .int .u64 v18]))]) (_ : sat (m v1 v2 v3 v4 v5) Q), O 110 [.c (.ptr (.x 0) 0 0), .c (.int .i64 v1)] [((.x 0), some (.var [.int .u64 v2, .int .u64 v3, .int .u64 v4, .int .u64 v5]))] R
def j110b_add : Fn TT := ⟨16, [], (.drw [] (oR 13) [12] (List.range 12) [qo 4 (.mv 0),qo 5 (.mv 1),qo 6 (.bin .quo .num 5 (iC 64)),qo 7 (.nilck 4),qo 8 (.idxC 7 6 1 4),qo 9 (.load 8 1 false),qo 10 (.mv 1),qo 11 (.bin .rem .num 10 (iC 64)),qo 12 (.bin .shl .num (.c (.int .u64 1)) 11),qo 13 (.bin .or .num 9 12),qo 14 (.nilck 4),qo 15 (.idxC 14 6 1 4),qp (.store 15 13 1)])⟩
theorem w110b_add {O : Oracle TT} : C110b_add (fun _ => vcF (S := SS) O j110b_add) f110b_add := by
 intro v1 v2 v3 v4 v5 Q R hQ h
 unfold f110b_add at h
 refine ⟨nle rfl, rfl, ?_⟩
 conv => whnf
 refine ⟨by decide, ?_⟩
 conv => whnf
 obtain ⟨hbj6, h⟩ := sat_caseI h
 refine ⟨hbj6, fun j6 hj6 => ?_⟩
 replace h := h j6 hj6
 replace hbj6 : (0 : Int) ≤ (wrap .i64 (Int.tdiv v1 64)) ∧ (wrap .i64 (Int.tdiv v1 64)) < 4 := hbj6
 have hcj6 : j6 = 0 ∨ j6 = 1 ∨ j6 = 2 ∨ j6 = 3 := by omega
 rcases hcj6 with rfl | rfl | rfl | rfl
 replace h := sat_j0 h
 conv => whnf
 refine ⟨by decide, ?_⟩
 conv => whnf
 refine kp h fun hb8 h => ?_
 conv => whnf
 refine ⟨⟨by omega, by omega⟩, fun j7 hj7 => ?_⟩
 obtain rfl : j7 = 0 := by omega
 conv => whnf
 exact ⟨[], ND 1, hQ _ _ _ _ (sat_some h)⟩
 replace h := sat_j1 h
 conv => whnf
 refine ⟨by decide, ?_⟩
 conv => whnf
 refine kp h fun hb10 h => ?_
 conv => whnf
 refine ⟨⟨by omega, by omega⟩, fun j9 hj9 => ?_⟩
 obtain rfl : j9 = 1 := by omega
 conv => whnf
 exact ⟨[], ND 1, hQ _ _ _ _ (sat_some h)⟩
 replace h := sat_j2 h
 conv => whnf
 refine ⟨by decide, ?_⟩
 conv => whnf
 refine kp h fun hb12 h => ?_
 conv => whnf
 refine ⟨⟨by omega, by omega⟩, fun j11 hj11 => ?_⟩
 obtain rfl : j11 = 2 := by omega
 conv => whnf
 exact ⟨[], ND 1, hQ _ _ _ _ (sat_some h)⟩
 replace h := sat_j3 h
 conv => whnf
 refine ⟨by decide, ?_⟩
 conv => whnf
 refine kp h fun hb14 h => ?_
 conv => whnf
 refine ⟨⟨by omega, by omega⟩, fun j13 hj13 => ?_⟩
 obtain rfl : j13 = 3 := by omega
 conv => whnf
 exact ⟨[], ND 1, hQ _ _ _ _ (sat_some h)⟩
theorem c110b_add {P : Program} {fid : Nat → FuncId} (mx : MX P) (k110b_add : KF P fid 110 j110b_add) : C110b_add (SP P fid) f110b_add :=
 fun a0 a1 a2 a3 a4 Q R hQ h => spec_of_vc mx k110b_add (w110b_add a0 a1 a2 a3 a4 Q R hQ h)
def f139_has : N4 → Int → Option (Bool)
  | (v1, v2, v3, v4), v5 => caseI (wrap .u8 (Int.tdiv v5 64)) [grdP (0 ≤ (Int.tmod v5 64)) (cond ((bAnd .u64 (bShr .u64 v1 (Int.tmod v5 64)) 1) == 1) (some true) (some false)), grdP (0 ≤ (Int.tmod v5 64)) (cond ((bAnd .u64 (bShr .u64 v2 (Int.tmod v5 64)) 1) == 1) (some true) (some false)), grdP (0 ≤ (Int.tmod v5 64)) (cond ((bAnd .u64 (bShr .u64 v3 (Int.tmod v5 64)) 1) == 1) (some true) (some false)), grdP (0 ≤ (Int.tmod v5 64)) (cond ((bAnd .u64 (bShr .u64 v4 (Int.tmod v5 64)) 1) == 1) (some true) (some false))]
def C139_has (O : Oracle TT) (m : N4 → Int → Option (Bool)) : Prop :=
  ∀ (v1 : Int) (v2 : Int) (v3 : Int) (v4 : Int) (v5 : Int) (Q : Bool → Prop) (R : RR) (_ : ∀ (q15 : Bool), Q q15 → R (.c (.bool q15)) []) (_ : sat (m (v1, v2, v3, v4) v5) Q), O 139 [.c (.iptr .set4 (v1, v2, v3, v4) 0), .c (.int .u8 v5)] [] R
def j139_has : Fn TT := ⟨16, [.t 4], (.seq (.reg [qo 4 (.mv bF)]) (.seq (.reg [qo 5 (.mv 0),qo 6 (.mv 1),qo 7 (.bin .quo .num 6 (.c (.int .u8 64))),qo 8 (.nilck 5),qo 9 (.idxC 8 7 1 4),qo 10 (.load 9 1 false),qo 11 (.mv 1),qo 12 (.bin .rem .num 11 (.c (.int .u8 64))),qo 13 (.bin .shr .num 10 12),qo 14 (.bin .and .num 13 (.c (.int .u64 1))),qo 15 (.bin .eql .num 14 (.c (.int .u64 1))),
 qo 4 (.mv 15)]) .ret))⟩
theorem w139_has {O : Oracle TT} : C139_has (fun _ => vcF (S := SS) O j139_has) f139_has := by
 intro v1 v2 v3 v4 v5 Q R hQ h
 unfold f139_has at h
 refine ⟨nle rfl, rfl, ?_⟩
 conv => whnf
 refine ⟨by decide, ?_⟩
 conv => whnf
 obtain ⟨hbj6, h⟩ := sat_caseI h
 refine ⟨hbj6, fun j6 hj6 => ?_⟩
 replace h := h j6 hj6
 replace hbj6 : (0 : Int) ≤ (wrap .u8 (Int.tdiv v5 64)) ∧ (wrap .u8 (Int.tdiv v5 64)) < 4 := hbj6
 have hcj6 : j6 = 0 ∨ j6 = 1 ∨ j6 = 2 ∨ j6 = 3 := by omega
 rcases hcj6 with rfl | rfl | rfl | rfl
 replace h := sat_j0 h
 conv => whnf
 refine ⟨by decide, ?_⟩
 conv => whnf
 refine kp h fun hb8 h => ?_
 conv => whnf
 refine kc h (fun h => ?_) fun h => ?_
 conv => whnf
 exact ⟨[], ND 0, hQ _ (sat_some h)⟩
 conv => whnf
 exact ⟨[], ND 0, hQ _ (sat_some h)⟩
 replace h := sat_j1 h
 conv => whnf
 refine ⟨by decide, ?_⟩
 conv => whnf
 refine kp h fun hb10 h => ?_
 conv => whnf
 refine kc h (fun h => ?_) fun h => ?_
 conv => whnf
 exact ⟨[], ND 0, hQ _ (sat_some h)⟩
 conv => whnf
 exact ⟨[], ND 0, hQ _ (sat_some h)⟩
 replace h := sat_j2 h
 conv => whnf
 refine ⟨by decide, ?_⟩
 conv => whnf
 refine kp h fun hb12 h => ?_
 conv => whnf
 refine kc h (fun h => ?_) fun h => ?_
 conv => whnf
 exact ⟨[], ND 0, hQ _ (sat_some h)⟩
 conv => whnf
 exact ⟨[], ND 0, hQ _ (sat_some h)⟩
 replace h := sat_j3 h
 conv => whnf
 refine ⟨by decide, ?_⟩
 conv => whnf
 refine kp h fun hb14 h => ?_
 conv => whnf
 refine kc h (fun h => ?_) fun h => ?_
 conv => whnf
 exact ⟨[], ND 0, hQ _ (sat_some h)⟩
 conv => whnf
 exact ⟨[], ND 0, hQ _ (sat_some h)⟩
theorem c139_has {P : Program} {fid : Nat → FuncId} (mx : MX P) (k139_has : KF P fid 139 j139_has) : C139_has (SP P fid) f139_has :=
 fun a0 a1 a2 a3 a4 Q R hQ h => spec_of_vc mx k139_has (w139_has a0 a1 a2 a3 a4 Q R hQ h)
def f110c_add : Nat → Int → L4 → Option (L4)
  | e1, v2, r3 => caseI (wrap .i64 (Int.tdiv v2 64)) [getN r3 e1 fun uu9 => match uu9 with | (w5, w6, w7, w8) => grdP (0 ≤ (Int.tmod v2 64)) (getN r3 e1 fun uu15 => match uu15 with | (w11, w12, w13, w14) => some (r3.set e1 ((bOr .u64 w5 (bShl .u64 1 (Int.tmod v2 64))), w12, w13, w14))), getN r3 e1 fun uu21 => match uu21 with | (w17, w18, w19, w20) => grdP (0 ≤ (Int.tmod v2 64)) (getN r3 e1 fun uu27 => match uu27 with | (w23, w24, w25, w26) => some (r3.set e1 (w23, (bOr .u64 w18 (bShl .u64 1 (Int.tmod v2 64))), w25, w26))), getN r3 e1 fun uu33 => match uu33 with | (w29, w30, w31, w32) => grdP (0 ≤ (Int.tmod v2 64)) (getN r3 e1 fun uu39 => match uu39 with | (w35, w36, w37, w38) => some (r3.set e1 (w35, w36, (bOr .u64 w31 (bShl .u64 1 (Int.tmod v2 64))), w38))), getN r3 e1 fun uu45 => match uu45 with | (w41, w42, w43, w44) => grdP (0 ≤ (Int.tmod v2 64)) (getN r3 e1 fun uu51 => match uu51 with | (w47, w48, w49, w50) => some (r3.set e1 (w47, w48, w49, (bOr .u64 w44 (bShl .u64 1 (Int.tmod v2 64))))))]
def C110c_add (O : Oracle TT) (m : Nat → Int → L4 → Option (L4)) : Prop :=
  ∀ (e1 : Nat) (v2 : Int) (r3 : L4) (Q : L4 → Prop) (R : RR) (_ : ∀ (l53 : L4) (_ : l53.length = r3.length), Q l53 → R (.tup []) [(.x 0, some (.row false .set4 l53))]) (_ : sat (m e1 v2 r3) Q), O 110 [.c (.ptr (.x 0) e1 0), .c (.int .i64 v2)] [((.x 0), some (.row false .set4 r3))] R
def j110c_add : Fn TT := ⟨16, [], (.drw [] (oR 13) [12] (List.range 12) [qo 4 (.mv 0),qo 5 (.mv 1),qo 6 (.bin .quo .num 5 (iC 64)),qo 7 (.nilck 4),qo 8 (.idxC 7 6 1 4),qo 9 (.load 8 1 false),qo 10 (.mv 1),qo 11 (.bin .rem .num 10 (iC 64)),qo 12 (.bin .shl .num (.c (.int .u64 1)) 11),qo 13 (.bin .or .num 9 12),qo 14 (.nilck 4),qo 15 (.idxC 14 6 1 4),qp (.store 15 13 1)])⟩
theorem w110c_add {O : Oracle TT} : C110c_add (fun _ => vcF (S := SS) O j110c_add) f110c_add := by
 intro e1 v2 r3 Q R hQ h
 unfold f110c_add at h
 refine ⟨nle rfl, rfl, ?_⟩
 conv => whnf
 refine ⟨by decide, ?_⟩
 conv => whnf
 obtain ⟨hbj4, h⟩ := sat_caseI h
 refine ⟨hbj4, fun j4 hj4 => ?_⟩
 replace h := h j4 hj4
 replace hbj4 : (0 : Int) ≤ (wrap .i64 (Int.tdiv v2 64)) ∧ (wrap .i64 (Int.tdiv v2 64)) < 4 := hbj4
 have hcj4 : j4 = 0 ∨ j4 = 1 ∨ j4 = 2 ∨ j4 = 3 := by omega
 rcases hcj4 with rfl | rfl | rfl | rfl
 replace h := sat_j0 h
 conv => whnf
 refine kg (sat_getN h) fun uu9 huu9 h => ?_
 obtain ⟨w5, w6, w7, w8⟩ := uu9
 conv => whnf
 refine ⟨by decide, ?_⟩
 conv => whnf
 refine kp h fun hb16 h => ?_
 conv => whnf
 refine ⟨⟨by omega, by omega⟩, fun j10 hj10 => ?_⟩
 obtain rfl : j10 = 0 := by omega
 conv => whnf
 refine kg (sat_getN h) fun uu15 huu15 h => ?_
 obtain ⟨w11, w12, w13, w14⟩ := uu15
 refine ⟨((bOr .u64 w5 (bShl .u64 1 (Int.tmod v2 64))), w12, w13, w14), rfl, ?_⟩
 conv => whnf
 exact ⟨[], ND 1, hQ _ LN (sat_some h)⟩
 replace h := sat_j1 h
 conv => whnf
 refine kg (sat_getN h) fun uu21 huu21 h => ?_
 obtain ⟨w17, w18, w19, w20⟩ := uu21
 conv => whnf
 refine ⟨by decide, ?_⟩
 conv => whnf
 refine kp h fun hb28 h => ?_
 conv => whnf
 refine ⟨⟨by omega, by omega⟩, fun j22 hj22 => ?_⟩
 obtain rfl : j22 = 1 := by omega
 conv => whnf
 refine kg (sat_getN h) fun uu27 huu27 h => ?_
 obtain ⟨w23, w24, w25, w26⟩ := uu27
 refine ⟨(w23, (bOr .u64 w18 (bShl .u64 1 (Int.tmod v2 64))), w25, w26), rfl, ?_⟩
 conv => whnf
 exact ⟨[], ND 1, hQ _ LN (sat_some h)⟩
 replace h := sat_j2 h
 conv => whnf
 refine kg (sat_getN h) fun uu33 huu33 h => ?_
 obtain ⟨w29, w30, w31, w32⟩ := uu33
 conv => whnf
 refine ⟨by decide, ?_⟩
 conv => whnf
 refine kp h fun hb40 h => ?_
 conv => whnf
 refine ⟨⟨by omega, by omega⟩, fun j34 hj34 => ?_⟩
 obtain rfl : j34 = 2 := by omega
 conv => whnf
 refine kg (sat_getN h) fun uu39 huu39 h => ?_
 obtain ⟨w35, w36, w37, w38⟩ := uu39
 refine ⟨(w35, w36, (bOr .u64 w31 (bShl .u64 1 (Int.tmod v2 64))), w38), rfl, ?_⟩
 conv => whnf
 exact ⟨[], ND 1, hQ _ LN (sat_some h)⟩
 replace h := sat_j3 h
 conv => whnf
 refine kg (sat_getN h) fun uu45 huu45 h => ?_
 obtain ⟨w41, w42, w43, w44⟩ := uu45
 conv => whnf
 refine ⟨by decide, ?_⟩
 conv => whnf
 refine kp h fun hb52 h => ?_
 conv => whnf
 refine ⟨⟨by omega, by omega⟩, fun j46 hj46 => ?_⟩
 obtain rfl : j46 = 3 := by omega
 conv => whnf
 refine kg (sat_getN h) fun uu51 huu51 h => ?_
 obtain ⟨w47, w48, w49, w50⟩ := uu51
 refine ⟨(w47, w48, w49, (bOr .u64 w44 (bShl .u64 1 (Int.tmod v2 64)))), rfl, ?_⟩
 conv => whnf
 exact ⟨[], ND 1, hQ _ LN (sat_some h)⟩
theorem c110c_add {P : Program} {fid : Nat → FuncId} (mx : MX P) (k110c_add : KF P fid 110 j110c_add) : C110c_add (SP P fid) f110c_add :=
 fun a0 a1 a2 Q R hQ h => spec_of_vc mx k110c_add (w110c_add a0 a1 a2 Q R hQ h)
def f111_at_L10 (v204 : Int) : L4 → Nat → L4 → Option (Sum (Sum (L4) (L4)) (L4))
  | [], j254, l258 => some (.inr l258)
  | ((w260, w261, w262, w263)) :: tl256, j254, l258 => (f139_has (w260, w261, w262, w263) (wrap .u8 v204)).bind fun q265 => cond q265 (grdP ((0 : Int) ≤ v204 ∧ v204 < 256) ((f110c_add v204.toNat ((j254 : Nat) : Int) l258).bind fun l267 => f111_at_L10 v204 tl256 (j254 + 1) l267)) (f111_at_L10 v204 tl256 (j254 + 1) l258)
def f111_at_L8 (l1 : L4) : Nat → Int → L4 → Option (Sum (L4) (L4))
  | 0, v204, l208 => some (.inr l208)
  | g206 + 1, v204, l208 => sbind (ο := L4) (f111_at_L10 v204 l1 0 l208) (fun l238 => f111_at_L8 l1 g206 (v204 + 1) l238)
def f111_at : L4 → L4 → Bool → Int → Int → Int → Int → Int → Int → Int → Int → Option (L4)
  | l1, l2, q3, v4, v5, v6, v7, v8, v9, v10, v11 => sbind (ο := L4) (grdP ((256 : Int) ≤ 9223372036854775807) (f111_at_L8 l1 ((256 : Int) - 0).toNat 0 (List.replicate 256 ((0, 0, 0, 0) : Int × Int × Int × Int)))) (fun l139 => some l139)
def C111_at (O : Oracle TT) (m : L4 → L4 → Bool → Int → Int → Int → Int → Int → Int → Int → Int → Option (L4)) : Prop :=
  ∀ (l1 : L4) (l2 : L4) (q3 : Bool) (v4 : Int) (v5 : Int) (v6 : Int) (v7 : Int) (v8 : Int) (v9 : Int) (v10 : Int) (v11 : Int) (Q : L4 → Prop) (R : RR) (_ : ∀ (l268 : L4), Q l268 → R (.c (.ptr (.x 1) 0 0)) [(.x 0, some (.var [.isl .set4 l1, .isl .set4 l2, .bool q3, .int .u64 v4, .int .u64 v5, .int .u64 v6, .int .u64 v7, .int .u64 v8, .int .u64 v9, .int .u64 v10, .int .u64 v11])), (.x 1, some (.row false .set4 l268))]) (_ : sat (m l1 l2 q3 v4 v5 v6 v7 v8 v9 v10 v11) Q), O 111 [.c (.ptr (.x 0) 0 0)] [((.x 0), some (.var [.isl .set4 l1, .isl .set4 l2, .bool q3, .int .u64 v4, .int .u64 v5, .int .u64 v6, .int .u64 v7, .int .u64 v8, .int .u64 v9, .int .u64 v10, .int .u64 v11]))] R
def j111_at : Fn TT := ⟨32, [.t 2], (.seq (.reg [qo 2 (.mv (.c (.nilp)))]) (.seq (.reg [qo 3 (.allocR 3 .set4 256 ((0, 0, 0, 0) : Int × Int × Int × Int))]) (.cut [3] [(.s 3), (.x 0)] (.seq (.reg [qo 6 (.mv (iC 0))]) (.block 0 (.loop (.keep [0, 3, 6] [(.x 0), (.s 3)] (.aft (.seq (.reg [qo 7 (.bin .lss .num 6 (iC 256))]) (.seq (.cond 7 .skip (.exit 0)) (.cut [0, 3, 6] [(.x 0), (.s 3)] (.block 1
 (.seq (.reg [qo 8 (.mv 6),qo 4 (.mv 8)]) (.seq (.reg [qo 9 (.mv 0),qo 10 (.nilck 9),qo 11 (.fa 10 0),qo 12 (.load 11 1 false),qo 13 (.len false 12),qo 14 (.mv (iC 0))]) (.block 2 (.loop (.keep [0, 3, 4, 6, 13, 14] [(.x 0), (.s 3)] (.aft (.seq (.reg [qo 15 (.bin .lss .num 14 13)]) (.seq (.cond 15 .skip (.exit 2)) (.seq (.block 3 (.seq (.reg [qo 16 (.mv 14),qo 5 (.mv 16)]) (.seq
 (.reg [qo 17 (.mv 0),qo 18 (.nilck 17),qo 19 (.fa 18 0),qo 20 (.load 19 1 false),qo 21 (.mv 5),qo 22 (.idxA 20 21 4),qo 23 (.mv 4),qo 24 (.conv .u8 23),qo 25 (.call 25 139 [22, 24])]) (.cond 25 (.reg [qo 26 (.mv 4),qo 27 (.idxR 3 26 4 256),qo 28 (.mv 5),qo 29 (.call 29 110 [27, 28])]) .skip)))) (.reg [qo 30 (.bin .add .num 14 (iC 1)),
 qo 14 (.mv 30)])))) [.keep [0, 3, 4, 6, 13, 14] [(.x 0), (.s 3)]]))))))) (.reg [qo 31 (.bin .add .num 6 (iC 1)),qo 6 (.mv 31)])))) [.keep [0, 3, 6] [(.x 0), (.s 3)]]))))) (.seq (.reg [qo 2 (.mv 3)]) .ret))))⟩
theorem w111_at {O : Oracle TT} (h139_has : C139_has O f139_has) (h110c_add : C110c_add O f110c_add) : C111_at (fun _ => vcF (S := SS) O j111_at) f111_at := by
 intro l1 l2 q3 v4 v5 v6 v7 v8 v9 v10 v11 Q R hQ h
 unfold f111_at at h
 refine ⟨nle rfl, rfl, ?_⟩
 obtain ⟨R140, h, hlR140, hrR140⟩ := sat_sbind h
 conv => whnf
 refine ⟨fun σ => ∃ (l139 : L4), R140 (.inr l139) ∧ σ = ⟨[(3, .c (.ptr (.s 3) 0 0))], [((.s 3), some (.row false .set4 l139)), ((.x 0), some (.var [.isl .set4 l1, .isl .set4 l2, .bool q3, .int .u64 v4, .int .u64 v5, .int .u64 v6, .int .u64 v7, .int .u64 v8, .int .u64 v9, .int .u64 v10, .int .u64 v11]))]⟩, ?_, ?_⟩
 obtain ⟨hN207, h⟩ := sat_grdP h
 conv => whnf
 refine ⟨fun σ n => ∃ (f205 : Nat) (v204 : Int) (z : Int) (l208 : L4), f205 = n ∧ f205 = (256 - v204).toNat ∧ 0 ≤ v204 ∧ v204 = z ∧ sat (f111_at_L8 l1 f205 v204 l208) R140 ∧ σ.keep [0, 3, 6] [(.x 0), (.s 3)] = ⟨[(0, .c (.ptr (.x 0) 0 0)), (3, .c (.ptr (.s 3) 0 0)), (6, .c (.int .i64 z))], [((.x 0), some (.var [.isl .set4 l1, .isl .set4 l2, .bool q3, .int .u64 v4, .int .u64 v5, .int .u64 v6, .int .u64 v7, .int .u64 v8, .int .u64 v9, .int .u64 v10, .int .u64 v11])), ((.s 3), some (.row false .set4 l208))]⟩, ⟨_, _, 0, _, (List.replicate 256 ((0, 0, 0, 0) : Int × Int × Int × Int)), rfl, rfl, (by decide), rfl, h, rfl⟩, ?_⟩
 rintro σ n ⟨f205, v204, _, l208, rfl, hf205, hpf205, rfl, h, hσ⟩
 refine kk hσ ?_
 conv => whnf
 intro t209 (ht209 : t209 = decide (v204 < 256))
 cases t209
 obtain rfl := il_nil hf205 ht209
 rw [f111_at_L8] at h
 conv => whnf
 exact ⟨l208, sat_some h, rfl⟩
 obtain ⟨g206, rfl, hwg206, hpg206, hfg206⟩ := il_cons hf205 hpf205 ht209 hN207
 rw [f111_at_L8] at h
 obtain ⟨R239, h, hlR239, hrR239⟩ := sat_sbind h
 conv => whnf
 refine ⟨fun σ => ∃ (l238 : L4), R239 (.inr l238) ∧ σ = ⟨[(0, .c (.ptr (.x 0) 0 0)), (3, .c (.ptr (.s 3) 0 0)), (6, .c (.int .i64 v204))], [((.x 0), some (.var [.isl .set4 l1, .isl .set4 l2, .bool q3, .int .u64 v4, .int .u64 v5, .int .u64 v6, .int .u64 v7, .int .u64 v8, .int .u64 v9, .int .u64 v10, .int .u64 v11])), ((.s 3), some (.row false .set4 l238))]⟩, ?_, ?_⟩
 conv => whnf
 intro hl240
 conv => whnf
 refine ⟨fun σ n => ∃ (rem255 : L4) (j254 : Nat) (z : Int) (l258 : L4), n = rem255.length ∧ l1.drop j254 = rem255 ∧ z = ((j254 : Nat) : Int) ∧ sat (f111_at_L10 v204 rem255 j254 l258) R239 ∧ σ.keep [0, 3, 4, 6, 13, 14] [(.x 0), (.s 3)] = ⟨[(0, .c (.ptr (.x 0) 0 0)), (3, .c (.ptr (.s 3) 0 0)), (4, .c (.int .i64 v204)), (6, .c (.int .i64 v204)), (13, .c (.int .i64 ((l1.length : Nat) : Int))), (14, .c (.int .i64 z))], [((.x 0), some (.var [.isl .set4 l1, .isl .set4 l2, .bool q3, .int .u64 v4, .int .u64 v5, .int .u64 v6, .int .u64 v7, .int .u64 v8, .int .u64 v9, .int .u64 v10, .int .u64 v11])), ((.s 3), some (.row false .set4 l258))]⟩, ⟨_, l1, 0, _, l208, rfl, rfl, rfl, h, rfl⟩, ?_⟩
 rintro σ n ⟨rem255, j254, _, l258, rfl, hrem255, rfl, h, hσ⟩
 refine kk hσ ?_
 conv => whnf
 intro t259 (ht259 : t259 = decide (((j254 : Nat) : Int) < ((l1.length : Nat) : Int)))
 cases t259
 obtain rfl := ll_nil hrem255 ht259
 rw [f111_at_L10] at h
 conv => whnf
 exact ⟨l258, sat_some h, rfl⟩
 obtain ⟨x257, tl256, rfl, hx257, htl256⟩ := ll_cons hrem255 ht259
 obtain ⟨w260, w261, w262, w263⟩ := x257
 rw [f111_at_L10] at h
 conv => whnf
 refine ⟨lx_bd hx257, fun uu264 huu264 => ?_⟩
 obtain rfl := lx_eq hx257 huu264
 conv => whnf
 refine ⟨[], ?_⟩
 conv => whnf
 refine h139_has _ _ _ _ _ _ _ ?_ (sat_bind h)
 rintro q265 h
 cases q265
 replace h := sat_cf h
 conv => whnf
 exact ⟨tl256.length, nls, tl256, j254 + 1, _, l258, rfl, htl256, lx_wr hx257 hl240, h, rfl⟩
 replace h := sat_ct h
 conv => whnf
 refine kp h fun hb266 h => ?_
 conv => whnf
 refine ⟨[(.s 3)], ?_⟩
 conv => whnf
 refine h110c_add _ _ _ _ _ ?_ (sat_bind h)
 rintro l267 hkrl267 h
 conv => whnf
 exact ⟨tl256.length, nls, tl256, j254 + 1, _, l267, rfl, htl256, lx_wr hx257 hl240, h, rfl⟩
 rintro _ ⟨l238, h, rfl⟩
 replace h := hrR239 _ h
 conv => whnf
 exact ⟨g206, nls, g206, v204 + 1, _, l238, rfl, hfg206, hpg206, hwg206.symm, h, rfl⟩
 rintro _ ⟨l139, h, rfl⟩
 replace h := hrR140 _ h
 conv => whnf
 exact ⟨[(.s 3)], ND 1, hQ _ (sat_some h)⟩
theorem c111_at {P : Program} {fid : Nat → FuncId} (mx : MX P) (k111_at : KF P fid 111 j111_at) (h139_has : C139_has (SP P fid) f139_has) (h110c_add : C110c_add (SP P fid) f110c_add) : C111_at (SP P fid) f111_at :=
 fun a0 a1 a2 a3 a4 a5 a6 a7 a8 a9 a10 Q R hQ h => spec_of_vc mx k111_at (w111_at h139_has h110c_add a0 a1 a2 a3 a4 a5 a6 a7 a8 a9 a10 Q R hQ h)
def f141c_join_L1 (w1 : Int) (w2 : Int) (w3 : Int) (w4 : Int) : Nat → Int → Int → Int → Int → Int → Option N4
  | 0, v26, v30, v31, v32, v33 => some (v30, v31, v32, v33)
  | g28 + 1, v26, v30, v31, v32, v33 => caseI v26 [f141c_join_L1 w1 w2 w3 w4 g28 (v26 + 1) (bOr .u64 v30 w1) v31 v32 v33, f141c_join_L1 w1 w2 w3 w4 g28 (v26 + 1) v30 (bOr .u64 v31 w2) v32 v33, f141c_join_L1 w1 w2 w3 w4 g28 (v26 + 1) v30 v31 (bOr .u64 v32 w3) v33, f141c_join_L1 w1 w2 w3 w4 g28 (v26 + 1) v30 v31 v32 (bOr .u64 v33 w4)]
def f141c_join : N4 → Int → Int → Int → Int → Option N4
  | (w1, w2, w3, w4), v5, v6, v7, v8 => grdP ((4 : Int) ≤ 9223372036854775807) (f141c_join_L1 w1 w2 w3 w4 ((4 : Int) - 0).toNat 0 v5 v6 v7 v8)
def C141c_join (O : Oracle TT) (m : N4 → Int → Int → Int → Int → Option N4) : Prop :=
  ∀ (w1 : Int) (w2 : Int) (w3 : Int) (w4 : Int) (v5 : Int) (v6 : Int) (v7 : Int) (v8 : Int) (Q : N4 → Prop) (R : RR) (_ : ∀ (v44 : Int) (v45 : Int) (v46 : Int) (v47 : Int), Q (v44, v45, v46, v47) → R (.tup []) [(.x 0, some (.var [.int .u64 v44, .int .u64 v45, .int .u64 v46, .int .u64 v47]))]) (_ : sat (m (w1, w2, w3, w4) v5 v6 v7 v8) Q), O 141 [.c (.ptr (.x 0) 0 0), .agg [.int .u64 w1, .int .u64 w2, .int .u64 w3, .int .u64 w4]] [((.x 0), some (.var [.int .u64 v5, .int .u64 v6, .int .u64 v7, .int .u64 v8]))] R
def j141c_join : Fn TT := ⟨20, [], (.seq (.reg [qo 3 (.box 3 1)]) (.seq (.reg [qo 5 (.mv (iC 0))]) (.block 0 (.loop (.keep [0, 3, 5] [(.x 0), (.s 3)] (.aft (.seq (.reg [qo 6 (.bin .lss .num 5 (iC 4))]) (.seq (.cond 6 .skip (.exit 0)) (.seq (.block 1 (.seq (.reg [qo 7 (.mv 5),qo 4 (.mv 7)]) (.drw [] (oR 12) [11] (List.range 11) [qo 8 (.mv 0),qo 9 (.mv 4),qo 10 (.nilck 8),qo 11 (.idxC 10 9 1 4),
 qo 12 (.load 11 1 false),qo 13 (.mv 4),qo 14 (.idxC 3 13 1 4),qo 15 (.load 14 1 false),qo 16 (.bin .or .num 12 15),qo 17 (.nilck 8),qo 18 (.idxC 17 9 1 4),qp (.store 18 16 1)]))) (.reg [qo 19 (.bin .add .num 5 (iC 1)),qo 5 (.mv 19)])))) [.keep [0, 3, 5] [(.x 0), (.s 3)]]))))))⟩
theorem w141c_join {O : Oracle TT} : C141c_join (fun _ => vcF (S := SS) O j141c_join) f141c_join := by
 intro w1 w2 w3 w4 v5 v6 v7 v8 Q R hQ h
 unfold f141c_join at h
 refine ⟨nle rfl, rfl, ?_⟩
 obtain ⟨hN29, h⟩ := sat_grdP h
 conv => whnf
 refine ⟨fun σ n => ∃ (f27 : Nat) (v26 : Int) (z : Int) (v30 : Int) (v31 : Int) (v32 : Int) (v33 : Int), f27 = n ∧ f27 = (4 - v26).toNat ∧ 0 ≤ v26 ∧ v26 = z ∧ sat (f141c_join_L1 w1 w2 w3 w4 f27 v26 v30 v31 v32 v33) Q ∧ σ.keep [0, 3, 5] [(.x 0), (.s 3)] = ⟨[(0, .c (.ptr (.x 0) 0 0)), (3, .c (.ptr (.s 3) 0 0)), (5, .c (.int .i64 z))], [((.x 0), some (.var [.int .u64 v30, .int .u64 v31, .int .u64 v32, .int .u64 v33])), ((.s 3), some (.var [.int .u64 w1, .int .u64 w2, .int .u64 w3, .int .u64 w4]))]⟩, ⟨_, _, 0, _, v5, v6, v7, v8, rfl, rfl, (by decide), rfl, h, rfl⟩, ?_⟩
 rintro σ n ⟨f27, v26, _, v30, v31, v32, v33, rfl, hf27, hpf27, rfl, h, hσ⟩
 refine kk hσ ?_
 conv => whnf
 intro t34 (ht34 : t34 = decide (v26 < 4))
 cases t34
 obtain rfl := il_nil hf27 ht34
 rw [f141c_join_L1] at h
 conv => whnf
 exact ⟨[], ND 1, hQ _ _ _ _ (sat_some h)⟩
 obtain ⟨g28, rfl, hwg28, hpg28, hfg28⟩ := il_cons hf27 hpf27 ht34 hN29
 rw [f141c_join_L1] at h
 conv => whnf
 obtain ⟨hbj35, h⟩ := sat_caseI h
 refine ⟨hbj35, fun j35 hj35 => ?_⟩
 replace h := h j35 hj35
 replace hbj35 : (0 : Int) ≤ v26 ∧ v26 < 4 := hbj35
 have hcj35 : j35 = 0 ∨ j35 = 1 ∨ j35 = 2 ∨ j35 = 3 := by omega
 rcases hcj35 with rfl | rfl | rfl | rfl
 replace h := sat_j0 h
 conv => whnf
 refine ⟨⟨by omega, by omega⟩, fun j36 hj36 => ?_⟩
 obtain rfl : j36 = 0 := by omega
 conv => whnf
 refine ⟨⟨by omega, by omega⟩, fun j37 hj37 => ?_⟩
 obtain rfl : j37 = 0 := by omega
 conv => whnf
 exact ⟨g28, nls, g28, v26 + 1, _, (bOr .u64 v30 w1), v31, v32, v33, rfl, hfg28, hpg28, hwg28.symm, h, rfl⟩
 replace h := sat_j1 h
 conv => whnf
 refine ⟨⟨by omega, by omega⟩, fun j38 hj38 => ?_⟩
 obtain rfl : j38 = 1 := by omega
 conv => whnf
 refine ⟨⟨by omega, by omega⟩, fun j39 hj39 => ?_⟩
 obtain rfl : j39 = 1 := by omega
 conv => whnf
 exact ⟨g28, nls, g28, v26 + 1, _, v30, (bOr .u64 v31 w2), v32, v33, rfl, hfg28, hpg28, hwg28.symm, h, rfl⟩
 replace h := sat_j2 h
 conv => whnf
 refine ⟨⟨by omega, by omega⟩, fun j40 hj40 => ?_⟩
 obtain rfl : j40 = 2 := by omega
 conv => whnf
 refine ⟨⟨by omega, by omega⟩, fun j41 hj41 => ?_⟩
 obtain rfl : j41 = 2 := by omega
 conv => whnf
 exact ⟨g28, nls, g28, v26 + 1, _, v30, v31, (bOr .u64 v32 w3), v33, rfl, hfg28, hpg28, hwg28.symm, h, rfl⟩
 replace h := sat_j3 h
 conv => whnf
 refine ⟨⟨by omega, by omega⟩, fun j42 hj42 => ?_⟩
 obtain rfl : j42 = 3 := by omega
 conv => whnf
 refine ⟨⟨by omega, by omega⟩, fun j43 hj43 => ?_⟩
 obtain rfl : j43 = 3 := by omega
 conv => whnf
 exact ⟨g28, nls, g28, v26 + 1, _, v30, v31, v32, (bOr .u64 v33 w4), rfl, hfg28, hpg28, hwg28.symm, h, rfl⟩
theorem c141c_join {P : Program} {fid : Nat → FuncId} (mx : MX P) (k141c_join : KF P fid 141 j141c_join) : C141c_join (SP P fid) f141c_join :=
 fun a0 a1 a2 a3 a4 a5 a6 a7 Q R hQ h => spec_of_vc mx k141c_join (w141c_join a0 a1 a2 a3 a4 a5 a6 a7 Q R hQ h)
def f112_behind_L2 (w1 : Int) (w2 : Int) (w3 : Int) (w4 : Int) : L4 → Nat → Int → Int → Int → Int → Option (Sum (N4) N4)
  | [], j78, v82, v83, v84, v85 => some (.inr (v82, v83, v84, v85))
  | ((w87, w88, w89, w90)) :: tl80, j78, v82, v83, v84, v85 => (f140_has ((j78 : Nat) : Int) w1 w2 w3 w4).bind fun q91 => cond q91 ((f141c_join (w87, w88, w89, w90) v82 v83 v84 v85).bind fun (v93, v94, v95, v96) => f112_behind_L2 w1 w2 w3 w4 tl80 (j78 + 1) v93 v94 v95 v96) (f112_behind_L2 w1 w2 w3 w4 tl80 (j78 + 1) v82 v83 v84 v85)
def f112_behind : N4 → L4 → L4 → Bool → Int → Int → Int → Int → Int → Int → Int → Int → Option (N4)
  | (w1, w2, w3, w4), l5, l6, q7, v8, v9, v10, v11, v12, v13, v14, v15 => sbind (ο := Int × Int × Int × Int) (f112_behind_L2 w1 w2 w3 w4 l6 0 (0 : Int) (0 : Int) (0 : Int) (0 : Int)) (fun (v54, v55, v56, v57) => some (v54, v55, v56, v57))
def C112_behind (O : Oracle TT) (m : N4 → L4 → L4 → Bool → Int → Int → Int → Int → Int → Int → Int → Int → Option (N4)) : Prop :=
  ∀ (w1 : Int) (w2 : Int) (w3 : Int) (w4 : Int) (l5 : L4) (l6 : L4) (q7 : Bool) (v8 : Int) (v9 : Int) (v10 : Int) (v11 : Int) (v12 : Int) (v13 : Int) (v14 : Int) (v15 : Int) (Q : N4 → Prop) (R : RR) (_ : ∀ (w97 : Int) (w98 : Int) (w99 : Int) (w100 : Int), Q (w97, w98, w99, w100) → R (.agg [.int .u64 w97, .int .u64 w98, .int .u64 w99, .int .u64 w100]) [(.x 0, some (.var [.isl .set4 l5, .isl .set4 l6, .bool q7, .int .u64 v8, .int .u64 v9, .int .u64 v10, .int .u64 v11, .int .u64 v12, .int .u64 v13, .int .u64 v14, .int .u64 v15]))]) (_ : sat (m (w1, w2, w3, w4) l5 l6 q7 v8 v9 v10 v11 v12 v13 v14 v15) Q), O 112 [.c (.ptr (.x 0) 0 0), .agg [.int .u64 w1, .int .u64 w2, .int .u64 w3, .int .u64 w4]] [((.x 0), some (.var [.isl .set4 l5, .isl .set4 l6, .bool q7, .int .u64 v8, .int .u64 v9, .int .u64 v10, .int .u64 v11, .int .u64 v12, .int .u64 v13, .int .u64 v14, .int .u64 v15]))] R
def j112_behind : Fn TT := ⟨27, [.cell 4 4 true], (.seq (.reg [qo 3 (.box 3 1),qo 4 (.alloc 4 [.int .u64 0, .int .u64 0, .int .u64 0, .int .u64 0])]) (.seq (.reg [qo 5 (.alloc 5 [.int .u64 0, .int .u64 0, .int .u64 0, .int .u64 0])]) (.cut [4, 5] [(.s 4), (.s 5), (.x 0)] (.seq (.reg [qo 7 (.mv 0),qo 8 (.nilck 7),qo 9 (.fa 8 1),qo 10 (.load 9 1 false),qo 11 (.len false 10),
 qo 12 (.mv (iC 0))]) (.block 0 (.loop (.keep [0, 3, 4, 5, 11, 12] [(.x 0), (.s 3), (.s 4), (.s 5)] (.aft (.seq (.reg [qo 13 (.bin .lss .num 12 11)]) (.seq (.cond 13 .skip (.exit 0)) (.seq (.block 1 (.seq (.reg [qo 14 (.mv 12),qo 6 (.mv 14)]) (.seq (.reg [qo 15 (.mv 6),qo 16 (.call 16 140 [3, 15])]) (.cond 16 (.reg [qo 17 (.mv 0),qo 18 (.nilck 17),qo 19 (.fa 18 1),qo 20 (.load 19 1 false),
 qo 21 (.mv 6),qo 22 (.idxA 20 21 4),qo 23 (.load 22 4 true),qo 24 (.call 24 141 [5, 23])]) .skip)))) (.reg [qo 25 (.bin .add .num 12 (iC 1)),qo 12 (.mv 25)])))) [.keep [0, 3, 4, 5, 11, 12] [(.x 0), (.s 3), (.s 4), (.s 5)]]))))) (.seq (.reg [qo 26 (.load 5 4 true),qp (.store 4 26 4)]) .ret))))⟩
theorem w112_behind {O : Oracle TT} (h140_has : C140_has O f140_has) (h141c_join : C141c_join O f141c_join) : C112_behind (fun _ => vcF (S := SS) O j112_behind) f112_behind := by
 intro w1 w2 w3 w4 l5 l6 q7 v8 v9 v10 v11 v12 v13 v14 v15 Q R hQ h
 unfold f112_behind at h
 refine ⟨nle rfl, rfl, ?_⟩
 obtain ⟨R58, h, hlR58, hrR58⟩ := sat_sbind h
 conv => whnf
 refine ⟨fun σ => ∃ (v54 : Int) (v55 : Int) (v56 : Int) (v57 : Int), R58 (.inr (v54, v55, v56, v57)) ∧ σ = ⟨[(4, .c (.ptr (.s 4) 0 0)), (5, .c (.ptr (.s 5) 0 0))], [((.s 4), some (.var [.int .u64 0, .int .u64 0, .int .u64 0, .int .u64 0])), ((.s 5), some (.var [.int .u64 v54, .int .u64 v55, .int .u64 v56, .int .u64 v57])), ((.x 0), some (.var [.isl .set4 l5, .isl .set4 l6, .bool q7, .int .u64 v8, .int .u64 v9, .int .u64 v10, .int .u64 v11, .int .u64 v12, .int .u64 v13, .int .u64 v14, .int .u64 v15]))]⟩, ?_, ?_⟩
 conv => whnf
 intro hl59
 conv => whnf
 refine ⟨fun σ n => ∃ (rem79 : L4) (j78 : Nat) (z : Int) (v82 : Int) (v83 : Int) (v84 : Int) (v85 : Int), n = rem79.length ∧ l6.drop j78 = rem79 ∧ z = ((j78 : Nat) : Int) ∧ sat (f112_behind_L2 w1 w2 w3 w4 rem79 j78 v82 v83 v84 v85) R58 ∧ σ.keep [0, 3, 4, 5, 11, 12] [(.x 0), (.s 3), (.s 4), (.s 5)] = ⟨[(0, .c (.ptr (.x 0) 0 0)), (3, .c (.ptr (.s 3) 0 0)), (4, .c (.ptr (.s 4) 0 0)), (5, .c (.ptr (.s 5) 0 0)), (11, .c (.int .i64 ((l6.length : Nat) : Int))), (12, .c (.int .i64 z))], [((.x 0), some (.var [.isl .set4 l5, .isl .set4 l6, .bool q7, .int .u64 v8, .int .u64 v9, .int .u64 v10, .int .u64 v11, .int .u64 v12, .int .u64 v13, .int .u64 v14, .int .u64 v15])), ((.s 3), some (.var [.int .u64 w1, .int .u64 w2, .int .u64 w3, .int .u64 w4])), ((.s 4), some (.var [.int .u64 0, .int .u64 0, .int .u64 0, .int .u64 0])), ((.s 5), some (.var [.int .u64 v82, .int .u64 v83, .int .u64 v84, .int .u64 v85]))]⟩, ⟨_, l6, 0, _, (0 : Int), (0 : Int), (0 : Int), (0 : Int), rfl, rfl, rfl, h, rfl⟩, ?_⟩
 rintro σ n ⟨rem79, j78, _, v82, v83, v84, v85, rfl, hrem79, rfl, h, hσ⟩
 refine kk hσ ?_
 conv => whnf
 intro t86 (ht86 : t86 = decide (((j78 : Nat) : Int) < ((l6.length : Nat) : Int)))
 cases t86
 obtain rfl := ll_nil hrem79 ht86
 rw [f112_behind_L2] at h
 conv => whnf
 exact ⟨v82, v83, v84, v85, sat_some h, rfl⟩
 obtain ⟨x81, tl80, rfl, hx81, htl80⟩ := ll_cons hrem79 ht86
 obtain ⟨w87, w88, w89, w90⟩ := x81
 rw [f112_behind_L2] at h
 conv => whnf
 refine ⟨[(.s 3)], ?_⟩
 conv => whnf
 refine h140_has _ _ _ _ _ _ _ ?_ (sat_bind h)
 rintro q91 h
 cases q91
 replace h := sat_cf h
 conv => whnf
 exact ⟨tl80.length, nls, tl80, j78 + 1, _, v82, v83, v84, v85, rfl, htl80, lx_wr hx81 hl59, h, rfl⟩
 replace h := sat_ct h
 conv => whnf
 refine ⟨lx_bd hx81, fun uu92 huu92 => ?_⟩
 obtain rfl := lx_eq hx81 huu92
 conv => whnf
 refine ⟨[(.s 5)], ?_⟩
 conv => whnf
 refine h141c_join _ _ _ _ _ _ _ _ _ _ ?_ (sat_bind h)
 rintro v93 v94 v95 v96 h
 conv => whnf
 exact ⟨tl80.length, nls, tl80, j78 + 1, _, v93, v94, v95, v96, rfl, htl80, lx_wr hx81 hl59, h, rfl⟩
 rintro _ ⟨v54, v55, v56, v57, h, rfl⟩
 replace h := hrR58 _ h
 conv => whnf
 exact ⟨[], ND 1, hQ _ _ _ _ (sat_some h)⟩
theorem c112_behind {P : Program} {fid : Nat → FuncId} (mx : MX P) (k112_behind : KF P fid 112 j112_behind) (h140_has : C140_has (SP P fid) f140_has) (h141c_join : C141c_join (SP P fid) f141c_join) : C112_behind (SP P fid) f112_behind :=
 fun a0 a1 a2 a3 a4 a5 a6 a7 a8 a9 a10 a11 a12 a13 a14 Q R hQ h => spec_of_vc mx k112_behind (w112_behind h140_has h141c_join a0 a1 a2 a3 a4 a5 a6 a7 a8 a9 a10 a11 a12 a13 a14 Q R hQ h)
def f113_ends_L2 (w1 : Int) (w2 : Int) (w3 : Int) (w4 : Int) (q7 : Bool) (v12 : Int) (v13 : Int) (v14 : Int) (v15 : Int) : Nat → Int → Option (Sum (Bool × Bool) (Unit))
  | 0, v58 => some (.inr ())
  | g60 + 1, v58 => caseI v58 [cond ((bAnd .u64 w1 v12) != 0) (lft (some (true, q7))) (f113_ends_L2 w1 w2 w3 w4 q7 v12 v13 v14 v15 g60 (v58 + 1)), cond ((bAnd .u64 w2 v13) != 0) (lft (some (true, q7))) (f113_ends_L2 w1 w2 w3 w4 q7 v12 v13 v14 v15 g60 (v58 + 1)), cond ((bAnd .u64 w3 v14) != 0) (lft (some (true, q7))) (f113_ends_L2 w1 w2 w3 w4 q7 v12 v13 v14 v15 g60 (v58 + 1)), cond ((bAnd .u64 w4 v15) != 0) (lft (some (true, q7))) (f113_ends_L2 w1 w2 w3 w4 q7 v12 v13 v14 v15 g60 (v58 + 1))]
def f113_ends_L4 (w1 : Int) (w2 : Int) (w3 : Int) (w4 : Int) (v12 : Int) (v13 : Int) (v14 : Int) (v15 : Int) : Nat → Int → Option (Sum (Bool × Bool) (Unit))
  | 0, v113 => some (.inr ())
  | g115 + 1, v113 => caseI v113 [cond ((bAnd .u64 w1 v12) != 0) (lft (some (true, false))) (f113_ends_L4 w1 w2 w3 w4 v12 v13 v14 v15 g115 (v113 + 1)), cond ((bAnd .u64 w2 v13) != 0) (lft (some (true, false))) (f113_ends_L4 w1 w2 w3 w4 v12 v13 v14 v15 g115 (v113 + 1)), cond ((bAnd .u64 w3 v14) != 0) (lft (some (true, false))) (f113_ends_L4 w1 w2 w3 w4 v12 v13 v14 v15 g115 (v113 + 1)), cond ((bAnd .u64 w4 v15) != 0) (lft (some (true, false))) (f113_ends_L4 w1 w2 w3 w4 v12 v13 v14 v15 g115 (v113 + 1))]
def f113_ends : N4 → L4 → L4 → Bool → Int → Int → Int → Int → Int → Int → Int → Int → Option (Bool × Bool)
  | (w1, w2, w3, w4), l5, l6, q7, v8, v9, v10, v11, v12, v13, v14, v15 => (f140_has (0 : Int) w1 w2 w3 w4).bind fun q16 => cond q16 (cond q7 (some (true, true)) (sbind (ο := Unit) (grdP ((4 : Int) ≤ 9223372036854775807) (f113_ends_L4 w1 w2 w3 w4 v12 v13 v14 v15 ((4 : Int) - 0).toNat 0)) (fun () => some (false, false)))) (sbind (ο := Unit) (grdP ((4 : Int) ≤ 9223372036854775807) (f113_ends_L2 w1 w2 w3 w4 q7 v12 v13 v14 v15 ((4 : Int) - 0).toNat 0)) (fun () => some (false, q7)))
def C113_ends (O : Oracle TT) (m : N4 → L4 → L4 → Bool → Int → Int → Int → Int → Int → Int → Int → Int → Option (Bool × Bool)) : Prop :=
  ∀ (w1 : Int) (w2 : Int) (w3 : Int) (w4 : Int) (l5 : L4) (l6 : L4) (q7 : Bool) (v8 : Int) (v9 : Int) (v10 : Int) (v11 : Int) (v12 : Int) (v13 : Int) (v14 : Int) (v15 : Int) (Q : (Bool × Bool) → Prop) (R : RR) (_ : ∀ (q127 : Bool) (q128 : Bool), Q (q127, q128) → R (.c (.bool q127)) [(.x 0, some (.var [.isl .set4 l5, .isl .set4 l6, .bool q128, .int .u64 v8, .int .u64 v9, .int .u64 v10, .int .u64 v11, .int .u64 v12, .int .u64 v13, .int .u64 v14, .int .u64 v15]))]) (_ : sat (m (w1, w2, w3, w4) l5 l6 q7 v8 v9 v10 v11 v12 v13 v14 v15) Q), O 113 [.c (.ptr (.x 0) 0 0), .agg [.int .u64 w1, .int .u64 w2, .int .u64 w3, .int .u64 w4]] [((.x 0), some (.var [.isl .set4 l5, .isl .set4 l6, .bool q7, .int .u64 v8, .int .u64 v9, .int .u64 v10, .int .u64 v11, .int .u64 v12, .int .u64 v13, .int .u64 v14, .int .u64 v15]))] R
def j113_ends : Fn TT := ⟨30, [.t 4], (.seq (.reg [qo 3 (.box 3 1),qo 4 (.mv bF)]) (.seq (.seq (.reg [qo 6 (.call 6 140 [3, (iC 0)]),qo 7 (.mv 6),qg 7 8 (.mv 0),qg 7 9 (.nilck 8),qg 7 10 (.fa 9 2),qg 7 11 (.fa 10 0),qg 7 12 (.load 11 1 false),qo 13 (.pick 7 12 bF)]) (.cond 13 (.seq (.reg [qo 4 (.mv bT)]) .ret) .skip)) (.cut [] [(.x 0)] (.seq (.reg [qo 14 (.mv (iC 0))]) (.block 0
 (.loop (.keep [0, 3, 14] [(.x 0), (.s 3)] (.aft (.seq (.reg [qo 15 (.bin .lss .num 14 (iC 4))]) (.seq (.cond 15 .skip (.exit 0)) (.seq (.block 1 (.seq (.reg [qo 16 (.mv 14),qo 5 (.mv 16)]) (.seq (.drw [] (oR 12) [] (List.range 12) [qo 17 (.mv 5),qo 18 (.idxC 3 17 1 4),qo 19 (.load 18 1 false),qo 20 (.mv 0),qo 21 (.mv 5),qo 22 (.nilck 20),qo 23 (.fa 22 2),qo 24 (.fa 23 5),
 qo 25 (.idxC 24 21 1 4),qo 26 (.load 25 1 false),qo 27 (.bin .and .num 19 26),qo 28 (.bin .neq .num 27 (.c (.int .u64 0)))]) (.cond 28 (.seq (.reg [qo 4 (.mv bT)]) .ret) .skip)))) (.reg [qo 29 (.bin .add .num 14 (iC 1)),qo 14 (.mv 29)])))) [.keep [0, 3, 14] [(.x 0), (.s 3)]]))))) (.seq (.reg [qo 4 (.mv bF)]) .ret))))⟩
theorem w113_ends {O : Oracle TT} (h140_has : C140_has O f140_has) : C113_ends (fun _ => vcF (S := SS) O j113_ends) f113_ends := by
 intro w1 w2 w3 w4 l5 l6 q7 v8 v9 v10 v11 v12 v13 v14 v15 Q R hQ h
 unfold f113_ends at h
 refine ⟨nle rfl, rfl, ?_⟩
 conv => whnf
 refine ⟨[(.s 3)], ?_⟩
 conv => whnf
 refine h140_has _ _ _ _ _ _ _ ?_ (sat_bind h)
 rintro q16 h
 cases q16
 replace h := sat_cf h
 obtain ⟨R44, h, hlR44, hrR44⟩ := sat_sbind h
 conv => whnf
 refine ⟨fun σ => R44 (.inr ()) ∧ σ = ⟨[], [((.x 0), some (.var [.isl .set4 l5, .isl .set4 l6, .bool q7, .int .u64 v8, .int .u64 v9, .int .u64 v10, .int .u64 v11, .int .u64 v12, .int .u64 v13, .int .u64 v14, .int .u64 v15]))]⟩, ?_, ?_⟩
 obtain ⟨hN61, h⟩ := sat_grdP h
 conv => whnf
 refine ⟨fun σ n => ∃ (f59 : Nat) (v58 : Int) (z : Int), f59 = n ∧ f59 = (4 - v58).toNat ∧ 0 ≤ v58 ∧ v58 = z ∧ sat (f113_ends_L2 w1 w2 w3 w4 q7 v12 v13 v14 v15 f59 v58) R44 ∧ σ.keep [0, 3, 14] [(.x 0), (.s 3)] = ⟨[(0, .c (.ptr (.x 0) 0 0)), (3, .c (.ptr (.s 3) 0 0)), (14, .c (.int .i64 z))], [((.x 0), some (.var [.isl .set4 l5, .isl .set4 l6, .bool q7, .int .u64 v8, .int .u64 v9, .int .u64 v10, .int .u64 v11, .int .u64 v12, .int .u64 v13, .int .u64 v14, .int .u64 v15])), ((.s 3), some (.var [.int .u64 w1, .int .u64 w2, .int .u64 w3, .int .u64 w4]))]⟩, ⟨_, _, 0, _, rfl, rfl, (by decide), rfl, h, rfl⟩, ?_⟩
 rintro σ n ⟨f59, v58, _, rfl, hf59, hpf59, rfl, h, hσ⟩
 refine kk hσ ?_
 conv => whnf
 intro t62 (ht62 : t62 = decide (v58 < 4))
 cases t62
 obtain rfl := il_nil hf59 ht62
 rw [f113_ends_L2] at h
 conv => whnf
 exact ⟨sat_some h, rfl⟩
 obtain ⟨g60, rfl, hwg60, hpg60, hfg60⟩ := il_cons hf59 hpf59 ht62 hN61
 rw [f113_ends_L2] at h
 conv => whnf
 obtain ⟨hbj63, h⟩ := sat_caseI h
 refine ⟨hbj63, fun j63 hj63 => ?_⟩
 replace h := h j63 hj63
 replace hbj63 : (0 : Int) ≤ v58 ∧ v58 < 4 := hbj63
 have hcj63 : j63 = 0 ∨ j63 = 1 ∨ j63 = 2 ∨ j63 = 3 := by omega
 rcases hcj63 with rfl | rfl | rfl | rfl
 replace h := sat_j0 h
 conv => whnf
 refine ⟨⟨by omega, by omega⟩, fun j64 hj64 => ?_⟩
 obtain rfl : j64 = 0 := by omega
 conv => whnf
 refine kc h (fun h => ?_) fun h => ?_
 conv => whnf
 exact ⟨g60, nls, g60, v58 + 1, _, rfl, hfg60, hpg60, hwg60.symm, h, rfl⟩
 replace h := sat_lft hlR44 h
 conv => whnf
 exact ⟨[], ND 1, hQ _ _ (sat_some h)⟩
 replace h := sat_j1 h
 conv => whnf
 refine ⟨⟨by omega, by omega⟩, fun j66 hj66 => ?_⟩
 obtain rfl : j66 = 1 := by omega
 conv => whnf
 refine kc h (fun h => ?_) fun h => ?_
 conv => whnf
 exact ⟨g60, nls, g60, v58 + 1, _, rfl, hfg60, hpg60, hwg60.symm, h, rfl⟩
 replace h := sat_lft hlR44 h
 conv => whnf
 exact ⟨[], ND 1, hQ _ _ (sat_some h)⟩
 replace h := sat_j2 h
 conv => whnf
 refine ⟨⟨by omega, by omega⟩, fun j68 hj68 => ?_⟩
 obtain rfl : j68 = 2 := by omega
 conv => whnf
 refine kc h (fun h => ?_) fun h => ?_
 conv => whnf
 exact ⟨g60, nls, g60, v58 + 1, _, rfl, hfg60, hpg60, hwg60.symm, h, rfl⟩
 replace h := sat_lft hlR44 h
 conv => whnf
 exact ⟨[], ND 1, hQ _ _ (sat_some h)⟩
 replace h := sat_j3 h
 conv => whnf
 refine ⟨⟨by omega, by omega⟩, fun j70 hj70 => ?_⟩
 obtain rfl : j70 = 3 := by omega
 conv => whnf
 refine kc h (fun h => ?_) fun h => ?_
 conv => whnf
 exact ⟨g60, nls, g60, v58 + 1, _, rfl, hfg60, hpg60, hwg60.symm, h, rfl⟩
 replace h := sat_lft hlR44 h
 conv => whnf
 exact ⟨[], ND 1, hQ _ _ (sat_some h)⟩
 rintro _ ⟨h, rfl⟩
 replace h := hrR44 _ h
 conv => whnf
 exact ⟨[], ND 1, hQ _ _ (sat_some h)⟩
 replace h := sat_ct h
 cases q7
 replace h := sat_cf h
 obtain ⟨R99, h, hlR99, hrR99⟩ := sat_sbind h
 conv => whnf
 refine ⟨fun σ => R99 (.inr ()) ∧ σ = ⟨[], [((.x 0), some (.var [.isl .set4 l5, .isl .set4 l6, .bool false, .int .u64 v8, .int .u64 v9, .int .u64 v10, .int .u64 v11, .int .u64 v12, .int .u64 v13, .int .u64 v14, .int .u64 v15]))]⟩, ?_, ?_⟩
 obtain ⟨hN116, h⟩ := sat_grdP h
 conv => whnf
 refine ⟨fun σ n => ∃ (f114 : Nat) (v113 : Int) (z : Int), f114 = n ∧ f114 = (4 - v113).toNat ∧ 0 ≤ v113 ∧ v113 = z ∧ sat (f113_ends_L4 w1 w2 w3 w4 v12 v13 v14 v15 f114 v113) R99 ∧ σ.keep [0, 3, 14] [(.x 0), (.s 3)] = ⟨[(0, .c (.ptr (.x 0) 0 0)), (3, .c (.ptr (.s 3) 0 0)), (14, .c (.int .i64 z))], [((.x 0), some (.var [.isl .set4 l5, .isl .set4 l6, .bool false, .int .u64 v8, .int .u64 v9, .int .u64 v10, .int .u64 v11, .int .u64 v12, .int .u64 v13, .int .u64 v14, .int .u64 v15])), ((.s 3), some (.var [.int .u64 w1, .int .u64 w2, .int .u64 w3, .int .u64 w4]))]⟩, ⟨_, _, 0, _, rfl, rfl, (by decide), rfl, h, rfl⟩, ?_⟩
 rintro σ n ⟨f114, v113, _, rfl, hf114, hpf114, rfl, h, hσ⟩
 refine kk hσ ?_
 conv => whnf
 intro t117 (ht117 : t117 = decide (v113 < 4))
 cases t117
 obtain rfl := il_nil hf114 ht117
 rw [f113_ends_L4] at h
 conv => whnf
 exact ⟨sat_some h, rfl⟩
 obtain ⟨g115, rfl, hwg115, hpg115, hfg115⟩ := il_cons hf114 hpf114 ht117 hN116
 rw [f113_ends_L4] at h
 conv => whnf
 obtain ⟨hbj118, h⟩ := sat_caseI h
 refine ⟨hbj118, fun j118 hj118 => ?_⟩
 replace h := h j118 hj118
 replace hbj118 : (0 : Int) ≤ v113 ∧ v113 < 4 := hbj118
 have hcj118 : j118 = 0 ∨ j118 = 1 ∨ j118 = 2 ∨ j118 = 3 := by omega
 rcases hcj118 with rfl | rfl | rfl | rfl
 replace h := sat_j0 h
 conv => whnf
 refine ⟨⟨by omega, by omega⟩, fun j119 hj119 => ?_⟩
 obtain rfl : j119 = 0 := by omega
 conv => whnf
 refine kc h (fun h => ?_) fun h => ?_
 conv => whnf
 exact ⟨g115, nls, g115, v113 + 1, _, rfl, hfg115, hpg115, hwg115.symm, h, rfl⟩
 replace h := sat_lft hlR99 h
 conv => whnf
 exact ⟨[], ND 1, hQ _ _ (sat_some h)⟩
 replace h := sat_j1 h
 conv => whnf
 refine ⟨⟨by omega, by omega⟩, fun j121 hj121 => ?_⟩
 obtain rfl : j121 = 1 := by omega
 conv => whnf
 refine kc h (fun h => ?_) fun h => ?_
 conv => whnf
 exact ⟨g115, nls, g115, v113 + 1, _, rfl, hfg115, hpg115, hwg115.symm, h, rfl⟩
 replace h := sat_lft hlR99 h
 conv => whnf
 exact ⟨[], ND 1, hQ _ _ (sat_some h)⟩
 replace h := sat_j2 h
 conv => whnf
 refine ⟨⟨by omega, by omega⟩, fun j123 hj123 => ?_⟩
 obtain rfl : j123 = 2 := by omega
 conv => whnf
 refine kc h (fun h => ?_) fun h => ?_
 conv => whnf
 exact ⟨g115, nls, g115, v113 + 1, _, rfl, hfg115, hpg115, hwg115.symm, h, rfl⟩
 replace h := sat_lft hlR99 h
 conv => whnf
 exact ⟨[], ND 1, hQ _ _ (sat_some h)⟩
 replace h := sat_j3 h
 conv => whnf
 refine ⟨⟨by omega, by omega⟩, fun j125 hj125 => ?_⟩
 obtain rfl : j125 = 3 := by omega
 conv => whnf
 refine kc h (fun h => ?_) fun h => ?_
 conv => whnf
 exact ⟨g115, nls, g115, v113 + 1, _, rfl, hfg115, hpg115, hwg115.symm, h, rfl⟩
 replace h := sat_lft hlR99 h
 conv => whnf
 exact ⟨[], ND 1, hQ _ _ (sat_some h)⟩
 rintro _ ⟨h, rfl⟩
 replace h := hrR99 _ h
 conv => whnf
 exact ⟨[], ND 1, hQ _ _ (sat_some h)⟩
 replace h := sat_ct h
 conv => whnf
 exact ⟨[], ND 1, hQ _ _ (sat_some h)⟩
theorem c113_ends {P : Program} {fid : Nat → FuncId} (mx : MX P) (k113_ends : KF P fid 113 j113_ends) (h140_has : C140_has (SP P fid) f140_has) : C113_ends (SP P fid) f113_ends :=
 fun a0 a1 a2 a3 a4 a5 a6 a7 a8 a9 a10 a11 a12 a13 a14 Q R hQ h => spec_of_vc mx k113_ends (w113_ends h140_has a0 a1 a2 a3 a4 a5 a6 a7 a8 a9 a10 a11 a12 a13 a14 Q R hQ h)
def f86_build_L146 (l20 : L4) (v12133 : Int) : Nat → Int → Int → Int → Int → Int → Option (Sum (Sum (Sum (Sum (Sum ((List LI) × (List Bool) × Int) ((List LI) × (List Bool))) (Bool × (List (N4 × Int)) × L4 × (List LI) × (List Bool))) ((List (N4 × Int)) × L4 × LI)) ((List (N4 × Int)) × L4 × LI)) N4)
  | 0, v12460, v12464, v12465, v12466, v12467 => some (.inr (v12464, v12465, v12466, v12467))
  | g12462 + 1, v12460, v12464, v12465, v12466, v12467 => caseI v12460 [grdP ((0 : Int) ≤ v12133 ∧ v12133 < 256) (getN l20 v12133.toNat fun uu12476 => match uu12476 with | (w12472, w12473, w12474, w12475) => f86_build_L146 l20 v12133 g12462 (v12460 + 1) (bAnd .u64 v12464 w12472) v12465 v12466 v12467), grdP ((0 : Int) ≤ v12133 ∧ v12133 < 256) (getN l20 v12133.toNat fun uu12484 => match uu12484 with | (w12480, w12481, w12482, w12483) => f86_build_L146 l20 v12133 g12462 (v12460 + 1) v12464 (bAnd .u64 v12465 w12481) v12466 v12467), grdP ((0 : Int) ≤ v12133 ∧ v12133 < 256) (getN l20 v12133.toNat fun uu12492 => match uu12492 with | (w12488, w12489, w12490, w12491) => f86_build_L146 l20 v12133 g12462 (v12460 + 1) v12464 v12465 (bAnd .u64 v12466 w12490) v12467), grdP ((0 : Int) ≤ v12133 ∧ v12133 < 256) (getN l20 v12133.toNat fun uu12500 => match uu12500 with | (w12496, w12497, w12498, w12499) => f86_build_L146 l20 v12133 g12462 (v12460 + 1) v12464 v12465 v12466 (bAnd .u64 v12467 w12499))]
def f86_build_L142 (l20 : L4) (w10980 : Int) (w10981 : Int) (w10982 : Int) (w10983 : Int) : Nat → Int → (List (N4 × Int)) → L4 → LI → Option (Sum (Sum (Sum ((List LI) × (List Bool) × Int) ((List LI) × (List Bool))) (Bool × (List (N4 × Int)) × L4 × (List LI) × (List Bool))) ((List (N4 × Int)) × L4 × LI))
  | 0, v12133, l12137, l12138, l12139 => some (.inr (l12137, l12138, l12139))
  | g12135 + 1, v12133, l12137, l12138, l12139 => sbind (τ := Sum (Sum (Sum ((List LI) × (List Bool) × Int) ((List LI) × (List Bool))) (Bool × (List (N4 × Int)) × L4 × (List LI) × (List Bool))) ((List (N4 × Int)) × L4 × LI)) (ο := (List (N4 × Int)) × L4 × LI) (sbind (τ := Sum (Sum (Sum (Sum ((List LI) × (List Bool) × Int) ((List LI) × (List Bool))) (Bool × (List (N4 × Int)) × L4 × (List LI) × (List Bool))) ((List (N4 × Int)) × L4 × LI)) ((List (N4 × Int)) × L4 × LI)) (ο := Int × Int × Int × Int) (grdP ((4 : Int) ≤ 9223372036854775807) (f86_build_L146 l20 v12133 ((4 : Int) - 0).toNat 0 w10980 w10981 w10982 w10983)) (fun (v12414, v12415, v12416, v12417) => match mget l12137 (v12414, v12415, v12416, v12417) with | none => grdP ((mget l12137 (v12414, v12415, v12416, v12417)).isNone = true) (grdP (l12138.length + ([(v12414, v12415, v12416, v12417)] : L4).length ≤ 68719476736) (cond (decide ((((l12138.length + ([(v12414, v12415, v12416, v12417)] : L4).length) : Nat) : Int) > 400)) (lft (lft (lft (lft (some ([], [], 2)))))) (grdP ((0 : Int) ≤ v12133 ∧ v12133 < 256) (getN l12139 v12133.toNat fun h12509 => some (.inr ((l12137 ++ [((v12414, v12415, v12416, v12417), (wrap .i16 ((l12138.length : Nat) : Int)))]), (l12138 ++ ([(v12414, v12415, v12416, v12417)] : L4)), (l12139.set v12133.toNat (wrap .i16 ((l12138.length : Nat) : Int))))))))) | some v12502 => grdP ((0 : Int) ≤ v12133 ∧ v12133 < 256) (getN l12139 v12133.toNat fun h12513 => some (.inr (l12137, l12138, (l12139.set v12133.toNat v12502)))))) (fun (l12326, l12327, l12328) => f86_build_L142 l20 w10980 w10981 w10982 w10983 g12135 (v12133 + 1) l12326 l12327 l12328)
def f86_build_L110 (l2 : L4) (l3 : L4) (v5 : Int) (v6 : Int) (v7 : Int) (v8 : Int) (v9 : Int) (v10 : Int) (v11 : Int) (v12 : Int) (l20 : L4) : Nat → (List (N4 × Int)) → L4 → (List LI) → (List Bool) → Int → Bool → Option (Sum ((List LI) × (List Bool) × Int) ((List LI) × (List Bool)))
  | 0, _, _, _, _, _, _ => none
  | g9400 + 1, l9402, l9403, l9404, l9405, v9406, q9407 => cond (decide (v9406 < ((l9403.length : Nat) : Int))) (sbind (ο := Bool × (List (N4 × Int)) × L4 × (List LI) × (List Bool)) (grdP ((0 : Int) ≤ v9406 ∧ v9406 < ((l9403.length : Nat) : Int)) (getN l9403 (0 + v9406.toNat) fun uu10979 => match uu10979 with | (w10975, w10976, w10977, w10978) => (f112_behind (w10975, w10976, w10977, w10978) l2 l3 q9407 v5 v6 v7 v8 v9 v10 v11 v12).bind fun ((w10980, w10981, w10982, w10983)) => sbind (ο := (List (N4 × Int)) × L4 × LI) (grdP ((256 : Int) ≤ 9223372036854775807) (f86_build_L142 l20 w10980 w10981 w10982 w10983 ((256 : Int) - 0).toNat 0 l9402 l9403 (List.replicate 256 (0 : Int)))) (fun (l11747, l11748, l11749) => grdP (l11749.length = 256) (grdP (l9404.length + ([l11749] : List LI).length ≤ 68719476736) (grdP ((0 : Int) ≤ v9406 ∧ v9406 < ((l11748.length : Nat) : Int)) (getN l11748 (0 + v9406.toNat) fun uu12521 => match uu12521 with | (w12517, w12518, w12519, w12520) => (f113_ends (w12517, w12518, w12519, w12520) l2 l3 q9407 v5 v6 v7 v8 v9 v10 v11 v12).bind fun (q12522, q12523) => grdP (l9405.length + ([q12522] : List Bool).length ≤ 68719476736) (some (.inr (q12523, l11747, l11748, (l9404 ++ ([l11749] : List LI)), (l9405 ++ ([q12522] : List Bool))))))))))) (fun (q10965, l10966, l10967, l10968, l10969) => f86_build_L110 l2 l3 v5 v6 v7 v8 v9 v10 v11 v12 l20 g9400 l10966 l10967 l10968 l10969 (wrap .i64 (v9406 + 1)) q10965)) (some (.inr (l9404, l9405)))
def f86_build (fuel : Nat) : BA → Option ((List LI) × (List Bool) × Int)
  | s1 => (f109_parse fuel s1).bind fun (l2, l3, q4, v5, v6, v7, v8, v9, v10, v11, v12, v13) => cond (v13 != 0) (some ([], [], v13)) ((f110b_add (0 : Int) (0 : Int) (0 : Int) (0 : Int) (0 : Int)).bind fun (v15, v16, v17, v18) => grdP ((mget ([] : List (N4 × Int)) (v15, v16, v17, v18)).isNone = true) ((f111_at l2 l3 q4 v5 v6 v7 v8 v9 v10 v11 v12).bind fun l20 => sbind (ο := (List LI) × (List Bool)) (f86_build_L110 l2 l3 v5 v6 v7 v8 v9 v10 v11 v12 l20 fuel (([] : List (N4 × Int)) ++ [((v15, v16, v17, v18), 0)]) ([(v15, v16, v17, v18)] : L4) [] [] (0 : Int) q4) (fun (l6271, l6272) => some (l6271, l6272, 0))))
def C86_build (O : Oracle TT) (m : BA → Option ((List LI) × (List Bool) × Int)) : Prop :=
  ∀ (s1 : BA) (Q : ((List LI) × (List Bool) × Int) → Prop) (R : RR) (_ : ∀ (l12526 : List LI) (l12527 : List Bool) (v12528 : Int), Q (l12526, l12527, v12528) → R (.tup [.agg [.isl .a16 l12526, .isl .bool l12527], .c (.int .i64 v12528)]) []) (_ : sat (m s1) Q), O 86 [.c (.str s1)] [] R
def j86_build : Fn TT := ⟨109, [.cell 2 2 true, .t 3], (.seq (.reg [qo 2 (.alloc 2 [.isl .a16 [], .isl .bool []]),qo 3 (.mv (iC 0))]) (.seq (.reg [qo 20 (.mv 0),qo 21 (.call 21 109 [20]),qo 19 (.mv 21),qo 22 (.ext 19 0),qo 23 (.ext 19 1),
 qo 4 (.alloc 4 [.isl .set4 [], .isl .set4 [], .bool false, .int .u64 0, .int .u64 0, .int .u64 0, .int .u64 0, .int .u64 0, .int .u64 0, .int .u64 0, .int .u64 0]),qp (.store 4 22 11),qo 5 (.mv 23)]) (.seq (.seq (.reg [qo 24 (.mv 5),qo 25 (.bin .neq .num 24 (iC 0))]) (.cond 25 (.seq (.reg [qo 26 (.build [.isl .a16 [], .isl .bool []] []),qo 27 (.mv 5),qp (.store 2 26 2),qo 3 (.mv 27)]) .ret)
 .skip)) (.seq (.reg [qo 6 (.alloc 6 [.int .u64 0, .int .u64 0, .int .u64 0, .int .u64 0])]) (.seq (.reg [qo 28 (.call 28 110 [6, (iC 0)])]) (.seq (.reg [qo 29 (.mkmap 29 .set4 .i16),qo 30 (.load 6 4 true),qp (.mapadd 4 29 30 (.c (.int .i16 0))),qo 31 (.mv 29),qo 7 (.mv 31)]) (.seq (.reg [qo 32 (.load 6 4 true),qo 33 (.bslice 33 .set4 [32]),qo 8 (.mv 33)]) (.seq
 (.reg [qo 9 (.alloc 9 [.nils, .nils])]) (.seq (.reg [qo 34 (.call 34 111 [4]),qo 10 (.mv 34)]) (.cut [2, 9] [(.s 2), (.s 9), (.sub (.sub (.s 9) 600) 0), (.sub (.sub (.s 9) 600) 1)] (.seq (.reg [qo 11 (.mv (iC 0))]) (.block 0 (.pre [.own 8 0 .set4 (.sub (.sub (.s 8) 600) 0), .ownc (.s 9) 0 .a16 (.sub (.sub (.s 9) 600) 0), .ownc (.s 9) 1 .bool (.sub (.sub (.s 9) 600) 1)]
 (.loop (.keep [2, 4, 7, 8, 9, 10, 11] [(.s 2), (.s 4), (.s 29), (.sub (.sub (.s 8) 600) 0), (.s 9), (.sub (.s 34) 0), (.sub (.sub (.s 9) 600) 0), (.sub (.sub (.s 9) 600) 1)] (.aft (.seq (.seq (.reg [qo 35 (.mv 11),qo 36 (.mv 8),qo 37 (.len false 36),qo 38 (.bin .lss .num 35 37)]) (.cond 38 .skip (.exit 0)))
 (.cut [2, 4, 7, 8, 9, 10, 11] [(.s 2), (.s 4), (.s 29), (.sub (.sub (.s 8) 601) 0), (.s 9), (.sub (.s 34) 0), (.s 96), (.s 106)] (.block 1 (.seq (.reg [qo 12 (.allocR 12 .i16 256 (0 : Int))]) (.seq (.reg [qo 41 (.mv 8),qo 42 (.mv 11),qo 43 (.idxA 41 42 4),qo 44 (.load 43 4 true),qo 45 (.call 45 112 [4, 44]),qo 13 (.alloc 13 [.int .u64 0, .int .u64 0, .int .u64 0, .int .u64 0]),
 qp (.store 13 45 4)]) (.cut [2, 4, 7, 8, 9, 10, 11, 12] [(.s 2), (.s 4), (.s 29), (.sub (.sub (.s 8) 601) 0), (.s 9), (.sub (.s 34) 0), (.s 12), (.sub (.sub (.s 9) 600) 0), (.sub (.sub (.s 9) 600) 1)] (.seq (.reg [qo 46 (.mv (iC 0))]) (.block 2 (.pre [.own 8 0 .set4 (.sub (.sub (.s 8) 601) 0)]
 (.loop (.keep [2, 4, 7, 8, 9, 10, 11, 12, 13, 46] [(.s 2), (.s 4), (.s 29), (.sub (.sub (.s 8) 601) 0), (.s 9), (.sub (.s 34) 0), (.s 12), (.s 13), (.sub (.sub (.s 9) 600) 0), (.sub (.sub (.s 9) 600) 1)] (.aft (.seq (.reg [qo 47 (.bin .lss .num 46 (iC 256))]) (.seq (.cond 47 .skip (.exit 2))
 (.cut [2, 4, 7, 8, 9, 10, 11, 12, 13, 46] [(.s 2), (.s 4), (.s 29), (.sub (.sub (.s 8) 1515) 0), (.s 9), (.sub (.s 34) 0), (.s 12), (.s 13), (.sub (.sub (.s 9) 600) 0), (.sub (.sub (.s 9) 600) 1)] (.aft (.block 3 (.seq (.reg [qo 48 (.mv 46),qo 14 (.mv 48)]) (.seq (.reg [qo 49 (.load 13 4 true),qo 15 (.alloc 15 [.int .u64 0, .int .u64 0, .int .u64 0, .int .u64 0]),qp (.store 15 49 4)])
 (.cut [2, 4, 7, 8, 9, 10, 11, 12, 13, 14, 15, 46] [(.s 2), (.s 4), (.s 29), (.sub (.sub (.s 8) 601) 0), (.s 9), (.sub (.s 34) 0), (.s 12), (.s 13), (.s 15), (.sub (.sub (.s 9) 600) 0), (.sub (.sub (.s 9) 600) 1)] (.seq (.reg [qo 50 (.mv (iC 0))]) (.block 4
 (.loop (.keep [2, 4, 7, 8, 9, 10, 11, 12, 13, 14, 15, 46, 50] [(.s 2), (.s 4), (.s 29), (.sub (.sub (.s 8) 601) 0), (.s 9), (.sub (.s 34) 0), (.s 12), (.s 13), (.s 15), (.sub (.sub (.s 9) 600) 0), (.sub (.sub (.s 9) 600) 1)] (.aft (.seq (.reg [qo 51 (.bin .lss .num 50 (iC 4))]) (.seq (.cond 51 .skip (.exit 4)) (.seq (.block 5 (.seq (.reg [qo 52 (.mv 50),qo 16 (.mv 52)])
 (.drw [] (oR 13) [12] (List.range 12) [qo 53 (.mv 16),qo 54 (.idxC 15 53 1 4),qo 55 (.load 54 1 false),qo 56 (.mv 10),qo 57 (.mv 14),qo 58 (.mv 16),qo 59 (.nilck 56),qo 60 (.idxR 59 57 4 256),qo 61 (.idxC 60 58 1 4),qo 62 (.load 61 1 false),qo 63 (.bin .and .num 55 62),qo 64 (.idxC 15 53 1 4),qp (.store 64 63 1)]))) (.reg [qo 65 (.bin .add .num 50 (iC 1)),
 qo 50 (.mv 65)])))) [.keep [2, 4, 7, 8, 9, 10, 11, 12, 13, 14, 15, 46, 50] [(.s 2), (.s 4), (.s 29), (.sub (.sub (.s 8) 601) 0), (.s 9), (.sub (.s 34) 0), (.s 12), (.s 13), (.s 15), (.sub (.sub (.s 9) 600) 0), (.sub (.sub (.s 9) 600) 1)]]))))) (.seq (.reg [qo 67 (.mv 7),qo 68 (.load 15 4 true),qo 69 (.mapget 4 67 68 (.int .i16 0) true),qo 66 (.mv 69),qo 70 (.ext 66 0),qo 71 (.ext 66 1),
 qo 17 (.mv 70),qo 18 (.mv 71)]) (.seq (.seq (.reg [qo 72 (.mv 18),qo 73 (.un .not 72)]) (.cond 73 (.seq (.reg [qo 74 (.mv 8),qo 75 (.len false 74),qo 76 (.conv .i16 75),qo 17 (.mv 76)]) (.seq (.reg [qo 77 (.mv 7),qo 78 (.load 15 4 true),qo 79 (.mv 17),qp (.mapadd 4 77 78 79)]) (.seq (.reg [qo 80 (.mv 8),qo 81 (.load 15 4 true),qo 82 (.bsl .set4 [81]),
 qo 83 (.app 83 .set4 68719476736 80 82),qo 8 (.mv 83)]) (.seq (.reg [qo 84 (.mv 8),qo 85 (.len false 84),qo 86 (.bin .gtr .num 85 (iC 400))]) (.cond 86 (.seq (.reg [qo 87 (.build [.isl .a16 [], .isl .bool []] []),qp (.store 2 87 2),qo 3 (.mv (iC 2))]) .ret) .skip))))) .skip)) (.reg [qo 88 (.mv 14),qo 89 (.mv 17),qo 90 (.idxR 12 88 1 256),
 qp (.store 90 89 1)]))))))) [.own 8 0 .set4 (.sub (.sub (.s 8) 1515) 0)]) (.reg [qo 91 (.bin .add .num 46 (iC 1)),qo 46 (.mv 91)])))) [.keep [2, 4, 7, 8, 9, 10, 11, 12, 13, 46] [(.s 2), (.s 4), (.s 29), (.sub (.sub (.s 8) 1515) 0), (.s 9), (.sub (.s 34) 0), (.s 12), (.s 13), (.sub (.sub (.s 9) 600) 0), (.sub (.sub (.s 9) 600) 1)], .own 8 0 .set4 (.sub (.sub (.s 8) 601) 0)])))))) (.seq
 (.reg [qo 92 (.fa 9 0),qo 93 (.load 92 1 false),qo 94 (.loadR 12 256),qo 95 (.bslR .a16 94),qo 96 (.app 96 .a16 68719476736 93 95),qo 97 (.fa 9 0),qp (.store 97 96 1)]) (.drw [(.s 4), (.sub (.sub (.s 9) 600) 1)] (oR 11) [10] [0, 1, 2, 3, 4, 5, 9] [qo 98 (.fa 9 1),qo 99 (.load 98 1 false),qo 100 (.mv 8),qo 101 (.mv 11),qo 102 (.idxA 100 101 4),qo 103 (.load 102 4 true),
 qo 104 (.call 104 113 [4, 103]),qo 105 (.bsl .bool [104]),qo 106 (.app 106 .bool 68719476736 99 105),qo 107 (.fa 9 1),qp (.store 107 106 1)])))))) (.reg [qo 39 (.mv 11),qo 40 (.bin .add .num 39 (iC 1)),
 qo 11 (.mv 40)]))) [.keep [2, 4, 7, 8, 9, 10, 11] [(.s 2), (.s 4), (.s 29), (.sub (.sub (.s 8) 601) 0), (.s 9), (.sub (.s 34) 0), (.s 96), (.s 106)], .own 8 0 .set4 (.sub (.sub (.s 8) 600) 0), .ownc (.s 9) 0 .a16 (.sub (.sub (.s 9) 600) 0), .ownc (.s 9) 1 .bool (.sub (.sub (.s 9) 600) 1)])))))) (.seq (.reg [qo 108 (.load 9 2 true),qp (.store 2 108 2),qo 3 (.mv (iC 0))])
 (.pre [.frzc (.s 2) 0 .a16, .frzc (.s 2) 1 .bool] .ret))))))))))))⟩
theorem w86_build {O : Oracle TT} (fuel : Nat) (h109_parse : C109_parse O (f109_parse fuel)) (h110b_add : C110b_add O f110b_add) (h111_at : C111_at O f111_at) (h112_behind : C112_behind O f112_behind) (h113_ends : C113_ends O f113_ends) : C86_build (fun _ => vcF (S := SS) O j86_build) (f86_build fuel) := by
 intro s1 Q R hQ h
 unfold f86_build at h
 refine ⟨nle rfl, rfl, ?_⟩
 conv => whnf
 refine ⟨[], ?_⟩
 conv => whnf
 refine h109_parse _ _ _ ?_ (sat_bind h)
 rintro l2 l3 q4 v5 v6 v7 v8 v9 v10 v11 v12 v13 h
 conv => whnf
 refine kc h (fun h => ?_) fun h => ?_
 conv => whnf
 refine ⟨[(.s 6)], ?_⟩
 conv => whnf
 refine h110b_add _ _ _ _ _ _ _ ?_ (sat_bind h)
 rintro v15 v16 v17 v18 h
 conv => whnf
 obtain ⟨hb19, h⟩ := sat_grdP h
 refine ⟨(v15, v16, v17, v18), 0, rfl, rfl, mfind_none mfind_set4 (by first | exact hb19 | exact absurd hb19 Bool.false_ne_true), ?_⟩
 conv => whnf
 refine ⟨[(.s 4)], ?_⟩
 conv => whnf
 refine h111_at _ _ _ _ _ _ _ _ _ _ _ _ _ ?_ (sat_bind h)
 rintro l20 h
 obtain ⟨R6275, h, hlR6275, hrR6275⟩ := sat_sbind h
 conv => whnf
 refine ⟨fun σ => ∃ (l6271 : List LI) (l6272 : List Bool) (n6273 : Nat) (n6274 : Nat), n6273 = l6271.length ∧ n6274 = l6272.length ∧ R6275 (.inr (l6271, l6272)) ∧ σ = ⟨[(2, .c (.ptr (.s 2) 0 0)), (9, .c (.ptr (.s 9) 0 0))], [((.s 2), some (.var [.isl .a16 [], .isl .bool []])), ((.s 9), some (.var [.osl (.sub (.sub (.s 9) 600) 0) 0 n6273, .osl (.sub (.sub (.s 9) 600) 1) 0 n6274])), ((.sub (.sub (.s 9) 600) 0), some (.row false .a16 l6271)), ((.sub (.sub (.s 9) 600) 1), some (.row false .bool l6272))]⟩, ?_, ?_⟩
 conv => whnf
 refine ⟨fun σ n => ∃ (f9401 : Nat) (l9402 : List (N4 × Int)) (l9403 : L4) (l9404 : List LI) (l9405 : List Bool) (v9406 : Int) (q9407 : Bool) (n9408 : Nat) (n9409 : Nat) (n9410 : Nat), f9401 = n ∧ n9408 = l9403.length ∧ n9409 = l9404.length ∧ n9410 = l9405.length ∧ sat (f86_build_L110 l2 l3 v5 v6 v7 v8 v9 v10 v11 v12 l20 f9401 l9402 l9403 l9404 l9405 v9406 q9407) R6275 ∧ σ.keep [2, 4, 7, 8, 9, 10, 11] [(.s 2), (.s 4), (.s 29), (.sub (.sub (.s 8) 600) 0), (.s 9), (.sub (.s 34) 0), (.sub (.sub (.s 9) 600) 0), (.sub (.sub (.s 9) 600) 1)] = ⟨[(2, .c (.ptr (.s 2) 0 0)), (4, .c (.ptr (.s 4) 0 0)), (7, .c (.mapp (.s 29))), (8, .c (.osl (.sub (.sub (.s 8) 600) 0) 0 n9408)), (9, .c (.ptr (.s 9) 0 0)), (10, .c (.ptr (.sub (.s 34) 0) 0 0)), (11, .c (.int .i64 v9406))], [((.s 2), some (.var [.isl .a16 [], .isl .bool []])), ((.s 4), some (.var [.isl .set4 l2, .isl .set4 l3, .bool q9407, .int .u64 v5, .int .u64 v6, .int .u64 v7, .int .u64 v8, .int .u64 v9, .int .u64 v10, .int .u64 v11, .int .u64 v12])), ((.s 29), some (.map .set4 .i16 l9402)), ((.sub (.sub (.s 8) 600) 0), some (.row false .set4 l9403)), ((.s 9), some (.var [.osl (.sub (.sub (.s 9) 600) 0) 0 n9409, .osl (.sub (.sub (.s 9) 600) 1) 0 n9410])), ((.sub (.s 34) 0), some (.row false .set4 l20)), ((.sub (.sub (.s 9) 600) 0), some (.row false .a16 l9404)), ((.sub (.sub (.s 9) 600) 1), some (.row false .bool l9405))]⟩, ⟨_, _, (([] : List (N4 × Int)) ++ [((v15, v16, v17, v18), 0)]), ([(v15, v16, v17, v18)] : L4), [], [], (0 : Int), q4, _, _, _, rfl, LN, LN, LN, h, rfl⟩, ?_⟩
 rintro σ n ⟨f9401, l9402, l9403, l9404, l9405, v9406, q9407, _, _, _, rfl, rfl, rfl, rfl, h, hσ⟩
 refine kk hσ ?_
 rcases f9401 with _ | g9400
 rw [f86_build_L110] at h; exact nn h
 rw [f86_build_L110] at h
 conv => whnf
 intro hl9411
 conv => whnf
 refine kc h (fun h => ?_) fun h => ?_
 conv => whnf
 exact ⟨l9404, l9405, _, _, LN, LN, sat_some h, rfl⟩
 obtain ⟨R10973, h, hlR10973, hrR10973⟩ := sat_sbind h
 conv => whnf
 refine ⟨fun σ => ∃ (q10965 : Bool) (l10966 : List (N4 × Int)) (l10967 : L4) (l10968 : List LI) (l10969 : List Bool) (n10970 : Nat) (n10971 : Nat) (n10972 : Nat), n10970 = l10967.length ∧ n10971 = l10968.length ∧ n10972 = l10969.length ∧ R10973 (.inr (q10965, l10966, l10967, l10968, l10969)) ∧ σ = ⟨[(2, .c (.ptr (.s 2) 0 0)), (4, .c (.ptr (.s 4) 0 0)), (7, .c (.mapp (.s 29))), (8, .c (.osl (.sub (.sub (.s 8) 601) 0) 0 n10970)), (9, .c (.ptr (.s 9) 0 0)), (10, .c (.ptr (.sub (.s 34) 0) 0 0)), (11, .c (.int .i64 v9406))], [((.s 2), some (.var [.isl .a16 [], .isl .bool []])), ((.s 4), some (.var [.isl .set4 l2, .isl .set4 l3, .bool q10965, .int .u64 v5, .int .u64 v6, .int .u64 v7, .int .u64 v8, .int .u64 v9, .int .u64 v10, .int .u64 v11, .int .u64 v12])), ((.s 29), some (.map .set4 .i16 l10966)), ((.sub (.sub (.s 8) 601) 0), some (.row false .set4 l10967)), ((.s 9), some (.var [.osl (.s 96) 0 n10971, .osl (.s 106) 0 n10972])), ((.sub (.s 34) 0), some (.row false .set4 l20)), ((.s 96), some (.row false .a16 l10968)), ((.s 106), some (.row false .bool l10969))]⟩, ?_, ?_⟩
 conv => whnf
 refine kp h fun hb10974 h => ?_
 conv => whnf
 refine kg (sat_getN h) fun uu10979 huu10979 h => ?_
 obtain ⟨w10975, w10976, w10977, w10978⟩ := uu10979
 conv => whnf
 refine ⟨[(.s 4)], ?_⟩
 conv => whnf
 refine h112_behind _ _ _ _ _ _ _ _ _ _ _ _ _ _ _ _ _ ?_ (sat_bind h)
 rintro w10980 w10981 w10982 w10983 h
 obtain ⟨R11751, h, hlR11751, hrR11751⟩ := sat_sbind h
 conv => whnf
 refine ⟨fun σ => ∃ (l11747 : List (N4 × Int)) (l11748 : L4) (l11749 : LI) (n11750 : Nat), n11750 = l11748.length ∧ R11751 (.inr (l11747, l11748, l11749)) ∧ σ = ⟨[(2, .c (.ptr (.s 2) 0 0)), (4, .c (.ptr (.s 4) 0 0)), (7, .c (.mapp (.s 29))), (8, .c (.osl (.sub (.sub (.s 8) 601) 0) 0 n11750)), (9, .c (.ptr (.s 9) 0 0)), (10, .c (.ptr (.sub (.s 34) 0) 0 0)), (11, .c (.int .i64 v9406)), (12, .c (.ptr (.s 12) 0 0))], [((.s 2), some (.var [.isl .a16 [], .isl .bool []])), ((.s 4), some (.var [.isl .set4 l2, .isl .set4 l3, .bool q9407, .int .u64 v5, .int .u64 v6, .int .u64 v7, .int .u64 v8, .int .u64 v9, .int .u64 v10, .int .u64 v11, .int .u64 v12])), ((.s 29), some (.map .set4 .i16 l11747)), ((.sub (.sub (.s 8) 601) 0), some (.row false .set4 l11748)), ((.s 9), some (.var [.osl (.sub (.sub (.s 9) 600) 0) 0 l9404.length, .osl (.sub (.sub (.s 9) 600) 1) 0 l9405.length])), ((.sub (.s 34) 0), some (.row false .set4 l20)), ((.s 12), some (.row false .i16 l11749)), ((.sub (.sub (.s 9) 600) 0), some (.row false .a16 l9404)), ((.sub (.sub (.s 9) 600) 1), some (.row false .bool l9405))]⟩, ?_, ?_⟩
 obtain ⟨hN12136, h⟩ := sat_grdP h
 conv => whnf
 refine ⟨fun σ n => ∃ (f12134 : Nat) (v12133 : Int) (z : Int) (l12137 : List (N4 × Int)) (l12138 : L4) (l12139 : LI) (n12140 : Nat), f12134 = n ∧ f12134 = (256 - v12133).toNat ∧ 0 ≤ v12133 ∧ v12133 = z ∧ n12140 = l12138.length ∧ sat (f86_build_L142 l20 w10980 w10981 w10982 w10983 f12134 v12133 l12137 l12138 l12139) R11751 ∧ σ.keep [2, 4, 7, 8, 9, 10, 11, 12, 13, 46] [(.s 2), (.s 4), (.s 29), (.sub (.sub (.s 8) 601) 0), (.s 9), (.sub (.s 34) 0), (.s 12), (.s 13), (.sub (.sub (.s 9) 600) 0), (.sub (.sub (.s 9) 600) 1)] = ⟨[(2, .c (.ptr (.s 2) 0 0)), (4, .c (.ptr (.s 4) 0 0)), (7, .c (.mapp (.s 29))), (8, .c (.osl (.sub (.sub (.s 8) 601) 0) 0 n12140)), (9, .c (.ptr (.s 9) 0 0)), (10, .c (.ptr (.sub (.s 34) 0) 0 0)), (11, .c (.int .i64 v9406)), (12, .c (.ptr (.s 12) 0 0)), (13, .c (.ptr (.s 13) 0 0)), (46, .c (.int .i64 z))], [((.s 2), some (.var [.isl .a16 [], .isl .bool []])), ((.s 4), some (.var [.isl .set4 l2, .isl .set4 l3, .bool q9407, .int .u64 v5, .int .u64 v6, .int .u64 v7, .int .u64 v8, .int .u64 v9, .int .u64 v10, .int .u64 v11, .int .u64 v12])), ((.s 29), some (.map .set4 .i16 l12137)), ((.sub (.sub (.s 8) 601) 0), some (.row false .set4 l12138)), ((.s 9), some (.var [.osl (.sub (.sub (.s 9) 600) 0) 0 l9404.length, .osl (.sub (.sub (.s 9) 600) 1) 0 l9405.length])), ((.sub (.s 34) 0), some (.row false .set4 l20)), ((.s 12), some (.row false .i16 l12139)), ((.s 13), some (.var [.int .u64 w10980, .int .u64 w10981, .int .u64 w10982, .int .u64 w10983])), ((.sub (.sub (.s 9) 600) 0), some (.row false .a16 l9404)), ((.sub (.sub (.s 9) 600) 1), some (.row false .bool l9405))]⟩, ⟨_, _, 0, _, l9402, l9403, (List.replicate 256 (0 : Int)), _, rfl, rfl, (by decide), rfl, LN, h, rfl⟩, ?_⟩
 rintro σ n ⟨f12134, v12133, _, l12137, l12138, l12139, _, rfl, hf12134, hpf12134, rfl, rfl, h, hσ⟩
 refine kk hσ ?_
 conv => whnf
 intro t12141 (ht12141 : t12141 = decide (v12133 < 256))
 cases t12141
 obtain rfl := il_nil hf12134 ht12141
 rw [f86_build_L142] at h
 conv => whnf
 exact ⟨l12137, l12138, l12139, _, LN, sat_some h, rfl⟩
 obtain ⟨g12135, rfl, hwg12135, hpg12135, hfg12135⟩ := il_cons hf12134 hpf12134 ht12141 hN12136
 rw [f86_build_L142] at h
 obtain ⟨R12330, h, hlR12330, hrR12330⟩ := sat_sbind h
 conv => whnf
 refine ⟨fun σ => ∃ (l12326 : List (N4 × Int)) (l12327 : L4) (l12328 : LI) (n12329 : Nat), n12329 = l12327.length ∧ R12330 (.inr (l12326, l12327, l12328)) ∧ σ = ⟨[(2, .c (.ptr (.s 2) 0 0)), (4, .c (.ptr (.s 4) 0 0)), (7, .c (.mapp (.s 29))), (8, .c (.osl (.sub (.sub (.s 8) 1515) 0) 0 n12329)), (9, .c (.ptr (.s 9) 0 0)), (10, .c (.ptr (.sub (.s 34) 0) 0 0)), (11, .c (.int .i64 v9406)), (12, .c (.ptr (.s 12) 0 0)), (13, .c (.ptr (.s 13) 0 0)), (46, .c (.int .i64 v12133))], [((.s 2), some (.var [.isl .a16 [], .isl .bool []])), ((.s 4), some (.var [.isl .set4 l2, .isl .set4 l3, .bool q9407, .int .u64 v5, .int .u64 v6, .int .u64 v7, .int .u64 v8, .int .u64 v9, .int .u64 v10, .int .u64 v11, .int .u64 v12])), ((.s 29), some (.map .set4 .i16 l12326)), ((.sub (.sub (.s 8) 1515) 0), some (.row false .set4 l12327)), ((.s 9), some (.var [.osl (.sub (.sub (.s 9) 600) 0) 0 l9404.length, .osl (.sub (.sub (.s 9) 600) 1) 0 l9405.length])), ((.sub (.s 34) 0), some (.row false .set4 l20)), ((.s 12), some (.row false .i16 l12328)), ((.s 13), some (.var [.int .u64 w10980, .int .u64 w10981, .int .u64 w10982, .int .u64 w10983])), ((.sub (.sub (.s 9) 600) 0), some (.row false .a16 l9404)), ((.sub (.sub (.s 9) 600) 1), some (.row false .bool l9405))]⟩, ?_, ?_⟩
 obtain ⟨R12418, h, hlR12418, hrR12418⟩ := sat_sbind h
 conv => whnf
 refine ⟨fun σ => ∃ (v12414 : Int) (v12415 : Int) (v12416 : Int) (v12417 : Int), R12418 (.inr (v12414, v12415, v12416, v12417)) ∧ σ = ⟨[(2, .c (.ptr (.s 2) 0 0)), (4, .c (.ptr (.s 4) 0 0)), (7, .c (.mapp (.s 29))), (8, .c (.osl (.sub (.sub (.s 8) 601) 0) 0 l12138.length)), (9, .c (.ptr (.s 9) 0 0)), (10, .c (.ptr (.sub (.s 34) 0) 0 0)), (11, .c (.int .i64 v9406)), (12, .c (.ptr (.s 12) 0 0)), (13, .c (.ptr (.s 13) 0 0)), (14, .c (.int .i64 v12133)), (15, .c (.ptr (.s 15) 0 0)), (46, .c (.int .i64 v12133))], [((.s 2), some (.var [.isl .a16 [], .isl .bool []])), ((.s 4), some (.var [.isl .set4 l2, .isl .set4 l3, .bool q9407, .int .u64 v5, .int .u64 v6, .int .u64 v7, .int .u64 v8, .int .u64 v9, .int .u64 v10, .int .u64 v11, .int .u64 v12])), ((.s 29), some (.map .set4 .i16 l12137)), ((.sub (.sub (.s 8) 601) 0), some (.row false .set4 l12138)), ((.s 9), some (.var [.osl (.sub (.sub (.s 9) 600) 0) 0 l9404.length, .osl (.sub (.sub (.s 9) 600) 1) 0 l9405.length])), ((.sub (.s 34) 0), some (.row false .set4 l20)), ((.s 12), some (.row false .i16 l12139)), ((.s 13), some (.var [.int .u64 w10980, .int .u64 w10981, .int .u64 w10982, .int .u64 w10983])), ((.s 15), some (.var [.int .u64 v12414, .int .u64 v12415, .int .u64 v12416, .int .u64 v12417])), ((.sub (.sub (.s 9) 600) 0), some (.row false .a16 l9404)), ((.sub (.sub (.s 9) 600) 1), some (.row false .bool l9405))]⟩, ?_, ?_⟩
 obtain ⟨hN12463, h⟩ := sat_grdP h
 conv => whnf
 refine ⟨fun σ n => ∃ (f12461 : Nat) (v12460 : Int) (z : Int) (v12464 : Int) (v12465 : Int) (v12466 : Int) (v12467 : Int), f12461 = n ∧ f12461 = (4 - v12460).toNat ∧ 0 ≤ v12460 ∧ v12460 = z ∧ sat (f86_build_L146 l20 v12133 f12461 v12460 v12464 v12465 v12466 v12467) R12418 ∧ σ.keep [2, 4, 7, 8, 9, 10, 11, 12, 13, 14, 15, 46, 50] [(.s 2), (.s 4), (.s 29), (.sub (.sub (.s 8) 601) 0), (.s 9), (.sub (.s 34) 0), (.s 12), (.s 13), (.s 15), (.sub (.sub (.s 9) 600) 0), (.sub (.sub (.s 9) 600) 1)] = ⟨[(2, .c (.ptr (.s 2) 0 0)), (4, .c (.ptr (.s 4) 0 0)), (7, .c (.mapp (.s 29))), (8, .c (.osl (.sub (.sub (.s 8) 601) 0) 0 l12138.length)), (9, .c (.ptr (.s 9) 0 0)), (10, .c (.ptr (.sub (.s 34) 0) 0 0)), (11, .c (.int .i64 v9406)), (12, .c (.ptr (.s 12) 0 0)), (13, .c (.ptr (.s 13) 0 0)), (14, .c (.int .i64 v12133)), (15, .c (.ptr (.s 15) 0 0)), (46, .c (.int .i64 v12133)), (50, .c (.int .i64 z))], [((.s 2), some (.var [.isl .a16 [], .isl .bool []])), ((.s 4), some (.var [.isl .set4 l2, .isl .set4 l3, .bool q9407, .int .u64 v5, .int .u64 v6, .int .u64 v7, .int .u64 v8, .int .u64 v9, .int .u64 v10, .int .u64 v11, .int .u64 v12])), ((.s 29), some (.map .set4 .i16 l12137)), ((.sub (.sub (.s 8) 601) 0), some (.row false .set4 l12138)), ((.s 9), some (.var [.osl (.sub (.sub (.s 9) 600) 0) 0 l9404.length, .osl (.sub (.sub (.s 9) 600) 1) 0 l9405.length])), ((.sub (.s 34) 0), some (.row false .set4 l20)), ((.s 12), some (.row false .i16 l12139)), ((.s 13), some (.var [.int .u64 w10980, .int .u64 w10981, .int .u64 w10982, .int .u64 w10983])), ((.s 15), some (.var [.int .u64 v12464, .int .u64 v12465, .int .u64 v12466, .int .u64 v12467])), ((.sub (.sub (.s 9) 600) 0), some (.row false .a16 l9404)), ((.sub (.sub (.s 9) 600) 1), some (.row false .bool l9405))]⟩, ⟨_, _, 0, _, w10980, w10981, w10982, w10983, rfl, rfl, (by decide), rfl, h, rfl⟩, ?_⟩
 rintro σ n ⟨f12461, v12460, _, v12464, v12465, v12466, v12467, rfl, hf12461, hpf12461, rfl, h, hσ⟩
 refine kk hσ ?_
 conv => whnf
 intro t12468 (ht12468 : t12468 = decide (v12460 < 4))
 cases t12468
 obtain rfl := il_nil hf12461 ht12468
 rw [f86_build_L146] at h
 conv => whnf
 exact ⟨v12464, v12465, v12466, v12467, sat_some h, rfl⟩
 obtain ⟨g12462, rfl, hwg12462, hpg12462, hfg12462⟩ := il_cons hf12461 hpf12461 ht12468 hN12463
 rw [f86_build_L146] at h
 conv => whnf
 obtain ⟨hbj12469, h⟩ := sat_caseI h
 refine ⟨hbj12469, fun j12469 hj12469 => ?_⟩
 replace h := h j12469 hj12469
 replace hbj12469 : (0 : Int) ≤ v12460 ∧ v12460 < 4 := hbj12469
 have hcj12469 : j12469 = 0 ∨ j12469 = 1 ∨ j12469 = 2 ∨ j12469 = 3 := by omega
 rcases hcj12469 with rfl | rfl | rfl | rfl
 replace h := sat_j0 h
 conv => whnf
 refine kp h fun hb12470 h => ?_
 conv => whnf
 refine ⟨⟨by omega, by omega⟩, fun j12471 hj12471 => ?_⟩
 obtain rfl : j12471 = 0 := by omega
 conv => whnf
 refine kg (sat_getN h) fun uu12476 huu12476 h => ?_
 obtain ⟨w12472, w12473, w12474, w12475⟩ := uu12476
 conv => whnf
 refine ⟨⟨by omega, by omega⟩, fun j12477 hj12477 => ?_⟩
 obtain rfl : j12477 = 0 := by omega
 conv => whnf
 exact ⟨g12462, nls, g12462, v12460 + 1, _, (bAnd .u64 v12464 w12472), v12465, v12466, v12467, rfl, hfg12462, hpg12462, hwg12462.symm, h, rfl⟩
 replace h := sat_j1 h
 conv => whnf
 refine kp h fun hb12478 h => ?_
 conv => whnf
 refine ⟨⟨by omega, by omega⟩, fun j12479 hj12479 => ?_⟩
 obtain rfl : j12479 = 1 := by omega
 conv => whnf
 refine kg (sat_getN h) fun uu12484 huu12484 h => ?_
 obtain ⟨w12480, w12481, w12482, w12483⟩ := uu12484
 conv => whnf
 refine ⟨⟨by omega, by omega⟩, fun j12485 hj12485 => ?_⟩
 obtain rfl : j12485 = 1 := by omega
 conv => whnf
 exact ⟨g12462, nls, g12462, v12460 + 1, _, v12464, (bAnd .u64 v12465 w12481), v12466, v12467, rfl, hfg12462, hpg12462, hwg12462.symm, h, rfl⟩
 replace h := sat_j2 h
 conv => whnf
 refine kp h fun hb12486 h => ?_
 conv => whnf
 refine ⟨⟨by omega, by omega⟩, fun j12487 hj12487 => ?_⟩
 obtain rfl : j12487 = 2 := by omega
 conv => whnf
 refine kg (sat_getN h) fun uu12492 huu12492 h => ?_
 obtain ⟨w12488, w12489, w12490, w12491⟩ := uu12492
 conv => whnf
 refine ⟨⟨by omega, by omega⟩, fun j12493 hj12493 => ?_⟩
 obtain rfl : j12493 = 2 := by omega
 conv => whnf
 exact ⟨g12462, nls, g12462, v12460 + 1, _, v12464, v12465, (bAnd .u64 v12466 w12490), v12467, rfl, hfg12462, hpg12462, hwg12462.symm, h, rfl⟩
 replace h := sat_j3 h
 conv => whnf
 refine kp h fun hb12494 h => ?_
 conv => whnf
 refine ⟨⟨by omega, by omega⟩, fun j12495 hj12495 => ?_⟩
 obtain rfl : j12495 = 3 := by omega
 conv => whnf
 refine kg (sat_getN h) fun uu12500 huu12500 h => ?_
 obtain ⟨w12496, w12497, w12498, w12499⟩ := uu12500
 conv => whnf
 refine ⟨⟨by omega, by omega⟩, fun j12501 hj12501 => ?_⟩
 obtain rfl : j12501 = 3 := by omega
 conv => whnf
 exact ⟨g12462, nls, g12462, v12460 + 1, _, v12464, v12465, v12466, (bAnd .u64 v12467 w12499), rfl, hfg12462, hpg12462, hwg12462.symm, h, rfl⟩
 rintro _ ⟨v12414, v12415, v12416, v12417, h, rfl⟩
 replace h := hrR12418 _ h
 try dsimp only at h
 obtain ⟨fm12503, hfm12503⟩ : ∃ q, q = mget l12137 (v12414, v12415, v12416, v12417) := ⟨_, rfl⟩
 rw [← hfm12503] at h
 conv => whnf
 refine ⟨(v12414, v12415, v12416, v12417), fm12503, rfl, (by rw [hfm12503]; exact mfind_set4 _ _), ?_⟩
 rcases fm12503 with _ | v12502
 rintro _ rfl
 conv => whnf
 intro hl12504
 conv => whnf
 obtain ⟨hb12505, h⟩ := sat_grdP h
 refine ⟨(v12414, v12415, v12416, v12417), (wrap .i16 ((l12138.length : Nat) : Int)), rfl, rfl, mfind_none mfind_set4 (by rw [← hfm12503]; rfl), ?_⟩
 conv => whnf
 refine ⟨LN, rfl, ?_⟩
 conv => whnf
 refine ⟨rfl, ?_⟩
 conv => whnf
 refine kp h fun hb12511 h => ?_
 conv => whnf
 intro hl12506
 conv => whnf
 refine kc h (fun h => ?_) fun h => ?_
 conv => whnf
 refine kp h fun hb12508 h => ?_
 conv => whnf
 refine kg (sat_getN h) fun h12509 huu12510 h => ?_
 refine ⟨(wrap .i16 ((l12138.length : Nat) : Int)), rfl, ?_⟩
 conv => whnf
 exact ⟨(l12137 ++ [((v12414, v12415, v12416, v12417), (wrap .i16 ((l12138.length : Nat) : Int)))]), (l12138 ++ ([(v12414, v12415, v12416, v12417)] : L4)), (l12139.set v12133.toNat (wrap .i16 ((l12138.length : Nat) : Int))), _, LN, sat_some h, rfl⟩
 replace h := sat_lft hlR12330 h
 replace h := sat_lft hlR11751 h
 replace h := sat_lft hlR10973 h
 replace h := sat_lft hlR6275 h
 conv => whnf
 exact ⟨[], ND 0, hQ _ _ _ (sat_some h)⟩
 rintro _ rfl
 conv => whnf
 refine kp h fun hb12512 h => ?_
 conv => whnf
 refine kg (sat_getN h) fun h12513 huu12514 h => ?_
 refine ⟨v12502, rfl, ?_⟩
 conv => whnf
 exact ⟨l12137, l12138, (l12139.set v12133.toNat v12502), _, LN, sat_some h, rfl⟩
 rintro _ ⟨l12326, l12327, l12328, _, rfl, h, rfl⟩
 replace h := hrR12330 _ h
 conv => whnf
 exact ⟨g12135, nls, g12135, v12133 + 1, _, l12326, l12327, l12328, _, rfl, hfg12135, hpg12135, hwg12135.symm, LN, h, rfl⟩
 rintro _ ⟨l11747, l11748, l11749, _, rfl, h, rfl⟩
 replace h := hrR11751 _ h
 conv => whnf
 obtain ⟨hb12515, h⟩ := sat_grdP h
 refine ⟨⟨by rw [hb12515]; decide, by rw [hb12515]; rfl⟩, ?_⟩
 conv => whnf
 refine ⟨l11749, unA16_of hb12515, ?_⟩
 conv => whnf
 refine ⟨LN, rfl, ?_⟩
 conv => whnf
 refine ⟨rfl, ?_⟩
 conv => whnf
 refine kp h fun hb12525 h => ?_
 conv => whnf
 refine kp h fun hb12516 h => ?_
 conv => whnf
 refine kg (sat_getN h) fun uu12521 huu12521 h => ?_
 obtain ⟨w12517, w12518, w12519, w12520⟩ := uu12521
 conv => whnf
 refine ⟨[(.s 4)], ?_⟩
 conv => whnf
 refine h113_ends _ _ _ _ _ _ _ _ _ _ _ _ _ _ _ _ _ ?_ (sat_bind h)
 rintro q12522 q12523 h
 conv => whnf
 refine ⟨LN, rfl, ?_⟩
 conv => whnf
 refine ⟨rfl, ?_⟩
 conv => whnf
 refine kp h fun hb12524 h => ?_
 conv => whnf
 exact ⟨q12523, l11747, l11748, (l9404 ++ ([l11749] : List LI)), (l9405 ++ ([q12522] : List Bool)), _, _, _, LN, LN, LN, sat_some h, rfl⟩
 rintro _ ⟨q10965, l10966, l10967, l10968, l10969, _, _, _, rfl, rfl, rfl, h, rfl⟩
 replace h := hrR10973 _ h
 conv => whnf
 exact ⟨g9400, nls, g9400, l10966, l10967, l10968, l10969, (wrap .i64 (v9406 + 1)), q10965, _, _, _, rfl, LN, LN, LN, h, rfl⟩
 rintro _ ⟨l6271, l6272, _, _, rfl, rfl, h, rfl⟩
 replace h := hrR6275 _ h
 conv => whnf
 refine ⟨LN, ?_⟩
 conv => whnf
 refine ⟨LN, ?_⟩
 conv => whnf
 exact ⟨[], ND 0, hQ _ _ _ (sat_some h)⟩
 conv => whnf
 exact ⟨[], ND 0, hQ _ _ _ (sat_some h)⟩
theorem c86_build {P : Program} {fid : Nat → FuncId} (mx : MX P) (k86_build : KF P fid 86 j86_build) (h109_parse : ∀ n, C109_parse (SP P fid) (f109_parse n)) (h110b_add : C110b_add (SP P fid) f110b_add) (h111_at : C111_at (SP P fid) f111_at) (h112_behind : C112_behind (SP P fid) f112_behind) (h113_ends : C113_ends (SP P fid) f113_ends) : ∀ n, C86_build (SP P fid) (f86_build n) :=
 fun n => fun a0 Q R hQ h => spec_of_vc mx k86_build (w86_build n (h109_parse n) h110b_add h111_at h112_behind h113_ends a0 Q R hQ h)
def f160_Check (fuel : Nat) : BA → Option (Int)
  | s1 => (f86_build fuel s1).bind fun (l2, l3, v4) => some v4
def C160_Check (O : Oracle TT) (m : BA → Option (Int)) : Prop :=
  ∀ (s1 : BA) (Q : Int → Prop) (R : RR) (_ : ∀ (v5 : Int), Q v5 → R (.c (.int .i64 v5)) []) (_ : sat (m s1) Q), O 160 [.c (.str s1)] [] R
def j160_Check : Fn TT := ⟨11, [.t 2], (.seq (.reg [qo 2 (.mv (iC 0))]) (.seq (.reg [qo 6 (.mv 0),qo 7 (.call 7 86 [6]),qo 5 (.mv 7),qo 8 (.ext 5 0),qo 9 (.ext 5 1),qo 3 (.alloc 3 [.isl .a16 [], .isl .bool []]),qp (.store 3 8 2),qo 4 (.mv 9)]) (.seq (.reg [qo 10 (.mv 4),qo 2 (.mv 10)]) .ret)))⟩
theorem w160_Check {O : Oracle TT} (fuel : Nat) (h86_build : C86_build O (f86_build fuel)) : C160_Check (fun _ => vcF (S := SS) O j160_Check) (f160_Check fuel) := by
 intro s1 Q R hQ h
 unfold f160_Check at h
 refine ⟨nle rfl, rfl, ?_⟩
 conv => whnf
 refine ⟨[], ?_⟩
 conv => whnf
 refine h86_build _ _ _ ?_ (sat_bind h)
 rintro l2 l3 v4 h
 conv => whnf
 exact ⟨[], ND 0, hQ _ (sat_some h)⟩
theorem c160_Check {P : Program} {fid : Nat → FuncId} (mx : MX P) (k160_Check : KF P fid 160 j160_Check) (h86_build : ∀ n, C86_build (SP P fid) (f86_build n)) : ∀ n, C160_Check (SP P fid) (f160_Check n) :=
 fun n => fun a0 Q R hQ h => spec_of_vc mx k160_Check (w160_Check n (h86_build n) a0 Q R hQ h)
def f88_1 : Bool → Bool → Option (Bool)
  | q1, q2 => some q1
def C88_1 (O : Oracle TT) (m : Bool → Bool → Option (Bool)) : Prop :=
  ∀ (q1 : Bool) (q2 : Bool) (Q : Bool → Prop) (R : RR) (_ : ∀ (q3 : Bool), Q q3 → R (.c (.bool q3)) []) (_ : sat (m q1 q2) Q), O 88 [.c (.bool q1), .c (.bool q2)] [] R
def j88_1 : Fn TT := ⟨6, [.t 4], (.seq (.reg [qo 4 (.mv bF)]) (.seq (.reg [qo 5 (.mv 0),qo 4 (.mv 5)]) .ret))⟩
theorem w88_1 {O : Oracle TT} : C88_1 (fun _ => vcF (S := SS) O j88_1) f88_1 := by
 intro q1 q2 Q R hQ h
 unfold f88_1 at h
 refine ⟨nle rfl, rfl, ?_⟩
 conv => whnf
 exact ⟨[], ND 0, hQ _ (sat_some h)⟩
theorem c88_1 {P : Program} {fid : Nat → FuncId} (mx : MX P) (k88_1 : KF P fid 88 j88_1) : C88_1 (SP P fid) f88_1 :=
 fun a0 a1 Q R hQ h => spec_of_vc mx k88_1 (w88_1 a0 a1 Q R hQ h)
def f87_search_L71 (l2489 : L4) : Nat → LI → Int → Option (Sum (Sum (Sum (Sum (BA × Bool) (Unit)) (L4 × (List ((Int × Int) × Bool)))) (Unit)) (LI))
  | 0, _, _ => none
  | g3174 + 1, l3176, v3177 => grdP ((0 : Int) ≤ v3177 ∧ v3177 < ((l2489.length : Nat) : Int)) (getN l2489 (0 + v3177.toNat) fun uu3184 => match uu3184 with | (x3180, y3181, fr3182, by3183) => cond (decide (fr3182 ≥ 0)) (grdP ((0 : Int) ≤ v3177 ∧ v3177 < ((l2489.length : Nat) : Int)) (getN l2489 (0 + v3177.toNat) fun uu3191 => match uu3191 with | (x3187, y3188, fr3189, by3190) => grdP (l3176.length + ([by3190] : LI).length ≤ 68719476736) (grdP ((0 : Int) ≤ v3177 ∧ v3177 < ((l2489.length : Nat) : Int)) (getN l2489 (0 + v3177.toNat) fun uu3197 => match uu3197 with | (x3193, y3194, fr3195, by3196) => f87_search_L71 l2489 g3174 (l3176 ++ ([by3190] : LI)) fr3195)))) (some (.inr l3176)))
def f87_search_L73 : Nat → LI → Int → Int → Option (Sum (Sum (Sum (Sum (BA × Bool) (Unit)) (L4 × (List ((Int × Int) × Bool)))) (Unit)) (LI))
  | 0, _, _, _ => none
  | g3257 + 1, l3259, v3260, v3261 => cond (decide (v3260 < v3261)) (grdP ((0 : Int) ≤ v3261 ∧ v3261 < ((l3259.length : Nat) : Int)) (getN l3259 (0 + v3261.toNat) fun c3265 => grdP ((0 : Int) ≤ v3260 ∧ v3260 < ((l3259.length : Nat) : Int)) (getN l3259 (0 + v3260.toNat) fun c3268 => grdP ((0 : Int) ≤ v3260 ∧ v3260 < ((l3259.length : Nat) : Int)) (getN l3259 (0 + v3260.toNat) fun c3271 => grdP ((0 : Int) ≤ v3261 ∧ v3261 < ((l3259.length : Nat) : Int)) (getN (l3259.set (0 + v3260.toNat) c3265) (0 + v3261.toNat) fun c3274 => f87_search_L73 g3257 ((l3259.set (0 + v3260.toNat) c3265).set (0 + v3261.toNat) c3268) (wrap .i64 (v3260 + 1)) (wrap .i64 (v3261 - 1))))))) (some (.inr l3259))
def f87_search_L74 (l1 : List LI) (l3 : List LI) (v2491 : Int) (x2908 : Int) (y2909 : Int) : Nat → Int → L4 → (List ((Int × Int) × Bool)) → Option (Sum (Sum (BA × Bool) (Unit)) (L4 × (List ((Int × Int) × Bool))))
  | 0, v3295, l3299, l3300 => some (.inr (l3299, l3300))
  | g3297 + 1, v3295, l3299, l3300 => getL l1 x2908 fun row3303 => getL (pad256 row3303) v3295 fun h3305 => getL l3 y2909 fun row3306 => getL (pad256 row3306) v3295 fun h3308 => match mget l3300 (h3305, h3308) with | none => grdP ((mget l3300 (h3305, h3308)).isNone = true) (grdP (l3299.length + ([(h3305, h3308, v2491, (wrap .u8 v3295))] : L4).length ≤ 68719476736) (f87_search_L74 l1 l3 v2491 x2908 y2909 g3297 (v3295 + 1) (l3299 ++ ([(h3305, h3308, v2491, (wrap .u8 v3295))] : L4)) (l3300 ++ [((h3305, h3308), true)]))) | some v3309 => cond v3309 (f87_search_L74 l1 l3 v2491 x2908 y2909 g3297 (v3295 + 1) l3299 l3300) (grdP ((mget l3300 (h3305, h3308)).isNone = true) (grdP (l3299.length + ([(h3305, h3308, v2491, (wrap .u8 v3295))] : L4).length ≤ 68719476736) (f87_search_L74 l1 l3 v2491 x2908 y2909 g3297 (v3295 + 1) (l3299 ++ ([(h3305, h3308, v2491, (wrap .u8 v3295))] : L4)) (l3300 ++ [((h3305, h3308), true)]))))
def f87_search_L56 (fuel : Nat) (l1 : List LI) (l2 : List Bool) (l3 : List LI) (l4 : List Bool) : Nat → L4 → (List ((Int × Int) × Bool)) → Int → Option (Sum (BA × Bool) (Unit))
  | 0, _, _, _ => none
  | g2487 + 1, l2489, l2490, v2491 => cond (decide (v2491 < ((l2489.length : Nat) : Int))) (sbind (ο := L4 × (List ((Int × Int) × Bool))) (grdP ((0 : Int) ≤ v2491 ∧ v2491 < ((l2489.length : Nat) : Int)) (getN l2489 (0 + v2491.toNat) fun uu2912 => match uu2912 with | (x2908, y2909, fr2910, by2911) => sbind (ο := Unit) (getL l2 x2908 fun b3095 => getL l4 y2909 fun b3097 => (f88_1 b3095 b3097).bind fun q3099 => cond q3099 (sbind (τ := Sum (Sum (Sum (BA × Bool) (Unit)) (L4 × (List ((Int × Int) × Bool)))) (Unit)) (ο := LI) (f87_search_L71 l2489 fuel [] v2491) (fun l3148 => sbind (τ := Sum (Sum (Sum (BA × Bool) (Unit)) (L4 × (List ((Int × Int) × Bool)))) (Unit)) (ο := LI) (f87_search_L73 fuel l3148 (0 : Int) (wrap .i64 (((l3148.length : Nat) : Int) - 1))) (fun l3236 => lft (lft (lft (some ((strOfNums l3236), true))))))) (some (.inr ()))) (fun () => grdP ((256 : Int) ≤ 9223372036854775807) (f87_search_L74 l1 l3 v2491 x2908 y2909 ((256 : Int) - 0).toNat 0 l2489 l2490)))) (fun (l2903, l2904) => f87_search_L56 fuel l1 l2 l3 l4 g2487 l2903 l2904 (wrap .i64 (v2491 + 1)))) (some (.inr ()))
def f87_search (fuel : Nat) : (List LI) → (List Bool) → (List LI) → (List Bool) → Option (BA × Bool)
  | l1, l2, l3, l4 => grdP ((mget ([] : List ((Int × Int) × Bool)) (0, 0)).isNone = true) (sbind (ο := Unit) (f87_search_L56 fuel l1 l2 l3 l4 fuel ([(0, 0, (-1), 0)] : L4) (([] : List ((Int × Int) × Bool)) ++ [((0, 0), true)]) (0 : Int)) (fun () => some ((⟨#[]⟩ : BA), false)))
def C87_search (O : Oracle TT) (m : (List LI) → (List Bool) → (List LI) → (List Bool) → Option (BA × Bool)) : Prop :=
  ∀ (l1 : List LI) (l2 : List Bool) (l3 : List LI) (l4 : List Bool) (Q : (BA × Bool) → Prop) (R : RR) (_ : ∀ (s3315 : BA) (q3316 : Bool), Q (s3315, q3316) → R (.tup [.c (.str s3315), .c (.bool q3316)]) []) (_ : sat (m l1 l2 l3 l4) Q), O 87 [.agg [.isl .a16 l1, .isl .bool l2], .agg [.isl .a16 l3, .isl .bool l4], .c (.fn 88 [])] [] R
def j87_search : Fn TT := ⟨130, [.t 6, .t 7], (.seq (.reg [qo 3 (.box 3 0),qo 4 (.box 4 1),qo 6 (.mv (.c (.str (⟨#[]⟩ : BA)))),qo 7 (.mv bF)]) (.seq (.reg [qo 17 (.build [.int .i16 0, .int .i16 0, .int .i64 0, .int .u8 0] [((2, 1), (iC (-1)))]),qo 18 (.bslice 18 .node [17]),qo 8 (.mv 18)]) (.seq (.reg [qo 19 (.mkmap 19 .pr16 .bool),qo 20 (.build [.int .i16 0, .int .i16 0] []),
 qp (.mapadd 2 19 20 bT),qo 21 (.mv 19),qo 9 (.mv 21)]) (.cut [] [] (.seq (.reg [qo 10 (.mv (iC 0))]) (.block 0 (.pre [.own 8 0 .node (.sub (.sub (.s 8) 600) 0)] (.loop (.keep [2, 3, 4, 8, 9, 10] [(.s 3), (.s 4), (.sub (.sub (.s 8) 600) 0), (.s 19)] (.aft (.seq (.seq (.reg [qo 22 (.mv 10),qo 23 (.mv 8),qo 24 (.len false 23),qo 25 (.bin .lss .num 22 24)]) (.cond 25 .skip (.exit 0)))
 (.cut [2, 3, 4, 8, 9, 10] [(.s 3), (.s 4), (.sub (.sub (.s 8) 603) 0), (.s 19)] (.block 1 (.seq (.reg [qo 28 (.mv 8),qo 29 (.mv 10),qo 30 (.idxA 28 29 4),qo 31 (.load 30 4 true),qo 11 (.alloc 11 [.int .i16 0, .int .i16 0, .int .i64 0, .int .u8 0]),qp (.store 11 31 4)]) (.cut [2, 3, 4, 8, 9, 10, 11] [(.s 3), (.s 4), (.sub (.sub (.s 8) 600) 0), (.s 19), (.s 11)] (.seq
 (.drw [] (oR 16) [] (List.range 15) [qo 32 (.mv 2),qo 33 (.fa 3 1),qo 34 (.load 33 1 false),qo 35 (.fa 11 0),qo 36 (.fa 35 0),qo 37 (.load 36 1 false),qo 38 (.idxA 34 37 1),qo 39 (.load 38 1 false),qo 40 (.fa 4 1),qo 41 (.load 40 1 false),qo 42 (.fa 11 0),qo 43 (.fa 42 1),qo 44 (.load 43 1 false),qo 45 (.idxA 41 44 1),qo 46 (.load 45 1 false),qo 47 (.callv 47 32 [39, 46])])
 (.cond 47 (.seq (.reg [qo 12 (.mv (.c (.nils)))]) (.cut [12] [(.sub (.sub (.s 12) 601) 0)] (.block 2 (.pre [.own 12 0 .u8 (.sub (.sub (.s 12) 601) 0)] (.loop (.keep [8, 10, 12] [(.sub (.sub (.s 8) 600) 0), (.sub (.sub (.s 12) 601) 0)] (.aft (.seq (.seq (.reg [qo 48 (.mv 8),qo 49 (.mv 10),qo 50 (.idxA 48 49 4),qo 51 (.fa 50 2),qo 52 (.load 51 1 false),qo 53 (.bin .geq .num 52 (iC 0))])
 (.cond 53 .skip (.exit 2))) (.seq (.block 3 (.reg [qo 59 (.mv 12),qo 60 (.mv 8),qo 61 (.mv 10),qo 62 (.idxA 60 61 4),qo 63 (.fa 62 3),qo 64 (.load 63 1 false),qo 65 (.bsl .u8 [64]),qo 66 (.app 66 .u8 68719476736 59 65),qo 12 (.mv 66)])) (.reg [qo 54 (.mv 8),qo 55 (.mv 10),qo 56 (.idxA 54 55 4),qo 57 (.fa 56 2),qo 58 (.load 57 1 false),
 qo 10 (.mv 58)]))) [.keep [8, 10, 12] [(.sub (.sub (.s 8) 600) 0), (.s 66)], .own 12 0 .u8 (.sub (.sub (.s 12) 601) 0)]))))) (.cut [12] [(.sub (.sub (.s 12) 601) 0)] (.seq (.reg [qo 67 (.mv 12),qo 68 (.len false 67),qo 69 (.bin .sub .num 68 (iC 1)),qo 13 (.mv (iC 0)),qo 14 (.mv 69)]) (.block 4 (.loop (.keep [12, 13, 14] [(.sub (.sub (.s 12) 601) 0)] (.aft (.seq (.seq (.reg [qo 70 (.mv 13),
 qo 71 (.mv 14),qo 72 (.bin .lss .num 70 71)]) (.cond 72 .skip (.exit 4))) (.seq (.block 5 (.drw [] (oR 16) [13, 15] [0, 1, 2, 3, 4, 5, 6, 7, 8, 9, 10, 11, 12, 14] [qo 77 (.mv 12),qo 78 (.mv 13),qo 79 (.mv 12),qo 80 (.mv 14),qo 81 (.mv 12),qo 82 (.mv 14),qo 83 (.idxA 81 82 1),qo 84 (.load 83 1 false),qo 85 (.mv 12),qo 86 (.mv 13),qo 87 (.idxA 85 86 1),qo 88 (.load 87 1 false),
 qo 89 (.idxA 77 78 1),qp (.store 89 84 1),qo 90 (.idxA 79 80 1),qp (.store 90 88 1)])) (.reg [qo 73 (.mv 13),qo 74 (.bin .add .num 73 (iC 1)),qo 75 (.mv 14),qo 76 (.bin .sub .num 75 (iC 1)),qo 13 (.mv 74),qo 14 (.mv 76)]))) [.keep [12, 13, 14] [(.sub (.sub (.s 12) 601) 0)]]))))) (.seq (.pre [.frz 12 0 .u8] (.reg [qo 91 (.mv 12),qo 92 (.b2s 91),qo 6 (.mv 92),qo 7 (.mv bT)])) .ret))))
 .skip)) (.seq (.reg [qo 93 (.mv (iC 0))]) (.block 6 (.pre [.own 8 0 .node (.sub (.sub (.s 8) 603) 0)] (.loop (.keep [2, 3, 4, 8, 9, 10, 11, 93] [(.s 3), (.s 4), (.sub (.sub (.s 8) 603) 0), (.s 19), (.s 11)] (.aft (.seq (.reg [qo 94 (.bin .lss .num 93 (iC 256))]) (.seq (.cond 94 .skip (.exit 6)) (.seq (.block 7 (.seq (.reg [qo 95 (.mv 93),qo 15 (.mv 95)]) (.seq
 (.drw [] (oR 21) [20] (List.range 19) [qo 96 (.fa 3 0),qo 97 (.load 96 1 false),qo 98 (.fa 11 0),qo 99 (.fa 98 0),qo 100 (.load 99 1 false),qo 101 (.mv 15),qo 102 (.idxA 97 100 256),qo 103 (.idxR 102 101 1 256),qo 104 (.load 103 1 false),qo 105 (.fa 4 0),qo 106 (.load 105 1 false),qo 107 (.fa 11 0),qo 108 (.fa 107 1),qo 109 (.load 108 1 false),qo 110 (.mv 15),
 qo 111 (.idxA 106 109 256),qo 112 (.idxR 111 110 1 256),qo 113 (.load 112 1 false),qo 114 (.build [.int .i16 0, .int .i16 0] [((0, 1), 104), ((1, 1), 113)]),qo 16 (.alloc 16 [.int .i16 0, .int .i16 0]),qp (.store 16 114 2)]) (.seq (.reg [qo 115 (.mv 9),qo 116 (.load 16 2 true),qo 117 (.mapget 2 115 116 (.bool false) false),qo 118 (.un .not 117)]) (.cond 118 (.seq (.reg [qo 119 (.mv 9),
 qo 120 (.load 16 2 true),qp (.mapadd 2 119 120 bT)]) (.reg [qo 121 (.mv 8),qo 122 (.load 16 2 true),qo 123 (.mv 10),qo 124 (.mv 15),qo 125 (.conv .u8 124),qo 126 (.build [.int .i16 0, .int .i16 0, .int .i64 0, .int .u8 0] [((0, 2), 122), ((2, 1), 123), ((3, 1), 125)]),qo 127 (.bsl .node [126]),qo 128 (.app 128 .node 68719476736 121 127),qo 8 (.mv 128)])) .skip)))))
 (.reg [qo 129 (.bin .add .num 93 (iC 1)),qo 93 (.mv 129)])))) [.keep [2, 3, 4, 8, 9, 10, 11, 93] [(.s 3), (.s 4), (.s 128), (.s 19), (.s 11), (.sub (.sub (.s 8) 603) 0)], .own 8 0 .node (.sub (.sub (.s 8) 603) 0)]))))))))) (.reg [qo 26 (.mv 10),qo 27 (.bin .add .num 26 (iC 1)),
 qo 10 (.mv 27)]))) [.keep [2, 3, 4, 8, 9, 10] [(.s 3), (.s 4), (.sub (.sub (.s 8) 603) 0), (.s 19)], .own 8 0 .node (.sub (.sub (.s 8) 600) 0)])))))) (.seq (.reg [qo 6 (.mv (.c (.str (⟨#[]⟩ : BA)))),qo 7 (.mv bF)]) .ret)))))⟩
theorem w87_search {O : Oracle TT} (fuel : Nat) (h88_1 : C88_1 O f88_1) : C87_search (fun _ => vcF (S := SS) O j87_search) (f87_search fuel) := by
 intro l1 l2 l3 l4 Q R hQ h
 unfold f87_search at h
 refine ⟨nle rfl, rfl, ?_⟩
 conv => whnf
 obtain ⟨hb5, h⟩ := sat_grdP h
 refine ⟨(0, 0), true, rfl, rfl, mfind_none mfind_pr16 (by first | exact hb5 | exact absurd hb5 Bool.false_ne_true), ?_⟩
 obtain ⟨R1660, h, hlR1660, hrR1660⟩ := sat_sbind h
 conv => whnf
 refine ⟨fun σ => R1660 (.inr ()) ∧ σ = ⟨[], []⟩, ?_, ?_⟩
 conv => whnf
 refine ⟨fun σ n => ∃ (f2488 : Nat) (l2489 : L4) (l2490 : List ((Int × Int) × Bool)) (v2491 : Int) (n2492 : Nat), f2488 = n ∧ n2492 = l2489.length ∧ sat (f87_search_L56 fuel l1 l2 l3 l4 f2488 l2489 l2490 v2491) R1660 ∧ σ.keep [2, 3, 4, 8, 9, 10] [(.s 3), (.s 4), (.sub (.sub (.s 8) 600) 0), (.s 19)] = ⟨[(2, .c (.fn 88 [])), (3, .c (.ptr (.s 3) 0 0)), (4, .c (.ptr (.s 4) 0 0)), (8, .c (.osl (.sub (.sub (.s 8) 600) 0) 0 n2492)), (9, .c (.mapp (.s 19))), (10, .c (.int .i64 v2491))], [((.s 3), some (.var [.isl .a16 l1, .isl .bool l2])), ((.s 4), some (.var [.isl .a16 l3, .isl .bool l4])), ((.sub (.sub (.s 8) 600) 0), some (.row false .node l2489)), ((.s 19), some (.map .pr16 .bool l2490))]⟩, ⟨_, _, ([(0, 0, (-1), 0)] : L4), (([] : List ((Int × Int) × Bool)) ++ [((0, 0), true)]), (0 : Int), _, rfl, LN, h, rfl⟩, ?_⟩
 rintro σ n ⟨f2488, l2489, l2490, v2491, _, rfl, rfl, h, hσ⟩
 refine kk hσ ?_
 rcases f2488 with _ | g2487
 rw [f87_search_L56] at h; exact nn h
 rw [f87_search_L56] at h
 conv => whnf
 intro hl2493
 conv => whnf
 refine kc h (fun h => ?_) fun h => ?_
 conv => whnf
 exact ⟨sat_some h, rfl⟩
 obtain ⟨R2906, h, hlR2906, hrR2906⟩ := sat_sbind h
 conv => whnf
 refine ⟨fun σ => ∃ (l2903 : L4) (l2904 : List ((Int × Int) × Bool)) (n2905 : Nat), n2905 = l2903.length ∧ R2906 (.inr (l2903, l2904)) ∧ σ = ⟨[(2, .c (.fn 88 [])), (3, .c (.ptr (.s 3) 0 0)), (4, .c (.ptr (.s 4) 0 0)), (8, .c (.osl (.sub (.sub (.s 8) 603) 0) 0 n2905)), (9, .c (.mapp (.s 19))), (10, .c (.int .i64 v2491))], [((.s 3), some (.var [.isl .a16 l1, .isl .bool l2])), ((.s 4), some (.var [.isl .a16 l3, .isl .bool l4])), ((.sub (.sub (.s 8) 603) 0), some (.row false .node l2903)), ((.s 19), some (.map .pr16 .bool l2904))]⟩, ?_, ?_⟩
 conv => whnf
 refine kp h fun hb2907 h => ?_
 conv => whnf
 refine kg (sat_getN h) fun uu2912 huu2912 h => ?_
 obtain ⟨x2908, y2909, fr2910, by2911⟩ := uu2912
 obtain ⟨R3094, h, hlR3094, hrR3094⟩ := sat_sbind h
 conv => whnf
 refine ⟨fun σ => R3094 (.inr ()) ∧ σ = ⟨[(2, .c (.fn 88 [])), (3, .c (.ptr (.s 3) 0 0)), (4, .c (.ptr (.s 4) 0 0)), (8, .c (.osl (.sub (.sub (.s 8) 600) 0) 0 l2489.length)), (9, .c (.mapp (.s 19))), (10, .c (.int .i64 v2491)), (11, .c (.ptr (.s 11) 0 0))], [((.s 3), some (.var [.isl .a16 l1, .isl .bool l2])), ((.s 4), some (.var [.isl .a16 l3, .isl .bool l4])), ((.sub (.sub (.s 8) 600) 0), some (.row false .node l2489)), ((.s 19), some (.map .pr16 .bool l2490)), ((.s 11), some (.var [.int .i16 x2908, .int .i16 y2909, .int .i64 fr2910, .int .u8 by2911]))]⟩, ?_, ?_⟩
 conv => whnf
 refine kg (sat_getL h) fun b3095 huu3096 h => ?_
 conv => whnf
 refine kg (sat_getL h) fun b3097 huu3098 h => ?_
 conv => whnf
 refine ⟨[], ?_⟩
 conv => whnf
 refine h88_1 _ _ _ _ ?_ (sat_bind h)
 rintro q3099 h
 cases q3099
 replace h := sat_cf h
 conv => whnf
 exact ⟨sat_some h, rfl⟩
 replace h := sat_ct h
 obtain ⟨R3150, h, hlR3150, hrR3150⟩ := sat_sbind h
 conv => whnf
 refine ⟨fun σ => ∃ (l3148 : LI) (n3149 : Nat), n3149 = l3148.length ∧ R3150 (.inr l3148) ∧ σ = ⟨[(12, .c (.osl (.sub (.sub (.s 12) 601) 0) 0 n3149))], [((.sub (.sub (.s 12) 601) 0), some (.row false .u8 l3148))]⟩, ?_, ?_⟩
 conv => whnf
 refine ⟨fun σ n => ∃ (f3175 : Nat) (l3176 : LI) (v3177 : Int) (n3178 : Nat), f3175 = n ∧ n3178 = l3176.length ∧ sat (f87_search_L71 l2489 f3175 l3176 v3177) R3150 ∧ σ.keep [8, 10, 12] [(.sub (.sub (.s 8) 600) 0), (.sub (.sub (.s 12) 601) 0)] = ⟨[(8, .c (.osl (.sub (.sub (.s 8) 600) 0) 0 l2489.length)), (10, .c (.int .i64 v3177)), (12, .c (.osl (.sub (.sub (.s 12) 601) 0) 0 n3178))], [((.sub (.sub (.s 8) 600) 0), some (.row false .node l2489)), ((.sub (.sub (.s 12) 601) 0), some (.row false .u8 l3176))]⟩, ⟨_, _, [], v2491, _, rfl, LN, h, rfl⟩, ?_⟩
 rintro σ n ⟨f3175, l3176, v3177, _, rfl, rfl, h, hσ⟩
 refine kk hσ ?_
 rcases f3175 with _ | g3174
 rw [f87_search_L71] at h; exact nn h
 rw [f87_search_L71] at h
 conv => whnf
 refine kp h fun hb3179 h => ?_
 conv => whnf
 refine kg (sat_getN h) fun uu3184 huu3184 h => ?_
 obtain ⟨x3180, y3181, fr3182, by3183⟩ := uu3184
 conv => whnf
 refine kc h (fun h => ?_) fun h => ?_
 conv => whnf
 exact ⟨l3176, _, LN, sat_some h, rfl⟩
 conv => whnf
 refine kp h fun hb3186 h => ?_
 conv => whnf
 refine kg (sat_getN h) fun uu3191 huu3191 h => ?_
 obtain ⟨x3187, y3188, fr3189, by3190⟩ := uu3191
 conv => whnf
 refine ⟨LN, rfl, ?_⟩
 conv => whnf
 refine ⟨rfl, ?_⟩
 conv => whnf
 refine kp h fun hb3198 h => ?_
 conv => whnf
 refine kp h fun hb3192 h => ?_
 conv => whnf
 refine kg (sat_getN h) fun uu3197 huu3197 h => ?_
 obtain ⟨x3193, y3194, fr3195, by3196⟩ := uu3197
 conv => whnf
 exact ⟨g3174, nls, g3174, (l3176 ++ ([by3190] : LI)), fr3195, _, rfl, LN, h, rfl⟩
 rintro _ ⟨l3148, _, rfl, h, rfl⟩
 replace h := hrR3150 _ h
 obtain ⟨R3238, h, hlR3238, hrR3238⟩ := sat_sbind h
 conv => whnf
 refine ⟨fun σ => ∃ (l3236 : LI) (n3237 : Nat), n3237 = l3236.length ∧ R3238 (.inr l3236) ∧ σ = ⟨[(12, .c (.osl (.sub (.sub (.s 12) 601) 0) 0 n3237))], [((.sub (.sub (.s 12) 601) 0), some (.row false .u8 l3236))]⟩, ?_, ?_⟩
 conv => whnf
 intro hl3239
 conv => whnf
 refine ⟨fun σ n => ∃ (f3258 : Nat) (l3259 : LI) (v3260 : Int) (v3261 : Int) (n3262 : Nat), f3258 = n ∧ n3262 = l3259.length ∧ sat (f87_search_L73 f3258 l3259 v3260 v3261) R3238 ∧ σ.keep [12, 13, 14] [(.sub (.sub (.s 12) 601) 0)] = ⟨[(12, .c (.osl (.sub (.sub (.s 12) 601) 0) 0 n3262)), (13, .c (.int .i64 v3260)), (14, .c (.int .i64 v3261))], [((.sub (.sub (.s 12) 601) 0), some (.row false .u8 l3259))]⟩, ⟨_, _, l3148, (0 : Int), (wrap .i64 (((l3148.length : Nat) : Int) - 1)), _, rfl, LN, h, rfl⟩, ?_⟩
 rintro σ n ⟨f3258, l3259, v3260, v3261, _, rfl, rfl, h, hσ⟩
 refine kk hσ ?_
 rcases f3258 with _ | g3257
 rw [f87_search_L73] at h; exact nn h
 rw [f87_search_L73] at h
 conv => whnf
 refine kc h (fun h => ?_) fun h => ?_
 conv => whnf
 exact ⟨l3259, _, LN, sat_some h, rfl⟩
 conv => whnf
 refine kp h fun hb3264 h => ?_
 conv => whnf
 refine kg (sat_getN h) fun c3265 huu3266 h => ?_
 conv => whnf
 refine kp h fun hb3267 h => ?_
 conv => whnf
 refine kg (sat_getN h) fun c3268 huu3269 h => ?_
 conv => whnf
 refine kp h fun hb3270 h => ?_
 conv => whnf
 refine kg (sat_getN h) fun c3271 huu3272 h => ?_
 refine ⟨c3265, rfl, ?_⟩
 conv => whnf
 refine kp h fun hb3273 h => ?_
 conv => whnf
 refine kg (sat_getN h) fun c3274 huu3275 h => ?_
 refine ⟨c3268, rfl, ?_⟩
 conv => whnf
 exact ⟨g3257, nls, g3257, ((l3259.set (0 + v3260.toNat) c3265).set (0 + v3261.toNat) c3268), (wrap .i64 (v3260 + 1)), (wrap .i64 (v3261 - 1)), _, rfl, LN, h, rfl⟩
 rintro _ ⟨l3236, _, rfl, h, rfl⟩
 replace h := hrR3238 _ h
 conv => whnf
 refine ⟨LN, ?_⟩
 conv => whnf
 refine ⟨l3236, rfl, ?_⟩
 replace h := sat_lft hlR3094 h
 replace h := sat_lft hlR2906 h
 replace h := sat_lft hlR1660 h
 conv => whnf
 exact ⟨[], ND 0, hQ _ _ (sat_some h)⟩
 rintro _ ⟨h, rfl⟩
 replace h := hrR3094 _ h
 obtain ⟨hN3298, h⟩ := sat_grdP h
 conv => whnf
 refine ⟨fun σ n => ∃ (f3296 : Nat) (v3295 : Int) (z : Int) (l3299 : L4) (l3300 : List ((Int × Int) × Bool)) (n3301 : Nat), f3296 = n ∧ f3296 = (256 - v3295).toNat ∧ 0 ≤ v3295 ∧ v3295 = z ∧ n3301 = l3299.length ∧ sat (f87_search_L74 l1 l3 v2491 x2908 y2909 f3296 v3295 l3299 l3300) R2906 ∧ σ.keep [2, 3, 4, 8, 9, 10, 11, 93] [(.s 3), (.s 4), (.sub (.sub (.s 8) 603) 0), (.s 19), (.s 11)] = ⟨[(2, .c (.fn 88 [])), (3, .c (.ptr (.s 3) 0 0)), (4, .c (.ptr (.s 4) 0 0)), (8, .c (.osl (.sub (.sub (.s 8) 603) 0) 0 n3301)), (9, .c (.mapp (.s 19))), (10, .c (.int .i64 v2491)), (11, .c (.ptr (.s 11) 0 0)), (93, .c (.int .i64 z))], [((.s 3), some (.var [.isl .a16 l1, .isl .bool l2])), ((.s 4), some (.var [.isl .a16 l3, .isl .bool l4])), ((.sub (.sub (.s 8) 603) 0), some (.row false .node l3299)), ((.s 19), some (.map .pr16 .bool l3300)), ((.s 11), some (.var [.int .i16 x2908, .int .i16 y2909, .int .i64 fr2910, .int .u8 by2911]))]⟩, ⟨_, _, 0, _, l2489, l2490, _, rfl, rfl, (by decide), rfl, LN, h, rfl⟩, ?_⟩
 rintro σ n ⟨f3296, v3295, _, l3299, l3300, _, rfl, hf3296, hpf3296, rfl, rfl, h, hσ⟩
 refine kk hσ ?_
 conv => whnf
 intro t3302 (ht3302 : t3302 = decide (v3295 < 256))
 cases t3302
 obtain rfl := il_nil hf3296 ht3302
 rw [f87_search_L74] at h
 conv => whnf
 exact ⟨l3299, l3300, _, LN, sat_some h, rfl⟩
 obtain ⟨g3297, rfl, hwg3297, hpg3297, hfg3297⟩ := il_cons hf3296 hpf3296 ht3302 hN3298
 rw [f87_search_L74] at h
 conv => whnf
 refine kg (sat_getL h) fun row3303 huu3304 h => ?_
 conv => whnf
 obtain ⟨hbh3305, h⟩ := sat_getL h
 refine ⟨.i16, pad256 row3303, rfl, rfl, pad256_len _, ⟨hbh3305.1, by have := pad256_len row3303; omega⟩, fun h3305 hh3305 => ?_⟩
 replace h := h _ hh3305
 conv => whnf
 refine kg (sat_getL h) fun row3306 huu3307 h => ?_
 conv => whnf
 obtain ⟨hbh3308, h⟩ := sat_getL h
 refine ⟨.i16, pad256 row3306, rfl, rfl, pad256_len _, ⟨hbh3308.1, by have := pad256_len row3306; omega⟩, fun h3308 hh3308 => ?_⟩
 replace h := h _ hh3308
 try dsimp only at h
 obtain ⟨fm3310, hfm3310⟩ : ∃ q, q = mget l3300 (h3305, h3308) := ⟨_, rfl⟩
 rw [← hfm3310] at h
 conv => whnf
 refine ⟨(h3305, h3308), fm3310, rfl, (by rw [hfm3310]; exact mfind_pr16 _ _), ?_⟩
 rcases fm3310 with _ | v3309
 rintro _ rfl
 conv => whnf
 obtain ⟨hb3311, h⟩ := sat_grdP h
 refine ⟨(h3305, h3308), true, rfl, rfl, mfind_none mfind_pr16 (by rw [← hfm3310]; rfl), ?_⟩
 conv => whnf
 refine ⟨LN, rfl, ?_⟩
 conv => whnf
 refine ⟨rfl, ?_⟩
 conv => whnf
 refine kp h fun hb3312 h => ?_
 conv => whnf
 exact ⟨g3297, nls, g3297, v3295 + 1, _, (l3299 ++ ([(h3305, h3308, v2491, (wrap .u8 v3295))] : L4)), (l3300 ++ [((h3305, h3308), true)]), _, rfl, hfg3297, hpg3297, hwg3297.symm, LN, h, rfl⟩
 rintro _ rfl
 cases v3309
 replace h := sat_cf h
 conv => whnf
 obtain ⟨hb3313, h⟩ := sat_grdP h
 refine ⟨(h3305, h3308), true, rfl, rfl, mfind_none mfind_pr16 (by first | exact hb3313 | exact absurd hb3313 Bool.false_ne_true), ?_⟩
 conv => whnf
 refine ⟨LN, rfl, ?_⟩
 conv => whnf
 refine ⟨rfl, ?_⟩
 conv => whnf
 refine kp h fun hb3314 h => ?_
 conv => whnf
 exact ⟨g3297, nls, g3297, v3295 + 1, _, (l3299 ++ ([(h3305, h3308, v2491, (wrap .u8 v3295))] : L4)), (l3300 ++ [((h3305, h3308), true)]), _, rfl, hfg3297, hpg3297, hwg3297.symm, LN, h, rfl⟩
 replace h := sat_ct h
 conv => whnf
 exact ⟨g3297, nls, g3297, v3295 + 1, _, l3299, l3300, _, rfl, hfg3297, hpg3297, hwg3297.symm, LN, h, rfl⟩
 rintro _ ⟨l2903, l2904, _, rfl, h, rfl⟩
 replace h := hrR2906 _ h
 conv => whnf
 exact ⟨g2487, nls, g2487, l2903, l2904, (wrap .i64 (v2491 + 1)), _, rfl, LN, h, rfl⟩
 rintro _ ⟨h, rfl⟩
 replace h := hrR1660 _ h
 conv => whnf
 exact ⟨[], ND 0, hQ _ _ (sat_some h)⟩
theorem c87_search {P : Program} {fid : Nat → FuncId} (mx : MX P) (k87_search : KF P fid 87 j87_search) (h88_1 : C88_1 (SP P fid) f88_1) : ∀ n, C87_search (SP P fid) (f87_search n) :=
 fun n => fun a0 a1 a2 a3 Q R hQ h => spec_of_vc mx k87_search (w87_search n h88_1 a0 a1 a2 a3 Q R hQ h)
def f67_Least (fuel : Nat) : BA → Option (BA × Int)
  | s1 => (f86_build fuel s1).bind fun (l2, l3, v4) => cond (v4 != 0) (some ((⟨#[]⟩ : BA), v4)) ((f87_search fuel l2 l3 l2 l3).bind fun (s6, q7) => some (s6, 0))
def C67_Least (O : Oracle TT) (m : BA → Option (BA × Int)) : Prop :=
  ∀ (s1 : BA) (Q : (BA × Int) → Prop) (R : RR) (_ : ∀ (s8 : BA) (v9 : Int), Q (s8, v9) → R (.tup [.c (.str s8), .c (.int .i64 v9)]) []) (_ : sat (m s1) Q), O 67 [.c (.str s1)] [] R
def j67_Least : Fn TT := ⟨23, [.t 2, .t 3], (.seq (.reg [qo 2 (.mv (.c (.str (⟨#[]⟩ : BA)))),qo 3 (.mv (iC 0))]) (.seq (.reg [qo 9 (.mv 0),qo 10 (.call 10 86 [9]),qo 8 (.mv 10),qo 11 (.ext 8 0),qo 12 (.ext 8 1),qo 4 (.alloc 4 [.isl .a16 [], .isl .bool []]),qp (.store 4 11 2),qo 5 (.mv 12)]) (.seq (.seq (.reg [qo 13 (.mv 5),qo 14 (.bin .neq .num 13 (iC 0))]) (.cond 14 (.seq
 (.reg [qo 15 (.mv 5),qo 2 (.mv (.c (.str (⟨#[]⟩ : BA)))),qo 3 (.mv 15)]) .ret) .skip)) (.seq (.reg [qo 17 (.load 4 2 true),qo 18 (.load 4 2 true),qo 19 (.call 19 87 [17, 18, (.c (.fn 88 []))]),qo 16 (.mv 19),qo 20 (.ext 16 0),qo 21 (.ext 16 1),qo 6 (.mv 20),qo 7 (.mv 21)]) (.seq (.reg [qo 22 (.mv 6),qo 2 (.mv 22),qo 3 (.mv (iC 0))]) .ret)))))⟩
theorem w67_Least {O : Oracle TT} (fuel : Nat) (h86_build : C86_build O (f86_build fuel)) (h87_search : C87_search O (f87_search fuel)) : C67_Least (fun _ => vcF (S := SS) O j67_Least) (f67_Least fuel) := by
 intro s1 Q R hQ h
 unfold f67_Least at h
 refine ⟨nle rfl, rfl, ?_⟩
 conv => whnf
 refine ⟨[], ?_⟩
 conv => whnf
 refine h86_build _ _ _ ?_ (sat_bind h)
 rintro l2 l3 v4 h
 conv => whnf
 refine kc h (fun h => ?_) fun h => ?_
 conv => whnf
 refine ⟨[], ?_⟩
 conv => whnf
 refine h87_search _ _ _ _ _ _ ?_ (sat_bind h)
 rintro s6 q7 h
 conv => whnf
 exact ⟨[], ND 0, hQ _ _ (sat_some h)⟩
 conv => whnf
 exact ⟨[], ND 0, hQ _ _ (sat_some h)⟩
theorem c67_Least {P : Program} {fid : Nat → FuncId} (mx : MX P) (k67_Least : KF P fid 67 j67_Least) (h86_build : ∀ n, C86_build (SP P fid) (f86_build n)) (h87_search : ∀ n, C87_search (SP P fid) (f87_search n)) : ∀ n, C67_Least (SP P fid) (f67_Least n) :=
 fun n => fun a0 Q R hQ h => spec_of_vc mx k67_Least (w67_Least n (h86_build n) (h87_search n) a0 Q R hQ h)
def f89_two (fuel : Nat) : BA → BA → Option ((List LI) × (List Bool) × (List LI) × (List Bool) × Int)
  | s1, s2 => (f86_build fuel s1).bind fun (l3, l4, v5) => cond (v5 != 0) (some (l3, l4, l3, l4, v5)) ((f86_build fuel s2).bind fun (l7, l8, v9) => some (l3, l4, l7, l8, v9))
def C89_two (O : Oracle TT) (m : BA → BA → Option ((List LI) × (List Bool) × (List LI) × (List Bool) × Int)) : Prop :=
  ∀ (s1 : BA) (s2 : BA) (Q : ((List LI) × (List Bool) × (List LI) × (List Bool) × Int) → Prop) (R : RR) (_ : ∀ (l10 : List LI) (l11 : List Bool) (l12 : List LI) (l13 : List Bool) (v14 : Int), Q (l10, l11, l12, l13, v14) → R (.tup [.agg [.isl .a16 l10, .isl .bool l11], .agg [.isl .a16 l12, .isl .bool l13], .c (.int .i64 v14)]) []) (_ : sat (m s1 s2) Q), O 89 [.c (.str s1), .c (.str s2)] [] R
def j89_two : Fn TT := ⟨28, [.cell 4 2 true, .cell 5 2 true, .t 6], (.seq (.reg [qo 4 (.alloc 4 [.isl .a16 [], .isl .bool []]),qo 5 (.alloc 5 [.isl .a16 [], .isl .bool []]),qo 6 (.mv (iC 0))]) (.seq (.reg [qo 11 (.mv 0),qo 12 (.call 12 86 [11]),qo 10 (.mv 12),qo 13 (.ext 10 0),qo 14 (.ext 10 1),qo 7 (.alloc 7 [.isl .a16 [], .isl .bool []]),qp (.store 7 13 2),qo 8 (.mv 14)]) (.seq (.seq
 (.reg [qo 15 (.mv 8),qo 16 (.bin .neq .num 15 (iC 0))]) (.cond 16 (.seq (.drw [(.s 4)] (oR 6) [4] [0, 1, 2, 5] [qo 17 (.load 7 2 true),qo 18 (.load 7 2 true),qo 19 (.mv 8),qp (.store 4 17 2),qp (.store 5 18 2),qo 6 (.mv 19)]) .ret) .skip)) (.seq (.reg [qo 21 (.mv 1),qo 22 (.call 22 86 [21]),qo 20 (.mv 22),qo 23 (.ext 20 0),qo 24 (.ext 20 1),qo 9 (.alloc 9 [.isl .a16 [], .isl .bool []]),
 qp (.store 9 23 2),qo 8 (.mv 24)]) (.seq (.drw [(.s 4)] (oR 6) [4] [0, 1, 2, 5] [qo 25 (.load 7 2 true),qo 26 (.load 9 2 true),qo 27 (.mv 8),qp (.store 4 25 2),qp (.store 5 26 2),qo 6 (.mv 27)]) .ret)))))⟩
theorem w89_two {O : Oracle TT} (fuel : Nat) (h86_build : C86_build O (f86_build fuel)) : C89_two (fun _ => vcF (S := SS) O j89_two) (f89_two fuel) := by
 intro s1 s2 Q R hQ h
 unfold f89_two at h
 refine ⟨nle rfl, rfl, ?_⟩
 conv => whnf
 refine ⟨[], ?_⟩
 conv => whnf
 refine h86_build _ _ _ ?_ (sat_bind h)
 rintro l3 l4 v5 h
 conv => whnf
 refine kc h (fun h => ?_) fun h => ?_
 conv => whnf
 refine ⟨[], ?_⟩
 conv => whnf
 refine h86_build _ _ _ ?_ (sat_bind h)
 rintro l7 l8 v9 h
 conv => whnf
 exact ⟨[], ND 0, hQ _ _ _ _ _ (sat_some h)⟩
 conv => whnf
 exact ⟨[], ND 0, hQ _ _ _ _ _ (sat_some h)⟩
theorem c89_two {P : Program} {fid : Nat → FuncId} (mx : MX P) (k89_two : KF P fid 89 j89_two) (h86_build : ∀ n, C86_build (SP P fid) (f86_build n)) : ∀ n, C89_two (SP P fid) (f89_two n) :=
 fun n => fun a0 a1 Q R hQ h => spec_of_vc mx k89_two (w89_two n (h86_build n) a0 a1 Q R hQ h)
def f90_1 : Bool → Bool → Option (Bool)
  | q1, q2 => cond q2 (cond q1 (some false) (some true)) (some false)
def C90_1 (O : Oracle TT) (m : Bool → Bool → Option (Bool)) : Prop :=
  ∀ (q1 : Bool) (q2 : Bool) (Q : Bool → Prop) (R : RR) (_ : ∀ (q3 : Bool), Q q3 → R (.c (.bool q3)) []) (_ : sat (m q1 q2) Q), O 90 [.c (.bool q1), .c (.bool q2)] [] R
def j90_1 : Fn TT := ⟨10, [.t 4], (.seq (.reg [qo 4 (.mv bF)]) (.seq (.reg [qo 5 (.mv 1),qo 6 (.mv 5),qg 6 7 (.mv 0),qg 6 8 (.un .not 7),qo 9 (.pick 6 8 bF),qo 4 (.mv 9)]) .ret))⟩
theorem w90_1 {O : Oracle TT} : C90_1 (fun _ => vcF (S := SS) O j90_1) f90_1 := by
 intro q1 q2 Q R hQ h
 unfold f90_1 at h
 refine ⟨nle rfl, rfl, ?_⟩
 cases q2
 replace h := sat_cf h
 conv => whnf
 exact ⟨[], ND 0, hQ _ (sat_some h)⟩
 replace h := sat_ct h
 cases q1
 replace h := sat_cf h
 conv => whnf
 exact ⟨[], ND 0, hQ _ (sat_some h)⟩
 replace h := sat_ct h
 conv => whnf
 exact ⟨[], ND 0, hQ _ (sat_some h)⟩
theorem c90_1 {P : Program} {fid : Nat → FuncId} (mx : MX P) (k90_1 : KF P fid 90 j90_1) : C90_1 (SP P fid) f90_1 :=
 fun a0 a1 Q R hQ h => spec_of_vc mx k90_1 (w90_1 a0 a1 Q R hQ h)
def f87a_search_L71 (l2489 : L4) : Nat → LI → Int → Option (Sum (Sum (Sum (Sum (BA × Bool) (Unit)) (L4 × (List ((Int × Int) × Bool)))) (Unit)) (LI))
  | 0, _, _ => none
  | g3174 + 1, l3176, v3177 => grdP ((0 : Int) ≤ v3177 ∧ v3177 < ((l2489.length : Nat) : Int)) (getN l2489 (0 + v3177.toNat) fun uu3184 => match uu3184 with | (x3180, y3181, fr3182, by3183) => cond (decide (fr3182 ≥ 0)) (grdP ((0 : Int) ≤ v3177 ∧ v3177 < ((l2489.length : Nat) : Int)) (getN l2489 (0 + v3177.toNat) fun uu3191 => match uu3191 with | (x3187, y3188, fr3189, by3190) => grdP (l3176.length + ([by3190] : LI).length ≤ 68719476736) (grdP ((0 : Int) ≤ v3177 ∧ v3177 < ((l2489.length : Nat) : Int)) (getN l2489 (0 + v3177.toNat) fun uu3197 => match uu3197 with | (x3193, y3194, fr3195, by3196) => f87a_search_L71 l2489 g3174 (l3176 ++ ([by3190] : LI)) fr3195)))) (some (.inr l3176)))
def f87a_search_L73 : Nat → LI → Int → Int → Option (Sum (Sum (Sum (Sum (BA × Bool) (Unit)) (L4 × (List ((Int × Int) × Bool)))) (Unit)) (LI))
  | 0, _, _, _ => none
  | g3257 + 1, l3259, v3260, v3261 => cond (decide (v3260 < v3261)) (grdP ((0 : Int) ≤ v3261 ∧ v3261 < ((l3259.length : Nat) : Int)) (getN l3259 (0 + v3261.toNat) fun c3265 => grdP ((0 : Int) ≤ v3260 ∧ v3260 < ((l3259.length : Nat) : Int)) (getN l3259 (0 + v3260.toNat) fun c3268 => grdP ((0 : Int) ≤ v3260 ∧ v3260 < ((l3259.length : Nat) : Int)) (getN l3259 (0 + v3260.toNat) fun c3271 => grdP ((0 : Int) ≤ v3261 ∧ v3261 < ((l3259.length : Nat) : Int)) (getN (l3259.set (0 + v3260.toNat) c3265) (0 + v3261.toNat) fun c3274 => f87a_search_L73 g3257 ((l3259.set (0 + v3260.toNat) c3265).set (0 + v3261.toNat) c3268) (wrap .i64 (v3260 + 1)) (wrap .i64 (v3261 - 1))))))) (some (.inr l3259))
def f87a_search_L74 (l1 : List LI) (l3 : List LI) (v2491 : Int) (x2908 : Int) (y2909 : Int) : Nat → Int → L4 → (List ((Int × Int) × Bool)) → Option (Sum (Sum (BA × Bool) (Unit)) (L4 × (List ((Int × Int) × Bool))))
  | 0, v3295, l3299, l3300 => some (.inr (l3299, l3300))
  | g3297 + 1, v3295, l3299, l3300 => getL l1 x2908 fun row3303 => getL (pad256 row3303) v3295 fun h3305 => getL l3 y2909 fun row3306 => getL (pad256 row3306) v3295 fun h3308 => match mget l3300 (h3305, h3308) with | none => grdP ((mget l3300 (h3305, h3308)).isNone = true) (grdP (l3299.length + ([(h3305, h3308, v2491, (wrap .u8 v3295))] : L4).length ≤ 68719476736) (f87a_search_L74 l1 l3 v2491 x2908 y2909 g3297 (v3295 + 1) (l3299 ++ ([(h3305, h3308, v2491, (wrap .u8 v3295))] : L4)) (l3300 ++ [((h3305, h3308), true)]))) | some v3309 => cond v3309 (f87a_search_L74 l1 l3 v2491 x2908 y2909 g3297 (v3295 + 1) l3299 l3300) (grdP ((mget l3300 (h3305, h3308)).isNone = true) (grdP (l3299.length + ([(h3305, h3308, v2491, (wrap .u8 v3295))] : L4).length ≤ 68719476736) (f87a_search_L74 l1 l3 v2491 x2908 y2909 g3297 (v3295 + 1) (l3299 ++ ([(h3305, h3308, v2491, (wrap .u8 v3295))] : L4)) (l3300 ++ [((h3305, h3308), true)]))))
def f87a_search_L56 (fuel : Nat) (l1 : List LI) (l2 : List Bool) (l3 : List LI) (l4 : List Bool) : Nat → L4 → (List ((Int × Int) × Bool)) → Int → Option (Sum (BA × Bool) (Unit))
  | 0, _, _, _ => none
  | g2487 + 1, l2489, l2490, v2491 => cond (decide (v2491 < ((l2489.length : Nat) : Int))) (sbind (ο := L4 × (List ((Int × Int) × Bool))) (grdP ((0 : Int) ≤ v2491 ∧ v2491 < ((l2489.length : Nat) : Int)) (getN l2489 (0 + v2491.toNat) fun uu2912 => match uu2912 with | (x2908, y2909, fr2910, by2911) => sbind (ο := Unit) (getL l2 x2908 fun b3095 => getL l4 y2909 fun b3097 => (f90_1 b3095 b3097).bind fun q3099 => cond q3099 (sbind (τ := Sum (Sum (Sum (BA × Bool) (Unit)) (L4 × (List ((Int × Int) × Bool)))) (Unit)) (ο := LI) (f87a_search_L71 l2489 fuel [] v2491) (fun l3148 => sbind (τ := Sum (Sum (Sum (BA × Bool) (Unit)) (L4 × (List ((Int × Int) × Bool)))) (Unit)) (ο := LI) (f87a_search_L73 fuel l3148 (0 : Int) (wrap .i64 (((l3148.length : Nat) : Int) - 1))) (fun l3236 => lft (lft (lft (some ((strOfNums l3236), true))))))) (some (.inr ()))) (fun () => grdP ((256 : Int) ≤ 9223372036854775807) (f87a_search_L74 l1 l3 v2491 x2908 y2909 ((256 : Int) - 0).toNat 0 l2489 l2490)))) (fun (l2903, l2904) => f87a_search_L56 fuel l1 l2 l3 l4 g2487 l2903 l2904 (wrap .i64 (v2491 + 1)))) (some (.inr ()))
def f87a_search (fuel : Nat) : (List LI) → (List Bool) → (List LI) → (List Bool) → Option (BA × Bool)
  | l1, l2, l3, l4 => grdP ((mget ([] : List ((Int × Int) × Bool)) (0, 0)).isNone = true) (sbind (ο := Unit) (f87a_search_L56 fuel l1 l2 l3 l4 fuel ([(0, 0, (-1), 0)] : L4) (([] : List ((Int × Int) × Bool)) ++ [((0, 0), true)]) (0 : Int)) (fun () => some ((⟨#[]⟩ : BA), false)))
def C87a_search (O : Oracle TT) (m : (List LI) → (List Bool) → (List LI) → (List Bool) → Option (BA × Bool)) : Prop :=
  ∀ (l1 : List LI) (l2 : List Bool) (l3 : List LI) (l4 : List Bool) (Q : (BA × Bool) → Prop) (R : RR) (_ : ∀ (s3315 : BA) (q3316 : Bool), Q (s3315, q3316) → R (.tup [.c (.str s3315), .c (.bool q3316)]) []) (_ : sat (m l1 l2 l3 l4) Q), O 87 [.agg [.isl .a16 l1, .isl .bool l2], .agg [.isl .a16 l3, .isl .bool l4], .c (.fn 90 [])] [] R
def j87a_search : Fn TT := ⟨130, [.t 6, .t 7], (.seq (.reg [qo 3 (.box 3 0),qo 4 (.box 4 1),qo 6 (.mv (.c (.str (⟨#[]⟩ : BA)))),qo 7 (.mv bF)]) (.seq (.reg [qo 17 (.build [.int .i16 0, .int .i16 0, .int .i64 0, .int .u8 0] [((2, 1), (iC (-1)))]),qo 18 (.bslice 18 .node [17]),qo 8 (.mv 18)]) (.seq (.reg [qo 19 (.mkmap 19 .pr16 .bool),qo 20 (.build [.int .i16 0, .int .i16 0] []),
 qp (.mapadd 2 19 20 bT),qo 21 (.mv 19),qo 9 (.mv 21)]) (.cut [] [] (.seq (.reg [qo 10 (.mv (iC 0))]) (.block 0 (.pre [.own 8 0 .node (.sub (.sub (.s 8) 600) 0)] (.loop (.keep [2, 3, 4, 8, 9, 10] [(.s 3), (.s 4), (.sub (.sub (.s 8) 600) 0), (.s 19)] (.aft (.seq (.seq (.reg [qo 22 (.mv 10),qo 23 (.mv 8),qo 24 (.len false 23),qo 25 (.bin .lss .num 22 24)]) (.cond 25 .skip (.exit 0)))
 (.cut [2, 3, 4, 8, 9, 10] [(.s 3), (.s 4), (.sub (.sub (.s 8) 603) 0), (.s 19)] (.block 1 (.seq (.reg [qo 28 (.mv 8),qo 29 (.mv 10),qo 30 (.idxA 28 29 4),qo 31 (.load 30 4 true),qo 11 (.alloc 11 [.int .i16 0, .int .i16 0, .int .i64 0, .int .u8 0]),qp (.store 11 31 4)]) (.cut [2, 3, 4, 8, 9, 10, 11] [(.s 3), (.s 4), (.sub (.sub (.s 8) 600) 0), (.s 19), (.s 11)] (.seq
 (.drw [] (oR 16) [] (List.range 15) [qo 32 (.mv 2),qo 33 (.fa 3 1),qo 34 (.load 33 1 false),qo 35 (.fa 11 0),qo 36 (.fa 35 0),qo 37 (.load 36 1 false),qo 38 (.idxA 34 37 1),qo 39 (.load 38 1 false),qo 40 (.fa 4 1),qo 41 (.load 40 1 false),qo 42 (.fa 11 0),qo 43 (.fa 42 1),qo 44 (.load 43 1 false),qo 45 (.idxA 41 44 1),qo 46 (.load 45 1 false),qo 47 (.callv 47 32 [39, 46])])
 (.cond 47 (.seq (.reg [qo 12 (.mv (.c (.nils)))]) (.cut [12] [(.sub (.sub (.s 12) 601) 0)] (.block 2 (.pre [.own 12 0 .u8 (.sub (.sub (.s 12) 601) 0)] (.loop (.keep [8, 10, 12] [(.sub (.sub (.s 8) 600) 0), (.sub (.sub (.s 12) 601) 0)] (.aft (.seq (.seq (.reg [qo 48 (.mv 8),qo 49 (.mv 10),qo 50 (.idxA 48 49 4),qo 51 (.fa 50 2),qo 52 (.load 51 1 false),qo 53 (.bin .geq .num 52 (iC 0))])
 (.cond 53 .skip (.exit 2))) (.seq (.block 3 (.reg [qo 59 (.mv 12),qo 60 (.mv 8),qo 61 (.mv 10),qo 62 (.idxA 60 61 4),qo 63 (.fa 62 3),qo 64 (.load 63 1 false),qo 65 (.bsl .u8 [64]),qo 66 (.app 66 .u8 68719476736 59 65),qo 12 (.mv 66)])) (.reg [qo 54 (.mv 8),qo 55 (.mv 10),qo 56 (.idxA 54 55 4),qo 57 (.fa 56 2),qo 58 (.load 57 1 false),
 qo 10 (.mv 58)]))) [.keep [8, 10, 12] [(.sub (.sub (.s 8) 600) 0), (.s 66)], .own 12 0 .u8 (.sub (.sub (.s 12) 601) 0)]))))) (.cut [12] [(.sub (.sub (.s 12) 601) 0)] (.seq (.reg [qo 67 (.mv 12),qo 68 (.len false 67),qo 69 (.bin .sub .num 68 (iC 1)),qo 13 (.mv (iC 0)),qo 14 (.mv 69)]) (.block 4 (.loop (.keep [12, 13, 14] [(.sub (.sub (.s 12) 601) 0)] (.aft (.seq (.seq (.reg [qo 70 (.mv 13),
 qo 71 (.mv 14),qo 72 (.bin .lss .num 70 71)]) (.cond 72 .skip (.exit 4))) (.seq (.block 5 (.drw [] (oR 16) [13, 15] [0, 1, 2, 3, 4, 5, 6, 7, 8, 9, 10, 11, 12, 14] [qo 77 (.mv 12),qo 78 (.mv 13),qo 79 (.mv 12),qo 80 (.mv 14),qo 81 (.mv 12),qo 82 (.mv 14),qo 83 (.idxA 81 82 1),qo 84 (.load 83 1 false),qo 85 (.mv 12),qo 86 (.mv 13),qo 87 (.idxA 85 86 1),qo 88 (.load 87 1 false),
 qo 89 (.idxA 77 78 1),qp (.store 89 84 1),qo 90 (.idxA 79 80 1),qp (.store 90 88 1)])) (.reg [qo 73 (.mv 13),qo 74 (.bin .add .num 73 (iC 1)),qo 75 (.mv 14),qo 76 (.bin .sub .num 75 (iC 1)),qo 13 (.mv 74),qo 14 (.mv 76)]))) [.keep [12, 13, 14] [(.sub (.sub (.s 12) 601) 0)]]))))) (.seq (.pre [.frz 12 0 .u8] (.reg [qo 91 (.mv 12),qo 92 (.b2s 91),qo 6 (.mv 92),qo 7 (.mv bT)])) .ret))))
 .skip)) (.seq (.reg [qo 93 (.mv (iC 0))]) (.block 6 (.pre [.own 8 0 .node (.sub (.sub (.s 8) 603) 0)] (.loop (.keep [2, 3, 4, 8, 9, 10, 11, 93] [(.s 3), (.s 4), (.sub (.sub (.s 8) 603) 0), (.s 19), (.s 11)] (.aft (.seq (.reg [qo 94 (.bin .lss .num 93 (iC 256))]) (.seq (.cond 94 .skip (.exit 6)) (.seq (.block 7 (.seq (.reg [qo 95 (.mv 93),qo 15 (.mv 95)]) (.seq
 (.drw [] (oR 21) [20] (List.range 19) [qo 96 (.fa 3 0),qo 97 (.load 96 1 false),qo 98 (.fa 11 0),qo 99 (.fa 98 0),qo 100 (.load 99 1 false),qo 101 (.mv 15),qo 102 (.idxA 97 100 256),qo 103 (.idxR 102 101 1 256),qo 104 (.load 103 1 false),qo 105 (.fa 4 0),qo 106 (.load 105 1 false),qo 107 (.fa 11 0),qo 108 (.fa 107 1),qo 109 (.load 108 1 false),qo 110 (.mv 15),
 qo 111 (.idxA 106 109 256),qo 112 (.idxR 111 110 1 256),qo 113 (.load 112 1 false),qo 114 (.build [.int .i16 0, .int .i16 0] [((0, 1), 104), ((1, 1), 113)]),qo 16 (.alloc 16 [.int .i16 0, .int .i16 0]),qp (.store 16 114 2)]) (.seq (.reg [qo 115 (.mv 9),qo 116 (.load 16 2 true),qo 117 (.mapget 2 115 116 (.bool false) false),qo 118 (.un .not 117)]) (.cond 118 (.seq (.reg [qo 119 (.mv 9),
 qo 120 (.load 16 2 true),qp (.mapadd 2 119 120 bT)]) (.reg [qo 121 (.mv 8),qo 122 (.load 16 2 true),qo 123 (.mv 10),qo 124 (.mv 15),qo 125 (.conv .u8 124),qo 126 (.build [.int .i16 0, .int .i16 0, .int .i64 0, .int .u8 0] [((0, 2), 122), ((2, 1), 123), ((3, 1), 125)]),qo 127 (.bsl .node [126]),qo 128 (.app 128 .node 68719476736 121 127),qo 8 (.mv 128)])) .skip)))))
 (.reg [qo 129 (.bin .add .num 93 (iC 1)),qo 93 (.mv 129)])))) [.keep [2, 3, 4, 8, 9, 10, 11, 93] [(.s 3), (.s 4), (.s 128), (.s 19), (.s 11), (.sub (.sub (.s 8) 603) 0)], .own 8 0 .node (.sub (.sub (.s 8) 603) 0)]))))))))) (.reg [qo 26 (.mv 10),qo 27 (.bin .add .num 26 (iC 1)),
 qo 10 (.mv 27)]))) [.keep [2, 3, 4, 8, 9, 10] [(.s 3), (.s 4), (.sub (.sub (.s 8) 603) 0), (.s 19)], .own 8 0 .node (.sub (.sub (.s 8) 600) 0)])))))) (.seq (.reg [qo 6 (.mv (.c (.str (⟨#[]⟩ : BA)))),qo 7 (.mv bF)]) .ret)))))⟩
theorem w87a_search {O : Oracle TT} (fuel : Nat) (h90_1 : C90_1 O f90_1) : C87a_search (fun _ => vcF (S := SS) O j87a_search) (f87a_search fuel) := by
 intro l1 l2 l3 l4 Q R hQ h
 unfold f87a_search at h
 refine ⟨nle rfl, rfl, ?_⟩
 conv => whnf
 obtain ⟨hb5, h⟩ := sat_grdP h
 refine ⟨(0, 0), true, rfl, rfl, mfind_none mfind_pr16 (by first | exact hb5 | exact absurd hb5 Bool.false_ne_true), ?_⟩
 obtain ⟨R1660, h, hlR1660, hrR1660⟩ := sat_sbind h
 conv => whnf
 refine ⟨fun σ => R1660 (.inr ()) ∧ σ = ⟨[], []⟩, ?_, ?_⟩
 conv => whnf
 refine ⟨fun σ n => ∃ (f2488 : Nat) (l2489 : L4) (l2490 : List ((Int × Int) × Bool)) (v2491 : Int) (n2492 : Nat), f2488 = n ∧ n2492 = l2489.length ∧ sat (f87a_search_L56 fuel l1 l2 l3 l4 f2488 l2489 l2490 v2491) R1660 ∧ σ.keep [2, 3, 4, 8, 9, 10] [(.s 3), (.s 4), (.sub (.sub (.s 8) 600) 0), (.s 19)] = ⟨[(2, .c (.fn 90 [])), (3, .c (.ptr (.s 3) 0 0)), (4, .c (.ptr (.s 4) 0 0)), (8, .c (.osl (.sub (.sub (.s 8) 600) 0) 0 n2492)), (9, .c (.mapp (.s 19))), (10, .c (.int .i64 v2491))], [((.s 3), some (.var [.isl .a16 l1, .isl .bool l2])), ((.s 4), some (.var [.isl .a16 l3, .isl .bool l4])), ((.sub (.sub (.s 8) 600) 0), some (.row false .node l2489)), ((.s 19), some (.map .pr16 .bool l2490))]⟩, ⟨_, _, ([(0, 0, (-1), 0)] : L4), (([] : List ((Int × Int) × Bool)) ++ [((0, 0), true)]), (0 : Int), _, rfl, LN, h, rfl⟩, ?_⟩
 rintro σ n ⟨f2488, l2489, l2490, v2491, _, rfl, rfl, h, hσ⟩
 refine kk hσ ?_
 rcases f2488 with _ | g2487
 rw [f87a_search_L56] at h; exact nn h
 rw [f87a_search_L56] at h
 conv => whnf
 intro hl2493
 conv => whnf
 refine kc h (fun h => ?_) fun h => ?_
 conv => whnf
 exact ⟨sat_some h, rfl⟩
 obtain ⟨R2906, h, hlR2906, hrR2906⟩ := sat_sbind h
 conv => whnf
 refine ⟨fun σ => ∃ (l2903 : L4) (l2904 : List ((Int × Int) × Bool)) (n2905 : Nat), n2905 = l2903.length ∧ R2906 (.inr (l2903, l2904)) ∧ σ = ⟨[(2, .c (.fn 90 [])), (3, .c (.ptr (.s 3) 0 0)), (4, .c (.ptr (.s 4) 0 0)), (8, .c (.osl (.sub (.sub (.s 8) 603) 0) 0 n2905)), (9, .c (.mapp (.s 19))), (10, .c (.int .i64 v2491))], [((.s 3), some (.var [.isl .a16 l1, .isl .bool l2])), ((.s 4), some (.var [.isl .a16 l3, .isl .bool l4])), ((.sub (.sub (.s 8) 603) 0), some (.row false .node l2903)), ((.s 19), some (.map .pr16 .bool l2904))]⟩, ?_, ?_⟩
 conv => whnf
 refine kp h fun hb2907 h => ?_
 conv => whnf
 refine kg (sat_getN h) fun uu2912 huu2912 h => ?_
 obtain ⟨x2908, y2909, fr2910, by2911⟩ := uu2912
 obtain ⟨R3094, h, hlR3094, hrR3094⟩ := sat_sbind h
 conv => whnf
 refine ⟨fun σ => R3094 (.inr ()) ∧ σ = ⟨[(2, .c (.fn 90 [])), (3, .c (.ptr (.s 3) 0 0)), (4, .c (.ptr (.s 4) 0 0)), (8, .c (.osl (.sub (.sub (.s 8) 600) 0) 0 l2489.length)), (9, .c (.mapp (.s 19))), (10, .c (.int .i64 v2491)), (11, .c (.ptr (.s 11) 0 0))], [((.s 3), some (.var [.isl .a16 l1, .isl .bool l2])), ((.s 4), some (.var [.isl .a16 l3, .isl .bool l4])), ((.sub (.sub (.s 8) 600) 0), some (.row false .node l2489)), ((.s 19), some (.map .pr16 .bool l2490)), ((.s 11), some (.var [.int .i16 x2908, .int .i16 y2909, .int .i64 fr2910, .int .u8 by2911]))]⟩, ?_, ?_⟩
 conv => whnf
 refine kg (sat_getL h) fun b3095 huu3096 h => ?_
 conv => whnf
 refine kg (sat_getL h) fun b3097 huu3098 h => ?_
 conv => whnf
 refine ⟨[], ?_⟩
 conv => whnf
 refine h90_1 _ _ _ _ ?_ (sat_bind h)
 rintro q3099 h
 cases q3099
 replace h := sat_cf h
 conv => whnf
 exact ⟨sat_some h, rfl⟩
 replace h := sat_ct h
 obtain ⟨R3150, h, hlR3150, hrR3150⟩ := sat_sbind h
 conv => whnf
 refine ⟨fun σ => ∃ (l3148 : LI) (n3149 : Nat), n3149 = l3148.length ∧ R3150 (.inr l3148) ∧ σ = ⟨[(12, .c (.osl (.sub (.sub (.s 12) 601) 0) 0 n3149))], [((.sub (.sub (.s 12) 601) 0), some (.row false .u8 l3148))]⟩, ?_, ?_⟩
 conv => whnf
 refine ⟨fun σ n => ∃ (f3175 : Nat) (l3176 : LI) (v3177 : Int) (n3178 : Nat), f3175 = n ∧ n3178 = l3176.length ∧ sat (f87a_search_L71 l2489 f3175 l3176 v3177) R3150 ∧ σ.keep [8, 10, 12] [(.sub (.sub (.s 8) 600) 0), (.sub (.sub (.s 12) 601) 0)] = ⟨[(8, .c (.osl (.sub (.sub (.s 8) 600) 0) 0 l2489.length)), (10, .c (.int .i64 v3177)), (12, .c (.osl (.sub (.sub (.s 12) 601) 0) 0 n3178))], [((.sub (.sub (.s 8) 600) 0), some (.row false .node l2489)), ((.sub (.sub (.s 12) 601) 0), some (.row false .u8 l3176))]⟩, ⟨_, _, [], v2491, _, rfl, LN, h, rfl⟩, ?_⟩
 rintro σ n ⟨f3175, l3176, v3177, _, rfl, rfl, h, hσ⟩
 refine kk hσ ?_
 rcases f3175 with _ | g3174
 rw [f87a_search_L71] at h; exact nn h
 rw [f87a_search_L71] at h
 conv => whnf
 refine kp h fun hb3179 h => ?_
 conv => whnf
 refine kg (sat_getN h) fun uu3184 huu3184 h => ?_
 obtain ⟨x3180, y3181, fr3182, by3183⟩ := uu3184
 conv => whnf
 refine kc h (fun h => ?_) fun h => ?_
 conv => whnf
 exact ⟨l3176, _, LN, sat_some h, rfl⟩
 conv => whnf
 refine kp h fun hb3186 h => ?_
 conv => whnf
 refine kg (sat_getN h) fun uu3191 huu3191 h => ?_
 obtain ⟨x3187, y3188, fr3189, by3190⟩ := uu3191
 conv => whnf
 refine ⟨LN, rfl, ?_⟩
 conv => whnf
 refine ⟨rfl, ?_⟩
 conv => whnf
 refine kp h fun hb3198 h => ?_
 conv => whnf
 refine kp h fun hb3192 h => ?_
 conv => whnf
 refine kg (sat_getN h) fun uu3197 huu3197 h => ?_
 obtain ⟨x3193, y3194, fr3195, by3196⟩ := uu3197
 conv => whnf
 exact ⟨g3174, nls, g3174, (l3176 ++ ([by3190] : LI)), fr3195, _, rfl, LN, h, rfl⟩
 rintro _ ⟨l3148, _, rfl, h, rfl⟩
 replace h := hrR3150 _ h
 obtain ⟨R3238, h, hlR3238, hrR3238⟩ := sat_sbind h
 conv => whnf
 refine ⟨fun σ => ∃ (l3236 : LI) (n3237 : Nat), n3237 = l3236.length ∧ R3238 (.inr l3236) ∧ σ = ⟨[(12, .c (.osl (.sub (.sub (.s 12) 601) 0) 0 n3237))], [((.sub (.sub (.s 12) 601) 0), some (.row false .u8 l3236))]⟩, ?_, ?_⟩
 conv => whnf
 intro hl3239
 conv => whnf
 refine ⟨fun σ n => ∃ (f3258 : Nat) (l3259 : LI) (v3260 : Int) (v3261 : Int) (n3262 : Nat), f3258 = n ∧ n3262 = l3259.length ∧ sat (f87a_search_L73 f3258 l3259 v3260 v3261) R3238 ∧ σ.keep [12, 13, 14] [(.sub (.sub (.s 12) 601) 0)] = ⟨[(12, .c (.osl (.sub (.sub (.s 12) 601) 0) 0 n3262)), (13, .c (.int .i64 v3260)), (14, .c (.int .i64 v3261))], [((.sub (.sub (.s 12) 601) 0), some (.row false .u8 l3259))]⟩, ⟨_, _, l3148, (0 : Int), (wrap .i64 (((l3148.length : Nat) : Int) - 1)), _, rfl, LN, h, rfl⟩, ?_⟩
 rintro σ n ⟨f3258, l3259, v3260, v3261, _, rfl, rfl, h, hσ⟩
 refine kk hσ ?_
 rcases f3258 with _ | g3257
 rw [f87a_search_L73] at h; exact nn h
 rw [f87a_search_L73] at h
 conv => whnf
 refine kc h (fun h => ?_) fun h => ?_
 conv => whnf
 exact ⟨l3259, _, LN, sat_some h, rfl⟩
 conv => whnf
 refine kp h fun hb3264 h => ?_
 conv => whnf
 refine kg (sat_getN h) fun c3265 huu3266 h => ?_
 conv => whnf
 refine kp h fun hb3267 h => ?_
 conv => whnf
 refine kg (sat_getN h) fun c3268 huu3269 h => ?_
 conv => whnf
 refine kp h fun hb3270 h => ?_
 conv => whnf
 refine kg (sat_getN h) fun c3271 huu3272 h => ?_
 refine ⟨c3265, rfl, ?_⟩
 conv => whnf
 refine kp h fun hb3273 h => ?_
 conv => whnf
 refine kg (sat_getN h) fun c3274 huu3275 h => ?_
 refine ⟨c3268, rfl, ?_⟩
 conv => whnf
 exact ⟨g3257, nls, g3257, ((l3259.set (0 + v3260.toNat) c3265).set (0 + v3261.toNat) c3268), (wrap .i64 (v3260 + 1)), (wrap .i64 (v3261 - 1)), _, rfl, LN, h, rfl⟩
 rintro _ ⟨l3236, _, rfl, h, rfl⟩
 replace h := hrR3238 _ h
 conv => whnf
 refine ⟨LN, ?_⟩
 conv => whnf
 refine ⟨l3236, rfl, ?_⟩
 replace h := sat_lft hlR3094 h
 replace h := sat_lft hlR2906 h
 replace h := sat_lft hlR1660 h
 conv => whnf
 exact ⟨[], ND 0, hQ _ _ (sat_some h)⟩
 rintro _ ⟨h, rfl⟩
 replace h := hrR3094 _ h
 obtain ⟨hN3298, h⟩ := sat_grdP h
 conv => whnf
 refine ⟨fun σ n => ∃ (f3296 : Nat) (v3295 : Int) (z : Int) (l3299 : L4) (l3300 : List ((Int × Int) × Bool)) (n3301 : Nat), f3296 = n ∧ f3296 = (256 - v3295).toNat ∧ 0 ≤ v3295 ∧ v3295 = z ∧ n3301 = l3299.length ∧ sat (f87a_search_L74 l1 l3 v2491 x2908 y2909 f3296 v3295 l3299 l3300) R2906 ∧ σ.keep [2, 3, 4, 8, 9, 10, 11, 93] [(.s 3), (.s 4), (.sub (.sub (.s 8) 603) 0), (.s 19), (.s 11)] = ⟨[(2, .c (.fn 90 [])), (3, .c (.ptr (.s 3) 0 0)), (4, .c (.ptr (.s 4) 0 0)), (8, .c (.osl (.sub (.sub (.s 8) 603) 0) 0 n3301)), (9, .c (.mapp (.s 19))), (10, .c (.int .i64 v2491)), (11, .c (.ptr (.s 11) 0 0)), (93, .c (.int .i64 z))], [((.s 3), some (.var [.isl .a16 l1, .isl .bool l2])), ((.s 4), some (.var [.isl .a16 l3, .isl .bool l4])), ((.sub (.sub (.s 8) 603) 0), some (.row false .node l3299)), ((.s 19), some (.map .pr16 .bool l3300)), ((.s 11), some (.var [.int .i16 x2908, .int .i16 y2909, .int .i64 fr2910, .int .u8 by2911]))]⟩, ⟨_, _, 0, _, l2489, l2490, _, rfl, rfl, (by decide), rfl, LN, h, rfl⟩, ?_⟩
 rintro σ n ⟨f3296, v3295, _, l3299, l3300, _, rfl, hf3296, hpf3296, rfl, rfl, h, hσ⟩
 refine kk hσ ?_
 conv => whnf
 intro t3302 (ht3302 : t3302 = decide (v3295 < 256))
 cases t3302
 obtain rfl := il_nil hf3296 ht3302
 rw [f87a_search_L74] at h
 conv => whnf
 exact ⟨l3299, l3300, _, LN, sat_some h, rfl⟩
 obtain ⟨g3297, rfl, hwg3297, hpg3297, hfg3297⟩ := il_cons hf3296 hpf3296 ht3302 hN3298
 rw [f87a_search_L74] at h
 conv => whnf
 refine kg (sat_getL h) fun row3303 huu3304 h => ?_
 conv => whnf
 obtain ⟨hbh3305, h⟩ := sat_getL h
 refine ⟨.i16, pad256 row3303, rfl, rfl, pad256_len _, ⟨hbh3305.1, by have := pad256_len row3303; omega⟩, fun h3305 hh3305 => ?_⟩
 replace h := h _ hh3305
 conv => whnf
 refine kg (sat_getL h) fun row3306 huu3307 h => ?_
 conv => whnf
 obtain ⟨hbh3308, h⟩ := sat_getL h
 refine ⟨.i16, pad256 row3306, rfl, rfl, pad256_len _, ⟨hbh3308.1, by have := pad256_len row3306; omega⟩, fun h3308 hh3308 => ?_⟩
 replace h := h _ hh3308
 try dsimp only at h
 obtain ⟨fm3310, hfm3310⟩ : ∃ q, q = mget l3300 (h3305, h3308) := ⟨_, rfl⟩
 rw [← hfm3310] at h
 conv => whnf
 refine ⟨(h3305, h3308), fm3310, rfl, (by rw [hfm3310]; exact mfind_pr16 _ _), ?_⟩
 rcases fm3310 with _ | v3309
 rintro _ rfl
 conv => whnf
 obtain ⟨hb3311, h⟩ := sat_grdP h
 refine ⟨(h3305, h3308), true, rfl, rfl, mfind_none mfind_pr16 (by rw [← hfm3310]; rfl), ?_⟩
 conv => whnf
 refine ⟨LN, rfl, ?_⟩
 conv => whnf
 refine ⟨rfl, ?_⟩
 conv => whnf
 refine kp h fun hb3312 h => ?_
 conv => whnf
 exact ⟨g3297, nls, g3297, v3295 + 1, _, (l3299 ++ ([(h3305, h3308, v2491, (wrap .u8 v3295))] : L4)), (l3300 ++ [((h3305, h3308), true)]), _, rfl, hfg3297, hpg3297, hwg3297.symm, LN, h, rfl⟩
 rintro _ rfl
 cases v3309
 replace h := sat_cf h
 conv => whnf
 obtain ⟨hb3313, h⟩ := sat_grdP h
 refine ⟨(h3305, h3308), true, rfl, rfl, mfind_none mfind_pr16 (by first | exact hb3313 | exact absurd hb3313 Bool.false_ne_true), ?_⟩
 conv => whnf
 refine ⟨LN, rfl, ?_⟩
 conv => whnf
 refine ⟨rfl, ?_⟩
 conv => whnf
 refine kp h fun hb3314 h => ?_
 conv => whnf
 exact ⟨g3297, nls, g3297, v3295 + 1, _, (l3299 ++ ([(h3305, h3308, v2491, (wrap .u8 v3295))] : L4)), (l3300 ++ [((h3305, h3308), true)]), _, rfl, hfg3297, hpg3297, hwg3297.symm, LN, h, rfl⟩
 replace h := sat_ct h
 conv => whnf
 exact ⟨g3297, nls, g3297, v3295 + 1, _, l3299, l3300, _, rfl, hfg3297, hpg3297, hwg3297.symm, LN, h, rfl⟩
 rintro _ ⟨l2903, l2904, _, rfl, h, rfl⟩
 replace h := hrR2906 _ h
 conv => whnf
 exact ⟨g2487, nls, g2487, l2903, l2904, (wrap .i64 (v2491 + 1)), _, rfl, LN, h, rfl⟩
 rintro _ ⟨h, rfl⟩
 replace h := hrR1660 _ h
 conv => whnf
 exact ⟨[], ND 0, hQ _ _ (sat_some h)⟩
theorem c87a_search {P : Program} {fid : Nat → FuncId} (mx : MX P) (k87a_search : KF P fid 87 j87a_search) (h90_1 : C90_1 (SP P fid) f90_1) : ∀ n, C87a_search (SP P fid) (f87a_search n) :=
 fun n => fun a0 a1 a2 a3 Q R hQ h => spec_of_vc mx k87a_search (w87a_search n h90_1 a0 a1 a2 a3 Q R hQ h)
def f68_Includes (fuel : Nat) : BA → BA → Option (Bool × BA × Int)
  | s1, s2 => (f89_two fuel s2 s1).bind fun (l3, l4, l5, l6, v7) => cond (v7 != 0) ((f86_build fuel s1).bind fun (l11, l12, v13) => cond (v13 != 0) (some (false, (⟨#[]⟩ : BA), v13)) (some (false, (⟨#[]⟩ : BA), v7))) ((f87a_search fuel l3 l4 l5 l6).bind fun (s9, q10) => cond q10 (some (false, s9, 0)) (some (true, s9, 0)))
def C68_Includes (O : Oracle TT) (m : BA → BA → Option (Bool × BA × Int)) : Prop :=
  ∀ (s1 : BA) (s2 : BA) (Q : (Bool × BA × Int) → Prop) (R : RR) (_ : ∀ (q15 : Bool) (s16 : BA) (v17 : Int), Q (q15, s16, v17) → R (.tup [.c (.bool q15), .c (.str s16), .c (.int .i64 v17)]) []) (_ : sat (m s1 s2) Q), O 68 [.c (.str s1), .c (.str s2)] [] R
def j68_Includes : Fn TT := ⟨41, [.t 4, .t 5, .t 6], (.seq (.reg [qo 4 (.mv bF),qo 5 (.mv (.c (.str (⟨#[]⟩ : BA)))),qo 6 (.mv (iC 0))]) (.seq (.reg [qo 15 (.mv 1),qo 16 (.mv 0),qo 17 (.call 17 89 [15, 16]),qo 14 (.mv 17),qo 18 (.ext 14 0),qo 19 (.ext 14 1),qo 20 (.ext 14 2),qo 7 (.alloc 7 [.isl .a16 [], .isl .bool []]),qo 8 (.alloc 8 [.isl .a16 [], .isl .bool []]),
 qp (.store 7 18 2),qp (.store 8 19 2),qo 9 (.mv 20)]) (.seq (.seq (.reg [qo 21 (.mv 9),qo 22 (.bin .neq .num 21 (iC 0))]) (.cond 22 (.seq (.reg [qo 24 (.mv 0),qo 25 (.call 25 86 [24]),qo 23 (.mv 25),qo 26 (.ext 23 0),qo 27 (.ext 23 1),qo 10 (.alloc 10 [.isl .a16 [], .isl .bool []]),qp (.store 10 26 2),qo 11 (.mv 27)]) (.seq (.seq (.reg [qo 28 (.mv 11),qo 29 (.bin .neq .num 28 (iC 0))])
 (.cond 29 (.reg [qo 30 (.mv 11),qo 9 (.mv 30)]) .skip)) (.seq (.reg [qo 31 (.mv 9),qo 4 (.mv bF),qo 5 (.mv (.c (.str (⟨#[]⟩ : BA)))),qo 6 (.mv 31)]) .ret))) .skip)) (.seq (.reg [qo 33 (.load 7 2 true),qo 34 (.load 8 2 true),qo 35 (.call 35 87 [33, 34, (.c (.fn 90 []))]),qo 32 (.mv 35),qo 36 (.ext 32 0),qo 37 (.ext 32 1),qo 12 (.mv 36),qo 13 (.mv 37)]) (.seq (.reg [qo 38 (.mv 13),
 qo 39 (.un .not 38),qo 40 (.mv 12),qo 4 (.mv 39),qo 5 (.mv 40),qo 6 (.mv (iC 0))]) .ret)))))⟩
theorem w68_Includes {O : Oracle TT} (fuel : Nat) (h86_build : C86_build O (f86_build fuel)) (h89_two : C89_two O (f89_two fuel)) (h87a_search : C87a_search O (f87a_search fuel)) : C68_Includes (fun _ => vcF (S := SS) O j68_Includes) (f68_Includes fuel) := by
 intro s1 s2 Q R hQ h
 unfold f68_Includes at h
 refine ⟨nle rfl, rfl, ?_⟩
 conv => whnf
 refine ⟨[], ?_⟩
 conv => whnf
 refine h89_two _ _ _ _ ?_ (sat_bind h)
 rintro l3 l4 l5 l6 v7 h
 conv => whnf
 refine kc h (fun h => ?_) fun h => ?_
 conv => whnf
 refine ⟨[], ?_⟩
 conv => whnf
 refine h87a_search _ _ _ _ _ _ ?_ (sat_bind h)
 rintro s9 q10 h
 cases q10
 replace h := sat_cf h
 conv => whnf
 exact ⟨[], ND 0, hQ _ _ _ (sat_some h)⟩
 replace h := sat_ct h
 conv => whnf
 exact ⟨[], ND 0, hQ _ _ _ (sat_some h)⟩
 conv => whnf
 refine ⟨[], ?_⟩
 conv => whnf
 refine h86_build _ _ _ ?_ (sat_bind h)
 rintro l11 l12 v13 h
 conv => whnf
 refine kc h (fun h => ?_) fun h => ?_
 conv => whnf
 exact ⟨[], ND 0, hQ _ _ _ (sat_some h)⟩
 conv => whnf
 exact ⟨[], ND 0, hQ _ _ _ (sat_some h)⟩
theorem c68_Includes {P : Program} {fid : Nat → FuncId} (mx : MX P) (k68_Includes : KF P fid 68 j68_Includes) (h86_build : ∀ n, C86_build (SP P fid) (f86_build n)) (h89_two : ∀ n, C89_two (SP P fid) (f89_two n)) (h87a_search : ∀ n, C87a_search (SP P fid) (f87a_search n)) : ∀ n, C68_Includes (SP P fid) (f68_Includes n) :=
 fun n => fun a0 a1 Q R hQ h => spec_of_vc mx k68_Includes (w68_Includes n (h86_build n) (h89_two n) (h87a_search n) a0 a1 Q R hQ h)
def f52_order : Int → Option (Int)
  | v1 => cond (decide (v1 < 0)) (some (wrap .i64 (((-1) : Int) - (bAnd .i64 v1 9223372036854775807)))) (some v1)
def C52_order (O : Oracle TT) (m : Int → Option (Int)) : Prop :=
  ∀ (v1 : Int) (Q : Int → Prop) (R : RR) (_ : ∀ (v3 : Int), Q v3 → R (.c (.int .i64 v3)) []) (_ : sat (m v1) Q), O 52 [.c (.int .i64 v1)] [] R
def j52_order : Fn TT := ⟨9, [.t 2], (.seq (.reg [qo 2 (.mv (iC 0))]) (.seq (.seq (.reg [qo 3 (.mv 0),qo 4 (.bin .lss .num 3 (iC 0))]) (.cond 4 (.seq (.reg [qo 5 (.mv 0),qo 6 (.bin .and .num 5 (iC 9223372036854775807)),qo 7 (.bin .sub .num (iC (-1)) 6),qo 2 (.mv 7)]) .ret) .skip)) (.seq (.reg [qo 8 (.mv 0),qo 2 (.mv 8)]) .ret)))⟩
theorem w52_order {O : Oracle TT} : C52_order (fun _ => vcF (S := SS) O j52_order) f52_order := by
 intro v1 Q R hQ h
 unfold f52_order at h
 refine ⟨nle rfl, rfl, ?_⟩
 conv => whnf
 refine kc h (fun h => ?_) fun h => ?_
 conv => whnf
 exact ⟨[], ND 0, hQ _ (sat_some h)⟩
 conv => whnf
 exact ⟨[], ND 0, hQ _ (sat_some h)⟩
theorem c52_order {P : Program} {fid : Nat → FuncId} (mx : MX P) (k52_order : KF P fid 52 j52_order) : C52_order (SP P fid) f52_order :=
 fun a0 Q R hQ h => spec_of_vc mx k52_order (w52_order a0 Q R hQ h)
def f59_isNaN : Int → Option (Bool)
  | v1 => cond (v1 != v1) (some true) (some false)
def C59_isNaN (O : Oracle TT) (m : Int → Option (Bool)) : Prop :=
  ∀ (v1 : Int) (Q : Bool → Prop) (R : RR) (_ : ∀ (q3 : Bool), Q q3 → R (.c (.bool q3)) []) (_ : sat (m v1) Q), O 59 [.c (.int .i64 v1)] [] R
def j59_isNaN : Fn TT := ⟨6, [.t 2], (.seq (.reg [qo 2 (.mv bF)]) (.seq (.reg [qo 3 (.mv 0),qo 4 (.mv 0),qo 5 (.bin .neq .num 3 4),qo 2 (.mv 5)]) .ret))⟩
theorem w59_isNaN {O : Oracle TT} : C59_isNaN (fun _ => vcF (S := SS) O j59_isNaN) f59_isNaN := by
 intro v1 Q R hQ h
 unfold f59_isNaN at h
 refine ⟨nle rfl, rfl, ?_⟩
 conv => whnf
 refine kc h (fun h => ?_) fun h => ?_
 conv => whnf
 exact ⟨[], ND 0, hQ _ (sat_some h)⟩
 conv => whnf
 exact ⟨[], ND 0, hQ _ (sat_some h)⟩
theorem c59_isNaN {P : Program} {fid : Nat → FuncId} (mx : MX P) (k59_isNaN : KF P fid 59 j59_isNaN) : C59_isNaN (SP P fid) f59_isNaN :=
 fun a0 Q R hQ h => spec_of_vc mx k59_isNaN (w59_isNaN a0 Q R hQ h)
def f38_Compare : Int → Int → Option (Int)
  | v1, v2 => (f59_isNaN v1).bind fun q3 => (f59_isNaN v2).bind fun q4 => cond q3 (cond q4 (some 0) (some (-1))) (cond q4 (some 1) (cond (decide (v1 < v2)) (some (-1)) (cond (decide (v1 > v2)) (some 1) (some 0))))
def C38_Compare (O : Oracle TT) (m : Int → Int → Option (Int)) : Prop :=
  ∀ (v1 : Int) (v2 : Int) (Q : Int → Prop) (R : RR) (_ : ∀ (v7 : Int), Q v7 → R (.c (.int .i64 v7)) []) (_ : sat (m v1 v2) Q), O 38 [.c (.int .i64 v1), .c (.int .i64 v2)] [] R
def j38_Compare : Fn TT := ⟨20, [.t 4], (.seq (.reg [qo 4 (.mv (iC 0))]) (.seq (.reg [qo 7 (.mv 0),qo 8 (.call 8 59 [7]),qo 5 (.mv 8)]) (.seq (.reg [qo 9 (.mv 1),qo 10 (.call 10 59 [9]),qo 6 (.mv 10)]) (.seq (.seq (.reg [qo 11 (.mv 5)]) (.cond 11 (.seq (.seq (.reg [qo 12 (.mv 6)]) (.cond 12 (.seq (.reg [qo 4 (.mv (iC 0))]) .ret) .skip)) (.seq (.reg [qo 4 (.mv (iC (-1)))]) .ret)) .skip)) (.seq
 (.seq (.reg [qo 13 (.mv 6)]) (.cond 13 (.seq (.reg [qo 4 (.mv (iC 1))]) .ret) .skip)) (.seq (.seq (.reg [qo 14 (.mv 0),qo 15 (.mv 1),qo 16 (.bin .lss .num 14 15)]) (.cond 16 (.seq (.reg [qo 4 (.mv (iC (-1)))]) .ret) .skip)) (.seq (.seq (.reg [qo 17 (.mv 0),qo 18 (.mv 1),qo 19 (.bin .gtr .num 17 18)]) (.cond 19 (.seq (.reg [qo 4 (.mv (iC 1))]) .ret) .skip)) (.seq (.reg [qo 4 (.mv (iC 0))])
 .ret))))))))⟩
theorem w38_Compare {O : Oracle TT} (h59_isNaN : C59_isNaN O f59_isNaN) : C38_Compare (fun _ => vcF (S := SS) O j38_Compare) f38_Compare := by
 intro v1 v2 Q R hQ h
 unfold f38_Compare at h
 refine ⟨nle rfl, rfl, ?_⟩
 conv => whnf
 refine ⟨[], ?_⟩
 conv => whnf
 refine h59_isNaN _ _ _ ?_ (sat_bind h)
 rintro q3 h
 conv => whnf
 refine ⟨[], ?_⟩
 conv => whnf
 refine h59_isNaN _ _ _ ?_ (sat_bind h)
 rintro q4 h
 cases q3
 replace h := sat_cf h
 cases q4
 replace h := sat_cf h
 conv => whnf
 refine kc h (fun h => ?_) fun h => ?_
 conv => whnf
 refine kc h (fun h => ?_) fun h => ?_
 conv => whnf
 exact ⟨[], ND 0, hQ _ (sat_some h)⟩
 conv => whnf
 exact ⟨[], ND 0, hQ _ (sat_some h)⟩
 conv => whnf
 exact ⟨[], ND 0, hQ _ (sat_some h)⟩
 replace h := sat_ct h
 conv => whnf
 exact ⟨[], ND 0, hQ _ (sat_some h)⟩
 replace h := sat_ct h
 cases q4
 replace h := sat_cf h
 conv => whnf
 exact ⟨[], ND 0, hQ _ (sat_some h)⟩
 replace h := sat_ct h
 conv => whnf
 exact ⟨[], ND 0, hQ _ (sat_some h)⟩
theorem c38_Compare {P : Program} {fid : Nat → FuncId} (mx : MX P) (k38_Compare : KF P fid 38 j38_Compare) (h59_isNaN : C59_isNaN (SP P fid) f59_isNaN) : C38_Compare (SP P fid) f38_Compare :=
 fun a0 a1 Q R hQ h => spec_of_vc mx k38_Compare (w38_Compare h59_isNaN a0 a1 Q R hQ h)
def f78_CompareString : BA → BA → Option (Int)
  | s1, s2 => some (Lib.compareBytes s1.data.toList s2.data.toList)
def C78_CompareString (O : Oracle TT) (m : BA → BA → Option (Int)) : Prop :=
  ∀ (s1 : BA) (s2 : BA) (Q : Int → Prop) (R : RR) (_ : ∀ (v3 : Int), Q v3 → R (.c (.int .i64 v3)) []) (_ : sat (m s1 s2) Q), O 78 [.c (.str s1), .c (.str s2)] [] R
def j78_CompareString : Fn TT := ⟨8, [.t 4], (.seq (.reg [qo 4 (.mv (iC 0))]) (.seq (.reg [qo 5 (.mv 0),qo 6 (.mv 1),qo 7 (.xcmp 5 6),qo 4 (.mv 7)]) .ret))⟩
theorem w78_CompareString {O : Oracle TT} : C78_CompareString (fun _ => vcF (S := SS) O j78_CompareString) f78_CompareString := by
 intro s1 s2 Q R hQ h
 unfold f78_CompareString at h
 refine ⟨nle rfl, rfl, ?_⟩
 conv => whnf
 exact ⟨[], ND 0, hQ _ (sat_some h)⟩
theorem c78_CompareString {P : Program} {fid : Nat → FuncId} (mx : MX P) (k78_CompareString : KF P fid 78 j78_CompareString) : C78_CompareString (SP P fid) f78_CompareString :=
 fun a0 a1 Q R hQ h => spec_of_vc mx k78_CompareString (w78_CompareString a0 a1 Q R hQ h)
def f54_Compare : BA → BA → Option (Int)
  | s1, s2 => (f78_CompareString s1 s2).bind fun v3 => some v3
def C54_Compare (O : Oracle TT) (m : BA → BA → Option (Int)) : Prop :=
  ∀ (s1 : BA) (s2 : BA) (Q : Int → Prop) (R : RR) (_ : ∀ (v4 : Int), Q v4 → R (.c (.int .i64 v4)) []) (_ : sat (m s1 s2) Q), O 54 [.c (.str s1), .c (.str s2)] [] R
def j54_Compare : Fn TT := ⟨8, [.t 4], (.seq (.reg [qo 4 (.mv (iC 0))]) (.seq (.reg [qo 5 (.mv 0),qo 6 (.mv 1),qo 7 (.call 7 78 [5, 6]),qo 4 (.mv 7)]) .ret))⟩
theorem w54_Compare {O : Oracle TT} (h78_CompareString : C78_CompareString O f78_CompareString) : C54_Compare (fun _ => vcF (S := SS) O j54_Compare) f54_Compare := by
 intro s1 s2 Q R hQ h
 unfold f54_Compare at h
 refine ⟨nle rfl, rfl, ?_⟩
 conv => whnf
 refine ⟨[], ?_⟩
 conv => whnf
 refine h78_CompareString _ _ _ _ ?_ (sat_bind h)
 rintro v3 h
 conv => whnf
 exact ⟨[], ND 0, hQ _ (sat_some h)⟩
theorem c54_Compare {P : Program} {fid : Nat → FuncId} (mx : MX P) (k54_Compare : KF P fid 54 j54_Compare) (h78_CompareString : C78_CompareString (SP P fid) f78_CompareString) : C54_Compare (SP P fid) f54_Compare :=
 fun a0 a1 Q R hQ h => spec_of_vc mx k54_Compare (w54_Compare h78_CompareString a0 a1 Q R hQ h)
def f53_Or_L2 : LI → Nat → Option (Sum (Int) (Unit))
  | [], j27 => some (.inr ())
  | v32 :: tl29, j27 => cond (v32 != 0) (lft (some v32)) (f53_Or_L2 tl29 (j27 + 1))
def f53_Or : LI → Option (Int)
  | l1 => sbind (ο := Unit) (f53_Or_L2 l1 0) (fun () => some 0)
def C53_Or (O : Oracle TT) (m : LI → Option (Int)) : Prop :=
  ∀ (l1 : LI) (Q : Int → Prop) (R : RR) (_ : ∀ (v35 : Int), Q v35 → R (.c (.int .i64 v35)) []) (_ : sat (m l1) Q), O 53 [.c (.isl .int l1)] [] R
def j53_Or : Fn TT := ⟨18, [.t 2], (.seq (.reg [qo 2 (.mv (iC 0))]) (.seq (.reg [qo 3 (.mv (iC 0))]) (.cut [3] [] (.seq (.reg [qo 6 (.mv 0),qo 7 (.len false 6),qo 8 (.mv (iC 0))]) (.block 0 (.loop (.keep [3, 6, 7, 8] [] (.aft (.seq (.reg [qo 9 (.bin .lss .num 8 7)]) (.seq (.cond 9 .skip (.exit 0)) (.seq (.block 1 (.seq (.reg [qo 10 (.idxA 6 8 1),qo 11 (.load 10 1 false),qo 5 (.mv 11)]) (.seq
 (.reg [qo 12 (.mv 5),qo 13 (.mv 3),qo 14 (.bin .neq .num 12 13)]) (.cond 14 (.seq (.reg [qo 15 (.mv 5),qo 2 (.mv 15)]) .ret) .skip)))) (.reg [qo 16 (.bin .add .num 8 (iC 1)),qo 8 (.mv 16)])))) [.keep [3, 6, 7, 8] []]))))) (.seq (.reg [qo 17 (.mv 3),qo 2 (.mv 17)]) .ret))))⟩
theorem w53_Or {O : Oracle TT} : C53_Or (fun _ => vcF (S := SS) O j53_Or) f53_Or := by
 intro l1 Q R hQ h
 unfold f53_Or at h
 refine ⟨nle rfl, rfl, ?_⟩
 obtain ⟨R18, h, hlR18, hrR18⟩ := sat_sbind h
 conv => whnf
 refine ⟨fun σ => R18 (.inr ()) ∧ σ = ⟨[(3, .c (.int .i64 0))], []⟩, ?_, ?_⟩
 conv => whnf
 intro hl19
 conv => whnf
 refine ⟨fun σ n => ∃ (rem28 : LI) (j27 : Nat) (z : Int), n = rem28.length ∧ l1.drop j27 = rem28 ∧ z = ((j27 : Nat) : Int) ∧ sat (f53_Or_L2 rem28 j27) R18 ∧ σ.keep [3, 6, 7, 8] [] = ⟨[(3, .c (.int .i64 0)), (6, .c (.isl .int l1)), (7, .c (.int .i64 ((l1.length : Nat) : Int))), (8, .c (.int .i64 z))], []⟩, ⟨_, l1, 0, _, rfl, rfl, rfl, h, rfl⟩, ?_⟩
 rintro σ n ⟨rem28, j27, _, rfl, hrem28, rfl, h, hσ⟩
 refine kk hσ ?_
 conv => whnf
 intro t31 (ht31 : t31 = decide (((j27 : Nat) : Int) < ((l1.length : Nat) : Int)))
 cases t31
 obtain rfl := ll_nil hrem28 ht31
 rw [f53_Or_L2] at h
 conv => whnf
 exact ⟨sat_some h, rfl⟩
 obtain ⟨v32, tl29, rfl, hx30, htl29⟩ := ll_cons hrem28 ht31
 rw [f53_Or_L2] at h
 conv => whnf
 refine ⟨lx_bd hx30, fun uu33 huu33 => ?_⟩
 obtain rfl := lx_eq hx30 huu33
 conv => whnf
 refine kc h (fun h => ?_) fun h => ?_
 conv => whnf
 exact ⟨tl29.length, nls, tl29, j27 + 1, _, rfl, htl29, lx_wr hx30 hl19, h, rfl⟩
 replace h := sat_lft hlR18 h
 conv => whnf
 exact ⟨[], ND 0, hQ _ (sat_some h)⟩
 rintro _ ⟨h, rfl⟩
 replace h := hrR18 _ h
 conv => whnf
 exact ⟨[], ND 0, hQ _ (sat_some h)⟩
theorem c53_Or {P : Program} {fid : Nat → FuncId} (mx : MX P) (k53_Or : KF P fid 53 j53_Or) : C53_Or (SP P fid) f53_Or :=
 fun a0 Q R hQ h => spec_of_vc mx k53_Or (w53_Or a0 Q R hQ h)
def b34_Cmp (self55_CompareFunc : FV → FV → Option (Int)) : V → V → Option (Int)
  | .mk k1 n2 s3 f4, .mk k5 n6 s7 f8 => sbind (ο := Int × Int) (cond (k1 == 3) ((f52_order n2).bind fun v16 => (f52_order n6).bind fun v17 => some (.inr (v16, v17))) (some (.inr (n2, n6)))) (fun (v12, v13) => (f38_Compare k1 k5).bind fun v18 => (f38_Compare v12 v13).bind fun v19 => (f54_Compare s3 s7).bind fun v20 => (f53_Or ([v18, v19, v20] : LI)).bind fun v21 => cond (v21 != 0) (some v21) ((self55_CompareFunc f4 f8).bind fun v23 => some v23))
def f55_CompareFunc_L2 (self56_1 : (BA × V) → (BA × V) → Option (Int)) (l2 : FV) : FV → Nat → Option (Sum (Int) (Unit))
  | [], j67 => some (.inr ())
  | ((a72, .mk k73 n74 s75 f76)) :: tl69, j67 => cond (decide (((j67 : Nat) : Int) ≥ ((l2.length : Nat) : Int))) (lft (some 1)) (getL l2 ((j67 : Nat) : Int) fun uu85 => match uu85 with | (a80, .mk k81 n82 s83 f84) => (self56_1 (a72, (V.mk k73 n74 s75 f76)) (a80, (V.mk k81 n82 s83 f84))).bind fun v86 => cond (v86 != 0) (lft (some v86)) (f55_CompareFunc_L2 self56_1 l2 tl69 (j67 + 1)))
def b55_CompareFunc (self56_1 : (BA × V) → (BA × V) → Option (Int)) : FV → FV → Option (Int)
  | l1, l2 => sbind (ο := Unit) (f55_CompareFunc_L2 self56_1 l2 l1 0) (fun () => cond (decide (((l1.length : Nat) : Int) < ((l2.length : Nat) : Int))) (some (-1)) (some 0))
def b56_1 (self34_Cmp : V → V → Option (Int)) : (BA × V) → (BA × V) → Option (Int)
  | (a1, .mk k2 n3 s4 f5), (a6, .mk k7 n8 s9 f10) => (f54_Compare a1 a6).bind fun v11 => (self34_Cmp (V.mk k2 n3 s4 f5) (V.mk k7 n8 s9 f10)).bind fun v12 => (f53_Or ([v11, v12] : LI)).bind fun v13 => some v13
def S34_Cmp : Nat → (V → V → Option (Int)) × (FV → FV → Option (Int)) × ((BA × V) → (BA × V) → Option (Int))
  | 0 => (fun _ _ => none, fun _ _ => none, fun _ _ => none)
  | n + 1 => (b34_Cmp (S34_Cmp n).2.1, b55_CompareFunc (S34_Cmp n).2.2, b56_1 (S34_Cmp n).1)
def f34_Cmp (n : Nat) : V → V → Option (Int) := (S34_Cmp n).1
def f55_CompareFunc (n : Nat) : FV → FV → Option (Int) := (S34_Cmp n).2.1
def f56_1 (n : Nat) : (BA × V) → (BA × V) → Option (Int) := (S34_Cmp n).2.2
def C34_Cmp (O : Oracle TT) (m : V → V → Option (Int)) : Prop :=
  ∀ (k1 : Int) (n2 : Int) (s3 : BA) (f4 : FV) (k5 : Int) (n6 : Int) (s7 : BA) (f8 : FV) (Q : Int → Prop) (R : RR) (_ : ∀ (v24 : Int), Q v24 → R (.c (.int .i64 v24)) []) (_ : sat (m (V.mk k1 n2 s3 f4) (V.mk k5 n6 s7 f8)) Q), O 34 [.agg [.int .i64 k1, .int .i64 n2, .str s3, .isl .fld f4], .agg [.int .i64 k5, .int .i64 n6, .str s7, .isl .fld f8]] [] R
def j34_Cmp : Fn TT := ⟨42, [.t 4], (.seq (.reg [qo 2 (.box 2 0),qo 3 (.box 3 1),qo 4 (.mv (iC 0))]) (.seq (.drw [] (oR 6) [] (List.range 6) [qo 8 (.fa 2 1),qo 9 (.load 8 1 false),qo 10 (.fa 3 1),qo 11 (.load 10 1 false),qo 5 (.mv 9),qo 6 (.mv 11)]) (.cut [2, 3, 5, 6] [(.s 2), (.s 3)] (.seq (.reg [qo 12 (.fa 2 0),qo 13 (.load 12 1 false),qo 14 (.bin .eql .num 13 (iC 3))]) (.cond 14
 (.reg [qo 15 (.mv 5),qo 16 (.call 16 52 [15]),qo 17 (.mv 6),qo 18 (.call 18 52 [17]),qo 5 (.mv 16),qo 6 (.mv 18)]) .skip)) (.seq (.drw [] (ol [0, 1, 2, 3, 5, 6, 8, 9, 10, 11, 4, 7, 12, 13, 14, 15]) [] [0, 1, 2, 3, 5, 6, 8, 9, 10, 11, 15] [qo 19 (.fa 2 0),qo 20 (.load 19 1 false),qo 21 (.fa 3 0),qo 22 (.load 21 1 false),qo 23 (.call 23 38 [20, 22]),qo 24 (.mv 5),qo 25 (.mv 6),
 qo 26 (.call 26 38 [24, 25]),qo 27 (.fa 2 2),qo 28 (.load 27 1 false),qo 29 (.fa 3 2),qo 30 (.load 29 1 false),qo 31 (.call 31 54 [28, 30]),qo 32 (.bsl .int [23, 26, 31]),qo 33 (.call 33 53 [32]),qo 7 (.mv 33)]) (.seq (.seq (.reg [qo 34 (.mv 7),qo 35 (.bin .neq .num 34 (iC 0))]) (.cond 35 (.seq (.reg [qo 36 (.mv 7),qo 4 (.mv 36)]) .ret) .skip)) (.seq (.reg [qo 37 (.fa 2 3),
 qo 38 (.load 37 1 false),qo 39 (.fa 3 3),qo 40 (.load 39 1 false),qo 41 (.call 41 55 [38, 40, (.c (.fn 56 []))]),qo 4 (.mv 41)]) .ret))))))⟩
def C55_CompareFunc (O : Oracle TT) (m : FV → FV → Option (Int)) : Prop :=
  ∀ (l1 : FV) (l2 : FV) (Q : Int → Prop) (R : RR) (_ : ∀ (v91 : Int), Q v91 → R (.c (.int .i64 v91)) []) (_ : sat (m l1 l2) Q), O 55 [.c (.isl .fld l1), .c (.isl .fld l2), .c (.fn 56 [])] [] R
def j55_CompareFunc : Fn TT := ⟨39, [.t 6], (.seq (.reg [qo 6 (.mv (iC 0))]) (.cut [0, 1] [] (.seq (.reg [qo 11 (.mv 0),qo 12 (.len false 11),qo 13 (.mv (iC 0))]) (.block 0 (.loop (.keep [0, 1, 2, 11, 12, 13] [] (.aft (.seq (.reg [qo 14 (.bin .lss .num 13 12)]) (.seq (.cond 14 .skip (.exit 0)) (.seq (.block 1 (.seq (.reg [qo 15 (.mv 13),qo 16 (.idxA 11 13 5),qo 17 (.load 16 5 true),
 qo 8 (.alloc 8 [.str (⟨#[]⟩ : BA), .int .i64 0, .int .i64 0, .str (⟨#[]⟩ : BA), .isl .fld []]),qo 7 (.mv 15),qp (.store 8 17 5)]) (.seq (.seq (.reg [qo 18 (.mv 7),qo 19 (.mv 1),qo 20 (.len false 19),qo 21 (.bin .geq .num 18 20)]) (.cond 21 (.seq (.reg [qo 6 (.mv (iC 1))]) .ret) .skip)) (.seq (.reg [qo 22 (.mv 1),qo 23 (.mv 7),qo 24 (.idxA 22 23 5),qo 25 (.load 24 5 true),
 qo 9 (.alloc 9 [.str (⟨#[]⟩ : BA), .int .i64 0, .int .i64 0, .str (⟨#[]⟩ : BA), .isl .fld []]),qp (.store 9 25 5)]) (.seq (.reg [qo 26 (.mv 2),qo 27 (.load 8 5 true),qo 28 (.load 9 5 true),qo 29 (.callv 29 26 [27, 28]),qo 10 (.mv 29)]) (.seq (.reg [qo 30 (.mv 10),qo 31 (.bin .neq .num 30 (iC 0))]) (.cond 31 (.seq (.reg [qo 32 (.mv 10),qo 6 (.mv 32)]) .ret) .skip)))))))
 (.reg [qo 33 (.bin .add .num 13 (iC 1)),qo 13 (.mv 33)])))) [.keep [0, 1, 2, 11, 12, 13] []]))))) (.seq (.seq (.reg [qo 34 (.mv 0),qo 35 (.len false 34),qo 36 (.mv 1),qo 37 (.len false 36),qo 38 (.bin .lss .num 35 37)]) (.cond 38 (.seq (.reg [qo 6 (.mv (iC (-1)))]) .ret) .skip)) (.seq (.reg [qo 6 (.mv (iC 0))]) .ret))))⟩
def C56_1 (O : Oracle TT) (m : (BA × V) → (BA × V) → Option (Int)) : Prop :=
  ∀ (a1 : BA) (k2 : Int) (n3 : Int) (s4 : BA) (f5 : FV) (a6 : BA) (k7 : Int) (n8 : Int) (s9 : BA) (f10 : FV) (Q : Int → Prop) (R : RR) (_ : ∀ (v14 : Int), Q v14 → R (.c (.int .i64 v14)) []) (_ : sat (m (a1, (V.mk k2 n3 s4 f5)) (a6, (V.mk k7 n8 s9 f10))) Q), O 56 [.agg [.str a1, .int .i64 k2, .int .i64 n3, .str s4, .isl .fld f5], .agg [.str a6, .int .i64 k7, .int .i64 n8, .str s9, .isl .fld f10]] [] R
def j56_1 : Fn TT := ⟨17, [.t 4], (.seq (.reg [qo 2 (.box 2 0),qo 3 (.box 3 1),qo 4 (.mv (iC 0))]) (.seq (.drw [] (ol [0, 1, 2, 3, 5, 6, 7, 8, 4, 9, 10, 11, 12]) [] [0, 1, 2, 3, 5, 6, 7, 8, 12] [qo 5 (.fa 2 0),qo 6 (.load 5 1 false),qo 7 (.fa 3 0),qo 8 (.load 7 1 false),qo 9 (.call 9 54 [6, 8]),qo 10 (.fa 2 1),qo 11 (.load 10 4 true),qo 12 (.fa 3 1),qo 13 (.load 12 4 true),
 qo 14 (.call 14 34 [11, 13]),qo 15 (.bsl .int [9, 14]),qo 16 (.call 16 53 [15]),qo 4 (.mv 16)]) .ret))⟩
theorem w34_Cmp {O : Oracle TT} (self55_CompareFunc : FV → FV → Option (Int)) (h52_order : C52_order O f52_order) (h38_Compare : C38_Compare O f38_Compare) (h54_Compare : C54_Compare O f54_Compare) (h53_Or : C53_Or O f53_Or) (h55_CompareFunc : C55_CompareFunc O self55_CompareFunc) : C34_Cmp (fun _ => vcF (S := SS) O j34_Cmp) (b34_Cmp self55_CompareFunc) := by
 intro k1 n2 s3 f4 k5 n6 s7 f8 Q R hQ h
 unfold b34_Cmp at h
 refine ⟨nle rfl, rfl, ?_⟩
 obtain ⟨R14, h, hlR14, hrR14⟩ := sat_sbind h
 conv => whnf
 refine ⟨fun σ => ∃ (v12 : Int) (v13 : Int), R14 (.inr (v12, v13)) ∧ σ = ⟨[(2, .c (.ptr (.s 2) 0 0)), (3, .c (.ptr (.s 3) 0 0)), (5, .c (.int .i64 v12)), (6, .c (.int .i64 v13))], [((.s 2), some (.var [.int .i64 k1, .int .i64 n2, .str s3, .isl .fld f4])), ((.s 3), some (.var [.int .i64 k5, .int .i64 n6, .str s7, .isl .fld f8]))]⟩, ?_, ?_⟩
 conv => whnf
 refine kc h (fun h => ?_) fun h => ?_
 conv => whnf
 exact ⟨n2, n6, sat_some h, rfl⟩
 conv => whnf
 refine ⟨[], ?_⟩
 conv => whnf
 refine h52_order _ _ _ ?_ (sat_bind h)
 rintro v16 h
 conv => whnf
 refine ⟨[], ?_⟩
 conv => whnf
 refine h52_order _ _ _ ?_ (sat_bind h)
 rintro v17 h
 conv => whnf
 exact ⟨v16, v17, sat_some h, rfl⟩
 rintro _ ⟨v12, v13, h, rfl⟩
 replace h := hrR14 _ h
 conv => whnf
 refine ⟨[], ?_⟩
 conv => whnf
 refine h38_Compare _ _ _ _ ?_ (sat_bind h)
 rintro v18 h
 conv => whnf
 refine ⟨[], ?_⟩
 conv => whnf
 refine h38_Compare _ _ _ _ ?_ (sat_bind h)
 rintro v19 h
 conv => whnf
 refine ⟨[], ?_⟩
 conv => whnf
 refine h54_Compare _ _ _ _ ?_ (sat_bind h)
 rintro v20 h
 conv => whnf
 refine ⟨[], ?_⟩
 conv => whnf
 refine h53_Or _ _ _ ?_ (sat_bind h)
 rintro v21 h
 conv => whnf
 refine kc h (fun h => ?_) fun h => ?_
 conv => whnf
 refine ⟨[], ?_⟩
 conv => whnf
 refine h55_CompareFunc _ _ _ _ ?_ (sat_bind h)
 rintro v23 h
 conv => whnf
 exact ⟨[], ND 0, hQ _ (sat_some h)⟩
 conv => whnf
 exact ⟨[], ND 0, hQ _ (sat_some h)⟩
theorem w55_CompareFunc {O : Oracle TT} (self56_1 : (BA × V) → (BA × V) → Option (Int)) (h56_1 : C56_1 O self56_1) : C55_CompareFunc (fun _ => vcF (S := SS) O j55_CompareFunc) (b55_CompareFunc self56_1) := by
 intro l1 l2 Q R hQ h
 unfold b55_CompareFunc at h
 refine ⟨nle rfl, rfl, ?_⟩
 obtain ⟨R45, h, hlR45, hrR45⟩ := sat_sbind h
 conv => whnf
 refine ⟨fun σ => R45 (.inr ()) ∧ σ = ⟨[(0, .c (.isl .fld l1)), (1, .c (.isl .fld l2))], []⟩, ?_, ?_⟩
 conv => whnf
 intro hl46
 conv => whnf
 refine ⟨fun σ n => ∃ (rem68 : FV) (j67 : Nat) (z : Int), n = rem68.length ∧ l1.drop j67 = rem68 ∧ z = ((j67 : Nat) : Int) ∧ sat (f55_CompareFunc_L2 self56_1 l2 rem68 j67) R45 ∧ σ.keep [0, 1, 2, 11, 12, 13] [] = ⟨[(0, .c (.isl .fld l1)), (1, .c (.isl .fld l2)), (2, .c (.fn 56 [])), (11, .c (.isl .fld l1)), (12, .c (.int .i64 ((l1.length : Nat) : Int))), (13, .c (.int .i64 z))], []⟩, ⟨_, l1, 0, _, rfl, rfl, rfl, h, rfl⟩, ?_⟩
 rintro σ n ⟨rem68, j67, _, rfl, hrem68, rfl, h, hσ⟩
 refine kk hσ ?_
 conv => whnf
 intro t71 (ht71 : t71 = decide (((j67 : Nat) : Int) < ((l1.length : Nat) : Int)))
 cases t71
 obtain rfl := ll_nil hrem68 ht71
 rw [f55_CompareFunc_L2] at h
 conv => whnf
 exact ⟨sat_some h, rfl⟩
 obtain ⟨x70, tl69, rfl, hx70, htl69⟩ := ll_cons hrem68 ht71
 obtain ⟨a72, ⟨k73, n74, s75, f76⟩⟩ := x70
 rw [f55_CompareFunc_L2] at h
 conv => whnf
 refine ⟨lx_bd hx70, fun uu77 huu77 => ?_⟩
 obtain rfl := lx_eq hx70 huu77
 conv => whnf
 intro hl78
 conv => whnf
 refine kc h (fun h => ?_) fun h => ?_
 conv => whnf
 refine kg (sat_getL h) fun uu85 huu85 h => ?_
 obtain ⟨a80, ⟨k81, n82, s83, f84⟩⟩ := uu85
 conv => whnf
 refine ⟨[], ?_⟩
 conv => whnf
 refine h56_1 _ _ _ _ _ _ _ _ _ _ _ _ ?_ (sat_bind h)
 rintro v86 h
 conv => whnf
 refine kc h (fun h => ?_) fun h => ?_
 conv => whnf
 exact ⟨tl69.length, nls, tl69, j67 + 1, _, rfl, htl69, lx_wr hx70 hl46, h, rfl⟩
 replace h := sat_lft hlR45 h
 conv => whnf
 exact ⟨[], ND 0, hQ _ (sat_some h)⟩
 replace h := sat_lft hlR45 h
 conv => whnf
 exact ⟨[], ND 0, hQ _ (sat_some h)⟩
 rintro _ ⟨h, rfl⟩
 replace h := hrR45 _ h
 conv => whnf
 intro hl88
 conv => whnf
 intro hl89
 conv => whnf
 refine kc h (fun h => ?_) fun h => ?_
 conv => whnf
 exact ⟨[], ND 0, hQ _ (sat_some h)⟩
 conv => whnf
 exact ⟨[], ND 0, hQ _ (sat_some h)⟩
theorem w56_1 {O : Oracle TT} (self34_Cmp : V → V → Option (Int)) (h34_Cmp : C34_Cmp O self34_Cmp) (h54_Compare : C54_Compare O f54_Compare) (h53_Or : C53_Or O f53_Or) : C56_1 (fun _ => vcF (S := SS) O j56_1) (b56_1 self34_Cmp) := by
 intro a1 k2 n3 s4 f5 a6 k7 n8 s9 f10 Q R hQ h
 unfold b56_1 at h
 refine ⟨nle rfl, rfl, ?_⟩
 conv => whnf
 refine ⟨[], ?_⟩
 conv => whnf
 refine h54_Compare _ _ _ _ ?_ (sat_bind h)
 rintro v11 h
 conv => whnf
 refine ⟨[], ?_⟩
 conv => whnf
 refine h34_Cmp _ _ _ _ _ _ _ _ _ _ ?_ (sat_bind h)
 rintro v12 h
 conv => whnf
 refine ⟨[], ?_⟩
 conv => whnf
 refine h53_Or _ _ _ ?_ (sat_bind h)
 rintro v13 h
 conv => whnf
 exact ⟨[], ND 0, hQ _ (sat_some h)⟩
theorem cg34_Cmp {P : Program} {fid : Nat → FuncId} (mx : MX P) (k34_Cmp : KF P fid 34 j34_Cmp) (k55_CompareFunc : KF P fid 55 j55_CompareFunc) (k56_1 : KF P fid 56 j56_1) (h52_order : C52_order (SP P fid) f52_order) (h38_Compare : C38_Compare (SP P fid) f38_Compare) (h54_Compare : C54_Compare (SP P fid) f54_Compare) (h53_Or : C53_Or (SP P fid) f53_Or) : ∀ n, C34_Cmp (SP P fid) (f34_Cmp n) ∧ C55_CompareFunc (SP P fid) (f55_CompareFunc n) ∧ C56_1 (SP P fid) (f56_1 n) := by
 intro n
 induction n with
 | zero => exact ⟨fun a0 a1 a2 a3 a4 a5 a6 a7 Q R hQ h => (sat_none h).elim, fun a0 a1 Q R hQ h => (sat_none h).elim, fun a0 a1 a2 a3 a4 a5 a6 a7 a8 a9 Q R hQ h => (sat_none h).elim⟩
 | succ n ih =>
  obtain ⟨ih0, ih1, ih2⟩ := ih
  exact ⟨fun a0 a1 a2 a3 a4 a5 a6 a7 Q R hQ h => spec_of_vc mx k34_Cmp (w34_Cmp (f55_CompareFunc n) h52_order h38_Compare h54_Compare h53_Or ih1 a0 a1 a2 a3 a4 a5 a6 a7 Q R hQ h), fun a0 a1 Q R hQ h => spec_of_vc mx k55_CompareFunc (w55_CompareFunc (f56_1 n) ih2 a0 a1 Q R hQ h), fun a0 a1 a2 a3 a4 a5 a6 a7 a8 a9 Q R hQ h => spec_of_vc mx k56_1 (w56_1 (f34_Cmp n) ih0 h54_Compare h53_Or a0 a1 a2 a3 a4 a5 a6 a7 a8 a9 Q R hQ h)⟩
theorem c34_Cmp {P : Program} {fid : Nat → FuncId} (mx : MX P) (k34_Cmp : KF P fid 34 j34_Cmp) (k55_CompareFunc : KF P fid 55 j55_CompareFunc) (k56_1 : KF P fid 56 j56_1) (h52_order : C52_order (SP P fid) f52_order) (h38_Compare : C38_Compare (SP P fid) f38_Compare) (h54_Compare : C54_Compare (SP P fid) f54_Compare) (h53_Or : C53_Or (SP P fid) f53_Or) : ∀ n, C34_Cmp (SP P fid) (f34_Cmp n) := fun n => (cg34_Cmp mx k34_Cmp k55_CompareFunc k56_1 h52_order h38_Compare h54_Compare h53_Or n).1
theorem c55_CompareFunc {P : Program} {fid : Nat → FuncId} (mx : MX P) (k34_Cmp : KF P fid 34 j34_Cmp) (k55_CompareFunc : KF P fid 55 j55_CompareFunc) (k56_1 : KF P fid 56 j56_1) (h52_order : C52_order (SP P fid) f52_order) (h38_Compare : C38_Compare (SP P fid) f38_Compare) (h54_Compare : C54_Compare (SP P fid) f54_Compare) (h53_Or : C53_Or (SP P fid) f53_Or) : ∀ n, C55_CompareFunc (SP P fid) (f55_CompareFunc n) := fun n => (cg34_Cmp mx k34_Cmp k55_CompareFunc k56_1 h52_order h38_Compare h54_Compare h53_Or n).2.1
theorem c56_1 {P : Program} {fid : Nat → FuncId} (mx : MX P) (k34_Cmp : KF P fid 34 j34_Cmp) (k55_CompareFunc : KF P fid 55 j55_CompareFunc) (k56_1 : KF P fid 56 j56_1) (h52_order : C52_order (SP P fid) f52_order) (h38_Compare : C38_Compare (SP P fid) f38_Compare) (h54_Compare : C54_Compare (SP P fid) f54_Compare) (h53_Or : C53_Or (SP P fid) f53_Or) : ∀ n, C56_1 (SP P fid) (f56_1 n) := fun n => (cg34_Cmp mx k34_Cmp k55_CompareFunc k56_1 h52_order h38_Compare h54_Compare h53_Or n).2.2
def f11_Same (fuel : Nat) : V → V → Option (Bool)
  | .mk k1 n2 s3 f4, .mk k5 n6 s7 f8 => (f34_Cmp fuel (V.mk k1 n2 s3 f4) (V.mk k5 n6 s7 f8)).bind fun v9 => cond (v9 == 0) (some true) (some false)
def C11_Same (O : Oracle TT) (m : V → V → Option (Bool)) : Prop :=
  ∀ (k1 : Int) (n2 : Int) (s3 : BA) (f4 : FV) (k5 : Int) (n6 : Int) (s7 : BA) (f8 : FV) (Q : Bool → Prop) (R : RR) (_ : ∀ (q11 : Bool), Q q11 → R (.c (.bool q11)) []) (_ : sat (m (V.mk k1 n2 s3 f4) (V.mk k5 n6 s7 f8)) Q), O 11 [.agg [.int .i64 k1, .int .i64 n2, .str s3, .isl .fld f4], .agg [.int .i64 k5, .int .i64 n6, .str s7, .isl .fld f8]] [] R
def j11_Same : Fn TT := ⟨9, [.t 4], (.seq (.reg [qo 2 (.box 2 0),qo 3 (.box 3 1),qo 4 (.mv bF)]) (.seq (.reg [qo 5 (.load 2 4 true),qo 6 (.load 3 4 true),qo 7 (.call 7 34 [5, 6]),qo 8 (.bin .eql .num 7 (iC 0)),qo 4 (.mv 8)]) .ret))⟩
theorem w11_Same {O : Oracle TT} (fuel : Nat) (h34_Cmp : C34_Cmp O (f34_Cmp fuel)) : C11_Same (fun _ => vcF (S := SS) O j11_Same) (f11_Same fuel) := by
 intro k1 n2 s3 f4 k5 n6 s7 f8 Q R hQ h
 unfold f11_Same at h
 refine ⟨nle rfl, rfl, ?_⟩
 conv => whnf
 refine ⟨[], ?_⟩
 conv => whnf
 refine h34_Cmp _ _ _ _ _ _ _ _ _ _ ?_ (sat_bind h)
 rintro v9 h
 conv => whnf
 refine kc h (fun h => ?_) fun h => ?_
 conv => whnf
 exact ⟨[], ND 0, hQ _ (sat_some h)⟩
 conv => whnf
 exact ⟨[], ND 0, hQ _ (sat_some h)⟩
theorem c11_Same {P : Program} {fid : Nat → FuncId} (mx : MX P) (k11_Same : KF P fid 11 j11_Same) (h34_Cmp : ∀ n, C34_Cmp (SP P fid) (f34_Cmp n)) : ∀ n, C11_Same (SP P fid) (f11_Same n) :=
 fun n => fun a0 a1 a2 a3 a4 a5 a6 a7 Q R hQ h => spec_of_vc mx k11_Same (w11_Same n (h34_Cmp n) a0 a1 a2 a3 a4 a5 a6 a7 Q R hQ h)
def f132_Name_L2 : LI → Nat → Option (Sum (Bool) (Unit))
  | [], j80 => some (.inr ())
  | c85 :: tl82, j80 => sbind (ο := Bool) (cond (decide (c85 ≥ 97)) (cond (decide (c85 ≤ 122)) (some (.inr true)) (some (.inr false))) (some (.inr false))) (fun q89 => sbind (ο := Bool) (cond q89 (some (.inr true)) (cond (decide (c85 ≥ 48)) (cond (decide (c85 ≤ 57)) (some (.inr true)) (some (.inr false))) (some (.inr false)))) (fun q95 => sbind (ο := Bool) (cond q95 (some (.inr true)) (cond (c85 == 45) (some (.inr true)) (some (.inr false)))) (fun q100 => cond q100 (f132_Name_L2 tl82 (j80 + 1)) (lft (some false)))))
def f132_Name : BA → Option (Bool)
  | s1 => cond (s1.toList == (⟨#[]⟩ : BA).toList) (some false) (cond (decide ((s1.size : Int) > 16)) (some false) (getB s1 0 fun c4 => cond (decide ((c4.toNat : Int) < 97)) (some false) (getB s1 0 fun c6 => cond (decide ((c6.toNat : Int) > 122)) (some false) (sbind (ο := Unit) (grdP ((s1.size : Nat) ≤ 9223372036854775807) (f132_Name_L2 (bytesJ s1) 0)) (fun () => some true)))))
def C132_Name (O : Oracle TT) (m : BA → Option (Bool)) : Prop :=
  ∀ (s1 : BA) (Q : Bool → Prop) (R : RR) (_ : ∀ (q103 : Bool), Q q103 → R (.c (.bool q103)) []) (_ : sat (m s1) Q), O 132 [.c (.str s1)] [] R
def j132_Name : Fn TT := ⟨49, [.t 2], (.seq (.reg [qo 2 (.mv bF)]) (.seq (.seq (.reg [qo 5 (.mv 0),qo 6 (.bin .eql .str 5 (.c (.str (⟨#[]⟩ : BA)))),qo 7 (.mv 6),qf 7 8 (.mv 0),qf 7 9 (.len true 8),qf 7 10 (.bin .gtr .num 9 (iC 16)),qo 11 (.pick 7 bT 10),qo 12 (.mv 11),qf 12 13 (.mv 0),qf 12 14 (.idxS 13 (iC 0)),qf 12 15 (.bin .lss .num 14 (.c (.int .u8 97))),
 qo 16 (.pick 12 bT 15),qo 17 (.mv 16),qf 17 18 (.mv 0),qf 17 19 (.idxS 18 (iC 0)),qf 17 20 (.bin .gtr .num 19 (.c (.int .u8 122))),qo 21 (.pick 17 bT 20)]) (.cond 21 (.seq (.reg [qo 2 (.mv bF)]) .ret) .skip)) (.cut [] [] (.seq (.reg [qo 22 (.mv 0),qo 23 (.s2b 22),qo 24 (.len false 23),qo 25 (.mv (iC 0))]) (.block 0 (.loop (.keep [23, 24, 25] [] (.aft (.seq
 (.reg [qo 26 (.bin .lss .num 25 24)]) (.seq (.cond 26 .skip (.exit 0)) (.seq (.block 1 (.seq (.reg [qo 27 (.idxA 23 25 1),qo 28 (.load 27 1 false),qo 4 (.mv 28)]) (.seq (.regc [([qo 29 (.mv 4),qo 30 (.bin .geq .num 29 (.c (.int .u8 97))),qo 31 (.mv 30),qg 31 32 (.mv 4),qg 31 33 (.bin .leq .num 32 (.c (.int .u8 122))),qo 34 (.pick 31 33 bF)], [4, 23, 24, 25, 34], []), ([qo 35 (.mv 34),
 qf 35 36 (.mv 4),qf 35 37 (.bin .geq .num 36 (.c (.int .u8 48))),qf 35 38 (.mv 37),qg 38 39 (.mv 4),qg 38 40 (.bin .leq .num 39 (.c (.int .u8 57))),qf 35 41 (.pick 38 40 bF),qo 42 (.pick 35 bT 41)], [4, 23, 24, 25, 42], []), ([qo 43 (.mv 42),qf 43 44 (.mv 4),qf 43 45 (.bin .eql .num 44 (.c (.int .u8 45))),qo 46 (.pick 43 bT 45)], [23, 24, 25, 46], [])] [qo 47 (.un .not 46)]) (.cond 47
 (.seq (.reg [qo 2 (.mv bF)]) .ret) .skip)))) (.reg [qo 48 (.bin .add .num 25 (iC 1)),qo 25 (.mv 48)])))) [.keep [23, 24, 25] []]))))) (.seq (.reg [qo 2 (.mv bT)]) .ret))))⟩
theorem w132_Name {O : Oracle TT} : C132_Name (fun _ => vcF (S := SS) O j132_Name) f132_Name := by
 intro s1 Q R hQ h
 unfold f132_Name at h
 refine ⟨nle rfl, rfl, ?_⟩
 conv => whnf
 refine kc h (fun h => ?_) fun h => ?_
 conv => whnf
 refine kc h (fun h => ?_) fun h => ?_
 conv => whnf
 refine kg (sat_getB h) fun c4 hc4 h => ?_
 conv => whnf
 refine kc h (fun h => ?_) fun h => ?_
 conv => whnf
 refine kg (sat_getB h) fun c6 hc6 h => ?_
 conv => whnf
 refine kc h (fun h => ?_) fun h => ?_
 obtain ⟨R55, h, hlR55, hrR55⟩ := sat_sbind h
 conv => whnf
 refine ⟨fun σ => R55 (.inr ()) ∧ σ = ⟨[], []⟩, ?_, ?_⟩
 conv => whnf
 refine kp h fun hb56 h => ?_
 conv => whnf
 intro hl57
 conv => whnf
 refine ⟨fun σ n => ∃ (rem81 : LI) (j80 : Nat) (z : Int), n = rem81.length ∧ (bytesJ s1).drop j80 = rem81 ∧ z = ((j80 : Nat) : Int) ∧ sat (f132_Name_L2 rem81 j80) R55 ∧ σ.keep [23, 24, 25] [] = ⟨[(23, .c (.isl .u8 (bytesJ s1))), (24, .c (.int .i64 (((bytesJ s1).length : Nat) : Int))), (25, .c (.int .i64 z))], []⟩, ⟨_, (bytesJ s1), 0, _, rfl, rfl, rfl, h, rfl⟩, ?_⟩
 rintro σ n ⟨rem81, j80, _, rfl, hrem81, rfl, h, hσ⟩
 refine kk hσ ?_
 conv => whnf
 intro t84 (ht84 : t84 = decide (((j80 : Nat) : Int) < (((bytesJ s1).length : Nat) : Int)))
 cases t84
 obtain rfl := ll_nil hrem81 ht84
 rw [f132_Name_L2] at h
 conv => whnf
 exact ⟨sat_some h, rfl⟩
 obtain ⟨c85, tl82, rfl, hx83, htl82⟩ := ll_cons hrem81 ht84
 rw [f132_Name_L2] at h
 conv => whnf
 refine ⟨lx_bd hx83, fun uu86 huu86 => ?_⟩
 obtain rfl := lx_eq hx83 huu86
 obtain ⟨R90, h, hlR90, hrR90⟩ := sat_sbind h
 conv => whnf
 refine ⟨fun σ => ∃ (q89 : Bool), R90 (.inr q89) ∧ σ = ⟨[(4, .c (.int .u8 c85)), (23, .c (.isl .u8 (bytesJ s1))), (24, .c (.int .i64 (((bytesJ s1).length : Nat) : Int))), (25, .c (.int .i64 ((j80 : Nat) : Int))), (34, .c (.bool q89))], []⟩, ?_, ?_⟩
 conv => whnf
 refine kc h (fun h => ?_) fun h => ?_
 conv => whnf
 exact ⟨false, sat_some h, rfl⟩
 conv => whnf
 refine kc h (fun h => ?_) fun h => ?_
 conv => whnf
 exact ⟨false, sat_some h, rfl⟩
 conv => whnf
 exact ⟨true, sat_some h, rfl⟩
 rintro _ ⟨q89, h, rfl⟩
 replace h := hrR90 _ h
 obtain ⟨R96, h, hlR96, hrR96⟩ := sat_sbind h
 conv => whnf
 refine ⟨fun σ => ∃ (q95 : Bool), R96 (.inr q95) ∧ σ = ⟨[(4, .c (.int .u8 c85)), (23, .c (.isl .u8 (bytesJ s1))), (24, .c (.int .i64 (((bytesJ s1).length : Nat) : Int))), (25, .c (.int .i64 ((j80 : Nat) : Int))), (42, .c (.bool q95))], []⟩, ?_, ?_⟩
 cases q89
 replace h := sat_cf h
 conv => whnf
 refine kc h (fun h => ?_) fun h => ?_
 conv => whnf
 exact ⟨false, sat_some h, rfl⟩
 conv => whnf
 refine kc h (fun h => ?_) fun h => ?_
 conv => whnf
 exact ⟨false, sat_some h, rfl⟩
 conv => whnf
 exact ⟨true, sat_some h, rfl⟩
 replace h := sat_ct h
 conv => whnf
 exact ⟨true, sat_some h, rfl⟩
 rintro _ ⟨q95, h, rfl⟩
 replace h := hrR96 _ h
 obtain ⟨R101, h, hlR101, hrR101⟩ := sat_sbind h
 conv => whnf
 refine ⟨fun σ => ∃ (q100 : Bool), R101 (.inr q100) ∧ σ = ⟨[(23, .c (.isl .u8 (bytesJ s1))), (24, .c (.int .i64 (((bytesJ s1).length : Nat) : Int))), (25, .c (.int .i64 ((j80 : Nat) : Int))), (46, .c (.bool q100))], []⟩, ?_, ?_⟩
 cases q95
 replace h := sat_cf h
 conv => whnf
 refine kc h (fun h => ?_) fun h => ?_
 conv => whnf
 exact ⟨false, sat_some h, rfl⟩
 conv => whnf
 exact ⟨true, sat_some h, rfl⟩
 replace h := sat_ct h
 conv => whnf
 exact ⟨true, sat_some h, rfl⟩
 rintro _ ⟨q100, h, rfl⟩
 replace h := hrR101 _ h
 cases q100
 replace h := sat_cf h
 replace h := sat_lft hlR55 h
 conv => whnf
 exact ⟨[], ND 0, hQ _ (sat_some h)⟩
 replace h := sat_ct h
 conv => whnf
 exact ⟨tl82.length, nls, tl82, j80 + 1, _, rfl, htl82, lx_wr hx83 hl57, h, rfl⟩
 rintro _ ⟨h, rfl⟩
 replace h := hrR55 _ h
 conv => whnf
 exact ⟨[], ND 0, hQ _ (sat_some h)⟩
 conv => whnf
 exact ⟨[], ND 0, hQ _ (sat_some h)⟩
 conv => whnf
 exact ⟨[], ND 0, hQ _ (sat_some h)⟩
 conv => whnf
 exact ⟨[], ND 0, hQ _ (sat_some h)⟩
 conv => whnf
 exact ⟨[], ND 0, hQ _ (sat_some h)⟩
theorem c132_Name {P : Program} {fid : Nat → FuncId} (mx : MX P) (k132_Name : KF P fid 132 j132_Name) : C132_Name (SP P fid) f132_Name :=
 fun a0 Q R hQ h => spec_of_vc mx k132_Name (w132_Name a0 Q R hQ h)
def f137_1 : (BA × Tp) → BA → Option (Bool)
  | (a1, .mk k2 m3 lo4 hi5 p6 ps7), s8 => cond (a1.toList == s8.toList) (some true) (some false)
def C137_1 (O : Oracle TT) (m : (BA × Tp) → BA → Option (Bool)) : Prop :=
  ∀ (a1 : BA) (k2 : Int) (m3 : BA) (lo4 : Int) (hi5 : Int) (p6 : BA) (ps7 : PT) (s8 : BA) (Q : Bool → Prop) (R : RR) (_ : ∀ (q10 : Bool), Q q10 → R (.c (.bool q10)) [(.x 0, some (.var [.str s8]))]) (_ : sat (m (a1, (Tp.mk k2 m3 lo4 hi5 p6 ps7)) s8) Q), O 137 [.agg [.str a1, .int .i64 k2, .str m3, .int .i64 lo4, .int .i64 hi5, .str p6, .isl .part ps7], .c (.ptr (.x 0) 0 0)] [((.x 0), some (.var [.str s8]))] R
def j137_1 : Fn TT := ⟨8, [.t 3], (.seq (.reg [qo 2 (.box 2 0),qo 3 (.mv bF)]) (.seq (.reg [qo 4 (.fa 2 0),qo 5 (.load 4 1 false),qo 6 (.load 1 1 false),qo 7 (.bin .eql .str 5 6),qo 3 (.mv 7)]) .ret))⟩
theorem w137_1 {O : Oracle TT} : C137_1 (fun _ => vcF (S := SS) O j137_1) f137_1 := by
 intro a1 k2 m3 lo4 hi5 p6 ps7 s8 Q R hQ h
 unfold f137_1 at h
 refine ⟨nle rfl, rfl, ?_⟩
 conv => whnf
 refine kc h (fun h => ?_) fun h => ?_
 conv => whnf
 exact ⟨[], ND 1, hQ _ (sat_some h)⟩
 conv => whnf
 exact ⟨[], ND 1, hQ _ (sat_some h)⟩
theorem c137_1 {P : Program} {fid : Nat → FuncId} (mx : MX P) (k137_1 : KF P fid 137 j137_1) : C137_1 (SP P fid) f137_1 :=
 fun a0 a1 a2 a3 a4 a5 a6 a7 Q R hQ h => spec_of_vc mx k137_1 (w137_1 a0 a1 a2 a3 a4 a5 a6 a7 Q R hQ h)
def f136_IndexFunc_L2 (s2 : BA) : PT → Nat → Option (Sum (Int) (Unit))
  | [], j46 => some (.inr ())
  | ((a51, .mk k52 m53 lo54 hi55 p56 ps57)) :: tl48, j46 => (f137_1 (a51, (Tp.mk k52 m53 lo54 hi55 p56 ps57)) s2).bind fun q59 => cond q59 (lft (some ((j46 : Nat) : Int))) (f136_IndexFunc_L2 s2 tl48 (j46 + 1))
def f136_IndexFunc : PT → BA → Option (Int)
  | l1, s2 => sbind (ο := Unit) (f136_IndexFunc_L2 s2 l1 0) (fun () => some (-1))
def C136_IndexFunc (O : Oracle TT) (m : PT → BA → Option (Int)) : Prop :=
  ∀ (l1 : PT) (s2 : BA) (Q : Int → Prop) (R : RR) (_ : ∀ (v60 : Int), Q v60 → R (.c (.int .i64 v60)) [(.x 0, some (.var [.str s2]))]) (_ : sat (m l1 s2) Q), O 136 [.c (.isl .dfn l1), .c (.fn 137 [(.x 0)])] [((.x 0), some (.var [.str s2]))] R
def j136_IndexFunc : Fn TT := ⟨19, [.t 4], (.seq (.reg [qo 4 (.mv (iC 0))]) (.cut [] [(.x 0)] (.seq (.reg [qo 6 (.mv 0),qo 7 (.len false 6),qo 8 (.mv (iC 0))]) (.block 0 (.loop (.keep [0, 1, 7, 8] [(.x 0)] (.aft (.seq (.reg [qo 9 (.bin .lss .num 8 7)]) (.seq (.cond 9 .skip (.exit 0)) (.seq (.block 1 (.seq (.reg [qo 10 (.mv 8),qo 5 (.mv 10)]) (.seq (.reg [qo 11 (.mv 1),qo 12 (.mv 0),
 qo 13 (.mv 5),qo 14 (.idxA 12 13 7),qo 15 (.load 14 7 true),qo 16 (.callv 16 11 [15])]) (.cond 16 (.seq (.reg [qo 17 (.mv 5),qo 4 (.mv 17)]) .ret) .skip)))) (.reg [qo 18 (.bin .add .num 8 (iC 1)),qo 8 (.mv 18)])))) [.keep [0, 1, 7, 8] [(.x 0)]]))))) (.seq (.reg [qo 4 (.mv (iC (-1)))]) .ret)))⟩
theorem w136_IndexFunc {O : Oracle TT} (h137_1 : C137_1 O f137_1) : C136_IndexFunc (fun _ => vcF (S := SS) O j136_IndexFunc) f136_IndexFunc := by
 intro l1 s2 Q R hQ h
 unfold f136_IndexFunc at h
 refine ⟨nle rfl, rfl, ?_⟩
 obtain ⟨R31, h, hlR31, hrR31⟩ := sat_sbind h
 conv => whnf
 refine ⟨fun σ => R31 (.inr ()) ∧ σ = ⟨[], [((.x 0), some (.var [.str s2]))]⟩, ?_, ?_⟩
 conv => whnf
 intro hl32
 conv => whnf
 refine ⟨fun σ n => ∃ (rem47 : PT) (j46 : Nat) (z : Int), n = rem47.length ∧ l1.drop j46 = rem47 ∧ z = ((j46 : Nat) : Int) ∧ sat (f136_IndexFunc_L2 s2 rem47 j46) R31 ∧ σ.keep [0, 1, 7, 8] [(.x 0)] = ⟨[(0, .c (.isl .dfn l1)), (1, .c (.fn 137 [(.x 0)])), (7, .c (.int .i64 ((l1.length : Nat) : Int))), (8, .c (.int .i64 z))], [((.x 0), some (.var [.str s2]))]⟩, ⟨_, l1, 0, _, rfl, rfl, rfl, h, rfl⟩, ?_⟩
 rintro σ n ⟨rem47, j46, _, rfl, hrem47, rfl, h, hσ⟩
 refine kk hσ ?_
 conv => whnf
 intro t50 (ht50 : t50 = decide (((j46 : Nat) : Int) < ((l1.length : Nat) : Int)))
 cases t50
 obtain rfl := ll_nil hrem47 ht50
 rw [f136_IndexFunc_L2] at h
 conv => whnf
 exact ⟨sat_some h, rfl⟩
 obtain ⟨x49, tl48, rfl, hx49, htl48⟩ := ll_cons hrem47 ht50
 obtain ⟨a51, ⟨k52, m53, lo54, hi55, p56, ps57⟩⟩ := x49
 rw [f136_IndexFunc_L2] at h
 conv => whnf
 refine ⟨lx_bd hx49, fun uu58 huu58 => ?_⟩
 obtain rfl := lx_eq hx49 huu58
 conv => whnf
 refine ⟨[(.x 0)], ?_⟩
 conv => whnf
 refine h137_1 _ _ _ _ _ _ _ _ _ _ ?_ (sat_bind h)
 rintro q59 h
 cases q59
 replace h := sat_cf h
 conv => whnf
 exact ⟨tl48.length, nls, tl48, j46 + 1, _, rfl, htl48, lx_wr hx49 hl32, h, rfl⟩
 replace h := sat_ct h
 replace h := sat_lft hlR31 h
 conv => whnf
 exact ⟨[], ND 1, hQ _ (sat_some h)⟩
 rintro _ ⟨h, rfl⟩
 replace h := hrR31 _ h
 conv => whnf
 exact ⟨[], ND 1, hQ _ (sat_some h)⟩
theorem c136_IndexFunc {P : Program} {fid : Nat → FuncId} (mx : MX P) (k136_IndexFunc : KF P fid 136 j136_IndexFunc) (h137_1 : C137_1 (SP P fid) f137_1) : C136_IndexFunc (SP P fid) f136_IndexFunc :=
 fun a0 a1 Q R hQ h => spec_of_vc mx k136_IndexFunc (w136_IndexFunc h137_1 a0 a1 Q R hQ h)
def f107_find : PT → BA → Option (Int)
  | l1, s2 => (f136_IndexFunc l1 s2).bind fun v3 => some v3
def C107_find (O : Oracle TT) (m : PT → BA → Option (Int)) : Prop :=
  ∀ (l1 : PT) (s2 : BA) (Q : Int → Prop) (R : RR) (_ : ∀ (v4 : Int), Q v4 → R (.c (.int .i64 v4)) []) (_ : sat (m l1 s2) Q), O 107 [.c (.isl .dfn l1), .c (.str s2)] [] R
def j107_find : Fn TT := ⟨8, [.t 4], (.seq (.reg [qo 3 (.box 3 1),qo 4 (.mv (iC 0))]) (.seq (.reg [qo 5 (.mv 0),qo 6 (.mkf 137 [3]),qo 7 (.call 7 136 [5, 6]),qo 4 (.mv 7)]) .ret))⟩
theorem w107_find {O : Oracle TT} (h136_IndexFunc : C136_IndexFunc O f136_IndexFunc) : C107_find (fun _ => vcF (S := SS) O j107_find) f107_find := by
 intro l1 s2 Q R hQ h
 unfold f107_find at h
 refine ⟨nle rfl, rfl, ?_⟩
 conv => whnf
 refine ⟨[(.s 3)], ?_⟩
 conv => whnf
 refine h136_IndexFunc _ _ _ _ ?_ (sat_bind h)
 rintro v3 h
 conv => whnf
 exact ⟨[], ND 0, hQ _ (sat_some h)⟩
theorem c107_find {P : Program} {fid : Nat → FuncId} (mx : MX P) (k107_find : KF P fid 107 j107_find) (h136_IndexFunc : C136_IndexFunc (SP P fid) f136_IndexFunc) : C107_find (SP P fid) f107_find :=
 fun a0 a1 Q R hQ h => spec_of_vc mx k107_find (w107_find h136_IndexFunc a0 a1 Q R hQ h)
def f133_Size_L2 (self133_Size : Tp → Option (Int)) : PT → Nat → Int → Option (Sum (Int) (Int))
  | [], j54, v58 => some (.inr v58)
  | ((a60, .mk k61 m62 lo63 hi64 p65 ps66)) :: tl56, j54, v58 => (self133_Size (Tp.mk k61 m62 lo63 hi64 p65 ps66)).bind fun v68 => f133_Size_L2 self133_Size tl56 (j54 + 1) (wrap .i64 (v58 + v68))
def b133_Size (self133_Size : Tp → Option (Int)) : Tp → Option (Int)
  | .mk k1 m2 lo3 hi4 p5 ps6 => sbind (ο := Int) (f133_Size_L2 self133_Size ps6 0 (1 : Int)) (fun v37 => some v37)
def f133_Size : Nat → Tp → Option (Int)
  | 0 => fun _ => none
  | n + 1 => b133_Size (f133_Size n)
def C133_Size (O : Oracle TT) (m : Tp → Option (Int)) : Prop :=
  ∀ (k1 : Int) (m2 : BA) (lo3 : Int) (hi4 : Int) (p5 : BA) (ps6 : PT) (Q : Int → Prop) (R : RR) (_ : ∀ (v69 : Int), Q v69 → R (.c (.int .i64 v69)) []) (_ : sat (m (Tp.mk k1 m2 lo3 hi4 p5 ps6)) Q), O 133 [.agg [.int .i64 k1, .str m2, .int .i64 lo3, .int .i64 hi4, .str p5, .isl .part ps6]] [] R
def j133_Size : Fn TT := ⟨20, [.t 2], (.seq (.reg [qo 1 (.box 1 0),qo 2 (.mv (iC 0))]) (.seq (.reg [qo 3 (.mv (iC 1))]) (.cut [3] [] (.seq (.reg [qo 6 (.fa 1 5),qo 7 (.load 6 1 false),qo 8 (.len false 7),qo 9 (.mv (iC 0))]) (.block 0 (.loop (.keep [3, 7, 8, 9] [] (.aft (.seq (.reg [qo 10 (.bin .lss .num 9 8)]) (.seq (.cond 10 .skip (.exit 0)) (.seq (.block 1 (.seq (.reg [qo 11 (.idxA 7 9 7),
 qo 12 (.load 11 7 true),qo 5 (.alloc 5 [.str (⟨#[]⟩ : BA), .int .i64 0, .str (⟨#[]⟩ : BA), .int .i64 0, .int .i64 0, .str (⟨#[]⟩ : BA), .isl .part []]),qp (.store 5 12 7)]) (.reg [qo 13 (.mv 3),qo 14 (.fa 5 1),qo 15 (.load 14 6 true),qo 16 (.call 16 133 [15]),qo 17 (.bin .add .num 13 16),qo 3 (.mv 17)]))) (.reg [qo 18 (.bin .add .num 9 (iC 1)),
 qo 9 (.mv 18)])))) [.keep [3, 7, 8, 9] []]))))) (.seq (.reg [qo 19 (.mv 3),qo 2 (.mv 19)]) .ret))))⟩
theorem w133_Size {O : Oracle TT} (self133_Size : Tp → Option (Int)) (h133_Size : C133_Size O self133_Size) : C133_Size (fun _ => vcF (S := SS) O j133_Size) (b133_Size self133_Size) := by
 intro k1 m2 lo3 hi4 p5 ps6 Q R hQ h
 unfold b133_Size at h
 refine ⟨nle rfl, rfl, ?_⟩
 obtain ⟨R38, h, hlR38, hrR38⟩ := sat_sbind h
 conv => whnf
 refine ⟨fun σ => ∃ (v37 : Int), R38 (.inr v37) ∧ σ = ⟨[(3, .c (.int .i64 v37))], []⟩, ?_, ?_⟩
 conv => whnf
 intro hl39
 conv => whnf
 refine ⟨fun σ n => ∃ (rem55 : PT) (j54 : Nat) (z : Int) (v58 : Int), n = rem55.length ∧ ps6.drop j54 = rem55 ∧ z = ((j54 : Nat) : Int) ∧ sat (f133_Size_L2 self133_Size rem55 j54 v58) R38 ∧ σ.keep [3, 7, 8, 9] [] = ⟨[(3, .c (.int .i64 v58)), (7, .c (.isl .part ps6)), (8, .c (.int .i64 ((ps6.length : Nat) : Int))), (9, .c (.int .i64 z))], []⟩, ⟨_, ps6, 0, _, (1 : Int), rfl, rfl, rfl, h, rfl⟩, ?_⟩
 rintro σ n ⟨rem55, j54, _, v58, rfl, hrem55, rfl, h, hσ⟩
 refine kk hσ ?_
 conv => whnf
 intro t59 (ht59 : t59 = decide (((j54 : Nat) : Int) < ((ps6.length : Nat) : Int)))
 cases t59
 obtain rfl := ll_nil hrem55 ht59
 rw [f133_Size_L2] at h
 conv => whnf
 exact ⟨v58, sat_some h, rfl⟩
 obtain ⟨x57, tl56, rfl, hx57, htl56⟩ := ll_cons hrem55 ht59
 obtain ⟨a60, ⟨k61, m62, lo63, hi64, p65, ps66⟩⟩ := x57
 rw [f133_Size_L2] at h
 conv => whnf
 refine ⟨lx_bd hx57, fun uu67 huu67 => ?_⟩
 obtain rfl := lx_eq hx57 huu67
 conv => whnf
 refine ⟨[], ?_⟩
 conv => whnf
 refine h133_Size _ _ _ _ _ _ _ _ ?_ (sat_bind h)
 rintro v68 h
 conv => whnf
 exact ⟨tl56.length, nls, tl56, j54 + 1, _, (wrap .i64 (v58 + v68)), rfl, htl56, lx_wr hx57 hl39, h, rfl⟩
 rintro _ ⟨v37, h, rfl⟩
 replace h := hrR38 _ h
 conv => whnf
 exact ⟨[], ND 0, hQ _ (sat_some h)⟩
theorem cg133_Size {P : Program} {fid : Nat → FuncId} (mx : MX P) (k133_Size : KF P fid 133 j133_Size) : ∀ n, C133_Size (SP P fid) (f133_Size n) := by
 intro n
 induction n with
 | zero => exact fun a0 a1 a2 a3 a4 a5 Q R hQ h => (sat_none h).elim
 | succ n ih =>
  have ih0 := ih
  exact fun a0 a1 a2 a3 a4 a5 Q R hQ h => spec_of_vc mx k133_Size (w133_Size (f133_Size n) ih0 a0 a1 a2 a3 a4 a5 Q R hQ h)
theorem c133_Size {P : Program} {fid : Nat → FuncId} (mx : MX P) (k133_Size : KF P fid 133 j133_Size) : ∀ n, C133_Size (SP P fid) (f133_Size n) := fun n => (cg133_Size mx k133_Size n)
def f134_Deep_L2 (self134_Deep : Tp → Option (Int)) : PT → Nat → Int → Option (Sum (Int) (Int))
  | [], j54, v58 => some (.inr v58)
  | ((a60, .mk k61 m62 lo63 hi64 p65 ps66)) :: tl56, j54, v58 => (self134_Deep (Tp.mk k61 m62 lo63 hi64 p65 ps66)).bind fun v68 => f134_Deep_L2 self134_Deep tl56 (j54 + 1) (if v68 > v58 then v68 else v58)
def b134_Deep (self134_Deep : Tp → Option (Int)) : Tp → Option (Int)
  | .mk k1 m2 lo3 hi4 p5 ps6 => sbind (ο := Int) (f134_Deep_L2 self134_Deep ps6 0 (0 : Int)) (fun v37 => some (wrap .i64 (v37 + 1)))
def f134_Deep : Nat → Tp → Option (Int)
  | 0 => fun _ => none
  | n + 1 => b134_Deep (f134_Deep n)
def C134_Deep (O : Oracle TT) (m : Tp → Option (Int)) : Prop :=
  ∀ (k1 : Int) (m2 : BA) (lo3 : Int) (hi4 : Int) (p5 : BA) (ps6 : PT) (Q : Int → Prop) (R : RR) (_ : ∀ (v69 : Int), Q v69 → R (.c (.int .i64 v69)) []) (_ : sat (m (Tp.mk k1 m2 lo3 hi4 p5 ps6)) Q), O 134 [.agg [.int .i64 k1, .str m2, .int .i64 lo3, .int .i64 hi4, .str p5, .isl .part ps6]] [] R
def j134_Deep : Fn TT := ⟨21, [.t 2], (.seq (.reg [qo 1 (.box 1 0),qo 2 (.mv (iC 0))]) (.seq (.reg [qo 3 (.mv (iC 0))]) (.cut [3] [] (.seq (.reg [qo 6 (.fa 1 5),qo 7 (.load 6 1 false),qo 8 (.len false 7),qo 9 (.mv (iC 0))]) (.block 0 (.loop (.keep [3, 7, 8, 9] [] (.aft (.seq (.reg [qo 10 (.bin .lss .num 9 8)]) (.seq (.cond 10 .skip (.exit 0)) (.seq (.block 1 (.seq (.reg [qo 11 (.idxA 7 9 7),
 qo 12 (.load 11 7 true),qo 5 (.alloc 5 [.str (⟨#[]⟩ : BA), .int .i64 0, .str (⟨#[]⟩ : BA), .int .i64 0, .int .i64 0, .str (⟨#[]⟩ : BA), .isl .part []]),qp (.store 5 12 7)]) (.reg [qo 13 (.mv 3),qo 14 (.fa 5 1),qo 15 (.load 14 6 true),qo 16 (.call 16 134 [15]),qo 17 (.mx [13, 16]),qo 3 (.mv 17)]))) (.reg [qo 18 (.bin .add .num 9 (iC 1)),
 qo 9 (.mv 18)])))) [.keep [3, 7, 8, 9] []]))))) (.seq (.reg [qo 19 (.mv 3),qo 20 (.bin .add .num 19 (iC 1)),qo 2 (.mv 20)]) .ret))))⟩
theorem w134_Deep {O : Oracle TT} (self134_Deep : Tp → Option (Int)) (h134_Deep : C134_Deep O self134_Deep) : C134_Deep (fun _ => vcF (S := SS) O j134_Deep) (b134_Deep self134_Deep) := by
 intro k1 m2 lo3 hi4 p5 ps6 Q R hQ h
 unfold b134_Deep at h
 refine ⟨nle rfl, rfl, ?_⟩
 obtain ⟨R38, h, hlR38, hrR38⟩ := sat_sbind h
 conv => whnf
 refine ⟨fun σ => ∃ (v37 : Int), R38 (.inr v37) ∧ σ = ⟨[(3, .c (.int .i64 v37))], []⟩, ?_, ?_⟩
 conv => whnf
 intro hl39
 conv => whnf
 refine ⟨fun σ n => ∃ (rem55 : PT) (j54 : Nat) (z : Int) (v58 : Int), n = rem55.length ∧ ps6.drop j54 = rem55 ∧ z = ((j54 : Nat) : Int) ∧ sat (f134_Deep_L2 self134_Deep rem55 j54 v58) R38 ∧ σ.keep [3, 7, 8, 9] [] = ⟨[(3, .c (.int .i64 v58)), (7, .c (.isl .part ps6)), (8, .c (.int .i64 ((ps6.length : Nat) : Int))), (9, .c (.int .i64 z))], []⟩, ⟨_, ps6, 0, _, (0 : Int), rfl, rfl, rfl, h, rfl⟩, ?_⟩
 rintro σ n ⟨rem55, j54, _, v58, rfl, hrem55, rfl, h, hσ⟩
 refine kk hσ ?_
 conv => whnf
 intro t59 (ht59 : t59 = decide (((j54 : Nat) : Int) < ((ps6.length : Nat) : Int)))
 cases t59
 obtain rfl := ll_nil hrem55 ht59
 rw [f134_Deep_L2] at h
 conv => whnf
 exact ⟨v58, sat_some h, rfl⟩
 obtain ⟨x57, tl56, rfl, hx57, htl56⟩ := ll_cons hrem55 ht59
 obtain ⟨a60, ⟨k61, m62, lo63, hi64, p65, ps66⟩⟩ := x57
 rw [f134_Deep_L2] at h
 conv => whnf
 refine ⟨lx_bd hx57, fun uu67 huu67 => ?_⟩
 obtain rfl := lx_eq hx57 huu67
 conv => whnf
 refine ⟨[], ?_⟩
 conv => whnf
 refine h134_Deep _ _ _ _ _ _ _ _ ?_ (sat_bind h)
 rintro v68 h
 conv => whnf
 exact ⟨tl56.length, nls, tl56, j54 + 1, _, (if v68 > v58 then v68 else v58), rfl, htl56, lx_wr hx57 hl39, h, rfl⟩
 rintro _ ⟨v37, h, rfl⟩
 replace h := hrR38 _ h
 conv => whnf
 exact ⟨[], ND 0, hQ _ (sat_some h)⟩
theorem cg134_Deep {P : Program} {fid : Nat → FuncId} (mx : MX P) (k134_Deep : KF P fid 134 j134_Deep) : ∀ n, C134_Deep (SP P fid) (f134_Deep n) := by
 intro n
 induction n with
 | zero => exact fun a0 a1 a2 a3 a4 a5 Q R hQ h => (sat_none h).elim
 | succ n ih =>
  have ih0 := ih
  exact fun a0 a1 a2 a3 a4 a5 Q R hQ h => spec_of_vc mx k134_Deep (w134_Deep (f134_Deep n) ih0 a0 a1 a2 a3 a4 a5 Q R hQ h)
theorem c134_Deep {P : Program} {fid : Nat → FuncId} (mx : MX P) (k134_Deep : KF P fid 134 j134_Deep) : ∀ n, C134_Deep (SP P fid) (f134_Deep n) := fun n => (cg134_Deep mx k134_Deep n)
def f165_bounds : Int → Option (Int × Int)
  | v1 => cond (v1 == 1) (some (0, 1)) (cond (v1 == 2) (some ((-9007199254740992), 9007199254740992)) (cond (v1 == 4) (some (0, 4194304)) (cond (v1 == 8) (some (0, 200)) (cond (v1 == 9) (some (0, 200)) (some (0, 0))))))
def C165_bounds (O : Oracle TT) (m : Int → Option (Int × Int)) : Prop :=
  ∀ (v1 : Int) (Q : (Int × Int) → Prop) (R : RR) (_ : ∀ (v7 : Int) (v8 : Int), Q (v7, v8) → R (.tup [.c (.int .i64 v7), .c (.int .i64 v8)]) []) (_ : sat (m v1) Q), O 165 [.c (.int .i64 v1)] [] R
def j165_bounds : Fn TT := ⟨14, [.t 2, .t 3], (.seq (.reg [qo 2 (.mv (iC 0)),qo 3 (.mv (iC 0))]) (.seq (.seq (.reg [qo 4 (.mv 0)]) (.block 0 (.seq (.reg [qo 6 (.bin .eql .num 4 (iC 1)),qo 5 (.mv 6)]) (.cond 5 (.seq (.reg [qo 2 (.mv (iC 0)),qo 3 (.mv (iC 1))]) .ret) (.seq (.reg [qo 8 (.bin .eql .num 4 (iC 2)),qo 7 (.mv 8)]) (.cond 7 (.seq (.reg [qo 2 (.mv (iC (-9007199254740992))),
 qo 3 (.mv (iC 9007199254740992))]) .ret) (.seq (.reg [qo 10 (.bin .eql .num 4 (iC 4)),qo 9 (.mv 10)]) (.cond 9 (.seq (.reg [qo 2 (.mv (iC 0)),qo 3 (.mv (iC 4194304))]) .ret) (.seq (.seq (.reg [qo 12 (.bin .eql .num 4 (iC 8)),qo 11 (.mv 12)]) (.cond 11 .skip (.reg [qo 13 (.bin .eql .num 4 (iC 9)),qo 11 (.mv 13)]))) (.cond 11 (.seq (.reg [qo 2 (.mv (iC 0)),qo 3 (.mv (iC 200))]) .ret)
 .skip)))))))))) (.seq (.reg [qo 2 (.mv (iC 0)),qo 3 (.mv (iC 0))]) .ret)))⟩
theorem w165_bounds {O : Oracle TT} : C165_bounds (fun _ => vcF (S := SS) O j165_bounds) f165_bounds := by
 intro v1 Q R hQ h
 unfold f165_bounds at h
 refine ⟨nle rfl, rfl, ?_⟩
 conv => whnf
 refine kc h (fun h => ?_) fun h => ?_
 conv => whnf
 refine kc h (fun h => ?_) fun h => ?_
 conv => whnf
 refine kc h (fun h => ?_) fun h => ?_
 conv => whnf
 refine kc h (fun h => ?_) fun h => ?_
 conv => whnf
 refine kc h (fun h => ?_) fun h => ?_
 conv => whnf
 exact ⟨[], ND 0, hQ _ _ (sat_some h)⟩
 conv => whnf
 exact ⟨[], ND 0, hQ _ _ (sat_some h)⟩
 conv => whnf
 exact ⟨[], ND 0, hQ _ _ (sat_some h)⟩
 conv => whnf
 exact ⟨[], ND 0, hQ _ _ (sat_some h)⟩
 conv => whnf
 exact ⟨[], ND 0, hQ _ _ (sat_some h)⟩
 conv => whnf
 exact ⟨[], ND 0, hQ _ _ (sat_some h)⟩
theorem c165_bounds {P : Program} {fid : Nat → FuncId} (mx : MX P) (k165_bounds : KF P fid 165 j165_bounds) : C165_bounds (SP P fid) f165_bounds :=
 fun a0 Q R hQ h => spec_of_vc mx k165_bounds (w165_bounds a0 Q R hQ h)
def f166_unused : Tp → Option (Bool)
  | .mk k1 m2 lo3 hi4 p5 ps6 => sbind (ο := Bool) (cond (k1 == 1) (some (.inr true)) (cond (k1 == 2) (some (.inr true)) (some (.inr false)))) (fun q9 => sbind (ο := Bool) (cond q9 (some (.inr true)) (cond (k1 == 4) (some (.inr true)) (some (.inr false)))) (fun q14 => sbind (ο := Bool) (cond q14 (some (.inr true)) (cond (k1 == 8) (some (.inr true)) (some (.inr false)))) (fun q18 => sbind (ο := Bool) (cond q18 (some (.inr true)) (cond (k1 == 9) (some (.inr true)) (some (.inr false)))) (fun q22 => cond (decide (k1 ≥ 6)) (cond (decide (k1 ≤ 9)) (sbind (ο := Bool) (cond q22 (some (.inr false)) (cond (lo3 != 0) (some (.inr true)) (cond (hi4 != 0) (some (.inr true)) (some (.inr false))))) (fun q81 => sbind (ο := Bool) (cond q81 (some (.inr true)) (cond (k1 != 5) (cond (k1 != 9) (cond (!(p5.toList == (⟨#[]⟩ : BA).toList)) (some (.inr true)) (some (.inr false))) (some (.inr false))) (some (.inr false)))) (fun q88 => sbind (ο := Bool) (cond q88 (some (.inr true)) (some (.inr false))) (fun q93 => sbind (ο := Bool) (cond q93 (some (.inr true)) (cond (k1 != 10) (cond (!(m2.toList == (⟨#[]⟩ : BA).toList)) (some (.inr true)) (some (.inr false))) (some (.inr false)))) (fun q97 => some q97))))) (sbind (ο := Bool) (cond q22 (some (.inr false)) (cond (lo3 != 0) (some (.inr true)) (cond (hi4 != 0) (some (.inr true)) (some (.inr false))))) (fun q55 => sbind (ο := Bool) (cond q55 (some (.inr true)) (cond (k1 != 5) (cond (k1 != 9) (cond (!(p5.toList == (⟨#[]⟩ : BA).toList)) (some (.inr true)) (some (.inr false))) (some (.inr false))) (some (.inr false)))) (fun q62 => sbind (ο := Bool) (cond q62 (some (.inr true)) (cond (decide (((ps6.length : Nat) : Int) > 0)) (some (.inr true)) (some (.inr false)))) (fun q69 => sbind (ο := Bool) (cond q69 (some (.inr true)) (cond (k1 != 10) (cond (!(m2.toList == (⟨#[]⟩ : BA).toList)) (some (.inr true)) (some (.inr false))) (some (.inr false)))) (fun q75 => some q75)))))) (sbind (ο := Bool) (cond q22 (some (.inr false)) (cond (lo3 != 0) (some (.inr true)) (cond (hi4 != 0) (some (.inr true)) (some (.inr false))))) (fun q28 => sbind (ο := Bool) (cond q28 (some (.inr true)) (cond (k1 != 5) (cond (k1 != 9) (cond (!(p5.toList == (⟨#[]⟩ : BA).toList)) (some (.inr true)) (some (.inr false))) (some (.inr false))) (some (.inr false)))) (fun q35 => sbind (ο := Bool) (cond q35 (some (.inr true)) (cond (decide (((ps6.length : Nat) : Int) > 0)) (some (.inr true)) (some (.inr false)))) (fun q42 => sbind (ο := Bool) (cond q42 (some (.inr true)) (cond (k1 != 10) (cond (!(m2.toList == (⟨#[]⟩ : BA).toList)) (some (.inr true)) (some (.inr false))) (some (.inr false)))) (fun q48 => some q48)))))))))
def C166_unused (O : Oracle TT) (m : Tp → Option (Bool)) : Prop :=
  ∀ (k1 : Int) (m2 : BA) (lo3 : Int) (hi4 : Int) (p5 : BA) (ps6 : PT) (Q : Bool → Prop) (R : RR) (_ : ∀ (q101 : Bool), Q q101 → R (.c (.bool q101)) []) (_ : sat (m (Tp.mk k1 m2 lo3 hi4 p5 ps6)) Q), O 166 [.agg [.int .i64 k1, .str m2, .int .i64 lo3, .int .i64 hi4, .str p5, .isl .part ps6]] [] R
def j166_unused : Fn TT := ⟨83, [.t 2], (.seq (.reg [qo 1 (.box 1 0),qo 2 (.mv bF)]) (.seq (.regc [([qo 5 (.fa 1 0),qo 6 (.load 5 1 false),qo 7 (.bin .eql .num 6 (iC 1)),qo 8 (.mv 7),qf 8 9 (.fa 1 0),qf 8 10 (.load 9 1 false),qf 8 11 (.bin .eql .num 10 (iC 2)),qo 12 (.pick 8 bT 11)], [1, 12], [(.s 1)]), ([qo 13 (.mv 12),qf 13 14 (.fa 1 0),qf 13 15 (.load 14 1 false),
 qf 13 16 (.bin .eql .num 15 (iC 4)),qo 17 (.pick 13 bT 16)], [1, 17], [(.s 1)]), ([qo 18 (.mv 17),qf 18 19 (.fa 1 0),qf 18 20 (.load 19 1 false),qf 18 21 (.bin .eql .num 20 (iC 8)),qo 22 (.pick 18 bT 21)], [1, 22], [(.s 1)]), ([qo 23 (.mv 22),qf 23 24 (.fa 1 0),qf 23 25 (.load 24 1 false),qf 23 26 (.bin .eql .num 25 (iC 9)),qo 27 (.pick 23 bT 26)], [1, 27], [(.s 1)])] [qo 3 (.mv 27)])
 (.seq (.reg [qo 28 (.fa 1 0),qo 29 (.load 28 1 false),qo 30 (.bin .geq .num 29 (iC 6)),qo 31 (.mv 30),qg 31 32 (.fa 1 0),qg 31 33 (.load 32 1 false),qg 31 34 (.bin .leq .num 33 (iC 9)),qo 35 (.pick 31 34 bF),qo 4 (.mv 35)]) (.seq (.regc [([qo 36 (.mv 3),qo 37 (.un .not 36),qo 38 (.mv 37),qg 38 39 (.fa 1 2),qg 38 40 (.load 39 1 false),qg 38 41 (.bin .neq .num 40 (iC 0)),
 qg 38 42 (.mv 41),qf 42 43 (.fa 1 3),qf 42 44 (.load 43 1 false),qf 42 45 (.bin .neq .num 44 (iC 0)),qg 38 46 (.pick 42 bT 45),qo 47 (.pick 38 46 bF)], [1, 4, 47], [(.s 1)]), ([qo 48 (.mv 47),qf 48 49 (.fa 1 0),qf 48 50 (.load 49 1 false),qf 48 51 (.bin .neq .num 50 (iC 5)),qf 48 52 (.mv 51),qg 52 53 (.fa 1 0),qg 52 54 (.load 53 1 false),qg 52 55 (.bin .neq .num 54 (iC 9)),
 qf 48 56 (.pick 52 55 bF),qf 48 57 (.mv 56),qg 57 58 (.fa 1 4),qg 57 59 (.load 58 1 false),qg 57 60 (.bin .neq .str 59 (.c (.str (⟨#[]⟩ : BA)))),qf 48 61 (.pick 57 60 bF),qo 62 (.pick 48 bT 61)], [1, 4, 62], [(.s 1)]), ([qo 63 (.mv 62),qf 63 64 (.mv 4),qf 63 65 (.un .not 64),qf 63 66 (.mv 65),qg 66 67 (.fa 1 5),qg 66 68 (.load 67 1 false),qg 66 69 (.len false 68),
 qg 66 70 (.bin .gtr .num 69 (iC 0)),qf 63 71 (.pick 66 70 bF),qo 72 (.pick 63 bT 71)], [1, 72], [(.s 1)]), ([qo 73 (.mv 72),qf 73 74 (.fa 1 0),qf 73 75 (.load 74 1 false),qf 73 76 (.bin .neq .num 75 (iC 10)),qf 73 77 (.mv 76),qg 77 78 (.fa 1 1),qg 77 79 (.load 78 1 false),qg 77 80 (.bin .neq .str 79 (.c (.str (⟨#[]⟩ : BA)))),qf 73 81 (.pick 77 80 bF),
 qo 82 (.pick 73 bT 81)], [82], [])] [qo 2 (.mv 82)]) .ret))))⟩
theorem w166_unused {O : Oracle TT} : C166_unused (fun _ => vcF (S := SS) O j166_unused) f166_unused := by
 intro k1 m2 lo3 hi4 p5 ps6 Q R hQ h
 unfold f166_unused at h
 refine ⟨nle rfl, rfl, ?_⟩
 obtain ⟨R10, h, hlR10, hrR10⟩ := sat_sbind h
 conv => whnf
 refine ⟨fun σ => ∃ (q9 : Bool), R10 (.inr q9) ∧ σ = ⟨[(1, .c (.ptr (.s 1) 0 0)), (12, .c (.bool q9))], [((.s 1), some (.var [.int .i64 k1, .str m2, .int .i64 lo3, .int .i64 hi4, .str p5, .isl .part ps6]))]⟩, ?_, ?_⟩
 conv => whnf
 refine kc h (fun h => ?_) fun h => ?_
 conv => whnf
 refine kc h (fun h => ?_) fun h => ?_
 conv => whnf
 exact ⟨false, sat_some h, rfl⟩
 conv => whnf
 exact ⟨true, sat_some h, rfl⟩
 conv => whnf
 exact ⟨true, sat_some h, rfl⟩
 rintro _ ⟨q9, h, rfl⟩
 replace h := hrR10 _ h
 obtain ⟨R15, h, hlR15, hrR15⟩ := sat_sbind h
 conv => whnf
 refine ⟨fun σ => ∃ (q14 : Bool), R15 (.inr q14) ∧ σ = ⟨[(1, .c (.ptr (.s 1) 0 0)), (17, .c (.bool q14))], [((.s 1), some (.var [.int .i64 k1, .str m2, .int .i64 lo3, .int .i64 hi4, .str p5, .isl .part ps6]))]⟩, ?_, ?_⟩
 cases q9
 replace h := sat_cf h
 conv => whnf
 refine kc h (fun h => ?_) fun h => ?_
 conv => whnf
 exact ⟨false, sat_some h, rfl⟩
 conv => whnf
 exact ⟨true, sat_some h, rfl⟩
 replace h := sat_ct h
 conv => whnf
 exact ⟨true, sat_some h, rfl⟩
 rintro _ ⟨q14, h, rfl⟩
 replace h := hrR15 _ h
 obtain ⟨R19, h, hlR19, hrR19⟩ := sat_sbind h
 conv => whnf
 refine ⟨fun σ => ∃ (q18 : Bool), R19 (.inr q18) ∧ σ = ⟨[(1, .c (.ptr (.s 1) 0 0)), (22, .c (.bool q18))], [((.s 1), some (.var [.int .i64 k1, .str m2, .int .i64 lo3, .int .i64 hi4, .str p5, .isl .part ps6]))]⟩, ?_, ?_⟩
 cases q14
 replace h := sat_cf h
 conv => whnf
 refine kc h (fun h => ?_) fun h => ?_
 conv => whnf
 exact ⟨false, sat_some h, rfl⟩
 conv => whnf
 exact ⟨true, sat_some h, rfl⟩
 replace h := sat_ct h
 conv => whnf
 exact ⟨true, sat_some h, rfl⟩
 rintro _ ⟨q18, h, rfl⟩
 replace h := hrR19 _ h
 obtain ⟨R23, h, hlR23, hrR23⟩ := sat_sbind h
 conv => whnf
 refine ⟨fun σ => ∃ (q22 : Bool), R23 (.inr q22) ∧ σ = ⟨[(1, .c (.ptr (.s 1) 0 0)), (27, .c (.bool q22))], [((.s 1), some (.var [.int .i64 k1, .str m2, .int .i64 lo3, .int .i64 hi4, .str p5, .isl .part ps6]))]⟩, ?_, ?_⟩
 cases q18
 replace h := sat_cf h
 conv => whnf
 refine kc h (fun h => ?_) fun h => ?_
 conv => whnf
 exact ⟨false, sat_some h, rfl⟩
 conv => whnf
 exact ⟨true, sat_some h, rfl⟩
 replace h := sat_ct h
 conv => whnf
 exact ⟨true, sat_some h, rfl⟩
 rintro _ ⟨q22, h, rfl⟩
 replace h := hrR23 _ h
 conv => whnf
 refine kc h (fun h => ?_) fun h => ?_
 obtain ⟨R29, h, hlR29, hrR29⟩ := sat_sbind h
 conv => whnf
 refine ⟨fun σ => ∃ (q28 : Bool), R29 (.inr q28) ∧ σ = ⟨[(1, .c (.ptr (.s 1) 0 0)), (4, .c (.bool false)), (47, .c (.bool q28))], [((.s 1), some (.var [.int .i64 k1, .str m2, .int .i64 lo3, .int .i64 hi4, .str p5, .isl .part ps6]))]⟩, ?_, ?_⟩
 cases q22
 replace h := sat_cf h
 conv => whnf
 refine kc h (fun h => ?_) fun h => ?_
 conv => whnf
 refine kc h (fun h => ?_) fun h => ?_
 conv => whnf
 exact ⟨false, sat_some h, rfl⟩
 conv => whnf
 exact ⟨true, sat_some h, rfl⟩
 conv => whnf
 exact ⟨true, sat_some h, rfl⟩
 replace h := sat_ct h
 conv => whnf
 exact ⟨false, sat_some h, rfl⟩
 rintro _ ⟨q28, h, rfl⟩
 replace h := hrR29 _ h
 obtain ⟨R36, h, hlR36, hrR36⟩ := sat_sbind h
 conv => whnf
 refine ⟨fun σ => ∃ (q35 : Bool), R36 (.inr q35) ∧ σ = ⟨[(1, .c (.ptr (.s 1) 0 0)), (4, .c (.bool false)), (62, .c (.bool q35))], [((.s 1), some (.var [.int .i64 k1, .str m2, .int .i64 lo3, .int .i64 hi4, .str p5, .isl .part ps6]))]⟩, ?_, ?_⟩
 cases q28
 replace h := sat_cf h
 conv => whnf
 refine kc h (fun h => ?_) fun h => ?_
 conv => whnf
 exact ⟨false, sat_some h, rfl⟩
 conv => whnf
 refine kc h (fun h => ?_) fun h => ?_
 conv => whnf
 exact ⟨false, sat_some h, rfl⟩
 conv => whnf
 refine kc h (fun h => ?_) fun h => ?_
 conv => whnf
 exact ⟨false, sat_some h, rfl⟩
 conv => whnf
 exact ⟨true, sat_some h, rfl⟩
 replace h := sat_ct h
 conv => whnf
 exact ⟨true, sat_some h, rfl⟩
 rintro _ ⟨q35, h, rfl⟩
 replace h := hrR36 _ h
 obtain ⟨R43, h, hlR43, hrR43⟩ := sat_sbind h
 conv => whnf
 refine ⟨fun σ => ∃ (q42 : Bool), R43 (.inr q42) ∧ σ = ⟨[(1, .c (.ptr (.s 1) 0 0)), (72, .c (.bool q42))], [((.s 1), some (.var [.int .i64 k1, .str m2, .int .i64 lo3, .int .i64 hi4, .str p5, .isl .part ps6]))]⟩, ?_, ?_⟩
 cases q35
 replace h := sat_cf h
 conv => whnf
 intro hl44
 conv => whnf
 refine kc h (fun h => ?_) fun h => ?_
 conv => whnf
 exact ⟨false, sat_some h, rfl⟩
 conv => whnf
 exact ⟨true, sat_some h, rfl⟩
 replace h := sat_ct h
 conv => whnf
 exact ⟨true, sat_some h, rfl⟩
 rintro _ ⟨q42, h, rfl⟩
 replace h := hrR43 _ h
 obtain ⟨R49, h, hlR49, hrR49⟩ := sat_sbind h
 conv => whnf
 refine ⟨fun σ => ∃ (q48 : Bool), R49 (.inr q48) ∧ σ = ⟨[(82, .c (.bool q48))], []⟩, ?_, ?_⟩
 cases q42
 replace h := sat_cf h
 conv => whnf
 refine kc h (fun h => ?_) fun h => ?_
 conv => whnf
 exact ⟨false, sat_some h, rfl⟩
 conv => whnf
 refine kc h (fun h => ?_) fun h => ?_
 conv => whnf
 exact ⟨false, sat_some h, rfl⟩
 conv => whnf
 exact ⟨true, sat_some h, rfl⟩
 replace h := sat_ct h
 conv => whnf
 exact ⟨true, sat_some h, rfl⟩
 rintro _ ⟨q48, h, rfl⟩
 replace h := hrR49 _ h
 conv => whnf
 exact ⟨[], ND 0, hQ _ (sat_some h)⟩
 conv => whnf
 refine kc h (fun h => ?_) fun h => ?_
 obtain ⟨R56, h, hlR56, hrR56⟩ := sat_sbind h
 conv => whnf
 refine ⟨fun σ => ∃ (q55 : Bool), R56 (.inr q55) ∧ σ = ⟨[(1, .c (.ptr (.s 1) 0 0)), (4, .c (.bool false)), (47, .c (.bool q55))], [((.s 1), some (.var [.int .i64 k1, .str m2, .int .i64 lo3, .int .i64 hi4, .str p5, .isl .part ps6]))]⟩, ?_, ?_⟩
 cases q22
 replace h := sat_cf h
 conv => whnf
 refine kc h (fun h => ?_) fun h => ?_
 conv => whnf
 refine kc h (fun h => ?_) fun h => ?_
 conv => whnf
 exact ⟨false, sat_some h, rfl⟩
 conv => whnf
 exact ⟨true, sat_some h, rfl⟩
 conv => whnf
 exact ⟨true, sat_some h, rfl⟩
 replace h := sat_ct h
 conv => whnf
 exact ⟨false, sat_some h, rfl⟩
 rintro _ ⟨q55, h, rfl⟩
 replace h := hrR56 _ h
 obtain ⟨R63, h, hlR63, hrR63⟩ := sat_sbind h
 conv => whnf
 refine ⟨fun σ => ∃ (q62 : Bool), R63 (.inr q62) ∧ σ = ⟨[(1, .c (.ptr (.s 1) 0 0)), (4, .c (.bool false)), (62, .c (.bool q62))], [((.s 1), some (.var [.int .i64 k1, .str m2, .int .i64 lo3, .int .i64 hi4, .str p5, .isl .part ps6]))]⟩, ?_, ?_⟩
 cases q55
 replace h := sat_cf h
 conv => whnf
 refine kc h (fun h => ?_) fun h => ?_
 conv => whnf
 exact ⟨false, sat_some h, rfl⟩
 conv => whnf
 refine kc h (fun h => ?_) fun h => ?_
 conv => whnf
 exact ⟨false, sat_some h, rfl⟩
 conv => whnf
 refine kc h (fun h => ?_) fun h => ?_
 conv => whnf
 exact ⟨false, sat_some h, rfl⟩
 conv => whnf
 exact ⟨true, sat_some h, rfl⟩
 replace h := sat_ct h
 conv => whnf
 exact ⟨true, sat_some h, rfl⟩
 rintro _ ⟨q62, h, rfl⟩
 replace h := hrR63 _ h
 obtain ⟨R70, h, hlR70, hrR70⟩ := sat_sbind h
 conv => whnf
 refine ⟨fun σ => ∃ (q69 : Bool), R70 (.inr q69) ∧ σ = ⟨[(1, .c (.ptr (.s 1) 0 0)), (72, .c (.bool q69))], [((.s 1), some (.var [.int .i64 k1, .str m2, .int .i64 lo3, .int .i64 hi4, .str p5, .isl .part ps6]))]⟩, ?_, ?_⟩
 cases q62
 replace h := sat_cf h
 conv => whnf
 intro hl71
 conv => whnf
 refine kc h (fun h => ?_) fun h => ?_
 conv => whnf
 exact ⟨false, sat_some h, rfl⟩
 conv => whnf
 exact ⟨true, sat_some h, rfl⟩
 replace h := sat_ct h
 conv => whnf
 exact ⟨true, sat_some h, rfl⟩
 rintro _ ⟨q69, h, rfl⟩
 replace h := hrR70 _ h
 obtain ⟨R76, h, hlR76, hrR76⟩ := sat_sbind h
 conv => whnf
 refine ⟨fun σ => ∃ (q75 : Bool), R76 (.inr q75) ∧ σ = ⟨[(82, .c (.bool q75))], []⟩, ?_, ?_⟩
 cases q69
 replace h := sat_cf h
 conv => whnf
 refine kc h (fun h => ?_) fun h => ?_
 conv => whnf
 exact ⟨false, sat_some h, rfl⟩
 conv => whnf
 refine kc h (fun h => ?_) fun h => ?_
 conv => whnf
 exact ⟨false, sat_some h, rfl⟩
 conv => whnf
 exact ⟨true, sat_some h, rfl⟩
 replace h := sat_ct h
 conv => whnf
 exact ⟨true, sat_some h, rfl⟩
 rintro _ ⟨q75, h, rfl⟩
 replace h := hrR76 _ h
 conv => whnf
 exact ⟨[], ND 0, hQ _ (sat_some h)⟩
 obtain ⟨R82, h, hlR82, hrR82⟩ := sat_sbind h
 conv => whnf
 refine ⟨fun σ => ∃ (q81 : Bool), R82 (.inr q81) ∧ σ = ⟨[(1, .c (.ptr (.s 1) 0 0)), (4, .c (.bool true)), (47, .c (.bool q81))], [((.s 1), some (.var [.int .i64 k1, .str m2, .int .i64 lo3, .int .i64 hi4, .str p5, .isl .part ps6]))]⟩, ?_, ?_⟩
 cases q22
 replace h := sat_cf h
 conv => whnf
 refine kc h (fun h => ?_) fun h => ?_
 conv => whnf
 refine kc h (fun h => ?_) fun h => ?_
 conv => whnf
 exact ⟨false, sat_some h, rfl⟩
 conv => whnf
 exact ⟨true, sat_some h, rfl⟩
 conv => whnf
 exact ⟨true, sat_some h, rfl⟩
 replace h := sat_ct h
 conv => whnf
 exact ⟨false, sat_some h, rfl⟩
 rintro _ ⟨q81, h, rfl⟩
 replace h := hrR82 _ h
 obtain ⟨R89, h, hlR89, hrR89⟩ := sat_sbind h
 conv => whnf
 refine ⟨fun σ => ∃ (q88 : Bool), R89 (.inr q88) ∧ σ = ⟨[(1, .c (.ptr (.s 1) 0 0)), (4, .c (.bool true)), (62, .c (.bool q88))], [((.s 1), some (.var [.int .i64 k1, .str m2, .int .i64 lo3, .int .i64 hi4, .str p5, .isl .part ps6]))]⟩, ?_, ?_⟩
 cases q81
 replace h := sat_cf h
 conv => whnf
 refine kc h (fun h => ?_) fun h => ?_
 conv => whnf
 exact ⟨false, sat_some h, rfl⟩
 conv => whnf
 refine kc h (fun h => ?_) fun h => ?_
 conv => whnf
 exact ⟨false, sat_some h, rfl⟩
 conv => whnf
 refine kc h (fun h => ?_) fun h => ?_
 conv => whnf
 exact ⟨false, sat_some h, rfl⟩
 conv => whnf
 exact ⟨true, sat_some h, rfl⟩
 replace h := sat_ct h
 conv => whnf
 exact ⟨true, sat_some h, rfl⟩
 rintro _ ⟨q88, h, rfl⟩
 replace h := hrR89 _ h
 obtain ⟨R94, h, hlR94, hrR94⟩ := sat_sbind h
 conv => whnf
 refine ⟨fun σ => ∃ (q93 : Bool), R94 (.inr q93) ∧ σ = ⟨[(1, .c (.ptr (.s 1) 0 0)), (72, .c (.bool q93))], [((.s 1), some (.var [.int .i64 k1, .str m2, .int .i64 lo3, .int .i64 hi4, .str p5, .isl .part ps6]))]⟩, ?_, ?_⟩
 cases q88
 replace h := sat_cf h
 conv => whnf
 exact ⟨false, sat_some h, rfl⟩
 replace h := sat_ct h
 conv => whnf
 exact ⟨true, sat_some h, rfl⟩
 rintro _ ⟨q93, h, rfl⟩
 replace h := hrR94 _ h
 obtain ⟨R98, h, hlR98, hrR98⟩ := sat_sbind h
 conv => whnf
 refine ⟨fun σ => ∃ (q97 : Bool), R98 (.inr q97) ∧ σ = ⟨[(82, .c (.bool q97))], []⟩, ?_, ?_⟩
 cases q93
 replace h := sat_cf h
 conv => whnf
 refine kc h (fun h => ?_) fun h => ?_
 conv => whnf
 exact ⟨false, sat_some h, rfl⟩
 conv => whnf
 refine kc h (fun h => ?_) fun h => ?_
 conv => whnf
 exact ⟨false, sat_some h, rfl⟩
 conv => whnf
 exact ⟨true, sat_some h, rfl⟩
 replace h := sat_ct h
 conv => whnf
 exact ⟨true, sat_some h, rfl⟩
 rintro _ ⟨q97, h, rfl⟩
 replace h := hrR98 _ h
 conv => whnf
 exact ⟨[], ND 0, hQ _ (sat_some h)⟩
theorem c166_unused {P : Program} {fid : Nat → FuncId} (mx : MX P) (k166_unused : KF P fid 166 j166_unused) : C166_unused (SP P fid) f166_unused :=
 fun a0 a1 a2 a3 a4 a5 Q R hQ h => spec_of_vc mx k166_unused (w166_unused a0 a1 a2 a3 a4 a5 Q R hQ h)
def f172_1 : (BA × Tp) → BA → Int → BA → Int → Int → BA → PT → Option (Bool)
  | (a1, .mk k2 m3 lo4 hi5 p6 ps7), s8, v9, s10, v11, v12, s13, l14 => cond (a1.toList == s8.toList) (some true) (some false)
def C172_1 (O : Oracle TT) (m : (BA × Tp) → BA → Int → BA → Int → Int → BA → PT → Option (Bool)) : Prop :=
  ∀ (a1 : BA) (k2 : Int) (m3 : BA) (lo4 : Int) (hi5 : Int) (p6 : BA) (ps7 : PT) (s8 : BA) (v9 : Int) (s10 : BA) (v11 : Int) (v12 : Int) (s13 : BA) (l14 : PT) (Q : Bool → Prop) (R : RR) (_ : ∀ (q16 : Bool), Q q16 → R (.c (.bool q16)) [(.x 0, some (.var [.str s8, .int .i64 v9, .str s10, .int .i64 v11, .int .i64 v12, .str s13, .isl .part l14]))]) (_ : sat (m (a1, (Tp.mk k2 m3 lo4 hi5 p6 ps7)) s8 v9 s10 v11 v12 s13 l14) Q), O 172 [.agg [.str a1, .int .i64 k2, .str m3, .int .i64 lo4, .int .i64 hi5, .str p6, .isl .part ps7], .c (.ptr (.x 0) 0 0)] [((.x 0), some (.var [.str s8, .int .i64 v9, .str s10, .int .i64 v11, .int .i64 v12, .str s13, .isl .part l14]))] R
def j172_1 : Fn TT := ⟨9, [.t 3], (.seq (.reg [qo 2 (.box 2 0),qo 3 (.mv bF)]) (.seq (.reg [qo 4 (.fa 2 0),qo 5 (.load 4 1 false),qo 6 (.fa 1 0),qo 7 (.load 6 1 false),qo 8 (.bin .eql .str 5 7),qo 3 (.mv 8)]) .ret))⟩
theorem w172_1 {O : Oracle TT} : C172_1 (fun _ => vcF (S := SS) O j172_1) f172_1 := by
 intro a1 k2 m3 lo4 hi5 p6 ps7 s8 v9 s10 v11 v12 s13 l14 Q R hQ h
 unfold f172_1 at h
 refine ⟨nle rfl, rfl, ?_⟩
 conv => whnf
 refine kc h (fun h => ?_) fun h => ?_
 conv => whnf
 exact ⟨[], ND 1, hQ _ (sat_some h)⟩
 conv => whnf
 exact ⟨[], ND 1, hQ _ (sat_some h)⟩
theorem c172_1 {P : Program} {fid : Nat → FuncId} (mx : MX P) (k172_1 : KF P fid 172 j172_1) : C172_1 (SP P fid) f172_1 :=
 fun a0 a1 a2 a3 a4 a5 a6 a7 a8 a9 a10 a11 a12 a13 Q R hQ h => spec_of_vc mx k172_1 (w172_1 a0 a1 a2 a3 a4 a5 a6 a7 a8 a9 a10 a11 a12 a13 Q R hQ h)
end Go.Clap
