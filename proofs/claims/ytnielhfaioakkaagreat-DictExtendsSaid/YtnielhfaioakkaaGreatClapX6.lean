/- The checks of the small code against the functions of the second group, for DictInverse. -/
import Derived.Test.YtnielhfaioakkaaGreatClapV27
import Derived.Test.YtnielhfaioakkaaGreatProg
open Go Go.Clap Go.Shelf
set_option linter.unusedVariables false
set_option maxRecDepth 1000000
namespace Go.Clap
/-- The numbers of the functions in this group. -/
def numsZ : List (Nat × Nat) := [(0, 0), (1, 1), (2, 2), (11, 14), (15, 28), (21, 38), (22, 39), (26, 7), (27, 8), (28, 10), (29, 11), (34, 36), (38, 54), (39, 58), (40, 59), (41, 60), (42, 142), (44, 15), (45, 29), (46, 30), (47, 32), (48, 31), (49, 33), (50, 34), (51, 43), (52, 52), (53, 53), (54, 55), (55, 56), (56, 57), (57, 35), (59, 72), (60, 74), (61, 75), (62, 76), (63, 124), (64, 139), (65, 157), (70, 24), (71, 49), (72, 50), (73, 47), (74, 48), (75, 62), (76, 63), (77, 64), (78, 73), (79, 51), (82, 167), (86, 85), (91, 189), (94, 22), (95, 23), (96, 45), (97, 71), (98, 70), (99, 81), (100, 82), (101, 83), (102, 105), (104, 180), (108, 154), (109, 111), (110, 112), (111, 113), (112, 114), (113, 115), (114, 194), (116, 21), (117, 97), (118, 98), (119, 99), (120, 100), (121, 101), (122, 102), (123, 103), (124, 104), (125, 95), (126, 96), (127, 107), (128, 108), (129, 109), (131, 191), (132, 42), (138, 132), (139, 133), (140, 134), (141, 135), (142, 196), (144, 41), (145, 44), (146, 121), (147, 117), (148, 118), (149, 122), (150, 123), (151, 130), (152, 131), (153, 195), (155, 151), (156, 152), (157, 153), (158, 65), (159, 66), (160, 67), (161, 68), (162, 137), (163, 150), (164, 197), (168, 162), (169, 163), (170, 84), (173, 178), (174, 110), (175, 164), (176, 186), (177, 187), (178, 188), (179, 190), (180, 193), (181, 198), (182, 199), (183, 200), (184, 201), (185, 202), (186, 203), (187, 204), (188, 205), (189, 206), (190, 207), (191, 208), (192, 209), (193, 210), (194, 211), (195, 212), (197, 214), (303, 3), (304, 4), (305, 5), (306, 6), (309, 9), (312, 12), (313, 13), (316, 16), (317, 17), (318, 18), (319, 19), (320, 20), (325, 25), (326, 26), (327, 27), (337, 37), (340, 40), (346, 46), (361, 61), (369, 69), (377, 77), (378, 78), (379, 79), (380, 80), (386, 86), (387, 87), (388, 88), (389, 89), (390, 90), (391, 91), (392, 92), (393, 93), (394, 94), (406, 106), (416, 116), (419, 119), (420, 120), (425, 125), (426, 126), (427, 127), (428, 128), (429, 129), (436, 136), (438, 138), (440, 140), (441, 141), (443, 143), (444, 144), (445, 145), (446, 146), (447, 147), (448, 148), (449, 149), (455, 155), (456, 156), (458, 158), (459, 159), (460, 160), (461, 161), (465, 165), (466, 166), (468, 168), (469, 169), (470, 170), (471, 171), (472, 172), (473, 173), (474, 174), (475, 175), (476, 176), (477, 177), (479, 179), (481, 181), (482, 182), (483, 183), (484, 184), (485, 185), (492, 192), (513, 213)]
def fidZ (n : Nat) : FuncId := (numsZ.lookup n).getD 0
theorem tz59 : chkF SS Proofs.Tryz.prog fidZ 59 ir59 = true := by kernel_rfl
theorem tz38 : chkF SS Proofs.Tryz.prog fidZ 38 ir38 = true := by kernel_rfl
theorem tz53 : chkF SS Proofs.Tryz.prog fidZ 53 ir53 = true := by kernel_rfl
theorem tz52 : chkF SS Proofs.Tryz.prog fidZ 52 ir52 = true := by kernel_rfl
theorem tz78 : chkF SS Proofs.Tryz.prog fidZ 78 ir78 = true := by kernel_rfl
theorem tz54 : chkF SS Proofs.Tryz.prog fidZ 54 ir54 = true := by kernel_rfl
theorem tz56 : chkF SS Proofs.Tryz.prog fidZ 56 ir56 = true := by kernel_rfl
theorem tz55 : chkF SS Proofs.Tryz.prog fidZ 55 ir55 = true := by kernel_rfl
theorem tz34 : chkF SS Proofs.Tryz.prog fidZ 34 ir34 = true := by kernel_rfl
theorem tz11 : chkF SS Proofs.Tryz.prog fidZ 11 ir11 = true := by kernel_rfl
theorem tz75 : chkF SS Proofs.Tryz.prog fidZ 75 ir75 = true := by kernel_rfl
theorem tz76 : chkF SS Proofs.Tryz.prog fidZ 76 ir76 = true := by kernel_rfl
theorem tz127 : chkF SS Proofs.Tryz.prog fidZ 127 ir127 = true := by kernel_rfl
theorem tz99 : chkF SS Proofs.Tryz.prog fidZ 99 ir99 = true := by kernel_rfl
theorem tz100 : chkF SS Proofs.Tryz.prog fidZ 100 ir100 = true := by kernel_rfl
theorem tz128 : chkF SS Proofs.Tryz.prog fidZ 128 ir128 = true := by kernel_rfl
theorem tz151 : chkF SS Proofs.Tryz.prog fidZ 151 ir151 = true := by kernel_rfl
theorem tz163 : chkF SS Proofs.Tryz.prog fidZ 163 ir163 = true := by kernel_rfl
theorem tz152 : chkF SS Proofs.Tryz.prog fidZ 152 ir152 = true := by kernel_rfl
theorem tz129 : chkF SS Proofs.Tryz.prog fidZ 129 ir129 = true := by kernel_rfl
theorem tz101 : chkF SS Proofs.Tryz.prog fidZ 101 ir101 = true := by kernel_rfl
theorem tz77 : chkF SS Proofs.Tryz.prog fidZ 77 ir77 = true := by kernel_rfl
theorem tz51 : chkF SS Proofs.Tryz.prog fidZ 51 ir51 = true := by kernel_rfl
theorem tz44 : chkF SS Proofs.Tryz.prog fidZ 44 ir44 = true := by kernel_rfl
theorem tz26 : chkF SS Proofs.Tryz.prog fidZ 26 ir26 = true := by kernel_rfl
theorem tz132 : chkF SS Proofs.Tryz.prog fidZ 132 ir132 = true := by kernel_rfl
theorem tz57 : chkF SS Proofs.Tryz.prog fidZ 57 ir57 = true := by kernel_rfl
theorem tz79 : chkF SS Proofs.Tryz.prog fidZ 79 ir79 = true := by kernel_rfl
theorem tz94 : chkF SS Proofs.Tryz.prog fidZ 94 ir94 = true := by kernel_rfl
theorem tz95 : chkF SS Proofs.Tryz.prog fidZ 95 ir95 = true := by kernel_rfl
theorem tz70 : chkF SS Proofs.Tryz.prog fidZ 70 ir70 = true := by kernel_rfl
theorem tz96 : chkF SS Proofs.Tryz.prog fidZ 96 ir96 = true := by kernel_rfl
theorem tz116 : chkF SS Proofs.Tryz.prog fidZ 116 ir116 = true := by kernel_rfl
theorem tz144 : chkF SS Proofs.Tryz.prog fidZ 144 ir144 = true := by kernel_rfl
theorem tz145 : chkF SS Proofs.Tryz.prog fidZ 145 ir145 = true := by kernel_rfl
theorem tz158 : chkF SS Proofs.Tryz.prog fidZ 158 ir158 = true := by kernel_rfl
theorem tz161 : chkF SS Proofs.Tryz.prog fidZ 161 ir161 = true := by kernel_rfl
theorem tz46 : chkF SS Proofs.Tryz.prog fidZ 46 ir46 = true := by kernel_rfl
theorem tz71 : chkF SS Proofs.Tryz.prog fidZ 71 ir71 = true := by kernel_rfl
theorem tz72 : chkF SS Proofs.Tryz.prog fidZ 72 ir72 = true := by kernel_rfl
theorem tz47 : chkF SS Proofs.Tryz.prog fidZ 47 ir47 = true := by kernel_rfl
theorem tz48 : chkF SS Proofs.Tryz.prog fidZ 48 ir48 = true := by kernel_rfl
theorem tz73 : chkF SS Proofs.Tryz.prog fidZ 73 ir73 = true := by kernel_rfl
theorem tz74 : chkF SS Proofs.Tryz.prog fidZ 74 ir74 = true := by kernel_rfl
theorem tz97 : chkF SS Proofs.Tryz.prog fidZ 97 ir97 = true := by kernel_rfl
theorem tz117 : chkF SS Proofs.Tryz.prog fidZ 117 ir117 = true := by kernel_rfl
theorem tz98 : chkF SS Proofs.Tryz.prog fidZ 98 ir98 = true := by kernel_rfl
theorem tz126 : chkF SS Proofs.Tryz.prog fidZ 126 ir126 = true := by kernel_rfl
theorem tz28 : chkF SS Proofs.Tryz.prog fidZ 28 ir28 = true := by kernel_rfl
theorem tz15 : chkF SS Proofs.Tryz.prog fidZ 15 ir15 = true := by kernel_rfl
theorem tz29 : chkF SS Proofs.Tryz.prog fidZ 29 ir29 = true := by kernel_rfl
theorem tz49 : chkF SS Proofs.Tryz.prog fidZ 49 ir49 = true := by kernel_rfl
theorem tz50 : chkF SS Proofs.Tryz.prog fidZ 50 ir50 = true := by kernel_rfl
theorem tz27 : chkF SS Proofs.Tryz.prog fidZ 27 ir27 = true := by kernel_rfl
theorem tz309 : chkF SS Proofs.Tryz.prog fidZ 309 ir309 = true := by kernel_rfl
theorem tz312 : chkF SS Proofs.Tryz.prog fidZ 312 ir312 = true := by kernel_rfl
theorem tz313 : chkF SS Proofs.Tryz.prog fidZ 313 ir313 = true := by kernel_rfl
theorem tz303 : chkF SS Proofs.Tryz.prog fidZ 303 ir303 = true := by kernel_rfl
def ren23 (k : Nat) : Ren := ⟨fun x => match x with | 23 => k | n => n, fun x => x, fun x => x⟩
theorem lays23 : Proofs.Lays2.n23 Proofs.Tryz.prog (ren23 29) where
  mixed := by kernel_rfl
  f23 := by kernel_rfl
  t0 := by kernel_rfl
  a0 := fun w => by kernel_rfl
  z0 := fun w => by kernel_rfl
  v0 := fun w => by kernel_rfl
  t3 := by kernel_rfl
  a3 := fun w => by kernel_rfl
  z3 := fun w => by kernel_rfl
  v3 := fun w => by kernel_rfl
  t4 := by kernel_rfl
  a4 := fun w => by kernel_rfl
  z4 := fun w => by kernel_rfl
  v4 := fun w => by kernel_rfl
  t22 := by kernel_rfl
  a22 := fun w => by kernel_rfl
  z22 := fun w => by kernel_rfl
  v22 := fun w => by kernel_rfl
  i3 := by kernel_rfl
theorem hcmp : HCmp Proofs.Tryz.prog fidZ := ⟨by kernel_rfl, tz59, tz38, tz53, tz52, tz78, tz54, tz56, tz55, tz34, tz11⟩
theorem hchk : HChk Proofs.Tryz.prog fidZ := ⟨hcmp, tz75, tz76, tz127, tz99, tz100, tz128, tz151, tz163, tz152, tz129, tz101, tz77, tz51, tz44, tz26, tz132⟩
theorem hlook : HLook Proofs.Tryz.prog fidZ := ⟨⟨hchk, tz57, tz79⟩, tz94, tz95, tz70, tz96, tz116, tz144, tz145, tz158, tz161, tz46, tz71, tz72, tz47, tz48, tz73, tz74, tz97, tz117, tz98, tz126⟩
theorem htab : HTab Proofs.Tryz.prog fidZ := ⟨⟨hlook, tz28⟩, tz15, tz29, tz49, tz50, tz27, ⟨ren23 29, lays23, by kernel_rfl⟩⟩
theorem hinverse : HInverse Proofs.Tryz.prog fidZ := ⟨⟨htab, tz309⟩, tz312, tz313, tz303⟩
end Go.Clap
