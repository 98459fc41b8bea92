/-
  The functions that TrialForms reaches; each is looked at by the kernel.
-/
import Derived.Test.YtljbbnolcncbeaaGreatTrialFormsDefs
import Derived.Test.YtljbbnolcncbeaaGreatProg
set_option maxRecDepth 100000
namespace Fo.Tryz
open Go Go.Proofs
def modes : Nat → List Mode
  | 9 => [.lend, .lend]
  | 17 => [.lend]
  | 22 => [.lend]
  | 23 => [.lend, .lend]
  | 42 => []
  | 43 => [.lend]
  | 44 => [.lend, .lend]
  | 45 => [.lend]
  | 46 => [.lend, .lend]
  | 47 => [.lend, .lend, .lend]
  | 70 => [.lend]
  | 71 => [.bor]
  | 72 => [.bor]
  | 73 => [.bor]
  | 74 => [.bor]
  | 75 => [.bor]
  | 76 => [.bor]
  | 77 => [.bor]
  | 78 => [.bor]
  | 79 => [.bor]
  | 80 => [.bor]
  | 81 => [.lend]
  | 82 => [.lend]
  | 83 => [.bor]
  | 84 => [.bor]
  | 85 => [.bor]
  | 86 => [.bor]
  | 87 => [.lend]
  | 88 => [.lend, .lend]
  | 89 => [.bor, .lend]
  | 90 => [.give, .lend, .lend]
  | 91 => [.give, .lend, .give]
  | 92 => [.lend, .lend, .lend]
  | 121 => [.lend, .lend, .lend]
  | 122 => [.lend, .lend]
  | 123 => [.lend]
  | 124 => [.bor, .lend]
  | 125 => [.lend, .lend]
  | 126 => [.bor, .lend, .lend, .lend]
  | 127 => [.lend, .lend, .lend]
  | 128 => [.lend, .lend]
  | 129 => [.lend, .lend]
  | 130 => [.lend, .lend, .lend]
  | 131 => [.lend, .lend]
  | 132 => [.lend]
  | 133 => [.lend]
  | 134 => [.lend]
  | 135 => [.lend]
  | 136 => [.lend]
  | 137 => [.lend]
  | 138 => [.lend, .lend]
  | 139 => [.bor, .lend]
  | 140 => [.bor, .lend]
  | 141 => [.lend]
  | 142 => [.lend, .lend]
  | 143 => [.lend]
  | 144 => [.lend, .lend]
  | 145 => [.lend, .lend, .lend]
  | 146 => [.lend]
  | 147 => [.bor, .bor]
  | 148 => [.bor, .bor]
  | 149 => [.lend]
  | 150 => [.lend]
  | 151 => [.lend, .lend, .lend]
  | 152 => [.lend, .lend]
  | 154 => [.lend, .lend]
  | 155 => [.lend]
  | 191 => [.lend]
  | 192 => [.lend]
  | 193 => [.lend]
  | 194 => [.lend, .lend]
  | 195 => [.lend]
  | 196 => [.give, .lend, .give]
  | 197 => [.lend, .lend]
  | 198 => [.lend]
  | 199 => [.lend]
  | 200 => [.lend, .lend]
  | 201 => [.lend, .lend]
  | 202 => [.lend]
  | 203 => [.lend]
  | 204 => [.lend, .lend]
  | 205 => [.bor, .lend]
  | 206 => [.lend, .lend]
  | 207 => [.lend]
  | 208 => [.lend]
  | 209 => [.lend, .lend]
  | 210 => [.lend]
  | 211 => [.lend, .lend]
  | 212 => [.lend]
  | 213 => [.lend, .lend]
  | 214 => [.lend]
  | 215 => [.lend]
  | 216 => [.lend, .lend]
  | 217 => [.lend, .lend]
  | 218 => [.lend]
  | 219 => [.give, .lend]
  | 220 => [.lend]
  | 221 => [.lend, .lend, .lend]
  | 222 => [.lend]
  | 223 => [.lend, .lend]
  | 224 => [.lend, .lend]
  | 225 => [.lend, .lend, .lend]
  | 226 => [.lend, .lend, .lend]
  | 227 => [.bor, .bor]
  | 228 => [.lend, .lend, .lend]
  | 229 => [.lend]
  | 230 => [.lend, .lend]
  | 246 => [.lend]
  | 247 => [.lend, .lend, .lend]
  | 248 => [.lend]
  | 249 => [.lend]
  | 250 => [.lend]
  | 251 => [.lend]
  | 253 => [.lend, .lend]
  | 254 => [.lend, .lend, .lend]
  | 255 => [.lend]
  | 256 => [.lend, .lend]
  | 257 => [.lend]
  | 258 => [.lend, .lend]
  | 259 => [.lend]
  | 260 => [.lend, .lend]
  | 261 => [.give, .lend]
  | 262 => [.lend]
  | 263 => [.lend]
  | 264 => [.lend, .lend]
  | 265 => [.lend]
  | 266 => [.lend, .lend]
  | 267 => [.lend]
  | 268 => [.lend]
  | 269 => [.lend]
  | 270 => [.lend]
  | 271 => [.lend, .lend, .lend]
  | 272 => [.lend, .lend]
  | 273 => [.lend, .lend]
  | 274 => [.lend, .lend]
  | 275 => [.lend, .lend, .lend]
  | 276 => [.lend, .lend, .lend]
  | 277 => [.lend, .lend]
  | 278 => [.lend]
  | 279 => [.lend]
  | 280 => [.lend, .lend]
  | 281 => [.lend]
  | 282 => [.lend, .lend]
  | 283 => [.lend, .lend]
  | 284 => [.lend]
  | 285 => [.give, .lend, .lend]
  | 286 => [.lend, .lend]
  | 287 => [.lend]
  | 288 => [.lend, .lend]
  | 289 => [.lend]
  | 300 => [.lend]
  | 301 => [.lend]
  | 302 => [.lend]
  | 303 => [.lend]
  | 304 => [.lend]
  | 305 => [.lend, .lend]
  | 306 => [.lend]
  | 307 => [.lend]
  | 308 => [.lend]
  | 309 => [.lend, .lend]
  | 310 => [.lend]
  | 311 => [.bor, .lend, .lend]
  | 312 => [.lend, .lend]
  | 313 => [.lend]
  | 314 => [.lend]
  | 315 => [.give, .lend]
  | 316 => [.lend, .lend]
  | 317 => [.lend]
  | 318 => [.lend]
  | 319 => [.lend]
  | 320 => [.lend, .lend]
  | 321 => [.lend, .lend]
  | 322 => [.lend]
  | 331 => [.lend]
  | 332 => [.lend, .lend]
  | 333 => [.lend, .lend]
  | 334 => [.lend, .lend]
  | 335 => [.lend]
  | 336 => [.lend]
  | 337 => [.lend]
  | 338 => [.lend]
  | 339 => [.lend]
  | 340 => [.lend, .lend]
  | 341 => [.lend, .lend]
  | 342 => [.lend, .lend]
  | 343 => [.give, .lend]
  | 344 => [.lend, .lend]
  | 345 => [.lend]
  | 346 => [.lend]
  | 1007 => []
  | 1009 => []
  | 1010 => [.lend]
  | _ => []
def abi (fx : List Fact) : Abi := ⟨modes, fx⟩
def tblL : List (Nat × FuncId) := [(9, 11), (17, 10), (22, 6), (23, 25), (42, 12), (43, 13), (44, 7), (45, 39), (46, 40), (47, 30), (70, 26), (71, 14), (72, 15), (73, 16), (74, 17), (75, 18), (76, 19), (77, 20), (78, 21), (79, 22), (80, 23), (81, 24), (82, 51), (83, 73), (84, 74), (85, 75), (86, 76), (87, 47), (88, 64), (89, 58), (90, 59), (91, 60), (92, 61), (121, 27), (122, 28), (123, 29), (124, 31), (125, 32), (126, 33), (127, 34), (128, 35), (129, 36), (130, 37), (131, 38), (132, 92), (133, 93), (134, 94), (135, 81), (136, 95), (137, 87), (138, 96), (139, 115), (140, 116), (141, 117), (142, 110), (143, 97), (144, 118), (145, 119), (146, 52), (147, 120), (148, 121), (149, 88), (150, 65), (151, 102), (152, 103), (154, 105), (155, 106), (191, 123), (192, 41), (193, 42), (194, 43), (195, 44), (196, 45), (197, 46), (198, 48), (199, 49), (200, 50), (201, 53), (202, 54), (203, 55), (204, 56), (205, 57), (206, 62), (207, 63), (208, 66), (209, 67), (210, 68), (211, 69), (212, 70), (213, 71), (214, 72), (215, 137), (216, 141), (217, 142), (218, 143), (219, 144), (220, 145), (221, 146), (222, 147), (223, 148), (224, 149), (225, 150), (226, 151), (227, 152), (228, 153), (229, 108), (230, 138), (246, 154), (247, 155), (248, 77), (249, 78), (250, 79), (251, 80), (253, 83), (254, 84), (255, 85), (256, 86), (257, 89), (258, 90), (259, 91), (260, 98), (261, 99), (262, 100), (263, 101), (264, 107), (265, 109), (266, 111), (267, 112), (268, 113), (269, 114), (270, 171), (271, 172), (272, 173), (273, 174), (274, 162), (275, 175), (276, 176), (277, 177), (278, 178), (279, 179), (280, 180), (281, 181), (282, 182), (283, 183), (284, 184), (285, 185), (286, 186), (287, 187), (288, 188), (289, 170), (300, 122), (301, 124), (302, 125), (303, 126), (304, 127), (305, 128), (306, 129), (307, 130), (308, 131), (309, 132), (310, 133), (311, 134), (312, 135), (313, 136), (314, 139), (315, 140), (316, 192), (317, 193), (318, 194), (319, 195), (320, 196), (321, 197), (322, 198), (331, 156), (332, 157), (333, 158), (334, 159), (335, 160), (336, 161), (337, 163), (338, 164), (339, 165), (340, 166), (341, 167), (342, 168), (343, 169), (344, 189), (345, 190), (346, 191), (1007, 4), (1009, 8), (1010, 9)]
def tbl (f : Nat) : Option FuncId := tblL.lookup f
noncomputable def nf (ρ : Nat → Int) : Nm := ⟨tbl, ρ, fun f ns => if f = 265 then sealN (abi []) ns else 0⟩
theorem k9 (ρ : Nat → Int) (fx : List Fact) : chkFun Tryz.prog (nf ρ) (abi fx) Tryz.f11 F9 = true := by kernel_rfl
theorem k17 (ρ : Nat → Int) (fx : List Fact) : chkFun Tryz.prog (nf ρ) (abi fx) Tryz.f10 F17 = true := by kernel_rfl
theorem k22 (ρ : Nat → Int) (fx : List Fact) : chkFun Tryz.prog (nf ρ) (abi fx) Tryz.f6 F22 = true := by kernel_rfl
theorem k23 (ρ : Nat → Int) (fx : List Fact) : chkFun Tryz.prog (nf ρ) (abi fx) Tryz.f25 F23 = true := by kernel_rfl
theorem k42 (ρ : Nat → Int) (fx : List Fact) : chkFun Tryz.prog (nf ρ) (abi fx) Tryz.f12 F42 = true := by kernel_rfl
theorem k43 (ρ : Nat → Int) (fx : List Fact) : chkFun Tryz.prog (nf ρ) (abi fx) Tryz.f13 F43 = true := by kernel_rfl
theorem k44 (ρ : Nat → Int) (fx : List Fact) : chkFun Tryz.prog (nf ρ) (abi fx) Tryz.f7 F44 = true := by kernel_rfl
theorem k45 (ρ : Nat → Int) (fx : List Fact) : chkFun Tryz.prog (nf ρ) (abi fx) Tryz.f39 F45 = true := by kernel_rfl
theorem k46 (ρ : Nat → Int) (fx : List Fact) : chkFun Tryz.prog (nf ρ) (abi fx) Tryz.f40 F46 = true := by kernel_rfl
theorem k47 (ρ : Nat → Int) (fx : List Fact) : chkFun Tryz.prog (nf ρ) (abi fx) Tryz.f30 F47 = true := by kernel_rfl
theorem k70 (ρ : Nat → Int) (fx : List Fact) : chkFun Tryz.prog (nf ρ) (abi fx) Tryz.f26 F70 = true := by kernel_rfl
theorem k71 (ρ : Nat → Int) (fx : List Fact) : chkFun Tryz.prog (nf ρ) (abi fx) Tryz.f14 F71 = true := by kernel_rfl
theorem k72 (ρ : Nat → Int) (fx : List Fact) : chkFun Tryz.prog (nf ρ) (abi fx) Tryz.f15 F72 = true := by kernel_rfl
theorem k73 (ρ : Nat → Int) (fx : List Fact) : chkFun Tryz.prog (nf ρ) (abi fx) Tryz.f16 F73 = true := by kernel_rfl
theorem k74 (ρ : Nat → Int) (fx : List Fact) : chkFun Tryz.prog (nf ρ) (abi fx) Tryz.f17 F74 = true := by kernel_rfl
theorem k75 (ρ : Nat → Int) (fx : List Fact) : chkFun Tryz.prog (nf ρ) (abi fx) Tryz.f18 F75 = true := by kernel_rfl
theorem k76 (ρ : Nat → Int) (fx : List Fact) : chkFun Tryz.prog (nf ρ) (abi fx) Tryz.f19 F76 = true := by kernel_rfl
theorem k77 (ρ : Nat → Int) (fx : List Fact) : chkFun Tryz.prog (nf ρ) (abi fx) Tryz.f20 F77 = true := by kernel_rfl
theorem k78 (ρ : Nat → Int) (fx : List Fact) : chkFun Tryz.prog (nf ρ) (abi fx) Tryz.f21 F78 = true := by kernel_rfl
theorem k79 (ρ : Nat → Int) (fx : List Fact) : chkFun Tryz.prog (nf ρ) (abi fx) Tryz.f22 F79 = true := by kernel_rfl
theorem k80 (ρ : Nat → Int) (fx : List Fact) : chkFun Tryz.prog (nf ρ) (abi fx) Tryz.f23 F80 = true := by kernel_rfl
theorem k81 (ρ : Nat → Int) (fx : List Fact) : chkFun Tryz.prog (nf ρ) (abi fx) Tryz.f24 F81 = true := by kernel_rfl
theorem k82 (ρ : Nat → Int) (fx : List Fact) : chkFun Tryz.prog (nf ρ) (abi fx) Tryz.f51 F82 = true := by kernel_rfl
theorem k83 (ρ : Nat → Int) (fx : List Fact) : chkFun Tryz.prog (nf ρ) (abi fx) Tryz.f73 F83 = true := by kernel_rfl
theorem k84 (ρ : Nat → Int) (fx : List Fact) : chkFun Tryz.prog (nf ρ) (abi fx) Tryz.f74 F84 = true := by kernel_rfl
theorem k85 (ρ : Nat → Int) (fx : List Fact) : chkFun Tryz.prog (nf ρ) (abi fx) Tryz.f75 F85 = true := by kernel_rfl
theorem k86 (ρ : Nat → Int) (fx : List Fact) : chkFun Tryz.prog (nf ρ) (abi fx) Tryz.f76 F86 = true := by kernel_rfl
theorem k87 (ρ : Nat → Int) (fx : List Fact) : chkFun Tryz.prog (nf ρ) (abi fx) Tryz.f47 F87 = true := by kernel_rfl
theorem k88 (ρ : Nat → Int) (fx : List Fact) : chkFun Tryz.prog (nf ρ) (abi fx) Tryz.f64 F88 = true := by kernel_rfl
theorem k89 (ρ : Nat → Int) (fx : List Fact) : chkFun Tryz.prog (nf ρ) (abi fx) Tryz.f58 F89 = true := by kernel_rfl
theorem k90 (ρ : Nat → Int) (fx : List Fact) : chkFun Tryz.prog (nf ρ) (abi fx) Tryz.f59 F90 = true := by kernel_rfl
theorem k91 (ρ : Nat → Int) (fx : List Fact) : chkFun Tryz.prog (nf ρ) (abi fx) Tryz.f60 F91 = true := by kernel_rfl
theorem k92 (ρ : Nat → Int) (fx : List Fact) : chkFun Tryz.prog (nf ρ) (abi fx) Tryz.f61 F92 = true := by kernel_rfl
theorem k121 (ρ : Nat → Int) (fx : List Fact) : chkFun Tryz.prog (nf ρ) (abi fx) Tryz.f27 F121 = true := by kernel_rfl
theorem k122 (ρ : Nat → Int) (fx : List Fact) : chkFun Tryz.prog (nf ρ) (abi fx) Tryz.f28 F122 = true := by kernel_rfl
theorem k123 (ρ : Nat → Int) (fx : List Fact) : chkFun Tryz.prog (nf ρ) (abi fx) Tryz.f29 F123 = true := by kernel_rfl
theorem k124 (ρ : Nat → Int) (fx : List Fact) : chkFun Tryz.prog (nf ρ) (abi fx) Tryz.f31 F124 = true := by kernel_rfl
theorem k125 (ρ : Nat → Int) (fx : List Fact) : chkFun Tryz.prog (nf ρ) (abi fx) Tryz.f32 F125 = true := by kernel_rfl
theorem k126 (ρ : Nat → Int) (fx : List Fact) : chkFun Tryz.prog (nf ρ) (abi fx) Tryz.f33 F126 = true := by kernel_rfl
theorem k127 (ρ : Nat → Int) (fx : List Fact) : chkFun Tryz.prog (nf ρ) (abi fx) Tryz.f34 F127 = true := by kernel_rfl
theorem k128 (ρ : Nat → Int) (fx : List Fact) : chkFun Tryz.prog (nf ρ) (abi fx) Tryz.f35 F128 = true := by kernel_rfl
theorem k129 (ρ : Nat → Int) (fx : List Fact) : chkFun Tryz.prog (nf ρ) (abi fx) Tryz.f36 F129 = true := by kernel_rfl
theorem k130 (ρ : Nat → Int) (fx : List Fact) : chkFun Tryz.prog (nf ρ) (abi fx) Tryz.f37 F130 = true := by kernel_rfl
theorem k131 (ρ : Nat → Int) (fx : List Fact) : chkFun Tryz.prog (nf ρ) (abi fx) Tryz.f38 F131 = true := by kernel_rfl
theorem k132 (ρ : Nat → Int) (fx : List Fact) : chkFun Tryz.prog (nf ρ) (abi fx) Tryz.f92 F132 = true := by kernel_rfl
theorem k133 (ρ : Nat → Int) (fx : List Fact) : chkFun Tryz.prog (nf ρ) (abi fx) Tryz.f93 F133 = true := by kernel_rfl
theorem k134 (ρ : Nat → Int) (fx : List Fact) : chkFun Tryz.prog (nf ρ) (abi fx) Tryz.f94 F134 = true := by kernel_rfl
theorem k135 (ρ : Nat → Int) (fx : List Fact) : chkFun Tryz.prog (nf ρ) (abi fx) Tryz.f81 F135 = true := by kernel_rfl
theorem k136 (ρ : Nat → Int) (fx : List Fact) : chkFun Tryz.prog (nf ρ) (abi fx) Tryz.f95 F136 = true := by kernel_rfl
theorem k137 (ρ : Nat → Int) (fx : List Fact) : chkFun Tryz.prog (nf ρ) (abi fx) Tryz.f87 F137 = true := by kernel_rfl
theorem k138 (ρ : Nat → Int) (fx : List Fact) : chkFun Tryz.prog (nf ρ) (abi fx) Tryz.f96 F138 = true := by kernel_rfl
theorem k139 (ρ : Nat → Int) (fx : List Fact) : chkFun Tryz.prog (nf ρ) (abi fx) Tryz.f115 F139 = true := by kernel_rfl
theorem k140 (ρ : Nat → Int) (fx : List Fact) : chkFun Tryz.prog (nf ρ) (abi fx) Tryz.f116 F140 = true := by kernel_rfl
theorem k141 (ρ : Nat → Int) (fx : List Fact) : chkFun Tryz.prog (nf ρ) (abi fx) Tryz.f117 F141 = true := by kernel_rfl
theorem k142 (ρ : Nat → Int) (fx : List Fact) : chkFun Tryz.prog (nf ρ) (abi fx) Tryz.f110 F142 = true := by kernel_rfl
theorem k143 (ρ : Nat → Int) (fx : List Fact) : chkFun Tryz.prog (nf ρ) (abi fx) Tryz.f97 F143 = true := by kernel_rfl
theorem k144 (ρ : Nat → Int) (fx : List Fact) : chkFun Tryz.prog (nf ρ) (abi fx) Tryz.f118 F144 = true := by kernel_rfl
theorem k145 (ρ : Nat → Int) (fx : List Fact) : chkFun Tryz.prog (nf ρ) (abi fx) Tryz.f119 F145 = true := by kernel_rfl
theorem k146 (ρ : Nat → Int) (fx : List Fact) : chkFun Tryz.prog (nf ρ) (abi fx) Tryz.f52 F146 = true := by kernel_rfl
theorem k147 (ρ : Nat → Int) (fx : List Fact) : chkFun Tryz.prog (nf ρ) (abi fx) Tryz.f120 F147 = true := by kernel_rfl
theorem k148 (ρ : Nat → Int) (fx : List Fact) : chkFun Tryz.prog (nf ρ) (abi fx) Tryz.f121 F148 = true := by kernel_rfl
theorem k149 (ρ : Nat → Int) (fx : List Fact) : chkFun Tryz.prog (nf ρ) (abi fx) Tryz.f88 F149 = true := by kernel_rfl
theorem k150 (ρ : Nat → Int) (fx : List Fact) : chkFun Tryz.prog (nf ρ) (abi fx) Tryz.f65 F150 = true := by kernel_rfl
theorem k151 (ρ : Nat → Int) (fx : List Fact) : chkFun Tryz.prog (nf ρ) (abi fx) Tryz.f102 F151 = true := by kernel_rfl
theorem k152 (ρ : Nat → Int) (fx : List Fact) : chkFun Tryz.prog (nf ρ) (abi fx) Tryz.f103 F152 = true := by kernel_rfl
theorem k154 (ρ : Nat → Int) (fx : List Fact) : chkFun Tryz.prog (nf ρ) (abi fx) Tryz.f105 F154 = true := by kernel_rfl
theorem k155 (ρ : Nat → Int) (fx : List Fact) : chkFun Tryz.prog (nf ρ) (abi fx) Tryz.f106 F155 = true := by kernel_rfl
theorem k191 (ρ : Nat → Int) (fx : List Fact) : chkFun Tryz.prog (nf ρ) (abi fx) Tryz.f123 F191 = true := by kernel_rfl
theorem k192 (ρ : Nat → Int) (fx : List Fact) : chkFun Tryz.prog (nf ρ) (abi fx) Tryz.f41 F192 = true := by kernel_rfl
theorem k193 (ρ : Nat → Int) (fx : List Fact) : chkFun Tryz.prog (nf ρ) (abi fx) Tryz.f42 F193 = true := by kernel_rfl
theorem k194 (ρ : Nat → Int) (fx : List Fact) : chkFun Tryz.prog (nf ρ) (abi fx) Tryz.f43 F194 = true := by kernel_rfl
theorem k195 (ρ : Nat → Int) (fx : List Fact) : chkFun Tryz.prog (nf ρ) (abi fx) Tryz.f44 F195 = true := by kernel_rfl
theorem k196 (ρ : Nat → Int) (fx : List Fact) : chkFun Tryz.prog (nf ρ) (abi fx) Tryz.f45 F196 = true := by kernel_rfl
theorem k197 (ρ : Nat → Int) (fx : List Fact) : chkFun Tryz.prog (nf ρ) (abi fx) Tryz.f46 F197 = true := by kernel_rfl
theorem k198 (ρ : Nat → Int) (fx : List Fact) : chkFun Tryz.prog (nf ρ) (abi fx) Tryz.f48 F198 = true := by kernel_rfl
theorem k199 (ρ : Nat → Int) (fx : List Fact) : chkFun Tryz.prog (nf ρ) (abi fx) Tryz.f49 F199 = true := by kernel_rfl
theorem k200 (ρ : Nat → Int) (fx : List Fact) : chkFun Tryz.prog (nf ρ) (abi fx) Tryz.f50 F200 = true := by kernel_rfl
theorem k201 (ρ : Nat → Int) (fx : List Fact) : chkFun Tryz.prog (nf ρ) (abi fx) Tryz.f53 F201 = true := by kernel_rfl
theorem k202 (ρ : Nat → Int) (fx : List Fact) : chkFun Tryz.prog (nf ρ) (abi fx) Tryz.f54 F202 = true := by kernel_rfl
theorem k203 (ρ : Nat → Int) (fx : List Fact) : chkFun Tryz.prog (nf ρ) (abi fx) Tryz.f55 F203 = true := by kernel_rfl
theorem k204 (ρ : Nat → Int) (fx : List Fact) : chkFun Tryz.prog (nf ρ) (abi fx) Tryz.f56 F204 = true := by kernel_rfl
theorem k205 (ρ : Nat → Int) (fx : List Fact) : chkFun Tryz.prog (nf ρ) (abi fx) Tryz.f57 F205 = true := by kernel_rfl
theorem k206 (ρ : Nat → Int) (fx : List Fact) : chkFun Tryz.prog (nf ρ) (abi fx) Tryz.f62 F206 = true := by kernel_rfl
theorem k207 (ρ : Nat → Int) (fx : List Fact) : chkFun Tryz.prog (nf ρ) (abi fx) Tryz.f63 F207 = true := by kernel_rfl
theorem k208 (ρ : Nat → Int) (fx : List Fact) : chkFun Tryz.prog (nf ρ) (abi fx) Tryz.f66 F208 = true := by kernel_rfl
theorem k209 (ρ : Nat → Int) (fx : List Fact) : chkFun Tryz.prog (nf ρ) (abi fx) Tryz.f67 F209 = true := by kernel_rfl
theorem k210 (ρ : Nat → Int) (fx : List Fact) : chkFun Tryz.prog (nf ρ) (abi fx) Tryz.f68 F210 = true := by kernel_rfl
theorem k211 (ρ : Nat → Int) (fx : List Fact) : chkFun Tryz.prog (nf ρ) (abi fx) Tryz.f69 F211 = true := by kernel_rfl
theorem k212 (ρ : Nat → Int) (fx : List Fact) : chkFun Tryz.prog (nf ρ) (abi fx) Tryz.f70 F212 = true := by kernel_rfl
theorem k213 (ρ : Nat → Int) (fx : List Fact) : chkFun Tryz.prog (nf ρ) (abi fx) Tryz.f71 F213 = true := by kernel_rfl
theorem k214 (ρ : Nat → Int) (fx : List Fact) : chkFun Tryz.prog (nf ρ) (abi fx) Tryz.f72 F214 = true := by kernel_rfl
theorem k215 (ρ : Nat → Int) (fx : List Fact) : chkFun Tryz.prog (nf ρ) (abi fx) Tryz.f137 F215 = true := by kernel_rfl
theorem k216 (ρ : Nat → Int) (fx : List Fact) : chkFun Tryz.prog (nf ρ) (abi fx) Tryz.f141 F216 = true := by kernel_rfl
theorem k217 (ρ : Nat → Int) (fx : List Fact) : chkFun Tryz.prog (nf ρ) (abi fx) Tryz.f142 F217 = true := by kernel_rfl
theorem k218 (ρ : Nat → Int) (fx : List Fact) : chkFun Tryz.prog (nf ρ) (abi fx) Tryz.f143 F218 = true := by kernel_rfl
theorem k219 (ρ : Nat → Int) (fx : List Fact) : chkFun Tryz.prog (nf ρ) (abi fx) Tryz.f144 F219 = true := by kernel_rfl
theorem k220 (ρ : Nat → Int) (fx : List Fact) : chkFun Tryz.prog (nf ρ) (abi fx) Tryz.f145 F220 = true := by kernel_rfl
theorem k221 (ρ : Nat → Int) (fx : List Fact) : chkFun Tryz.prog (nf ρ) (abi fx) Tryz.f146 F221 = true := by kernel_rfl
theorem k222 (ρ : Nat → Int) (fx : List Fact) : chkFun Tryz.prog (nf ρ) (abi fx) Tryz.f147 F222 = true := by kernel_rfl
theorem k223 (ρ : Nat → Int) (fx : List Fact) : chkFun Tryz.prog (nf ρ) (abi fx) Tryz.f148 F223 = true := by kernel_rfl
theorem k224 (ρ : Nat → Int) (fx : List Fact) : chkFun Tryz.prog (nf ρ) (abi fx) Tryz.f149 F224 = true := by kernel_rfl
theorem k225 (ρ : Nat → Int) (fx : List Fact) : chkFun Tryz.prog (nf ρ) (abi fx) Tryz.f150 F225 = true := by kernel_rfl
theorem k226 (ρ : Nat → Int) (fx : List Fact) : chkFun Tryz.prog (nf ρ) (abi fx) Tryz.f151 F226 = true := by kernel_rfl
theorem k227 (ρ : Nat → Int) (fx : List Fact) : chkFun Tryz.prog (nf ρ) (abi fx) Tryz.f152 F227 = true := by kernel_rfl
theorem k228 (ρ : Nat → Int) (fx : List Fact) : chkFun Tryz.prog (nf ρ) (abi fx) Tryz.f153 F228 = true := by kernel_rfl
theorem k229 (ρ : Nat → Int) (fx : List Fact) : chkFun Tryz.prog (nf ρ) (abi fx) Tryz.f108 F229 = true := by kernel_rfl
theorem k230 (ρ : Nat → Int) (fx : List Fact) : chkFun Tryz.prog (nf ρ) (abi fx) Tryz.f138 F230 = true := by kernel_rfl
theorem k246 (ρ : Nat → Int) (fx : List Fact) : chkFun Tryz.prog (nf ρ) (abi fx) Tryz.f154 F246 = true := by kernel_rfl
theorem k247 (ρ : Nat → Int) (fx : List Fact) : chkFun Tryz.prog (nf ρ) (abi fx) Tryz.f155 F247 = true := by kernel_rfl
theorem k248 (ρ : Nat → Int) (fx : List Fact) : chkFun Tryz.prog (nf ρ) (abi fx) Tryz.f77 F248 = true := by kernel_rfl
theorem k249 (ρ : Nat → Int) (fx : List Fact) : chkFun Tryz.prog (nf ρ) (abi fx) Tryz.f78 F249 = true := by kernel_rfl
theorem k250 (ρ : Nat → Int) (fx : List Fact) : chkFun Tryz.prog (nf ρ) (abi fx) Tryz.f79 F250 = true := by kernel_rfl
theorem k251 (ρ : Nat → Int) (fx : List Fact) : chkFun Tryz.prog (nf ρ) (abi fx) Tryz.f80 F251 = true := by kernel_rfl
theorem k253 (ρ : Nat → Int) (fx : List Fact) : chkFun Tryz.prog (nf ρ) (abi fx) Tryz.f83 F253 = true := by kernel_rfl
theorem k254 (ρ : Nat → Int) (fx : List Fact) : chkFun Tryz.prog (nf ρ) (abi fx) Tryz.f84 F254 = true := by kernel_rfl
theorem k255 (ρ : Nat → Int) (fx : List Fact) : chkFun Tryz.prog (nf ρ) (abi fx) Tryz.f85 F255 = true := by kernel_rfl
theorem k256 (ρ : Nat → Int) (fx : List Fact) : chkFun Tryz.prog (nf ρ) (abi fx) Tryz.f86 F256 = true := by kernel_rfl
theorem k257 (ρ : Nat → Int) (fx : List Fact) : chkFun Tryz.prog (nf ρ) (abi fx) Tryz.f89 F257 = true := by kernel_rfl
theorem k258 (ρ : Nat → Int) (fx : List Fact) : chkFun Tryz.prog (nf ρ) (abi fx) Tryz.f90 F258 = true := by kernel_rfl
theorem k259 (ρ : Nat → Int) (fx : List Fact) : chkFun Tryz.prog (nf ρ) (abi fx) Tryz.f91 F259 = true := by kernel_rfl
theorem k260 (ρ : Nat → Int) (fx : List Fact) : chkFun Tryz.prog (nf ρ) (abi fx) Tryz.f98 F260 = true := by kernel_rfl
theorem k261 (ρ : Nat → Int) (fx : List Fact) : chkFun Tryz.prog (nf ρ) (abi fx) Tryz.f99 F261 = true := by kernel_rfl
theorem k262 (ρ : Nat → Int) (fx : List Fact) : chkFun Tryz.prog (nf ρ) (abi fx) Tryz.f100 F262 = true := by kernel_rfl
theorem k263 (ρ : Nat → Int) (fx : List Fact) : chkFun Tryz.prog (nf ρ) (abi fx) Tryz.f101 F263 = true := by kernel_rfl
theorem k264 (ρ : Nat → Int) (fx : List Fact) : chkFun Tryz.prog (nf ρ) (abi fx) Tryz.f107 F264 = true := by kernel_rfl
theorem k265 (ρ : Nat → Int) (fx : List Fact) : chkFun Tryz.prog (nf ρ) (abi fx) Tryz.f109 F265 = true := by kernel_rfl
theorem k266 (ρ : Nat → Int) (fx : List Fact) : chkFun Tryz.prog (nf ρ) (abi fx) Tryz.f111 F266 = true := by kernel_rfl
theorem k267 (ρ : Nat → Int) (fx : List Fact) : chkFun Tryz.prog (nf ρ) (abi fx) Tryz.f112 F267 = true := by kernel_rfl
theorem k268 (ρ : Nat → Int) (fx : List Fact) : chkFun Tryz.prog (nf ρ) (abi fx) Tryz.f113 F268 = true := by kernel_rfl
theorem k269 (ρ : Nat → Int) (fx : List Fact) : chkFun Tryz.prog (nf ρ) (abi fx) Tryz.f114 F269 = true := by kernel_rfl
theorem k270 (ρ : Nat → Int) (fx : List Fact) : chkFun Tryz.prog (nf ρ) (abi fx) Tryz.f171 F270 = true := by kernel_rfl
theorem k271 (ρ : Nat → Int) (fx : List Fact) : chkFun Tryz.prog (nf ρ) (abi fx) Tryz.f172 F271 = true := by kernel_rfl
theorem k272 (ρ : Nat → Int) (fx : List Fact) : chkFun Tryz.prog (nf ρ) (abi fx) Tryz.f173 F272 = true := by kernel_rfl
theorem k273 (ρ : Nat → Int) (fx : List Fact) : chkFun Tryz.prog (nf ρ) (abi fx) Tryz.f174 F273 = true := by kernel_rfl
theorem k274 (ρ : Nat → Int) (fx : List Fact) : chkFun Tryz.prog (nf ρ) (abi fx) Tryz.f162 F274 = true := by kernel_rfl
theorem k275 (ρ : Nat → Int) (fx : List Fact) : chkFun Tryz.prog (nf ρ) (abi fx) Tryz.f175 F275 = true := by kernel_rfl
theorem k276 (ρ : Nat → Int) (fx : List Fact) : chkFun Tryz.prog (nf ρ) (abi fx) Tryz.f176 F276 = true := by kernel_rfl
theorem k277 (ρ : Nat → Int) (fx : List Fact) : chkFun Tryz.prog (nf ρ) (abi fx) Tryz.f177 F277 = true := by kernel_rfl
theorem k278 (ρ : Nat → Int) (fx : List Fact) : chkFun Tryz.prog (nf ρ) (abi fx) Tryz.f178 F278 = true := by kernel_rfl
theorem k279 (ρ : Nat → Int) (fx : List Fact) : chkFun Tryz.prog (nf ρ) (abi fx) Tryz.f179 F279 = true := by kernel_rfl
theorem k280 (ρ : Nat → Int) (fx : List Fact) : chkFun Tryz.prog (nf ρ) (abi fx) Tryz.f180 F280 = true := by kernel_rfl
theorem k281 (ρ : Nat → Int) (fx : List Fact) : chkFun Tryz.prog (nf ρ) (abi fx) Tryz.f181 F281 = true := by kernel_rfl
theorem k282 (ρ : Nat → Int) (fx : List Fact) : chkFun Tryz.prog (nf ρ) (abi fx) Tryz.f182 F282 = true := by kernel_rfl
theorem k283 (ρ : Nat → Int) (fx : List Fact) : chkFun Tryz.prog (nf ρ) (abi fx) Tryz.f183 F283 = true := by kernel_rfl
theorem k284 (ρ : Nat → Int) (fx : List Fact) : chkFun Tryz.prog (nf ρ) (abi fx) Tryz.f184 F284 = true := by kernel_rfl
theorem k285 (ρ : Nat → Int) (fx : List Fact) : chkFun Tryz.prog (nf ρ) (abi fx) Tryz.f185 F285 = true := by kernel_rfl
theorem k286 (ρ : Nat → Int) (fx : List Fact) : chkFun Tryz.prog (nf ρ) (abi fx) Tryz.f186 F286 = true := by kernel_rfl
theorem k287 (ρ : Nat → Int) (fx : List Fact) : chkFun Tryz.prog (nf ρ) (abi fx) Tryz.f187 F287 = true := by kernel_rfl
theorem k288 (ρ : Nat → Int) (fx : List Fact) : chkFun Tryz.prog (nf ρ) (abi fx) Tryz.f188 F288 = true := by kernel_rfl
theorem k289 (ρ : Nat → Int) (fx : List Fact) : chkFun Tryz.prog (nf ρ) (abi fx) Tryz.f170 F289 = true := by kernel_rfl
theorem k300 (ρ : Nat → Int) (fx : List Fact) : chkFun Tryz.prog (nf ρ) (abi fx) Tryz.f122 F300 = true := by kernel_rfl
theorem k301 (ρ : Nat → Int) (fx : List Fact) : chkFun Tryz.prog (nf ρ) (abi fx) Tryz.f124 F301 = true := by kernel_rfl
theorem k302 (ρ : Nat → Int) (fx : List Fact) : chkFun Tryz.prog (nf ρ) (abi fx) Tryz.f125 F302 = true := by kernel_rfl
theorem k303 (ρ : Nat → Int) (fx : List Fact) : chkFun Tryz.prog (nf ρ) (abi fx) Tryz.f126 F303 = true := by kernel_rfl
theorem k304 (ρ : Nat → Int) (fx : List Fact) : chkFun Tryz.prog (nf ρ) (abi fx) Tryz.f127 F304 = true := by kernel_rfl
theorem k305 (ρ : Nat → Int) (fx : List Fact) : chkFun Tryz.prog (nf ρ) (abi fx) Tryz.f128 F305 = true := by kernel_rfl
theorem k306 (ρ : Nat → Int) (fx : List Fact) : chkFun Tryz.prog (nf ρ) (abi fx) Tryz.f129 F306 = true := by kernel_rfl
theorem k307 (ρ : Nat → Int) (fx : List Fact) : chkFun Tryz.prog (nf ρ) (abi fx) Tryz.f130 F307 = true := by kernel_rfl
theorem k308 (ρ : Nat → Int) (fx : List Fact) : chkFun Tryz.prog (nf ρ) (abi fx) Tryz.f131 F308 = true := by kernel_rfl
theorem k309 (ρ : Nat → Int) (fx : List Fact) : chkFun Tryz.prog (nf ρ) (abi fx) Tryz.f132 F309 = true := by kernel_rfl
theorem k310 (ρ : Nat → Int) (fx : List Fact) : chkFun Tryz.prog (nf ρ) (abi fx) Tryz.f133 F310 = true := by kernel_rfl
theorem k311 (ρ : Nat → Int) (fx : List Fact) : chkFun Tryz.prog (nf ρ) (abi fx) Tryz.f134 F311 = true := by kernel_rfl
theorem k312 (ρ : Nat → Int) (fx : List Fact) : chkFun Tryz.prog (nf ρ) (abi fx) Tryz.f135 F312 = true := by kernel_rfl
theorem k313 (ρ : Nat → Int) (fx : List Fact) : chkFun Tryz.prog (nf ρ) (abi fx) Tryz.f136 F313 = true := by kernel_rfl
theorem k314 (ρ : Nat → Int) (fx : List Fact) : chkFun Tryz.prog (nf ρ) (abi fx) Tryz.f139 F314 = true := by kernel_rfl
theorem k315 (ρ : Nat → Int) (fx : List Fact) : chkFun Tryz.prog (nf ρ) (abi fx) Tryz.f140 F315 = true := by kernel_rfl
theorem k316 (ρ : Nat → Int) (fx : List Fact) : chkFun Tryz.prog (nf ρ) (abi fx) Tryz.f192 F316 = true := by kernel_rfl
theorem k317 (ρ : Nat → Int) (fx : List Fact) : chkFun Tryz.prog (nf ρ) (abi fx) Tryz.f193 F317 = true := by kernel_rfl
theorem k318 (ρ : Nat → Int) (fx : List Fact) : chkFun Tryz.prog (nf ρ) (abi fx) Tryz.f194 F318 = true := by kernel_rfl
theorem k319 (ρ : Nat → Int) (fx : List Fact) : chkFun Tryz.prog (nf ρ) (abi fx) Tryz.f195 F319 = true := by kernel_rfl
theorem k320 (ρ : Nat → Int) (fx : List Fact) : chkFun Tryz.prog (nf ρ) (abi fx) Tryz.f196 F320 = true := by kernel_rfl
theorem k321 (ρ : Nat → Int) (fx : List Fact) : chkFun Tryz.prog (nf ρ) (abi fx) Tryz.f197 F321 = true := by kernel_rfl
theorem k322 (ρ : Nat → Int) (fx : List Fact) : chkFun Tryz.prog (nf ρ) (abi fx) Tryz.f198 F322 = true := by kernel_rfl
theorem k331 (ρ : Nat → Int) (fx : List Fact) : chkFun Tryz.prog (nf ρ) (abi fx) Tryz.f156 F331 = true := by kernel_rfl
theorem k332 (ρ : Nat → Int) (fx : List Fact) : chkFun Tryz.prog (nf ρ) (abi fx) Tryz.f157 F332 = true := by kernel_rfl
theorem k333 (ρ : Nat → Int) (fx : List Fact) : chkFun Tryz.prog (nf ρ) (abi fx) Tryz.f158 F333 = true := by kernel_rfl
theorem k334 (ρ : Nat → Int) (fx : List Fact) : chkFun Tryz.prog (nf ρ) (abi fx) Tryz.f159 F334 = true := by kernel_rfl
theorem k335 (ρ : Nat → Int) (fx : List Fact) : chkFun Tryz.prog (nf ρ) (abi fx) Tryz.f160 F335 = true := by kernel_rfl
theorem k336 (ρ : Nat → Int) (fx : List Fact) : chkFun Tryz.prog (nf ρ) (abi fx) Tryz.f161 F336 = true := by kernel_rfl
theorem k337 (ρ : Nat → Int) (fx : List Fact) : chkFun Tryz.prog (nf ρ) (abi fx) Tryz.f163 F337 = true := by kernel_rfl
theorem k338 (ρ : Nat → Int) (fx : List Fact) : chkFun Tryz.prog (nf ρ) (abi fx) Tryz.f164 F338 = true := by kernel_rfl
theorem k339 (ρ : Nat → Int) (fx : List Fact) : chkFun Tryz.prog (nf ρ) (abi fx) Tryz.f165 F339 = true := by kernel_rfl
theorem k340 (ρ : Nat → Int) (fx : List Fact) : chkFun Tryz.prog (nf ρ) (abi fx) Tryz.f166 F340 = true := by kernel_rfl
theorem k341 (ρ : Nat → Int) (fx : List Fact) : chkFun Tryz.prog (nf ρ) (abi fx) Tryz.f167 F341 = true := by kernel_rfl
theorem k342 (ρ : Nat → Int) (fx : List Fact) : chkFun Tryz.prog (nf ρ) (abi fx) Tryz.f168 F342 = true := by kernel_rfl
theorem k343 (ρ : Nat → Int) (fx : List Fact) : chkFun Tryz.prog (nf ρ) (abi fx) Tryz.f169 F343 = true := by kernel_rfl
theorem k344 (ρ : Nat → Int) (fx : List Fact) : chkFun Tryz.prog (nf ρ) (abi fx) Tryz.f189 F344 = true := by kernel_rfl
theorem k345 (ρ : Nat → Int) (fx : List Fact) : chkFun Tryz.prog (nf ρ) (abi fx) Tryz.f190 F345 = true := by kernel_rfl
theorem k346 (ρ : Nat → Int) (fx : List Fact) : chkFun Tryz.prog (nf ρ) (abi fx) Tryz.f191 F346 = true := by kernel_rfl
theorem k1007 (ρ : Nat → Int) (fx : List Fact) : chkFun Tryz.prog (nf ρ) (abi fx) Tryz.f4 F1007 = true := by kernel_rfl
theorem k1009 (ρ : Nat → Int) (fx : List Fact) : chkFun Tryz.prog (nf ρ) (abi fx) Tryz.f8 F1009 = true := by kernel_rfl
theorem k1010 (ρ : Nat → Int) (fx : List Fact) : chkFun Tryz.prog (nf ρ) (abi fx) Tryz.f9 F1010 = true := by kernel_rfl
end Fo.Tryz
