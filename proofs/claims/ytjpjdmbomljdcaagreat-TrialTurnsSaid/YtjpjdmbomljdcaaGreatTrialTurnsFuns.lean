/-
  The functions that TrialTurns reaches; each is looked at by the kernel.
-/
import Derived.Test.YtjpjdmbomljdcaaGreatTrialTurnsDefs
import Derived.Test.YtjpjdmbomljdcaaGreatProg
set_option maxRecDepth 100000
namespace Fo.Tryz
open Go Go.Proofs
def modes : Nat → List Mode
  | 9 => [.lend, .lend]
  | 17 => [.lend]
  | 22 => [.lend]
  | 23 => [.lend, .lend]
  | 42 => []
  | 43 => [.lend]
  | 44 => [.lend, .lend]
  | 45 => [.lend]
  | 46 => [.lend, .lend]
  | 47 => [.lend, .lend, .lend]
  | 70 => [.lend]
  | 71 => [.bor]
  | 72 => [.bor]
  | 73 => [.bor]
  | 74 => [.bor]
  | 75 => [.bor]
  | 76 => [.bor]
  | 77 => [.bor]
  | 78 => [.bor]
  | 79 => [.bor]
  | 80 => [.bor]
  | 81 => [.lend]
  | 82 => [.lend]
  | 83 => [.bor]
  | 84 => [.bor]
  | 85 => [.bor]
  | 86 => [.bor]
  | 87 => [.lend]
  | 88 => [.lend, .lend]
  | 89 => [.bor, .lend]
  | 90 => [.give, .lend, .lend]
  | 91 => [.give, .lend, .lend]
  | 92 => [.lend, .lend, .lend]
  | 121 => [.lend, .lend, .lend]
  | 122 => [.lend, .lend]
  | 123 => [.lend]
  | 124 => [.bor, .lend]
  | 125 => [.lend, .lend]
  | 126 => [.bor, .lend, .lend, .lend]
  | 127 => [.lend, .lend, .lend]
  | 128 => [.lend, .lend]
  | 129 => [.lend, .lend]
  | 130 => [.lend, .lend, .lend]
  | 131 => [.lend, .lend]
  | 132 => [.lend]
  | 133 => [.lend]
  | 134 => [.lend]
  | 135 => [.lend]
  | 136 => [.lend]
  | 137 => [.lend]
  | 138 => [.lend, .lend]
  | 139 => [.bor, .lend]
  | 140 => [.bor, .lend]
  | 141 => [.lend]
  | 142 => [.lend, .lend]
  | 143 => [.lend]
  | 144 => [.lend, .lend]
  | 145 => [.lend, .lend, .lend]
  | 146 => [.lend]
  | 147 => [.bor, .bor]
  | 148 => [.bor, .bor]
  | 149 => [.lend]
  | 150 => [.lend]
  | 151 => [.lend, .lend, .lend]
  | 152 => [.lend, .lend]
  | 154 => [.lend, .lend]
  | 155 => [.lend]
  | 191 => [.lend]
  | 192 => [.lend]
  | 193 => [.lend]
  | 194 => [.lend, .lend]
  | 195 => [.lend]
  | 196 => [.give, .lend, .lend]
  | 197 => [.lend, .lend]
  | 198 => [.lend]
  | 199 => [.lend]
  | 200 => [.lend, .lend]
  | 201 => [.lend, .lend]
  | 202 => [.lend]
  | 203 => [.lend]
  | 204 => [.lend, .lend]
  | 205 => [.bor, .lend]
  | 206 => [.lend, .lend]
  | 207 => [.lend]
  | 208 => [.lend]
  | 209 => [.lend, .lend]
  | 210 => [.lend]
  | 211 => [.lend, .lend]
  | 212 => [.lend]
  | 213 => [.lend, .lend]
  | 214 => [.lend]
  | 215 => [.lend]
  | 216 => [.lend, .lend]
  | 217 => [.lend, .lend]
  | 218 => [.lend]
  | 219 => [.give, .lend]
  | 220 => [.lend]
  | 221 => [.lend, .lend, .lend]
  | 222 => [.lend]
  | 223 => [.lend, .lend]
  | 224 => [.lend, .lend]
  | 225 => [.lend, .lend, .lend]
  | 226 => [.lend, .lend, .lend]
  | 227 => [.bor, .bor]
  | 228 => [.lend, .lend, .lend]
  | 229 => [.lend]
  | 230 => [.lend, .lend]
  | 246 => [.lend]
  | 247 => [.lend, .lend, .lend]
  | 248 => [.lend]
  | 249 => [.lend]
  | 250 => [.lend]
  | 251 => [.lend]
  | 253 => [.lend, .lend]
  | 254 => [.lend, .lend, .lend]
  | 255 => [.lend]
  | 256 => [.lend, .lend]
  | 257 => [.lend]
  | 258 => [.lend, .lend]
  | 259 => [.lend]
  | 260 => [.lend, .lend]
  | 261 => [.give, .lend]
  | 262 => [.lend]
  | 263 => [.lend]
  | 264 => [.lend, .lend]
  | 265 => [.lend]
  | 266 => [.lend, .lend]
  | 267 => [.lend]
  | 268 => [.lend]
  | 269 => [.lend]
  | 270 => [.lend]
  | 271 => [.lend, .lend, .lend]
  | 272 => [.lend, .lend]
  | 273 => [.lend, .lend]
  | 274 => [.lend, .lend]
  | 275 => [.lend, .lend, .lend]
  | 276 => [.lend, .lend, .lend]
  | 277 => [.lend, .lend]
  | 278 => [.lend]
  | 279 => [.lend]
  | 280 => [.lend, .lend]
  | 281 => [.lend]
  | 282 => [.lend, .lend]
  | 283 => [.lend, .lend]
  | 284 => [.lend]
  | 285 => [.give, .lend, .lend]
  | 286 => [.lend, .lend]
  | 287 => [.lend]
  | 288 => [.lend, .lend]
  | 289 => [.lend]
  | 300 => [.lend]
  | 301 => [.lend]
  | 302 => [.lend]
  | 303 => [.lend]
  | 304 => [.lend]
  | 305 => [.lend, .lend]
  | 306 => [.lend]
  | 307 => [.lend]
  | 308 => [.lend]
  | 309 => [.lend, .lend]
  | 310 => [.lend]
  | 311 => [.bor, .lend, .lend]
  | 312 => [.lend, .lend]
  | 313 => [.lend]
  | 314 => [.lend]
  | 315 => [.give, .lend]
  | 316 => [.lend, .lend]
  | 317 => [.lend]
  | 318 => [.lend]
  | 319 => [.lend]
  | 320 => [.lend, .lend]
  | 321 => [.lend, .lend]
  | 322 => [.lend]
  | 331 => [.lend]
  | 332 => [.lend, .lend]
  | 333 => [.lend, .lend]
  | 334 => [.lend, .lend]
  | 335 => [.lend]
  | 336 => [.lend]
  | 337 => [.lend]
  | 338 => [.lend]
  | 339 => [.lend]
  | 340 => [.lend, .lend]
  | 341 => [.lend, .lend]
  | 342 => [.lend, .lend]
  | 343 => [.give, .lend]
  | 344 => [.lend, .lend]
  | 345 => [.lend]
  | 346 => [.lend]
  | 1009 => []
  | 1016 => [.lend, .lend, .lend]
  | _ => []
def abi (fx : List Fact) : Abi := ⟨modes, fx⟩
def tblL : List (Nat × FuncId) := [(9, 22), (17, 21), (22, 10), (23, 23), (42, 25), (43, 26), (44, 19), (45, 13), (46, 61), (47, 12), (70, 63), (71, 50), (72, 51), (73, 52), (74, 53), (75, 54), (76, 55), (77, 56), (78, 57), (79, 58), (80, 59), (81, 60), (82, 28), (83, 33), (84, 34), (85, 35), (86, 36), (87, 112), (88, 113), (89, 29), (90, 30), (91, 31), (92, 32), (121, 103), (122, 104), (123, 14), (124, 105), (125, 106), (126, 107), (127, 71), (128, 108), (129, 109), (130, 110), (131, 111), (132, 65), (133, 66), (134, 67), (135, 68), (136, 69), (137, 70), (138, 72), (139, 78), (140, 79), (141, 80), (142, 81), (143, 62), (144, 82), (145, 83), (146, 24), (147, 84), (148, 85), (149, 157), (150, 115), (151, 73), (152, 74), (154, 76), (155, 77), (191, 209), (192, 144), (193, 145), (194, 88), (195, 146), (196, 147), (197, 148), (198, 149), (199, 114), (200, 121), (201, 37), (202, 38), (203, 39), (204, 40), (205, 41), (206, 150), (207, 151), (208, 116), (209, 152), (210, 153), (211, 154), (212, 155), (213, 156), (214, 122), (215, 117), (216, 119), (217, 120), (218, 123), (219, 124), (220, 125), (221, 126), (222, 127), (223, 128), (224, 129), (225, 130), (226, 131), (227, 132), (228, 133), (229, 158), (230, 118), (246, 230), (247, 231), (248, 191), (249, 192), (250, 193), (251, 194), (253, 196), (254, 197), (255, 198), (256, 199), (257, 200), (258, 201), (259, 202), (260, 86), (261, 87), (262, 89), (263, 90), (264, 203), (265, 159), (266, 204), (267, 165), (268, 166), (269, 167), (270, 161), (271, 162), (272, 163), (273, 164), (274, 168), (275, 169), (276, 170), (277, 171), (278, 172), (279, 173), (280, 174), (281, 175), (282, 176), (283, 177), (284, 178), (285, 179), (286, 180), (287, 181), (288, 182), (289, 160), (300, 215), (301, 216), (302, 217), (303, 218), (304, 219), (305, 220), (306, 221), (307, 222), (308, 223), (309, 224), (310, 225), (311, 226), (312, 227), (313, 228), (314, 229), (315, 205), (316, 206), (317, 207), (318, 208), (319, 210), (320, 211), (321, 212), (322, 213), (331, 232), (332, 233), (333, 234), (334, 235), (335, 236), (336, 237), (337, 238), (338, 239), (339, 240), (340, 241), (341, 242), (342, 243), (343, 244), (344, 245), (345, 246), (346, 247), (1009, 20), (1016, 8)]
def tbl (f : Nat) : Option FuncId := tblL.lookup f
noncomputable def nf (ρ : Nat → Int) : Nm := ⟨tbl, ρ, fun f ns => if f = 265 then sealN (abi []) ns else 0⟩
theorem k9 (ρ : Nat → Int) (fx : List Fact) : chkFun Tryz.prog (nf ρ) (abi fx) Tryz.f22 F9 = true := by kernel_rfl
theorem k17 (ρ : Nat → Int) (fx : List Fact) : chkFun Tryz.prog (nf ρ) (abi fx) Tryz.f21 F17 = true := by kernel_rfl
theorem k22 (ρ : Nat → Int) (fx : List Fact) : chkFun Tryz.prog (nf ρ) (abi fx) Tryz.f10 F22 = true := by kernel_rfl
theorem k23 (ρ : Nat → Int) (fx : List Fact) : chkFun Tryz.prog (nf ρ) (abi fx) Tryz.f23 F23 = true := by kernel_rfl
theorem k42 (ρ : Nat → Int) (fx : List Fact) : chkFun Tryz.prog (nf ρ) (abi fx) Tryz.f25 F42 = true := by kernel_rfl
theorem k43 (ρ : Nat → Int) (fx : List Fact) : chkFun Tryz.prog (nf ρ) (abi fx) Tryz.f26 F43 = true := by kernel_rfl
theorem k44 (ρ : Nat → Int) (fx : List Fact) : chkFun Tryz.prog (nf ρ) (abi fx) Tryz.f19 F44 = true := by kernel_rfl
theorem k45 (ρ : Nat → Int) (fx : List Fact) : chkFun Tryz.prog (nf ρ) (abi fx) Tryz.f13 F45 = true := by kernel_rfl
theorem k46 (ρ : Nat → Int) (fx : List Fact) : chkFun Tryz.prog (nf ρ) (abi fx) Tryz.f61 F46 = true := by kernel_rfl
theorem k47 (ρ : Nat → Int) (fx : List Fact) : chkFun Tryz.prog (nf ρ) (abi fx) Tryz.f12 F47 = true := by kernel_rfl
theorem k70 (ρ : Nat → Int) (fx : List Fact) : chkFun Tryz.prog (nf ρ) (abi fx) Tryz.f63 F70 = true := by kernel_rfl
theorem k71 (ρ : Nat → Int) (fx : List Fact) : chkFun Tryz.prog (nf ρ) (abi fx) Tryz.f50 F71 = true := by kernel_rfl
theorem k72 (ρ : Nat → Int) (fx : List Fact) : chkFun Tryz.prog (nf ρ) (abi fx) Tryz.f51 F72 = true := by kernel_rfl
theorem k73 (ρ : Nat → Int) (fx : List Fact) : chkFun Tryz.prog (nf ρ) (abi fx) Tryz.f52 F73 = true := by kernel_rfl
theorem k74 (ρ : Nat → Int) (fx : List Fact) : chkFun Tryz.prog (nf ρ) (abi fx) Tryz.f53 F74 = true := by kernel_rfl
theorem k75 (ρ : Nat → Int) (fx : List Fact) : chkFun Tryz.prog (nf ρ) (abi fx) Tryz.f54 F75 = true := by kernel_rfl
theorem k76 (ρ : Nat → Int) (fx : List Fact) : chkFun Tryz.prog (nf ρ) (abi fx) Tryz.f55 F76 = true := by kernel_rfl
theorem k77 (ρ : Nat → Int) (fx : List Fact) : chkFun Tryz.prog (nf ρ) (abi fx) Tryz.f56 F77 = true := by kernel_rfl
theorem k78 (ρ : Nat → Int) (fx : List Fact) : chkFun Tryz.prog (nf ρ) (abi fx) Tryz.f57 F78 = true := by kernel_rfl
theorem k79 (ρ : Nat → Int) (fx : List Fact) : chkFun Tryz.prog (nf ρ) (abi fx) Tryz.f58 F79 = true := by kernel_rfl
theorem k80 (ρ : Nat → Int) (fx : List Fact) : chkFun Tryz.prog (nf ρ) (abi fx) Tryz.f59 F80 = true := by kernel_rfl
theorem k81 (ρ : Nat → Int) (fx : List Fact) : chkFun Tryz.prog (nf ρ) (abi fx) Tryz.f60 F81 = true := by kernel_rfl
theorem k82 (ρ : Nat → Int) (fx : List Fact) : chkFun Tryz.prog (nf ρ) (abi fx) Tryz.f28 F82 = true := by kernel_rfl
theorem k83 (ρ : Nat → Int) (fx : List Fact) : chkFun Tryz.prog (nf ρ) (abi fx) Tryz.f33 F83 = true := by kernel_rfl
theorem k84 (ρ : Nat → Int) (fx : List Fact) : chkFun Tryz.prog (nf ρ) (abi fx) Tryz.f34 F84 = true := by kernel_rfl
theorem k85 (ρ : Nat → Int) (fx : List Fact) : chkFun Tryz.prog (nf ρ) (abi fx) Tryz.f35 F85 = true := by kernel_rfl
theorem k86 (ρ : Nat → Int) (fx : List Fact) : chkFun Tryz.prog (nf ρ) (abi fx) Tryz.f36 F86 = true := by kernel_rfl
theorem k87 (ρ : Nat → Int) (fx : List Fact) : chkFun Tryz.prog (nf ρ) (abi fx) Tryz.f112 F87 = true := by kernel_rfl
theorem k88 (ρ : Nat → Int) (fx : List Fact) : chkFun Tryz.prog (nf ρ) (abi fx) Tryz.f113 F88 = true := by kernel_rfl
theorem k89 (ρ : Nat → Int) (fx : List Fact) : chkFun Tryz.prog (nf ρ) (abi fx) Tryz.f29 F89 = true := by kernel_rfl
theorem k90 (ρ : Nat → Int) (fx : List Fact) : chkFun Tryz.prog (nf ρ) (abi fx) Tryz.f30 F90 = true := by kernel_rfl
theorem k91 (ρ : Nat → Int) (fx : List Fact) : chkFun Tryz.prog (nf ρ) (abi fx) Tryz.f31 F91 = true := by kernel_rfl
theorem k92 (ρ : Nat → Int) (fx : List Fact) : chkFun Tryz.prog (nf ρ) (abi fx) Tryz.f32 F92 = true := by kernel_rfl
theorem k121 (ρ : Nat → Int) (fx : List Fact) : chkFun Tryz.prog (nf ρ) (abi fx) Tryz.f103 F121 = true := by kernel_rfl
theorem k122 (ρ : Nat → Int) (fx : List Fact) : chkFun Tryz.prog (nf ρ) (abi fx) Tryz.f104 F122 = true := by kernel_rfl
theorem k123 (ρ : Nat → Int) (fx : List Fact) : chkFun Tryz.prog (nf ρ) (abi fx) Tryz.f14 F123 = true := by kernel_rfl
theorem k124 (ρ : Nat → Int) (fx : List Fact) : chkFun Tryz.prog (nf ρ) (abi fx) Tryz.f105 F124 = true := by kernel_rfl
theorem k125 (ρ : Nat → Int) (fx : List Fact) : chkFun Tryz.prog (nf ρ) (abi fx) Tryz.f106 F125 = true := by kernel_rfl
theorem k126 (ρ : Nat → Int) (fx : List Fact) : chkFun Tryz.prog (nf ρ) (abi fx) Tryz.f107 F126 = true := by kernel_rfl
theorem k127 (ρ : Nat → Int) (fx : List Fact) : chkFun Tryz.prog (nf ρ) (abi fx) Tryz.f71 F127 = true := by kernel_rfl
theorem k128 (ρ : Nat → Int) (fx : List Fact) : chkFun Tryz.prog (nf ρ) (abi fx) Tryz.f108 F128 = true := by kernel_rfl
theorem k129 (ρ : Nat → Int) (fx : List Fact) : chkFun Tryz.prog (nf ρ) (abi fx) Tryz.f109 F129 = true := by kernel_rfl
theorem k130 (ρ : Nat → Int) (fx : List Fact) : chkFun Tryz.prog (nf ρ) (abi fx) Tryz.f110 F130 = true := by kernel_rfl
theorem k131 (ρ : Nat → Int) (fx : List Fact) : chkFun Tryz.prog (nf ρ) (abi fx) Tryz.f111 F131 = true := by kernel_rfl
theorem k132 (ρ : Nat → Int) (fx : List Fact) : chkFun Tryz.prog (nf ρ) (abi fx) Tryz.f65 F132 = true := by kernel_rfl
theorem k133 (ρ : Nat → Int) (fx : List Fact) : chkFun Tryz.prog (nf ρ) (abi fx) Tryz.f66 F133 = true := by kernel_rfl
theorem k134 (ρ : Nat → Int) (fx : List Fact) : chkFun Tryz.prog (nf ρ) (abi fx) Tryz.f67 F134 = true := by kernel_rfl
theorem k135 (ρ : Nat → Int) (fx : List Fact) : chkFun Tryz.prog (nf ρ) (abi fx) Tryz.f68 F135 = true := by kernel_rfl
theorem k136 (ρ : Nat → Int) (fx : List Fact) : chkFun Tryz.prog (nf ρ) (abi fx) Tryz.f69 F136 = true := by kernel_rfl
theorem k137 (ρ : Nat → Int) (fx : List Fact) : chkFun Tryz.prog (nf ρ) (abi fx) Tryz.f70 F137 = true := by kernel_rfl
theorem k138 (ρ : Nat → Int) (fx : List Fact) : chkFun Tryz.prog (nf ρ) (abi fx) Tryz.f72 F138 = true := by kernel_rfl
theorem k139 (ρ : Nat → Int) (fx : List Fact) : chkFun Tryz.prog (nf ρ) (abi fx) Tryz.f78 F139 = true := by kernel_rfl
theorem k140 (ρ : Nat → Int) (fx : List Fact) : chkFun Tryz.prog (nf ρ) (abi fx) Tryz.f79 F140 = true := by kernel_rfl
theorem k141 (ρ : Nat → Int) (fx : List Fact) : chkFun Tryz.prog (nf ρ) (abi fx) Tryz.f80 F141 = true := by kernel_rfl
theorem k142 (ρ : Nat → Int) (fx : List Fact) : chkFun Tryz.prog (nf ρ) (abi fx) Tryz.f81 F142 = true := by kernel_rfl
theorem k143 (ρ : Nat → Int) (fx : List Fact) : chkFun Tryz.prog (nf ρ) (abi fx) Tryz.f62 F143 = true := by kernel_rfl
theorem k144 (ρ : Nat → Int) (fx : List Fact) : chkFun Tryz.prog (nf ρ) (abi fx) Tryz.f82 F144 = true := by kernel_rfl
theorem k145 (ρ : Nat → Int) (fx : List Fact) : chkFun Tryz.prog (nf ρ) (abi fx) Tryz.f83 F145 = true := by kernel_rfl
theorem k146 (ρ : Nat → Int) (fx : List Fact) : chkFun Tryz.prog (nf ρ) (abi fx) Tryz.f24 F146 = true := by kernel_rfl
theorem k147 (ρ : Nat → Int) (fx : List Fact) : chkFun Tryz.prog (nf ρ) (abi fx) Tryz.f84 F147 = true := by kernel_rfl
theorem k148 (ρ : Nat → Int) (fx : List Fact) : chkFun Tryz.prog (nf ρ) (abi fx) Tryz.f85 F148 = true := by kernel_rfl
theorem k149 (ρ : Nat → Int) (fx : List Fact) : chkFun Tryz.prog (nf ρ) (abi fx) Tryz.f157 F149 = true := by kernel_rfl
theorem k150 (ρ : Nat → Int) (fx : List Fact) : chkFun Tryz.prog (nf ρ) (abi fx) Tryz.f115 F150 = true := by kernel_rfl
theorem k151 (ρ : Nat → Int) (fx : List Fact) : chkFun Tryz.prog (nf ρ) (abi fx) Tryz.f73 F151 = true := by kernel_rfl
theorem k152 (ρ : Nat → Int) (fx : List Fact) : chkFun Tryz.prog (nf ρ) (abi fx) Tryz.f74 F152 = true := by kernel_rfl
theorem k154 (ρ : Nat → Int) (fx : List Fact) : chkFun Tryz.prog (nf ρ) (abi fx) Tryz.f76 F154 = true := by kernel_rfl
theorem k155 (ρ : Nat → Int) (fx : List Fact) : chkFun Tryz.prog (nf ρ) (abi fx) Tryz.f77 F155 = true := by kernel_rfl
theorem k191 (ρ : Nat → Int) (fx : List Fact) : chkFun Tryz.prog (nf ρ) (abi fx) Tryz.f209 F191 = true := by kernel_rfl
theorem k192 (ρ : Nat → Int) (fx : List Fact) : chkFun Tryz.prog (nf ρ) (abi fx) Tryz.f144 F192 = true := by kernel_rfl
theorem k193 (ρ : Nat → Int) (fx : List Fact) : chkFun Tryz.prog (nf ρ) (abi fx) Tryz.f145 F193 = true := by kernel_rfl
theorem k194 (ρ : Nat → Int) (fx : List Fact) : chkFun Tryz.prog (nf ρ) (abi fx) Tryz.f88 F194 = true := by kernel_rfl
theorem k195 (ρ : Nat → Int) (fx : List Fact) : chkFun Tryz.prog (nf ρ) (abi fx) Tryz.f146 F195 = true := by kernel_rfl
theorem k196 (ρ : Nat → Int) (fx : List Fact) : chkFun Tryz.prog (nf ρ) (abi fx) Tryz.f147 F196 = true := by kernel_rfl
theorem k197 (ρ : Nat → Int) (fx : List Fact) : chkFun Tryz.prog (nf ρ) (abi fx) Tryz.f148 F197 = true := by kernel_rfl
theorem k198 (ρ : Nat → Int) (fx : List Fact) : chkFun Tryz.prog (nf ρ) (abi fx) Tryz.f149 F198 = true := by kernel_rfl
theorem k199 (ρ : Nat → Int) (fx : List Fact) : chkFun Tryz.prog (nf ρ) (abi fx) Tryz.f114 F199 = true := by kernel_rfl
theorem k200 (ρ : Nat → Int) (fx : List Fact) : chkFun Tryz.prog (nf ρ) (abi fx) Tryz.f121 F200 = true := by kernel_rfl
theorem k201 (ρ : Nat → Int) (fx : List Fact) : chkFun Tryz.prog (nf ρ) (abi fx) Tryz.f37 F201 = true := by kernel_rfl
theorem k202 (ρ : Nat → Int) (fx : List Fact) : chkFun Tryz.prog (nf ρ) (abi fx) Tryz.f38 F202 = true := by kernel_rfl
theorem k203 (ρ : Nat → Int) (fx : List Fact) : chkFun Tryz.prog (nf ρ) (abi fx) Tryz.f39 F203 = true := by kernel_rfl
theorem k204 (ρ : Nat → Int) (fx : List Fact) : chkFun Tryz.prog (nf ρ) (abi fx) Tryz.f40 F204 = true := by kernel_rfl
theorem k205 (ρ : Nat → Int) (fx : List Fact) : chkFun Tryz.prog (nf ρ) (abi fx) Tryz.f41 F205 = true := by kernel_rfl
theorem k206 (ρ : Nat → Int) (fx : List Fact) : chkFun Tryz.prog (nf ρ) (abi fx) Tryz.f150 F206 = true := by kernel_rfl
theorem k207 (ρ : Nat → Int) (fx : List Fact) : chkFun Tryz.prog (nf ρ) (abi fx) Tryz.f151 F207 = true := by kernel_rfl
theorem k208 (ρ : Nat → Int) (fx : List Fact) : chkFun Tryz.prog (nf ρ) (abi fx) Tryz.f116 F208 = true := by kernel_rfl
theorem k209 (ρ : Nat → Int) (fx : List Fact) : chkFun Tryz.prog (nf ρ) (abi fx) Tryz.f152 F209 = true := by kernel_rfl
theorem k210 (ρ : Nat → Int) (fx : List Fact) : chkFun Tryz.prog (nf ρ) (abi fx) Tryz.f153 F210 = true := by kernel_rfl
theorem k211 (ρ : Nat → Int) (fx : List Fact) : chkFun Tryz.prog (nf ρ) (abi fx) Tryz.f154 F211 = true := by kernel_rfl
theorem k212 (ρ : Nat → Int) (fx : List Fact) : chkFun Tryz.prog (nf ρ) (abi fx) Tryz.f155 F212 = true := by kernel_rfl
theorem k213 (ρ : Nat → Int) (fx : List Fact) : chkFun Tryz.prog (nf ρ) (abi fx) Tryz.f156 F213 = true := by kernel_rfl
theorem k214 (ρ : Nat → Int) (fx : List Fact) : chkFun Tryz.prog (nf ρ) (abi fx) Tryz.f122 F214 = true := by kernel_rfl
theorem k215 (ρ : Nat → Int) (fx : List Fact) : chkFun Tryz.prog (nf ρ) (abi fx) Tryz.f117 F215 = true := by kernel_rfl
theorem k216 (ρ : Nat → Int) (fx : List Fact) : chkFun Tryz.prog (nf ρ) (abi fx) Tryz.f119 F216 = true := by kernel_rfl
theorem k217 (ρ : Nat → Int) (fx : List Fact) : chkFun Tryz.prog (nf ρ) (abi fx) Tryz.f120 F217 = true := by kernel_rfl
theorem k218 (ρ : Nat → Int) (fx : List Fact) : chkFun Tryz.prog (nf ρ) (abi fx) Tryz.f123 F218 = true := by kernel_rfl
theorem k219 (ρ : Nat → Int) (fx : List Fact) : chkFun Tryz.prog (nf ρ) (abi fx) Tryz.f124 F219 = true := by kernel_rfl
theorem k220 (ρ : Nat → Int) (fx : List Fact) : chkFun Tryz.prog (nf ρ) (abi fx) Tryz.f125 F220 = true := by kernel_rfl
theorem k221 (ρ : Nat → Int) (fx : List Fact) : chkFun Tryz.prog (nf ρ) (abi fx) Tryz.f126 F221 = true := by kernel_rfl
theorem k222 (ρ : Nat → Int) (fx : List Fact) : chkFun Tryz.prog (nf ρ) (abi fx) Tryz.f127 F222 = true := by kernel_rfl
theorem k223 (ρ : Nat → Int) (fx : List Fact) : chkFun Tryz.prog (nf ρ) (abi fx) Tryz.f128 F223 = true := by kernel_rfl
theorem k224 (ρ : Nat → Int) (fx : List Fact) : chkFun Tryz.prog (nf ρ) (abi fx) Tryz.f129 F224 = true := by kernel_rfl
theorem k225 (ρ : Nat → Int) (fx : List Fact) : chkFun Tryz.prog (nf ρ) (abi fx) Tryz.f130 F225 = true := by kernel_rfl
theorem k226 (ρ : Nat → Int) (fx : List Fact) : chkFun Tryz.prog (nf ρ) (abi fx) Tryz.f131 F226 = true := by kernel_rfl
theorem k227 (ρ : Nat → Int) (fx : List Fact) : chkFun Tryz.prog (nf ρ) (abi fx) Tryz.f132 F227 = true := by kernel_rfl
theorem k228 (ρ : Nat → Int) (fx : List Fact) : chkFun Tryz.prog (nf ρ) (abi fx) Tryz.f133 F228 = true := by kernel_rfl
theorem k229 (ρ : Nat → Int) (fx : List Fact) : chkFun Tryz.prog (nf ρ) (abi fx) Tryz.f158 F229 = true := by kernel_rfl
theorem k230 (ρ : Nat → Int) (fx : List Fact) : chkFun Tryz.prog (nf ρ) (abi fx) Tryz.f118 F230 = true := by kernel_rfl
theorem k246 (ρ : Nat → Int) (fx : List Fact) : chkFun Tryz.prog (nf ρ) (abi fx) Tryz.f230 F246 = true := by kernel_rfl
theorem k247 (ρ : Nat → Int) (fx : List Fact) : chkFun Tryz.prog (nf ρ) (abi fx) Tryz.f231 F247 = true := by kernel_rfl
theorem k248 (ρ : Nat → Int) (fx : List Fact) : chkFun Tryz.prog (nf ρ) (abi fx) Tryz.f191 F248 = true := by kernel_rfl
theorem k249 (ρ : Nat → Int) (fx : List Fact) : chkFun Tryz.prog (nf ρ) (abi fx) Tryz.f192 F249 = true := by kernel_rfl
theorem k250 (ρ : Nat → Int) (fx : List Fact) : chkFun Tryz.prog (nf ρ) (abi fx) Tryz.f193 F250 = true := by kernel_rfl
theorem k251 (ρ : Nat → Int) (fx : List Fact) : chkFun Tryz.prog (nf ρ) (abi fx) Tryz.f194 F251 = true := by kernel_rfl
theorem k253 (ρ : Nat → Int) (fx : List Fact) : chkFun Tryz.prog (nf ρ) (abi fx) Tryz.f196 F253 = true := by kernel_rfl
theorem k254 (ρ : Nat → Int) (fx : List Fact) : chkFun Tryz.prog (nf ρ) (abi fx) Tryz.f197 F254 = true := by kernel_rfl
theorem k255 (ρ : Nat → Int) (fx : List Fact) : chkFun Tryz.prog (nf ρ) (abi fx) Tryz.f198 F255 = true := by kernel_rfl
theorem k256 (ρ : Nat → Int) (fx : List Fact) : chkFun Tryz.prog (nf ρ) (abi fx) Tryz.f199 F256 = true := by kernel_rfl
theorem k257 (ρ : Nat → Int) (fx : List Fact) : chkFun Tryz.prog (nf ρ) (abi fx) Tryz.f200 F257 = true := by kernel_rfl
theorem k258 (ρ : Nat → Int) (fx : List Fact) : chkFun Tryz.prog (nf ρ) (abi fx) Tryz.f201 F258 = true := by kernel_rfl
theorem k259 (ρ : Nat → Int) (fx : List Fact) : chkFun Tryz.prog (nf ρ) (abi fx) Tryz.f202 F259 = true := by kernel_rfl
theorem k260 (ρ : Nat → Int) (fx : List Fact) : chkFun Tryz.prog (nf ρ) (abi fx) Tryz.f86 F260 = true := by kernel_rfl
theorem k261 (ρ : Nat → Int) (fx : List Fact) : chkFun Tryz.prog (nf ρ) (abi fx) Tryz.f87 F261 = true := by kernel_rfl
theorem k262 (ρ : Nat → Int) (fx : List Fact) : chkFun Tryz.prog (nf ρ) (abi fx) Tryz.f89 F262 = true := by kernel_rfl
theorem k263 (ρ : Nat → Int) (fx : List Fact) : chkFun Tryz.prog (nf ρ) (abi fx) Tryz.f90 F263 = true := by kernel_rfl
theorem k264 (ρ : Nat → Int) (fx : List Fact) : chkFun Tryz.prog (nf ρ) (abi fx) Tryz.f203 F264 = true := by kernel_rfl
theorem k265 (ρ : Nat → Int) (fx : List Fact) : chkFun Tryz.prog (nf ρ) (abi fx) Tryz.f159 F265 = true := by kernel_rfl
theorem k266 (ρ : Nat → Int) (fx : List Fact) : chkFun Tryz.prog (nf ρ) (abi fx) Tryz.f204 F266 = true := by kernel_rfl
theorem k267 (ρ : Nat → Int) (fx : List Fact) : chkFun Tryz.prog (nf ρ) (abi fx) Tryz.f165 F267 = true := by kernel_rfl
theorem k268 (ρ : Nat → Int) (fx : List Fact) : chkFun Tryz.prog (nf ρ) (abi fx) Tryz.f166 F268 = true := by kernel_rfl
theorem k269 (ρ : Nat → Int) (fx : List Fact) : chkFun Tryz.prog (nf ρ) (abi fx) Tryz.f167 F269 = true := by kernel_rfl
theorem k270 (ρ : Nat → Int) (fx : List Fact) : chkFun Tryz.prog (nf ρ) (abi fx) Tryz.f161 F270 = true := by kernel_rfl
theorem k271 (ρ : Nat → Int) (fx : List Fact) : chkFun Tryz.prog (nf ρ) (abi fx) Tryz.f162 F271 = true := by kernel_rfl
theorem k272 (ρ : Nat → Int) (fx : List Fact) : chkFun Tryz.prog (nf ρ) (abi fx) Tryz.f163 F272 = true := by kernel_rfl
theorem k273 (ρ : Nat → Int) (fx : List Fact) : chkFun Tryz.prog (nf ρ) (abi fx) Tryz.f164 F273 = true := by kernel_rfl
theorem k274 (ρ : Nat → Int) (fx : List Fact) : chkFun Tryz.prog (nf ρ) (abi fx) Tryz.f168 F274 = true := by kernel_rfl
theorem k275 (ρ : Nat → Int) (fx : List Fact) : chkFun Tryz.prog (nf ρ) (abi fx) Tryz.f169 F275 = true := by kernel_rfl
theorem k276 (ρ : Nat → Int) (fx : List Fact) : chkFun Tryz.prog (nf ρ) (abi fx) Tryz.f170 F276 = true := by kernel_rfl
theorem k277 (ρ : Nat → Int) (fx : List Fact) : chkFun Tryz.prog (nf ρ) (abi fx) Tryz.f171 F277 = true := by kernel_rfl
theorem k278 (ρ : Nat → Int) (fx : List Fact) : chkFun Tryz.prog (nf ρ) (abi fx) Tryz.f172 F278 = true := by kernel_rfl
theorem k279 (ρ : Nat → Int) (fx : List Fact) : chkFun Tryz.prog (nf ρ) (abi fx) Tryz.f173 F279 = true := by kernel_rfl
theorem k280 (ρ : Nat → Int) (fx : List Fact) : chkFun Tryz.prog (nf ρ) (abi fx) Tryz.f174 F280 = true := by kernel_rfl
theorem k281 (ρ : Nat → Int) (fx : List Fact) : chkFun Tryz.prog (nf ρ) (abi fx) Tryz.f175 F281 = true := by kernel_rfl
theorem k282 (ρ : Nat → Int) (fx : List Fact) : chkFun Tryz.prog (nf ρ) (abi fx) Tryz.f176 F282 = true := by kernel_rfl
theorem k283 (ρ : Nat → Int) (fx : List Fact) : chkFun Tryz.prog (nf ρ) (abi fx) Tryz.f177 F283 = true := by kernel_rfl
theorem k284 (ρ : Nat → Int) (fx : List Fact) : chkFun Tryz.prog (nf ρ) (abi fx) Tryz.f178 F284 = true := by kernel_rfl
theorem k285 (ρ : Nat → Int) (fx : List Fact) : chkFun Tryz.prog (nf ρ) (abi fx) Tryz.f179 F285 = true := by kernel_rfl
theorem k286 (ρ : Nat → Int) (fx : List Fact) : chkFun Tryz.prog (nf ρ) (abi fx) Tryz.f180 F286 = true := by kernel_rfl
theorem k287 (ρ : Nat → Int) (fx : List Fact) : chkFun Tryz.prog (nf ρ) (abi fx) Tryz.f181 F287 = true := by kernel_rfl
theorem k288 (ρ : Nat → Int) (fx : List Fact) : chkFun Tryz.prog (nf ρ) (abi fx) Tryz.f182 F288 = true := by kernel_rfl
theorem k289 (ρ : Nat → Int) (fx : List Fact) : chkFun Tryz.prog (nf ρ) (abi fx) Tryz.f160 F289 = true := by kernel_rfl
theorem k300 (ρ : Nat → Int) (fx : List Fact) : chkFun Tryz.prog (nf ρ) (abi fx) Tryz.f215 F300 = true := by kernel_rfl
theorem k301 (ρ : Nat → Int) (fx : List Fact) : chkFun Tryz.prog (nf ρ) (abi fx) Tryz.f216 F301 = true := by kernel_rfl
theorem k302 (ρ : Nat → Int) (fx : List Fact) : chkFun Tryz.prog (nf ρ) (abi fx) Tryz.f217 F302 = true := by kernel_rfl
theorem k303 (ρ : Nat → Int) (fx : List Fact) : chkFun Tryz.prog (nf ρ) (abi fx) Tryz.f218 F303 = true := by kernel_rfl
theorem k304 (ρ : Nat → Int) (fx : List Fact) : chkFun Tryz.prog (nf ρ) (abi fx) Tryz.f219 F304 = true := by kernel_rfl
theorem k305 (ρ : Nat → Int) (fx : List Fact) : chkFun Tryz.prog (nf ρ) (abi fx) Tryz.f220 F305 = true := by kernel_rfl
theorem k306 (ρ : Nat → Int) (fx : List Fact) : chkFun Tryz.prog (nf ρ) (abi fx) Tryz.f221 F306 = true := by kernel_rfl
theorem k307 (ρ : Nat → Int) (fx : List Fact) : chkFun Tryz.prog (nf ρ) (abi fx) Tryz.f222 F307 = true := by kernel_rfl
theorem k308 (ρ : Nat → Int) (fx : List Fact) : chkFun Tryz.prog (nf ρ) (abi fx) Tryz.f223 F308 = true := by kernel_rfl
theorem k309 (ρ : Nat → Int) (fx : List Fact) : chkFun Tryz.prog (nf ρ) (abi fx) Tryz.f224 F309 = true := by kernel_rfl
theorem k310 (ρ : Nat → Int) (fx : List Fact) : chkFun Tryz.prog (nf ρ) (abi fx) Tryz.f225 F310 = true := by kernel_rfl
theorem k311 (ρ : Nat → Int) (fx : List Fact) : chkFun Tryz.prog (nf ρ) (abi fx) Tryz.f226 F311 = true := by kernel_rfl
theorem k312 (ρ : Nat → Int) (fx : List Fact) : chkFun Tryz.prog (nf ρ) (abi fx) Tryz.f227 F312 = true := by kernel_rfl
theorem k313 (ρ : Nat → Int) (fx : List Fact) : chkFun Tryz.prog (nf ρ) (abi fx) Tryz.f228 F313 = true := by kernel_rfl
theorem k314 (ρ : Nat → Int) (fx : List Fact) : chkFun Tryz.prog (nf ρ) (abi fx) Tryz.f229 F314 = true := by kernel_rfl
theorem k315 (ρ : Nat → Int) (fx : List Fact) : chkFun Tryz.prog (nf ρ) (abi fx) Tryz.f205 F315 = true := by kernel_rfl
theorem k316 (ρ : Nat → Int) (fx : List Fact) : chkFun Tryz.prog (nf ρ) (abi fx) Tryz.f206 F316 = true := by kernel_rfl
theorem k317 (ρ : Nat → Int) (fx : List Fact) : chkFun Tryz.prog (nf ρ) (abi fx) Tryz.f207 F317 = true := by kernel_rfl
theorem k318 (ρ : Nat → Int) (fx : List Fact) : chkFun Tryz.prog (nf ρ) (abi fx) Tryz.f208 F318 = true := by kernel_rfl
theorem k319 (ρ : Nat → Int) (fx : List Fact) : chkFun Tryz.prog (nf ρ) (abi fx) Tryz.f210 F319 = true := by kernel_rfl
theorem k320 (ρ : Nat → Int) (fx : List Fact) : chkFun Tryz.prog (nf ρ) (abi fx) Tryz.f211 F320 = true := by kernel_rfl
theorem k321 (ρ : Nat → Int) (fx : List Fact) : chkFun Tryz.prog (nf ρ) (abi fx) Tryz.f212 F321 = true := by kernel_rfl
theorem k322 (ρ : Nat → Int) (fx : List Fact) : chkFun Tryz.prog (nf ρ) (abi fx) Tryz.f213 F322 = true := by kernel_rfl
theorem k331 (ρ : Nat → Int) (fx : List Fact) : chkFun Tryz.prog (nf ρ) (abi fx) Tryz.f232 F331 = true := by kernel_rfl
theorem k332 (ρ : Nat → Int) (fx : List Fact) : chkFun Tryz.prog (nf ρ) (abi fx) Tryz.f233 F332 = true := by kernel_rfl
theorem k333 (ρ : Nat → Int) (fx : List Fact) : chkFun Tryz.prog (nf ρ) (abi fx) Tryz.f234 F333 = true := by kernel_rfl
theorem k334 (ρ : Nat → Int) (fx : List Fact) : chkFun Tryz.prog (nf ρ) (abi fx) Tryz.f235 F334 = true := by kernel_rfl
theorem k335 (ρ : Nat → Int) (fx : List Fact) : chkFun Tryz.prog (nf ρ) (abi fx) Tryz.f236 F335 = true := by kernel_rfl
theorem k336 (ρ : Nat → Int) (fx : List Fact) : chkFun Tryz.prog (nf ρ) (abi fx) Tryz.f237 F336 = true := by kernel_rfl
theorem k337 (ρ : Nat → Int) (fx : List Fact) : chkFun Tryz.prog (nf ρ) (abi fx) Tryz.f238 F337 = true := by kernel_rfl
theorem k338 (ρ : Nat → Int) (fx : List Fact) : chkFun Tryz.prog (nf ρ) (abi fx) Tryz.f239 F338 = true := by kernel_rfl
theorem k339 (ρ : Nat → Int) (fx : List Fact) : chkFun Tryz.prog (nf ρ) (abi fx) Tryz.f240 F339 = true := by kernel_rfl
theorem k340 (ρ : Nat → Int) (fx : List Fact) : chkFun Tryz.prog (nf ρ) (abi fx) Tryz.f241 F340 = true := by kernel_rfl
theorem k341 (ρ : Nat → Int) (fx : List Fact) : chkFun Tryz.prog (nf ρ) (abi fx) Tryz.f242 F341 = true := by kernel_rfl
theorem k342 (ρ : Nat → Int) (fx : List Fact) : chkFun Tryz.prog (nf ρ) (abi fx) Tryz.f243 F342 = true := by kernel_rfl
theorem k343 (ρ : Nat → Int) (fx : List Fact) : chkFun Tryz.prog (nf ρ) (abi fx) Tryz.f244 F343 = true := by kernel_rfl
theorem k344 (ρ : Nat → Int) (fx : List Fact) : chkFun Tryz.prog (nf ρ) (abi fx) Tryz.f245 F344 = true := by kernel_rfl
theorem k345 (ρ : Nat → Int) (fx : List Fact) : chkFun Tryz.prog (nf ρ) (abi fx) Tryz.f246 F345 = true := by kernel_rfl
theorem k346 (ρ : Nat → Int) (fx : List Fact) : chkFun Tryz.prog (nf ρ) (abi fx) Tryz.f247 F346 = true := by kernel_rfl
theorem k1009 (ρ : Nat → Int) (fx : List Fact) : chkFun Tryz.prog (nf ρ) (abi fx) Tryz.f20 F1009 = true := by kernel_rfl
theorem k1016 (ρ : Nat → Int) (fx : List Fact) : chkFun Tryz.prog (nf ρ) (abi fx) Tryz.f8 F1016 = true := by kernel_rfl
end Fo.Tryz
