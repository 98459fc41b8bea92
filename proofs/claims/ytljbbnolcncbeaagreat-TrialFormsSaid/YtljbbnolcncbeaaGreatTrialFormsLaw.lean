/-
  TrialForms: whatever numbers it is given, it returns true. No condition.
-/
import Derived.Test.YtljbbnolcncbeaaGreatTrialFormsFuns
import Derived.Test.YtljbbnolcncbeaaGreatFoA51
import Derived.Test.YtljbbnolcncbeaaGreatTrialFormsIns
import Derived.Test.YtljbbnolcncbeaaGreatRows
import Derived.KernelRfl
set_option maxRecDepth 100000
namespace Fo.Tryz
open Go Go.Proofs
def funs : Nat → Option (AFun × Bool)
  | 9 => some (F9, true)
  | 17 => some (F17, true)
  | 22 => some (F22, true)
  | 23 => some (F23, true)
  | 42 => some (F42, true)
  | 43 => some (F43, true)
  | 44 => some (F44, true)
  | 45 => some (F45, true)
  | 46 => some (F46, true)
  | 47 => some (F47, true)
  | 70 => some (F70, true)
  | 71 => some (F71, true)
  | 72 => some (F72, true)
  | 73 => some (F73, true)
  | 74 => some (F74, true)
  | 75 => some (F75, true)
  | 76 => some (F76, true)
  | 77 => some (F77, true)
  | 78 => some (F78, true)
  | 79 => some (F79, true)
  | 80 => some (F80, true)
  | 81 => some (F81, true)
  | 82 => some (F82, true)
  | 83 => some (F83, true)
  | 84 => some (F84, true)
  | 85 => some (F85, true)
  | 86 => some (F86, true)
  | 87 => some (F87, true)
  | 88 => some (F88, true)
  | 89 => some (F89, true)
  | 90 => some (F90, true)
  | 91 => some (F91, true)
  | 92 => some (F92, true)
  | 121 => some (F121, true)
  | 122 => some (F122, true)
  | 123 => some (F123, true)
  | 124 => some (F124, true)
  | 125 => some (F125, true)
  | 126 => some (F126, true)
  | 127 => some (F127, true)
  | 128 => some (F128, true)
  | 129 => some (F129, true)
  | 130 => some (F130, true)
  | 131 => some (F131, true)
  | 138 => some (F138, true)
  | 139 => some (F139, true)
  | 140 => some (F140, true)
  | 141 => some (F141, true)
  | 142 => some (F142, true)
  | 143 => some (F143, true)
  | 144 => some (F144, true)
  | 145 => some (F145, true)
  | 146 => some (F146, true)
  | 147 => some (F147, true)
  | 148 => some (F148, true)
  | 150 => some (F150, true)
  | 151 => some (F151, true)
  | 152 => some (F152, true)
  | 154 => some (F154, true)
  | 155 => some (F155, true)
  | 191 => some (F191, true)
  | 192 => some (F192, true)
  | 193 => some (F193, true)
  | 194 => some (F194, true)
  | 195 => some (F195, true)
  | 196 => some (F196, true)
  | 197 => some (F197, true)
  | 198 => some (F198, true)
  | 199 => some (F199, true)
  | 200 => some (F200, true)
  | 201 => some (F201, true)
  | 202 => some (F202, true)
  | 203 => some (F203, true)
  | 204 => some (F204, true)
  | 205 => some (F205, true)
  | 206 => some (F206, true)
  | 207 => some (F207, true)
  | 208 => some (F208, true)
  | 209 => some (F209, true)
  | 211 => some (F211, true)
  | 212 => some (F212, true)
  | 213 => some (F213, true)
  | 214 => some (F214, true)
  | 215 => some (F215, true)
  | 216 => some (F216, true)
  | 217 => some (F217, true)
  | 218 => some (F218, true)
  | 219 => some (F219, true)
  | 220 => some (F220, true)
  | 221 => some (F221, true)
  | 222 => some (F222, true)
  | 223 => some (F223, true)
  | 224 => some (F224, true)
  | 225 => some (F225, true)
  | 226 => some (F226, true)
  | 227 => some (F227, true)
  | 228 => some (F228, true)
  | 230 => some (F230, true)
  | 246 => some (F246, true)
  | 247 => some (F247, true)
  | 248 => some (F248, true)
  | 249 => some (F249, true)
  | 250 => some (F250, true)
  | 251 => some (F251, true)
  | 253 => some (F253, true)
  | 254 => some (F254, true)
  | 255 => some (F255, true)
  | 256 => some (F256, true)
  | 257 => some (F257, true)
  | 258 => some (F258, true)
  | 259 => some (F259, true)
  | 260 => some (F260, true)
  | 261 => some (F261, true)
  | 262 => some (F262, true)
  | 263 => some (F263, true)
  | 264 => some (F264, true)
  | 265 => some (F265, true)
  | 266 => some (F266, true)
  | 267 => some (F267, true)
  | 268 => some (F268, true)
  | 269 => some (F269, true)
  | 271 => some (F271, true)
  | 272 => some (F272, true)
  | 273 => some (F273, true)
  | 274 => some (F274, true)
  | 275 => some (F275, true)
  | 276 => some (F276, true)
  | 277 => some (F277, true)
  | 278 => some (F278, true)
  | 279 => some (F279, true)
  | 280 => some (F280, true)
  | 281 => some (F281, true)
  | 282 => some (F282, true)
  | 283 => some (F283, true)
  | 284 => some (F284, true)
  | 285 => some (F285, true)
  | 286 => some (F286, true)
  | 287 => some (F287, true)
  | 288 => some (F288, true)
  | 289 => some (F289, true)
  | 300 => some (F300, true)
  | 301 => some (F301, true)
  | 302 => some (F302, true)
  | 303 => some (F303, true)
  | 304 => some (F304, true)
  | 305 => some (F305, true)
  | 306 => some (F306, true)
  | 307 => some (F307, true)
  | 308 => some (F308, true)
  | 309 => some (F309, true)
  | 310 => some (F310, true)
  | 311 => some (F311, true)
  | 312 => some (F312, true)
  | 313 => some (F313, true)
  | 314 => some (F314, true)
  | 315 => some (F315, true)
  | 316 => some (F316, true)
  | 317 => some (F317, true)
  | 318 => some (F318, true)
  | 319 => some (F319, true)
  | 320 => some (F320, true)
  | 321 => some (F321, true)
  | 322 => some (F322, true)
  | 331 => some (F331, true)
  | 332 => some (F332, true)
  | 333 => some (F333, true)
  | 334 => some (F334, true)
  | 335 => some (F335, true)
  | 336 => some (F336, true)
  | 337 => some (F337, true)
  | 338 => some (F338, true)
  | 339 => some (F339, true)
  | 340 => some (F340, true)
  | 341 => some (F341, true)
  | 342 => some (F342, true)
  | 343 => some (F343, true)
  | 344 => some (F344, true)
  | 345 => some (F345, true)
  | 346 => some (F346, true)
  | 1007 => some (F1007, true)
  | 1009 => some (F1009, true)
  | 1010 => some (F1010, true)
  | _ => none
def clones : Nat → Option (Nat × Nat × List V)
  | 132 => some (6, 96, [(.int .i64 0), (.int .i64 0), (.int .i64 0), (.sl []), (.sl []), (.sl [])])
  | 133 => some (5, 40, [(.int .i64 0), (.int .i64 0), (.int .i64 0), (.int .i64 0), (.int .i64 0)])
  | 134 => some (28, 272, [(.int .i64 0), (.int .i64 0), (.int .i64 0), (.int .i64 0), (.int .i64 0), (.int .i64 0), (.int .i64 0), (.int .i64 0), (.int .i64 0), (.int .i64 0), (.int .i64 0), (.int .i64 0), (.int .i64 0), (.sl []), (.bool false), (.int .i64 0), (.int .i64 0), (.int .i64 0), (.int .i64 0), (.int .i64 0), (.int .i64 0), (.int .i64 0), (.int .i64 0), (.int .i64 0), (.sl []), (.bool false), (.sl []), (.bool false)])
  | 135 => some (4, 32, [(.int .i64 0), (.int .i64 0), (.int .i64 0), (.int .i64 0)])
  | 136 => some (3, 24, [(.int .i64 0), (.int .i64 0), (.int .i64 0)])
  | 137 => some (1, 8, [(.int .i64 0)])
  | 149 => some (1, 1, [(.bool false)])
  | 210 => some (2, 16, [(.int .i64 0), (.int .u32 0)])
  | 229 => some (1, 8, [(.int .i64 0)])
  | 270 => some (2, 16, [(.int .i64 0), (.int .i64 0)])
  | _ => none
theorem enters_tbl : ∀ f g, tbl f = some g → enters Tryz.prog g = true := by
  have h : (tblL.all fun p => enters Tryz.prog p.2) = true := by kernel_rfl
  intro f g hf
  exact lookup_all h hf
theorem enters_all (ρ : Nat → Int) : ∀ f g, (nf ρ) f = some g → enters Tryz.prog g = true := enters_tbl
theorem ent (ρ : Nat → Int) {fx : List Fact} (hF : FactsOK (nf ρ) fx) : Ent Tryz.prog (nf ρ) (abi fx) := ⟨enters_all ρ, hF⟩
set_option maxHeartbeats 4000000 in
theorem funs_ok (ρ : Nat → Int) (fx : List Fact) : ∀ f F gv, funs f = some (F, gv) → ∃ g fn, (nf ρ) f = some g ∧ Tryz.prog.funcs[g]? = some fn ∧ chkFun Tryz.prog (nf ρ) (abi fx) fn F = true := by
  intro f F gv h
  unfold funs at h
  split at h
  · cases h; exact ⟨_, _, rfl, Tryz.func11, k9 ρ fx⟩
  · cases h; exact ⟨_, _, rfl, Tryz.func10, k17 ρ fx⟩
  · cases h; exact ⟨_, _, rfl, Tryz.func6, k22 ρ fx⟩
  · cases h; exact ⟨_, _, rfl, Tryz.func25, k23 ρ fx⟩
  · cases h; exact ⟨_, _, rfl, Tryz.func12, k42 ρ fx⟩
  · cases h; exact ⟨_, _, rfl, Tryz.func13, k43 ρ fx⟩
  · cases h; exact ⟨_, _, rfl, Tryz.func7, k44 ρ fx⟩
  · cases h; exact ⟨_, _, rfl, Tryz.func39, k45 ρ fx⟩
  · cases h; exact ⟨_, _, rfl, Tryz.func40, k46 ρ fx⟩
  · cases h; exact ⟨_, _, rfl, Tryz.func30, k47 ρ fx⟩
  · cases h; exact ⟨_, _, rfl, Tryz.func26, k70 ρ fx⟩
  · cases h; exact ⟨_, _, rfl, Tryz.func14, k71 ρ fx⟩
  · cases h; exact ⟨_, _, rfl, Tryz.func15, k72 ρ fx⟩
  · cases h; exact ⟨_, _, rfl, Tryz.func16, k73 ρ fx⟩
  · cases h; exact ⟨_, _, rfl, Tryz.func17, k74 ρ fx⟩
  · cases h; exact ⟨_, _, rfl, Tryz.func18, k75 ρ fx⟩
  · cases h; exact ⟨_, _, rfl, Tryz.func19, k76 ρ fx⟩
  · cases h; exact ⟨_, _, rfl, Tryz.func20, k77 ρ fx⟩
  · cases h; exact ⟨_, _, rfl, Tryz.func21, k78 ρ fx⟩
  · cases h; exact ⟨_, _, rfl, Tryz.func22, k79 ρ fx⟩
  · cases h; exact ⟨_, _, rfl, Tryz.func23, k80 ρ fx⟩
  · cases h; exact ⟨_, _, rfl, Tryz.func24, k81 ρ fx⟩
  · cases h; exact ⟨_, _, rfl, Tryz.func51, k82 ρ fx⟩
  · cases h; exact ⟨_, _, rfl, Tryz.func73, k83 ρ fx⟩
  · cases h; exact ⟨_, _, rfl, Tryz.func74, k84 ρ fx⟩
  · cases h; exact ⟨_, _, rfl, Tryz.func75, k85 ρ fx⟩
  · cases h; exact ⟨_, _, rfl, Tryz.func76, k86 ρ fx⟩
  · cases h; exact ⟨_, _, rfl, Tryz.func47, k87 ρ fx⟩
  · cases h; exact ⟨_, _, rfl, Tryz.func64, k88 ρ fx⟩
  · cases h; exact ⟨_, _, rfl, Tryz.func58, k89 ρ fx⟩
  · cases h; exact ⟨_, _, rfl, Tryz.func59, k90 ρ fx⟩
  · cases h; exact ⟨_, _, rfl, Tryz.func60, k91 ρ fx⟩
  · cases h; exact ⟨_, _, rfl, Tryz.func61, k92 ρ fx⟩
  · cases h; exact ⟨_, _, rfl, Tryz.func27, k121 ρ fx⟩
  · cases h; exact ⟨_, _, rfl, Tryz.func28, k122 ρ fx⟩
  · cases h; exact ⟨_, _, rfl, Tryz.func29, k123 ρ fx⟩
  · cases h; exact ⟨_, _, rfl, Tryz.func31, k124 ρ fx⟩
  · cases h; exact ⟨_, _, rfl, Tryz.func32, k125 ρ fx⟩
  · cases h; exact ⟨_, _, rfl, Tryz.func33, k126 ρ fx⟩
  · cases h; exact ⟨_, _, rfl, Tryz.func34, k127 ρ fx⟩
  · cases h; exact ⟨_, _, rfl, Tryz.func35, k128 ρ fx⟩
  · cases h; exact ⟨_, _, rfl, Tryz.func36, k129 ρ fx⟩
  · cases h; exact ⟨_, _, rfl, Tryz.func37, k130 ρ fx⟩
  · cases h; exact ⟨_, _, rfl, Tryz.func38, k131 ρ fx⟩
  · cases h; exact ⟨_, _, rfl, Tryz.func96, k138 ρ fx⟩
  · cases h; exact ⟨_, _, rfl, Tryz.func115, k139 ρ fx⟩
  · cases h; exact ⟨_, _, rfl, Tryz.func116, k140 ρ fx⟩
  · cases h; exact ⟨_, _, rfl, Tryz.func117, k141 ρ fx⟩
  · cases h; exact ⟨_, _, rfl, Tryz.func110, k142 ρ fx⟩
  · cases h; exact ⟨_, _, rfl, Tryz.func97, k143 ρ fx⟩
  · cases h; exact ⟨_, _, rfl, Tryz.func118, k144 ρ fx⟩
  · cases h; exact ⟨_, _, rfl, Tryz.func119, k145 ρ fx⟩
  · cases h; exact ⟨_, _, rfl, Tryz.func52, k146 ρ fx⟩
  · cases h; exact ⟨_, _, rfl, Tryz.func120, k147 ρ fx⟩
  · cases h; exact ⟨_, _, rfl, Tryz.func121, k148 ρ fx⟩
  · cases h; exact ⟨_, _, rfl, Tryz.func65, k150 ρ fx⟩
  · cases h; exact ⟨_, _, rfl, Tryz.func102, k151 ρ fx⟩
  · cases h; exact ⟨_, _, rfl, Tryz.func103, k152 ρ fx⟩
  · cases h; exact ⟨_, _, rfl, Tryz.func105, k154 ρ fx⟩
  · cases h; exact ⟨_, _, rfl, Tryz.func106, k155 ρ fx⟩
  · cases h; exact ⟨_, _, rfl, Tryz.func123, k191 ρ fx⟩
  · cases h; exact ⟨_, _, rfl, Tryz.func41, k192 ρ fx⟩
  · cases h; exact ⟨_, _, rfl, Tryz.func42, k193 ρ fx⟩
  · cases h; exact ⟨_, _, rfl, Tryz.func43, k194 ρ fx⟩
  · cases h; exact ⟨_, _, rfl, Tryz.func44, k195 ρ fx⟩
  · cases h; exact ⟨_, _, rfl, Tryz.func45, k196 ρ fx⟩
  · cases h; exact ⟨_, _, rfl, Tryz.func46, k197 ρ fx⟩
  · cases h; exact ⟨_, _, rfl, Tryz.func48, k198 ρ fx⟩
  · cases h; exact ⟨_, _, rfl, Tryz.func49, k199 ρ fx⟩
  · cases h; exact ⟨_, _, rfl, Tryz.func50, k200 ρ fx⟩
  · cases h; exact ⟨_, _, rfl, Tryz.func53, k201 ρ fx⟩
  · cases h; exact ⟨_, _, rfl, Tryz.func54, k202 ρ fx⟩
  · cases h; exact ⟨_, _, rfl, Tryz.func55, k203 ρ fx⟩
  · cases h; exact ⟨_, _, rfl, Tryz.func56, k204 ρ fx⟩
  · cases h; exact ⟨_, _, rfl, Tryz.func57, k205 ρ fx⟩
  · cases h; exact ⟨_, _, rfl, Tryz.func62, k206 ρ fx⟩
  · cases h; exact ⟨_, _, rfl, Tryz.func63, k207 ρ fx⟩
  · cases h; exact ⟨_, _, rfl, Tryz.func66, k208 ρ fx⟩
  · cases h; exact ⟨_, _, rfl, Tryz.func67, k209 ρ fx⟩
  · cases h; exact ⟨_, _, rfl, Tryz.func69, k211 ρ fx⟩
  · cases h; exact ⟨_, _, rfl, Tryz.func70, k212 ρ fx⟩
  · cases h; exact ⟨_, _, rfl, Tryz.func71, k213 ρ fx⟩
  · cases h; exact ⟨_, _, rfl, Tryz.func72, k214 ρ fx⟩
  · cases h; exact ⟨_, _, rfl, Tryz.func137, k215 ρ fx⟩
  · cases h; exact ⟨_, _, rfl, Tryz.func141, k216 ρ fx⟩
  · cases h; exact ⟨_, _, rfl, Tryz.func142, k217 ρ fx⟩
  · cases h; exact ⟨_, _, rfl, Tryz.func143, k218 ρ fx⟩
  · cases h; exact ⟨_, _, rfl, Tryz.func144, k219 ρ fx⟩
  · cases h; exact ⟨_, _, rfl, Tryz.func145, k220 ρ fx⟩
  · cases h; exact ⟨_, _, rfl, Tryz.func146, k221 ρ fx⟩
  · cases h; exact ⟨_, _, rfl, Tryz.func147, k222 ρ fx⟩
  · cases h; exact ⟨_, _, rfl, Tryz.func148, k223 ρ fx⟩
  · cases h; exact ⟨_, _, rfl, Tryz.func149, k224 ρ fx⟩
  · cases h; exact ⟨_, _, rfl, Tryz.func150, k225 ρ fx⟩
  · cases h; exact ⟨_, _, rfl, Tryz.func151, k226 ρ fx⟩
  · cases h; exact ⟨_, _, rfl, Tryz.func152, k227 ρ fx⟩
  · cases h; exact ⟨_, _, rfl, Tryz.func153, k228 ρ fx⟩
  · cases h; exact ⟨_, _, rfl, Tryz.func138, k230 ρ fx⟩
  · cases h; exact ⟨_, _, rfl, Tryz.func154, k246 ρ fx⟩
  · cases h; exact ⟨_, _, rfl, Tryz.func155, k247 ρ fx⟩
  · cases h; exact ⟨_, _, rfl, Tryz.func77, k248 ρ fx⟩
  · cases h; exact ⟨_, _, rfl, Tryz.func78, k249 ρ fx⟩
  · cases h; exact ⟨_, _, rfl, Tryz.func79, k250 ρ fx⟩
  · cases h; exact ⟨_, _, rfl, Tryz.func80, k251 ρ fx⟩
  · cases h; exact ⟨_, _, rfl, Tryz.func83, k253 ρ fx⟩
  · cases h; exact ⟨_, _, rfl, Tryz.func84, k254 ρ fx⟩
  · cases h; exact ⟨_, _, rfl, Tryz.func85, k255 ρ fx⟩
  · cases h; exact ⟨_, _, rfl, Tryz.func86, k256 ρ fx⟩
  · cases h; exact ⟨_, _, rfl, Tryz.func89, k257 ρ fx⟩
  · cases h; exact ⟨_, _, rfl, Tryz.func90, k258 ρ fx⟩
  · cases h; exact ⟨_, _, rfl, Tryz.func91, k259 ρ fx⟩
  · cases h; exact ⟨_, _, rfl, Tryz.func98, k260 ρ fx⟩
  · cases h; exact ⟨_, _, rfl, Tryz.func99, k261 ρ fx⟩
  · cases h; exact ⟨_, _, rfl, Tryz.func100, k262 ρ fx⟩
  · cases h; exact ⟨_, _, rfl, Tryz.func101, k263 ρ fx⟩
  · cases h; exact ⟨_, _, rfl, Tryz.func107, k264 ρ fx⟩
  · cases h; exact ⟨_, _, rfl, Tryz.func109, k265 ρ fx⟩
  · cases h; exact ⟨_, _, rfl, Tryz.func111, k266 ρ fx⟩
  · cases h; exact ⟨_, _, rfl, Tryz.func112, k267 ρ fx⟩
  · cases h; exact ⟨_, _, rfl, Tryz.func113, k268 ρ fx⟩
  · cases h; exact ⟨_, _, rfl, Tryz.func114, k269 ρ fx⟩
  · cases h; exact ⟨_, _, rfl, Tryz.func172, k271 ρ fx⟩
  · cases h; exact ⟨_, _, rfl, Tryz.func173, k272 ρ fx⟩
  · cases h; exact ⟨_, _, rfl, Tryz.func174, k273 ρ fx⟩
  · cases h; exact ⟨_, _, rfl, Tryz.func162, k274 ρ fx⟩
  · cases h; exact ⟨_, _, rfl, Tryz.func175, k275 ρ fx⟩
  · cases h; exact ⟨_, _, rfl, Tryz.func176, k276 ρ fx⟩
  · cases h; exact ⟨_, _, rfl, Tryz.func177, k277 ρ fx⟩
  · cases h; exact ⟨_, _, rfl, Tryz.func178, k278 ρ fx⟩
  · cases h; exact ⟨_, _, rfl, Tryz.func179, k279 ρ fx⟩
  · cases h; exact ⟨_, _, rfl, Tryz.func180, k280 ρ fx⟩
  · cases h; exact ⟨_, _, rfl, Tryz.func181, k281 ρ fx⟩
  · cases h; exact ⟨_, _, rfl, Tryz.func182, k282 ρ fx⟩
  · cases h; exact ⟨_, _, rfl, Tryz.func183, k283 ρ fx⟩
  · cases h; exact ⟨_, _, rfl, Tryz.func184, k284 ρ fx⟩
  · cases h; exact ⟨_, _, rfl, Tryz.func185, k285 ρ fx⟩
  · cases h; exact ⟨_, _, rfl, Tryz.func186, k286 ρ fx⟩
  · cases h; exact ⟨_, _, rfl, Tryz.func187, k287 ρ fx⟩
  · cases h; exact ⟨_, _, rfl, Tryz.func188, k288 ρ fx⟩
  · cases h; exact ⟨_, _, rfl, Tryz.func170, k289 ρ fx⟩
  · cases h; exact ⟨_, _, rfl, Tryz.func122, k300 ρ fx⟩
  · cases h; exact ⟨_, _, rfl, Tryz.func124, k301 ρ fx⟩
  · cases h; exact ⟨_, _, rfl, Tryz.func125, k302 ρ fx⟩
  · cases h; exact ⟨_, _, rfl, Tryz.func126, k303 ρ fx⟩
  · cases h; exact ⟨_, _, rfl, Tryz.func127, k304 ρ fx⟩
  · cases h; exact ⟨_, _, rfl, Tryz.func128, k305 ρ fx⟩
  · cases h; exact ⟨_, _, rfl, Tryz.func129, k306 ρ fx⟩
  · cases h; exact ⟨_, _, rfl, Tryz.func130, k307 ρ fx⟩
  · cases h; exact ⟨_, _, rfl, Tryz.func131, k308 ρ fx⟩
  · cases h; exact ⟨_, _, rfl, Tryz.func132, k309 ρ fx⟩
  · cases h; exact ⟨_, _, rfl, Tryz.func133, k310 ρ fx⟩
  · cases h; exact ⟨_, _, rfl, Tryz.func134, k311 ρ fx⟩
  · cases h; exact ⟨_, _, rfl, Tryz.func135, k312 ρ fx⟩
  · cases h; exact ⟨_, _, rfl, Tryz.func136, k313 ρ fx⟩
  · cases h; exact ⟨_, _, rfl, Tryz.func139, k314 ρ fx⟩
  · cases h; exact ⟨_, _, rfl, Tryz.func140, k315 ρ fx⟩
  · cases h; exact ⟨_, _, rfl, Tryz.func192, k316 ρ fx⟩
  · cases h; exact ⟨_, _, rfl, Tryz.func193, k317 ρ fx⟩
  · cases h; exact ⟨_, _, rfl, Tryz.func194, k318 ρ fx⟩
  · cases h; exact ⟨_, _, rfl, Tryz.func195, k319 ρ fx⟩
  · cases h; exact ⟨_, _, rfl, Tryz.func196, k320 ρ fx⟩
  · cases h; exact ⟨_, _, rfl, Tryz.func197, k321 ρ fx⟩
  · cases h; exact ⟨_, _, rfl, Tryz.func198, k322 ρ fx⟩
  · cases h; exact ⟨_, _, rfl, Tryz.func156, k331 ρ fx⟩
  · cases h; exact ⟨_, _, rfl, Tryz.func157, k332 ρ fx⟩
  · cases h; exact ⟨_, _, rfl, Tryz.func158, k333 ρ fx⟩
  · cases h; exact ⟨_, _, rfl, Tryz.func159, k334 ρ fx⟩
  · cases h; exact ⟨_, _, rfl, Tryz.func160, k335 ρ fx⟩
  · cases h; exact ⟨_, _, rfl, Tryz.func161, k336 ρ fx⟩
  · cases h; exact ⟨_, _, rfl, Tryz.func163, k337 ρ fx⟩
  · cases h; exact ⟨_, _, rfl, Tryz.func164, k338 ρ fx⟩
  · cases h; exact ⟨_, _, rfl, Tryz.func165, k339 ρ fx⟩
  · cases h; exact ⟨_, _, rfl, Tryz.func166, k340 ρ fx⟩
  · cases h; exact ⟨_, _, rfl, Tryz.func167, k341 ρ fx⟩
  · cases h; exact ⟨_, _, rfl, Tryz.func168, k342 ρ fx⟩
  · cases h; exact ⟨_, _, rfl, Tryz.func169, k343 ρ fx⟩
  · cases h; exact ⟨_, _, rfl, Tryz.func189, k344 ρ fx⟩
  · cases h; exact ⟨_, _, rfl, Tryz.func190, k345 ρ fx⟩
  · cases h; exact ⟨_, _, rfl, Tryz.func191, k346 ρ fx⟩
  · cases h; exact ⟨_, _, rfl, Tryz.func4, k1007 ρ fx⟩
  · cases h; exact ⟨_, _, rfl, Tryz.func8, k1009 ρ fx⟩
  · cases h; exact ⟨_, _, rfl, Tryz.func9, k1010 ρ fx⟩
  · cases h
theorem clones_ok (ρ : Nat → Int) (fx : List Fact) : ∀ f n b z, clones f = some (n, b, z) → ∃ g fn, (nf ρ) f = some g ∧ Tryz.prog.funcs[g]? = some fn ∧ chkFun Tryz.prog (nf ρ) (abi fx) fn (cloneOf n b z) = true := by
  intro f n b z h
  unfold clones at h
  split at h
  · cases h; exact ⟨_, _, rfl, Tryz.func92, k132 ρ fx⟩
  · cases h; exact ⟨_, _, rfl, Tryz.func93, k133 ρ fx⟩
  · cases h; exact ⟨_, _, rfl, Tryz.func94, k134 ρ fx⟩
  · cases h; exact ⟨_, _, rfl, Tryz.func81, k135 ρ fx⟩
  · cases h; exact ⟨_, _, rfl, Tryz.func95, k136 ρ fx⟩
  · cases h; exact ⟨_, _, rfl, Tryz.func87, k137 ρ fx⟩
  · cases h; exact ⟨_, _, rfl, Tryz.func88, k149 ρ fx⟩
  · cases h; exact ⟨_, _, rfl, Tryz.func68, k210 ρ fx⟩
  · cases h; exact ⟨_, _, rfl, Tryz.func108, k229 ρ fx⟩
  · cases h; exact ⟨_, _, rfl, Tryz.func171, k270 ρ fx⟩
  · cases h
def inserts : Nat → Option Nat
  | 91 => some 28
  | _ => none
theorem inserts_ok (ρ : Nat → Int) : ∀ f k, inserts f = some k → ∃ g, (nf ρ) f = some g ∧ InsOK Tryz.prog g k := by
  intro f k h
  unfold inserts at h
  split at h
  · cases h; exact ⟨_, rfl, Go.Proofs.YtljbbnolcncbeaaGreat.insOKJ⟩
  · cases h
def prims : CallF := orP (cloneP clones) (orP (sealP 265) (insP inserts))
theorem prims_ok (ρ : Nat → Int) : ∀ f args v outs, prims f args = some (v, outs) → CallsOK Tryz.prog (nf ρ) f args v outs := orP_ok (cloneP_ok (abi := abi []) (ent ρ FactsOK.nil) (by kernel_rfl) (clones_ok ρ [])) (orP_ok (sealP_ok (abi := abi []) (ent ρ FactsOK.nil) (by kernel_rfl) (by funext ns; rfl) (show (nf ρ) 265 = some 109 from rfl) Tryz.func109 (k265 ρ [])) (insP_ok (inserts_ok ρ)))
abbrev i (n : Int) : V := .int .i64 n
abbrev b0 : V := .bool false
abbrev b1 : V := .bool true
abbrev s0 : V := .sl []
abbrev f0 : V := .fresh []
abbrev x (i : Nat) : SE := .var i
def Holds (ρ : Nat → Int) (e : Entry) : Prop := CallsOK Tryz.prog (nf ρ) e.1 e.2.1 e.2.2.1 e.2.2.2
theorem holds_of {ρ : Nat → Int} {fx : List Fact} {tbl : List Entry} {e : Entry} (hF : FactsOK (nf ρ) fx) (k : Known Tryz.prog (nf ρ) tbl) (h : runF (abi fx) funs (orP prims (memoP tbl)) 100000 60 e.1 e.2.1 = some e.2.2) : Holds ρ e :=
  runF_ok (ent ρ hF) (by kernel_rfl) (orP_ok (prims_ok ρ) (memoP_ok tbl k)) (funs_ok ρ fx) 60 e.1 e.2.1 _ _ h
def m0 : Entry := (23, [V.agg [i 1,i 10,s0,s0,b0,b0,b0,s0,V.sl [[i 0],[i 0],[i 0],[i 0],[i 0],[i 0],[i 0],[i 0],[i 0],[i 0],[i 0],[i 0]],V.sl [[b0],[b0],[b0],[b0],[b0],[b0],[b0],[b0],[b0],[b0],[b0],[b0]],V.sl [[i 0,i 0,i 0,i 0,i 0,s0,s0,V.int .u32 (0),s0,V.int .u32 (0)],[i 0,i 0,i 0,i 0,i 0,s0,s0,V.int .u32 (0),s0,V.int .u32 (0)],[i 0,i 0,i 0,i 0,i 0,s0,s0,V.int .u32 (0),s0,V.int .u32 (0)],[i 0,i 0,i 0,i 0,i 0,s0,s0,V.int .u32 (0),s0,V.int .u32 (0)],[i 0,i 0,i 0,i 0,i 0,s0,s0,V.int .u32 (0),s0,V.int .u32 (0)],[i 0,i 0,i 0,i 0,i 0,s0,s0,V.int .u32 (0),s0,V.int .u32 (0)],[i 0,i 0,i 0,i 0,i 0,s0,s0,V.int .u32 (0),s0,V.int .u32 (0)],[i 0,i 0,i 0,i 0,i 0,s0,s0,V.int .u32 (0),s0,V.int .u32 (0)],[i 0,i 0,i 0,i 0,i 0,s0,s0,V.int .u32 (0),s0,V.int .u32 (0)],[i 0,i 0,i 0,i 0,i 0,s0,s0,V.int .u32 (0),s0,V.int .u32 (0)],[i 0,i 0,i 0,i 0,i 0,s0,s0,V.int .u32 (0),s0,V.int .u32 (0)],[i 0,i 0,i 0,i 0,i 0,s0,s0,V.int .u32 (0),s0,V.int .u32 (0)]],s0,s0],V.agg [i 5,i 0,i 0,i 0,i 0,s0,s0,s0,i 0,i 0,i 0,i 0,V.int .u32 (0),i 0,i 3]], V.tup [V.agg [i 4,i 10,f0,f0,b0,b0,b0,f0,V.fresh [[i 0],[i 0],[i 0],[i 0],[i 0],[i 0],[i 0],[i 0],[i 0],[i 0],[i 0],[i 0]],V.fresh [[b0],[b0],[b0],[b0],[b0],[b0],[b0],[b0],[b0],[b0],[b0],[b0]],V.fresh [[i 0,i 0,i 0,i 0,i 0,s0,s0,V.int .u32 (0),s0,V.int .u32 (0)],[i 0,i 0,i 0,i 0,i 0,s0,s0,V.int .u32 (0),s0,V.int .u32 (0)],[i 0,i 0,i 0,i 0,i 0,s0,s0,V.int .u32 (0),s0,V.int .u32 (0)],[i 0,i 0,i 0,i 0,i 0,s0,s0,V.int .u32 (0),s0,V.int .u32 (0)],[i 0,i 0,i 0,i 0,i 0,s0,s0,V.int .u32 (0),s0,V.int .u32 (0)],[i 0,i 0,i 0,i 0,i 0,s0,s0,V.int .u32 (0),s0,V.int .u32 (0)],[i 0,i 0,i 0,i 0,i 0,s0,s0,V.int .u32 (0),s0,V.int .u32 (0)],[i 0,i 0,i 0,i 0,i 0,s0,s0,V.int .u32 (0),s0,V.int .u32 (0)],[i 0,i 0,i 0,i 0,i 0,s0,s0,V.int .u32 (0),s0,V.int .u32 (0)],[i 0,i 0,i 0,i 0,i 0,s0,s0,V.int .u32 (0),s0,V.int .u32 (0)],[i 0,i 0,i 0,i 0,i 0,s0,s0,V.int .u32 (0),s0,V.int .u32 (0)],[i 0,i 0,i 0,i 0,i 0,s0,s0,V.int .u32 (0),s0,V.int .u32 (0)]],f0,f0],f0,V.agg [i 0,i 0,i 0,i 0]], [])
def fx0 : List Fact := []
theorem r0 : runF (abi fx0) funs (orP prims (memoP [])) 100000 60 23 m0.2.1 = some m0.2.2 := by kernel_rfl
theorem w0 (ρ : Nat → Int) (hF : FactsOK (nf ρ) fx0) : Holds ρ m0 := holds_of (tbl := []) hF trivial r0
def m1 : Entry := (1009, [], b1, [])
def fx1 : List Fact := []
theorem r1 : runF (abi fx1) funs (orP prims (memoP [m0])) 100000 60 1009 m1.2.1 = some m1.2.2 := by kernel_rfl
theorem w1 (ρ : Nat → Int) (hF : FactsOK (nf ρ) fx1) : Holds ρ m1 := holds_of (tbl := [m0]) hF ⟨w0 ρ (FactsOK.sub hF (by kernel_rfl)), trivial⟩ r1
def m2 : Entry := (122, [V.agg [V.sl [[i 0],[i 0],[i 0],[i 0],[i 0],[i 0],[i 0],[i 0],[i 0],[i 0],[i 0],[i 0]],V.sl [[b0],[b0],[b0],[b0],[b0],[b0],[b0],[b0],[b0],[b0],[b0],[b0]],V.sl [[i 0,i 0,i 0,i 0,i 0,s0,s0,V.int .u32 (0),s0,V.int .u32 (0)],[i 0,i 0,i 0,i 0,i 0,s0,s0,V.int .u32 (0),s0,V.int .u32 (0)],[i 0,i 0,i 0,i 0,i 0,s0,s0,V.int .u32 (0),s0,V.int .u32 (0)],[i 0,i 0,i 0,i 0,i 0,s0,s0,V.int .u32 (0),s0,V.int .u32 (0)],[i 0,i 0,i 0,i 0,i 0,s0,s0,V.int .u32 (0),s0,V.int .u32 (0)],[i 0,i 0,i 0,i 0,i 0,s0,s0,V.int .u32 (0),s0,V.int .u32 (0)],[i 0,i 0,i 0,i 0,i 0,s0,s0,V.int .u32 (0),s0,V.int .u32 (0)],[i 0,i 0,i 0,i 0,i 0,s0,s0,V.int .u32 (0),s0,V.int .u32 (0)],[i 0,i 0,i 0,i 0,i 0,s0,s0,V.int .u32 (0),s0,V.int .u32 (0)],[i 0,i 0,i 0,i 0,i 0,s0,s0,V.int .u32 (0),s0,V.int .u32 (0)],[i 0,i 0,i 0,i 0,i 0,s0,s0,V.int .u32 (0),s0,V.int .u32 (0)],[i 0,i 0,i 0,i 0,i 0,s0,s0,V.int .u32 (0),s0,V.int .u32 (0)]]],i 1], V.tup [V.agg [V.fresh [[i 1],[i 0],[i 0],[i 0],[i 0],[i 0],[i 0],[i 0],[i 0],[i 0],[i 0],[i 0]],V.fresh [[b1],[b0],[b0],[b0],[b0],[b0],[b0],[b0],[b0],[b0],[b0],[b0]],V.fresh [[i 1,i 0,i 1,i 8,i 0,s0,s0,V.int .u32 (0),s0,V.int .u32 (2300351877)],[i 0,i 0,i 0,i 0,i 0,s0,s0,V.int .u32 (0),s0,V.int .u32 (0)],[i 0,i 0,i 0,i 0,i 0,s0,s0,V.int .u32 (0),s0,V.int .u32 (0)],[i 0,i 0,i 0,i 0,i 0,s0,s0,V.int .u32 (0),s0,V.int .u32 (0)],[i 0,i 0,i 0,i 0,i 0,s0,s0,V.int .u32 (0),s0,V.int .u32 (0)],[i 0,i 0,i 0,i 0,i 0,s0,s0,V.int .u32 (0),s0,V.int .u32 (0)],[i 0,i 0,i 0,i 0,i 0,s0,s0,V.int .u32 (0),s0,V.int .u32 (0)],[i 0,i 0,i 0,i 0,i 0,s0,s0,V.int .u32 (0),s0,V.int .u32 (0)],[i 0,i 0,i 0,i 0,i 0,s0,s0,V.int .u32 (0),s0,V.int .u32 (0)],[i 0,i 0,i 0,i 0,i 0,s0,s0,V.int .u32 (0),s0,V.int .u32 (0)],[i 0,i 0,i 0,i 0,i 0,s0,s0,V.int .u32 (0),s0,V.int .u32 (0)],[i 0,i 0,i 0,i 0,i 0,s0,s0,V.int .u32 (0),s0,V.int .u32 (0)]]],V.agg [i 0,i 1],b1], [])
def fx2 : List Fact := []
theorem r2 : runF (abi fx2) funs (orP prims (memoP [])) 100000 60 122 m2.2.1 = some m2.2.2 := by kernel_rfl
theorem w2 (ρ : Nat → Int) (hF : FactsOK (nf ρ) fx2) : Holds ρ m2 := holds_of (tbl := []) hF trivial r2
def m3 : Entry := (192, [V.agg [i 0,i 50,i 50,V.sl [[i 9,i 0,i 0,i 0],[i 10,i 0,i 0,i 0],[i 0,i 0,i 0,i 0]],s0,s0]], i 0, [])
def fx3 : List Fact := []
theorem r3 : runF (abi fx3) funs (orP prims (memoP [])) 100000 60 192 m3.2.1 = some m3.2.2 := by kernel_rfl
theorem w3 (ρ : Nat → Int) (hF : FactsOK (nf ρ) fx3) : Holds ρ m3 := holds_of (tbl := []) hF trivial r3
def m4 : Entry := (255, [V.agg [i 0,i 50,i 50,V.sl [[i 9,i 0,i 0,i 0],[i 10,i 0,i 0,i 0],[i 0,i 0,i 0,i 0]],s0,s0]], V.tup [i 3,i 3,V.fresh [[i 0,i 1]]], [])
def fx4 : List Fact := []
theorem r4 : runF (abi fx4) funs (orP prims (memoP [m3])) 100000 60 255 m4.2.1 = some m4.2.2 := by kernel_rfl
theorem w4 (ρ : Nat → Int) (hF : FactsOK (nf ρ) fx4) : Holds ρ m4 := holds_of (tbl := [m3]) hF ⟨w3 ρ (FactsOK.sub hF (by kernel_rfl)), trivial⟩ r4
def m5 : Entry := (44, [V.agg [i 0,i 100,s0,s0,b0,b0,b0,s0,V.sl [[i 1],[i 0],[i 0],[i 0],[i 0],[i 0],[i 0],[i 0],[i 0],[i 0],[i 0],[i 0]],V.sl [[b1],[b0],[b0],[b0],[b0],[b0],[b0],[b0],[b0],[b0],[b0],[b0]],V.sl [[i 1,i 0,i 1,i 8,i 0,s0,s0,V.int .u32 (0),s0,V.int .u32 (2300351877)],[i 0,i 0,i 0,i 0,i 0,s0,s0,V.int .u32 (0),s0,V.int .u32 (0)],[i 0,i 0,i 0,i 0,i 0,s0,s0,V.int .u32 (0),s0,V.int .u32 (0)],[i 0,i 0,i 0,i 0,i 0,s0,s0,V.int .u32 (0),s0,V.int .u32 (0)],[i 0,i 0,i 0,i 0,i 0,s0,s0,V.int .u32 (0),s0,V.int .u32 (0)],[i 0,i 0,i 0,i 0,i 0,s0,s0,V.int .u32 (0),s0,V.int .u32 (0)],[i 0,i 0,i 0,i 0,i 0,s0,s0,V.int .u32 (0),s0,V.int .u32 (0)],[i 0,i 0,i 0,i 0,i 0,s0,s0,V.int .u32 (0),s0,V.int .u32 (0)],[i 0,i 0,i 0,i 0,i 0,s0,s0,V.int .u32 (0),s0,V.int .u32 (0)],[i 0,i 0,i 0,i 0,i 0,s0,s0,V.int .u32 (0),s0,V.int .u32 (0)],[i 0,i 0,i 0,i 0,i 0,s0,s0,V.int .u32 (0),s0,V.int .u32 (0)],[i 0,i 0,i 0,i 0,i 0,s0,s0,V.int .u32 (0),s0,V.int .u32 (0)]],s0,s0],V.agg [i 1,i 0,i 50,i 50,V.sl [[i 9,i 0,i 0,i 0],[i 10,i 0,i 0,i 0],[i 0,i 0,i 0,i 0]],s0,s0,i 0,i 0,i 0,i 0,V.int .u32 (0)]], V.tup [V.agg [i 0,i 100,V.fresh [[i 0,i 50,i 50,V.sl [[i 9,i 0,i 0,i 0],[i 10,i 0,i 0,i 0],[i 0,i 0,i 0,i 0]],s0,s0]],V.fresh [[i 3,i 3,i 0,i 6,i 44]],b0,b0,b0,f0,V.fresh [[i 1],[i 0],[i 0],[i 0],[i 0],[i 0],[i 0],[i 0],[i 0],[i 0],[i 0],[i 0]],V.fresh [[b1],[b0],[b0],[b0],[b0],[b0],[b0],[b0],[b0],[b0],[b0],[b0]],V.fresh [[i 1,i 0,i 1,i 8,i 0,s0,s0,V.int .u32 (0),s0,V.int .u32 (2300351877)],[i 0,i 0,i 0,i 0,i 0,s0,s0,V.int .u32 (0),s0,V.int .u32 (0)],[i 0,i 0,i 0,i 0,i 0,s0,s0,V.int .u32 (0),s0,V.int .u32 (0)],[i 0,i 0,i 0,i 0,i 0,s0,s0,V.int .u32 (0),s0,V.int .u32 (0)],[i 0,i 0,i 0,i 0,i 0,s0,s0,V.int .u32 (0),s0,V.int .u32 (0)],[i 0,i 0,i 0,i 0,i 0,s0,s0,V.int .u32 (0),s0,V.int .u32 (0)],[i 0,i 0,i 0,i 0,i 0,s0,s0,V.int .u32 (0),s0,V.int .u32 (0)],[i 0,i 0,i 0,i 0,i 0,s0,s0,V.int .u32 (0),s0,V.int .u32 (0)],[i 0,i 0,i 0,i 0,i 0,s0,s0,V.int .u32 (0),s0,V.int .u32 (0)],[i 0,i 0,i 0,i 0,i 0,s0,s0,V.int .u32 (0),s0,V.int .u32 (0)],[i 0,i 0,i 0,i 0,i 0,s0,s0,V.int .u32 (0),s0,V.int .u32 (0)],[i 0,i 0,i 0,i 0,i 0,s0,s0,V.int .u32 (0),s0,V.int .u32 (0)]],f0,f0],f0,V.agg [i 0,i 0,i 0,i 0]], [])
def fx5 : List Fact := []
theorem r5 : runF (abi fx5) funs (orP prims (memoP [m3, m4])) 100000 60 44 m5.2.1 = some m5.2.2 := by kernel_rfl
theorem w5 (ρ : Nat → Int) (hF : FactsOK (nf ρ) fx5) : Holds ρ m5 := holds_of (tbl := [m3, m4]) hF ⟨w3 ρ (FactsOK.sub hF (by kernel_rfl)), ⟨w4 ρ (FactsOK.sub hF (by kernel_rfl)), trivial⟩⟩ r5
def m6 : Entry := (308, [V.sl [[i 9,i 0,i 0,i 0],[i 1,i 1,i 0,i 0],[i 10,i 0,i 0,i 0],[i 0,i 0,i 0,i 0]]], V.tup [V.agg [i 4,i 4,V.fresh [[i 0,i 2]]],b1], [])
def fx6 : List Fact := []
theorem r6 : runF (abi fx6) funs (orP prims (memoP [])) 100000 60 308 m6.2.1 = some m6.2.2 := by kernel_rfl
theorem w6 (ρ : Nat → Int) (hF : FactsOK (nf ρ) fx6) : Holds ρ m6 := holds_of (tbl := []) hF trivial r6
def m7 : Entry := (255, [V.agg [i 1,i 50,i 50,V.sl [[i 9,i 0,i 0,i 0],[i 1,i 1,i 0,i 0],[i 10,i 0,i 0,i 0],[i 0,i 0,i 0,i 0]],s0,V.sl [[i 0,i 0,i 0,i 0]]]], V.tup [i 4,i 4,V.fresh [[i 0,i 2]]], [])
def fx7 : List Fact := []
theorem r7 : runF (abi fx7) funs (orP prims (memoP [m6])) 100000 60 255 m7.2.1 = some m7.2.2 := by kernel_rfl
theorem w7 (ρ : Nat → Int) (hF : FactsOK (nf ρ) fx7) : Holds ρ m7 := holds_of (tbl := [m6]) hF ⟨w6 ρ (FactsOK.sub hF (by kernel_rfl)), trivial⟩ r7
def m8 : Entry := (254, [V.sl [[i 0,i 50,i 50,V.sl [[i 9,i 0,i 0,i 0],[i 10,i 0,i 0,i 0],[i 0,i 0,i 0,i 0]],s0,s0],[i 1,i 50,i 50,V.sl [[i 9,i 0,i 0,i 0],[i 1,i 1,i 0,i 0],[i 10,i 0,i 0,i 0],[i 0,i 0,i 0,i 0]],s0,V.sl [[i 0,i 0,i 0,i 0]]]],i 0,i 100], V.tup [i 8,i 2,i 0], [])
def fx8 : List Fact := []
theorem r8 : runF (abi fx8) funs (orP prims (memoP [m3, m6, m4, m7])) 100000 60 254 m8.2.1 = some m8.2.2 := by kernel_rfl
theorem w8 (ρ : Nat → Int) (hF : FactsOK (nf ρ) fx8) : Holds ρ m8 := holds_of (tbl := [m3, m6, m4, m7]) hF ⟨w3 ρ (FactsOK.sub hF (by kernel_rfl)), ⟨w6 ρ (FactsOK.sub hF (by kernel_rfl)), ⟨w4 ρ (FactsOK.sub hF (by kernel_rfl)), ⟨w7 ρ (FactsOK.sub hF (by kernel_rfl)), trivial⟩⟩⟩⟩ r8
def m9 : Entry := (254, [V.sl [[i 0,i 50,i 50,V.sl [[i 9,i 0,i 0,i 0],[i 10,i 0,i 0,i 0],[i 0,i 0,i 0,i 0]],s0,s0],[i 1,i 50,i 50,V.sl [[i 9,i 0,i 0,i 0],[i 1,i 1,i 0,i 0],[i 10,i 0,i 0,i 0],[i 0,i 0,i 0,i 0]],s0,V.sl [[i 0,i 0,i 0,i 0]]]],i 1,i 100], V.tup [i 12,i 2,i 0], [])
def fx9 : List Fact := []
theorem r9 : runF (abi fx9) funs (orP prims (memoP [m3, m6, m7, m4])) 100000 60 254 m9.2.1 = some m9.2.2 := by kernel_rfl
theorem w9 (ρ : Nat → Int) (hF : FactsOK (nf ρ) fx9) : Holds ρ m9 := holds_of (tbl := [m3, m6, m7, m4]) hF ⟨w3 ρ (FactsOK.sub hF (by kernel_rfl)), ⟨w6 ρ (FactsOK.sub hF (by kernel_rfl)), ⟨w7 ρ (FactsOK.sub hF (by kernel_rfl)), ⟨w4 ρ (FactsOK.sub hF (by kernel_rfl)), trivial⟩⟩⟩⟩ r9
def m10 : Entry := (121, [V.sl [[i 0,i 50,i 50,V.sl [[i 9,i 0,i 0,i 0],[i 10,i 0,i 0,i 0],[i 0,i 0,i 0,i 0]],s0,s0]],V.agg [i 1,i 50,i 50,V.sl [[i 9,i 0,i 0,i 0],[i 1,i 1,i 0,i 0],[i 10,i 0,i 0,i 0],[i 0,i 0,i 0,i 0]],s0,V.sl [[i 0,i 0,i 0,i 0]]],i 100], V.tup [V.fresh [[i 0,i 50,i 50,V.sl [[i 9,i 0,i 0,i 0],[i 10,i 0,i 0,i 0],[i 0,i 0,i 0,i 0]],s0,s0],[i 1,i 50,i 50,V.sl [[i 9,i 0,i 0,i 0],[i 1,i 1,i 0,i 0],[i 10,i 0,i 0,i 0],[i 0,i 0,i 0,i 0]],s0,V.sl [[i 0,i 0,i 0,i 0]]]],V.fresh [[i 3,i 3,i 2,i 8,i 42],[i 4,i 4,i 1,i 12,i 38]],i 0], [])
def fx10 : List Fact := []
theorem r10 : runF (abi fx10) funs (orP prims (memoP [m6, m8, m4, m7, m9])) 100000 60 121 m10.2.1 = some m10.2.2 := by kernel_rfl
theorem w10 (ρ : Nat → Int) (hF : FactsOK (nf ρ) fx10) : Holds ρ m10 := holds_of (tbl := [m6, m8, m4, m7, m9]) hF ⟨w6 ρ (FactsOK.sub hF (by kernel_rfl)), ⟨w8 ρ (FactsOK.sub hF (by kernel_rfl)), ⟨w4 ρ (FactsOK.sub hF (by kernel_rfl)), ⟨w7 ρ (FactsOK.sub hF (by kernel_rfl)), ⟨w9 ρ (FactsOK.sub hF (by kernel_rfl)), trivial⟩⟩⟩⟩⟩ r10
def m11 : Entry := (127, [V.agg [V.sl [[i 1],[i 0],[i 0],[i 0],[i 0],[i 0],[i 0],[i 0],[i 0],[i 0],[i 0],[i 0]],V.sl [[b1],[b0],[b0],[b0],[b0],[b0],[b0],[b0],[b0],[b0],[b0],[b0]],V.sl [[i 1,i 0,i 1,i 8,i 0,s0,s0,V.int .u32 (0),s0,V.int .u32 (2300351877)],[i 0,i 0,i 0,i 0,i 0,s0,s0,V.int .u32 (0),s0,V.int .u32 (0)],[i 0,i 0,i 0,i 0,i 0,s0,s0,V.int .u32 (0),s0,V.int .u32 (0)],[i 0,i 0,i 0,i 0,i 0,s0,s0,V.int .u32 (0),s0,V.int .u32 (0)],[i 0,i 0,i 0,i 0,i 0,s0,s0,V.int .u32 (0),s0,V.int .u32 (0)],[i 0,i 0,i 0,i 0,i 0,s0,s0,V.int .u32 (0),s0,V.int .u32 (0)],[i 0,i 0,i 0,i 0,i 0,s0,s0,V.int .u32 (0),s0,V.int .u32 (0)],[i 0,i 0,i 0,i 0,i 0,s0,s0,V.int .u32 (0),s0,V.int .u32 (0)],[i 0,i 0,i 0,i 0,i 0,s0,s0,V.int .u32 (0),s0,V.int .u32 (0)],[i 0,i 0,i 0,i 0,i 0,s0,s0,V.int .u32 (0),s0,V.int .u32 (0)],[i 0,i 0,i 0,i 0,i 0,s0,s0,V.int .u32 (0),s0,V.int .u32 (0)],[i 0,i 0,i 0,i 0,i 0,s0,s0,V.int .u32 (0),s0,V.int .u32 (0)]]],i 0,V.agg [i 1,i 0,i 1,i 0,i 0,s0,s0,V.int .u32 (0),s0,V.int .u32 (2300351877)]], V.agg [V.fresh [[i 1],[i 0],[i 0],[i 0],[i 0],[i 0],[i 0],[i 0],[i 0],[i 0],[i 0],[i 0]],V.fresh [[b1],[b0],[b0],[b0],[b0],[b0],[b0],[b0],[b0],[b0],[b0],[b0]],V.fresh [[i 1,i 0,i 1,i 0,i 0,s0,s0,V.int .u32 (0),s0,V.int .u32 (2300351941)],[i 0,i 0,i 0,i 0,i 0,s0,s0,V.int .u32 (0),s0,V.int .u32 (0)],[i 0,i 0,i 0,i 0,i 0,s0,s0,V.int .u32 (0),s0,V.int .u32 (0)],[i 0,i 0,i 0,i 0,i 0,s0,s0,V.int .u32 (0),s0,V.int .u32 (0)],[i 0,i 0,i 0,i 0,i 0,s0,s0,V.int .u32 (0),s0,V.int .u32 (0)],[i 0,i 0,i 0,i 0,i 0,s0,s0,V.int .u32 (0),s0,V.int .u32 (0)],[i 0,i 0,i 0,i 0,i 0,s0,s0,V.int .u32 (0),s0,V.int .u32 (0)],[i 0,i 0,i 0,i 0,i 0,s0,s0,V.int .u32 (0),s0,V.int .u32 (0)],[i 0,i 0,i 0,i 0,i 0,s0,s0,V.int .u32 (0),s0,V.int .u32 (0)],[i 0,i 0,i 0,i 0,i 0,s0,s0,V.int .u32 (0),s0,V.int .u32 (0)],[i 0,i 0,i 0,i 0,i 0,s0,s0,V.int .u32 (0),s0,V.int .u32 (0)],[i 0,i 0,i 0,i 0,i 0,s0,s0,V.int .u32 (0),s0,V.int .u32 (0)]]], [])
def fx11 : List Fact := []
theorem r11 : runF (abi fx11) funs (orP prims (memoP [])) 100000 60 127 m11.2.1 = some m11.2.2 := by kernel_rfl
theorem w11 (ρ : Nat → Int) (hF : FactsOK (nf ρ) fx11) : Holds ρ m11 := holds_of (tbl := []) hF trivial r11
def m12 : Entry := (123, [V.agg [i 0,i 100,V.sl [[i 0,i 50,i 50,V.sl [[i 9,i 0,i 0,i 0],[i 10,i 0,i 0,i 0],[i 0,i 0,i 0,i 0]],s0,s0],[i 1,i 50,i 50,V.sl [[i 9,i 0,i 0,i 0],[i 1,i 1,i 0,i 0],[i 10,i 0,i 0,i 0],[i 0,i 0,i 0,i 0]],s0,V.sl [[i 0,i 0,i 0,i 0]]]],V.sl [[i 3,i 3,i 2,i 8,i 42],[i 4,i 4,i 1,i 12,i 38]],b0,b0,b0,s0,V.sl [[i 1],[i 0],[i 0],[i 0],[i 0],[i 0],[i 0],[i 0],[i 0],[i 0],[i 0],[i 0]],V.sl [[b1],[b0],[b0],[b0],[b0],[b0],[b0],[b0],[b0],[b0],[b0],[b0]],V.sl [[i 1,i 0,i 1,i 8,i 0,s0,s0,V.int .u32 (0),s0,V.int .u32 (2300351877)],[i 0,i 0,i 0,i 0,i 0,s0,s0,V.int .u32 (0),s0,V.int .u32 (0)],[i 0,i 0,i 0,i 0,i 0,s0,s0,V.int .u32 (0),s0,V.int .u32 (0)],[i 0,i 0,i 0,i 0,i 0,s0,s0,V.int .u32 (0),s0,V.int .u32 (0)],[i 0,i 0,i 0,i 0,i 0,s0,s0,V.int .u32 (0),s0,V.int .u32 (0)],[i 0,i 0,i 0,i 0,i 0,s0,s0,V.int .u32 (0),s0,V.int .u32 (0)],[i 0,i 0,i 0,i 0,i 0,s0,s0,V.int .u32 (0),s0,V.int .u32 (0)],[i 0,i 0,i 0,i 0,i 0,s0,s0,V.int .u32 (0),s0,V.int .u32 (0)],[i 0,i 0,i 0,i 0,i 0,s0,s0,V.int .u32 (0),s0,V.int .u32 (0)],[i 0,i 0,i 0,i 0,i 0,s0,s0,V.int .u32 (0),s0,V.int .u32 (0)],[i 0,i 0,i 0,i 0,i 0,s0,s0,V.int .u32 (0),s0,V.int .u32 (0)],[i 0,i 0,i 0,i 0,i 0,s0,s0,V.int .u32 (0),s0,V.int .u32 (0)]],s0,s0]], V.tup [V.agg [i 0,i 100,V.fresh [[i 0,i 50,i 50,V.sl [[i 9,i 0,i 0,i 0],[i 10,i 0,i 0,i 0],[i 0,i 0,i 0,i 0]],s0,s0],[i 1,i 50,i 50,V.sl [[i 9,i 0,i 0,i 0],[i 1,i 1,i 0,i 0],[i 10,i 0,i 0,i 0],[i 0,i 0,i 0,i 0]],s0,V.sl [[i 0,i 0,i 0,i 0]]]],V.fresh [[i 3,i 3,i 2,i 8,i 42],[i 4,i 4,i 1,i 12,i 38]],b1,b0,b0,f0,V.fresh [[i 1],[i 0],[i 0],[i 0],[i 0],[i 0],[i 0],[i 0],[i 0],[i 0],[i 0],[i 0]],V.fresh [[b1],[b0],[b0],[b0],[b0],[b0],[b0],[b0],[b0],[b0],[b0],[b0]],V.fresh [[i 1,i 0,i 1,i 0,i 0,s0,s0,V.int .u32 (0),s0,V.int .u32 (2300351941)],[i 0,i 0,i 0,i 0,i 0,s0,s0,V.int .u32 (0),s0,V.int .u32 (0)],[i 0,i 0,i 0,i 0,i 0,s0,s0,V.int .u32 (0),s0,V.int .u32 (0)],[i 0,i 0,i 0,i 0,i 0,s0,s0,V.int .u32 (0),s0,V.int .u32 (0)],[i 0,i 0,i 0,i 0,i 0,s0,s0,V.int .u32 (0),s0,V.int .u32 (0)],[i 0,i 0,i 0,i 0,i 0,s0,s0,V.int .u32 (0),s0,V.int .u32 (0)],[i 0,i 0,i 0,i 0,i 0,s0,s0,V.int .u32 (0),s0,V.int .u32 (0)],[i 0,i 0,i 0,i 0,i 0,s0,s0,V.int .u32 (0),s0,V.int .u32 (0)],[i 0,i 0,i 0,i 0,i 0,s0,s0,V.int .u32 (0),s0,V.int .u32 (0)],[i 0,i 0,i 0,i 0,i 0,s0,s0,V.int .u32 (0),s0,V.int .u32 (0)],[i 0,i 0,i 0,i 0,i 0,s0,s0,V.int .u32 (0),s0,V.int .u32 (0)],[i 0,i 0,i 0,i 0,i 0,s0,s0,V.int .u32 (0),s0,V.int .u32 (0)]],f0,f0],i 0], [])
def fx12 : List Fact := []
theorem r12 : runF (abi fx12) funs (orP prims (memoP [m11])) 100000 60 123 m12.2.1 = some m12.2.2 := by kernel_rfl
theorem w12 (ρ : Nat → Int) (hF : FactsOK (nf ρ) fx12) : Holds ρ m12 := holds_of (tbl := [m11]) hF ⟨w11 ρ (FactsOK.sub hF (by kernel_rfl)), trivial⟩ r12
def m13 : Entry := (44, [V.agg [i 0,i 100,V.sl [[i 0,i 50,i 50,V.sl [[i 9,i 0,i 0,i 0],[i 10,i 0,i 0,i 0],[i 0,i 0,i 0,i 0]],s0,s0],[i 1,i 50,i 50,V.sl [[i 9,i 0,i 0,i 0],[i 1,i 1,i 0,i 0],[i 10,i 0,i 0,i 0],[i 0,i 0,i 0,i 0]],s0,V.sl [[i 0,i 0,i 0,i 0]]]],V.sl [[i 3,i 3,i 2,i 8,i 42],[i 4,i 4,i 1,i 12,i 38]],b1,b0,b0,s0,V.sl [[i 1],[i 0],[i 0],[i 0],[i 0],[i 0],[i 0],[i 0],[i 0],[i 0],[i 0],[i 0]],V.sl [[b1],[b0],[b0],[b0],[b0],[b0],[b0],[b0],[b0],[b0],[b0],[b0]],V.sl [[i 1,i 0,i 1,i 0,i 0,s0,s0,V.int .u32 (0),s0,V.int .u32 (2300351941)],[i 0,i 0,i 0,i 0,i 0,s0,s0,V.int .u32 (0),s0,V.int .u32 (0)],[i 0,i 0,i 0,i 0,i 0,s0,s0,V.int .u32 (0),s0,V.int .u32 (0)],[i 0,i 0,i 0,i 0,i 0,s0,s0,V.int .u32 (0),s0,V.int .u32 (0)],[i 0,i 0,i 0,i 0,i 0,s0,s0,V.int .u32 (0),s0,V.int .u32 (0)],[i 0,i 0,i 0,i 0,i 0,s0,s0,V.int .u32 (0),s0,V.int .u32 (0)],[i 0,i 0,i 0,i 0,i 0,s0,s0,V.int .u32 (0),s0,V.int .u32 (0)],[i 0,i 0,i 0,i 0,i 0,s0,s0,V.int .u32 (0),s0,V.int .u32 (0)],[i 0,i 0,i 0,i 0,i 0,s0,s0,V.int .u32 (0),s0,V.int .u32 (0)],[i 0,i 0,i 0,i 0,i 0,s0,s0,V.int .u32 (0),s0,V.int .u32 (0)],[i 0,i 0,i 0,i 0,i 0,s0,s0,V.int .u32 (0),s0,V.int .u32 (0)],[i 0,i 0,i 0,i 0,i 0,s0,s0,V.int .u32 (0),s0,V.int .u32 (0)]],V.sl [[i 0],[i 0]],V.sl [[b0],[b0]]],V.agg [i 6,i 0,i 0,i 0,s0,s0,s0,i 0,i 0,i 1,i 5,V.int .u32 (0)]], V.tup [V.agg [i 0,i 100,V.fresh [[i 0,i 50,i 50,V.sl [[i 9,i 0,i 0,i 0],[i 10,i 0,i 0,i 0],[i 0,i 0,i 0,i 0]],s0,s0],[i 1,i 50,i 50,V.sl [[i 9,i 0,i 0,i 0],[i 1,i 1,i 0,i 0],[i 10,i 0,i 0,i 0],[i 0,i 0,i 0,i 0]],s0,V.sl [[i 0,i 0,i 0,i 0]]]],V.fresh [[i 3,i 3,i 2,i 8,i 42],[i 4,i 4,i 1,i 12,i 38]],b1,b0,b0,V.fresh [[i 1,i 0,i 5,i 0,i 0,i 5,i 0,i 0,i 0,i 0,i 0,i 0,i 0,s0,b0,i 0,i 5,i 0,i 0,i 0,i 0,i 0,i 0,i 0,s0,b0,s0,b0]],V.fresh [[i 1],[i 0],[i 0],[i 0],[i 0],[i 0],[i 0],[i 0],[i 0],[i 0],[i 0],[i 0]],V.fresh [[b1],[b0],[b0],[b0],[b0],[b0],[b0],[b0],[b0],[b0],[b0],[b0]],V.fresh [[i 1,i 0,i 1,i 0,i 0,s0,s0,V.int .u32 (0),s0,V.int .u32 (2300351941)],[i 0,i 0,i 0,i 0,i 0,s0,s0,V.int .u32 (0),s0,V.int .u32 (0)],[i 0,i 0,i 0,i 0,i 0,s0,s0,V.int .u32 (0),s0,V.int .u32 (0)],[i 0,i 0,i 0,i 0,i 0,s0,s0,V.int .u32 (0),s0,V.int .u32 (0)],[i 0,i 0,i 0,i 0,i 0,s0,s0,V.int .u32 (0),s0,V.int .u32 (0)],[i 0,i 0,i 0,i 0,i 0,s0,s0,V.int .u32 (0),s0,V.int .u32 (0)],[i 0,i 0,i 0,i 0,i 0,s0,s0,V.int .u32 (0),s0,V.int .u32 (0)],[i 0,i 0,i 0,i 0,i 0,s0,s0,V.int .u32 (0),s0,V.int .u32 (0)],[i 0,i 0,i 0,i 0,i 0,s0,s0,V.int .u32 (0),s0,V.int .u32 (0)],[i 0,i 0,i 0,i 0,i 0,s0,s0,V.int .u32 (0),s0,V.int .u32 (0)],[i 0,i 0,i 0,i 0,i 0,s0,s0,V.int .u32 (0),s0,V.int .u32 (0)],[i 0,i 0,i 0,i 0,i 0,s0,s0,V.int .u32 (0),s0,V.int .u32 (0)]],V.fresh [[i 0],[i 0]],V.fresh [[b0],[b0]]],V.fresh [[i 0,i 1,i 1,i 0,i 5,i 0]],V.agg [i 0,i 0,i 0,i 0]], [])
def fx13 : List Fact := []
theorem r13 : runF (abi fx13) funs (orP prims (memoP [])) 100000 60 44 m13.2.1 = some m13.2.2 := by kernel_rfl
theorem w13 (ρ : Nat → Int) (hF : FactsOK (nf ρ) fx13) : Holds ρ m13 := holds_of (tbl := []) hF trivial r13
def m14 : Entry := (141, [V.agg [V.sl [[i 1],[i 0],[i 0],[i 0],[i 0],[i 0],[i 0],[i 0],[i 0],[i 0],[i 0],[i 0]],V.sl [[b1],[b0],[b0],[b0],[b0],[b0],[b0],[b0],[b0],[b0],[b0],[b0]],V.sl [[i 1,i 0,i 1,i 0,i 0,s0,s0,V.int .u32 (0),s0,V.int .u32 (2300351941)],[i 0,i 0,i 0,i 0,i 0,s0,s0,V.int .u32 (0),s0,V.int .u32 (0)],[i 0,i 0,i 0,i 0,i 0,s0,s0,V.int .u32 (0),s0,V.int .u32 (0)],[i 0,i 0,i 0,i 0,i 0,s0,s0,V.int .u32 (0),s0,V.int .u32 (0)],[i 0,i 0,i 0,i 0,i 0,s0,s0,V.int .u32 (0),s0,V.int .u32 (0)],[i 0,i 0,i 0,i 0,i 0,s0,s0,V.int .u32 (0),s0,V.int .u32 (0)],[i 0,i 0,i 0,i 0,i 0,s0,s0,V.int .u32 (0),s0,V.int .u32 (0)],[i 0,i 0,i 0,i 0,i 0,s0,s0,V.int .u32 (0),s0,V.int .u32 (0)],[i 0,i 0,i 0,i 0,i 0,s0,s0,V.int .u32 (0),s0,V.int .u32 (0)],[i 0,i 0,i 0,i 0,i 0,s0,s0,V.int .u32 (0),s0,V.int .u32 (0)],[i 0,i 0,i 0,i 0,i 0,s0,s0,V.int .u32 (0),s0,V.int .u32 (0)],[i 0,i 0,i 0,i 0,i 0,s0,s0,V.int .u32 (0),s0,V.int .u32 (0)]]]], V.tup [V.agg [V.fresh [[i 1],[i 0],[i 0],[i 0],[i 0],[i 0],[i 0],[i 0],[i 0],[i 0],[i 0],[i 0]],V.fresh [[b1],[b0],[b0],[b0],[b0],[b0],[b0],[b0],[b0],[b0],[b0],[b0]],V.fresh [[i 1,i 0,i 1,i 0,i 0,s0,s0,V.int .u32 (0),s0,V.int .u32 (2300351941)],[i 0,i 0,i 0,i 0,i 0,s0,s0,V.int .u32 (0),s0,V.int .u32 (0)],[i 0,i 0,i 0,i 0,i 0,s0,s0,V.int .u32 (0),s0,V.int .u32 (0)],[i 0,i 0,i 0,i 0,i 0,s0,s0,V.int .u32 (0),s0,V.int .u32 (0)],[i 0,i 0,i 0,i 0,i 0,s0,s0,V.int .u32 (0),s0,V.int .u32 (0)],[i 0,i 0,i 0,i 0,i 0,s0,s0,V.int .u32 (0),s0,V.int .u32 (0)],[i 0,i 0,i 0,i 0,i 0,s0,s0,V.int .u32 (0),s0,V.int .u32 (0)],[i 0,i 0,i 0,i 0,i 0,s0,s0,V.int .u32 (0),s0,V.int .u32 (0)],[i 0,i 0,i 0,i 0,i 0,s0,s0,V.int .u32 (0),s0,V.int .u32 (0)],[i 0,i 0,i 0,i 0,i 0,s0,s0,V.int .u32 (0),s0,V.int .u32 (0)],[i 0,i 0,i 0,i 0,i 0,s0,s0,V.int .u32 (0),s0,V.int .u32 (0)],[i 0,i 0,i 0,i 0,i 0,s0,s0,V.int .u32 (0),s0,V.int .u32 (0)]]],f0,f0], [])
def fx14 : List Fact := []
theorem r14 : runF (abi fx14) funs (orP prims (memoP [])) 100000 60 141 m14.2.1 = some m14.2.2 := by kernel_rfl
theorem w14 (ρ : Nat → Int) (hF : FactsOK (nf ρ) fx14) : Holds ρ m14 := holds_of (tbl := []) hF trivial r14
def m15 : Entry := (127, [V.agg [V.sl [[i 1],[i 0],[i 0],[i 0],[i 0],[i 0],[i 0],[i 0],[i 0],[i 0],[i 0],[i 0]],V.sl [[b1],[b0],[b0],[b0],[b0],[b0],[b0],[b0],[b0],[b0],[b0],[b0]],V.sl [[i 1,i 0,i 1,i 0,i 0,s0,s0,V.int .u32 (0),s0,V.int .u32 (2300351941)],[i 0,i 0,i 0,i 0,i 0,s0,s0,V.int .u32 (0),s0,V.int .u32 (0)],[i 0,i 0,i 0,i 0,i 0,s0,s0,V.int .u32 (0),s0,V.int .u32 (0)],[i 0,i 0,i 0,i 0,i 0,s0,s0,V.int .u32 (0),s0,V.int .u32 (0)],[i 0,i 0,i 0,i 0,i 0,s0,s0,V.int .u32 (0),s0,V.int .u32 (0)],[i 0,i 0,i 0,i 0,i 0,s0,s0,V.int .u32 (0),s0,V.int .u32 (0)],[i 0,i 0,i 0,i 0,i 0,s0,s0,V.int .u32 (0),s0,V.int .u32 (0)],[i 0,i 0,i 0,i 0,i 0,s0,s0,V.int .u32 (0),s0,V.int .u32 (0)],[i 0,i 0,i 0,i 0,i 0,s0,s0,V.int .u32 (0),s0,V.int .u32 (0)],[i 0,i 0,i 0,i 0,i 0,s0,s0,V.int .u32 (0),s0,V.int .u32 (0)],[i 0,i 0,i 0,i 0,i 0,s0,s0,V.int .u32 (0),s0,V.int .u32 (0)],[i 0,i 0,i 0,i 0,i 0,s0,s0,V.int .u32 (0),s0,V.int .u32 (0)]]],i 0,V.agg [i 1,i 0,i 1,i 0,i 2,s0,s0,V.int .u32 (0),s0,V.int .u32 (2300351941)]], V.agg [V.fresh [[i 1],[i 0],[i 0],[i 0],[i 0],[i 0],[i 0],[i 0],[i 0],[i 0],[i 0],[i 0]],V.fresh [[b1],[b0],[b0],[b0],[b0],[b0],[b0],[b0],[b0],[b0],[b0],[b0]],V.fresh [[i 1,i 0,i 1,i 0,i 2,s0,s0,V.int .u32 (0),s0,V.int .u32 (2568787397)],[i 0,i 0,i 0,i 0,i 0,s0,s0,V.int .u32 (0),s0,V.int .u32 (0)],[i 0,i 0,i 0,i 0,i 0,s0,s0,V.int .u32 (0),s0,V.int .u32 (0)],[i 0,i 0,i 0,i 0,i 0,s0,s0,V.int .u32 (0),s0,V.int .u32 (0)],[i 0,i 0,i 0,i 0,i 0,s0,s0,V.int .u32 (0),s0,V.int .u32 (0)],[i 0,i 0,i 0,i 0,i 0,s0,s0,V.int .u32 (0),s0,V.int .u32 (0)],[i 0,i 0,i 0,i 0,i 0,s0,s0,V.int .u32 (0),s0,V.int .u32 (0)],[i 0,i 0,i 0,i 0,i 0,s0,s0,V.int .u32 (0),s0,V.int .u32 (0)],[i 0,i 0,i 0,i 0,i 0,s0,s0,V.int .u32 (0),s0,V.int .u32 (0)],[i 0,i 0,i 0,i 0,i 0,s0,s0,V.int .u32 (0),s0,V.int .u32 (0)],[i 0,i 0,i 0,i 0,i 0,s0,s0,V.int .u32 (0),s0,V.int .u32 (0)],[i 0,i 0,i 0,i 0,i 0,s0,s0,V.int .u32 (0),s0,V.int .u32 (0)]]], [])
def fx15 : List Fact := []
theorem r15 : runF (abi fx15) funs (orP prims (memoP [])) 100000 60 127 m15.2.1 = some m15.2.2 := by kernel_rfl
theorem w15 (ρ : Nat → Int) (hF : FactsOK (nf ρ) fx15) : Holds ρ m15 := holds_of (tbl := []) hF trivial r15
def m16 : Entry := (45, [V.agg [i 0,i 100,V.sl [[i 0,i 50,i 50,V.sl [[i 9,i 0,i 0,i 0],[i 10,i 0,i 0,i 0],[i 0,i 0,i 0,i 0]],s0,s0],[i 1,i 50,i 50,V.sl [[i 9,i 0,i 0,i 0],[i 1,i 1,i 0,i 0],[i 10,i 0,i 0,i 0],[i 0,i 0,i 0,i 0]],s0,V.sl [[i 0,i 0,i 0,i 0]]]],V.sl [[i 3,i 3,i 2,i 8,i 42],[i 4,i 4,i 1,i 12,i 38]],b1,b0,b0,V.sl [[i 1,i 0,i 5,i 0,i 0,i 5,i 0,i 0,i 0,i 0,i 0,i 0,i 0,s0,b0,i 0,i 5,i 0,i 0,i 0,i 0,i 0,i 0,i 0,s0,b0,s0,b0]],V.sl [[i 1],[i 0],[i 0],[i 0],[i 0],[i 0],[i 0],[i 0],[i 0],[i 0],[i 0],[i 0]],V.sl [[b1],[b0],[b0],[b0],[b0],[b0],[b0],[b0],[b0],[b0],[b0],[b0]],V.sl [[i 1,i 0,i 1,i 0,i 0,s0,s0,V.int .u32 (0),s0,V.int .u32 (2300351941)],[i 0,i 0,i 0,i 0,i 0,s0,s0,V.int .u32 (0),s0,V.int .u32 (0)],[i 0,i 0,i 0,i 0,i 0,s0,s0,V.int .u32 (0),s0,V.int .u32 (0)],[i 0,i 0,i 0,i 0,i 0,s0,s0,V.int .u32 (0),s0,V.int .u32 (0)],[i 0,i 0,i 0,i 0,i 0,s0,s0,V.int .u32 (0),s0,V.int .u32 (0)],[i 0,i 0,i 0,i 0,i 0,s0,s0,V.int .u32 (0),s0,V.int .u32 (0)],[i 0,i 0,i 0,i 0,i 0,s0,s0,V.int .u32 (0),s0,V.int .u32 (0)],[i 0,i 0,i 0,i 0,i 0,s0,s0,V.int .u32 (0),s0,V.int .u32 (0)],[i 0,i 0,i 0,i 0,i 0,s0,s0,V.int .u32 (0),s0,V.int .u32 (0)],[i 0,i 0,i 0,i 0,i 0,s0,s0,V.int .u32 (0),s0,V.int .u32 (0)],[i 0,i 0,i 0,i 0,i 0,s0,s0,V.int .u32 (0),s0,V.int .u32 (0)],[i 0,i 0,i 0,i 0,i 0,s0,s0,V.int .u32 (0),s0,V.int .u32 (0)]],V.sl [[i 0],[i 0]],V.sl [[b0],[b0]]]], V.tup [V.agg [i 1,i 100,V.fresh [[i 0,i 50,i 50,V.sl [[i 9,i 0,i 0,i 0],[i 10,i 0,i 0,i 0],[i 0,i 0,i 0,i 0]],s0,s0],[i 1,i 50,i 50,V.sl [[i 9,i 0,i 0,i 0],[i 1,i 1,i 0,i 0],[i 10,i 0,i 0,i 0],[i 0,i 0,i 0,i 0]],s0,V.sl [[i 0,i 0,i 0,i 0]]]],V.fresh [[i 3,i 3,i 2,i 8,i 42],[i 4,i 4,i 1,i 12,i 38]],b1,b0,b0,V.fresh [[i 1,i 0,i 5,i 0,i 1,i 5,i 0,i 0,i 0,i 0,i 0,i 0,i 0,s0,b0,i 0,i 5,i 0,i 0,i 0,i 0,i 0,i 0,i 0,s0,b0,V.sl [[i 0]],b0]],V.fresh [[i 1],[i 0],[i 0],[i 0],[i 0],[i 0],[i 0],[i 0],[i 0],[i 0],[i 0],[i 0]],V.fresh [[b1],[b0],[b0],[b0],[b0],[b0],[b0],[b0],[b0],[b0],[b0],[b0]],V.fresh [[i 1,i 0,i 1,i 0,i 2,s0,s0,V.int .u32 (0),s0,V.int .u32 (2568787397)],[i 0,i 0,i 0,i 0,i 0,s0,s0,V.int .u32 (0),s0,V.int .u32 (0)],[i 0,i 0,i 0,i 0,i 0,s0,s0,V.int .u32 (0),s0,V.int .u32 (0)],[i 0,i 0,i 0,i 0,i 0,s0,s0,V.int .u32 (0),s0,V.int .u32 (0)],[i 0,i 0,i 0,i 0,i 0,s0,s0,V.int .u32 (0),s0,V.int .u32 (0)],[i 0,i 0,i 0,i 0,i 0,s0,s0,V.int .u32 (0),s0,V.int .u32 (0)],[i 0,i 0,i 0,i 0,i 0,s0,s0,V.int .u32 (0),s0,V.int .u32 (0)],[i 0,i 0,i 0,i 0,i 0,s0,s0,V.int .u32 (0),s0,V.int .u32 (0)],[i 0,i 0,i 0,i 0,i 0,s0,s0,V.int .u32 (0),s0,V.int .u32 (0)],[i 0,i 0,i 0,i 0,i 0,s0,s0,V.int .u32 (0),s0,V.int .u32 (0)],[i 0,i 0,i 0,i 0,i 0,s0,s0,V.int .u32 (0),s0,V.int .u32 (0)],[i 0,i 0,i 0,i 0,i 0,s0,s0,V.int .u32 (0),s0,V.int .u32 (0)]],V.fresh [[i 0],[i 0]],V.fresh [[b0],[b0]]],V.fresh [[i 0,i 2,i 1,i 0,i 0,i 0]]], [])
def fx16 : List Fact := []
theorem r16 : runF (abi fx16) funs (orP prims (memoP [m14, m15])) 100000 60 45 m16.2.1 = some m16.2.2 := by kernel_rfl
theorem w16 (ρ : Nat → Int) (hF : FactsOK (nf ρ) fx16) : Holds ρ m16 := holds_of (tbl := [m14, m15]) hF ⟨w14 ρ (FactsOK.sub hF (by kernel_rfl)), ⟨w15 ρ (FactsOK.sub hF (by kernel_rfl)), trivial⟩⟩ r16
def m17 : Entry := (44, [V.agg [i 1,i 100,V.sl [[i 0,i 50,i 50,V.sl [[i 9,i 0,i 0,i 0],[i 10,i 0,i 0,i 0],[i 0,i 0,i 0,i 0]],s0,s0],[i 1,i 50,i 50,V.sl [[i 9,i 0,i 0,i 0],[i 1,i 1,i 0,i 0],[i 10,i 0,i 0,i 0],[i 0,i 0,i 0,i 0]],s0,V.sl [[i 0,i 0,i 0,i 0]]]],V.sl [[i 3,i 3,i 2,i 8,i 42],[i 4,i 4,i 1,i 12,i 38]],b1,b0,b0,V.sl [[i 1,i 0,i 5,i 0,i 1,i 5,i 0,i 0,i 0,i 0,i 0,i 0,i 0,s0,b0,i 0,i 5,i 0,i 0,i 0,i 0,i 0,i 0,i 0,s0,b0,V.sl [[i 0]],b0]],V.sl [[i 1],[i 0],[i 0],[i 0],[i 0],[i 0],[i 0],[i 0],[i 0],[i 0],[i 0],[i 0]],V.sl [[b1],[b0],[b0],[b0],[b0],[b0],[b0],[b0],[b0],[b0],[b0],[b0]],V.sl [[i 1,i 0,i 1,i 0,i 2,s0,s0,V.int .u32 (0),s0,V.int .u32 (2568787397)],[i 0,i 0,i 0,i 0,i 0,s0,s0,V.int .u32 (0),s0,V.int .u32 (0)],[i 0,i 0,i 0,i 0,i 0,s0,s0,V.int .u32 (0),s0,V.int .u32 (0)],[i 0,i 0,i 0,i 0,i 0,s0,s0,V.int .u32 (0),s0,V.int .u32 (0)],[i 0,i 0,i 0,i 0,i 0,s0,s0,V.int .u32 (0),s0,V.int .u32 (0)],[i 0,i 0,i 0,i 0,i 0,s0,s0,V.int .u32 (0),s0,V.int .u32 (0)],[i 0,i 0,i 0,i 0,i 0,s0,s0,V.int .u32 (0),s0,V.int .u32 (0)],[i 0,i 0,i 0,i 0,i 0,s0,s0,V.int .u32 (0),s0,V.int .u32 (0)],[i 0,i 0,i 0,i 0,i 0,s0,s0,V.int .u32 (0),s0,V.int .u32 (0)],[i 0,i 0,i 0,i 0,i 0,s0,s0,V.int .u32 (0),s0,V.int .u32 (0)],[i 0,i 0,i 0,i 0,i 0,s0,s0,V.int .u32 (0),s0,V.int .u32 (0)],[i 0,i 0,i 0,i 0,i 0,s0,s0,V.int .u32 (0),s0,V.int .u32 (0)]],V.sl [[i 0],[i 0]],V.sl [[b0],[b0]]],V.agg [i 6,i 0,i 0,i 0,s0,s0,s0,i 0,i 0,i 0,i 5,V.int .u32 (0)]], V.tup [V.agg [i 1,i 100,V.fresh [[i 0,i 50,i 50,V.sl [[i 9,i 0,i 0,i 0],[i 10,i 0,i 0,i 0],[i 0,i 0,i 0,i 0]],s0,s0],[i 1,i 50,i 50,V.sl [[i 9,i 0,i 0,i 0],[i 1,i 1,i 0,i 0],[i 10,i 0,i 0,i 0],[i 0,i 0,i 0,i 0]],s0,V.sl [[i 0,i 0,i 0,i 0]]]],V.fresh [[i 3,i 3,i 2,i 8,i 42],[i 4,i 4,i 1,i 12,i 38]],b1,b0,b0,V.fresh [[i 0,i 1,i 5,i 0,i 0,i 5,i 0,i 0,i 0,i 0,i 0,i 0,i 0,s0,b0,i 0,i 5,i 0,i 0,i 0,i 0,i 0,i 0,i 0,s0,b0,s0,b0],[i 1,i 0,i 5,i 0,i 1,i 5,i 0,i 0,i 0,i 0,i 0,i 0,i 0,s0,b0,i 0,i 5,i 0,i 0,i 0,i 0,i 0,i 0,i 0,s0,b0,V.sl [[i 0]],b0]],V.fresh [[i 1],[i 0],[i 0],[i 0],[i 0],[i 0],[i 0],[i 0],[i 0],[i 0],[i 0],[i 0]],V.fresh [[b1],[b0],[b0],[b0],[b0],[b0],[b0],[b0],[b0],[b0],[b0],[b0]],V.fresh [[i 1,i 0,i 1,i 0,i 2,s0,s0,V.int .u32 (0),s0,V.int .u32 (2568787397)],[i 0,i 0,i 0,i 0,i 0,s0,s0,V.int .u32 (0),s0,V.int .u32 (0)],[i 0,i 0,i 0,i 0,i 0,s0,s0,V.int .u32 (0),s0,V.int .u32 (0)],[i 0,i 0,i 0,i 0,i 0,s0,s0,V.int .u32 (0),s0,V.int .u32 (0)],[i 0,i 0,i 0,i 0,i 0,s0,s0,V.int .u32 (0),s0,V.int .u32 (0)],[i 0,i 0,i 0,i 0,i 0,s0,s0,V.int .u32 (0),s0,V.int .u32 (0)],[i 0,i 0,i 0,i 0,i 0,s0,s0,V.int .u32 (0),s0,V.int .u32 (0)],[i 0,i 0,i 0,i 0,i 0,s0,s0,V.int .u32 (0),s0,V.int .u32 (0)],[i 0,i 0,i 0,i 0,i 0,s0,s0,V.int .u32 (0),s0,V.int .u32 (0)],[i 0,i 0,i 0,i 0,i 0,s0,s0,V.int .u32 (0),s0,V.int .u32 (0)],[i 0,i 0,i 0,i 0,i 0,s0,s0,V.int .u32 (0),s0,V.int .u32 (0)],[i 0,i 0,i 0,i 0,i 0,s0,s0,V.int .u32 (0),s0,V.int .u32 (0)]],V.fresh [[i 0],[i 0]],V.fresh [[b0],[b0]]],V.fresh [[i 1,i 1,i 0,i 0,i 5,i 0]],V.agg [i 0,i 0,i 0,i 0]], [])
def fx17 : List Fact := []
theorem r17 : runF (abi fx17) funs (orP prims (memoP [])) 100000 60 44 m17.2.1 = some m17.2.2 := by kernel_rfl
theorem w17 (ρ : Nat → Int) (hF : FactsOK (nf ρ) fx17) : Holds ρ m17 := holds_of (tbl := []) hF trivial r17
def m18 : Entry := (141, [V.agg [V.sl [[i 1],[i 0],[i 0],[i 0],[i 0],[i 0],[i 0],[i 0],[i 0],[i 0],[i 0],[i 0]],V.sl [[b1],[b0],[b0],[b0],[b0],[b0],[b0],[b0],[b0],[b0],[b0],[b0]],V.sl [[i 1,i 0,i 1,i 0,i 2,s0,s0,V.int .u32 (0),s0,V.int .u32 (2568787397)],[i 0,i 0,i 0,i 0,i 0,s0,s0,V.int .u32 (0),s0,V.int .u32 (0)],[i 0,i 0,i 0,i 0,i 0,s0,s0,V.int .u32 (0),s0,V.int .u32 (0)],[i 0,i 0,i 0,i 0,i 0,s0,s0,V.int .u32 (0),s0,V.int .u32 (0)],[i 0,i 0,i 0,i 0,i 0,s0,s0,V.int .u32 (0),s0,V.int .u32 (0)],[i 0,i 0,i 0,i 0,i 0,s0,s0,V.int .u32 (0),s0,V.int .u32 (0)],[i 0,i 0,i 0,i 0,i 0,s0,s0,V.int .u32 (0),s0,V.int .u32 (0)],[i 0,i 0,i 0,i 0,i 0,s0,s0,V.int .u32 (0),s0,V.int .u32 (0)],[i 0,i 0,i 0,i 0,i 0,s0,s0,V.int .u32 (0),s0,V.int .u32 (0)],[i 0,i 0,i 0,i 0,i 0,s0,s0,V.int .u32 (0),s0,V.int .u32 (0)],[i 0,i 0,i 0,i 0,i 0,s0,s0,V.int .u32 (0),s0,V.int .u32 (0)],[i 0,i 0,i 0,i 0,i 0,s0,s0,V.int .u32 (0),s0,V.int .u32 (0)]]]], V.tup [V.agg [V.fresh [[i 1],[i 0],[i 0],[i 0],[i 0],[i 0],[i 0],[i 0],[i 0],[i 0],[i 0],[i 0]],V.fresh [[b1],[b0],[b0],[b0],[b0],[b0],[b0],[b0],[b0],[b0],[b0],[b0]],V.fresh [[i 1,i 0,i 1,i 0,i 2,s0,s0,V.int .u32 (0),s0,V.int .u32 (2568787397)],[i 0,i 0,i 0,i 0,i 0,s0,s0,V.int .u32 (0),s0,V.int .u32 (0)],[i 0,i 0,i 0,i 0,i 0,s0,s0,V.int .u32 (0),s0,V.int .u32 (0)],[i 0,i 0,i 0,i 0,i 0,s0,s0,V.int .u32 (0),s0,V.int .u32 (0)],[i 0,i 0,i 0,i 0,i 0,s0,s0,V.int .u32 (0),s0,V.int .u32 (0)],[i 0,i 0,i 0,i 0,i 0,s0,s0,V.int .u32 (0),s0,V.int .u32 (0)],[i 0,i 0,i 0,i 0,i 0,s0,s0,V.int .u32 (0),s0,V.int .u32 (0)],[i 0,i 0,i 0,i 0,i 0,s0,s0,V.int .u32 (0),s0,V.int .u32 (0)],[i 0,i 0,i 0,i 0,i 0,s0,s0,V.int .u32 (0),s0,V.int .u32 (0)],[i 0,i 0,i 0,i 0,i 0,s0,s0,V.int .u32 (0),s0,V.int .u32 (0)],[i 0,i 0,i 0,i 0,i 0,s0,s0,V.int .u32 (0),s0,V.int .u32 (0)],[i 0,i 0,i 0,i 0,i 0,s0,s0,V.int .u32 (0),s0,V.int .u32 (0)]]],f0,f0], [])
def fx18 : List Fact := []
theorem r18 : runF (abi fx18) funs (orP prims (memoP [])) 100000 60 141 m18.2.1 = some m18.2.2 := by kernel_rfl
theorem w18 (ρ : Nat → Int) (hF : FactsOK (nf ρ) fx18) : Holds ρ m18 := holds_of (tbl := []) hF trivial r18
def m19 : Entry := (45, [V.agg [i 1,i 100,V.sl [[i 0,i 50,i 50,V.sl [[i 9,i 0,i 0,i 0],[i 10,i 0,i 0,i 0],[i 0,i 0,i 0,i 0]],s0,s0],[i 1,i 50,i 50,V.sl [[i 9,i 0,i 0,i 0],[i 1,i 1,i 0,i 0],[i 10,i 0,i 0,i 0],[i 0,i 0,i 0,i 0]],s0,V.sl [[i 0,i 0,i 0,i 0]]]],V.sl [[i 3,i 3,i 2,i 8,i 42],[i 4,i 4,i 1,i 12,i 38]],b1,b0,b0,V.sl [[i 0,i 1,i 5,i 0,i 0,i 5,i 0,i 0,i 0,i 0,i 0,i 0,i 0,s0,b0,i 0,i 5,i 0,i 0,i 0,i 0,i 0,i 0,i 0,s0,b0,s0,b0],[i 1,i 0,i 5,i 0,i 1,i 5,i 0,i 0,i 0,i 0,i 0,i 0,i 0,s0,b0,i 0,i 5,i 0,i 0,i 0,i 0,i 0,i 0,i 0,s0,b0,V.sl [[i 0]],b0]],V.sl [[i 1],[i 0],[i 0],[i 0],[i 0],[i 0],[i 0],[i 0],[i 0],[i 0],[i 0],[i 0]],V.sl [[b1],[b0],[b0],[b0],[b0],[b0],[b0],[b0],[b0],[b0],[b0],[b0]],V.sl [[i 1,i 0,i 1,i 0,i 2,s0,s0,V.int .u32 (0),s0,V.int .u32 (2568787397)],[i 0,i 0,i 0,i 0,i 0,s0,s0,V.int .u32 (0),s0,V.int .u32 (0)],[i 0,i 0,i 0,i 0,i 0,s0,s0,V.int .u32 (0),s0,V.int .u32 (0)],[i 0,i 0,i 0,i 0,i 0,s0,s0,V.int .u32 (0),s0,V.int .u32 (0)],[i 0,i 0,i 0,i 0,i 0,s0,s0,V.int .u32 (0),s0,V.int .u32 (0)],[i 0,i 0,i 0,i 0,i 0,s0,s0,V.int .u32 (0),s0,V.int .u32 (0)],[i 0,i 0,i 0,i 0,i 0,s0,s0,V.int .u32 (0),s0,V.int .u32 (0)],[i 0,i 0,i 0,i 0,i 0,s0,s0,V.int .u32 (0),s0,V.int .u32 (0)],[i 0,i 0,i 0,i 0,i 0,s0,s0,V.int .u32 (0),s0,V.int .u32 (0)],[i 0,i 0,i 0,i 0,i 0,s0,s0,V.int .u32 (0),s0,V.int .u32 (0)],[i 0,i 0,i 0,i 0,i 0,s0,s0,V.int .u32 (0),s0,V.int .u32 (0)],[i 0,i 0,i 0,i 0,i 0,s0,s0,V.int .u32 (0),s0,V.int .u32 (0)]],V.sl [[i 0],[i 0]],V.sl [[b0],[b0]]]], V.tup [V.agg [i 2,i 100,V.fresh [[i 0,i 50,i 50,V.sl [[i 9,i 0,i 0,i 0],[i 10,i 0,i 0,i 0],[i 0,i 0,i 0,i 0]],s0,s0],[i 1,i 50,i 50,V.sl [[i 9,i 0,i 0,i 0],[i 1,i 1,i 0,i 0],[i 10,i 0,i 0,i 0],[i 0,i 0,i 0,i 0]],s0,V.sl [[i 0,i 0,i 0,i 0]]]],V.fresh [[i 3,i 3,i 2,i 8,i 42],[i 4,i 4,i 1,i 12,i 38]],b1,b0,b0,V.fresh [[i 0,i 1,i 5,i 0,i 0,i 5,i 0,i 0,i 0,i 0,i 0,i 0,i 0,s0,b0,i 0,i 5,i 0,i 0,i 0,i 0,i 0,i 0,i 0,s0,b0,s0,b0],[i 1,i 0,i 5,i 0,i 2,i 5,i 0,i 0,i 0,i 0,i 0,i 0,i 0,s0,b0,i 0,i 5,i 0,i 0,i 0,i 0,i 0,i 0,i 0,s0,b0,V.sl [[i 0]],b0]],V.fresh [[i 1],[i 0],[i 0],[i 0],[i 0],[i 0],[i 0],[i 0],[i 0],[i 0],[i 0],[i 0]],V.fresh [[b1],[b0],[b0],[b0],[b0],[b0],[b0],[b0],[b0],[b0],[b0],[b0]],V.fresh [[i 1,i 0,i 1,i 0,i 2,s0,s0,V.int .u32 (0),s0,V.int .u32 (2568787397)],[i 0,i 0,i 0,i 0,i 0,s0,s0,V.int .u32 (0),s0,V.int .u32 (0)],[i 0,i 0,i 0,i 0,i 0,s0,s0,V.int .u32 (0),s0,V.int .u32 (0)],[i 0,i 0,i 0,i 0,i 0,s0,s0,V.int .u32 (0),s0,V.int .u32 (0)],[i 0,i 0,i 0,i 0,i 0,s0,s0,V.int .u32 (0),s0,V.int .u32 (0)],[i 0,i 0,i 0,i 0,i 0,s0,s0,V.int .u32 (0),s0,V.int .u32 (0)],[i 0,i 0,i 0,i 0,i 0,s0,s0,V.int .u32 (0),s0,V.int .u32 (0)],[i 0,i 0,i 0,i 0,i 0,s0,s0,V.int .u32 (0),s0,V.int .u32 (0)],[i 0,i 0,i 0,i 0,i 0,s0,s0,V.int .u32 (0),s0,V.int .u32 (0)],[i 0,i 0,i 0,i 0,i 0,s0,s0,V.int .u32 (0),s0,V.int .u32 (0)],[i 0,i 0,i 0,i 0,i 0,s0,s0,V.int .u32 (0),s0,V.int .u32 (0)],[i 0,i 0,i 0,i 0,i 0,s0,s0,V.int .u32 (0),s0,V.int .u32 (0)]],V.fresh [[i 0],[i 0]],V.fresh [[b0],[b0]]],V.fresh [[i 1,i 2,i 1,i 0,i 0,i 0]]], [])
def fx19 : List Fact := []
theorem r19 : runF (abi fx19) funs (orP prims (memoP [m18])) 100000 60 45 m19.2.1 = some m19.2.2 := by kernel_rfl
theorem w19 (ρ : Nat → Int) (hF : FactsOK (nf ρ) fx19) : Holds ρ m19 := holds_of (tbl := [m18]) hF ⟨w18 ρ (FactsOK.sub hF (by kernel_rfl)), trivial⟩ r19
def m20 : Entry := (127, [V.agg [V.sl [[i 1],[i 0],[i 0],[i 0],[i 0],[i 0],[i 0],[i 0],[i 0],[i 0],[i 0],[i 0]],V.sl [[b1],[b0],[b0],[b0],[b0],[b0],[b0],[b0],[b0],[b0],[b0],[b0]],V.sl [[i 1,i 0,i 1,i 0,i 2,s0,s0,V.int .u32 (0),s0,V.int .u32 (2568787397)],[i 0,i 0,i 0,i 0,i 0,s0,s0,V.int .u32 (0),s0,V.int .u32 (0)],[i 0,i 0,i 0,i 0,i 0,s0,s0,V.int .u32 (0),s0,V.int .u32 (0)],[i 0,i 0,i 0,i 0,i 0,s0,s0,V.int .u32 (0),s0,V.int .u32 (0)],[i 0,i 0,i 0,i 0,i 0,s0,s0,V.int .u32 (0),s0,V.int .u32 (0)],[i 0,i 0,i 0,i 0,i 0,s0,s0,V.int .u32 (0),s0,V.int .u32 (0)],[i 0,i 0,i 0,i 0,i 0,s0,s0,V.int .u32 (0),s0,V.int .u32 (0)],[i 0,i 0,i 0,i 0,i 0,s0,s0,V.int .u32 (0),s0,V.int .u32 (0)],[i 0,i 0,i 0,i 0,i 0,s0,s0,V.int .u32 (0),s0,V.int .u32 (0)],[i 0,i 0,i 0,i 0,i 0,s0,s0,V.int .u32 (0),s0,V.int .u32 (0)],[i 0,i 0,i 0,i 0,i 0,s0,s0,V.int .u32 (0),s0,V.int .u32 (0)],[i 0,i 0,i 0,i 0,i 0,s0,s0,V.int .u32 (0),s0,V.int .u32 (0)]]],i 0,V.agg [i 1,i 0,i 1,i 0,i 0,s0,s0,V.int .u32 (0),s0,V.int .u32 (2568787397)]], V.agg [V.fresh [[i 1],[i 0],[i 0],[i 0],[i 0],[i 0],[i 0],[i 0],[i 0],[i 0],[i 0],[i 0]],V.fresh [[b1],[b0],[b0],[b0],[b0],[b0],[b0],[b0],[b0],[b0],[b0],[b0]],V.fresh [[i 1,i 0,i 1,i 0,i 0,s0,s0,V.int .u32 (0),s0,V.int .u32 (2300351941)],[i 0,i 0,i 0,i 0,i 0,s0,s0,V.int .u32 (0),s0,V.int .u32 (0)],[i 0,i 0,i 0,i 0,i 0,s0,s0,V.int .u32 (0),s0,V.int .u32 (0)],[i 0,i 0,i 0,i 0,i 0,s0,s0,V.int .u32 (0),s0,V.int .u32 (0)],[i 0,i 0,i 0,i 0,i 0,s0,s0,V.int .u32 (0),s0,V.int .u32 (0)],[i 0,i 0,i 0,i 0,i 0,s0,s0,V.int .u32 (0),s0,V.int .u32 (0)],[i 0,i 0,i 0,i 0,i 0,s0,s0,V.int .u32 (0),s0,V.int .u32 (0)],[i 0,i 0,i 0,i 0,i 0,s0,s0,V.int .u32 (0),s0,V.int .u32 (0)],[i 0,i 0,i 0,i 0,i 0,s0,s0,V.int .u32 (0),s0,V.int .u32 (0)],[i 0,i 0,i 0,i 0,i 0,s0,s0,V.int .u32 (0),s0,V.int .u32 (0)],[i 0,i 0,i 0,i 0,i 0,s0,s0,V.int .u32 (0),s0,V.int .u32 (0)],[i 0,i 0,i 0,i 0,i 0,s0,s0,V.int .u32 (0),s0,V.int .u32 (0)]]], [])
def fx20 : List Fact := []
theorem r20 : runF (abi fx20) funs (orP prims (memoP [])) 100000 60 127 m20.2.1 = some m20.2.2 := by kernel_rfl
theorem w20 (ρ : Nat → Int) (hF : FactsOK (nf ρ) fx20) : Holds ρ m20 := holds_of (tbl := []) hF trivial r20
def m21 : Entry := (86, [V.pbox [i 2,i 100,V.fresh [[i 0,i 50,i 50,V.sl [[i 9,i 0,i 0,i 0],[i 10,i 0,i 0,i 0],[i 0,i 0,i 0,i 0]],s0,s0],[i 1,i 50,i 50,V.sl [[i 9,i 0,i 0,i 0],[i 1,i 1,i 0,i 0],[i 10,i 0,i 0,i 0],[i 0,i 0,i 0,i 0]],s0,V.sl [[i 0,i 0,i 0,i 0]]]],V.fresh [[i 3,i 3,i 2,i 8,i 42],[i 4,i 4,i 1,i 12,i 38]],b1,b0,b0,V.fresh [[i 0,i 1,i 5,i 0,i 0,i 5,i 0,i 0,i 0,i 0,i 0,i 0,i 0,s0,b0,i 0,i 5,i 0,i 0,i 0,i 0,i 0,i 0,i 0,s0,b0,s0,b0],[i 1,i 0,i 5,i 0,i 2,i 5,i 0,i 0,i 0,i 0,i 0,i 0,i 0,s0,b0,i 0,i 5,i 0,i 0,i 0,i 0,i 0,i 0,i 0,s0,b0,V.sl [[i 0]],b0]],V.fresh [[i 1],[i 0],[i 0],[i 0],[i 0],[i 0],[i 0],[i 0],[i 0],[i 0],[i 0],[i 0]],V.fresh [[b1],[b0],[b0],[b0],[b0],[b0],[b0],[b0],[b0],[b0],[b0],[b0]],V.fresh [[i 1,i 0,i 1,i 0,i 2,s0,s0,V.int .u32 (0),s0,V.int .u32 (2568787397)],[i 0,i 0,i 0,i 0,i 0,s0,s0,V.int .u32 (0),s0,V.int .u32 (0)],[i 0,i 0,i 0,i 0,i 0,s0,s0,V.int .u32 (0),s0,V.int .u32 (0)],[i 0,i 0,i 0,i 0,i 0,s0,s0,V.int .u32 (0),s0,V.int .u32 (0)],[i 0,i 0,i 0,i 0,i 0,s0,s0,V.int .u32 (0),s0,V.int .u32 (0)],[i 0,i 0,i 0,i 0,i 0,s0,s0,V.int .u32 (0),s0,V.int .u32 (0)],[i 0,i 0,i 0,i 0,i 0,s0,s0,V.int .u32 (0),s0,V.int .u32 (0)],[i 0,i 0,i 0,i 0,i 0,s0,s0,V.int .u32 (0),s0,V.int .u32 (0)],[i 0,i 0,i 0,i 0,i 0,s0,s0,V.int .u32 (0),s0,V.int .u32 (0)],[i 0,i 0,i 0,i 0,i 0,s0,s0,V.int .u32 (0),s0,V.int .u32 (0)],[i 0,i 0,i 0,i 0,i 0,s0,s0,V.int .u32 (0),s0,V.int .u32 (0)],[i 0,i 0,i 0,i 0,i 0,s0,s0,V.int .u32 (0),s0,V.int .u32 (0)]],V.fresh [[i 0],[i 0]],V.fresh [[b0],[b0]],f0] 0], V.tup [], [[i 2,i 100,V.fresh [[i 0,i 50,i 50,V.sl [[i 9,i 0,i 0,i 0],[i 10,i 0,i 0,i 0],[i 0,i 0,i 0,i 0]],s0,s0],[i 1,i 50,i 50,V.sl [[i 9,i 0,i 0,i 0],[i 1,i 1,i 0,i 0],[i 10,i 0,i 0,i 0],[i 0,i 0,i 0,i 0]],s0,V.sl [[i 0,i 0,i 0,i 0]]]],V.fresh [[i 3,i 3,i 2,i 8,i 42],[i 4,i 4,i 1,i 12,i 38]],b1,b0,b0,V.fresh [[i 0,i 1,i 5,i 0,i 0,i 5,i 0,i 0,i 0,i 0,i 0,i 0,i 0,s0,b0,i 0,i 5,i 0,i 0,i 0,i 0,i 0,i 0,i 0,s0,b0,s0,b0],[i 1,i 0,i 5,i 0,i 3,i 5,i 0,i 0,i 0,i 0,i 0,i 0,i 0,s0,b0,i 0,i 5,i 0,i 0,i 0,i 0,i 0,i 0,i 0,s0,b0,s0,b0]],V.fresh [[i 1],[i 0],[i 0],[i 0],[i 0],[i 0],[i 0],[i 0],[i 0],[i 0],[i 0],[i 0]],V.fresh [[b1],[b0],[b0],[b0],[b0],[b0],[b0],[b0],[b0],[b0],[b0],[b0]],V.fresh [[i 1,i 0,i 1,i 0,i 0,s0,s0,V.int .u32 (0),s0,V.int .u32 (2300351941)],[i 0,i 0,i 0,i 0,i 0,s0,s0,V.int .u32 (0),s0,V.int .u32 (0)],[i 0,i 0,i 0,i 0,i 0,s0,s0,V.int .u32 (0),s0,V.int .u32 (0)],[i 0,i 0,i 0,i 0,i 0,s0,s0,V.int .u32 (0),s0,V.int .u32 (0)],[i 0,i 0,i 0,i 0,i 0,s0,s0,V.int .u32 (0),s0,V.int .u32 (0)],[i 0,i 0,i 0,i 0,i 0,s0,s0,V.int .u32 (0),s0,V.int .u32 (0)],[i 0,i 0,i 0,i 0,i 0,s0,s0,V.int .u32 (0),s0,V.int .u32 (0)],[i 0,i 0,i 0,i 0,i 0,s0,s0,V.int .u32 (0),s0,V.int .u32 (0)],[i 0,i 0,i 0,i 0,i 0,s0,s0,V.int .u32 (0),s0,V.int .u32 (0)],[i 0,i 0,i 0,i 0,i 0,s0,s0,V.int .u32 (0),s0,V.int .u32 (0)],[i 0,i 0,i 0,i 0,i 0,s0,s0,V.int .u32 (0),s0,V.int .u32 (0)],[i 0,i 0,i 0,i 0,i 0,s0,s0,V.int .u32 (0),s0,V.int .u32 (0)]],V.fresh [[i 0],[i 0]],V.fresh [[b0],[b0]],V.fresh [[i 2,i 2,i 1,i 0,i 0,i 0]]]])
def fx21 : List Fact := []
theorem r21 : runF (abi fx21) funs (orP prims (memoP [m20])) 100000 60 86 m21.2.1 = some m21.2.2 := by kernel_rfl
theorem w21 (ρ : Nat → Int) (hF : FactsOK (nf ρ) fx21) : Holds ρ m21 := holds_of (tbl := [m20]) hF ⟨w20 ρ (FactsOK.sub hF (by kernel_rfl)), trivial⟩ r21
def m22 : Entry := (23, [V.agg [i 1,i 100,V.sl [[i 0,i 50,i 50,V.sl [[i 9,i 0,i 0,i 0],[i 10,i 0,i 0,i 0],[i 0,i 0,i 0,i 0]],s0,s0],[i 1,i 50,i 50,V.sl [[i 9,i 0,i 0,i 0],[i 1,i 1,i 0,i 0],[i 10,i 0,i 0,i 0],[i 0,i 0,i 0,i 0]],s0,V.sl [[i 0,i 0,i 0,i 0]]]],V.sl [[i 3,i 3,i 2,i 8,i 42],[i 4,i 4,i 1,i 12,i 38]],b1,b0,b0,V.sl [[i 0,i 1,i 5,i 0,i 0,i 5,i 0,i 0,i 0,i 0,i 0,i 0,i 0,s0,b0,i 0,i 5,i 0,i 0,i 0,i 0,i 0,i 0,i 0,s0,b0,s0,b0],[i 1,i 0,i 5,i 0,i 1,i 5,i 0,i 0,i 0,i 0,i 0,i 0,i 0,s0,b0,i 0,i 5,i 0,i 0,i 0,i 0,i 0,i 0,i 0,s0,b0,V.sl [[i 0]],b0]],V.sl [[i 1],[i 0],[i 0],[i 0],[i 0],[i 0],[i 0],[i 0],[i 0],[i 0],[i 0],[i 0]],V.sl [[b1],[b0],[b0],[b0],[b0],[b0],[b0],[b0],[b0],[b0],[b0],[b0]],V.sl [[i 1,i 0,i 1,i 0,i 2,s0,s0,V.int .u32 (0),s0,V.int .u32 (2568787397)],[i 0,i 0,i 0,i 0,i 0,s0,s0,V.int .u32 (0),s0,V.int .u32 (0)],[i 0,i 0,i 0,i 0,i 0,s0,s0,V.int .u32 (0),s0,V.int .u32 (0)],[i 0,i 0,i 0,i 0,i 0,s0,s0,V.int .u32 (0),s0,V.int .u32 (0)],[i 0,i 0,i 0,i 0,i 0,s0,s0,V.int .u32 (0),s0,V.int .u32 (0)],[i 0,i 0,i 0,i 0,i 0,s0,s0,V.int .u32 (0),s0,V.int .u32 (0)],[i 0,i 0,i 0,i 0,i 0,s0,s0,V.int .u32 (0),s0,V.int .u32 (0)],[i 0,i 0,i 0,i 0,i 0,s0,s0,V.int .u32 (0),s0,V.int .u32 (0)],[i 0,i 0,i 0,i 0,i 0,s0,s0,V.int .u32 (0),s0,V.int .u32 (0)],[i 0,i 0,i 0,i 0,i 0,s0,s0,V.int .u32 (0),s0,V.int .u32 (0)],[i 0,i 0,i 0,i 0,i 0,s0,s0,V.int .u32 (0),s0,V.int .u32 (0)],[i 0,i 0,i 0,i 0,i 0,s0,s0,V.int .u32 (0),s0,V.int .u32 (0)]],V.sl [[i 0],[i 0]],V.sl [[b0],[b0]]],V.agg [i 5,i 0,i 0,i 0,i 0,s0,s0,s0,i 0,i 0,i 0,i 0,V.int .u32 (0),i 0,i 2]], V.tup [V.agg [i 3,i 100,V.fresh [[i 0,i 50,i 50,V.sl [[i 9,i 0,i 0,i 0],[i 10,i 0,i 0,i 0],[i 0,i 0,i 0,i 0]],s0,s0],[i 1,i 50,i 50,V.sl [[i 9,i 0,i 0,i 0],[i 1,i 1,i 0,i 0],[i 10,i 0,i 0,i 0],[i 0,i 0,i 0,i 0]],s0,V.sl [[i 0,i 0,i 0,i 0]]]],V.fresh [[i 3,i 3,i 2,i 8,i 42],[i 4,i 4,i 1,i 12,i 38]],b1,b0,b0,V.fresh [[i 0,i 1,i 5,i 0,i 0,i 5,i 0,i 0,i 0,i 0,i 0,i 0,i 0,s0,b0,i 0,i 5,i 0,i 0,i 0,i 0,i 0,i 0,i 0,s0,b0,s0,b0],[i 1,i 0,i 5,i 0,i 3,i 5,i 0,i 0,i 0,i 0,i 0,i 0,i 0,s0,b0,i 0,i 5,i 0,i 0,i 0,i 0,i 0,i 0,i 0,s0,b0,s0,b0]],V.fresh [[i 1],[i 0],[i 0],[i 0],[i 0],[i 0],[i 0],[i 0],[i 0],[i 0],[i 0],[i 0]],V.fresh [[b1],[b0],[b0],[b0],[b0],[b0],[b0],[b0],[b0],[b0],[b0],[b0]],V.fresh [[i 1,i 0,i 1,i 0,i 0,s0,s0,V.int .u32 (0),s0,V.int .u32 (2300351941)],[i 0,i 0,i 0,i 0,i 0,s0,s0,V.int .u32 (0),s0,V.int .u32 (0)],[i 0,i 0,i 0,i 0,i 0,s0,s0,V.int .u32 (0),s0,V.int .u32 (0)],[i 0,i 0,i 0,i 0,i 0,s0,s0,V.int .u32 (0),s0,V.int .u32 (0)],[i 0,i 0,i 0,i 0,i 0,s0,s0,V.int .u32 (0),s0,V.int .u32 (0)],[i 0,i 0,i 0,i 0,i 0,s0,s0,V.int .u32 (0),s0,V.int .u32 (0)],[i 0,i 0,i 0,i 0,i 0,s0,s0,V.int .u32 (0),s0,V.int .u32 (0)],[i 0,i 0,i 0,i 0,i 0,s0,s0,V.int .u32 (0),s0,V.int .u32 (0)],[i 0,i 0,i 0,i 0,i 0,s0,s0,V.int .u32 (0),s0,V.int .u32 (0)],[i 0,i 0,i 0,i 0,i 0,s0,s0,V.int .u32 (0),s0,V.int .u32 (0)],[i 0,i 0,i 0,i 0,i 0,s0,s0,V.int .u32 (0),s0,V.int .u32 (0)],[i 0,i 0,i 0,i 0,i 0,s0,s0,V.int .u32 (0),s0,V.int .u32 (0)]],V.fresh [[i 0],[i 0]],V.fresh [[b0],[b0]]],V.fresh [[i 1,i 2,i 1,i 0,i 0,i 0],[i 2,i 2,i 1,i 0,i 0,i 0]],V.agg [i 0,i 0,i 0,i 0]], [])
def fx22 : List Fact := []
theorem r22 : runF (abi fx22) funs (orP prims (memoP [m19, m18, m21])) 100000 60 23 m22.2.1 = some m22.2.2 := by kernel_rfl
theorem w22 (ρ : Nat → Int) (hF : FactsOK (nf ρ) fx22) : Holds ρ m22 := holds_of (tbl := [m19, m18, m21]) hF ⟨w19 ρ (FactsOK.sub hF (by kernel_rfl)), ⟨w18 ρ (FactsOK.sub hF (by kernel_rfl)), ⟨w21 ρ (FactsOK.sub hF (by kernel_rfl)), trivial⟩⟩⟩ r22
def m23 : Entry := (45, [V.agg [i 3,i 100,V.sl [[i 0,i 50,i 50,V.sl [[i 9,i 0,i 0,i 0],[i 10,i 0,i 0,i 0],[i 0,i 0,i 0,i 0]],s0,s0],[i 1,i 50,i 50,V.sl [[i 9,i 0,i 0,i 0],[i 1,i 1,i 0,i 0],[i 10,i 0,i 0,i 0],[i 0,i 0,i 0,i 0]],s0,V.sl [[i 0,i 0,i 0,i 0]]]],V.sl [[i 3,i 3,i 2,i 8,i 42],[i 4,i 4,i 1,i 12,i 38]],b1,b0,b1,V.sl [[i 0,i 1,i 5,i 0,i 0,i 5,i 0,i 0,i 0,i 0,i 0,i 0,i 0,s0,b0,i 0,i 5,i 0,i 0,i 0,i 0,i 0,i 0,i 0,s0,b0,s0,b0],[i 1,i 0,i 5,i 0,i 3,i 5,i 0,i 0,i 0,i 0,i 0,i 0,i 0,s0,b0,i 0,i 5,i 0,i 0,i 0,i 0,i 0,i 0,i 0,s0,b0,s0,b0]],V.sl [[i 1],[i 0],[i 0],[i 0],[i 0],[i 0],[i 0],[i 0],[i 0],[i 0],[i 0],[i 0]],V.sl [[b1],[b0],[b0],[b0],[b0],[b0],[b0],[b0],[b0],[b0],[b0],[b0]],V.sl [[i 1,i 0,i 1,i 0,i 0,s0,s0,V.int .u32 (0),s0,V.int .u32 (2300351941)],[i 0,i 0,i 0,i 0,i 0,s0,s0,V.int .u32 (0),s0,V.int .u32 (0)],[i 0,i 0,i 0,i 0,i 0,s0,s0,V.int .u32 (0),s0,V.int .u32 (0)],[i 0,i 0,i 0,i 0,i 0,s0,s0,V.int .u32 (0),s0,V.int .u32 (0)],[i 0,i 0,i 0,i 0,i 0,s0,s0,V.int .u32 (0),s0,V.int .u32 (0)],[i 0,i 0,i 0,i 0,i 0,s0,s0,V.int .u32 (0),s0,V.int .u32 (0)],[i 0,i 0,i 0,i 0,i 0,s0,s0,V.int .u32 (0),s0,V.int .u32 (0)],[i 0,i 0,i 0,i 0,i 0,s0,s0,V.int .u32 (0),s0,V.int .u32 (0)],[i 0,i 0,i 0,i 0,i 0,s0,s0,V.int .u32 (0),s0,V.int .u32 (0)],[i 0,i 0,i 0,i 0,i 0,s0,s0,V.int .u32 (0),s0,V.int .u32 (0)],[i 0,i 0,i 0,i 0,i 0,s0,s0,V.int .u32 (0),s0,V.int .u32 (0)],[i 0,i 0,i 0,i 0,i 0,s0,s0,V.int .u32 (0),s0,V.int .u32 (0)]],V.sl [[i 0],[i 0]],V.sl [[b0],[b0]]]], V.tup [V.agg [i 4,i 100,V.fresh [[i 0,i 50,i 50,V.sl [[i 9,i 0,i 0,i 0],[i 10,i 0,i 0,i 0],[i 0,i 0,i 0,i 0]],s0,s0],[i 1,i 50,i 50,V.sl [[i 9,i 0,i 0,i 0],[i 1,i 1,i 0,i 0],[i 10,i 0,i 0,i 0],[i 0,i 0,i 0,i 0]],s0,V.sl [[i 0,i 0,i 0,i 0]]]],V.fresh [[i 3,i 3,i 2,i 8,i 42],[i 4,i 4,i 1,i 12,i 38]],b1,b0,b0,V.fresh [[i 0,i 1,i 5,i 0,i 0,i 5,i 0,i 0,i 0,i 0,i 0,i 0,i 0,s0,b0,i 0,i 5,i 0,i 0,i 0,i 0,i 0,i 0,i 0,s0,b0,s0,b0],[i 1,i 0,i 5,i 0,i 3,i 5,i 0,i 0,i 0,i 0,i 0,i 0,i 0,s0,b0,i 0,i 5,i 0,i 0,i 0,i 0,i 0,i 0,i 0,s0,b0,s0,b0]],V.fresh [[i 1],[i 0],[i 0],[i 0],[i 0],[i 0],[i 0],[i 0],[i 0],[i 0],[i 0],[i 0]],V.fresh [[b1],[b0],[b0],[b0],[b0],[b0],[b0],[b0],[b0],[b0],[b0],[b0]],V.fresh [[i 1,i 0,i 1,i 0,i 0,s0,s0,V.int .u32 (0),s0,V.int .u32 (2300351941)],[i 0,i 0,i 0,i 0,i 0,s0,s0,V.int .u32 (0),s0,V.int .u32 (0)],[i 0,i 0,i 0,i 0,i 0,s0,s0,V.int .u32 (0),s0,V.int .u32 (0)],[i 0,i 0,i 0,i 0,i 0,s0,s0,V.int .u32 (0),s0,V.int .u32 (0)],[i 0,i 0,i 0,i 0,i 0,s0,s0,V.int .u32 (0),s0,V.int .u32 (0)],[i 0,i 0,i 0,i 0,i 0,s0,s0,V.int .u32 (0),s0,V.int .u32 (0)],[i 0,i 0,i 0,i 0,i 0,s0,s0,V.int .u32 (0),s0,V.int .u32 (0)],[i 0,i 0,i 0,i 0,i 0,s0,s0,V.int .u32 (0),s0,V.int .u32 (0)],[i 0,i 0,i 0,i 0,i 0,s0,s0,V.int .u32 (0),s0,V.int .u32 (0)],[i 0,i 0,i 0,i 0,i 0,s0,s0,V.int .u32 (0),s0,V.int .u32 (0)],[i 0,i 0,i 0,i 0,i 0,s0,s0,V.int .u32 (0),s0,V.int .u32 (0)],[i 0,i 0,i 0,i 0,i 0,s0,s0,V.int .u32 (0),s0,V.int .u32 (0)]],V.fresh [[i 0],[i 0]],V.fresh [[b0],[b0]]],V.fresh [[i 3,i 2,i 0,i 0,i 0,i 0],[i 3,i 6,i 0,i 0,i 0,i 0]]], [])
def fx23 : List Fact := []
theorem r23 : runF (abi fx23) funs (orP prims (memoP [m14])) 100000 60 45 m23.2.1 = some m23.2.2 := by kernel_rfl
theorem w23 (ρ : Nat → Int) (hF : FactsOK (nf ρ) fx23) : Holds ρ m23 := holds_of (tbl := [m14]) hF ⟨w14 ρ (FactsOK.sub hF (by kernel_rfl)), trivial⟩ r23
def m24 : Entry := (127, [V.agg [V.sl [[i 1],[i 0],[i 0],[i 0],[i 0],[i 0],[i 0],[i 0],[i 0],[i 0],[i 0],[i 0]],V.sl [[b1],[b0],[b0],[b0],[b0],[b0],[b0],[b0],[b0],[b0],[b0],[b0]],V.sl [[i 1,i 0,i 1,i 0,i 0,s0,s0,V.int .u32 (0),s0,V.int .u32 (2300351941)],[i 0,i 0,i 0,i 0,i 0,s0,s0,V.int .u32 (0),s0,V.int .u32 (0)],[i 0,i 0,i 0,i 0,i 0,s0,s0,V.int .u32 (0),s0,V.int .u32 (0)],[i 0,i 0,i 0,i 0,i 0,s0,s0,V.int .u32 (0),s0,V.int .u32 (0)],[i 0,i 0,i 0,i 0,i 0,s0,s0,V.int .u32 (0),s0,V.int .u32 (0)],[i 0,i 0,i 0,i 0,i 0,s0,s0,V.int .u32 (0),s0,V.int .u32 (0)],[i 0,i 0,i 0,i 0,i 0,s0,s0,V.int .u32 (0),s0,V.int .u32 (0)],[i 0,i 0,i 0,i 0,i 0,s0,s0,V.int .u32 (0),s0,V.int .u32 (0)],[i 0,i 0,i 0,i 0,i 0,s0,s0,V.int .u32 (0),s0,V.int .u32 (0)],[i 0,i 0,i 0,i 0,i 0,s0,s0,V.int .u32 (0),s0,V.int .u32 (0)],[i 0,i 0,i 0,i 0,i 0,s0,s0,V.int .u32 (0),s0,V.int .u32 (0)],[i 0,i 0,i 0,i 0,i 0,s0,s0,V.int .u32 (0),s0,V.int .u32 (0)]]],i 0,V.agg [i 1,i 0,i 1,i 0,i 1,s0,s0,V.int .u32 (0),s0,V.int .u32 (2300351941)]], V.agg [V.fresh [[i 1],[i 0],[i 0],[i 0],[i 0],[i 0],[i 0],[i 0],[i 0],[i 0],[i 0],[i 0]],V.fresh [[b1],[b0],[b0],[b0],[b0],[b0],[b0],[b0],[b0],[b0],[b0],[b0]],V.fresh [[i 1,i 0,i 1,i 0,i 1,s0,s0,V.int .u32 (0),s0,V.int .u32 (2166134213)],[i 0,i 0,i 0,i 0,i 0,s0,s0,V.int .u32 (0),s0,V.int .u32 (0)],[i 0,i 0,i 0,i 0,i 0,s0,s0,V.int .u32 (0),s0,V.int .u32 (0)],[i 0,i 0,i 0,i 0,i 0,s0,s0,V.int .u32 (0),s0,V.int .u32 (0)],[i 0,i 0,i 0,i 0,i 0,s0,s0,V.int .u32 (0),s0,V.int .u32 (0)],[i 0,i 0,i 0,i 0,i 0,s0,s0,V.int .u32 (0),s0,V.int .u32 (0)],[i 0,i 0,i 0,i 0,i 0,s0,s0,V.int .u32 (0),s0,V.int .u32 (0)],[i 0,i 0,i 0,i 0,i 0,s0,s0,V.int .u32 (0),s0,V.int .u32 (0)],[i 0,i 0,i 0,i 0,i 0,s0,s0,V.int .u32 (0),s0,V.int .u32 (0)],[i 0,i 0,i 0,i 0,i 0,s0,s0,V.int .u32 (0),s0,V.int .u32 (0)],[i 0,i 0,i 0,i 0,i 0,s0,s0,V.int .u32 (0),s0,V.int .u32 (0)],[i 0,i 0,i 0,i 0,i 0,s0,s0,V.int .u32 (0),s0,V.int .u32 (0)]]], [])
def fx24 : List Fact := []
theorem r24 : runF (abi fx24) funs (orP prims (memoP [])) 100000 60 127 m24.2.1 = some m24.2.2 := by kernel_rfl
theorem w24 (ρ : Nat → Int) (hF : FactsOK (nf ρ) fx24) : Holds ρ m24 := holds_of (tbl := []) hF trivial r24
def m25 : Entry := (86, [V.pbox [i 4,i 100,V.fresh [[i 0,i 50,i 50,V.sl [[i 9,i 0,i 0,i 0],[i 10,i 0,i 0,i 0],[i 0,i 0,i 0,i 0]],s0,s0],[i 1,i 50,i 50,V.sl [[i 9,i 0,i 0,i 0],[i 1,i 1,i 0,i 0],[i 10,i 0,i 0,i 0],[i 0,i 0,i 0,i 0]],s0,V.sl [[i 0,i 0,i 0,i 0]]]],V.fresh [[i 3,i 3,i 2,i 8,i 42],[i 4,i 4,i 1,i 12,i 38]],b1,b0,b0,V.fresh [[i 0,i 1,i 5,i 0,i 0,i 5,i 0,i 0,i 0,i 0,i 0,i 0,i 0,s0,b0,i 0,i 5,i 0,i 0,i 0,i 0,i 0,i 0,i 0,s0,b0,s0,b0],[i 1,i 0,i 5,i 0,i 3,i 5,i 0,i 0,i 0,i 0,i 0,i 0,i 0,s0,b0,i 0,i 5,i 0,i 0,i 0,i 0,i 0,i 0,i 0,s0,b0,s0,b0]],V.fresh [[i 1],[i 0],[i 0],[i 0],[i 0],[i 0],[i 0],[i 0],[i 0],[i 0],[i 0],[i 0]],V.fresh [[b1],[b0],[b0],[b0],[b0],[b0],[b0],[b0],[b0],[b0],[b0],[b0]],V.fresh [[i 1,i 0,i 1,i 0,i 0,s0,s0,V.int .u32 (0),s0,V.int .u32 (2300351941)],[i 0,i 0,i 0,i 0,i 0,s0,s0,V.int .u32 (0),s0,V.int .u32 (0)],[i 0,i 0,i 0,i 0,i 0,s0,s0,V.int .u32 (0),s0,V.int .u32 (0)],[i 0,i 0,i 0,i 0,i 0,s0,s0,V.int .u32 (0),s0,V.int .u32 (0)],[i 0,i 0,i 0,i 0,i 0,s0,s0,V.int .u32 (0),s0,V.int .u32 (0)],[i 0,i 0,i 0,i 0,i 0,s0,s0,V.int .u32 (0),s0,V.int .u32 (0)],[i 0,i 0,i 0,i 0,i 0,s0,s0,V.int .u32 (0),s0,V.int .u32 (0)],[i 0,i 0,i 0,i 0,i 0,s0,s0,V.int .u32 (0),s0,V.int .u32 (0)],[i 0,i 0,i 0,i 0,i 0,s0,s0,V.int .u32 (0),s0,V.int .u32 (0)],[i 0,i 0,i 0,i 0,i 0,s0,s0,V.int .u32 (0),s0,V.int .u32 (0)],[i 0,i 0,i 0,i 0,i 0,s0,s0,V.int .u32 (0),s0,V.int .u32 (0)],[i 0,i 0,i 0,i 0,i 0,s0,s0,V.int .u32 (0),s0,V.int .u32 (0)]],V.fresh [[i 0],[i 0]],V.fresh [[b0],[b0]],f0] 0], V.tup [], [[i 4,i 100,V.fresh [[i 0,i 50,i 50,V.sl [[i 9,i 0,i 0,i 0],[i 10,i 0,i 0,i 0],[i 0,i 0,i 0,i 0]],s0,s0],[i 1,i 50,i 50,V.sl [[i 9,i 0,i 0,i 0],[i 1,i 1,i 0,i 0],[i 10,i 0,i 0,i 0],[i 0,i 0,i 0,i 0]],s0,V.sl [[i 0,i 0,i 0,i 0]]]],V.fresh [[i 3,i 3,i 2,i 8,i 42],[i 4,i 4,i 1,i 12,i 38]],b1,b0,b0,V.fresh [[i 0,i 1,i 5,i 0,i 1,i 5,i 0,i 0,i 0,i 0,i 0,i 0,i 0,s0,b0,i 0,i 5,i 0,i 0,i 0,i 0,i 0,i 0,i 0,s0,b0,V.sl [[i 0]],b0],[i 1,i 0,i 5,i 0,i 3,i 5,i 0,i 0,i 0,i 0,i 0,i 0,i 0,s0,b0,i 0,i 5,i 0,i 0,i 0,i 0,i 0,i 0,i 0,s0,b0,s0,b0]],V.fresh [[i 1],[i 0],[i 0],[i 0],[i 0],[i 0],[i 0],[i 0],[i 0],[i 0],[i 0],[i 0]],V.fresh [[b1],[b0],[b0],[b0],[b0],[b0],[b0],[b0],[b0],[b0],[b0],[b0]],V.fresh [[i 1,i 0,i 1,i 0,i 1,s0,s0,V.int .u32 (0),s0,V.int .u32 (2166134213)],[i 0,i 0,i 0,i 0,i 0,s0,s0,V.int .u32 (0),s0,V.int .u32 (0)],[i 0,i 0,i 0,i 0,i 0,s0,s0,V.int .u32 (0),s0,V.int .u32 (0)],[i 0,i 0,i 0,i 0,i 0,s0,s0,V.int .u32 (0),s0,V.int .u32 (0)],[i 0,i 0,i 0,i 0,i 0,s0,s0,V.int .u32 (0),s0,V.int .u32 (0)],[i 0,i 0,i 0,i 0,i 0,s0,s0,V.int .u32 (0),s0,V.int .u32 (0)],[i 0,i 0,i 0,i 0,i 0,s0,s0,V.int .u32 (0),s0,V.int .u32 (0)],[i 0,i 0,i 0,i 0,i 0,s0,s0,V.int .u32 (0),s0,V.int .u32 (0)],[i 0,i 0,i 0,i 0,i 0,s0,s0,V.int .u32 (0),s0,V.int .u32 (0)],[i 0,i 0,i 0,i 0,i 0,s0,s0,V.int .u32 (0),s0,V.int .u32 (0)],[i 0,i 0,i 0,i 0,i 0,s0,s0,V.int .u32 (0),s0,V.int .u32 (0)],[i 0,i 0,i 0,i 0,i 0,s0,s0,V.int .u32 (0),s0,V.int .u32 (0)]],V.fresh [[i 0],[i 0]],V.fresh [[b0],[b0]],V.fresh [[i 4,i 2,i 0,i 0,i 0,i 0]]]])
def fx25 : List Fact := []
theorem r25 : runF (abi fx25) funs (orP prims (memoP [m24])) 100000 60 86 m25.2.1 = some m25.2.2 := by kernel_rfl
theorem w25 (ρ : Nat → Int) (hF : FactsOK (nf ρ) fx25) : Holds ρ m25 := holds_of (tbl := [m24]) hF ⟨w24 ρ (FactsOK.sub hF (by kernel_rfl)), trivial⟩ r25
def m26 : Entry := (141, [V.agg [V.sl [[i 1],[i 0],[i 0],[i 0],[i 0],[i 0],[i 0],[i 0],[i 0],[i 0],[i 0],[i 0]],V.sl [[b1],[b0],[b0],[b0],[b0],[b0],[b0],[b0],[b0],[b0],[b0],[b0]],V.sl [[i 1,i 0,i 1,i 0,i 1,s0,s0,V.int .u32 (0),s0,V.int .u32 (2166134213)],[i 0,i 0,i 0,i 0,i 0,s0,s0,V.int .u32 (0),s0,V.int .u32 (0)],[i 0,i 0,i 0,i 0,i 0,s0,s0,V.int .u32 (0),s0,V.int .u32 (0)],[i 0,i 0,i 0,i 0,i 0,s0,s0,V.int .u32 (0),s0,V.int .u32 (0)],[i 0,i 0,i 0,i 0,i 0,s0,s0,V.int .u32 (0),s0,V.int .u32 (0)],[i 0,i 0,i 0,i 0,i 0,s0,s0,V.int .u32 (0),s0,V.int .u32 (0)],[i 0,i 0,i 0,i 0,i 0,s0,s0,V.int .u32 (0),s0,V.int .u32 (0)],[i 0,i 0,i 0,i 0,i 0,s0,s0,V.int .u32 (0),s0,V.int .u32 (0)],[i 0,i 0,i 0,i 0,i 0,s0,s0,V.int .u32 (0),s0,V.int .u32 (0)],[i 0,i 0,i 0,i 0,i 0,s0,s0,V.int .u32 (0),s0,V.int .u32 (0)],[i 0,i 0,i 0,i 0,i 0,s0,s0,V.int .u32 (0),s0,V.int .u32 (0)],[i 0,i 0,i 0,i 0,i 0,s0,s0,V.int .u32 (0),s0,V.int .u32 (0)]]]], V.tup [V.agg [V.fresh [[i 1],[i 0],[i 0],[i 0],[i 0],[i 0],[i 0],[i 0],[i 0],[i 0],[i 0],[i 0]],V.fresh [[b1],[b0],[b0],[b0],[b0],[b0],[b0],[b0],[b0],[b0],[b0],[b0]],V.fresh [[i 1,i 0,i 1,i 0,i 1,s0,s0,V.int .u32 (0),s0,V.int .u32 (2166134213)],[i 0,i 0,i 0,i 0,i 0,s0,s0,V.int .u32 (0),s0,V.int .u32 (0)],[i 0,i 0,i 0,i 0,i 0,s0,s0,V.int .u32 (0),s0,V.int .u32 (0)],[i 0,i 0,i 0,i 0,i 0,s0,s0,V.int .u32 (0),s0,V.int .u32 (0)],[i 0,i 0,i 0,i 0,i 0,s0,s0,V.int .u32 (0),s0,V.int .u32 (0)],[i 0,i 0,i 0,i 0,i 0,s0,s0,V.int .u32 (0),s0,V.int .u32 (0)],[i 0,i 0,i 0,i 0,i 0,s0,s0,V.int .u32 (0),s0,V.int .u32 (0)],[i 0,i 0,i 0,i 0,i 0,s0,s0,V.int .u32 (0),s0,V.int .u32 (0)],[i 0,i 0,i 0,i 0,i 0,s0,s0,V.int .u32 (0),s0,V.int .u32 (0)],[i 0,i 0,i 0,i 0,i 0,s0,s0,V.int .u32 (0),s0,V.int .u32 (0)],[i 0,i 0,i 0,i 0,i 0,s0,s0,V.int .u32 (0),s0,V.int .u32 (0)],[i 0,i 0,i 0,i 0,i 0,s0,s0,V.int .u32 (0),s0,V.int .u32 (0)]]],f0,f0], [])
def fx26 : List Fact := []
theorem r26 : runF (abi fx26) funs (orP prims (memoP [])) 100000 60 141 m26.2.1 = some m26.2.2 := by kernel_rfl
theorem w26 (ρ : Nat → Int) (hF : FactsOK (nf ρ) fx26) : Holds ρ m26 := holds_of (tbl := []) hF trivial r26
def m27 : Entry := (127, [V.agg [V.sl [[i 1],[i 0],[i 0],[i 0],[i 0],[i 0],[i 0],[i 0],[i 0],[i 0],[i 0],[i 0]],V.sl [[b1],[b0],[b0],[b0],[b0],[b0],[b0],[b0],[b0],[b0],[b0],[b0]],V.sl [[i 1,i 0,i 1,i 0,i 1,s0,s0,V.int .u32 (0),s0,V.int .u32 (2166134213)],[i 0,i 0,i 0,i 0,i 0,s0,s0,V.int .u32 (0),s0,V.int .u32 (0)],[i 0,i 0,i 0,i 0,i 0,s0,s0,V.int .u32 (0),s0,V.int .u32 (0)],[i 0,i 0,i 0,i 0,i 0,s0,s0,V.int .u32 (0),s0,V.int .u32 (0)],[i 0,i 0,i 0,i 0,i 0,s0,s0,V.int .u32 (0),s0,V.int .u32 (0)],[i 0,i 0,i 0,i 0,i 0,s0,s0,V.int .u32 (0),s0,V.int .u32 (0)],[i 0,i 0,i 0,i 0,i 0,s0,s0,V.int .u32 (0),s0,V.int .u32 (0)],[i 0,i 0,i 0,i 0,i 0,s0,s0,V.int .u32 (0),s0,V.int .u32 (0)],[i 0,i 0,i 0,i 0,i 0,s0,s0,V.int .u32 (0),s0,V.int .u32 (0)],[i 0,i 0,i 0,i 0,i 0,s0,s0,V.int .u32 (0),s0,V.int .u32 (0)],[i 0,i 0,i 0,i 0,i 0,s0,s0,V.int .u32 (0),s0,V.int .u32 (0)],[i 0,i 0,i 0,i 0,i 0,s0,s0,V.int .u32 (0),s0,V.int .u32 (0)]]],i 0,V.agg [i 1,i 0,i 1,i 0,i 0,s0,s0,V.int .u32 (0),s0,V.int .u32 (2166134213)]], V.agg [V.fresh [[i 1],[i 0],[i 0],[i 0],[i 0],[i 0],[i 0],[i 0],[i 0],[i 0],[i 0],[i 0]],V.fresh [[b1],[b0],[b0],[b0],[b0],[b0],[b0],[b0],[b0],[b0],[b0],[b0]],V.fresh [[i 1,i 0,i 1,i 0,i 0,s0,s0,V.int .u32 (0),s0,V.int .u32 (2300351941)],[i 0,i 0,i 0,i 0,i 0,s0,s0,V.int .u32 (0),s0,V.int .u32 (0)],[i 0,i 0,i 0,i 0,i 0,s0,s0,V.int .u32 (0),s0,V.int .u32 (0)],[i 0,i 0,i 0,i 0,i 0,s0,s0,V.int .u32 (0),s0,V.int .u32 (0)],[i 0,i 0,i 0,i 0,i 0,s0,s0,V.int .u32 (0),s0,V.int .u32 (0)],[i 0,i 0,i 0,i 0,i 0,s0,s0,V.int .u32 (0),s0,V.int .u32 (0)],[i 0,i 0,i 0,i 0,i 0,s0,s0,V.int .u32 (0),s0,V.int .u32 (0)],[i 0,i 0,i 0,i 0,i 0,s0,s0,V.int .u32 (0),s0,V.int .u32 (0)],[i 0,i 0,i 0,i 0,i 0,s0,s0,V.int .u32 (0),s0,V.int .u32 (0)],[i 0,i 0,i 0,i 0,i 0,s0,s0,V.int .u32 (0),s0,V.int .u32 (0)],[i 0,i 0,i 0,i 0,i 0,s0,s0,V.int .u32 (0),s0,V.int .u32 (0)],[i 0,i 0,i 0,i 0,i 0,s0,s0,V.int .u32 (0),s0,V.int .u32 (0)]]], [])
def fx27 : List Fact := []
theorem r27 : runF (abi fx27) funs (orP prims (memoP [])) 100000 60 127 m27.2.1 = some m27.2.2 := by kernel_rfl
theorem w27 (ρ : Nat → Int) (hF : FactsOK (nf ρ) fx27) : Holds ρ m27 := holds_of (tbl := []) hF trivial r27
def m28 : Entry := (86, [V.pbox [i 5,i 100,V.fresh [[i 0,i 50,i 50,V.sl [[i 9,i 0,i 0,i 0],[i 10,i 0,i 0,i 0],[i 0,i 0,i 0,i 0]],s0,s0],[i 1,i 50,i 50,V.sl [[i 9,i 0,i 0,i 0],[i 1,i 1,i 0,i 0],[i 10,i 0,i 0,i 0],[i 0,i 0,i 0,i 0]],s0,V.sl [[i 0,i 0,i 0,i 0]]]],V.fresh [[i 3,i 3,i 2,i 8,i 42],[i 4,i 4,i 1,i 12,i 38]],b1,b0,b0,V.fresh [[i 0,i 1,i 5,i 0,i 1,i 5,i 0,i 0,i 0,i 0,i 0,i 0,i 0,s0,b0,i 0,i 5,i 0,i 0,i 0,i 0,i 0,i 0,i 0,s0,b0,V.sl [[i 0]],b0],[i 1,i 0,i 5,i 0,i 3,i 5,i 0,i 0,i 0,i 0,i 0,i 0,i 0,s0,b0,i 0,i 5,i 0,i 0,i 0,i 0,i 0,i 0,i 0,s0,b0,s0,b0]],V.fresh [[i 1],[i 0],[i 0],[i 0],[i 0],[i 0],[i 0],[i 0],[i 0],[i 0],[i 0],[i 0]],V.fresh [[b1],[b0],[b0],[b0],[b0],[b0],[b0],[b0],[b0],[b0],[b0],[b0]],V.fresh [[i 1,i 0,i 1,i 0,i 1,s0,s0,V.int .u32 (0),s0,V.int .u32 (2166134213)],[i 0,i 0,i 0,i 0,i 0,s0,s0,V.int .u32 (0),s0,V.int .u32 (0)],[i 0,i 0,i 0,i 0,i 0,s0,s0,V.int .u32 (0),s0,V.int .u32 (0)],[i 0,i 0,i 0,i 0,i 0,s0,s0,V.int .u32 (0),s0,V.int .u32 (0)],[i 0,i 0,i 0,i 0,i 0,s0,s0,V.int .u32 (0),s0,V.int .u32 (0)],[i 0,i 0,i 0,i 0,i 0,s0,s0,V.int .u32 (0),s0,V.int .u32 (0)],[i 0,i 0,i 0,i 0,i 0,s0,s0,V.int .u32 (0),s0,V.int .u32 (0)],[i 0,i 0,i 0,i 0,i 0,s0,s0,V.int .u32 (0),s0,V.int .u32 (0)],[i 0,i 0,i 0,i 0,i 0,s0,s0,V.int .u32 (0),s0,V.int .u32 (0)],[i 0,i 0,i 0,i 0,i 0,s0,s0,V.int .u32 (0),s0,V.int .u32 (0)],[i 0,i 0,i 0,i 0,i 0,s0,s0,V.int .u32 (0),s0,V.int .u32 (0)],[i 0,i 0,i 0,i 0,i 0,s0,s0,V.int .u32 (0),s0,V.int .u32 (0)]],V.fresh [[i 0],[i 0]],V.fresh [[b0],[b0]],f0] 0], V.tup [], [[i 5,i 100,V.fresh [[i 0,i 50,i 50,V.sl [[i 9,i 0,i 0,i 0],[i 10,i 0,i 0,i 0],[i 0,i 0,i 0,i 0]],s0,s0],[i 1,i 50,i 50,V.sl [[i 9,i 0,i 0,i 0],[i 1,i 1,i 0,i 0],[i 10,i 0,i 0,i 0],[i 0,i 0,i 0,i 0]],s0,V.sl [[i 0,i 0,i 0,i 0]]]],V.fresh [[i 3,i 3,i 2,i 8,i 42],[i 4,i 4,i 1,i 12,i 38]],b1,b0,b0,V.fresh [[i 0,i 1,i 5,i 0,i 2,i 5,i 0,i 0,i 0,i 0,i 0,i 0,i 0,s0,b0,i 0,i 5,i 0,i 0,i 0,i 0,i 0,i 0,i 0,s0,b0,s0,b0],[i 1,i 0,i 5,i 0,i 3,i 5,i 0,i 0,i 0,i 0,i 0,i 0,i 0,s0,b0,i 0,i 5,i 0,i 0,i 0,i 0,i 0,i 0,i 0,s0,b0,s0,b0]],V.fresh [[i 1],[i 0],[i 0],[i 0],[i 0],[i 0],[i 0],[i 0],[i 0],[i 0],[i 0],[i 0]],V.fresh [[b1],[b0],[b0],[b0],[b0],[b0],[b0],[b0],[b0],[b0],[b0],[b0]],V.fresh [[i 1,i 0,i 1,i 0,i 0,s0,s0,V.int .u32 (0),s0,V.int .u32 (2300351941)],[i 0,i 0,i 0,i 0,i 0,s0,s0,V.int .u32 (0),s0,V.int .u32 (0)],[i 0,i 0,i 0,i 0,i 0,s0,s0,V.int .u32 (0),s0,V.int .u32 (0)],[i 0,i 0,i 0,i 0,i 0,s0,s0,V.int .u32 (0),s0,V.int .u32 (0)],[i 0,i 0,i 0,i 0,i 0,s0,s0,V.int .u32 (0),s0,V.int .u32 (0)],[i 0,i 0,i 0,i 0,i 0,s0,s0,V.int .u32 (0),s0,V.int .u32 (0)],[i 0,i 0,i 0,i 0,i 0,s0,s0,V.int .u32 (0),s0,V.int .u32 (0)],[i 0,i 0,i 0,i 0,i 0,s0,s0,V.int .u32 (0),s0,V.int .u32 (0)],[i 0,i 0,i 0,i 0,i 0,s0,s0,V.int .u32 (0),s0,V.int .u32 (0)],[i 0,i 0,i 0,i 0,i 0,s0,s0,V.int .u32 (0),s0,V.int .u32 (0)],[i 0,i 0,i 0,i 0,i 0,s0,s0,V.int .u32 (0),s0,V.int .u32 (0)],[i 0,i 0,i 0,i 0,i 0,s0,s0,V.int .u32 (0),s0,V.int .u32 (0)]],V.fresh [[i 0],[i 0]],V.fresh [[b0],[b0]],V.fresh [[i 5,i 2,i 0,i 0,i 0,i 0]]]])
def fx28 : List Fact := []
theorem r28 : runF (abi fx28) funs (orP prims (memoP [m27])) 100000 60 86 m28.2.1 = some m28.2.2 := by kernel_rfl
theorem w28 (ρ : Nat → Int) (hF : FactsOK (nf ρ) fx28) : Holds ρ m28 := holds_of (tbl := [m27]) hF ⟨w27 ρ (FactsOK.sub hF (by kernel_rfl)), trivial⟩ r28
def m29 : Entry := (45, [V.agg [i 6,i 100,V.sl [[i 0,i 50,i 50,V.sl [[i 9,i 0,i 0,i 0],[i 10,i 0,i 0,i 0],[i 0,i 0,i 0,i 0]],s0,s0],[i 1,i 50,i 50,V.sl [[i 9,i 0,i 0,i 0],[i 1,i 1,i 0,i 0],[i 10,i 0,i 0,i 0],[i 0,i 0,i 0,i 0]],s0,V.sl [[i 0,i 0,i 0,i 0]]]],V.sl [[i 3,i 3,i 2,i 8,i 42],[i 4,i 4,i 1,i 12,i 38]],b1,b0,b0,V.sl [[i 0,i 1,i 5,i 0,i 2,i 5,i 0,i 0,i 0,i 0,i 0,i 0,i 0,s0,b0,i 0,i 5,i 0,i 0,i 0,i 0,i 0,i 0,i 0,s0,b0,s0,b0],[i 1,i 0,i 5,i 0,i 3,i 5,i 0,i 0,i 0,i 0,i 0,i 0,i 0,s0,b0,i 0,i 5,i 0,i 0,i 0,i 0,i 0,i 0,i 0,s0,b0,s0,b0]],V.sl [[i 1],[i 0],[i 0],[i 0],[i 0],[i 0],[i 0],[i 0],[i 0],[i 0],[i 0],[i 0]],V.sl [[b1],[b0],[b0],[b0],[b0],[b0],[b0],[b0],[b0],[b0],[b0],[b0]],V.sl [[i 1,i 0,i 1,i 0,i 0,s0,s0,V.int .u32 (0),s0,V.int .u32 (2300351941)],[i 0,i 0,i 0,i 0,i 0,s0,s0,V.int .u32 (0),s0,V.int .u32 (0)],[i 0,i 0,i 0,i 0,i 0,s0,s0,V.int .u32 (0),s0,V.int .u32 (0)],[i 0,i 0,i 0,i 0,i 0,s0,s0,V.int .u32 (0),s0,V.int .u32 (0)],[i 0,i 0,i 0,i 0,i 0,s0,s0,V.int .u32 (0),s0,V.int .u32 (0)],[i 0,i 0,i 0,i 0,i 0,s0,s0,V.int .u32 (0),s0,V.int .u32 (0)],[i 0,i 0,i 0,i 0,i 0,s0,s0,V.int .u32 (0),s0,V.int .u32 (0)],[i 0,i 0,i 0,i 0,i 0,s0,s0,V.int .u32 (0),s0,V.int .u32 (0)],[i 0,i 0,i 0,i 0,i 0,s0,s0,V.int .u32 (0),s0,V.int .u32 (0)],[i 0,i 0,i 0,i 0,i 0,s0,s0,V.int .u32 (0),s0,V.int .u32 (0)],[i 0,i 0,i 0,i 0,i 0,s0,s0,V.int .u32 (0),s0,V.int .u32 (0)],[i 0,i 0,i 0,i 0,i 0,s0,s0,V.int .u32 (0),s0,V.int .u32 (0)]],V.sl [[i 0],[i 0]],V.sl [[b0],[b0]]]], V.tup [V.agg [i 7,i 100,V.fresh [[i 0,i 50,i 50,V.sl [[i 9,i 0,i 0,i 0],[i 10,i 0,i 0,i 0],[i 0,i 0,i 0,i 0]],s0,s0],[i 1,i 50,i 50,V.sl [[i 9,i 0,i 0,i 0],[i 1,i 1,i 0,i 0],[i 10,i 0,i 0,i 0],[i 0,i 0,i 0,i 0]],s0,V.sl [[i 0,i 0,i 0,i 0]]]],V.fresh [[i 3,i 3,i 2,i 8,i 42],[i 4,i 4,i 1,i 12,i 38]],b1,b0,b0,V.fresh [[i 1,i 0,i 5,i 0,i 3,i 5,i 0,i 0,i 0,i 0,i 0,i 0,i 0,s0,b0,i 0,i 5,i 0,i 0,i 0,i 0,i 0,i 0,i 0,s0,b0,s0,b0]],V.fresh [[i 1],[i 0],[i 0],[i 0],[i 0],[i 0],[i 0],[i 0],[i 0],[i 0],[i 0],[i 0]],V.fresh [[b1],[b0],[b0],[b0],[b0],[b0],[b0],[b0],[b0],[b0],[b0],[b0]],V.fresh [[i 1,i 0,i 1,i 0,i 0,s0,s0,V.int .u32 (0),s0,V.int .u32 (2300351941)],[i 0,i 0,i 0,i 0,i 0,s0,s0,V.int .u32 (0),s0,V.int .u32 (0)],[i 0,i 0,i 0,i 0,i 0,s0,s0,V.int .u32 (0),s0,V.int .u32 (0)],[i 0,i 0,i 0,i 0,i 0,s0,s0,V.int .u32 (0),s0,V.int .u32 (0)],[i 0,i 0,i 0,i 0,i 0,s0,s0,V.int .u32 (0),s0,V.int .u32 (0)],[i 0,i 0,i 0,i 0,i 0,s0,s0,V.int .u32 (0),s0,V.int .u32 (0)],[i 0,i 0,i 0,i 0,i 0,s0,s0,V.int .u32 (0),s0,V.int .u32 (0)],[i 0,i 0,i 0,i 0,i 0,s0,s0,V.int .u32 (0),s0,V.int .u32 (0)],[i 0,i 0,i 0,i 0,i 0,s0,s0,V.int .u32 (0),s0,V.int .u32 (0)],[i 0,i 0,i 0,i 0,i 0,s0,s0,V.int .u32 (0),s0,V.int .u32 (0)],[i 0,i 0,i 0,i 0,i 0,s0,s0,V.int .u32 (0),s0,V.int .u32 (0)],[i 0,i 0,i 0,i 0,i 0,s0,s0,V.int .u32 (0),s0,V.int .u32 (0)]],V.fresh [[i 0],[i 0]],V.fresh [[b0],[b0]]],V.fresh [[i 6,i 2,i 0,i 0,i 0,i 0],[i 6,i 3,i 0,i 0,i 5,i 0]]], [])
def fx29 : List Fact := []
theorem r29 : runF (abi fx29) funs (orP prims (memoP [m14])) 100000 60 45 m29.2.1 = some m29.2.2 := by kernel_rfl
theorem w29 (ρ : Nat → Int) (hF : FactsOK (nf ρ) fx29) : Holds ρ m29 := holds_of (tbl := [m14]) hF ⟨w14 ρ (FactsOK.sub hF (by kernel_rfl)), trivial⟩ r29
def m30 : Entry := (45, [V.agg [i 7,i 100,V.sl [[i 0,i 50,i 50,V.sl [[i 9,i 0,i 0,i 0],[i 10,i 0,i 0,i 0],[i 0,i 0,i 0,i 0]],s0,s0],[i 1,i 50,i 50,V.sl [[i 9,i 0,i 0,i 0],[i 1,i 1,i 0,i 0],[i 10,i 0,i 0,i 0],[i 0,i 0,i 0,i 0]],s0,V.sl [[i 0,i 0,i 0,i 0]]]],V.sl [[i 3,i 3,i 2,i 8,i 42],[i 4,i 4,i 1,i 12,i 38]],b1,b0,b0,V.sl [[i 1,i 0,i 5,i 0,i 3,i 5,i 0,i 0,i 0,i 0,i 0,i 0,i 0,s0,b0,i 0,i 5,i 0,i 0,i 0,i 0,i 0,i 0,i 0,s0,b0,s0,b0]],V.sl [[i 1],[i 0],[i 0],[i 0],[i 0],[i 0],[i 0],[i 0],[i 0],[i 0],[i 0],[i 0]],V.sl [[b1],[b0],[b0],[b0],[b0],[b0],[b0],[b0],[b0],[b0],[b0],[b0]],V.sl [[i 1,i 0,i 1,i 0,i 0,s0,s0,V.int .u32 (0),s0,V.int .u32 (2300351941)],[i 0,i 0,i 0,i 0,i 0,s0,s0,V.int .u32 (0),s0,V.int .u32 (0)],[i 0,i 0,i 0,i 0,i 0,s0,s0,V.int .u32 (0),s0,V.int .u32 (0)],[i 0,i 0,i 0,i 0,i 0,s0,s0,V.int .u32 (0),s0,V.int .u32 (0)],[i 0,i 0,i 0,i 0,i 0,s0,s0,V.int .u32 (0),s0,V.int .u32 (0)],[i 0,i 0,i 0,i 0,i 0,s0,s0,V.int .u32 (0),s0,V.int .u32 (0)],[i 0,i 0,i 0,i 0,i 0,s0,s0,V.int .u32 (0),s0,V.int .u32 (0)],[i 0,i 0,i 0,i 0,i 0,s0,s0,V.int .u32 (0),s0,V.int .u32 (0)],[i 0,i 0,i 0,i 0,i 0,s0,s0,V.int .u32 (0),s0,V.int .u32 (0)],[i 0,i 0,i 0,i 0,i 0,s0,s0,V.int .u32 (0),s0,V.int .u32 (0)],[i 0,i 0,i 0,i 0,i 0,s0,s0,V.int .u32 (0),s0,V.int .u32 (0)],[i 0,i 0,i 0,i 0,i 0,s0,s0,V.int .u32 (0),s0,V.int .u32 (0)]],V.sl [[i 0],[i 0]],V.sl [[b0],[b0]]]], V.tup [V.agg [i 8,i 100,V.fresh [[i 0,i 50,i 50,V.sl [[i 9,i 0,i 0,i 0],[i 10,i 0,i 0,i 0],[i 0,i 0,i 0,i 0]],s0,s0],[i 1,i 50,i 50,V.sl [[i 9,i 0,i 0,i 0],[i 1,i 1,i 0,i 0],[i 10,i 0,i 0,i 0],[i 0,i 0,i 0,i 0]],s0,V.sl [[i 0,i 0,i 0,i 0]]]],V.fresh [[i 3,i 3,i 2,i 8,i 42],[i 4,i 4,i 1,i 12,i 38]],b1,b0,b0,V.fresh [[i 1,i 0,i 5,i 2,i 0,i 5,i 0,i 0,i 0,i 0,i 0,i 0,i 0,s0,b0,i 0,i 5,i 0,i 0,i 0,i 0,i 0,i 0,i 0,s0,b0,s0,b0]],V.fresh [[i 1],[i 0],[i 0],[i 0],[i 0],[i 0],[i 0],[i 0],[i 0],[i 0],[i 0],[i 0]],V.fresh [[b1],[b0],[b0],[b0],[b0],[b0],[b0],[b0],[b0],[b0],[b0],[b0]],V.fresh [[i 1,i 0,i 1,i 0,i 0,s0,s0,V.int .u32 (0),s0,V.int .u32 (2300351941)],[i 0,i 0,i 0,i 0,i 0,s0,s0,V.int .u32 (0),s0,V.int .u32 (0)],[i 0,i 0,i 0,i 0,i 0,s0,s0,V.int .u32 (0),s0,V.int .u32 (0)],[i 0,i 0,i 0,i 0,i 0,s0,s0,V.int .u32 (0),s0,V.int .u32 (0)],[i 0,i 0,i 0,i 0,i 0,s0,s0,V.int .u32 (0),s0,V.int .u32 (0)],[i 0,i 0,i 0,i 0,i 0,s0,s0,V.int .u32 (0),s0,V.int .u32 (0)],[i 0,i 0,i 0,i 0,i 0,s0,s0,V.int .u32 (0),s0,V.int .u32 (0)],[i 0,i 0,i 0,i 0,i 0,s0,s0,V.int .u32 (0),s0,V.int .u32 (0)],[i 0,i 0,i 0,i 0,i 0,s0,s0,V.int .u32 (0),s0,V.int .u32 (0)],[i 0,i 0,i 0,i 0,i 0,s0,s0,V.int .u32 (0),s0,V.int .u32 (0)],[i 0,i 0,i 0,i 0,i 0,s0,s0,V.int .u32 (0),s0,V.int .u32 (0)],[i 0,i 0,i 0,i 0,i 0,s0,s0,V.int .u32 (0),s0,V.int .u32 (0)]],V.fresh [[i 0],[i 0]],V.fresh [[b0],[b0]]],V.fresh [[i 7,i 2,i 1,i 0,i 0,i 0],[i 7,i 3,i 1,i 0,i 5,i 0]]], [])
def fx30 : List Fact := []
theorem r30 : runF (abi fx30) funs (orP prims (memoP [m14])) 100000 60 45 m30.2.1 = some m30.2.2 := by kernel_rfl
theorem w30 (ρ : Nat → Int) (hF : FactsOK (nf ρ) fx30) : Holds ρ m30 := holds_of (tbl := [m14]) hF ⟨w14 ρ (FactsOK.sub hF (by kernel_rfl)), trivial⟩ r30
def m31 : Entry := (45, [V.agg [i 8,i 100,V.sl [[i 0,i 50,i 50,V.sl [[i 9,i 0,i 0,i 0],[i 10,i 0,i 0,i 0],[i 0,i 0,i 0,i 0]],s0,s0],[i 1,i 50,i 50,V.sl [[i 9,i 0,i 0,i 0],[i 1,i 1,i 0,i 0],[i 10,i 0,i 0,i 0],[i 0,i 0,i 0,i 0]],s0,V.sl [[i 0,i 0,i 0,i 0]]]],V.sl [[i 3,i 3,i 2,i 8,i 42],[i 4,i 4,i 1,i 12,i 38]],b1,b0,b0,V.sl [[i 1,i 0,i 5,i 2,i 0,i 5,i 0,i 0,i 0,i 0,i 0,i 0,i 0,s0,b0,i 0,i 5,i 0,i 0,i 0,i 0,i 0,i 0,i 0,s0,b0,s0,b0]],V.sl [[i 1],[i 0],[i 0],[i 0],[i 0],[i 0],[i 0],[i 0],[i 0],[i 0],[i 0],[i 0]],V.sl [[b1],[b0],[b0],[b0],[b0],[b0],[b0],[b0],[b0],[b0],[b0],[b0]],V.sl [[i 1,i 0,i 1,i 0,i 0,s0,s0,V.int .u32 (0),s0,V.int .u32 (2300351941)],[i 0,i 0,i 0,i 0,i 0,s0,s0,V.int .u32 (0),s0,V.int .u32 (0)],[i 0,i 0,i 0,i 0,i 0,s0,s0,V.int .u32 (0),s0,V.int .u32 (0)],[i 0,i 0,i 0,i 0,i 0,s0,s0,V.int .u32 (0),s0,V.int .u32 (0)],[i 0,i 0,i 0,i 0,i 0,s0,s0,V.int .u32 (0),s0,V.int .u32 (0)],[i 0,i 0,i 0,i 0,i 0,s0,s0,V.int .u32 (0),s0,V.int .u32 (0)],[i 0,i 0,i 0,i 0,i 0,s0,s0,V.int .u32 (0),s0,V.int .u32 (0)],[i 0,i 0,i 0,i 0,i 0,s0,s0,V.int .u32 (0),s0,V.int .u32 (0)],[i 0,i 0,i 0,i 0,i 0,s0,s0,V.int .u32 (0),s0,V.int .u32 (0)],[i 0,i 0,i 0,i 0,i 0,s0,s0,V.int .u32 (0),s0,V.int .u32 (0)],[i 0,i 0,i 0,i 0,i 0,s0,s0,V.int .u32 (0),s0,V.int .u32 (0)],[i 0,i 0,i 0,i 0,i 0,s0,s0,V.int .u32 (0),s0,V.int .u32 (0)]],V.sl [[i 0],[i 0]],V.sl [[b0],[b0]]]], V.tup [V.agg [i 9,i 100,V.fresh [[i 0,i 50,i 50,V.sl [[i 9,i 0,i 0,i 0],[i 10,i 0,i 0,i 0],[i 0,i 0,i 0,i 0]],s0,s0],[i 1,i 50,i 50,V.sl [[i 9,i 0,i 0,i 0],[i 1,i 1,i 0,i 0],[i 10,i 0,i 0,i 0],[i 0,i 0,i 0,i 0]],s0,V.sl [[i 0,i 0,i 0,i 0]]]],V.fresh [[i 3,i 3,i 2,i 8,i 42],[i 4,i 4,i 1,i 12,i 38]],b1,b0,b0,V.spare [[i 0,i 0,i 0,i 0,i 0,i 0,i 0,i 0,i 0,i 0,i 0,i 0,i 0,s0,b0,i 0,i 0,i 0,i 0,i 0,i 0,i 0,i 0,i 0,s0,b0,s0,b0]],V.fresh [[i 1],[i 0],[i 0],[i 0],[i 0],[i 0],[i 0],[i 0],[i 0],[i 0],[i 0],[i 0]],V.fresh [[b1],[b0],[b0],[b0],[b0],[b0],[b0],[b0],[b0],[b0],[b0],[b0]],V.fresh [[i 1,i 0,i 1,i 0,i 0,s0,s0,V.int .u32 (0),s0,V.int .u32 (2300351941)],[i 0,i 0,i 0,i 0,i 0,s0,s0,V.int .u32 (0),s0,V.int .u32 (0)],[i 0,i 0,i 0,i 0,i 0,s0,s0,V.int .u32 (0),s0,V.int .u32 (0)],[i 0,i 0,i 0,i 0,i 0,s0,s0,V.int .u32 (0),s0,V.int .u32 (0)],[i 0,i 0,i 0,i 0,i 0,s0,s0,V.int .u32 (0),s0,V.int .u32 (0)],[i 0,i 0,i 0,i 0,i 0,s0,s0,V.int .u32 (0),s0,V.int .u32 (0)],[i 0,i 0,i 0,i 0,i 0,s0,s0,V.int .u32 (0),s0,V.int .u32 (0)],[i 0,i 0,i 0,i 0,i 0,s0,s0,V.int .u32 (0),s0,V.int .u32 (0)],[i 0,i 0,i 0,i 0,i 0,s0,s0,V.int .u32 (0),s0,V.int .u32 (0)],[i 0,i 0,i 0,i 0,i 0,s0,s0,V.int .u32 (0),s0,V.int .u32 (0)],[i 0,i 0,i 0,i 0,i 0,s0,s0,V.int .u32 (0),s0,V.int .u32 (0)],[i 0,i 0,i 0,i 0,i 0,s0,s0,V.int .u32 (0),s0,V.int .u32 (0)]],V.fresh [[i 0],[i 0]],V.fresh [[b0],[b0]]],V.fresh [[i 8,i 2,i 1,i 0,i 0,i 0],[i 8,i 4,i 1,i 0,i 5,i 0]]], [])
def fx31 : List Fact := []
theorem r31 : runF (abi fx31) funs (orP prims (memoP [m14])) 100000 60 45 m31.2.1 = some m31.2.2 := by kernel_rfl
theorem w31 (ρ : Nat → Int) (hF : FactsOK (nf ρ) fx31) : Holds ρ m31 := holds_of (tbl := [m14]) hF ⟨w14 ρ (FactsOK.sub hF (by kernel_rfl)), trivial⟩ r31
def m32 : Entry := (23, [V.agg [i 3,i 100,V.sl [[i 0,i 50,i 50,V.sl [[i 9,i 0,i 0,i 0],[i 10,i 0,i 0,i 0],[i 0,i 0,i 0,i 0]],s0,s0],[i 1,i 50,i 50,V.sl [[i 9,i 0,i 0,i 0],[i 1,i 1,i 0,i 0],[i 10,i 0,i 0,i 0],[i 0,i 0,i 0,i 0]],s0,V.sl [[i 0,i 0,i 0,i 0]]]],V.sl [[i 3,i 3,i 2,i 8,i 42],[i 4,i 4,i 1,i 12,i 38]],b1,b0,b1,V.sl [[i 0,i 1,i 5,i 0,i 0,i 5,i 0,i 0,i 0,i 0,i 0,i 0,i 0,s0,b0,i 0,i 5,i 0,i 0,i 0,i 0,i 0,i 0,i 0,s0,b0,s0,b0],[i 1,i 0,i 5,i 0,i 3,i 5,i 0,i 0,i 0,i 0,i 0,i 0,i 0,s0,b0,i 0,i 5,i 0,i 0,i 0,i 0,i 0,i 0,i 0,s0,b0,s0,b0]],V.sl [[i 1],[i 0],[i 0],[i 0],[i 0],[i 0],[i 0],[i 0],[i 0],[i 0],[i 0],[i 0]],V.sl [[b1],[b0],[b0],[b0],[b0],[b0],[b0],[b0],[b0],[b0],[b0],[b0]],V.sl [[i 1,i 0,i 1,i 0,i 0,s0,s0,V.int .u32 (0),s0,V.int .u32 (2300351941)],[i 0,i 0,i 0,i 0,i 0,s0,s0,V.int .u32 (0),s0,V.int .u32 (0)],[i 0,i 0,i 0,i 0,i 0,s0,s0,V.int .u32 (0),s0,V.int .u32 (0)],[i 0,i 0,i 0,i 0,i 0,s0,s0,V.int .u32 (0),s0,V.int .u32 (0)],[i 0,i 0,i 0,i 0,i 0,s0,s0,V.int .u32 (0),s0,V.int .u32 (0)],[i 0,i 0,i 0,i 0,i 0,s0,s0,V.int .u32 (0),s0,V.int .u32 (0)],[i 0,i 0,i 0,i 0,i 0,s0,s0,V.int .u32 (0),s0,V.int .u32 (0)],[i 0,i 0,i 0,i 0,i 0,s0,s0,V.int .u32 (0),s0,V.int .u32 (0)],[i 0,i 0,i 0,i 0,i 0,s0,s0,V.int .u32 (0),s0,V.int .u32 (0)],[i 0,i 0,i 0,i 0,i 0,s0,s0,V.int .u32 (0),s0,V.int .u32 (0)],[i 0,i 0,i 0,i 0,i 0,s0,s0,V.int .u32 (0),s0,V.int .u32 (0)],[i 0,i 0,i 0,i 0,i 0,s0,s0,V.int .u32 (0),s0,V.int .u32 (0)]],V.sl [[i 0],[i 0]],V.sl [[b0],[b0]]],V.agg [i 5,i 0,i 0,i 0,i 0,s0,s0,s0,i 0,i 0,i 0,i 0,V.int .u32 (0),i 0,i 6]], V.tup [V.agg [i 9,i 100,V.fresh [[i 0,i 50,i 50,V.sl [[i 9,i 0,i 0,i 0],[i 10,i 0,i 0,i 0],[i 0,i 0,i 0,i 0]],s0,s0],[i 1,i 50,i 50,V.sl [[i 9,i 0,i 0,i 0],[i 1,i 1,i 0,i 0],[i 10,i 0,i 0,i 0],[i 0,i 0,i 0,i 0]],s0,V.sl [[i 0,i 0,i 0,i 0]]]],V.fresh [[i 3,i 3,i 2,i 8,i 42],[i 4,i 4,i 1,i 12,i 38]],b1,b0,b0,f0,V.fresh [[i 1],[i 0],[i 0],[i 0],[i 0],[i 0],[i 0],[i 0],[i 0],[i 0],[i 0],[i 0]],V.fresh [[b1],[b0],[b0],[b0],[b0],[b0],[b0],[b0],[b0],[b0],[b0],[b0]],V.fresh [[i 1,i 0,i 1,i 0,i 0,s0,s0,V.int .u32 (0),s0,V.int .u32 (2300351941)],[i 0,i 0,i 0,i 0,i 0,s0,s0,V.int .u32 (0),s0,V.int .u32 (0)],[i 0,i 0,i 0,i 0,i 0,s0,s0,V.int .u32 (0),s0,V.int .u32 (0)],[i 0,i 0,i 0,i 0,i 0,s0,s0,V.int .u32 (0),s0,V.int .u32 (0)],[i 0,i 0,i 0,i 0,i 0,s0,s0,V.int .u32 (0),s0,V.int .u32 (0)],[i 0,i 0,i 0,i 0,i 0,s0,s0,V.int .u32 (0),s0,V.int .u32 (0)],[i 0,i 0,i 0,i 0,i 0,s0,s0,V.int .u32 (0),s0,V.int .u32 (0)],[i 0,i 0,i 0,i 0,i 0,s0,s0,V.int .u32 (0),s0,V.int .u32 (0)],[i 0,i 0,i 0,i 0,i 0,s0,s0,V.int .u32 (0),s0,V.int .u32 (0)],[i 0,i 0,i 0,i 0,i 0,s0,s0,V.int .u32 (0),s0,V.int .u32 (0)],[i 0,i 0,i 0,i 0,i 0,s0,s0,V.int .u32 (0),s0,V.int .u32 (0)],[i 0,i 0,i 0,i 0,i 0,s0,s0,V.int .u32 (0),s0,V.int .u32 (0)]],V.fresh [[i 0],[i 0]],V.fresh [[b0],[b0]]],V.fresh [[i 3,i 2,i 0,i 0,i 0,i 0],[i 3,i 6,i 0,i 0,i 0,i 0],[i 4,i 2,i 0,i 0,i 0,i 0],[i 5,i 2,i 0,i 0,i 0,i 0],[i 6,i 2,i 0,i 0,i 0,i 0],[i 6,i 3,i 0,i 0,i 5,i 0],[i 7,i 2,i 1,i 0,i 0,i 0],[i 7,i 3,i 1,i 0,i 5,i 0],[i 8,i 2,i 1,i 0,i 0,i 0],[i 8,i 4,i 1,i 0,i 5,i 0]],V.agg [i 0,i 0,i 0,i 0]], [])
def fx32 : List Fact := []
theorem r32 : runF (abi fx32) funs (orP prims (memoP [m23, m14, m25, m26, m28, m29, m30, m31])) 100000 60 23 m32.2.1 = some m32.2.2 := by kernel_rfl
theorem w32 (ρ : Nat → Int) (hF : FactsOK (nf ρ) fx32) : Holds ρ m32 := holds_of (tbl := [m23, m14, m25, m26, m28, m29, m30, m31]) hF ⟨w23 ρ (FactsOK.sub hF (by kernel_rfl)), ⟨w14 ρ (FactsOK.sub hF (by kernel_rfl)), ⟨w25 ρ (FactsOK.sub hF (by kernel_rfl)), ⟨w26 ρ (FactsOK.sub hF (by kernel_rfl)), ⟨w28 ρ (FactsOK.sub hF (by kernel_rfl)), ⟨w29 ρ (FactsOK.sub hF (by kernel_rfl)), ⟨w30 ρ (FactsOK.sub hF (by kernel_rfl)), ⟨w31 ρ (FactsOK.sub hF (by kernel_rfl)), trivial⟩⟩⟩⟩⟩⟩⟩⟩ r32
def m33 : Entry := (9, [i 100,V.sl [[i 1,i 2,i 0,i 0,i 0,s0,s0,s0,i 0,i 0,i 0,i 0,V.int .u32 (0),i 0,i 0],[i 1,i 1,i 0,i 50,i 50,V.sl [[i 9,i 0,i 0,i 0],[i 10,i 0,i 0,i 0],[i 0,i 0,i 0,i 0]],s0,s0,i 0,i 0,i 0,i 0,V.int .u32 (0),i 0,i 0],[i 1,i 1,i 1,i 50,i 50,V.sl [[i 9,i 0,i 0,i 0],[i 1,i 1,i 0,i 0],[i 10,i 0,i 0,i 0],[i 0,i 0,i 0,i 0]],s0,V.sl [[i 0,i 0,i 0,i 0]],i 0,i 0,i 0,i 0,V.int .u32 (0),i 0,i 0],[i 1,i 5,i 0,i 0,i 0,s0,s0,s0,i 0,i 0,i 0,i 0,V.int .u32 (0),i 0,i 0],[i 1,i 6,i 0,i 0,i 0,s0,s0,s0,i 0,i 0,i 1,i 5,V.int .u32 (0),i 0,i 0],[i 2,i 0,i 0,i 0,i 0,s0,s0,s0,i 0,i 0,i 0,i 0,V.int .u32 (0),i 0,i 0],[i 1,i 6,i 0,i 0,i 0,s0,s0,s0,i 0,i 0,i 0,i 5,V.int .u32 (0),i 0,i 0],[i 5,i 0,i 0,i 0,i 0,s0,s0,s0,i 0,i 0,i 0,i 0,V.int .u32 (0),i 0,i 2],[i 3,i 0,i 0,i 0,i 0,s0,s0,s0,i 0,i 0,i 0,i 0,V.int .u32 (0),i 0,i 0],[i 5,i 0,i 0,i 0,i 0,s0,s0,s0,i 0,i 0,i 0,i 0,V.int .u32 (0),i 0,i 6]]], V.tup [V.agg [i 9,i 100,V.fresh [[i 0,i 50,i 50,V.sl [[i 9,i 0,i 0,i 0],[i 10,i 0,i 0,i 0],[i 0,i 0,i 0,i 0]],s0,s0],[i 1,i 50,i 50,V.sl [[i 9,i 0,i 0,i 0],[i 1,i 1,i 0,i 0],[i 10,i 0,i 0,i 0],[i 0,i 0,i 0,i 0]],s0,V.sl [[i 0,i 0,i 0,i 0]]]],V.fresh [[i 3,i 3,i 2,i 8,i 42],[i 4,i 4,i 1,i 12,i 38]],b1,b0,b0,f0,V.fresh [[i 1],[i 0],[i 0],[i 0],[i 0],[i 0],[i 0],[i 0],[i 0],[i 0],[i 0],[i 0]],V.fresh [[b1],[b0],[b0],[b0],[b0],[b0],[b0],[b0],[b0],[b0],[b0],[b0]],V.fresh [[i 1,i 0,i 1,i 0,i 0,s0,s0,V.int .u32 (0),s0,V.int .u32 (2300351941)],[i 0,i 0,i 0,i 0,i 0,s0,s0,V.int .u32 (0),s0,V.int .u32 (0)],[i 0,i 0,i 0,i 0,i 0,s0,s0,V.int .u32 (0),s0,V.int .u32 (0)],[i 0,i 0,i 0,i 0,i 0,s0,s0,V.int .u32 (0),s0,V.int .u32 (0)],[i 0,i 0,i 0,i 0,i 0,s0,s0,V.int .u32 (0),s0,V.int .u32 (0)],[i 0,i 0,i 0,i 0,i 0,s0,s0,V.int .u32 (0),s0,V.int .u32 (0)],[i 0,i 0,i 0,i 0,i 0,s0,s0,V.int .u32 (0),s0,V.int .u32 (0)],[i 0,i 0,i 0,i 0,i 0,s0,s0,V.int .u32 (0),s0,V.int .u32 (0)],[i 0,i 0,i 0,i 0,i 0,s0,s0,V.int .u32 (0),s0,V.int .u32 (0)],[i 0,i 0,i 0,i 0,i 0,s0,s0,V.int .u32 (0),s0,V.int .u32 (0)],[i 0,i 0,i 0,i 0,i 0,s0,s0,V.int .u32 (0),s0,V.int .u32 (0)],[i 0,i 0,i 0,i 0,i 0,s0,s0,V.int .u32 (0),s0,V.int .u32 (0)]],V.fresh [[i 0],[i 0]],V.fresh [[b0],[b0]]],V.fresh [[i 0,i 1,i 1,i 0,i 5,i 0],[i 0,i 2,i 1,i 0,i 0,i 0],[i 1,i 1,i 0,i 0,i 5,i 0],[i 1,i 2,i 1,i 0,i 0,i 0],[i 2,i 2,i 1,i 0,i 0,i 0],[i 3,i 2,i 0,i 0,i 0,i 0],[i 3,i 6,i 0,i 0,i 0,i 0],[i 4,i 2,i 0,i 0,i 0,i 0],[i 5,i 2,i 0,i 0,i 0,i 0],[i 6,i 2,i 0,i 0,i 0,i 0],[i 6,i 3,i 0,i 0,i 5,i 0],[i 7,i 2,i 1,i 0,i 0,i 0],[i 7,i 3,i 1,i 0,i 5,i 0],[i 8,i 2,i 1,i 0,i 0,i 0],[i 8,i 4,i 1,i 0,i 5,i 0]],V.fresh [[i 0,i 0,i 1,i 0],[i 0,i 0,i 0,i 0],[i 0,i 0,i 0,i 0],[i 0,i 0,i 0,i 0],[i 0,i 0,i 0,i 0],[i 0,i 0,i 0,i 0],[i 0,i 0,i 0,i 0],[i 0,i 0,i 0,i 0],[i 0,i 0,i 0,i 0],[i 0,i 0,i 0,i 0]],b1], [])
def fx33 : List Fact := []
theorem r33 : runF (abi fx33) funs (orP prims (memoP [m2, m5, m10, m12, m13, m16, m17, m22, m32])) 100000 60 9 m33.2.1 = some m33.2.2 := by kernel_rfl
theorem w33 (ρ : Nat → Int) (hF : FactsOK (nf ρ) fx33) : Holds ρ m33 := holds_of (tbl := [m2, m5, m10, m12, m13, m16, m17, m22, m32]) hF ⟨w2 ρ (FactsOK.sub hF (by kernel_rfl)), ⟨w5 ρ (FactsOK.sub hF (by kernel_rfl)), ⟨w10 ρ (FactsOK.sub hF (by kernel_rfl)), ⟨w12 ρ (FactsOK.sub hF (by kernel_rfl)), ⟨w13 ρ (FactsOK.sub hF (by kernel_rfl)), ⟨w16 ρ (FactsOK.sub hF (by kernel_rfl)), ⟨w17 ρ (FactsOK.sub hF (by kernel_rfl)), ⟨w22 ρ (FactsOK.sub hF (by kernel_rfl)), ⟨w32 ρ (FactsOK.sub hF (by kernel_rfl)), trivial⟩⟩⟩⟩⟩⟩⟩⟩⟩ r33
def m34 : Entry := (1007, [], b1, [])
def fx34 : List Fact := []
theorem r34 : runF (abi fx34) funs (orP prims (memoP [m1, m33])) 100000 60 1007 m34.2.1 = some m34.2.2 := by kernel_rfl
theorem w34 (ρ : Nat → Int) (hF : FactsOK (nf ρ) fx34) : Holds ρ m34 := holds_of (tbl := [m1, m33]) hF ⟨w1 ρ (FactsOK.sub hF (by kernel_rfl)), ⟨w33 ρ (FactsOK.sub hF (by kernel_rfl)), trivial⟩⟩ r34
theorem told_true (ρ : Nat → Int) : CallsOK Tryz.prog (nf ρ) 1007 [] (.bool true) [] := w34 ρ FactsOK.nil
end Fo.Tryz

namespace Go.Proofs.YtljbbnolcncbeaaGreat.trialForms
open Go Go.ChangeShapes Go.WideShapes Go.ChangeAt Go.RowKit
set_option linter.unusedVariables false

theorem own : ownKnob Tryz.prog.godebug = none := by kernel_rfl
theorem kids : Kids Tryz.prog (· < Tryz.prog.types.size) := kids_rows (by kernel_rfl) (by kernel_rfl)
theorem full : ∀ t e, t < Tryz.prog.types.size → Tryz.prog.underlying t = some (.slice e) → 0 < Tryz.prog.cellsOf e := slices_full_of Tryz.prog (by kernel_rfl)

theorem walk (w : World) : Calls Tryz.prog 4 #[] w fun e w' => e = .returned (.bool true) ∧ Fo.CallKeeps w w' [] := by
  have h := Fo.Tryz.told_true (fun _ => 0) 4 rfl w (fun _ => False) [] [] (fun _ h => h.elim) (fun _ h => by cases h) List.nodup_nil ⟨rfl, rfl⟩
  refine h.mono fun e w' ⟨c, S', he, _, _, hk, hx⟩ => ?_
  obtain ⟨c', cs, O1, O2, e1, e2, ⟨_, hv⟩, _⟩ := hx
  cases e1
  exact ⟨by rw [he, hv], hk⟩

set_option maxRecDepth 100000 in
theorem lifted (os : Os) (started : os.Started) (H : Type) (enc : TypeId × Value → H) :
    ReturnsInHanded {} Tryz.checked os 4 .any (Rows.trialFormsSpec.pre6 enc Tryz.prog Tryz.f4 Rows.trialFormsRow.domain false) (Rows.trialFormsSpec.post enc Tryz.prog Tryz.f4 false true false false) := by
  refine returnsInHanded_of_change (C := Tryz.checked) own started (by kernel_rfl) Tryz.func4
    (ChangeSpec.witness6 (enc := enc) (C := Tryz.checked) false ⟨#[], #[], []⟩ 8 (by kernel_rfl) (by kernel_rfl) (by kernel_rfl) (by kernel_rfl)) ?_
  intro W base args ds gs before hval0 hW hcnd _
  have hW' := hW
  obtain ⟨p, q, hA0, hV, rfl, hfz, hnd⟩ := hW
  have hA : DataW.TrodAll enc Tryz.prog W 0 (fun _ => true) true Tryz.f4.params.toList args.toList ds p := hA0
  rw [Tryz.params4] at hA
  obtain ⟨rfl, rfl, rfl⟩ := trodAll_none hA
  obtain ⟨rfl, rfl⟩ := trodVars_none hV
  refine (walk W).mono fun e W' ⟨he, hg⟩ => ?_
  subst he
  exact ⟨_, rfl, Fo.law_post kids full (by rw [Tryz.params4]; intro t ht; cases ht) rfl hW' rfl rfl rfl (by kernel_rfl) Tryz.underlying4 hg⟩

theorem over : Rows.trialFormsRow.holds Tryz.pinned (OpenSpec.ofChange Rows.trialFormsSpec) :=
  OpenClaim.holds_of_wide 4 Tryz.f4 rfl rfl rfl rfl rfl rfl rfl ⟨rfl, rfl, rfl, rfl, rfl⟩ rfl rfl rfl rfl rfl (by kernel_rfl) Tryz.func4 (by kernel_rfl)
    (of_decide_eq_true (by kernel_rfl)) (by unfold Func.isWrapper; first | (rw [if_pos (by decide +kernel)]; kernel_rfl) | (rw [if_neg (by decide +kernel)]; exact ⟨rfl, rfl⟩))
    (fun os started H enc _ => lifted os started H enc)

theorem proved : Rows.TrialFormsSaid := over
end Go.Proofs.YtljbbnolcncbeaaGreat.trialForms
