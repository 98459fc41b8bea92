/-
  TrialTurns: whatever numbers it is given, it returns true. No condition.
-/
import Derived.Test.YtjpjdmbomljdcaaGreatTrialTurnsFuns
import Derived.Test.YtjpjdmbomljdcaaGreatFoA47
import Derived.Test.YtjpjdmbomljdcaaGreatRows
import Derived.KernelRfl
set_option maxRecDepth 100000
namespace Fo.Tryz
open Go Go.Proofs
def funs : Nat → Option (AFun × Bool)
  | 9 => some (F9, true)
  | 17 => some (F17, true)
  | 22 => some (F22, true)
  | 23 => some (F23, true)
  | 42 => some (F42, true)
  | 43 => some (F43, true)
  | 44 => some (F44, true)
  | 45 => some (F45, true)
  | 46 => some (F46, true)
  | 47 => some (F47, true)
  | 70 => some (F70, true)
  | 71 => some (F71, true)
  | 72 => some (F72, true)
  | 73 => some (F73, true)
  | 74 => some (F74, true)
  | 75 => some (F75, true)
  | 76 => some (F76, true)
  | 77 => some (F77, true)
  | 78 => some (F78, true)
  | 79 => some (F79, true)
  | 80 => some (F80, true)
  | 81 => some (F81, true)
  | 82 => some (F82, true)
  | 83 => some (F83, true)
  | 84 => some (F84, true)
  | 85 => some (F85, true)
  | 86 => some (F86, true)
  | 87 => some (F87, true)
  | 88 => some (F88, true)
  | 89 => some (F89, true)
  | 90 => some (F90, true)
  | 91 => some (F91, true)
  | 92 => some (F92, true)
  | 121 => some (F121, true)
  | 122 => some (F122, true)
  | 123 => some (F123, true)
  | 124 => some (F124, true)
  | 125 => some (F125, true)
  | 126 => some (F126, true)
  | 127 => some (F127, true)
  | 128 => some (F128, true)
  | 129 => some (F129, true)
  | 130 => some (F130, true)
  | 131 => some (F131, true)
  | 138 => some (F138, true)
  | 139 => some (F139, true)
  | 140 => some (F140, true)
  | 141 => some (F141, true)
  | 142 => some (F142, true)
  | 143 => some (F143, true)
  | 144 => some (F144, true)
  | 145 => some (F145, true)
  | 146 => some (F146, true)
  | 147 => some (F147, true)
  | 148 => some (F148, true)
  | 150 => some (F150, true)
  | 151 => some (F151, true)
  | 152 => some (F152, true)
  | 154 => some (F154, true)
  | 155 => some (F155, true)
  | 191 => some (F191, true)
  | 192 => some (F192, true)
  | 193 => some (F193, true)
  | 194 => some (F194, true)
  | 195 => some (F195, true)
  | 196 => some (F196, true)
  | 197 => some (F197, true)
  | 198 => some (F198, true)
  | 199 => some (F199, true)
  | 200 => some (F200, true)
  | 201 => some (F201, true)
  | 202 => some (F202, true)
  | 203 => some (F203, true)
  | 204 => some (F204, true)
  | 205 => some (F205, true)
  | 206 => some (F206, true)
  | 207 => some (F207, true)
  | 208 => some (F208, true)
  | 209 => some (F209, true)
  | 211 => some (F211, true)
  | 212 => some (F212, true)
  | 213 => some (F213, true)
  | 214 => some (F214, true)
  | 215 => some (F215, true)
  | 216 => some (F216, true)
  | 217 => some (F217, true)
  | 218 => some (F218, true)
  | 219 => some (F219, true)
  | 220 => some (F220, true)
  | 221 => some (F221, true)
  | 222 => some (F222, true)
  | 223 => some (F223, true)
  | 224 => some (F224, true)
  | 225 => some (F225, true)
  | 226 => some (F226, true)
  | 227 => some (F227, true)
  | 228 => some (F228, true)
  | 230 => some (F230, true)
  | 246 => some (F246, true)
  | 247 => some (F247, true)
  | 248 => some (F248, true)
  | 249 => some (F249, true)
  | 250 => some (F250, true)
  | 251 => some (F251, true)
  | 253 => some (F253, true)
  | 254 => some (F254, true)
  | 255 => some (F255, true)
  | 256 => some (F256, true)
  | 257 => some (F257, true)
  | 258 => some (F258, true)
  | 259 => some (F259, true)
  | 260 => some (F260, true)
  | 261 => some (F261, true)
  | 262 => some (F262, true)
  | 263 => some (F263, true)
  | 264 => some (F264, true)
  | 265 => some (F265, true)
  | 266 => some (F266, true)
  | 267 => some (F267, true)
  | 268 => some (F268, true)
  | 269 => some (F269, true)
  | 271 => some (F271, true)
  | 272 => some (F272, true)
  | 273 => some (F273, true)
  | 274 => some (F274, true)
  | 275 => some (F275, true)
  | 276 => some (F276, true)
  | 277 => some (F277, true)
  | 278 => some (F278, true)
  | 279 => some (F279, true)
  | 280 => some (F280, true)
  | 281 => some (F281, true)
  | 282 => some (F282, true)
  | 283 => some (F283, true)
  | 284 => some (F284, true)
  | 285 => some (F285, true)
  | 286 => some (F286, true)
  | 287 => some (F287, true)
  | 288 => some (F288, true)
  | 289 => some (F289, true)
  | 300 => some (F300, true)
  | 301 => some (F301, true)
  | 302 => some (F302, true)
  | 303 => some (F303, true)
  | 304 => some (F304, true)
  | 305 => some (F305, true)
  | 306 => some (F306, true)
  | 307 => some (F307, true)
  | 308 => some (F308, true)
  | 309 => some (F309, true)
  | 310 => some (F310, true)
  | 311 => some (F311, true)
  | 312 => some (F312, true)
  | 313 => some (F313, true)
  | 314 => some (F314, true)
  | 315 => some (F315, true)
  | 316 => some (F316, true)
  | 317 => some (F317, true)
  | 318 => some (F318, true)
  | 319 => some (F319, true)
  | 320 => some (F320, true)
  | 321 => some (F321, true)
  | 322 => some (F322, true)
  | 331 => some (F331, true)
  | 332 => some (F332, true)
  | 333 => some (F333, true)
  | 334 => some (F334, true)
  | 335 => some (F335, true)
  | 336 => some (F336, true)
  | 337 => some (F337, true)
  | 338 => some (F338, true)
  | 339 => some (F339, true)
  | 340 => some (F340, true)
  | 341 => some (F341, true)
  | 342 => some (F342, true)
  | 343 => some (F343, true)
  | 344 => some (F344, true)
  | 345 => some (F345, true)
  | 346 => some (F346, true)
  | 1009 => some (F1009, true)
  | 1016 => some (F1016, true)
  | _ => none
def clones : Nat → Option (Nat × Nat × List V)
  | 132 => some (6, 96, [(.int .i64 0), (.int .i64 0), (.int .i64 0), (.sl []), (.sl []), (.sl [])])
  | 133 => some (5, 40, [(.int .i64 0), (.int .i64 0), (.int .i64 0), (.int .i64 0), (.int .i64 0)])
  | 134 => some (28, 272, [(.int .i64 0), (.int .i64 0), (.int .i64 0), (.int .i64 0), (.int .i64 0), (.int .i64 0), (.int .i64 0), (.int .i64 0), (.int .i64 0), (.int .i64 0), (.int .i64 0), (.int .i64 0), (.int .i64 0), (.sl []), (.bool false), (.int .i64 0), (.int .i64 0), (.int .i64 0), (.int .i64 0), (.int .i64 0), (.int .i64 0), (.int .i64 0), (.int .i64 0), (.int .i64 0), (.sl []), (.bool false), (.sl []), (.bool false)])
  | 135 => some (4, 32, [(.int .i64 0), (.int .i64 0), (.int .i64 0), (.int .i64 0)])
  | 136 => some (3, 24, [(.int .i64 0), (.int .i64 0), (.int .i64 0)])
  | 137 => some (1, 8, [(.int .i64 0)])
  | 149 => some (1, 1, [(.bool false)])
  | 210 => some (2, 16, [(.int .i64 0), (.int .u32 0)])
  | 229 => some (1, 8, [(.int .i64 0)])
  | 270 => some (2, 16, [(.int .i64 0), (.int .i64 0)])
  | _ => none
theorem enters_tbl : ∀ f g, tbl f = some g → enters Tryz.prog g = true := by
  have h : (tblL.all fun p => enters Tryz.prog p.2) = true := by kernel_rfl
  intro f g hf
  exact lookup_all h hf
theorem enters_all (ρ : Nat → Int) : ∀ f g, (nf ρ) f = some g → enters Tryz.prog g = true := enters_tbl
theorem ent (ρ : Nat → Int) {fx : List Fact} (hF : FactsOK (nf ρ) fx) : Ent Tryz.prog (nf ρ) (abi fx) := ⟨enters_all ρ, hF⟩
set_option maxHeartbeats 4000000 in
theorem funs_ok (ρ : Nat → Int) (fx : List Fact) : ∀ f F gv, funs f = some (F, gv) → ∃ g fn, (nf ρ) f = some g ∧ Tryz.prog.funcs[g]? = some fn ∧ chkFun Tryz.prog (nf ρ) (abi fx) fn F = true := by
  intro f F gv h
  unfold funs at h
  split at h
  · cases h; exact ⟨_, _, rfl, Tryz.func22, k9 ρ fx⟩
  · cases h; exact ⟨_, _, rfl, Tryz.func21, k17 ρ fx⟩
  · cases h; exact ⟨_, _, rfl, Tryz.func10, k22 ρ fx⟩
  · cases h; exact ⟨_, _, rfl, Tryz.func23, k23 ρ fx⟩
  · cases h; exact ⟨_, _, rfl, Tryz.func25, k42 ρ fx⟩
  · cases h; exact ⟨_, _, rfl, Tryz.func26, k43 ρ fx⟩
  · cases h; exact ⟨_, _, rfl, Tryz.func19, k44 ρ fx⟩
  · cases h; exact ⟨_, _, rfl, Tryz.func13, k45 ρ fx⟩
  · cases h; exact ⟨_, _, rfl, Tryz.func61, k46 ρ fx⟩
  · cases h; exact ⟨_, _, rfl, Tryz.func12, k47 ρ fx⟩
  · cases h; exact ⟨_, _, rfl, Tryz.func63, k70 ρ fx⟩
  · cases h; exact ⟨_, _, rfl, Tryz.func50, k71 ρ fx⟩
  · cases h; exact ⟨_, _, rfl, Tryz.func51, k72 ρ fx⟩
  · cases h; exact ⟨_, _, rfl, Tryz.func52, k73 ρ fx⟩
  · cases h; exact ⟨_, _, rfl, Tryz.func53, k74 ρ fx⟩
  · cases h; exact ⟨_, _, rfl, Tryz.func54, k75 ρ fx⟩
  · cases h; exact ⟨_, _, rfl, Tryz.func55, k76 ρ fx⟩
  · cases h; exact ⟨_, _, rfl, Tryz.func56, k77 ρ fx⟩
  · cases h; exact ⟨_, _, rfl, Tryz.func57, k78 ρ fx⟩
  · cases h; exact ⟨_, _, rfl, Tryz.func58, k79 ρ fx⟩
  · cases h; exact ⟨_, _, rfl, Tryz.func59, k80 ρ fx⟩
  · cases h; exact ⟨_, _, rfl, Tryz.func60, k81 ρ fx⟩
  · cases h; exact ⟨_, _, rfl, Tryz.func28, k82 ρ fx⟩
  · cases h; exact ⟨_, _, rfl, Tryz.func33, k83 ρ fx⟩
  · cases h; exact ⟨_, _, rfl, Tryz.func34, k84 ρ fx⟩
  · cases h; exact ⟨_, _, rfl, Tryz.func35, k85 ρ fx⟩
  · cases h; exact ⟨_, _, rfl, Tryz.func36, k86 ρ fx⟩
  · cases h; exact ⟨_, _, rfl, Tryz.func112, k87 ρ fx⟩
  · cases h; exact ⟨_, _, rfl, Tryz.func113, k88 ρ fx⟩
  · cases h; exact ⟨_, _, rfl, Tryz.func29, k89 ρ fx⟩
  · cases h; exact ⟨_, _, rfl, Tryz.func30, k90 ρ fx⟩
  · cases h; exact ⟨_, _, rfl, Tryz.func31, k91 ρ fx⟩
  · cases h; exact ⟨_, _, rfl, Tryz.func32, k92 ρ fx⟩
  · cases h; exact ⟨_, _, rfl, Tryz.func103, k121 ρ fx⟩
  · cases h; exact ⟨_, _, rfl, Tryz.func104, k122 ρ fx⟩
  · cases h; exact ⟨_, _, rfl, Tryz.func14, k123 ρ fx⟩
  · cases h; exact ⟨_, _, rfl, Tryz.func105, k124 ρ fx⟩
  · cases h; exact ⟨_, _, rfl, Tryz.func106, k125 ρ fx⟩
  · cases h; exact ⟨_, _, rfl, Tryz.func107, k126 ρ fx⟩
  · cases h; exact ⟨_, _, rfl, Tryz.func71, k127 ρ fx⟩
  · cases h; exact ⟨_, _, rfl, Tryz.func108, k128 ρ fx⟩
  · cases h; exact ⟨_, _, rfl, Tryz.func109, k129 ρ fx⟩
  · cases h; exact ⟨_, _, rfl, Tryz.func110, k130 ρ fx⟩
  · cases h; exact ⟨_, _, rfl, Tryz.func111, k131 ρ fx⟩
  · cases h; exact ⟨_, _, rfl, Tryz.func72, k138 ρ fx⟩
  · cases h; exact ⟨_, _, rfl, Tryz.func78, k139 ρ fx⟩
  · cases h; exact ⟨_, _, rfl, Tryz.func79, k140 ρ fx⟩
  · cases h; exact ⟨_, _, rfl, Tryz.func80, k141 ρ fx⟩
  · cases h; exact ⟨_, _, rfl, Tryz.func81, k142 ρ fx⟩
  · cases h; exact ⟨_, _, rfl, Tryz.func62, k143 ρ fx⟩
  · cases h; exact ⟨_, _, rfl, Tryz.func82, k144 ρ fx⟩
  · cases h; exact ⟨_, _, rfl, Tryz.func83, k145 ρ fx⟩
  · cases h; exact ⟨_, _, rfl, Tryz.func24, k146 ρ fx⟩
  · cases h; exact ⟨_, _, rfl, Tryz.func84, k147 ρ fx⟩
  · cases h; exact ⟨_, _, rfl, Tryz.func85, k148 ρ fx⟩
  · cases h; exact ⟨_, _, rfl, Tryz.func115, k150 ρ fx⟩
  · cases h; exact ⟨_, _, rfl, Tryz.func73, k151 ρ fx⟩
  · cases h; exact ⟨_, _, rfl, Tryz.func74, k152 ρ fx⟩
  · cases h; exact ⟨_, _, rfl, Tryz.func76, k154 ρ fx⟩
  · cases h; exact ⟨_, _, rfl, Tryz.func77, k155 ρ fx⟩
  · cases h; exact ⟨_, _, rfl, Tryz.func209, k191 ρ fx⟩
  · cases h; exact ⟨_, _, rfl, Tryz.func144, k192 ρ fx⟩
  · cases h; exact ⟨_, _, rfl, Tryz.func145, k193 ρ fx⟩
  · cases h; exact ⟨_, _, rfl, Tryz.func88, k194 ρ fx⟩
  · cases h; exact ⟨_, _, rfl, Tryz.func146, k195 ρ fx⟩
  · cases h; exact ⟨_, _, rfl, Tryz.func147, k196 ρ fx⟩
  · cases h; exact ⟨_, _, rfl, Tryz.func148, k197 ρ fx⟩
  · cases h; exact ⟨_, _, rfl, Tryz.func149, k198 ρ fx⟩
  · cases h; exact ⟨_, _, rfl, Tryz.func114, k199 ρ fx⟩
  · cases h; exact ⟨_, _, rfl, Tryz.func121, k200 ρ fx⟩
  · cases h; exact ⟨_, _, rfl, Tryz.func37, k201 ρ fx⟩
  · cases h; exact ⟨_, _, rfl, Tryz.func38, k202 ρ fx⟩
  · cases h; exact ⟨_, _, rfl, Tryz.func39, k203 ρ fx⟩
  · cases h; exact ⟨_, _, rfl, Tryz.func40, k204 ρ fx⟩
  · cases h; exact ⟨_, _, rfl, Tryz.func41, k205 ρ fx⟩
  · cases h; exact ⟨_, _, rfl, Tryz.func150, k206 ρ fx⟩
  · cases h; exact ⟨_, _, rfl, Tryz.func151, k207 ρ fx⟩
  · cases h; exact ⟨_, _, rfl, Tryz.func116, k208 ρ fx⟩
  · cases h; exact ⟨_, _, rfl, Tryz.func152, k209 ρ fx⟩
  · cases h; exact ⟨_, _, rfl, Tryz.func154, k211 ρ fx⟩
  · cases h; exact ⟨_, _, rfl, Tryz.func155, k212 ρ fx⟩
  · cases h; exact ⟨_, _, rfl, Tryz.func156, k213 ρ fx⟩
  · cases h; exact ⟨_, _, rfl, Tryz.func122, k214 ρ fx⟩
  · cases h; exact ⟨_, _, rfl, Tryz.func117, k215 ρ fx⟩
  · cases h; exact ⟨_, _, rfl, Tryz.func119, k216 ρ fx⟩
  · cases h; exact ⟨_, _, rfl, Tryz.func120, k217 ρ fx⟩
  · cases h; exact ⟨_, _, rfl, Tryz.func123, k218 ρ fx⟩
  · cases h; exact ⟨_, _, rfl, Tryz.func124, k219 ρ fx⟩
  · cases h; exact ⟨_, _, rfl, Tryz.func125, k220 ρ fx⟩
  · cases h; exact ⟨_, _, rfl, Tryz.func126, k221 ρ fx⟩
  · cases h; exact ⟨_, _, rfl, Tryz.func127, k222 ρ fx⟩
  · cases h; exact ⟨_, _, rfl, Tryz.func128, k223 ρ fx⟩
  · cases h; exact ⟨_, _, rfl, Tryz.func129, k224 ρ fx⟩
  · cases h; exact ⟨_, _, rfl, Tryz.func130, k225 ρ fx⟩
  · cases h; exact ⟨_, _, rfl, Tryz.func131, k226 ρ fx⟩
  · cases h; exact ⟨_, _, rfl, Tryz.func132, k227 ρ fx⟩
  · cases h; exact ⟨_, _, rfl, Tryz.func133, k228 ρ fx⟩
  · cases h; exact ⟨_, _, rfl, Tryz.func118, k230 ρ fx⟩
  · cases h; exact ⟨_, _, rfl, Tryz.func230, k246 ρ fx⟩
  · cases h; exact ⟨_, _, rfl, Tryz.func231, k247 ρ fx⟩
  · cases h; exact ⟨_, _, rfl, Tryz.func191, k248 ρ fx⟩
  · cases h; exact ⟨_, _, rfl, Tryz.func192, k249 ρ fx⟩
  · cases h; exact ⟨_, _, rfl, Tryz.func193, k250 ρ fx⟩
  · cases h; exact ⟨_, _, rfl, Tryz.func194, k251 ρ fx⟩
  · cases h; exact ⟨_, _, rfl, Tryz.func196, k253 ρ fx⟩
  · cases h; exact ⟨_, _, rfl, Tryz.func197, k254 ρ fx⟩
  · cases h; exact ⟨_, _, rfl, Tryz.func198, k255 ρ fx⟩
  · cases h; exact ⟨_, _, rfl, Tryz.func199, k256 ρ fx⟩
  · cases h; exact ⟨_, _, rfl, Tryz.func200, k257 ρ fx⟩
  · cases h; exact ⟨_, _, rfl, Tryz.func201, k258 ρ fx⟩
  · cases h; exact ⟨_, _, rfl, Tryz.func202, k259 ρ fx⟩
  · cases h; exact ⟨_, _, rfl, Tryz.func86, k260 ρ fx⟩
  · cases h; exact ⟨_, _, rfl, Tryz.func87, k261 ρ fx⟩
  · cases h; exact ⟨_, _, rfl, Tryz.func89, k262 ρ fx⟩
  · cases h; exact ⟨_, _, rfl, Tryz.func90, k263 ρ fx⟩
  · cases h; exact ⟨_, _, rfl, Tryz.func203, k264 ρ fx⟩
  · cases h; exact ⟨_, _, rfl, Tryz.func159, k265 ρ fx⟩
  · cases h; exact ⟨_, _, rfl, Tryz.func204, k266 ρ fx⟩
  · cases h; exact ⟨_, _, rfl, Tryz.func165, k267 ρ fx⟩
  · cases h; exact ⟨_, _, rfl, Tryz.func166, k268 ρ fx⟩
  · cases h; exact ⟨_, _, rfl, Tryz.func167, k269 ρ fx⟩
  · cases h; exact ⟨_, _, rfl, Tryz.func162, k271 ρ fx⟩
  · cases h; exact ⟨_, _, rfl, Tryz.func163, k272 ρ fx⟩
  · cases h; exact ⟨_, _, rfl, Tryz.func164, k273 ρ fx⟩
  · cases h; exact ⟨_, _, rfl, Tryz.func168, k274 ρ fx⟩
  · cases h; exact ⟨_, _, rfl, Tryz.func169, k275 ρ fx⟩
  · cases h; exact ⟨_, _, rfl, Tryz.func170, k276 ρ fx⟩
  · cases h; exact ⟨_, _, rfl, Tryz.func171, k277 ρ fx⟩
  · cases h; exact ⟨_, _, rfl, Tryz.func172, k278 ρ fx⟩
  · cases h; exact ⟨_, _, rfl, Tryz.func173, k279 ρ fx⟩
  · cases h; exact ⟨_, _, rfl, Tryz.func174, k280 ρ fx⟩
  · cases h; exact ⟨_, _, rfl, Tryz.func175, k281 ρ fx⟩
  · cases h; exact ⟨_, _, rfl, Tryz.func176, k282 ρ fx⟩
  · cases h; exact ⟨_, _, rfl, Tryz.func177, k283 ρ fx⟩
  · cases h; exact ⟨_, _, rfl, Tryz.func178, k284 ρ fx⟩
  · cases h; exact ⟨_, _, rfl, Tryz.func179, k285 ρ fx⟩
  · cases h; exact ⟨_, _, rfl, Tryz.func180, k286 ρ fx⟩
  · cases h; exact ⟨_, _, rfl, Tryz.func181, k287 ρ fx⟩
  · cases h; exact ⟨_, _, rfl, Tryz.func182, k288 ρ fx⟩
  · cases h; exact ⟨_, _, rfl, Tryz.func160, k289 ρ fx⟩
  · cases h; exact ⟨_, _, rfl, Tryz.func215, k300 ρ fx⟩
  · cases h; exact ⟨_, _, rfl, Tryz.func216, k301 ρ fx⟩
  · cases h; exact ⟨_, _, rfl, Tryz.func217, k302 ρ fx⟩
  · cases h; exact ⟨_, _, rfl, Tryz.func218, k303 ρ fx⟩
  · cases h; exact ⟨_, _, rfl, Tryz.func219, k304 ρ fx⟩
  · cases h; exact ⟨_, _, rfl, Tryz.func220, k305 ρ fx⟩
  · cases h; exact ⟨_, _, rfl, Tryz.func221, k306 ρ fx⟩
  · cases h; exact ⟨_, _, rfl, Tryz.func222, k307 ρ fx⟩
  · cases h; exact ⟨_, _, rfl, Tryz.func223, k308 ρ fx⟩
  · cases h; exact ⟨_, _, rfl, Tryz.func224, k309 ρ fx⟩
  · cases h; exact ⟨_, _, rfl, Tryz.func225, k310 ρ fx⟩
  · cases h; exact ⟨_, _, rfl, Tryz.func226, k311 ρ fx⟩
  · cases h; exact ⟨_, _, rfl, Tryz.func227, k312 ρ fx⟩
  · cases h; exact ⟨_, _, rfl, Tryz.func228, k313 ρ fx⟩
  · cases h; exact ⟨_, _, rfl, Tryz.func229, k314 ρ fx⟩
  · cases h; exact ⟨_, _, rfl, Tryz.func205, k315 ρ fx⟩
  · cases h; exact ⟨_, _, rfl, Tryz.func206, k316 ρ fx⟩
  · cases h; exact ⟨_, _, rfl, Tryz.func207, k317 ρ fx⟩
  · cases h; exact ⟨_, _, rfl, Tryz.func208, k318 ρ fx⟩
  · cases h; exact ⟨_, _, rfl, Tryz.func210, k319 ρ fx⟩
  · cases h; exact ⟨_, _, rfl, Tryz.func211, k320 ρ fx⟩
  · cases h; exact ⟨_, _, rfl, Tryz.func212, k321 ρ fx⟩
  · cases h; exact ⟨_, _, rfl, Tryz.func213, k322 ρ fx⟩
  · cases h; exact ⟨_, _, rfl, Tryz.func232, k331 ρ fx⟩
  · cases h; exact ⟨_, _, rfl, Tryz.func233, k332 ρ fx⟩
  · cases h; exact ⟨_, _, rfl, Tryz.func234, k333 ρ fx⟩
  · cases h; exact ⟨_, _, rfl, Tryz.func235, k334 ρ fx⟩
  · cases h; exact ⟨_, _, rfl, Tryz.func236, k335 ρ fx⟩
  · cases h; exact ⟨_, _, rfl, Tryz.func237, k336 ρ fx⟩
  · cases h; exact ⟨_, _, rfl, Tryz.func238, k337 ρ fx⟩
  · cases h; exact ⟨_, _, rfl, Tryz.func239, k338 ρ fx⟩
  · cases h; exact ⟨_, _, rfl, Tryz.func240, k339 ρ fx⟩
  · cases h; exact ⟨_, _, rfl, Tryz.func241, k340 ρ fx⟩
  · cases h; exact ⟨_, _, rfl, Tryz.func242, k341 ρ fx⟩
  · cases h; exact ⟨_, _, rfl, Tryz.func243, k342 ρ fx⟩
  · cases h; exact ⟨_, _, rfl, Tryz.func244, k343 ρ fx⟩
  · cases h; exact ⟨_, _, rfl, Tryz.func245, k344 ρ fx⟩
  · cases h; exact ⟨_, _, rfl, Tryz.func246, k345 ρ fx⟩
  · cases h; exact ⟨_, _, rfl, Tryz.func247, k346 ρ fx⟩
  · cases h; exact ⟨_, _, rfl, Tryz.func20, k1009 ρ fx⟩
  · cases h; exact ⟨_, _, rfl, Tryz.func8, k1016 ρ fx⟩
  · cases h
theorem clones_ok (ρ : Nat → Int) (fx : List Fact) : ∀ f n b z, clones f = some (n, b, z) → ∃ g fn, (nf ρ) f = some g ∧ Tryz.prog.funcs[g]? = some fn ∧ chkFun Tryz.prog (nf ρ) (abi fx) fn (cloneOf n b z) = true := by
  intro f n b z h
  unfold clones at h
  split at h
  · cases h; exact ⟨_, _, rfl, Tryz.func65, k132 ρ fx⟩
  · cases h; exact ⟨_, _, rfl, Tryz.func66, k133 ρ fx⟩
  · cases h; exact ⟨_, _, rfl, Tryz.func67, k134 ρ fx⟩
  · cases h; exact ⟨_, _, rfl, Tryz.func68, k135 ρ fx⟩
  · cases h; exact ⟨_, _, rfl, Tryz.func69, k136 ρ fx⟩
  · cases h; exact ⟨_, _, rfl, Tryz.func70, k137 ρ fx⟩
  · cases h; exact ⟨_, _, rfl, Tryz.func157, k149 ρ fx⟩
  · cases h; exact ⟨_, _, rfl, Tryz.func153, k210 ρ fx⟩
  · cases h; exact ⟨_, _, rfl, Tryz.func158, k229 ρ fx⟩
  · cases h; exact ⟨_, _, rfl, Tryz.func161, k270 ρ fx⟩
  · cases h
def prims : CallF := orP (cloneP clones) (sealP 265)
theorem prims_ok (ρ : Nat → Int) : ∀ f args v outs, prims f args = some (v, outs) → CallsOK Tryz.prog (nf ρ) f args v outs := orP_ok (cloneP_ok (abi := abi []) (ent ρ FactsOK.nil) (by kernel_rfl) (clones_ok ρ [])) (sealP_ok (abi := abi []) (ent ρ FactsOK.nil) (by kernel_rfl) (by funext ns; rfl) (show (nf ρ) 265 = some 159 from rfl) Tryz.func159 (k265 ρ []))
abbrev i (n : Int) : V := .int .i64 n
abbrev b0 : V := .bool false
abbrev b1 : V := .bool true
abbrev s0 : V := .sl []
abbrev f0 : V := .fresh []
abbrev x (i : Nat) : SE := .var i
def Holds (ρ : Nat → Int) (e : Entry) : Prop := CallsOK Tryz.prog (nf ρ) e.1 e.2.1 e.2.2.1 e.2.2.2
theorem holds_of {ρ : Nat → Int} {fx : List Fact} {tbl : List Entry} {e : Entry} (hF : FactsOK (nf ρ) fx) (k : Known Tryz.prog (nf ρ) tbl) (h : runF (abi fx) funs (orP prims (memoP tbl)) 100000 60 e.1 e.2.1 = some e.2.2) : Holds ρ e :=
  runF_ok (ent ρ hF) (by kernel_rfl) (orP_ok (prims_ok ρ) (memoP_ok tbl k)) (funs_ok ρ fx) 60 e.1 e.2.1 _ _ h
def m0 : Entry := (23, [V.agg [i 1,i 10,s0,s0,b0,b0,b0,s0,V.sl [[i 0],[i 0],[i 0],[i 0],[i 0],[i 0],[i 0],[i 0],[i 0],[i 0],[i 0],[i 0]],V.sl [[b0],[b0],[b0],[b0],[b0],[b0],[b0],[b0],[b0],[b0],[b0],[b0]],V.sl [[i 0,i 0,i 0,i 0,i 0,s0,s0,V.int .u32 (0),s0,V.int .u32 (0)],[i 0,i 0,i 0,i 0,i 0,s0,s0,V.int .u32 (0),s0,V.int .u32 (0)],[i 0,i 0,i 0,i 0,i 0,s0,s0,V.int .u32 (0),s0,V.int .u32 (0)],[i 0,i 0,i 0,i 0,i 0,s0,s0,V.int .u32 (0),s0,V.int .u32 (0)],[i 0,i 0,i 0,i 0,i 0,s0,s0,V.int .u32 (0),s0,V.int .u32 (0)],[i 0,i 0,i 0,i 0,i 0,s0,s0,V.int .u32 (0),s0,V.int .u32 (0)],[i 0,i 0,i 0,i 0,i 0,s0,s0,V.int .u32 (0),s0,V.int .u32 (0)],[i 0,i 0,i 0,i 0,i 0,s0,s0,V.int .u32 (0),s0,V.int .u32 (0)],[i 0,i 0,i 0,i 0,i 0,s0,s0,V.int .u32 (0),s0,V.int .u32 (0)],[i 0,i 0,i 0,i 0,i 0,s0,s0,V.int .u32 (0),s0,V.int .u32 (0)],[i 0,i 0,i 0,i 0,i 0,s0,s0,V.int .u32 (0),s0,V.int .u32 (0)],[i 0,i 0,i 0,i 0,i 0,s0,s0,V.int .u32 (0),s0,V.int .u32 (0)]],s0,s0],V.agg [i 5,i 0,i 0,i 0,i 0,s0,s0,s0,i 0,i 0,i 0,i 0,V.int .u32 (0),i 0,i 3]], V.tup [V.agg [i 4,i 10,f0,f0,b0,b0,b0,f0,V.fresh [[i 0],[i 0],[i 0],[i 0],[i 0],[i 0],[i 0],[i 0],[i 0],[i 0],[i 0],[i 0]],V.fresh [[b0],[b0],[b0],[b0],[b0],[b0],[b0],[b0],[b0],[b0],[b0],[b0]],V.fresh [[i 0,i 0,i 0,i 0,i 0,s0,s0,V.int .u32 (0),s0,V.int .u32 (0)],[i 0,i 0,i 0,i 0,i 0,s0,s0,V.int .u32 (0),s0,V.int .u32 (0)],[i 0,i 0,i 0,i 0,i 0,s0,s0,V.int .u32 (0),s0,V.int .u32 (0)],[i 0,i 0,i 0,i 0,i 0,s0,s0,V.int .u32 (0),s0,V.int .u32 (0)],[i 0,i 0,i 0,i 0,i 0,s0,s0,V.int .u32 (0),s0,V.int .u32 (0)],[i 0,i 0,i 0,i 0,i 0,s0,s0,V.int .u32 (0),s0,V.int .u32 (0)],[i 0,i 0,i 0,i 0,i 0,s0,s0,V.int .u32 (0),s0,V.int .u32 (0)],[i 0,i 0,i 0,i 0,i 0,s0,s0,V.int .u32 (0),s0,V.int .u32 (0)],[i 0,i 0,i 0,i 0,i 0,s0,s0,V.int .u32 (0),s0,V.int .u32 (0)],[i 0,i 0,i 0,i 0,i 0,s0,s0,V.int .u32 (0),s0,V.int .u32 (0)],[i 0,i 0,i 0,i 0,i 0,s0,s0,V.int .u32 (0),s0,V.int .u32 (0)],[i 0,i 0,i 0,i 0,i 0,s0,s0,V.int .u32 (0),s0,V.int .u32 (0)]],f0,f0],f0,V.agg [i 0,i 0,i 0,i 0]], [])
def fx0 : List Fact := []
theorem r0 : runF (abi fx0) funs (orP prims (memoP [])) 100000 60 23 m0.2.1 = some m0.2.2 := by kernel_rfl
theorem w0 (ρ : Nat → Int) (hF : FactsOK (nf ρ) fx0) : Holds ρ m0 := holds_of (tbl := []) hF trivial r0
def m1 : Entry := (9, [i 10,V.sl [[i 2,i 0,i 0,i 0,i 0,s0,s0,s0,i 0,i 0,i 0,i 0,V.int .u32 (0),i 0,i 0],[i 5,i 0,i 0,i 0,i 0,s0,s0,s0,i 0,i 0,i 0,i 0,V.int .u32 (0),i 0,i 3],[i 9,i 0,i 0,i 0,i 0,s0,s0,s0,i 0,i 0,i 0,i 0,V.int .u32 (0),i 0,i 0]]], V.tup [V.agg [i 4,i 10,f0,f0,b0,b0,b0,f0,V.fresh [[i 0],[i 0],[i 0],[i 0],[i 0],[i 0],[i 0],[i 0],[i 0],[i 0],[i 0],[i 0]],V.fresh [[b0],[b0],[b0],[b0],[b0],[b0],[b0],[b0],[b0],[b0],[b0],[b0]],V.fresh [[i 0,i 0,i 0,i 0,i 0,s0,s0,V.int .u32 (0),s0,V.int .u32 (0)],[i 0,i 0,i 0,i 0,i 0,s0,s0,V.int .u32 (0),s0,V.int .u32 (0)],[i 0,i 0,i 0,i 0,i 0,s0,s0,V.int .u32 (0),s0,V.int .u32 (0)],[i 0,i 0,i 0,i 0,i 0,s0,s0,V.int .u32 (0),s0,V.int .u32 (0)],[i 0,i 0,i 0,i 0,i 0,s0,s0,V.int .u32 (0),s0,V.int .u32 (0)],[i 0,i 0,i 0,i 0,i 0,s0,s0,V.int .u32 (0),s0,V.int .u32 (0)],[i 0,i 0,i 0,i 0,i 0,s0,s0,V.int .u32 (0),s0,V.int .u32 (0)],[i 0,i 0,i 0,i 0,i 0,s0,s0,V.int .u32 (0),s0,V.int .u32 (0)],[i 0,i 0,i 0,i 0,i 0,s0,s0,V.int .u32 (0),s0,V.int .u32 (0)],[i 0,i 0,i 0,i 0,i 0,s0,s0,V.int .u32 (0),s0,V.int .u32 (0)],[i 0,i 0,i 0,i 0,i 0,s0,s0,V.int .u32 (0),s0,V.int .u32 (0)],[i 0,i 0,i 0,i 0,i 0,s0,s0,V.int .u32 (0),s0,V.int .u32 (0)]],f0,f0],f0,V.fresh [[i 0,i 0,i 0,i 0],[i 0,i 0,i 0,i 0],[i 1,i 0,i 0,i 0]],b1], [])
def fx1 : List Fact := []
theorem r1 : runF (abi fx1) funs (orP prims (memoP [m0])) 100000 60 9 m1.2.1 = some m1.2.2 := by kernel_rfl
theorem w1 (ρ : Nat → Int) (hF : FactsOK (nf ρ) fx1) : Holds ρ m1 := holds_of (tbl := [m0]) hF ⟨w0 ρ (FactsOK.sub hF (by kernel_rfl)), trivial⟩ r1
def m2 : Entry := (265, [V.sl [[i 2],[i 0],[i 1],[i 0],[i 0],[i 0],[i 0],[i 0]]], V.int .u32 (2434569669), [])
def fx2 : List Fact := []
theorem r2 : runF (abi fx2) funs (orP prims (memoP [])) 100000 60 265 m2.2.1 = some m2.2.2 := by kernel_rfl
theorem w2 (ρ : Nat → Int) (hF : FactsOK (nf ρ) fx2) : Holds ρ m2 := holds_of (tbl := []) hF trivial r2
def m3 : Entry := (44, [V.agg [i 0,i 10,s0,s0,b0,b0,b0,s0,V.sl [[i 0],[i 0],[i 0],[i 0],[i 0],[i 0],[i 0],[i 0],[i 0],[i 0],[i 0],[i 0]],V.sl [[b0],[b0],[b0],[b0],[b0],[b0],[b0],[b0],[b0],[b0],[b0],[b0]],V.sl [[i 0,i 0,i 0,i 0,i 0,s0,s0,V.int .u32 (0),s0,V.int .u32 (0)],[i 0,i 0,i 0,i 0,i 0,s0,s0,V.int .u32 (0),s0,V.int .u32 (0)],[i 0,i 0,i 0,i 0,i 0,s0,s0,V.int .u32 (0),s0,V.int .u32 (0)],[i 0,i 0,i 0,i 0,i 0,s0,s0,V.int .u32 (0),s0,V.int .u32 (0)],[i 0,i 0,i 0,i 0,i 0,s0,s0,V.int .u32 (0),s0,V.int .u32 (0)],[i 0,i 0,i 0,i 0,i 0,s0,s0,V.int .u32 (0),s0,V.int .u32 (0)],[i 0,i 0,i 0,i 0,i 0,s0,s0,V.int .u32 (0),s0,V.int .u32 (0)],[i 0,i 0,i 0,i 0,i 0,s0,s0,V.int .u32 (0),s0,V.int .u32 (0)],[i 0,i 0,i 0,i 0,i 0,s0,s0,V.int .u32 (0),s0,V.int .u32 (0)],[i 0,i 0,i 0,i 0,i 0,s0,s0,V.int .u32 (0),s0,V.int .u32 (0)],[i 0,i 0,i 0,i 0,i 0,s0,s0,V.int .u32 (0),s0,V.int .u32 (0)],[i 0,i 0,i 0,i 0,i 0,s0,s0,V.int .u32 (0),s0,V.int .u32 (0)]],s0,s0],V.agg [i 3,i 0,i 0,i 0,s0,s0,s0,i 0,i 0,i 0,i 0,V.int .u32 (0)]], V.tup [V.agg [i 0,i 10,f0,f0,b0,b0,b0,f0,V.fresh [[i 1],[i 0],[i 0],[i 0],[i 0],[i 0],[i 0],[i 0],[i 0],[i 0],[i 0],[i 0]],V.fresh [[b1],[b0],[b0],[b0],[b0],[b0],[b0],[b0],[b0],[b0],[b0],[b0]],V.fresh [[i 2,i 0,i 1,i 0,i 0,s0,s0,V.int .u32 (0),s0,V.int .u32 (2434569669)],[i 0,i 0,i 0,i 0,i 0,s0,s0,V.int .u32 (0),s0,V.int .u32 (0)],[i 0,i 0,i 0,i 0,i 0,s0,s0,V.int .u32 (0),s0,V.int .u32 (0)],[i 0,i 0,i 0,i 0,i 0,s0,s0,V.int .u32 (0),s0,V.int .u32 (0)],[i 0,i 0,i 0,i 0,i 0,s0,s0,V.int .u32 (0),s0,V.int .u32 (0)],[i 0,i 0,i 0,i 0,i 0,s0,s0,V.int .u32 (0),s0,V.int .u32 (0)],[i 0,i 0,i 0,i 0,i 0,s0,s0,V.int .u32 (0),s0,V.int .u32 (0)],[i 0,i 0,i 0,i 0,i 0,s0,s0,V.int .u32 (0),s0,V.int .u32 (0)],[i 0,i 0,i 0,i 0,i 0,s0,s0,V.int .u32 (0),s0,V.int .u32 (0)],[i 0,i 0,i 0,i 0,i 0,s0,s0,V.int .u32 (0),s0,V.int .u32 (0)],[i 0,i 0,i 0,i 0,i 0,s0,s0,V.int .u32 (0),s0,V.int .u32 (0)],[i 0,i 0,i 0,i 0,i 0,s0,s0,V.int .u32 (0),s0,V.int .u32 (0)]],f0,f0],f0,V.agg [i 0,i 0,i 1,i 0]], [])
def fx3 : List Fact := []
theorem r3 : runF (abi fx3) funs (orP prims (memoP [m2])) 100000 60 44 m3.2.1 = some m3.2.2 := by kernel_rfl
theorem w3 (ρ : Nat → Int) (hF : FactsOK (nf ρ) fx3) : Holds ρ m3 := holds_of (tbl := [m2]) hF ⟨w2 ρ (FactsOK.sub hF (by kernel_rfl)), trivial⟩ r3
def m4 : Entry := (265, [V.sl [[i 3],[i 1],[i 1],[i 0],[i 0],[i 0],[i 0],[i 0]]], V.int .u32 (2568263109), [])
def fx4 : List Fact := []
theorem r4 : runF (abi fx4) funs (orP prims (memoP [])) 100000 60 265 m4.2.1 = some m4.2.2 := by kernel_rfl
theorem w4 (ρ : Nat → Int) (hF : FactsOK (nf ρ) fx4) : Holds ρ m4 := holds_of (tbl := []) hF trivial r4
def m5 : Entry := (44, [V.agg [i 0,i 10,s0,s0,b0,b0,b0,s0,V.sl [[i 1],[i 0],[i 0],[i 0],[i 0],[i 0],[i 0],[i 0],[i 0],[i 0],[i 0],[i 0]],V.sl [[b1],[b0],[b0],[b0],[b0],[b0],[b0],[b0],[b0],[b0],[b0],[b0]],V.sl [[i 2,i 0,i 1,i 0,i 0,s0,s0,V.int .u32 (0),s0,V.int .u32 (2434569669)],[i 0,i 0,i 0,i 0,i 0,s0,s0,V.int .u32 (0),s0,V.int .u32 (0)],[i 0,i 0,i 0,i 0,i 0,s0,s0,V.int .u32 (0),s0,V.int .u32 (0)],[i 0,i 0,i 0,i 0,i 0,s0,s0,V.int .u32 (0),s0,V.int .u32 (0)],[i 0,i 0,i 0,i 0,i 0,s0,s0,V.int .u32 (0),s0,V.int .u32 (0)],[i 0,i 0,i 0,i 0,i 0,s0,s0,V.int .u32 (0),s0,V.int .u32 (0)],[i 0,i 0,i 0,i 0,i 0,s0,s0,V.int .u32 (0),s0,V.int .u32 (0)],[i 0,i 0,i 0,i 0,i 0,s0,s0,V.int .u32 (0),s0,V.int .u32 (0)],[i 0,i 0,i 0,i 0,i 0,s0,s0,V.int .u32 (0),s0,V.int .u32 (0)],[i 0,i 0,i 0,i 0,i 0,s0,s0,V.int .u32 (0),s0,V.int .u32 (0)],[i 0,i 0,i 0,i 0,i 0,s0,s0,V.int .u32 (0),s0,V.int .u32 (0)],[i 0,i 0,i 0,i 0,i 0,s0,s0,V.int .u32 (0),s0,V.int .u32 (0)]],s0,s0],V.agg [i 4,i 0,i 0,i 0,s0,s0,s0,i 0,i 0,i 0,i 0,V.int .u32 (0)]], V.tup [V.agg [i 0,i 10,f0,f0,b0,b0,b0,f0,V.fresh [[i 1],[i 1],[i 0],[i 0],[i 0],[i 0],[i 0],[i 0],[i 0],[i 0],[i 0],[i 0]],V.fresh [[b1],[b1],[b0],[b0],[b0],[b0],[b0],[b0],[b0],[b0],[b0],[b0]],V.fresh [[i 2,i 0,i 1,i 0,i 0,s0,s0,V.int .u32 (0),s0,V.int .u32 (2434569669)],[i 3,i 1,i 1,i 0,i 0,s0,s0,V.int .u32 (0),s0,V.int .u32 (2568263109)],[i 0,i 0,i 0,i 0,i 0,s0,s0,V.int .u32 (0),s0,V.int .u32 (0)],[i 0,i 0,i 0,i 0,i 0,s0,s0,V.int .u32 (0),s0,V.int .u32 (0)],[i 0,i 0,i 0,i 0,i 0,s0,s0,V.int .u32 (0),s0,V.int .u32 (0)],[i 0,i 0,i 0,i 0,i 0,s0,s0,V.int .u32 (0),s0,V.int .u32 (0)],[i 0,i 0,i 0,i 0,i 0,s0,s0,V.int .u32 (0),s0,V.int .u32 (0)],[i 0,i 0,i 0,i 0,i 0,s0,s0,V.int .u32 (0),s0,V.int .u32 (0)],[i 0,i 0,i 0,i 0,i 0,s0,s0,V.int .u32 (0),s0,V.int .u32 (0)],[i 0,i 0,i 0,i 0,i 0,s0,s0,V.int .u32 (0),s0,V.int .u32 (0)],[i 0,i 0,i 0,i 0,i 0,s0,s0,V.int .u32 (0),s0,V.int .u32 (0)],[i 0,i 0,i 0,i 0,i 0,s0,s0,V.int .u32 (0),s0,V.int .u32 (0)]],f0,f0],f0,V.agg [i 0,i 1,i 1,i 0]], [])
def fx5 : List Fact := []
theorem r5 : runF (abi fx5) funs (orP prims (memoP [m4])) 100000 60 44 m5.2.1 = some m5.2.2 := by kernel_rfl
theorem w5 (ρ : Nat → Int) (hF : FactsOK (nf ρ) fx5) : Holds ρ m5 := holds_of (tbl := [m4]) hF ⟨w4 ρ (FactsOK.sub hF (by kernel_rfl)), trivial⟩ r5
def m6 : Entry := (44, [V.agg [i 0,i 10,s0,s0,b0,b0,b0,s0,V.sl [[i 1],[i 1],[i 0],[i 0],[i 0],[i 0],[i 0],[i 0],[i 0],[i 0],[i 0],[i 0]],V.sl [[b1],[b1],[b0],[b0],[b0],[b0],[b0],[b0],[b0],[b0],[b0],[b0]],V.sl [[i 2,i 0,i 1,i 0,i 0,s0,s0,V.int .u32 (0),s0,V.int .u32 (2434569669)],[i 3,i 1,i 1,i 0,i 0,s0,s0,V.int .u32 (0),s0,V.int .u32 (2568263109)],[i 0,i 0,i 0,i 0,i 0,s0,s0,V.int .u32 (0),s0,V.int .u32 (0)],[i 0,i 0,i 0,i 0,i 0,s0,s0,V.int .u32 (0),s0,V.int .u32 (0)],[i 0,i 0,i 0,i 0,i 0,s0,s0,V.int .u32 (0),s0,V.int .u32 (0)],[i 0,i 0,i 0,i 0,i 0,s0,s0,V.int .u32 (0),s0,V.int .u32 (0)],[i 0,i 0,i 0,i 0,i 0,s0,s0,V.int .u32 (0),s0,V.int .u32 (0)],[i 0,i 0,i 0,i 0,i 0,s0,s0,V.int .u32 (0),s0,V.int .u32 (0)],[i 0,i 0,i 0,i 0,i 0,s0,s0,V.int .u32 (0),s0,V.int .u32 (0)],[i 0,i 0,i 0,i 0,i 0,s0,s0,V.int .u32 (0),s0,V.int .u32 (0)],[i 0,i 0,i 0,i 0,i 0,s0,s0,V.int .u32 (0),s0,V.int .u32 (0)],[i 0,i 0,i 0,i 0,i 0,s0,s0,V.int .u32 (0),s0,V.int .u32 (0)]],s0,s0],V.agg [i 5,i 0,i 0,i 0,s0,s0,s0,i 0,i 0,i 0,i 0,V.int .u32 (0)]], V.tup [V.agg [i 0,i 10,f0,f0,b1,b0,b0,f0,V.fresh [[i 1],[i 1],[i 0],[i 0],[i 0],[i 0],[i 0],[i 0],[i 0],[i 0],[i 0],[i 0]],V.fresh [[b1],[b1],[b0],[b0],[b0],[b0],[b0],[b0],[b0],[b0],[b0],[b0]],V.fresh [[i 2,i 0,i 1,i 0,i 0,s0,s0,V.int .u32 (0),s0,V.int .u32 (2434569669)],[i 3,i 1,i 1,i 0,i 0,s0,s0,V.int .u32 (0),s0,V.int .u32 (2568263109)],[i 0,i 0,i 0,i 0,i 0,s0,s0,V.int .u32 (0),s0,V.int .u32 (0)],[i 0,i 0,i 0,i 0,i 0,s0,s0,V.int .u32 (0),s0,V.int .u32 (0)],[i 0,i 0,i 0,i 0,i 0,s0,s0,V.int .u32 (0),s0,V.int .u32 (0)],[i 0,i 0,i 0,i 0,i 0,s0,s0,V.int .u32 (0),s0,V.int .u32 (0)],[i 0,i 0,i 0,i 0,i 0,s0,s0,V.int .u32 (0),s0,V.int .u32 (0)],[i 0,i 0,i 0,i 0,i 0,s0,s0,V.int .u32 (0),s0,V.int .u32 (0)],[i 0,i 0,i 0,i 0,i 0,s0,s0,V.int .u32 (0),s0,V.int .u32 (0)],[i 0,i 0,i 0,i 0,i 0,s0,s0,V.int .u32 (0),s0,V.int .u32 (0)],[i 0,i 0,i 0,i 0,i 0,s0,s0,V.int .u32 (0),s0,V.int .u32 (0)],[i 0,i 0,i 0,i 0,i 0,s0,s0,V.int .u32 (0),s0,V.int .u32 (0)]],f0,f0],f0,V.agg [i 0,i 0,i 0,i 0]], [])
def fx6 : List Fact := []
theorem r6 : runF (abi fx6) funs (orP prims (memoP [])) 100000 60 44 m6.2.1 = some m6.2.2 := by kernel_rfl
theorem w6 (ρ : Nat → Int) (hF : FactsOK (nf ρ) fx6) : Holds ρ m6 := holds_of (tbl := []) hF trivial r6
def m7 : Entry := (75, [V.pbox [i 0,i 10,s0,s0,b1,b0,b0,s0,V.sl [[i 1],[i 1],[i 0],[i 0],[i 0],[i 0],[i 0],[i 0],[i 0],[i 0],[i 0],[i 0]],V.sl [[b1],[b1],[b0],[b0],[b0],[b0],[b0],[b0],[b0],[b0],[b0],[b0]],V.sl [[i 2,i 0,i 1,i 0,i 0,s0,s0,V.int .u32 (0),s0,V.int .u32 (2434569669)],[i 3,i 1,i 1,i 0,i 0,s0,s0,V.int .u32 (0),s0,V.int .u32 (2568263109)],[i 0,i 0,i 0,i 0,i 0,s0,s0,V.int .u32 (0),s0,V.int .u32 (0)],[i 0,i 0,i 0,i 0,i 0,s0,s0,V.int .u32 (0),s0,V.int .u32 (0)],[i 0,i 0,i 0,i 0,i 0,s0,s0,V.int .u32 (0),s0,V.int .u32 (0)],[i 0,i 0,i 0,i 0,i 0,s0,s0,V.int .u32 (0),s0,V.int .u32 (0)],[i 0,i 0,i 0,i 0,i 0,s0,s0,V.int .u32 (0),s0,V.int .u32 (0)],[i 0,i 0,i 0,i 0,i 0,s0,s0,V.int .u32 (0),s0,V.int .u32 (0)],[i 0,i 0,i 0,i 0,i 0,s0,s0,V.int .u32 (0),s0,V.int .u32 (0)],[i 0,i 0,i 0,i 0,i 0,s0,s0,V.int .u32 (0),s0,V.int .u32 (0)],[i 0,i 0,i 0,i 0,i 0,s0,s0,V.int .u32 (0),s0,V.int .u32 (0)],[i 0,i 0,i 0,i 0,i 0,s0,s0,V.int .u32 (0),s0,V.int .u32 (0)]],s0,s0,i 7,i 0,i 0,i 0,s0,s0,s0,i 0,i 1,i 0,V.sym .i64 (x 0) (-9223372036854775808) (9223372036854775807) (1) (0),V.int .u32 (0),f0,i 0,i 0,i 0,i 0] 0], V.tup [], [[i 0,i 10,s0,s0,b1,b0,b0,s0,V.fresh [[i 1],[i 1],[i 0],[i 0],[i 0],[i 0],[i 0],[i 0],[i 0],[i 0],[i 0],[i 0]],V.fresh [[b1],[b1],[b0],[b0],[b0],[b0],[b0],[b0],[b0],[b0],[b0],[b0]],V.fresh [[i 2,i 0,i 1,i 0,i 0,V.sl [[V.sym .i64 (x 0) (-9223372036854775808) (9223372036854775807) (1) (0)]],s0,V.int .u32 (0),s0,V.sym .u32 ((.app 265 [(.con (2)), (.con (0)), (.con (1)), (.con (0)), (.con (0)), (.con (1)), x 0, (.con (0)), (.con (0))])) (0) (4294967295) (1) (0)],[i 3,i 1,i 1,i 0,i 0,s0,s0,V.int .u32 (0),s0,V.int .u32 (2568263109)],[i 0,i 0,i 0,i 0,i 0,s0,s0,V.int .u32 (0),s0,V.int .u32 (0)],[i 0,i 0,i 0,i 0,i 0,s0,s0,V.int .u32 (0),s0,V.int .u32 (0)],[i 0,i 0,i 0,i 0,i 0,s0,s0,V.int .u32 (0),s0,V.int .u32 (0)],[i 0,i 0,i 0,i 0,i 0,s0,s0,V.int .u32 (0),s0,V.int .u32 (0)],[i 0,i 0,i 0,i 0,i 0,s0,s0,V.int .u32 (0),s0,V.int .u32 (0)],[i 0,i 0,i 0,i 0,i 0,s0,s0,V.int .u32 (0),s0,V.int .u32 (0)],[i 0,i 0,i 0,i 0,i 0,s0,s0,V.int .u32 (0),s0,V.int .u32 (0)],[i 0,i 0,i 0,i 0,i 0,s0,s0,V.int .u32 (0),s0,V.int .u32 (0)],[i 0,i 0,i 0,i 0,i 0,s0,s0,V.int .u32 (0),s0,V.int .u32 (0)],[i 0,i 0,i 0,i 0,i 0,s0,s0,V.int .u32 (0),s0,V.int .u32 (0)]],s0,s0,i 7,i 0,i 0,i 0,s0,s0,s0,i 0,i 1,i 0,V.sym .i64 (x 0) (-9223372036854775808) (9223372036854775807) (1) (0),V.int .u32 (0),f0,i 0,i 0,i 0,i 0]])
def fx7 : List Fact := []
theorem r7 : runF (abi fx7) funs (orP prims (memoP [m2])) 100000 60 75 m7.2.1 = some m7.2.2 := by kernel_rfl
theorem w7 (ρ : Nat → Int) (hF : FactsOK (nf ρ) fx7) : Holds ρ m7 := holds_of (tbl := [m2]) hF ⟨w2 ρ (FactsOK.sub hF (by kernel_rfl)), trivial⟩ r7
def m8 : Entry := (78, [V.pbox [i 0,i 10,s0,s0,b1,b0,b0,s0,V.sl [[i 1],[i 1],[i 0],[i 0],[i 0],[i 0],[i 0],[i 0],[i 0],[i 0],[i 0],[i 0]],V.sl [[b1],[b1],[b0],[b0],[b0],[b0],[b0],[b0],[b0],[b0],[b0],[b0]],V.sl [[i 2,i 0,i 1,i 0,i 0,V.sl [[V.sym .i64 (x 0) (-9223372036854775808) (9223372036854775807) (1) (0)]],s0,V.int .u32 (0),s0,V.sym .u32 ((.app 265 [(.con (2)), (.con (0)), (.con (1)), (.con (0)), (.con (0)), (.con (1)), x 0, (.con (0)), (.con (0))])) (0) (4294967295) (1) (0)],[i 3,i 1,i 1,i 0,i 0,s0,s0,V.int .u32 (0),s0,V.int .u32 (2568263109)],[i 0,i 0,i 0,i 0,i 0,s0,s0,V.int .u32 (0),s0,V.int .u32 (0)],[i 0,i 0,i 0,i 0,i 0,s0,s0,V.int .u32 (0),s0,V.int .u32 (0)],[i 0,i 0,i 0,i 0,i 0,s0,s0,V.int .u32 (0),s0,V.int .u32 (0)],[i 0,i 0,i 0,i 0,i 0,s0,s0,V.int .u32 (0),s0,V.int .u32 (0)],[i 0,i 0,i 0,i 0,i 0,s0,s0,V.int .u32 (0),s0,V.int .u32 (0)],[i 0,i 0,i 0,i 0,i 0,s0,s0,V.int .u32 (0),s0,V.int .u32 (0)],[i 0,i 0,i 0,i 0,i 0,s0,s0,V.int .u32 (0),s0,V.int .u32 (0)],[i 0,i 0,i 0,i 0,i 0,s0,s0,V.int .u32 (0),s0,V.int .u32 (0)],[i 0,i 0,i 0,i 0,i 0,s0,s0,V.int .u32 (0),s0,V.int .u32 (0)],[i 0,i 0,i 0,i 0,i 0,s0,s0,V.int .u32 (0),s0,V.int .u32 (0)]],s0,s0,i 10,i 0,i 0,i 0,s0,s0,s0,i 1,i 1,V.sym .i64 ((.bin .add .i64 ((.con (1))) (x 1))) (1) (256) (1) (0),i 0,V.int .u32 (2),f0,i 0,i 0,i 0,i 0] 0], V.tup [], [[i 0,i 10,s0,s0,b1,b0,b0,s0,V.fresh [[i 1],[i 1],[i 0],[i 0],[i 0],[i 0],[i 0],[i 0],[i 0],[i 0],[i 0],[i 0]],V.fresh [[b1],[b1],[b0],[b0],[b0],[b0],[b0],[b0],[b0],[b0],[b0],[b0]],V.fresh [[i 2,i 0,i 1,i 0,i 0,V.sl [[V.sym .i64 (x 0) (-9223372036854775808) (9223372036854775807) (1) (0)]],s0,V.int .u32 (0),s0,V.sym .u32 ((.app 265 [(.con (2)), (.con (0)), (.con (1)), (.con (0)), (.con (0)), (.con (1)), x 0, (.con (0)), (.con (0))])) (0) (4294967295) (1) (0)],[i 3,i 1,i 1,i 0,i 0,s0,s0,V.int .u32 (0),V.sl [[V.sym .i64 ((.bin .add .i64 ((.con (1))) (x 1))) (1) (256) (1) (0),V.int .u32 (2)]],V.sym .u32 ((.app 265 [(.con (3)), (.con (1)), (.con (1)), (.con (0)), (.con (0)), (.con (0)), (.con (0)), (.con (0)), (.bin .add .i64 ((.con (1))) (x 1)), (.con (2))])) (0) (4294967295) (1) (0)],[i 0,i 0,i 0,i 0,i 0,s0,s0,V.int .u32 (0),s0,V.int .u32 (0)],[i 0,i 0,i 0,i 0,i 0,s0,s0,V.int .u32 (0),s0,V.int .u32 (0)],[i 0,i 0,i 0,i 0,i 0,s0,s0,V.int .u32 (0),s0,V.int .u32 (0)],[i 0,i 0,i 0,i 0,i 0,s0,s0,V.int .u32 (0),s0,V.int .u32 (0)],[i 0,i 0,i 0,i 0,i 0,s0,s0,V.int .u32 (0),s0,V.int .u32 (0)],[i 0,i 0,i 0,i 0,i 0,s0,s0,V.int .u32 (0),s0,V.int .u32 (0)],[i 0,i 0,i 0,i 0,i 0,s0,s0,V.int .u32 (0),s0,V.int .u32 (0)],[i 0,i 0,i 0,i 0,i 0,s0,s0,V.int .u32 (0),s0,V.int .u32 (0)],[i 0,i 0,i 0,i 0,i 0,s0,s0,V.int .u32 (0),s0,V.int .u32 (0)],[i 0,i 0,i 0,i 0,i 0,s0,s0,V.int .u32 (0),s0,V.int .u32 (0)]],s0,s0,i 10,i 0,i 0,i 0,s0,s0,s0,i 1,i 1,V.sym .i64 ((.bin .add .i64 ((.con (1))) (x 1))) (1) (256) (1) (0),i 0,V.int .u32 (2),f0,i 16,i 0,i 0,i 0]])
def fx8 : List Fact := []
theorem r8 : runF (abi fx8) funs (orP prims (memoP [m4])) 100000 60 78 m8.2.1 = some m8.2.2 := by kernel_rfl
theorem w8 (ρ : Nat → Int) (hF : FactsOK (nf ρ) fx8) : Holds ρ m8 := holds_of (tbl := [m4]) hF ⟨w4 ρ (FactsOK.sub hF (by kernel_rfl)), trivial⟩ r8
def m9 : Entry := (23, [V.agg [i 0,i 10,s0,s0,b1,b0,b0,s0,V.sl [[i 1],[i 1],[i 0],[i 0],[i 0],[i 0],[i 0],[i 0],[i 0],[i 0],[i 0],[i 0]],V.sl [[b1],[b1],[b0],[b0],[b0],[b0],[b0],[b0],[b0],[b0],[b0],[b0]],V.sl [[i 2,i 0,i 1,i 0,i 0,V.sl [[V.sym .i64 (x 0) (-9223372036854775808) (9223372036854775807) (1) (0)]],s0,V.int .u32 (0),s0,V.sym .u32 ((.app 265 [(.con (2)), (.con (0)), (.con (1)), (.con (0)), (.con (0)), (.con (1)), x 0, (.con (0)), (.con (0))])) (0) (4294967295) (1) (0)],[i 3,i 1,i 1,i 0,i 0,s0,s0,V.int .u32 (0),V.sl [[V.sym .i64 ((.bin .add .i64 ((.con (1))) (x 1))) (1) (256) (1) (0),V.int .u32 (2)]],V.sym .u32 ((.app 265 [(.con (3)), (.con (1)), (.con (1)), (.con (0)), (.con (0)), (.con (0)), (.con (0)), (.con (0)), (.bin .add .i64 ((.con (1))) (x 1)), (.con (2))])) (0) (4294967295) (1) (0)],[i 0,i 0,i 0,i 0,i 0,s0,s0,V.int .u32 (0),s0,V.int .u32 (0)],[i 0,i 0,i 0,i 0,i 0,s0,s0,V.int .u32 (0),s0,V.int .u32 (0)],[i 0,i 0,i 0,i 0,i 0,s0,s0,V.int .u32 (0),s0,V.int .u32 (0)],[i 0,i 0,i 0,i 0,i 0,s0,s0,V.int .u32 (0),s0,V.int .u32 (0)],[i 0,i 0,i 0,i 0,i 0,s0,s0,V.int .u32 (0),s0,V.int .u32 (0)],[i 0,i 0,i 0,i 0,i 0,s0,s0,V.int .u32 (0),s0,V.int .u32 (0)],[i 0,i 0,i 0,i 0,i 0,s0,s0,V.int .u32 (0),s0,V.int .u32 (0)],[i 0,i 0,i 0,i 0,i 0,s0,s0,V.int .u32 (0),s0,V.int .u32 (0)],[i 0,i 0,i 0,i 0,i 0,s0,s0,V.int .u32 (0),s0,V.int .u32 (0)],[i 0,i 0,i 0,i 0,i 0,s0,s0,V.int .u32 (0),s0,V.int .u32 (0)]],s0,s0],V.agg [i 4,i 0,i 0,i 0,i 0,s0,s0,s0,i 0,i 0,i 0,i 0,V.int .u32 (0),i 0,i 0]], V.tup [V.agg [i 0,i 10,f0,f0,b1,b0,b0,f0,V.fresh [[i 1],[i 1],[i 0],[i 0],[i 0],[i 0],[i 0],[i 0],[i 0],[i 0],[i 0],[i 0]],V.fresh [[b1],[b1],[b0],[b0],[b0],[b0],[b0],[b0],[b0],[b0],[b0],[b0]],V.fresh [[i 2,i 0,i 1,i 0,i 0,V.sl [[V.sym .i64 (x 0) (-9223372036854775808) (9223372036854775807) (1) (0)]],s0,V.int .u32 (0),s0,V.sym .u32 ((.bin .xor .u32 ((.con (4294967295))) ((.app 265 [(.con (2)), (.con (0)), (.con (1)), (.con (0)), (.con (0)), (.con (1)), x 0, (.con (0)), (.con (0))])))) (0) (4294967295) (1) (0)],[i 3,i 1,i 1,i 0,i 0,s0,s0,V.int .u32 (0),V.sl [[V.sym .i64 ((.bin .add .i64 ((.con (1))) (x 1))) (1) (256) (1) (0),V.int .u32 (2)]],V.sym .u32 ((.app 265 [(.con (3)), (.con (1)), (.con (1)), (.con (0)), (.con (0)), (.con (0)), (.con (0)), (.con (0)), (.bin .add .i64 ((.con (1))) (x 1)), (.con (2))])) (0) (4294967295) (1) (0)],[i 0,i 0,i 0,i 0,i 0,s0,s0,V.int .u32 (0),s0,V.int .u32 (0)],[i 0,i 0,i 0,i 0,i 0,s0,s0,V.int .u32 (0),s0,V.int .u32 (0)],[i 0,i 0,i 0,i 0,i 0,s0,s0,V.int .u32 (0),s0,V.int .u32 (0)],[i 0,i 0,i 0,i 0,i 0,s0,s0,V.int .u32 (0),s0,V.int .u32 (0)],[i 0,i 0,i 0,i 0,i 0,s0,s0,V.int .u32 (0),s0,V.int .u32 (0)],[i 0,i 0,i 0,i 0,i 0,s0,s0,V.int .u32 (0),s0,V.int .u32 (0)],[i 0,i 0,i 0,i 0,i 0,s0,s0,V.int .u32 (0),s0,V.int .u32 (0)],[i 0,i 0,i 0,i 0,i 0,s0,s0,V.int .u32 (0),s0,V.int .u32 (0)],[i 0,i 0,i 0,i 0,i 0,s0,s0,V.int .u32 (0),s0,V.int .u32 (0)],[i 0,i 0,i 0,i 0,i 0,s0,s0,V.int .u32 (0),s0,V.int .u32 (0)]],f0,f0],f0,V.agg [i 0,i 0,i 0,i 0]], [])
def fx9 : List Fact := []
theorem r9 : runF (abi fx9) funs (orP prims (memoP [])) 100000 60 23 m9.2.1 = some m9.2.2 := by kernel_rfl
theorem w9 (ρ : Nat → Int) (hF : FactsOK (nf ρ) fx9) : Holds ρ m9 := holds_of (tbl := []) hF trivial r9
def m10 : Entry := (23, [V.agg [i 0,i 10,s0,s0,b1,b0,b0,s0,V.sl [[i 1],[i 1],[i 0],[i 0],[i 0],[i 0],[i 0],[i 0],[i 0],[i 0],[i 0],[i 0]],V.sl [[b1],[b1],[b0],[b0],[b0],[b0],[b0],[b0],[b0],[b0],[b0],[b0]],V.sl [[i 2,i 0,i 1,i 0,i 0,V.sl [[V.sym .i64 (x 0) (-9223372036854775808) (9223372036854775807) (1) (0)]],s0,V.int .u32 (0),s0,V.sym .u32 ((.bin .xor .u32 ((.con (4294967295))) ((.app 265 [(.con (2)), (.con (0)), (.con (1)), (.con (0)), (.con (0)), (.con (1)), x 0, (.con (0)), (.con (0))])))) (0) (4294967295) (1) (0)],[i 3,i 1,i 1,i 0,i 0,s0,s0,V.int .u32 (0),V.sl [[V.sym .i64 ((.bin .add .i64 ((.con (1))) (x 1))) (1) (256) (1) (0),V.int .u32 (2)]],V.sym .u32 ((.app 265 [(.con (3)), (.con (1)), (.con (1)), (.con (0)), (.con (0)), (.con (0)), (.con (0)), (.con (0)), (.bin .add .i64 ((.con (1))) (x 1)), (.con (2))])) (0) (4294967295) (1) (0)],[i 0,i 0,i 0,i 0,i 0,s0,s0,V.int .u32 (0),s0,V.int .u32 (0)],[i 0,i 0,i 0,i 0,i 0,s0,s0,V.int .u32 (0),s0,V.int .u32 (0)],[i 0,i 0,i 0,i 0,i 0,s0,s0,V.int .u32 (0),s0,V.int .u32 (0)],[i 0,i 0,i 0,i 0,i 0,s0,s0,V.int .u32 (0),s0,V.int .u32 (0)],[i 0,i 0,i 0,i 0,i 0,s0,s0,V.int .u32 (0),s0,V.int .u32 (0)],[i 0,i 0,i 0,i 0,i 0,s0,s0,V.int .u32 (0),s0,V.int .u32 (0)],[i 0,i 0,i 0,i 0,i 0,s0,s0,V.int .u32 (0),s0,V.int .u32 (0)],[i 0,i 0,i 0,i 0,i 0,s0,s0,V.int .u32 (0),s0,V.int .u32 (0)],[i 0,i 0,i 0,i 0,i 0,s0,s0,V.int .u32 (0),s0,V.int .u32 (0)],[i 0,i 0,i 0,i 0,i 0,s0,s0,V.int .u32 (0),s0,V.int .u32 (0)]],s0,s0],V.agg [i 4,i 0,i 0,i 0,i 0,s0,s0,s0,i 0,i 0,i 0,i 0,V.int .u32 (0),i 1,i 0]], V.tup [V.agg [i 0,i 10,f0,f0,b1,b0,b0,f0,V.fresh [[i 1],[i 1],[i 0],[i 0],[i 0],[i 0],[i 0],[i 0],[i 0],[i 0],[i 0],[i 0]],V.fresh [[b1],[b1],[b0],[b0],[b0],[b0],[b0],[b0],[b0],[b0],[b0],[b0]],V.fresh [[i 2,i 0,i 1,i 0,i 0,V.sl [[V.sym .i64 (x 0) (-9223372036854775808) (9223372036854775807) (1) (0)]],s0,V.int .u32 (0),s0,V.sym .u32 ((.bin .xor .u32 ((.con (4294967295))) ((.app 265 [(.con (2)), (.con (0)), (.con (1)), (.con (0)), (.con (0)), (.con (1)), x 0, (.con (0)), (.con (0))])))) (0) (4294967295) (1) (0)],[i 3,i 1,i 1,i 0,i 0,s0,s0,V.int .u32 (0),V.sl [[V.sym .i64 ((.bin .add .i64 ((.con (1))) (x 1))) (1) (256) (1) (0),V.int .u32 (2)]],V.sym .u32 ((.bin .xor .u32 ((.con (4294967295))) ((.app 265 [(.con (3)), (.con (1)), (.con (1)), (.con (0)), (.con (0)), (.con (0)), (.con (0)), (.con (0)), (.bin .add .i64 ((.con (1))) (x 1)), (.con (2))])))) (0) (4294967295) (1) (0)],[i 0,i 0,i 0,i 0,i 0,s0,s0,V.int .u32 (0),s0,V.int .u32 (0)],[i 0,i 0,i 0,i 0,i 0,s0,s0,V.int .u32 (0),s0,V.int .u32 (0)],[i 0,i 0,i 0,i 0,i 0,s0,s0,V.int .u32 (0),s0,V.int .u32 (0)],[i 0,i 0,i 0,i 0,i 0,s0,s0,V.int .u32 (0),s0,V.int .u32 (0)],[i 0,i 0,i 0,i 0,i 0,s0,s0,V.int .u32 (0),s0,V.int .u32 (0)],[i 0,i 0,i 0,i 0,i 0,s0,s0,V.int .u32 (0),s0,V.int .u32 (0)],[i 0,i 0,i 0,i 0,i 0,s0,s0,V.int .u32 (0),s0,V.int .u32 (0)],[i 0,i 0,i 0,i 0,i 0,s0,s0,V.int .u32 (0),s0,V.int .u32 (0)],[i 0,i 0,i 0,i 0,i 0,s0,s0,V.int .u32 (0),s0,V.int .u32 (0)],[i 0,i 0,i 0,i 0,i 0,s0,s0,V.int .u32 (0),s0,V.int .u32 (0)]],f0,f0],f0,V.agg [i 0,i 0,i 0,i 0]], [])
def fx10 : List Fact := []
theorem r10 : runF (abi fx10) funs (orP prims (memoP [])) 100000 60 23 m10.2.1 = some m10.2.2 := by kernel_rfl
theorem w10 (ρ : Nat → Int) (hF : FactsOK (nf ρ) fx10) : Holds ρ m10 := holds_of (tbl := []) hF trivial r10
def m11 : Entry := (141, [V.agg [V.sl [[i 1],[i 1],[i 0],[i 0],[i 0],[i 0],[i 0],[i 0],[i 0],[i 0],[i 0],[i 0]],V.sl [[b1],[b1],[b0],[b0],[b0],[b0],[b0],[b0],[b0],[b0],[b0],[b0]],V.sl [[i 2,i 0,i 1,i 0,i 0,V.sl [[V.sym .i64 (x 0) (-9223372036854775808) (9223372036854775807) (1) (0)]],s0,V.int .u32 (0),s0,V.sym .u32 ((.bin .xor .u32 ((.con (4294967295))) ((.app 265 [(.con (2)), (.con (0)), (.con (1)), (.con (0)), (.con (0)), (.con (1)), x 0, (.con (0)), (.con (0))])))) (0) (4294967295) (1) (0)],[i 3,i 1,i 1,i 0,i 0,s0,s0,V.int .u32 (0),V.sl [[V.sym .i64 ((.bin .add .i64 ((.con (1))) (x 1))) (1) (256) (1) (0),V.int .u32 (2)]],V.sym .u32 ((.bin .xor .u32 ((.con (4294967295))) ((.app 265 [(.con (3)), (.con (1)), (.con (1)), (.con (0)), (.con (0)), (.con (0)), (.con (0)), (.con (0)), (.bin .add .i64 ((.con (1))) (x 1)), (.con (2))])))) (0) (4294967295) (1) (0)],[i 0,i 0,i 0,i 0,i 0,s0,s0,V.int .u32 (0),s0,V.int .u32 (0)],[i 0,i 0,i 0,i 0,i 0,s0,s0,V.int .u32 (0),s0,V.int .u32 (0)],[i 0,i 0,i 0,i 0,i 0,s0,s0,V.int .u32 (0),s0,V.int .u32 (0)],[i 0,i 0,i 0,i 0,i 0,s0,s0,V.int .u32 (0),s0,V.int .u32 (0)],[i 0,i 0,i 0,i 0,i 0,s0,s0,V.int .u32 (0),s0,V.int .u32 (0)],[i 0,i 0,i 0,i 0,i 0,s0,s0,V.int .u32 (0),s0,V.int .u32 (0)],[i 0,i 0,i 0,i 0,i 0,s0,s0,V.int .u32 (0),s0,V.int .u32 (0)],[i 0,i 0,i 0,i 0,i 0,s0,s0,V.int .u32 (0),s0,V.int .u32 (0)],[i 0,i 0,i 0,i 0,i 0,s0,s0,V.int .u32 (0),s0,V.int .u32 (0)],[i 0,i 0,i 0,i 0,i 0,s0,s0,V.int .u32 (0),s0,V.int .u32 (0)]]]], V.tup [V.agg [V.fresh [[i 1],[i 1],[i 0],[i 0],[i 0],[i 0],[i 0],[i 0],[i 0],[i 0],[i 0],[i 0]],V.fresh [[b1],[b1],[b0],[b0],[b0],[b0],[b0],[b0],[b0],[b0],[b0],[b0]],V.fresh [[i 2,i 0,i 1,i 0,i 0,s0,s0,V.int .u32 (0),s0,V.int .u32 (2434569669)],[i 3,i 1,i 1,i 0,i 0,s0,s0,V.int .u32 (0),s0,V.int .u32 (2568263109)],[i 0,i 0,i 0,i 0,i 0,s0,s0,V.int .u32 (0),s0,V.int .u32 (0)],[i 0,i 0,i 0,i 0,i 0,s0,s0,V.int .u32 (0),s0,V.int .u32 (0)],[i 0,i 0,i 0,i 0,i 0,s0,s0,V.int .u32 (0),s0,V.int .u32 (0)],[i 0,i 0,i 0,i 0,i 0,s0,s0,V.int .u32 (0),s0,V.int .u32 (0)],[i 0,i 0,i 0,i 0,i 0,s0,s0,V.int .u32 (0),s0,V.int .u32 (0)],[i 0,i 0,i 0,i 0,i 0,s0,s0,V.int .u32 (0),s0,V.int .u32 (0)],[i 0,i 0,i 0,i 0,i 0,s0,s0,V.int .u32 (0),s0,V.int .u32 (0)],[i 0,i 0,i 0,i 0,i 0,s0,s0,V.int .u32 (0),s0,V.int .u32 (0)],[i 0,i 0,i 0,i 0,i 0,s0,s0,V.int .u32 (0),s0,V.int .u32 (0)],[i 0,i 0,i 0,i 0,i 0,s0,s0,V.int .u32 (0),s0,V.int .u32 (0)]]],V.fresh [[i 0],[i 1]],V.fresh [[s0],[V.sl [[V.sym .i64 ((.bin .add .i64 ((.con (1))) (x 1))) (1) (256) (1) (0)]]]]], [])
def fx11 : List Fact := []
theorem r11 : runF (abi fx11) funs (orP prims (memoP [m2, m4])) 100000 60 141 m11.2.1 = some m11.2.2 := by kernel_rfl
theorem w11 (ρ : Nat → Int) (hF : FactsOK (nf ρ) fx11) : Holds ρ m11 := holds_of (tbl := [m2, m4]) hF ⟨w2 ρ (FactsOK.sub hF (by kernel_rfl)), ⟨w4 ρ (FactsOK.sub hF (by kernel_rfl)), trivial⟩⟩ r11
def m12 : Entry := (45, [V.agg [i 0,i 10,s0,s0,b1,b0,b0,s0,V.sl [[i 1],[i 1],[i 0],[i 0],[i 0],[i 0],[i 0],[i 0],[i 0],[i 0],[i 0],[i 0]],V.sl [[b1],[b1],[b0],[b0],[b0],[b0],[b0],[b0],[b0],[b0],[b0],[b0]],V.sl [[i 2,i 0,i 1,i 0,i 0,V.sl [[V.sym .i64 (x 0) (-9223372036854775808) (9223372036854775807) (1) (0)]],s0,V.int .u32 (0),s0,V.sym .u32 ((.bin .xor .u32 ((.con (4294967295))) ((.app 265 [(.con (2)), (.con (0)), (.con (1)), (.con (0)), (.con (0)), (.con (1)), x 0, (.con (0)), (.con (0))])))) (0) (4294967295) (1) (0)],[i 3,i 1,i 1,i 0,i 0,s0,s0,V.int .u32 (0),V.sl [[V.sym .i64 ((.bin .add .i64 ((.con (1))) (x 1))) (1) (256) (1) (0),V.int .u32 (2)]],V.sym .u32 ((.bin .xor .u32 ((.con (4294967295))) ((.app 265 [(.con (3)), (.con (1)), (.con (1)), (.con (0)), (.con (0)), (.con (0)), (.con (0)), (.con (0)), (.bin .add .i64 ((.con (1))) (x 1)), (.con (2))])))) (0) (4294967295) (1) (0)],[i 0,i 0,i 0,i 0,i 0,s0,s0,V.int .u32 (0),s0,V.int .u32 (0)],[i 0,i 0,i 0,i 0,i 0,s0,s0,V.int .u32 (0),s0,V.int .u32 (0)],[i 0,i 0,i 0,i 0,i 0,s0,s0,V.int .u32 (0),s0,V.int .u32 (0)],[i 0,i 0,i 0,i 0,i 0,s0,s0,V.int .u32 (0),s0,V.int .u32 (0)],[i 0,i 0,i 0,i 0,i 0,s0,s0,V.int .u32 (0),s0,V.int .u32 (0)],[i 0,i 0,i 0,i 0,i 0,s0,s0,V.int .u32 (0),s0,V.int .u32 (0)],[i 0,i 0,i 0,i 0,i 0,s0,s0,V.int .u32 (0),s0,V.int .u32 (0)],[i 0,i 0,i 0,i 0,i 0,s0,s0,V.int .u32 (0),s0,V.int .u32 (0)],[i 0,i 0,i 0,i 0,i 0,s0,s0,V.int .u32 (0),s0,V.int .u32 (0)],[i 0,i 0,i 0,i 0,i 0,s0,s0,V.int .u32 (0),s0,V.int .u32 (0)]],s0,s0]], V.tup [V.agg [i 1,i 10,f0,f0,b1,b0,b0,f0,V.fresh [[i 1],[i 1],[i 0],[i 0],[i 0],[i 0],[i 0],[i 0],[i 0],[i 0],[i 0],[i 0]],V.fresh [[b1],[b1],[b0],[b0],[b0],[b0],[b0],[b0],[b0],[b0],[b0],[b0]],V.fresh [[i 2,i 0,i 1,i 0,i 0,s0,s0,V.int .u32 (0),s0,V.int .u32 (2434569669)],[i 3,i 1,i 1,i 0,i 0,s0,s0,V.int .u32 (0),s0,V.int .u32 (2568263109)],[i 0,i 0,i 0,i 0,i 0,s0,s0,V.int .u32 (0),s0,V.int .u32 (0)],[i 0,i 0,i 0,i 0,i 0,s0,s0,V.int .u32 (0),s0,V.int .u32 (0)],[i 0,i 0,i 0,i 0,i 0,s0,s0,V.int .u32 (0),s0,V.int .u32 (0)],[i 0,i 0,i 0,i 0,i 0,s0,s0,V.int .u32 (0),s0,V.int .u32 (0)],[i 0,i 0,i 0,i 0,i 0,s0,s0,V.int .u32 (0),s0,V.int .u32 (0)],[i 0,i 0,i 0,i 0,i 0,s0,s0,V.int .u32 (0),s0,V.int .u32 (0)],[i 0,i 0,i 0,i 0,i 0,s0,s0,V.int .u32 (0),s0,V.int .u32 (0)],[i 0,i 0,i 0,i 0,i 0,s0,s0,V.int .u32 (0),s0,V.int .u32 (0)],[i 0,i 0,i 0,i 0,i 0,s0,s0,V.int .u32 (0),s0,V.int .u32 (0)],[i 0,i 0,i 0,i 0,i 0,s0,s0,V.int .u32 (0),s0,V.int .u32 (0)]],f0,f0],V.fresh [[i 0,i 11,i 0,i 0,i 0,i 0],[i 0,i 11,i 0,i 1,i 0,i 0],[i 0,i 12,i 0,V.sym .i64 ((.bin .add .i64 ((.con (1))) (x 1))) (1) (256) (1) (0),i 0,i 15]]], [])
def fx12 : List Fact := []
theorem r12 : runF (abi fx12) funs (orP prims (memoP [m11])) 100000 60 45 m12.2.1 = some m12.2.2 := by kernel_rfl
theorem w12 (ρ : Nat → Int) (hF : FactsOK (nf ρ) fx12) : Holds ρ m12 := holds_of (tbl := [m11]) hF ⟨w11 ρ (FactsOK.sub hF (by kernel_rfl)), trivial⟩ r12
def m13 : Entry := (76, [V.pbox [i 1,i 10,s0,s0,b1,b0,b0,s0,V.sl [[i 1],[i 1],[i 0],[i 0],[i 0],[i 0],[i 0],[i 0],[i 0],[i 0],[i 0],[i 0]],V.sl [[b1],[b1],[b0],[b0],[b0],[b0],[b0],[b0],[b0],[b0],[b0],[b0]],V.sl [[i 2,i 0,i 1,i 0,i 0,s0,s0,V.int .u32 (0),s0,V.int .u32 (2434569669)],[i 3,i 1,i 1,i 0,i 0,s0,s0,V.int .u32 (0),s0,V.int .u32 (2568263109)],[i 0,i 0,i 0,i 0,i 0,s0,s0,V.int .u32 (0),s0,V.int .u32 (0)],[i 0,i 0,i 0,i 0,i 0,s0,s0,V.int .u32 (0),s0,V.int .u32 (0)],[i 0,i 0,i 0,i 0,i 0,s0,s0,V.int .u32 (0),s0,V.int .u32 (0)],[i 0,i 0,i 0,i 0,i 0,s0,s0,V.int .u32 (0),s0,V.int .u32 (0)],[i 0,i 0,i 0,i 0,i 0,s0,s0,V.int .u32 (0),s0,V.int .u32 (0)],[i 0,i 0,i 0,i 0,i 0,s0,s0,V.int .u32 (0),s0,V.int .u32 (0)],[i 0,i 0,i 0,i 0,i 0,s0,s0,V.int .u32 (0),s0,V.int .u32 (0)],[i 0,i 0,i 0,i 0,i 0,s0,s0,V.int .u32 (0),s0,V.int .u32 (0)],[i 0,i 0,i 0,i 0,i 0,s0,s0,V.int .u32 (0),s0,V.int .u32 (0)],[i 0,i 0,i 0,i 0,i 0,s0,s0,V.int .u32 (0),s0,V.int .u32 (0)]],s0,s0,i 8,i 0,i 0,i 0,s0,s0,s0,i 0,i 1,V.sym .i64 ((.bin .add .i64 ((.con (1))) (x 1))) (1) (256) (1) (0),i 0,V.int .u32 (0),f0,i 0,i 0,i 0,i 0] 0], V.tup [], [[i 1,i 10,s0,s0,b1,b0,b0,s0,V.fresh [[i 1],[i 1],[i 0],[i 0],[i 0],[i 0],[i 0],[i 0],[i 0],[i 0],[i 0],[i 0]],V.fresh [[b1],[b1],[b0],[b0],[b0],[b0],[b0],[b0],[b0],[b0],[b0],[b0]],V.fresh [[i 2,i 0,i 1,i 0,i 0,s0,V.sl [[V.sym .i64 ((.bin .add .i64 ((.con (1))) (x 1))) (1) (256) (1) (0)]],V.int .u32 (0),s0,V.sym .u32 ((.app 265 [(.con (2)), (.con (0)), (.con (1)), (.con (0)), (.con (0)), (.con (0)), (.con (1)), (.bin .add .i64 ((.con (1))) (x 1)), (.con (0))])) (0) (4294967295) (1) (0)],[i 3,i 1,i 1,i 0,i 0,s0,s0,V.int .u32 (0),s0,V.int .u32 (2568263109)],[i 0,i 0,i 0,i 0,i 0,s0,s0,V.int .u32 (0),s0,V.int .u32 (0)],[i 0,i 0,i 0,i 0,i 0,s0,s0,V.int .u32 (0),s0,V.int .u32 (0)],[i 0,i 0,i 0,i 0,i 0,s0,s0,V.int .u32 (0),s0,V.int .u32 (0)],[i 0,i 0,i 0,i 0,i 0,s0,s0,V.int .u32 (0),s0,V.int .u32 (0)],[i 0,i 0,i 0,i 0,i 0,s0,s0,V.int .u32 (0),s0,V.int .u32 (0)],[i 0,i 0,i 0,i 0,i 0,s0,s0,V.int .u32 (0),s0,V.int .u32 (0)],[i 0,i 0,i 0,i 0,i 0,s0,s0,V.int .u32 (0),s0,V.int .u32 (0)],[i 0,i 0,i 0,i 0,i 0,s0,s0,V.int .u32 (0),s0,V.int .u32 (0)],[i 0,i 0,i 0,i 0,i 0,s0,s0,V.int .u32 (0),s0,V.int .u32 (0)],[i 0,i 0,i 0,i 0,i 0,s0,s0,V.int .u32 (0),s0,V.int .u32 (0)]],s0,s0,i 8,i 0,i 0,i 0,s0,s0,s0,i 0,i 1,V.sym .i64 ((.bin .add .i64 ((.con (1))) (x 1))) (1) (256) (1) (0),i 0,V.int .u32 (0),f0,i 16,i 0,i 0,i 0]])
def fx13 : List Fact := []
theorem r13 : runF (abi fx13) funs (orP prims (memoP [m2])) 100000 60 76 m13.2.1 = some m13.2.2 := by kernel_rfl
theorem w13 (ρ : Nat → Int) (hF : FactsOK (nf ρ) fx13) : Holds ρ m13 := holds_of (tbl := [m2]) hF ⟨w2 ρ (FactsOK.sub hF (by kernel_rfl)), trivial⟩ r13
def m14 : Entry := (265, [V.sl [[i 3],[i 1],[i 1],[i 0],[i 0],[i 0],[i 0],[i 2]]], V.int .u32 (2568263125), [])
def fx14 : List Fact := []
theorem r14 : runF (abi fx14) funs (orP prims (memoP [])) 100000 60 265 m14.2.1 = some m14.2.2 := by kernel_rfl
theorem w14 (ρ : Nat → Int) (hF : FactsOK (nf ρ) fx14) : Holds ρ m14 := holds_of (tbl := []) hF trivial r14
def m15 : Entry := (77, [V.pbox [i 1,i 10,s0,s0,b1,b0,b0,s0,V.sl [[i 1],[i 1],[i 0],[i 0],[i 0],[i 0],[i 0],[i 0],[i 0],[i 0],[i 0],[i 0]],V.sl [[b1],[b1],[b0],[b0],[b0],[b0],[b0],[b0],[b0],[b0],[b0],[b0]],V.sl [[i 2,i 0,i 1,i 0,i 0,s0,V.sl [[V.sym .i64 ((.bin .add .i64 ((.con (1))) (x 1))) (1) (256) (1) (0)]],V.int .u32 (0),s0,V.sym .u32 ((.app 265 [(.con (2)), (.con (0)), (.con (1)), (.con (0)), (.con (0)), (.con (0)), (.con (1)), (.bin .add .i64 ((.con (1))) (x 1)), (.con (0))])) (0) (4294967295) (1) (0)],[i 3,i 1,i 1,i 0,i 0,s0,s0,V.int .u32 (0),s0,V.int .u32 (2568263109)],[i 0,i 0,i 0,i 0,i 0,s0,s0,V.int .u32 (0),s0,V.int .u32 (0)],[i 0,i 0,i 0,i 0,i 0,s0,s0,V.int .u32 (0),s0,V.int .u32 (0)],[i 0,i 0,i 0,i 0,i 0,s0,s0,V.int .u32 (0),s0,V.int .u32 (0)],[i 0,i 0,i 0,i 0,i 0,s0,s0,V.int .u32 (0),s0,V.int .u32 (0)],[i 0,i 0,i 0,i 0,i 0,s0,s0,V.int .u32 (0),s0,V.int .u32 (0)],[i 0,i 0,i 0,i 0,i 0,s0,s0,V.int .u32 (0),s0,V.int .u32 (0)],[i 0,i 0,i 0,i 0,i 0,s0,s0,V.int .u32 (0),s0,V.int .u32 (0)],[i 0,i 0,i 0,i 0,i 0,s0,s0,V.int .u32 (0),s0,V.int .u32 (0)],[i 0,i 0,i 0,i 0,i 0,s0,s0,V.int .u32 (0),s0,V.int .u32 (0)],[i 0,i 0,i 0,i 0,i 0,s0,s0,V.int .u32 (0),s0,V.int .u32 (0)]],s0,s0,i 9,i 0,i 0,i 0,s0,s0,s0,i 1,i 1,i 0,i 0,V.int .u32 (2),f0,i 0,i 0,i 0,i 0] 0], V.tup [], [[i 1,i 10,s0,s0,b1,b0,b0,s0,V.fresh [[i 1],[i 1],[i 0],[i 0],[i 0],[i 0],[i 0],[i 0],[i 0],[i 0],[i 0],[i 0]],V.fresh [[b1],[b1],[b0],[b0],[b0],[b0],[b0],[b0],[b0],[b0],[b0],[b0]],V.fresh [[i 2,i 0,i 1,i 0,i 0,s0,V.sl [[V.sym .i64 ((.bin .add .i64 ((.con (1))) (x 1))) (1) (256) (1) (0)]],V.int .u32 (0),s0,V.sym .u32 ((.app 265 [(.con (2)), (.con (0)), (.con (1)), (.con (0)), (.con (0)), (.con (0)), (.con (1)), (.bin .add .i64 ((.con (1))) (x 1)), (.con (0))])) (0) (4294967295) (1) (0)],[i 3,i 1,i 1,i 0,i 0,s0,s0,V.int .u32 (2),s0,V.int .u32 (2568263125)],[i 0,i 0,i 0,i 0,i 0,s0,s0,V.int .u32 (0),s0,V.int .u32 (0)],[i 0,i 0,i 0,i 0,i 0,s0,s0,V.int .u32 (0),s0,V.int .u32 (0)],[i 0,i 0,i 0,i 0,i 0,s0,s0,V.int .u32 (0),s0,V.int .u32 (0)],[i 0,i 0,i 0,i 0,i 0,s0,s0,V.int .u32 (0),s0,V.int .u32 (0)],[i 0,i 0,i 0,i 0,i 0,s0,s0,V.int .u32 (0),s0,V.int .u32 (0)],[i 0,i 0,i 0,i 0,i 0,s0,s0,V.int .u32 (0),s0,V.int .u32 (0)],[i 0,i 0,i 0,i 0,i 0,s0,s0,V.int .u32 (0),s0,V.int .u32 (0)],[i 0,i 0,i 0,i 0,i 0,s0,s0,V.int .u32 (0),s0,V.int .u32 (0)],[i 0,i 0,i 0,i 0,i 0,s0,s0,V.int .u32 (0),s0,V.int .u32 (0)],[i 0,i 0,i 0,i 0,i 0,s0,s0,V.int .u32 (0),s0,V.int .u32 (0)]],s0,s0,i 9,i 0,i 0,i 0,s0,s0,s0,i 1,i 1,i 0,i 0,V.int .u32 (2),f0,i 0,i 0,i 0,i 0]])
def fx15 : List Fact := []
theorem r15 : runF (abi fx15) funs (orP prims (memoP [m14, m4])) 100000 60 77 m15.2.1 = some m15.2.2 := by kernel_rfl
theorem w15 (ρ : Nat → Int) (hF : FactsOK (nf ρ) fx15) : Holds ρ m15 := holds_of (tbl := [m14, m4]) hF ⟨w14 ρ (FactsOK.sub hF (by kernel_rfl)), ⟨w4 ρ (FactsOK.sub hF (by kernel_rfl)), trivial⟩⟩ r15
def m16 : Entry := (141, [V.agg [V.sl [[i 1],[i 1],[i 0],[i 0],[i 0],[i 0],[i 0],[i 0],[i 0],[i 0],[i 0],[i 0]],V.sl [[b1],[b1],[b0],[b0],[b0],[b0],[b0],[b0],[b0],[b0],[b0],[b0]],V.sl [[i 2,i 0,i 1,i 0,i 0,s0,V.sl [[V.sym .i64 ((.bin .add .i64 ((.con (1))) (x 1))) (1) (256) (1) (0)]],V.int .u32 (0),s0,V.sym .u32 ((.app 265 [(.con (2)), (.con (0)), (.con (1)), (.con (0)), (.con (0)), (.con (0)), (.con (1)), (.bin .add .i64 ((.con (1))) (x 1)), (.con (0))])) (0) (4294967295) (1) (0)],[i 3,i 1,i 1,i 0,i 0,s0,s0,V.int .u32 (0),s0,V.int .u32 (2568263109)],[i 0,i 0,i 0,i 0,i 0,s0,s0,V.int .u32 (0),s0,V.int .u32 (0)],[i 0,i 0,i 0,i 0,i 0,s0,s0,V.int .u32 (0),s0,V.int .u32 (0)],[i 0,i 0,i 0,i 0,i 0,s0,s0,V.int .u32 (0),s0,V.int .u32 (0)],[i 0,i 0,i 0,i 0,i 0,s0,s0,V.int .u32 (0),s0,V.int .u32 (0)],[i 0,i 0,i 0,i 0,i 0,s0,s0,V.int .u32 (0),s0,V.int .u32 (0)],[i 0,i 0,i 0,i 0,i 0,s0,s0,V.int .u32 (0),s0,V.int .u32 (0)],[i 0,i 0,i 0,i 0,i 0,s0,s0,V.int .u32 (0),s0,V.int .u32 (0)],[i 0,i 0,i 0,i 0,i 0,s0,s0,V.int .u32 (0),s0,V.int .u32 (0)],[i 0,i 0,i 0,i 0,i 0,s0,s0,V.int .u32 (0),s0,V.int .u32 (0)],[i 0,i 0,i 0,i 0,i 0,s0,s0,V.int .u32 (0),s0,V.int .u32 (0)]]]], V.tup [V.agg [V.fresh [[i 1],[i 1],[i 0],[i 0],[i 0],[i 0],[i 0],[i 0],[i 0],[i 0],[i 0],[i 0]],V.fresh [[b1],[b1],[b0],[b0],[b0],[b0],[b0],[b0],[b0],[b0],[b0],[b0]],V.fresh [[i 2,i 0,i 1,i 0,i 0,s0,V.sl [[V.sym .i64 ((.bin .add .i64 ((.con (1))) (x 1))) (1) (256) (1) (0)]],V.int .u32 (0),s0,V.sym .u32 ((.app 265 [(.con (2)), (.con (0)), (.con (1)), (.con (0)), (.con (0)), (.con (0)), (.con (1)), (.bin .add .i64 ((.con (1))) (x 1)), (.con (0))])) (0) (4294967295) (1) (0)],[i 3,i 1,i 1,i 0,i 0,s0,s0,V.int .u32 (0),s0,V.int .u32 (2568263109)],[i 0,i 0,i 0,i 0,i 0,s0,s0,V.int .u32 (0),s0,V.int .u32 (0)],[i 0,i 0,i 0,i 0,i 0,s0,s0,V.int .u32 (0),s0,V.int .u32 (0)],[i 0,i 0,i 0,i 0,i 0,s0,s0,V.int .u32 (0),s0,V.int .u32 (0)],[i 0,i 0,i 0,i 0,i 0,s0,s0,V.int .u32 (0),s0,V.int .u32 (0)],[i 0,i 0,i 0,i 0,i 0,s0,s0,V.int .u32 (0),s0,V.int .u32 (0)],[i 0,i 0,i 0,i 0,i 0,s0,s0,V.int .u32 (0),s0,V.int .u32 (0)],[i 0,i 0,i 0,i 0,i 0,s0,s0,V.int .u32 (0),s0,V.int .u32 (0)],[i 0,i 0,i 0,i 0,i 0,s0,s0,V.int .u32 (0),s0,V.int .u32 (0)],[i 0,i 0,i 0,i 0,i 0,s0,s0,V.int .u32 (0),s0,V.int .u32 (0)],[i 0,i 0,i 0,i 0,i 0,s0,s0,V.int .u32 (0),s0,V.int .u32 (0)]]],f0,f0], [])
def fx16 : List Fact := []
theorem r16 : runF (abi fx16) funs (orP prims (memoP [m4])) 100000 60 141 m16.2.1 = some m16.2.2 := by kernel_rfl
theorem w16 (ρ : Nat → Int) (hF : FactsOK (nf ρ) fx16) : Holds ρ m16 := holds_of (tbl := [m4]) hF ⟨w4 ρ (FactsOK.sub hF (by kernel_rfl)), trivial⟩ r16
def m17 : Entry := (1016, [V.sym .i64 (x 0) (-9223372036854775808) (9223372036854775807) (1) (0),V.sym .u8 (x 1) (0) (255) (1) (0),V.sym .u8 (x 2) (0) (255) (2) (0)], b1, [])
def fx17 : List Fact := []
theorem r17 : runF (abi fx17) funs (orP prims (memoP [m1, m3, m5, m6, m7, m8, m9, m10, m12, m13, m15, m16])) 100000 60 1016 m17.2.1 = some m17.2.2 := by kernel_rfl
theorem w17 (ρ : Nat → Int) (hF : FactsOK (nf ρ) fx17) : Holds ρ m17 := holds_of (tbl := [m1, m3, m5, m6, m7, m8, m9, m10, m12, m13, m15, m16]) hF ⟨w1 ρ (FactsOK.sub hF (by kernel_rfl)), ⟨w3 ρ (FactsOK.sub hF (by kernel_rfl)), ⟨w5 ρ (FactsOK.sub hF (by kernel_rfl)), ⟨w6 ρ (FactsOK.sub hF (by kernel_rfl)), ⟨w7 ρ (FactsOK.sub hF (by kernel_rfl)), ⟨w8 ρ (FactsOK.sub hF (by kernel_rfl)), ⟨w9 ρ (FactsOK.sub hF (by kernel_rfl)), ⟨w10 ρ (FactsOK.sub hF (by kernel_rfl)), ⟨w12 ρ (FactsOK.sub hF (by kernel_rfl)), ⟨w13 ρ (FactsOK.sub hF (by kernel_rfl)), ⟨w15 ρ (FactsOK.sub hF (by kernel_rfl)), ⟨w16 ρ (FactsOK.sub hF (by kernel_rfl)), trivial⟩⟩⟩⟩⟩⟩⟩⟩⟩⟩⟩⟩ r17
def m18 : Entry := (75, [V.pbox [i 0,i 10,s0,s0,b1,b0,b0,s0,V.sl [[i 1],[i 1],[i 0],[i 0],[i 0],[i 0],[i 0],[i 0],[i 0],[i 0],[i 0],[i 0]],V.sl [[b1],[b1],[b0],[b0],[b0],[b0],[b0],[b0],[b0],[b0],[b0],[b0]],V.sl [[i 2,i 0,i 1,i 0,i 0,V.sl [[V.sym .i64 (x 0) (-9223372036854775808) (9223372036854775807) (1) (0)]],s0,V.int .u32 (0),s0,V.sym .u32 ((.bin .xor .u32 ((.con (4294967295))) ((.app 265 [(.con (2)), (.con (0)), (.con (1)), (.con (0)), (.con (0)), (.con (1)), x 0, (.con (0)), (.con (0))])))) (0) (4294967295) (1) (0)],[i 3,i 1,i 1,i 0,i 0,s0,s0,V.int .u32 (0),V.sl [[V.sym .i64 ((.bin .add .i64 ((.con (1))) (x 1))) (1) (256) (1) (0),V.int .u32 (2)]],V.sym .u32 ((.bin .xor .u32 ((.con (4294967295))) ((.app 265 [(.con (3)), (.con (1)), (.con (1)), (.con (0)), (.con (0)), (.con (0)), (.con (0)), (.con (0)), (.bin .add .i64 ((.con (1))) (x 1)), (.con (2))])))) (0) (4294967295) (1) (0)],[i 0,i 0,i 0,i 0,i 0,s0,s0,V.int .u32 (0),s0,V.int .u32 (0)],[i 0,i 0,i 0,i 0,i 0,s0,s0,V.int .u32 (0),s0,V.int .u32 (0)],[i 0,i 0,i 0,i 0,i 0,s0,s0,V.int .u32 (0),s0,V.int .u32 (0)],[i 0,i 0,i 0,i 0,i 0,s0,s0,V.int .u32 (0),s0,V.int .u32 (0)],[i 0,i 0,i 0,i 0,i 0,s0,s0,V.int .u32 (0),s0,V.int .u32 (0)],[i 0,i 0,i 0,i 0,i 0,s0,s0,V.int .u32 (0),s0,V.int .u32 (0)],[i 0,i 0,i 0,i 0,i 0,s0,s0,V.int .u32 (0),s0,V.int .u32 (0)],[i 0,i 0,i 0,i 0,i 0,s0,s0,V.int .u32 (0),s0,V.int .u32 (0)],[i 0,i 0,i 0,i 0,i 0,s0,s0,V.int .u32 (0),s0,V.int .u32 (0)],[i 0,i 0,i 0,i 0,i 0,s0,s0,V.int .u32 (0),s0,V.int .u32 (0)]],s0,s0,i 7,i 0,i 0,i 0,s0,s0,s0,i 0,i 1,i 0,i 8,V.int .u32 (0),f0,i 0,i 0,i 0,i 0] 0], V.tup [], [[i 0,i 10,s0,s0,b1,b0,b0,s0,V.fresh [[i 1],[i 1],[i 0],[i 0],[i 0],[i 0],[i 0],[i 0],[i 0],[i 0],[i 0],[i 0]],V.fresh [[b1],[b1],[b0],[b0],[b0],[b0],[b0],[b0],[b0],[b0],[b0],[b0]],V.fresh [[i 2,i 0,i 1,i 0,i 0,V.sl [[V.sym .i64 (x 0) (-9223372036854775808) (9223372036854775807) (1) (0)],[i 8]],s0,V.int .u32 (0),s0,V.sym .u32 ((.bin .xor .u32 ((.con (4294967295))) ((.app 265 [(.con (2)), (.con (0)), (.con (1)), (.con (0)), (.con (0)), (.con (2)), x 0, (.con (8)), (.con (0)), (.con (0))])))) (0) (4294967295) (1) (0)],[i 3,i 1,i 1,i 0,i 0,s0,s0,V.int .u32 (0),V.sl [[V.sym .i64 ((.bin .add .i64 ((.con (1))) (x 1))) (1) (256) (1) (0),V.int .u32 (2)]],V.sym .u32 ((.bin .xor .u32 ((.con (4294967295))) ((.app 265 [(.con (3)), (.con (1)), (.con (1)), (.con (0)), (.con (0)), (.con (0)), (.con (0)), (.con (0)), (.bin .add .i64 ((.con (1))) (x 1)), (.con (2))])))) (0) (4294967295) (1) (0)],[i 0,i 0,i 0,i 0,i 0,s0,s0,V.int .u32 (0),s0,V.int .u32 (0)],[i 0,i 0,i 0,i 0,i 0,s0,s0,V.int .u32 (0),s0,V.int .u32 (0)],[i 0,i 0,i 0,i 0,i 0,s0,s0,V.int .u32 (0),s0,V.int .u32 (0)],[i 0,i 0,i 0,i 0,i 0,s0,s0,V.int .u32 (0),s0,V.int .u32 (0)],[i 0,i 0,i 0,i 0,i 0,s0,s0,V.int .u32 (0),s0,V.int .u32 (0)],[i 0,i 0,i 0,i 0,i 0,s0,s0,V.int .u32 (0),s0,V.int .u32 (0)],[i 0,i 0,i 0,i 0,i 0,s0,s0,V.int .u32 (0),s0,V.int .u32 (0)],[i 0,i 0,i 0,i 0,i 0,s0,s0,V.int .u32 (0),s0,V.int .u32 (0)],[i 0,i 0,i 0,i 0,i 0,s0,s0,V.int .u32 (0),s0,V.int .u32 (0)],[i 0,i 0,i 0,i 0,i 0,s0,s0,V.int .u32 (0),s0,V.int .u32 (0)]],s0,s0,i 7,i 0,i 0,i 0,s0,s0,s0,i 0,i 1,i 0,i 8,V.int .u32 (0),f0,i 0,i 0,i 0,i 0]])
def fx18 : List Fact := []
theorem r18 : runF (abi fx18) funs (orP prims (memoP [])) 100000 60 75 m18.2.1 = some m18.2.2 := by kernel_rfl
theorem w18 (ρ : Nat → Int) (hF : FactsOK (nf ρ) fx18) : Holds ρ m18 := holds_of (tbl := []) hF trivial r18
def m19 : Entry := (141, [V.agg [V.sl [[i 1],[i 1],[i 0],[i 0],[i 0],[i 0],[i 0],[i 0],[i 0],[i 0],[i 0],[i 0]],V.sl [[b1],[b1],[b0],[b0],[b0],[b0],[b0],[b0],[b0],[b0],[b0],[b0]],V.sl [[i 2,i 0,i 1,i 0,i 0,V.sl [[V.sym .i64 (x 0) (-9223372036854775808) (9223372036854775807) (1) (0)],[i 8]],s0,V.int .u32 (0),s0,V.sym .u32 ((.bin .xor .u32 ((.con (4294967295))) ((.app 265 [(.con (2)), (.con (0)), (.con (1)), (.con (0)), (.con (0)), (.con (2)), x 0, (.con (8)), (.con (0)), (.con (0))])))) (0) (4294967295) (1) (0)],[i 3,i 1,i 1,i 0,i 0,s0,s0,V.int .u32 (0),V.sl [[V.sym .i64 ((.bin .add .i64 ((.con (1))) (x 1))) (1) (256) (1) (0),V.int .u32 (2)]],V.sym .u32 ((.bin .xor .u32 ((.con (4294967295))) ((.app 265 [(.con (3)), (.con (1)), (.con (1)), (.con (0)), (.con (0)), (.con (0)), (.con (0)), (.con (0)), (.bin .add .i64 ((.con (1))) (x 1)), (.con (2))])))) (0) (4294967295) (1) (0)],[i 0,i 0,i 0,i 0,i 0,s0,s0,V.int .u32 (0),s0,V.int .u32 (0)],[i 0,i 0,i 0,i 0,i 0,s0,s0,V.int .u32 (0),s0,V.int .u32 (0)],[i 0,i 0,i 0,i 0,i 0,s0,s0,V.int .u32 (0),s0,V.int .u32 (0)],[i 0,i 0,i 0,i 0,i 0,s0,s0,V.int .u32 (0),s0,V.int .u32 (0)],[i 0,i 0,i 0,i 0,i 0,s0,s0,V.int .u32 (0),s0,V.int .u32 (0)],[i 0,i 0,i 0,i 0,i 0,s0,s0,V.int .u32 (0),s0,V.int .u32 (0)],[i 0,i 0,i 0,i 0,i 0,s0,s0,V.int .u32 (0),s0,V.int .u32 (0)],[i 0,i 0,i 0,i 0,i 0,s0,s0,V.int .u32 (0),s0,V.int .u32 (0)],[i 0,i 0,i 0,i 0,i 0,s0,s0,V.int .u32 (0),s0,V.int .u32 (0)],[i 0,i 0,i 0,i 0,i 0,s0,s0,V.int .u32 (0),s0,V.int .u32 (0)]]]], V.tup [V.agg [V.fresh [[i 1],[i 1],[i 0],[i 0],[i 0],[i 0],[i 0],[i 0],[i 0],[i 0],[i 0],[i 0]],V.fresh [[b1],[b1],[b0],[b0],[b0],[b0],[b0],[b0],[b0],[b0],[b0],[b0]],V.fresh [[i 2,i 0,i 1,i 0,i 0,s0,s0,V.int .u32 (0),s0,V.int .u32 (2434569669)],[i 3,i 1,i 1,i 0,i 0,s0,s0,V.int .u32 (0),s0,V.int .u32 (2568263109)],[i 0,i 0,i 0,i 0,i 0,s0,s0,V.int .u32 (0),s0,V.int .u32 (0)],[i 0,i 0,i 0,i 0,i 0,s0,s0,V.int .u32 (0),s0,V.int .u32 (0)],[i 0,i 0,i 0,i 0,i 0,s0,s0,V.int .u32 (0),s0,V.int .u32 (0)],[i 0,i 0,i 0,i 0,i 0,s0,s0,V.int .u32 (0),s0,V.int .u32 (0)],[i 0,i 0,i 0,i 0,i 0,s0,s0,V.int .u32 (0),s0,V.int .u32 (0)],[i 0,i 0,i 0,i 0,i 0,s0,s0,V.int .u32 (0),s0,V.int .u32 (0)],[i 0,i 0,i 0,i 0,i 0,s0,s0,V.int .u32 (0),s0,V.int .u32 (0)],[i 0,i 0,i 0,i 0,i 0,s0,s0,V.int .u32 (0),s0,V.int .u32 (0)],[i 0,i 0,i 0,i 0,i 0,s0,s0,V.int .u32 (0),s0,V.int .u32 (0)],[i 0,i 0,i 0,i 0,i 0,s0,s0,V.int .u32 (0),s0,V.int .u32 (0)]]],V.fresh [[i 0],[i 1]],V.fresh [[s0],[V.sl [[V.sym .i64 ((.bin .add .i64 ((.con (1))) (x 1))) (1) (256) (1) (0)]]]]], [])
def fx19 : List Fact := []
theorem r19 : runF (abi fx19) funs (orP prims (memoP [m2, m4])) 100000 60 141 m19.2.1 = some m19.2.2 := by kernel_rfl
theorem w19 (ρ : Nat → Int) (hF : FactsOK (nf ρ) fx19) : Holds ρ m19 := holds_of (tbl := [m2, m4]) hF ⟨w2 ρ (FactsOK.sub hF (by kernel_rfl)), ⟨w4 ρ (FactsOK.sub hF (by kernel_rfl)), trivial⟩⟩ r19
def m20 : Entry := (45, [V.agg [i 0,i 10,s0,s0,b1,b0,b0,s0,V.sl [[i 1],[i 1],[i 0],[i 0],[i 0],[i 0],[i 0],[i 0],[i 0],[i 0],[i 0],[i 0]],V.sl [[b1],[b1],[b0],[b0],[b0],[b0],[b0],[b0],[b0],[b0],[b0],[b0]],V.sl [[i 2,i 0,i 1,i 0,i 0,V.sl [[V.sym .i64 (x 0) (-9223372036854775808) (9223372036854775807) (1) (0)],[i 8]],s0,V.int .u32 (0),s0,V.sym .u32 ((.bin .xor .u32 ((.con (4294967295))) ((.app 265 [(.con (2)), (.con (0)), (.con (1)), (.con (0)), (.con (0)), (.con (2)), x 0, (.con (8)), (.con (0)), (.con (0))])))) (0) (4294967295) (1) (0)],[i 3,i 1,i 1,i 0,i 0,s0,s0,V.int .u32 (0),V.sl [[V.sym .i64 ((.bin .add .i64 ((.con (1))) (x 1))) (1) (256) (1) (0),V.int .u32 (2)]],V.sym .u32 ((.bin .xor .u32 ((.con (4294967295))) ((.app 265 [(.con (3)), (.con (1)), (.con (1)), (.con (0)), (.con (0)), (.con (0)), (.con (0)), (.con (0)), (.bin .add .i64 ((.con (1))) (x 1)), (.con (2))])))) (0) (4294967295) (1) (0)],[i 0,i 0,i 0,i 0,i 0,s0,s0,V.int .u32 (0),s0,V.int .u32 (0)],[i 0,i 0,i 0,i 0,i 0,s0,s0,V.int .u32 (0),s0,V.int .u32 (0)],[i 0,i 0,i 0,i 0,i 0,s0,s0,V.int .u32 (0),s0,V.int .u32 (0)],[i 0,i 0,i 0,i 0,i 0,s0,s0,V.int .u32 (0),s0,V.int .u32 (0)],[i 0,i 0,i 0,i 0,i 0,s0,s0,V.int .u32 (0),s0,V.int .u32 (0)],[i 0,i 0,i 0,i 0,i 0,s0,s0,V.int .u32 (0),s0,V.int .u32 (0)],[i 0,i 0,i 0,i 0,i 0,s0,s0,V.int .u32 (0),s0,V.int .u32 (0)],[i 0,i 0,i 0,i 0,i 0,s0,s0,V.int .u32 (0),s0,V.int .u32 (0)],[i 0,i 0,i 0,i 0,i 0,s0,s0,V.int .u32 (0),s0,V.int .u32 (0)],[i 0,i 0,i 0,i 0,i 0,s0,s0,V.int .u32 (0),s0,V.int .u32 (0)]],s0,s0]], V.tup [V.agg [i 1,i 10,f0,f0,b1,b0,b0,f0,V.fresh [[i 1],[i 1],[i 0],[i 0],[i 0],[i 0],[i 0],[i 0],[i 0],[i 0],[i 0],[i 0]],V.fresh [[b1],[b1],[b0],[b0],[b0],[b0],[b0],[b0],[b0],[b0],[b0],[b0]],V.fresh [[i 2,i 0,i 1,i 0,i 0,s0,s0,V.int .u32 (0),s0,V.int .u32 (2434569669)],[i 3,i 1,i 1,i 0,i 0,s0,s0,V.int .u32 (0),s0,V.int .u32 (2568263109)],[i 0,i 0,i 0,i 0,i 0,s0,s0,V.int .u32 (0),s0,V.int .u32 (0)],[i 0,i 0,i 0,i 0,i 0,s0,s0,V.int .u32 (0),s0,V.int .u32 (0)],[i 0,i 0,i 0,i 0,i 0,s0,s0,V.int .u32 (0),s0,V.int .u32 (0)],[i 0,i 0,i 0,i 0,i 0,s0,s0,V.int .u32 (0),s0,V.int .u32 (0)],[i 0,i 0,i 0,i 0,i 0,s0,s0,V.int .u32 (0),s0,V.int .u32 (0)],[i 0,i 0,i 0,i 0,i 0,s0,s0,V.int .u32 (0),s0,V.int .u32 (0)],[i 0,i 0,i 0,i 0,i 0,s0,s0,V.int .u32 (0),s0,V.int .u32 (0)],[i 0,i 0,i 0,i 0,i 0,s0,s0,V.int .u32 (0),s0,V.int .u32 (0)],[i 0,i 0,i 0,i 0,i 0,s0,s0,V.int .u32 (0),s0,V.int .u32 (0)],[i 0,i 0,i 0,i 0,i 0,s0,s0,V.int .u32 (0),s0,V.int .u32 (0)]],f0,f0],V.fresh [[i 0,i 11,i 0,i 0,i 0,i 0],[i 0,i 11,i 0,i 1,i 0,i 0],[i 0,i 12,i 0,V.sym .i64 ((.bin .add .i64 ((.con (1))) (x 1))) (1) (256) (1) (0),i 0,i 15]]], [])
def fx20 : List Fact := []
theorem r20 : runF (abi fx20) funs (orP prims (memoP [m19])) 100000 60 45 m20.2.1 = some m20.2.2 := by kernel_rfl
theorem w20 (ρ : Nat → Int) (hF : FactsOK (nf ρ) fx20) : Holds ρ m20 := holds_of (tbl := [m19]) hF ⟨w19 ρ (FactsOK.sub hF (by kernel_rfl)), trivial⟩ r20
def m21 : Entry := (1016, [V.sym .i64 (x 0) (-9223372036854775808) (9223372036854775807) (1) (0),V.sym .u8 (x 1) (0) (255) (1) (0),V.sym .u8 (x 2) (0) (255) (2) (1)], b1, [])
def fx21 : List Fact := []
theorem r21 : runF (abi fx21) funs (orP prims (memoP [m1, m3, m5, m6, m7, m8, m9, m10, m18, m20, m13, m15, m16])) 100000 60 1016 m21.2.1 = some m21.2.2 := by kernel_rfl
theorem w21 (ρ : Nat → Int) (hF : FactsOK (nf ρ) fx21) : Holds ρ m21 := holds_of (tbl := [m1, m3, m5, m6, m7, m8, m9, m10, m18, m20, m13, m15, m16]) hF ⟨w1 ρ (FactsOK.sub hF (by kernel_rfl)), ⟨w3 ρ (FactsOK.sub hF (by kernel_rfl)), ⟨w5 ρ (FactsOK.sub hF (by kernel_rfl)), ⟨w6 ρ (FactsOK.sub hF (by kernel_rfl)), ⟨w7 ρ (FactsOK.sub hF (by kernel_rfl)), ⟨w8 ρ (FactsOK.sub hF (by kernel_rfl)), ⟨w9 ρ (FactsOK.sub hF (by kernel_rfl)), ⟨w10 ρ (FactsOK.sub hF (by kernel_rfl)), ⟨w18 ρ (FactsOK.sub hF (by kernel_rfl)), ⟨w20 ρ (FactsOK.sub hF (by kernel_rfl)), ⟨w13 ρ (FactsOK.sub hF (by kernel_rfl)), ⟨w15 ρ (FactsOK.sub hF (by kernel_rfl)), ⟨w16 ρ (FactsOK.sub hF (by kernel_rfl)), trivial⟩⟩⟩⟩⟩⟩⟩⟩⟩⟩⟩⟩⟩ r21
theorem told_true (a0 : Int) (a1 : Int) (a2 : Int) (w0 : (Lit.int .i64 a0).wf = true) (w1 : (Lit.int .u8 a1).wf = true) (w2 : (Lit.int .u8 a2).wf = true) (w : World) :
    Calls Tryz.prog 8 #[.int .i64 a0, .int .u8 a1, .int .u8 a2] w fun e w' => e = .returned (.bool true) ∧ CallKeeps w w' [] := by
  let ρ : Nat → Int := fun k => if k = 0 then a0 else if k = 1 then a1 else if k = 2 then a2 else 0
  have h0 : IntKind.min .i64 ≤ a0 ∧ a0 ≤ IntKind.max .i64 := by simpa [Lit.wf] using w0
  have m00 : IntKind.min .i64 = -9223372036854775808 := rfl
  have m01 : IntKind.max .i64 = 9223372036854775807 := rfl
  rw [m00, m01] at h0
  have h1 : IntKind.min .u8 ≤ a1 ∧ a1 ≤ IntKind.max .u8 := by simpa [Lit.wf] using w1
  have m10 : IntKind.min .u8 = 0 := rfl
  have m11 : IntKind.max .u8 = 255 := rfl
  rw [m10, m11] at h1
  have h2 : IntKind.min .u8 ≤ a2 ∧ a2 ≤ IntKind.max .u8 := by simpa [Lit.wf] using w2
  have m20 : IntKind.min .u8 = 0 := rfl
  have m21 : IntKind.max .u8 = 255 := rfl
  rw [m20, m21] at h2
  have go : ∀ (l : List V), XVL (nf ρ) ι00 w (fun b => False ∨ b ∈ []) l [.int .i64 a0, .int .u8 a1, .int .u8 a2] [] → ptrs l [.int .i64 a0, .int .u8 a1, .int .u8 a2] = [] → rebox l [] = [] → CallsOK Tryz.prog (nf ρ) 1016 l (.bool true) [] →
      Calls Tryz.prog 8 #[.int .i64 a0, .int .u8 a1, .int .u8 a2] w fun e w' => e = .returned (.bool true) ∧ CallKeeps w w' [] := by
    intro l hx hp hb hc
    refine (hc 8 rfl w (fun _ => False) _ [] (fun _ h => h.elim) (fun _ h => by cases h) List.nodup_nil hx).mono fun e w' ⟨c, S', he, _, _, hk, hx⟩ => ?_
    obtain ⟨c', cs, O1, O2, e1, e2, ⟨_, hv⟩, _⟩ := hx
    cases e1
    exact ⟨by rw [he, hv], hk⟩
  have cases : ((-9223372036854775808 ≤ a0 ∧ a0 ≤ 9223372036854775807 ∧ a0 % 1 = 0) ∧ (0 ≤ a1 ∧ a1 ≤ 255 ∧ a1 % 1 = 0) ∧ (0 ≤ a2 ∧ a2 ≤ 255 ∧ a2 % 2 = 0)) ∨ ((-9223372036854775808 ≤ a0 ∧ a0 ≤ 9223372036854775807 ∧ a0 % 1 = 0) ∧ (0 ≤ a1 ∧ a1 ≤ 255 ∧ a1 % 1 = 0) ∧ (0 ≤ a2 ∧ a2 ≤ 255 ∧ a2 % 2 = 1)) := by omega
  rcases cases with ⟨⟨p0, q0, r0⟩, ⟨p1, q1, r1⟩, ⟨p2, q2, r2⟩⟩ | ⟨⟨p0, q0, r0⟩, ⟨p1, q1, r1⟩, ⟨p2, q2, r2⟩⟩
  · have f0 : FactsOK (nf ρ) [] := FactsOK.nil
    exact go [V.sym .i64 (x 0) (-9223372036854775808) (9223372036854775807) (1) (0), V.sym .u8 (x 1) (0) (255) (1) (0), V.sym .u8 (x 2) (0) (255) (2) (0)] ⟨_, _, [], [], rfl, rfl, ⟨rfl, rfl, p0, q0, r0⟩, ⟨_, _, [], [], rfl, rfl, ⟨rfl, rfl, p1, q1, r1⟩, ⟨_, _, [], [], rfl, rfl, ⟨rfl, rfl, p2, q2, r2⟩, ⟨rfl, rfl⟩⟩⟩⟩ rfl rfl (w17 ρ (FactsOK.sub f0 (by kernel_rfl)))
  · have f0 : FactsOK (nf ρ) [] := FactsOK.nil
    exact go [V.sym .i64 (x 0) (-9223372036854775808) (9223372036854775807) (1) (0), V.sym .u8 (x 1) (0) (255) (1) (0), V.sym .u8 (x 2) (0) (255) (2) (1)] ⟨_, _, [], [], rfl, rfl, ⟨rfl, rfl, p0, q0, r0⟩, ⟨_, _, [], [], rfl, rfl, ⟨rfl, rfl, p1, q1, r1⟩, ⟨_, _, [], [], rfl, rfl, ⟨rfl, rfl, p2, q2, r2⟩, ⟨rfl, rfl⟩⟩⟩⟩ rfl rfl (w21 ρ (FactsOK.sub f0 (by kernel_rfl)))
end Fo.Tryz

namespace Go.Proofs.YtjpjdmbomljdcaaGreat.trialTurns
open Go Go.ChangeShapes Go.WideShapes Go.ChangeAt Go.RowKit
set_option linter.unusedVariables false

theorem own : ownKnob Tryz.prog.godebug = none := by kernel_rfl
theorem kids : Kids Tryz.prog (· < Tryz.prog.types.size) := kids_rows (by kernel_rfl) (by kernel_rfl)
theorem full : ∀ t e, t < Tryz.prog.types.size → Tryz.prog.underlying t = some (.slice e) → 0 < Tryz.prog.cellsOf e := slices_full_of Tryz.prog (by kernel_rfl)

set_option maxRecDepth 100000 in
theorem lifted (os : Os) (started : os.Started) (H : Type) (enc : TypeId × Value → H) :
    ReturnsInHanded {} Tryz.checked os 8 .any (Rows.trialTurnsSpec.pre6 enc Tryz.prog Tryz.f8 Rows.trialTurnsRow.domain false) (Rows.trialTurnsSpec.post enc Tryz.prog Tryz.f8 false true false false) := by
  refine returnsInHanded_of_change (C := Tryz.checked) own started (by kernel_rfl) Tryz.func8
    (ChangeSpec.witness6 (enc := enc) (C := Tryz.checked) false ⟨#[], #[.int .i64 0, .int .u8 0, .int .u8 0], []⟩ 8 (by kernel_rfl) (by kernel_rfl) (by kernel_rfl) (by kernel_rfl)) ?_
  intro W base args ds gs before hval0 hW hcnd _
  have hval : ∀ (j : Nat) t v, Tryz.f8.params[j]? = some t → args[j]? = some v → Value.okWide Tryz.prog W .any base t v := hval0
  have hW' := hW
  obtain ⟨p, q, hA0, hV, rfl, hfz, hnd⟩ := hW
  have hA : DataW.TrodAll enc Tryz.prog W 0 (fun _ => true) true Tryz.f8.params.toList args.toList ds p := hA0
  rw [Tryz.params8] at hA hval
  obtain ⟨v0, vs0, d0, ds0, p0, q0, hargs, rfl, rfl, h0, r0⟩ := trodAll_cons hA
  obtain ⟨v1, vs1, d1, ds1, p1, q1, rfl, rfl, rfl, h1, r1⟩ := trodAll_cons r0
  obtain ⟨v2, vs2, d2, ds2, p2, q2, rfl, rfl, rfl, h2, r2⟩ := trodAll_cons r1
  obtain ⟨rfl, rfl, rfl⟩ := trodAll_nil r2
  obtain rfl : args = #[v0, v1, v2] := by cases args; simp_all
  obtain ⟨rfl, rfl⟩ := trodVars_none hV
  obtain ⟨a0, rfl, rfl, rfl, w0⟩ := open_int Tryz.underlying2 (hval 0 2 v0 rfl rfl) h0
  obtain ⟨a1, rfl, rfl, rfl, w1⟩ := open_int Tryz.underlying5 (hval 1 5 v1 rfl rfl) h1
  obtain ⟨a2, rfl, rfl, rfl, w2⟩ := open_int Tryz.underlying5 (hval 2 5 v2 rfl rfl) h2
  refine (Fo.Tryz.told_true a0 a1 a2 w0 w1 w2 W).mono fun e W' ⟨he, hg⟩ => ?_
  subst he
  exact ⟨_, rfl, Fo.law_post kids full (by rw [Tryz.params8]; decide) rfl hW' rfl rfl rfl (by kernel_rfl) Tryz.underlying4 hg⟩

theorem over : Rows.trialTurnsRow.holds Tryz.pinned (OpenSpec.ofChange Rows.trialTurnsSpec) :=
  OpenClaim.holds_of_wide 8 Tryz.f8 rfl rfl rfl rfl rfl rfl rfl ⟨rfl, rfl, rfl, rfl, rfl⟩ rfl rfl rfl rfl rfl (by kernel_rfl) Tryz.func8 (by kernel_rfl)
    (of_decide_eq_true (by kernel_rfl)) (by unfold Func.isWrapper; first | (rw [if_pos (by decide +kernel)]; kernel_rfl) | (rw [if_neg (by decide +kernel)]; exact ⟨rfl, rfl⟩))
    (fun os started H enc _ => lifted os started H enc)

theorem proved : Rows.TrialTurnsSaid := over
end Go.Proofs.YtjpjdmbomljdcaaGreat.trialTurns
