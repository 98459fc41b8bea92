/-
  KernNone: whatever numbers it is given, it returns true. No condition.
-/
import Derived.Test.YtjpjdmbomljdcaaGreatKernNoneFuns
import Derived.Test.YtjpjdmbomljdcaaGreatFoA35
import Derived.Test.YtjpjdmbomljdcaaGreatFoA46
import Derived.Test.YtjpjdmbomljdcaaGreatRows
import Derived.KernelRfl
set_option maxRecDepth 100000
namespace Fo.Tryz
open Go Go.Proofs
def funs : Nat → Option (AFun × Bool)
  | 14 => some (F14, true)
  | 15 => some (F15, true)
  | 22 => some (F22, true)
  | 30 => some (F30, true)
  | 32 => some (F32, true)
  | 33 => some (F33, true)
  | 34 => some (F34, true)
  | 35 => some (F35, true)
  | 36 => some (F36, true)
  | 37 => some (F37, true)
  | 42 => some (F42, true)
  | 43 => some (F43, true)
  | 45 => some (F45, true)
  | 47 => some (F47, true)
  | 55 => some (F55, true)
  | 56 => some (F56, true)
  | 60 => some (F60, true)
  | 61 => some (F61, true)
  | 62 => some (F62, true)
  | 63 => some (F63, true)
  | 64 => some (F64, true)
  | 70 => some (F70, true)
  | 82 => some (F82, true)
  | 83 => some (F83, true)
  | 84 => some (F84, true)
  | 85 => some (F85, true)
  | 86 => some (F86, true)
  | 87 => some (F87, true)
  | 88 => some (F88, true)
  | 89 => some (F89, true)
  | 90 => some (F90, true)
  | 91 => some (F91, true)
  | 92 => some (F92, true)
  | 94 => some (F94, true)
  | 98 => some (F98, true)
  | 99 => some (F99, true)
  | 100 => some (F100, true)
  | 114 => some (F114, true)
  | 115 => some (F115, true)
  | 116 => some (F116, true)
  | 123 => some (F123, true)
  | 127 => some (F127, true)
  | 138 => some (F138, true)
  | 139 => some (F139, true)
  | 140 => some (F140, true)
  | 141 => some (F141, true)
  | 142 => some (F142, true)
  | 143 => some (F143, true)
  | 144 => some (F144, true)
  | 145 => some (F145, true)
  | 146 => some (F146, true)
  | 147 => some (F147, true)
  | 148 => some (F148, true)
  | 150 => some (F150, true)
  | 151 => some (F151, true)
  | 152 => some (F152, true)
  | 154 => some (F154, true)
  | 155 => some (F155, true)
  | 158 => some (F158, true)
  | 160 => some (F160, true)
  | 161 => some (F161, true)
  | 165 => some (F165, true)
  | 190 => some (F190, true)
  | 191 => some (F191, true)
  | 194 => some (F194, true)
  | 199 => some (F199, true)
  | 200 => some (F200, true)
  | 201 => some (F201, true)
  | 202 => some (F202, true)
  | 203 => some (F203, true)
  | 204 => some (F204, true)
  | 205 => some (F205, true)
  | 208 => some (F208, true)
  | 214 => some (F214, true)
  | 215 => some (F215, true)
  | 216 => some (F216, true)
  | 217 => some (F217, true)
  | 218 => some (F218, true)
  | 219 => some (F219, true)
  | 220 => some (F220, true)
  | 221 => some (F221, true)
  | 222 => some (F222, true)
  | 223 => some (F223, true)
  | 224 => some (F224, true)
  | 225 => some (F225, true)
  | 226 => some (F226, true)
  | 227 => some (F227, true)
  | 228 => some (F228, true)
  | 230 => some (F230, true)
  | 231 => some (F231, true)
  | 232 => some (F232, true)
  | 233 => some (F233, true)
  | 234 => some (F234, true)
  | 235 => some (F235, true)
  | 236 => some (F236, true)
  | 246 => some (F246, true)
  | 247 => some (F247, true)
  | 258 => some (F258, true)
  | 260 => some (F260, true)
  | 261 => some (F261, true)
  | 262 => some (F262, true)
  | 263 => some (F263, true)
  | 265 => some (F265, true)
  | 267 => some (F267, true)
  | 268 => some (F268, true)
  | 269 => some (F269, true)
  | 271 => some (F271, true)
  | 272 => some (F272, true)
  | 273 => some (F273, true)
  | 274 => some (F274, true)
  | 275 => some (F275, true)
  | 276 => some (F276, true)
  | 277 => some (F277, true)
  | 278 => some (F278, true)
  | 279 => some (F279, true)
  | 280 => some (F280, true)
  | 281 => some (F281, true)
  | 282 => some (F282, true)
  | 283 => some (F283, true)
  | 284 => some (F284, true)
  | 285 => some (F285, true)
  | 286 => some (F286, true)
  | 287 => some (F287, true)
  | 288 => some (F288, true)
  | 289 => some (F289, true)
  | 290 => some (F290, true)
  | 291 => some (F291, true)
  | 292 => some (F292, true)
  | 293 => some (F293, true)
  | 294 => some (F294, true)
  | 315 => some (F315, true)
  | 316 => some (F316, true)
  | 317 => some (F317, true)
  | 318 => some (F318, true)
  | 319 => some (F319, true)
  | 320 => some (F320, true)
  | 321 => some (F321, true)
  | 322 => some (F322, true)
  | 323 => some (F323, true)
  | 324 => some (F324, true)
  | 325 => some (F325, true)
  | 326 => some (F326, true)
  | 327 => some (F327, true)
  | 328 => some (F328, true)
  | 1011 => some (F1011, true)
  | 1017 => some (F1017, true)
  | _ => none
def clones : Nat → Option (Nat × Nat × List V)
  | 132 => some (6, 96, [(.int .i64 0), (.int .i64 0), (.int .i64 0), (.sl []), (.sl []), (.sl [])])
  | 133 => some (5, 40, [(.int .i64 0), (.int .i64 0), (.int .i64 0), (.int .i64 0), (.int .i64 0)])
  | 134 => some (28, 272, [(.int .i64 0), (.int .i64 0), (.int .i64 0), (.int .i64 0), (.int .i64 0), (.int .i64 0), (.int .i64 0), (.int .i64 0), (.int .i64 0), (.int .i64 0), (.int .i64 0), (.int .i64 0), (.int .i64 0), (.sl []), (.bool false), (.int .i64 0), (.int .i64 0), (.int .i64 0), (.int .i64 0), (.int .i64 0), (.int .i64 0), (.int .i64 0), (.int .i64 0), (.int .i64 0), (.sl []), (.bool false), (.sl []), (.bool false)])
  | 135 => some (4, 32, [(.int .i64 0), (.int .i64 0), (.int .i64 0), (.int .i64 0)])
  | 136 => some (3, 24, [(.int .i64 0), (.int .i64 0), (.int .i64 0)])
  | 137 => some (1, 8, [(.int .i64 0)])
  | 149 => some (1, 1, [(.bool false)])
  | 210 => some (2, 16, [(.int .i64 0), (.int .u32 0)])
  | 229 => some (1, 8, [(.int .i64 0)])
  | 270 => some (2, 16, [(.int .i64 0), (.int .i64 0)])
  | _ => none
theorem enters_tbl : ∀ f g, tbl f = some g → enters Tryz.prog g = true := by
  intro f g h
  unfold tbl at h
  split at h <;> first | (cases h; kernel_rfl) | cases h
theorem enters_all (ρ : Nat → Int) : ∀ f g, (nf ρ) f = some g → enters Tryz.prog g = true := enters_tbl
theorem ent (ρ : Nat → Int) {fx : List Fact} (hF : FactsOK (nf ρ) fx) : Ent Tryz.prog (nf ρ) (abi fx) := ⟨enters_all ρ, hF⟩
theorem funs_ok (ρ : Nat → Int) (fx : List Fact) : ∀ f F gv, funs f = some (F, gv) → ∃ g fn, (nf ρ) f = some g ∧ Tryz.prog.funcs[g]? = some fn ∧ chkFun Tryz.prog (nf ρ) (abi fx) fn F = true := by
  intro f F gv h
  unfold funs at h
  split at h
  · cases h; exact ⟨_, _, rfl, Tryz.func15, k14 ρ fx⟩
  · cases h; exact ⟨_, _, rfl, Tryz.func16, k15 ρ fx⟩
  · cases h; exact ⟨_, _, rfl, Tryz.func10, k22 ρ fx⟩
  · cases h; exact ⟨_, _, rfl, Tryz.func11, k30 ρ fx⟩
  · cases h; exact ⟨_, _, rfl, Tryz.func42, k32 ρ fx⟩
  · cases h; exact ⟨_, _, rfl, Tryz.func43, k33 ρ fx⟩
  · cases h; exact ⟨_, _, rfl, Tryz.func44, k34 ρ fx⟩
  · cases h; exact ⟨_, _, rfl, Tryz.func45, k35 ρ fx⟩
  · cases h; exact ⟨_, _, rfl, Tryz.func46, k36 ρ fx⟩
  · cases h; exact ⟨_, _, rfl, Tryz.func47, k37 ρ fx⟩
  · cases h; exact ⟨_, _, rfl, Tryz.func25, k42 ρ fx⟩
  · cases h; exact ⟨_, _, rfl, Tryz.func26, k43 ρ fx⟩
  · cases h; exact ⟨_, _, rfl, Tryz.func13, k45 ρ fx⟩
  · cases h; exact ⟨_, _, rfl, Tryz.func12, k47 ρ fx⟩
  · cases h; exact ⟨_, _, rfl, Tryz.func91, k55 ρ fx⟩
  · cases h; exact ⟨_, _, rfl, Tryz.func27, k56 ρ fx⟩
  · cases h; exact ⟨_, _, rfl, Tryz.func92, k60 ρ fx⟩
  · cases h; exact ⟨_, _, rfl, Tryz.func93, k61 ρ fx⟩
  · cases h; exact ⟨_, _, rfl, Tryz.func94, k62 ρ fx⟩
  · cases h; exact ⟨_, _, rfl, Tryz.func95, k63 ρ fx⟩
  · cases h; exact ⟨_, _, rfl, Tryz.func96, k64 ρ fx⟩
  · cases h; exact ⟨_, _, rfl, Tryz.func63, k70 ρ fx⟩
  · cases h; exact ⟨_, _, rfl, Tryz.func28, k82 ρ fx⟩
  · cases h; exact ⟨_, _, rfl, Tryz.func33, k83 ρ fx⟩
  · cases h; exact ⟨_, _, rfl, Tryz.func34, k84 ρ fx⟩
  · cases h; exact ⟨_, _, rfl, Tryz.func35, k85 ρ fx⟩
  · cases h; exact ⟨_, _, rfl, Tryz.func36, k86 ρ fx⟩
  · cases h; exact ⟨_, _, rfl, Tryz.func112, k87 ρ fx⟩
  · cases h; exact ⟨_, _, rfl, Tryz.func113, k88 ρ fx⟩
  · cases h; exact ⟨_, _, rfl, Tryz.func29, k89 ρ fx⟩
  · cases h; exact ⟨_, _, rfl, Tryz.func30, k90 ρ fx⟩
  · cases h; exact ⟨_, _, rfl, Tryz.func31, k91 ρ fx⟩
  · cases h; exact ⟨_, _, rfl, Tryz.func32, k92 ρ fx⟩
  · cases h; exact ⟨_, _, rfl, Tryz.func184, k94 ρ fx⟩
  · cases h; exact ⟨_, _, rfl, Tryz.func134, k98 ρ fx⟩
  · cases h; exact ⟨_, _, rfl, Tryz.func64, k99 ρ fx⟩
  · cases h; exact ⟨_, _, rfl, Tryz.func17, k100 ρ fx⟩
  · cases h; exact ⟨_, _, rfl, Tryz.func135, k114 ρ fx⟩
  · cases h; exact ⟨_, _, rfl, Tryz.func136, k115 ρ fx⟩
  · cases h; exact ⟨_, _, rfl, Tryz.func137, k116 ρ fx⟩
  · cases h; exact ⟨_, _, rfl, Tryz.func14, k123 ρ fx⟩
  · cases h; exact ⟨_, _, rfl, Tryz.func71, k127 ρ fx⟩
  · cases h; exact ⟨_, _, rfl, Tryz.func72, k138 ρ fx⟩
  · cases h; exact ⟨_, _, rfl, Tryz.func78, k139 ρ fx⟩
  · cases h; exact ⟨_, _, rfl, Tryz.func79, k140 ρ fx⟩
  · cases h; exact ⟨_, _, rfl, Tryz.func80, k141 ρ fx⟩
  · cases h; exact ⟨_, _, rfl, Tryz.func81, k142 ρ fx⟩
  · cases h; exact ⟨_, _, rfl, Tryz.func62, k143 ρ fx⟩
  · cases h; exact ⟨_, _, rfl, Tryz.func82, k144 ρ fx⟩
  · cases h; exact ⟨_, _, rfl, Tryz.func83, k145 ρ fx⟩
  · cases h; exact ⟨_, _, rfl, Tryz.func24, k146 ρ fx⟩
  · cases h; exact ⟨_, _, rfl, Tryz.func84, k147 ρ fx⟩
  · cases h; exact ⟨_, _, rfl, Tryz.func85, k148 ρ fx⟩
  · cases h; exact ⟨_, _, rfl, Tryz.func115, k150 ρ fx⟩
  · cases h; exact ⟨_, _, rfl, Tryz.func73, k151 ρ fx⟩
  · cases h; exact ⟨_, _, rfl, Tryz.func74, k152 ρ fx⟩
  · cases h; exact ⟨_, _, rfl, Tryz.func76, k154 ρ fx⟩
  · cases h; exact ⟨_, _, rfl, Tryz.func77, k155 ρ fx⟩
  · cases h; exact ⟨_, _, rfl, Tryz.func214, k158 ρ fx⟩
  · cases h; exact ⟨_, _, rfl, Tryz.func48, k160 ρ fx⟩
  · cases h; exact ⟨_, _, rfl, Tryz.func49, k161 ρ fx⟩
  · cases h; exact ⟨_, _, rfl, Tryz.func143, k165 ρ fx⟩
  · cases h; exact ⟨_, _, rfl, Tryz.func183, k190 ρ fx⟩
  · cases h; exact ⟨_, _, rfl, Tryz.func209, k191 ρ fx⟩
  · cases h; exact ⟨_, _, rfl, Tryz.func88, k194 ρ fx⟩
  · cases h; exact ⟨_, _, rfl, Tryz.func114, k199 ρ fx⟩
  · cases h; exact ⟨_, _, rfl, Tryz.func121, k200 ρ fx⟩
  · cases h; exact ⟨_, _, rfl, Tryz.func37, k201 ρ fx⟩
  · cases h; exact ⟨_, _, rfl, Tryz.func38, k202 ρ fx⟩
  · cases h; exact ⟨_, _, rfl, Tryz.func39, k203 ρ fx⟩
  · cases h; exact ⟨_, _, rfl, Tryz.func40, k204 ρ fx⟩
  · cases h; exact ⟨_, _, rfl, Tryz.func41, k205 ρ fx⟩
  · cases h; exact ⟨_, _, rfl, Tryz.func116, k208 ρ fx⟩
  · cases h; exact ⟨_, _, rfl, Tryz.func122, k214 ρ fx⟩
  · cases h; exact ⟨_, _, rfl, Tryz.func117, k215 ρ fx⟩
  · cases h; exact ⟨_, _, rfl, Tryz.func119, k216 ρ fx⟩
  · cases h; exact ⟨_, _, rfl, Tryz.func120, k217 ρ fx⟩
  · cases h; exact ⟨_, _, rfl, Tryz.func123, k218 ρ fx⟩
  · cases h; exact ⟨_, _, rfl, Tryz.func124, k219 ρ fx⟩
  · cases h; exact ⟨_, _, rfl, Tryz.func125, k220 ρ fx⟩
  · cases h; exact ⟨_, _, rfl, Tryz.func126, k221 ρ fx⟩
  · cases h; exact ⟨_, _, rfl, Tryz.func127, k222 ρ fx⟩
  · cases h; exact ⟨_, _, rfl, Tryz.func128, k223 ρ fx⟩
  · cases h; exact ⟨_, _, rfl, Tryz.func129, k224 ρ fx⟩
  · cases h; exact ⟨_, _, rfl, Tryz.func130, k225 ρ fx⟩
  · cases h; exact ⟨_, _, rfl, Tryz.func131, k226 ρ fx⟩
  · cases h; exact ⟨_, _, rfl, Tryz.func132, k227 ρ fx⟩
  · cases h; exact ⟨_, _, rfl, Tryz.func133, k228 ρ fx⟩
  · cases h; exact ⟨_, _, rfl, Tryz.func118, k230 ρ fx⟩
  · cases h; exact ⟨_, _, rfl, Tryz.func97, k231 ρ fx⟩
  · cases h; exact ⟨_, _, rfl, Tryz.func98, k232 ρ fx⟩
  · cases h; exact ⟨_, _, rfl, Tryz.func99, k233 ρ fx⟩
  · cases h; exact ⟨_, _, rfl, Tryz.func100, k234 ρ fx⟩
  · cases h; exact ⟨_, _, rfl, Tryz.func101, k235 ρ fx⟩
  · cases h; exact ⟨_, _, rfl, Tryz.func102, k236 ρ fx⟩
  · cases h; exact ⟨_, _, rfl, Tryz.func230, k246 ρ fx⟩
  · cases h; exact ⟨_, _, rfl, Tryz.func231, k247 ρ fx⟩
  · cases h; exact ⟨_, _, rfl, Tryz.func201, k258 ρ fx⟩
  · cases h; exact ⟨_, _, rfl, Tryz.func86, k260 ρ fx⟩
  · cases h; exact ⟨_, _, rfl, Tryz.func87, k261 ρ fx⟩
  · cases h; exact ⟨_, _, rfl, Tryz.func89, k262 ρ fx⟩
  · cases h; exact ⟨_, _, rfl, Tryz.func90, k263 ρ fx⟩
  · cases h; exact ⟨_, _, rfl, Tryz.func159, k265 ρ fx⟩
  · cases h; exact ⟨_, _, rfl, Tryz.func165, k267 ρ fx⟩
  · cases h; exact ⟨_, _, rfl, Tryz.func166, k268 ρ fx⟩
  · cases h; exact ⟨_, _, rfl, Tryz.func167, k269 ρ fx⟩
  · cases h; exact ⟨_, _, rfl, Tryz.func162, k271 ρ fx⟩
  · cases h; exact ⟨_, _, rfl, Tryz.func163, k272 ρ fx⟩
  · cases h; exact ⟨_, _, rfl, Tryz.func164, k273 ρ fx⟩
  · cases h; exact ⟨_, _, rfl, Tryz.func168, k274 ρ fx⟩
  · cases h; exact ⟨_, _, rfl, Tryz.func169, k275 ρ fx⟩
  · cases h; exact ⟨_, _, rfl, Tryz.func170, k276 ρ fx⟩
  · cases h; exact ⟨_, _, rfl, Tryz.func171, k277 ρ fx⟩
  · cases h; exact ⟨_, _, rfl, Tryz.func172, k278 ρ fx⟩
  · cases h; exact ⟨_, _, rfl, Tryz.func173, k279 ρ fx⟩
  · cases h; exact ⟨_, _, rfl, Tryz.func174, k280 ρ fx⟩
  · cases h; exact ⟨_, _, rfl, Tryz.func175, k281 ρ fx⟩
  · cases h; exact ⟨_, _, rfl, Tryz.func176, k282 ρ fx⟩
  · cases h; exact ⟨_, _, rfl, Tryz.func177, k283 ρ fx⟩
  · cases h; exact ⟨_, _, rfl, Tryz.func178, k284 ρ fx⟩
  · cases h; exact ⟨_, _, rfl, Tryz.func179, k285 ρ fx⟩
  · cases h; exact ⟨_, _, rfl, Tryz.func180, k286 ρ fx⟩
  · cases h; exact ⟨_, _, rfl, Tryz.func181, k287 ρ fx⟩
  · cases h; exact ⟨_, _, rfl, Tryz.func182, k288 ρ fx⟩
  · cases h; exact ⟨_, _, rfl, Tryz.func160, k289 ρ fx⟩
  · cases h; exact ⟨_, _, rfl, Tryz.func138, k290 ρ fx⟩
  · cases h; exact ⟨_, _, rfl, Tryz.func139, k291 ρ fx⟩
  · cases h; exact ⟨_, _, rfl, Tryz.func140, k292 ρ fx⟩
  · cases h; exact ⟨_, _, rfl, Tryz.func141, k293 ρ fx⟩
  · cases h; exact ⟨_, _, rfl, Tryz.func142, k294 ρ fx⟩
  · cases h; exact ⟨_, _, rfl, Tryz.func205, k315 ρ fx⟩
  · cases h; exact ⟨_, _, rfl, Tryz.func206, k316 ρ fx⟩
  · cases h; exact ⟨_, _, rfl, Tryz.func207, k317 ρ fx⟩
  · cases h; exact ⟨_, _, rfl, Tryz.func208, k318 ρ fx⟩
  · cases h; exact ⟨_, _, rfl, Tryz.func210, k319 ρ fx⟩
  · cases h; exact ⟨_, _, rfl, Tryz.func211, k320 ρ fx⟩
  · cases h; exact ⟨_, _, rfl, Tryz.func212, k321 ρ fx⟩
  · cases h; exact ⟨_, _, rfl, Tryz.func213, k322 ρ fx⟩
  · cases h; exact ⟨_, _, rfl, Tryz.func185, k323 ρ fx⟩
  · cases h; exact ⟨_, _, rfl, Tryz.func186, k324 ρ fx⟩
  · cases h; exact ⟨_, _, rfl, Tryz.func187, k325 ρ fx⟩
  · cases h; exact ⟨_, _, rfl, Tryz.func188, k326 ρ fx⟩
  · cases h; exact ⟨_, _, rfl, Tryz.func189, k327 ρ fx⟩
  · cases h; exact ⟨_, _, rfl, Tryz.func190, k328 ρ fx⟩
  · cases h; exact ⟨_, _, rfl, Tryz.func3, k1011 ρ fx⟩
  · cases h; exact ⟨_, _, rfl, Tryz.func9, k1017 ρ fx⟩
  · cases h
theorem clones_ok (ρ : Nat → Int) (fx : List Fact) : ∀ f n b z, clones f = some (n, b, z) → ∃ g fn, (nf ρ) f = some g ∧ Tryz.prog.funcs[g]? = some fn ∧ chkFun Tryz.prog (nf ρ) (abi fx) fn (cloneOf n b z) = true := by
  intro f n b z h
  unfold clones at h
  split at h
  · cases h; exact ⟨_, _, rfl, Tryz.func65, k132 ρ fx⟩
  · cases h; exact ⟨_, _, rfl, Tryz.func66, k133 ρ fx⟩
  · cases h; exact ⟨_, _, rfl, Tryz.func67, k134 ρ fx⟩
  · cases h; exact ⟨_, _, rfl, Tryz.func68, k135 ρ fx⟩
  · cases h; exact ⟨_, _, rfl, Tryz.func69, k136 ρ fx⟩
  · cases h; exact ⟨_, _, rfl, Tryz.func70, k137 ρ fx⟩
  · cases h; exact ⟨_, _, rfl, Tryz.func157, k149 ρ fx⟩
  · cases h; exact ⟨_, _, rfl, Tryz.func153, k210 ρ fx⟩
  · cases h; exact ⟨_, _, rfl, Tryz.func158, k229 ρ fx⟩
  · cases h; exact ⟨_, _, rfl, Tryz.func161, k270 ρ fx⟩
  · cases h
def prims : CallF := orP (cloneP clones) (sealP 265)
theorem prims_ok (ρ : Nat → Int) : ∀ f args v outs, prims f args = some (v, outs) → CallsOK Tryz.prog (nf ρ) f args v outs := orP_ok (cloneP_ok (abi := abi []) (ent ρ FactsOK.nil) (by kernel_rfl) (clones_ok ρ [])) (sealP_ok (abi := abi []) (ent ρ FactsOK.nil) (by kernel_rfl) (by funext ns; rfl) (show (nf ρ) 265 = some 159 from rfl) Tryz.func159 (k265 ρ []))
abbrev i (n : Int) : V := .int .i64 n
abbrev b0 : V := .bool false
abbrev b1 : V := .bool true
abbrev s0 : V := .sl []
abbrev f0 : V := .fresh []
abbrev x (i : Nat) : SE := .var i
def Holds (ρ : Nat → Int) (e : Entry) : Prop := CallsOK Tryz.prog (nf ρ) e.1 e.2.1 e.2.2.1 e.2.2.2
theorem holds_of {ρ : Nat → Int} {fx : List Fact} {tbl : List Entry} {e : Entry} (hF : FactsOK (nf ρ) fx) (k : Known Tryz.prog (nf ρ) tbl) (h : runF (abi fx) funs (orP prims (memoP tbl)) 100000 60 e.1 e.2.1 = some e.2.2) : Holds ρ e :=
  runF_ok (ent ρ hF) (by kernel_rfl) (orP_ok (prims_ok ρ) (memoP_ok tbl k)) (funs_ok ρ fx) 60 e.1 e.2.1 _ _ h
def m0 : Entry := (293, [V.sl [[i 1,i 20,i 20,V.sl [[i 0,i 0,i 0,i 0]],s0,s0]],i 0], V.agg [V.fresh [[i 1]],i 1,i 0,V.fresh [[i 20]]], [])
def fx0 : List Fact := []
theorem r0 : runF (abi fx0) funs (orP prims (memoP [])) 100000 60 293 m0.2.1 = some m0.2.2 := by kernel_rfl
theorem w0 (ρ : Nat → Int) (hF : FactsOK (nf ρ) fx0) : Holds ρ m0 := holds_of (tbl := []) hF trivial r0
def m1 : Entry := (161, [V.sl [[i 1,i 20,i 20,V.sl [[i 0,i 0,i 0,i 0]],s0,s0]],i 50], V.tup [V.fresh [[i 1,i 1,i 0,i 2,i 18]],i 0], [])
def fx1 : List Fact := []
theorem r1 : runF (abi fx1) funs (orP prims (memoP [m0])) 100000 60 161 m1.2.1 = some m1.2.2 := by kernel_rfl
theorem w1 (ρ : Nat → Int) (hF : FactsOK (nf ρ) fx1) : Holds ρ m1 := holds_of (tbl := [m0]) hF ⟨w0 ρ (FactsOK.sub hF (by kernel_rfl)), trivial⟩ r1
def m2 : Entry := (123, [V.agg [i 0,i 50,V.sl [[i 1,i 20,i 20,V.sl [[i 0,i 0,i 0,i 0]],s0,s0]],V.sl [[i 1,i 1,i 0,i 2,i 18]],b0,b0,b0,s0,V.sl [[i 0],[i 0],[i 0],[i 0],[i 0],[i 0],[i 0],[i 0],[i 0],[i 0],[i 0],[i 0]],V.sl [[b0],[b0],[b0],[b0],[b0],[b0],[b0],[b0],[b0],[b0],[b0],[b0]],V.sl [[i 0,i 0,i 0,i 0,i 0,s0,s0,V.int .u32 (0),s0,V.int .u32 (0)],[i 0,i 0,i 0,i 0,i 0,s0,s0,V.int .u32 (0),s0,V.int .u32 (0)],[i 0,i 0,i 0,i 0,i 0,s0,s0,V.int .u32 (0),s0,V.int .u32 (0)],[i 0,i 0,i 0,i 0,i 0,s0,s0,V.int .u32 (0),s0,V.int .u32 (0)],[i 0,i 0,i 0,i 0,i 0,s0,s0,V.int .u32 (0),s0,V.int .u32 (0)],[i 0,i 0,i 0,i 0,i 0,s0,s0,V.int .u32 (0),s0,V.int .u32 (0)],[i 0,i 0,i 0,i 0,i 0,s0,s0,V.int .u32 (0),s0,V.int .u32 (0)],[i 0,i 0,i 0,i 0,i 0,s0,s0,V.int .u32 (0),s0,V.int .u32 (0)],[i 0,i 0,i 0,i 0,i 0,s0,s0,V.int .u32 (0),s0,V.int .u32 (0)],[i 0,i 0,i 0,i 0,i 0,s0,s0,V.int .u32 (0),s0,V.int .u32 (0)],[i 0,i 0,i 0,i 0,i 0,s0,s0,V.int .u32 (0),s0,V.int .u32 (0)],[i 0,i 0,i 0,i 0,i 0,s0,s0,V.int .u32 (0),s0,V.int .u32 (0)]],s0,s0]], V.tup [V.agg [i 0,i 50,V.fresh [[i 1,i 20,i 20,V.sl [[i 0,i 0,i 0,i 0]],s0,s0]],V.fresh [[i 1,i 1,i 0,i 2,i 18]],b1,b0,b0,f0,V.fresh [[i 0],[i 0],[i 0],[i 0],[i 0],[i 0],[i 0],[i 0],[i 0],[i 0],[i 0],[i 0]],V.fresh [[b0],[b0],[b0],[b0],[b0],[b0],[b0],[b0],[b0],[b0],[b0],[b0]],V.fresh [[i 0,i 0,i 0,i 0,i 0,s0,s0,V.int .u32 (0),s0,V.int .u32 (0)],[i 0,i 0,i 0,i 0,i 0,s0,s0,V.int .u32 (0),s0,V.int .u32 (0)],[i 0,i 0,i 0,i 0,i 0,s0,s0,V.int .u32 (0),s0,V.int .u32 (0)],[i 0,i 0,i 0,i 0,i 0,s0,s0,V.int .u32 (0),s0,V.int .u32 (0)],[i 0,i 0,i 0,i 0,i 0,s0,s0,V.int .u32 (0),s0,V.int .u32 (0)],[i 0,i 0,i 0,i 0,i 0,s0,s0,V.int .u32 (0),s0,V.int .u32 (0)],[i 0,i 0,i 0,i 0,i 0,s0,s0,V.int .u32 (0),s0,V.int .u32 (0)],[i 0,i 0,i 0,i 0,i 0,s0,s0,V.int .u32 (0),s0,V.int .u32 (0)],[i 0,i 0,i 0,i 0,i 0,s0,s0,V.int .u32 (0),s0,V.int .u32 (0)],[i 0,i 0,i 0,i 0,i 0,s0,s0,V.int .u32 (0),s0,V.int .u32 (0)],[i 0,i 0,i 0,i 0,i 0,s0,s0,V.int .u32 (0),s0,V.int .u32 (0)],[i 0,i 0,i 0,i 0,i 0,s0,s0,V.int .u32 (0),s0,V.int .u32 (0)]],f0,f0],i 0], [])
def fx2 : List Fact := []
theorem r2 : runF (abi fx2) funs (orP prims (memoP [])) 100000 60 123 m2.2.1 = some m2.2.2 := by kernel_rfl
theorem w2 (ρ : Nat → Int) (hF : FactsOK (nf ρ) fx2) : Holds ρ m2 := holds_of (tbl := []) hF trivial r2
def m3 : Entry := (86, [V.pbox [i 0,i 50,V.fresh [[i 1,i 20,i 20,V.sl [[i 0,i 0,i 0,i 0]],s0,s0]],V.fresh [[i 1,i 1,i 0,i 2,i 18]],b1,b0,b0,V.fresh [[i 0,i 0,i 7,i 0,i 0,i 7,i 0,i 0,i 0,i 0,i 0,i 0,i 0,s0,b0,i 0,i 7,i 0,i 0,i 0,i 0,i 0,i 0,i 0,s0,b0,s0,b0]],V.fresh [[i 0],[i 0],[i 0],[i 0],[i 0],[i 0],[i 0],[i 0],[i 0],[i 0],[i 0],[i 0]],V.fresh [[b0],[b0],[b0],[b0],[b0],[b0],[b0],[b0],[b0],[b0],[b0],[b0]],V.fresh [[i 0,i 0,i 0,i 0,i 0,s0,s0,V.int .u32 (0),s0,V.int .u32 (0)],[i 0,i 0,i 0,i 0,i 0,s0,s0,V.int .u32 (0),s0,V.int .u32 (0)],[i 0,i 0,i 0,i 0,i 0,s0,s0,V.int .u32 (0),s0,V.int .u32 (0)],[i 0,i 0,i 0,i 0,i 0,s0,s0,V.int .u32 (0),s0,V.int .u32 (0)],[i 0,i 0,i 0,i 0,i 0,s0,s0,V.int .u32 (0),s0,V.int .u32 (0)],[i 0,i 0,i 0,i 0,i 0,s0,s0,V.int .u32 (0),s0,V.int .u32 (0)],[i 0,i 0,i 0,i 0,i 0,s0,s0,V.int .u32 (0),s0,V.int .u32 (0)],[i 0,i 0,i 0,i 0,i 0,s0,s0,V.int .u32 (0),s0,V.int .u32 (0)],[i 0,i 0,i 0,i 0,i 0,s0,s0,V.int .u32 (0),s0,V.int .u32 (0)],[i 0,i 0,i 0,i 0,i 0,s0,s0,V.int .u32 (0),s0,V.int .u32 (0)],[i 0,i 0,i 0,i 0,i 0,s0,s0,V.int .u32 (0),s0,V.int .u32 (0)],[i 0,i 0,i 0,i 0,i 0,s0,s0,V.int .u32 (0),s0,V.int .u32 (0)]],V.fresh [[i 0]],V.fresh [[b0]],f0] 0], V.tup [], [[i 0,i 50,V.fresh [[i 1,i 20,i 20,V.sl [[i 0,i 0,i 0,i 0]],s0,s0]],V.fresh [[i 1,i 1,i 0,i 2,i 18]],b1,b0,b0,V.spare [[i 0,i 0,i 0,i 0,i 0,i 0,i 0,i 0,i 0,i 0,i 0,i 0,i 0,s0,b0,i 0,i 0,i 0,i 0,i 0,i 0,i 0,i 0,i 0,s0,b0,s0,b0]],V.fresh [[i 0],[i 0],[i 0],[i 0],[i 0],[i 0],[i 0],[i 0],[i 0],[i 0],[i 0],[i 0]],V.fresh [[b0],[b0],[b0],[b0],[b0],[b0],[b0],[b0],[b0],[b0],[b0],[b0]],V.fresh [[i 0,i 0,i 0,i 0,i 0,s0,s0,V.int .u32 (0),s0,V.int .u32 (0)],[i 0,i 0,i 0,i 0,i 0,s0,s0,V.int .u32 (0),s0,V.int .u32 (0)],[i 0,i 0,i 0,i 0,i 0,s0,s0,V.int .u32 (0),s0,V.int .u32 (0)],[i 0,i 0,i 0,i 0,i 0,s0,s0,V.int .u32 (0),s0,V.int .u32 (0)],[i 0,i 0,i 0,i 0,i 0,s0,s0,V.int .u32 (0),s0,V.int .u32 (0)],[i 0,i 0,i 0,i 0,i 0,s0,s0,V.int .u32 (0),s0,V.int .u32 (0)],[i 0,i 0,i 0,i 0,i 0,s0,s0,V.int .u32 (0),s0,V.int .u32 (0)],[i 0,i 0,i 0,i 0,i 0,s0,s0,V.int .u32 (0),s0,V.int .u32 (0)],[i 0,i 0,i 0,i 0,i 0,s0,s0,V.int .u32 (0),s0,V.int .u32 (0)],[i 0,i 0,i 0,i 0,i 0,s0,s0,V.int .u32 (0),s0,V.int .u32 (0)],[i 0,i 0,i 0,i 0,i 0,s0,s0,V.int .u32 (0),s0,V.int .u32 (0)],[i 0,i 0,i 0,i 0,i 0,s0,s0,V.int .u32 (0),s0,V.int .u32 (0)]],V.fresh [[i 0]],V.fresh [[b0]],V.fresh [[i 0,i 2,i 0,i 0,i 0,i 0],[i 0,i 3,i 0,i 0,i 7,i 0]]]])
def fx3 : List Fact := []
theorem r3 : runF (abi fx3) funs (orP prims (memoP [])) 100000 60 86 m3.2.1 = some m3.2.2 := by kernel_rfl
theorem w3 (ρ : Nat → Int) (hF : FactsOK (nf ρ) fx3) : Holds ρ m3 := holds_of (tbl := []) hF trivial r3
def m4 : Entry := (45, [V.agg [i 0,i 50,V.sl [[i 1,i 20,i 20,V.sl [[i 0,i 0,i 0,i 0]],s0,s0]],V.sl [[i 1,i 1,i 0,i 2,i 18]],b1,b0,b0,V.sl [[i 0,i 0,i 7,i 0,i 0,i 7,i 0,i 0,i 0,i 0,i 0,i 0,i 0,s0,b0,i 0,i 7,i 0,i 0,i 0,i 0,i 0,i 0,i 0,s0,b0,s0,b0]],V.sl [[i 0],[i 0],[i 0],[i 0],[i 0],[i 0],[i 0],[i 0],[i 0],[i 0],[i 0],[i 0]],V.sl [[b0],[b0],[b0],[b0],[b0],[b0],[b0],[b0],[b0],[b0],[b0],[b0]],V.sl [[i 0,i 0,i 0,i 0,i 0,s0,s0,V.int .u32 (0),s0,V.int .u32 (0)],[i 0,i 0,i 0,i 0,i 0,s0,s0,V.int .u32 (0),s0,V.int .u32 (0)],[i 0,i 0,i 0,i 0,i 0,s0,s0,V.int .u32 (0),s0,V.int .u32 (0)],[i 0,i 0,i 0,i 0,i 0,s0,s0,V.int .u32 (0),s0,V.int .u32 (0)],[i 0,i 0,i 0,i 0,i 0,s0,s0,V.int .u32 (0),s0,V.int .u32 (0)],[i 0,i 0,i 0,i 0,i 0,s0,s0,V.int .u32 (0),s0,V.int .u32 (0)],[i 0,i 0,i 0,i 0,i 0,s0,s0,V.int .u32 (0),s0,V.int .u32 (0)],[i 0,i 0,i 0,i 0,i 0,s0,s0,V.int .u32 (0),s0,V.int .u32 (0)],[i 0,i 0,i 0,i 0,i 0,s0,s0,V.int .u32 (0),s0,V.int .u32 (0)],[i 0,i 0,i 0,i 0,i 0,s0,s0,V.int .u32 (0),s0,V.int .u32 (0)],[i 0,i 0,i 0,i 0,i 0,s0,s0,V.int .u32 (0),s0,V.int .u32 (0)],[i 0,i 0,i 0,i 0,i 0,s0,s0,V.int .u32 (0),s0,V.int .u32 (0)]],V.sl [[i 0]],V.sl [[b0]]]], V.tup [V.agg [i 1,i 50,V.fresh [[i 1,i 20,i 20,V.sl [[i 0,i 0,i 0,i 0]],s0,s0]],V.fresh [[i 1,i 1,i 0,i 2,i 18]],b1,b0,b0,V.spare [[i 0,i 0,i 0,i 0,i 0,i 0,i 0,i 0,i 0,i 0,i 0,i 0,i 0,s0,b0,i 0,i 0,i 0,i 0,i 0,i 0,i 0,i 0,i 0,s0,b0,s0,b0]],V.fresh [[i 0],[i 0],[i 0],[i 0],[i 0],[i 0],[i 0],[i 0],[i 0],[i 0],[i 0],[i 0]],V.fresh [[b0],[b0],[b0],[b0],[b0],[b0],[b0],[b0],[b0],[b0],[b0],[b0]],V.fresh [[i 0,i 0,i 0,i 0,i 0,s0,s0,V.int .u32 (0),s0,V.int .u32 (0)],[i 0,i 0,i 0,i 0,i 0,s0,s0,V.int .u32 (0),s0,V.int .u32 (0)],[i 0,i 0,i 0,i 0,i 0,s0,s0,V.int .u32 (0),s0,V.int .u32 (0)],[i 0,i 0,i 0,i 0,i 0,s0,s0,V.int .u32 (0),s0,V.int .u32 (0)],[i 0,i 0,i 0,i 0,i 0,s0,s0,V.int .u32 (0),s0,V.int .u32 (0)],[i 0,i 0,i 0,i 0,i 0,s0,s0,V.int .u32 (0),s0,V.int .u32 (0)],[i 0,i 0,i 0,i 0,i 0,s0,s0,V.int .u32 (0),s0,V.int .u32 (0)],[i 0,i 0,i 0,i 0,i 0,s0,s0,V.int .u32 (0),s0,V.int .u32 (0)],[i 0,i 0,i 0,i 0,i 0,s0,s0,V.int .u32 (0),s0,V.int .u32 (0)],[i 0,i 0,i 0,i 0,i 0,s0,s0,V.int .u32 (0),s0,V.int .u32 (0)],[i 0,i 0,i 0,i 0,i 0,s0,s0,V.int .u32 (0),s0,V.int .u32 (0)],[i 0,i 0,i 0,i 0,i 0,s0,s0,V.int .u32 (0),s0,V.int .u32 (0)]],V.fresh [[i 0]],V.fresh [[b0]]],V.fresh [[i 0,i 2,i 0,i 0,i 0,i 0],[i 0,i 3,i 0,i 0,i 7,i 0]]], [])
def fx4 : List Fact := []
theorem r4 : runF (abi fx4) funs (orP prims (memoP [m3])) 100000 60 45 m4.2.1 = some m4.2.2 := by kernel_rfl
theorem w4 (ρ : Nat → Int) (hF : FactsOK (nf ρ) fx4) : Holds ρ m4 := holds_of (tbl := [m3]) hF ⟨w3 ρ (FactsOK.sub hF (by kernel_rfl)), trivial⟩ r4
def m5 : Entry := (1017, [], b1, [])
def fx5 : List Fact := []
theorem r5 : runF (abi fx5) funs (orP prims (memoP [m1, m2, m4])) 100000 60 1017 m5.2.1 = some m5.2.2 := by kernel_rfl
theorem w5 (ρ : Nat → Int) (hF : FactsOK (nf ρ) fx5) : Holds ρ m5 := holds_of (tbl := [m1, m2, m4]) hF ⟨w1 ρ (FactsOK.sub hF (by kernel_rfl)), ⟨w2 ρ (FactsOK.sub hF (by kernel_rfl)), ⟨w4 ρ (FactsOK.sub hF (by kernel_rfl)), trivial⟩⟩⟩ r5
def m6 : Entry := (1011, [V.sym .i64 (x 0) (-9223372036854775808) (9223372036854775807) (1) (0),V.sym .i64 (x 1) (-9223372036854775808) (9223372036854775807) (1) (0),V.sym .i64 (x 2) (-9223372036854775808) (9223372036854775807) (1) (0)], b1, [])
def fx6 : List Fact := [(true, x 0, (.con (1)), true)]
theorem r6 : runF (abi fx6) funs (orP prims (memoP [m5])) 100000 60 1011 m6.2.1 = some m6.2.2 := by kernel_rfl
theorem w6 (ρ : Nat → Int) (hF : FactsOK (nf ρ) fx6) : Holds ρ m6 := holds_of (tbl := [m5]) hF ⟨w5 ρ (FactsOK.sub hF (by kernel_rfl)), trivial⟩ r6
def m7 : Entry := (1011, [V.sym .i64 (x 0) (-9223372036854775808) (9223372036854775807) (1) (0),V.sym .i64 (x 1) (-9223372036854775808) (9223372036854775807) (1) (0),V.sym .i64 (x 2) (-9223372036854775808) (9223372036854775807) (1) (0)], b1, [])
def fx7 : List Fact := [(true, x 0, (.con (1)), false), (true, (.con (4611686018427387904)), x 0, true)]
theorem r7 : runF (abi fx7) funs (orP prims (memoP [m5])) 100000 60 1011 m7.2.1 = some m7.2.2 := by kernel_rfl
theorem w7 (ρ : Nat → Int) (hF : FactsOK (nf ρ) fx7) : Holds ρ m7 := holds_of (tbl := [m5]) hF ⟨w5 ρ (FactsOK.sub hF (by kernel_rfl)), trivial⟩ r7
def m8 : Entry := (35, [V.agg [V.sl [[i 0],[i 0],[i 0],[i 0],[i 0],[i 0],[i 0],[i 0],[i 0],[i 0],[i 0],[i 0]],V.sl [[b0],[b0],[b0],[b0],[b0],[b0],[b0],[b0],[b0],[b0],[b0],[b0]],V.sl [[i 0,i 0,i 0,i 0,i 0,s0,s0,V.int .u32 (0),s0,V.int .u32 (0)],[i 0,i 0,i 0,i 0,i 0,s0,s0,V.int .u32 (0),s0,V.int .u32 (0)],[i 0,i 0,i 0,i 0,i 0,s0,s0,V.int .u32 (0),s0,V.int .u32 (0)],[i 0,i 0,i 0,i 0,i 0,s0,s0,V.int .u32 (0),s0,V.int .u32 (0)],[i 0,i 0,i 0,i 0,i 0,s0,s0,V.int .u32 (0),s0,V.int .u32 (0)],[i 0,i 0,i 0,i 0,i 0,s0,s0,V.int .u32 (0),s0,V.int .u32 (0)],[i 0,i 0,i 0,i 0,i 0,s0,s0,V.int .u32 (0),s0,V.int .u32 (0)],[i 0,i 0,i 0,i 0,i 0,s0,s0,V.int .u32 (0),s0,V.int .u32 (0)],[i 0,i 0,i 0,i 0,i 0,s0,s0,V.int .u32 (0),s0,V.int .u32 (0)],[i 0,i 0,i 0,i 0,i 0,s0,s0,V.int .u32 (0),s0,V.int .u32 (0)],[i 0,i 0,i 0,i 0,i 0,s0,s0,V.int .u32 (0),s0,V.int .u32 (0)],[i 0,i 0,i 0,i 0,i 0,s0,s0,V.int .u32 (0),s0,V.int .u32 (0)]]],V.agg [V.sl [[i 0],[i 0],[i 0],[i 0],[i 0],[i 0],[i 0],[i 0],[i 0],[i 0],[i 0],[i 0]],V.sl [[b0],[b0],[b0],[b0],[b0],[b0],[b0],[b0],[b0],[b0],[b0],[b0]],V.sl [[i 0,i 0,i 0,i 0,i 0,s0,s0,V.int .u32 (0),s0,V.int .u32 (0)],[i 0,i 0,i 0,i 0,i 0,s0,s0,V.int .u32 (0),s0,V.int .u32 (0)],[i 0,i 0,i 0,i 0,i 0,s0,s0,V.int .u32 (0),s0,V.int .u32 (0)],[i 0,i 0,i 0,i 0,i 0,s0,s0,V.int .u32 (0),s0,V.int .u32 (0)],[i 0,i 0,i 0,i 0,i 0,s0,s0,V.int .u32 (0),s0,V.int .u32 (0)],[i 0,i 0,i 0,i 0,i 0,s0,s0,V.int .u32 (0),s0,V.int .u32 (0)],[i 0,i 0,i 0,i 0,i 0,s0,s0,V.int .u32 (0),s0,V.int .u32 (0)],[i 0,i 0,i 0,i 0,i 0,s0,s0,V.int .u32 (0),s0,V.int .u32 (0)],[i 0,i 0,i 0,i 0,i 0,s0,s0,V.int .u32 (0),s0,V.int .u32 (0)],[i 0,i 0,i 0,i 0,i 0,s0,s0,V.int .u32 (0),s0,V.int .u32 (0)],[i 0,i 0,i 0,i 0,i 0,s0,s0,V.int .u32 (0),s0,V.int .u32 (0)],[i 0,i 0,i 0,i 0,i 0,s0,s0,V.int .u32 (0),s0,V.int .u32 (0)]]]], b1, [])
def fx8 : List Fact := []
theorem r8 : runF (abi fx8) funs (orP prims (memoP [])) 100000 60 35 m8.2.1 = some m8.2.2 := by kernel_rfl
theorem w8 (ρ : Nat → Int) (hF : FactsOK (nf ρ) fx8) : Holds ρ m8 := holds_of (tbl := []) hF trivial r8
def m9 : Entry := (1011, [V.sym .i64 (x 0) (-9223372036854775808) (9223372036854775807) (1) (0),V.sym .i64 (x 1) (-9223372036854775808) (9223372036854775807) (1) (0),V.sym .i64 (x 2) (-9223372036854775808) (9223372036854775807) (1) (0)], b1, [])
def fx9 : List Fact := [(true, x 0, (.con (1)), false), (true, (.con (4611686018427387904)), x 0, false), (true, x 1, (.con (0)), true)]
theorem r9 : runF (abi fx9) funs (orP prims (memoP [m5, m8])) 100000 60 1011 m9.2.1 = some m9.2.2 := by kernel_rfl
theorem w9 (ρ : Nat → Int) (hF : FactsOK (nf ρ) fx9) : Holds ρ m9 := holds_of (tbl := [m5, m8]) hF ⟨w5 ρ (FactsOK.sub hF (by kernel_rfl)), ⟨w8 ρ (FactsOK.sub hF (by kernel_rfl)), trivial⟩⟩ r9
def m10 : Entry := (1011, [V.sym .i64 (x 0) (-9223372036854775808) (9223372036854775807) (1) (0),V.sym .i64 (x 1) (-9223372036854775808) (9223372036854775807) (1) (0),V.sym .i64 (x 2) (-9223372036854775808) (9223372036854775807) (1) (0)], b1, [])
def fx10 : List Fact := [(true, x 0, (.con (1)), false), (true, (.con (4611686018427387904)), x 0, false), (true, x 1, (.con (0)), false)]
theorem r10 : runF (abi fx10) funs (orP prims (memoP [m5, m8])) 100000 60 1011 m10.2.1 = some m10.2.2 := by kernel_rfl
theorem w10 (ρ : Nat → Int) (hF : FactsOK (nf ρ) fx10) : Holds ρ m10 := holds_of (tbl := [m5, m8]) hF ⟨w5 ρ (FactsOK.sub hF (by kernel_rfl)), ⟨w8 ρ (FactsOK.sub hF (by kernel_rfl)), trivial⟩⟩ r10
theorem told_true (a0 : Int) (a1 : Int) (a2 : Int) (w0 : (Lit.int .i64 a0).wf = true) (w1 : (Lit.int .i64 a1).wf = true) (w2 : (Lit.int .i64 a2).wf = true) (w : World) :
    Calls Tryz.prog 3 #[.int .i64 a0, .int .i64 a1, .int .i64 a2] w fun e w' => e = .returned (.bool true) ∧ CallKeeps w w' [] := by
  let ρ : Nat → Int := fun k => if k = 0 then a0 else if k = 1 then a1 else if k = 2 then a2 else 0
  have h0 : IntKind.min .i64 ≤ a0 ∧ a0 ≤ IntKind.max .i64 := by simpa [Lit.wf] using w0
  have m00 : IntKind.min .i64 = -9223372036854775808 := rfl
  have m01 : IntKind.max .i64 = 9223372036854775807 := rfl
  rw [m00, m01] at h0
  have h1 : IntKind.min .i64 ≤ a1 ∧ a1 ≤ IntKind.max .i64 := by simpa [Lit.wf] using w1
  have m10 : IntKind.min .i64 = -9223372036854775808 := rfl
  have m11 : IntKind.max .i64 = 9223372036854775807 := rfl
  rw [m10, m11] at h1
  have h2 : IntKind.min .i64 ≤ a2 ∧ a2 ≤ IntKind.max .i64 := by simpa [Lit.wf] using w2
  have m20 : IntKind.min .i64 = -9223372036854775808 := rfl
  have m21 : IntKind.max .i64 = 9223372036854775807 := rfl
  rw [m20, m21] at h2
  have go : ∀ (l : List V), XVL (nf ρ) ι00 w (fun b => False ∨ b ∈ []) l [.int .i64 a0, .int .i64 a1, .int .i64 a2] [] → ptrs l [.int .i64 a0, .int .i64 a1, .int .i64 a2] = [] → rebox l [] = [] → CallsOK Tryz.prog (nf ρ) 1011 l (.bool true) [] →
      Calls Tryz.prog 3 #[.int .i64 a0, .int .i64 a1, .int .i64 a2] w fun e w' => e = .returned (.bool true) ∧ CallKeeps w w' [] := by
    intro l hx hp hb hc
    refine (hc 3 rfl w (fun _ => False) _ [] (fun _ h => h.elim) (fun _ h => by cases h) List.nodup_nil hx).mono fun e w' ⟨c, S', he, _, _, hk, hx⟩ => ?_
    obtain ⟨c', cs, O1, O2, e1, e2, ⟨_, hv⟩, _⟩ := hx
    cases e1
    exact ⟨by rw [he, hv], hk⟩
  have cases : ((-9223372036854775808 ≤ a0 ∧ a0 ≤ 9223372036854775807 ∧ a0 % 1 = 0) ∧ (-9223372036854775808 ≤ a1 ∧ a1 ≤ 9223372036854775807 ∧ a1 % 1 = 0) ∧ (-9223372036854775808 ≤ a2 ∧ a2 ≤ 9223372036854775807 ∧ a2 % 1 = 0)) := by omega
  rcases cases with ⟨⟨p0, q0, r0⟩, ⟨p1, q1, r1⟩, ⟨p2, q2, r2⟩⟩
  · have f0 : FactsOK (nf ρ) [] := FactsOK.nil
    by_cases h0 : evalE (nf ρ) (x 0) < evalE (nf ρ) ((.con (1)))
    · have f1 := FactsOK.ltT h0 f0
      exact go [V.sym .i64 (x 0) (-9223372036854775808) (9223372036854775807) (1) (0), V.sym .i64 (x 1) (-9223372036854775808) (9223372036854775807) (1) (0), V.sym .i64 (x 2) (-9223372036854775808) (9223372036854775807) (1) (0)] ⟨_, _, [], [], rfl, rfl, ⟨rfl, rfl, p0, q0, r0⟩, ⟨_, _, [], [], rfl, rfl, ⟨rfl, rfl, p1, q1, r1⟩, ⟨_, _, [], [], rfl, rfl, ⟨rfl, rfl, p2, q2, r2⟩, ⟨rfl, rfl⟩⟩⟩⟩ rfl rfl (w6 ρ (FactsOK.sub f1 (by kernel_rfl)))
    · have f1 := FactsOK.ltF h0 f0
      by_cases h1 : evalE (nf ρ) ((.con (4611686018427387904))) < evalE (nf ρ) (x 0)
      · have f2 := FactsOK.ltT h1 f1
        exact go [V.sym .i64 (x 0) (-9223372036854775808) (9223372036854775807) (1) (0), V.sym .i64 (x 1) (-9223372036854775808) (9223372036854775807) (1) (0), V.sym .i64 (x 2) (-9223372036854775808) (9223372036854775807) (1) (0)] ⟨_, _, [], [], rfl, rfl, ⟨rfl, rfl, p0, q0, r0⟩, ⟨_, _, [], [], rfl, rfl, ⟨rfl, rfl, p1, q1, r1⟩, ⟨_, _, [], [], rfl, rfl, ⟨rfl, rfl, p2, q2, r2⟩, ⟨rfl, rfl⟩⟩⟩⟩ rfl rfl (w7 ρ (FactsOK.sub f2 (by kernel_rfl)))
      · have f2 := FactsOK.ltF h1 f1
        by_cases h2 : evalE (nf ρ) (x 1) < evalE (nf ρ) ((.con (0)))
        · have f3 := FactsOK.ltT h2 f2
          exact go [V.sym .i64 (x 0) (-9223372036854775808) (9223372036854775807) (1) (0), V.sym .i64 (x 1) (-9223372036854775808) (9223372036854775807) (1) (0), V.sym .i64 (x 2) (-9223372036854775808) (9223372036854775807) (1) (0)] ⟨_, _, [], [], rfl, rfl, ⟨rfl, rfl, p0, q0, r0⟩, ⟨_, _, [], [], rfl, rfl, ⟨rfl, rfl, p1, q1, r1⟩, ⟨_, _, [], [], rfl, rfl, ⟨rfl, rfl, p2, q2, r2⟩, ⟨rfl, rfl⟩⟩⟩⟩ rfl rfl (w9 ρ (FactsOK.sub f3 (by kernel_rfl)))
        · have f3 := FactsOK.ltF h2 f2
          exact go [V.sym .i64 (x 0) (-9223372036854775808) (9223372036854775807) (1) (0), V.sym .i64 (x 1) (-9223372036854775808) (9223372036854775807) (1) (0), V.sym .i64 (x 2) (-9223372036854775808) (9223372036854775807) (1) (0)] ⟨_, _, [], [], rfl, rfl, ⟨rfl, rfl, p0, q0, r0⟩, ⟨_, _, [], [], rfl, rfl, ⟨rfl, rfl, p1, q1, r1⟩, ⟨_, _, [], [], rfl, rfl, ⟨rfl, rfl, p2, q2, r2⟩, ⟨rfl, rfl⟩⟩⟩⟩ rfl rfl (w10 ρ (FactsOK.sub f3 (by kernel_rfl)))
end Fo.Tryz

namespace Go.Proofs.YtjpjdmbomljdcaaGreat.kernNone
open Go Go.ChangeShapes Go.WideShapes Go.ChangeAt Go.RowKit
set_option linter.unusedVariables false

theorem own : ownKnob Tryz.prog.godebug = none := by kernel_rfl
theorem kids : Kids Tryz.prog (· < Tryz.prog.types.size) := kids_rows (by kernel_rfl) (by kernel_rfl)
theorem full : ∀ t e, t < Tryz.prog.types.size → Tryz.prog.underlying t = some (.slice e) → 0 < Tryz.prog.cellsOf e := slices_full_of Tryz.prog (by kernel_rfl)

set_option maxRecDepth 100000 in
theorem lifted (os : Os) (started : os.Started) (H : Type) (enc : TypeId × Value → H) :
    ReturnsInHanded {} Tryz.checked os 3 .any (Rows.kernNoneSpec.pre6 enc Tryz.prog Tryz.f3 Rows.kernNoneRow.domain false) (Rows.kernNoneSpec.post enc Tryz.prog Tryz.f3 false true false false) := by
  refine returnsInHanded_of_change (C := Tryz.checked) own started (by kernel_rfl) Tryz.func3
    (ChangeSpec.witness6 (enc := enc) (C := Tryz.checked) false ⟨#[], #[.int .i64 0, .int .i64 0, .int .i64 0], []⟩ 8 (by kernel_rfl) (by kernel_rfl) (by kernel_rfl) (by kernel_rfl)) ?_
  intro W base args ds gs before hval0 hW hcnd _
  have hval : ∀ (j : Nat) t v, Tryz.f3.params[j]? = some t → args[j]? = some v → Value.okWide Tryz.prog W .any base t v := hval0
  have hW' := hW
  obtain ⟨p, q, hA0, hV, rfl, hfz, hnd⟩ := hW
  have hA : DataW.TrodAll enc Tryz.prog W 0 (fun _ => true) true Tryz.f3.params.toList args.toList ds p := hA0
  rw [Tryz.params3] at hA hval
  obtain ⟨v0, vs0, d0, ds0, p0, q0, hargs, rfl, rfl, h0, r0⟩ := trodAll_cons hA
  obtain ⟨v1, vs1, d1, ds1, p1, q1, rfl, rfl, rfl, h1, r1⟩ := trodAll_cons r0
  obtain ⟨v2, vs2, d2, ds2, p2, q2, rfl, rfl, rfl, h2, r2⟩ := trodAll_cons r1
  obtain ⟨rfl, rfl, rfl⟩ := trodAll_nil r2
  obtain rfl : args = #[v0, v1, v2] := by cases args; simp_all
  obtain ⟨rfl, rfl⟩ := trodVars_none hV
  obtain ⟨a0, rfl, rfl, rfl, w0⟩ := open_int Tryz.underlying2 (hval 0 2 v0 rfl rfl) h0
  obtain ⟨a1, rfl, rfl, rfl, w1⟩ := open_int Tryz.underlying3 (hval 1 3 v1 rfl rfl) h1
  obtain ⟨a2, rfl, rfl, rfl, w2⟩ := open_int Tryz.underlying2 (hval 2 2 v2 rfl rfl) h2
  refine (Fo.Tryz.told_true a0 a1 a2 w0 w1 w2 W).mono fun e W' ⟨he, hg⟩ => ?_
  subst he
  exact ⟨_, rfl, Fo.law_post kids full (by rw [Tryz.params3]; decide) rfl hW' rfl rfl rfl (by kernel_rfl) Tryz.underlying4 hg⟩

theorem over : Rows.kernNoneRow.holds Tryz.pinned (OpenSpec.ofChange Rows.kernNoneSpec) :=
  OpenClaim.holds_of_wide 3 Tryz.f3 rfl rfl rfl rfl rfl rfl rfl ⟨rfl, rfl, rfl, rfl, rfl⟩ rfl rfl rfl rfl rfl (by kernel_rfl) Tryz.func3 (by kernel_rfl)
    (of_decide_eq_true (by kernel_rfl)) (by unfold Func.isWrapper; first | (rw [if_pos (by decide +kernel)]; kernel_rfl) | (rw [if_neg (by decide +kernel)]; exact ⟨rfl, rfl⟩))
    (fun os started H enc _ => lifted os started H enc)

theorem proved : Rows.KernNoneSaid := over
end Go.Proofs.YtjpjdmbomljdcaaGreat.kernNone
