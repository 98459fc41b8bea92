/-
  CallForms: a closed statement: it returns true. No condition.
-/
import Derived.Test.YtljbbnolcncbeaaGreatCallFormsFuns
import Derived.Test.YtljbbnolcncbeaaGreatFoA35
import Derived.Test.YtljbbnolcncbeaaGreatFoA43
import Derived.Test.YtljbbnolcncbeaaGreatRows
import Derived.KernelRfl
set_option maxRecDepth 100000
namespace Fo.Tryz
open Go Go.Proofs
def funs : Nat → Option (AFun × Bool)
  | 22 => some (F22, true)
  | 42 => some (F42, true)
  | 43 => some (F43, true)
  | 44 => some (F44, true)
  | 47 => some (F47, true)
  | 70 => some (F70, true)
  | 71 => some (F71, true)
  | 72 => some (F72, true)
  | 73 => some (F73, true)
  | 74 => some (F74, true)
  | 75 => some (F75, true)
  | 76 => some (F76, true)
  | 77 => some (F77, true)
  | 78 => some (F78, true)
  | 79 => some (F79, true)
  | 80 => some (F80, true)
  | 81 => some (F81, true)
  | 82 => some (F82, true)
  | 87 => some (F87, true)
  | 88 => some (F88, true)
  | 89 => some (F89, true)
  | 90 => some (F90, true)
  | 91 => some (F91, true)
  | 92 => some (F92, true)
  | 121 => some (F121, true)
  | 122 => some (F122, true)
  | 123 => some (F123, true)
  | 124 => some (F124, true)
  | 125 => some (F125, true)
  | 126 => some (F126, true)
  | 127 => some (F127, true)
  | 128 => some (F128, true)
  | 129 => some (F129, true)
  | 130 => some (F130, true)
  | 131 => some (F131, true)
  | 138 => some (F138, true)
  | 142 => some (F142, true)
  | 143 => some (F143, true)
  | 146 => some (F146, true)
  | 150 => some (F150, true)
  | 151 => some (F151, true)
  | 152 => some (F152, true)
  | 154 => some (F154, true)
  | 155 => some (F155, true)
  | 191 => some (F191, true)
  | 192 => some (F192, true)
  | 193 => some (F193, true)
  | 194 => some (F194, true)
  | 195 => some (F195, true)
  | 196 => some (F196, true)
  | 197 => some (F197, true)
  | 198 => some (F198, true)
  | 199 => some (F199, true)
  | 200 => some (F200, true)
  | 201 => some (F201, true)
  | 202 => some (F202, true)
  | 203 => some (F203, true)
  | 204 => some (F204, true)
  | 205 => some (F205, true)
  | 206 => some (F206, true)
  | 207 => some (F207, true)
  | 208 => some (F208, true)
  | 209 => some (F209, true)
  | 211 => some (F211, true)
  | 212 => some (F212, true)
  | 213 => some (F213, true)
  | 214 => some (F214, true)
  | 215 => some (F215, true)
  | 230 => some (F230, true)
  | 246 => some (F246, true)
  | 247 => some (F247, true)
  | 248 => some (F248, true)
  | 249 => some (F249, true)
  | 250 => some (F250, true)
  | 251 => some (F251, true)
  | 253 => some (F253, true)
  | 254 => some (F254, true)
  | 255 => some (F255, true)
  | 256 => some (F256, true)
  | 257 => some (F257, true)
  | 258 => some (F258, true)
  | 259 => some (F259, true)
  | 260 => some (F260, true)
  | 261 => some (F261, true)
  | 262 => some (F262, true)
  | 263 => some (F263, true)
  | 264 => some (F264, true)
  | 265 => some (F265, true)
  | 266 => some (F266, true)
  | 267 => some (F267, true)
  | 268 => some (F268, true)
  | 269 => some (F269, true)
  | 274 => some (F274, true)
  | 289 => some (F289, true)
  | 300 => some (F300, true)
  | 301 => some (F301, true)
  | 302 => some (F302, true)
  | 303 => some (F303, true)
  | 304 => some (F304, true)
  | 305 => some (F305, true)
  | 306 => some (F306, true)
  | 307 => some (F307, true)
  | 308 => some (F308, true)
  | 309 => some (F309, true)
  | 310 => some (F310, true)
  | 311 => some (F311, true)
  | 312 => some (F312, true)
  | 313 => some (F313, true)
  | 314 => some (F314, true)
  | 315 => some (F315, true)
  | 331 => some (F331, true)
  | 332 => some (F332, true)
  | 333 => some (F333, true)
  | 334 => some (F334, true)
  | 335 => some (F335, true)
  | 336 => some (F336, true)
  | 337 => some (F337, true)
  | 338 => some (F338, true)
  | 339 => some (F339, true)
  | 340 => some (F340, true)
  | 341 => some (F341, true)
  | 342 => some (F342, true)
  | 343 => some (F343, true)
  | 344 => some (F344, true)
  | 345 => some (F345, true)
  | 346 => some (F346, true)
  | 1006 => some (F1006, true)
  | 1008 => some (F1008, true)
  | _ => none
def clones : Nat → Option (Nat × Nat × List V)
  | 132 => some (6, 96, [(.int .i64 0), (.int .i64 0), (.int .i64 0), (.sl []), (.sl []), (.sl [])])
  | 133 => some (5, 40, [(.int .i64 0), (.int .i64 0), (.int .i64 0), (.int .i64 0), (.int .i64 0)])
  | 134 => some (28, 272, [(.int .i64 0), (.int .i64 0), (.int .i64 0), (.int .i64 0), (.int .i64 0), (.int .i64 0), (.int .i64 0), (.int .i64 0), (.int .i64 0), (.int .i64 0), (.int .i64 0), (.int .i64 0), (.int .i64 0), (.sl []), (.bool false), (.int .i64 0), (.int .i64 0), (.int .i64 0), (.int .i64 0), (.int .i64 0), (.int .i64 0), (.int .i64 0), (.int .i64 0), (.int .i64 0), (.sl []), (.bool false), (.sl []), (.bool false)])
  | 135 => some (4, 32, [(.int .i64 0), (.int .i64 0), (.int .i64 0), (.int .i64 0)])
  | 136 => some (3, 24, [(.int .i64 0), (.int .i64 0), (.int .i64 0)])
  | 137 => some (1, 8, [(.int .i64 0)])
  | 149 => some (1, 1, [(.bool false)])
  | 210 => some (2, 16, [(.int .i64 0), (.int .u32 0)])
  | 229 => some (1, 8, [(.int .i64 0)])
  | _ => none
theorem enters_all : ∀ f g, nf f = some g → enters Tryz.prog g = true := by
  intro f g h
  unfold nf at h
  split at h <;> first | (cases h; kernel_rfl) | cases h
theorem funs_ok : ∀ f F gv, funs f = some (F, gv) → ∃ g fn, nf f = some g ∧ Tryz.prog.funcs[g]? = some fn ∧ chkFun Tryz.prog nf abi fn F = true := by
  intro f F gv h
  unfold funs at h
  split at h
  · cases h; exact ⟨_, _, rfl, Tryz.func6, k22⟩
  · cases h; exact ⟨_, _, rfl, Tryz.func12, k42⟩
  · cases h; exact ⟨_, _, rfl, Tryz.func13, k43⟩
  · cases h; exact ⟨_, _, rfl, Tryz.func7, k44⟩
  · cases h; exact ⟨_, _, rfl, Tryz.func30, k47⟩
  · cases h; exact ⟨_, _, rfl, Tryz.func26, k70⟩
  · cases h; exact ⟨_, _, rfl, Tryz.func14, k71⟩
  · cases h; exact ⟨_, _, rfl, Tryz.func15, k72⟩
  · cases h; exact ⟨_, _, rfl, Tryz.func16, k73⟩
  · cases h; exact ⟨_, _, rfl, Tryz.func17, k74⟩
  · cases h; exact ⟨_, _, rfl, Tryz.func18, k75⟩
  · cases h; exact ⟨_, _, rfl, Tryz.func19, k76⟩
  · cases h; exact ⟨_, _, rfl, Tryz.func20, k77⟩
  · cases h; exact ⟨_, _, rfl, Tryz.func21, k78⟩
  · cases h; exact ⟨_, _, rfl, Tryz.func22, k79⟩
  · cases h; exact ⟨_, _, rfl, Tryz.func23, k80⟩
  · cases h; exact ⟨_, _, rfl, Tryz.func24, k81⟩
  · cases h; exact ⟨_, _, rfl, Tryz.func51, k82⟩
  · cases h; exact ⟨_, _, rfl, Tryz.func47, k87⟩
  · cases h; exact ⟨_, _, rfl, Tryz.func64, k88⟩
  · cases h; exact ⟨_, _, rfl, Tryz.func58, k89⟩
  · cases h; exact ⟨_, _, rfl, Tryz.func59, k90⟩
  · cases h; exact ⟨_, _, rfl, Tryz.func60, k91⟩
  · cases h; exact ⟨_, _, rfl, Tryz.func61, k92⟩
  · cases h; exact ⟨_, _, rfl, Tryz.func27, k121⟩
  · cases h; exact ⟨_, _, rfl, Tryz.func28, k122⟩
  · cases h; exact ⟨_, _, rfl, Tryz.func29, k123⟩
  · cases h; exact ⟨_, _, rfl, Tryz.func31, k124⟩
  · cases h; exact ⟨_, _, rfl, Tryz.func32, k125⟩
  · cases h; exact ⟨_, _, rfl, Tryz.func33, k126⟩
  · cases h; exact ⟨_, _, rfl, Tryz.func34, k127⟩
  · cases h; exact ⟨_, _, rfl, Tryz.func35, k128⟩
  · cases h; exact ⟨_, _, rfl, Tryz.func36, k129⟩
  · cases h; exact ⟨_, _, rfl, Tryz.func37, k130⟩
  · cases h; exact ⟨_, _, rfl, Tryz.func38, k131⟩
  · cases h; exact ⟨_, _, rfl, Tryz.func96, k138⟩
  · cases h; exact ⟨_, _, rfl, Tryz.func110, k142⟩
  · cases h; exact ⟨_, _, rfl, Tryz.func97, k143⟩
  · cases h; exact ⟨_, _, rfl, Tryz.func52, k146⟩
  · cases h; exact ⟨_, _, rfl, Tryz.func65, k150⟩
  · cases h; exact ⟨_, _, rfl, Tryz.func102, k151⟩
  · cases h; exact ⟨_, _, rfl, Tryz.func103, k152⟩
  · cases h; exact ⟨_, _, rfl, Tryz.func105, k154⟩
  · cases h; exact ⟨_, _, rfl, Tryz.func106, k155⟩
  · cases h; exact ⟨_, _, rfl, Tryz.func123, k191⟩
  · cases h; exact ⟨_, _, rfl, Tryz.func41, k192⟩
  · cases h; exact ⟨_, _, rfl, Tryz.func42, k193⟩
  · cases h; exact ⟨_, _, rfl, Tryz.func43, k194⟩
  · cases h; exact ⟨_, _, rfl, Tryz.func44, k195⟩
  · cases h; exact ⟨_, _, rfl, Tryz.func45, k196⟩
  · cases h; exact ⟨_, _, rfl, Tryz.func46, k197⟩
  · cases h; exact ⟨_, _, rfl, Tryz.func48, k198⟩
  · cases h; exact ⟨_, _, rfl, Tryz.func49, k199⟩
  · cases h; exact ⟨_, _, rfl, Tryz.func50, k200⟩
  · cases h; exact ⟨_, _, rfl, Tryz.func53, k201⟩
  · cases h; exact ⟨_, _, rfl, Tryz.func54, k202⟩
  · cases h; exact ⟨_, _, rfl, Tryz.func55, k203⟩
  · cases h; exact ⟨_, _, rfl, Tryz.func56, k204⟩
  · cases h; exact ⟨_, _, rfl, Tryz.func57, k205⟩
  · cases h; exact ⟨_, _, rfl, Tryz.func62, k206⟩
  · cases h; exact ⟨_, _, rfl, Tryz.func63, k207⟩
  · cases h; exact ⟨_, _, rfl, Tryz.func66, k208⟩
  · cases h; exact ⟨_, _, rfl, Tryz.func67, k209⟩
  · cases h; exact ⟨_, _, rfl, Tryz.func69, k211⟩
  · cases h; exact ⟨_, _, rfl, Tryz.func70, k212⟩
  · cases h; exact ⟨_, _, rfl, Tryz.func71, k213⟩
  · cases h; exact ⟨_, _, rfl, Tryz.func72, k214⟩
  · cases h; exact ⟨_, _, rfl, Tryz.func137, k215⟩
  · cases h; exact ⟨_, _, rfl, Tryz.func138, k230⟩
  · cases h; exact ⟨_, _, rfl, Tryz.func154, k246⟩
  · cases h; exact ⟨_, _, rfl, Tryz.func155, k247⟩
  · cases h; exact ⟨_, _, rfl, Tryz.func77, k248⟩
  · cases h; exact ⟨_, _, rfl, Tryz.func78, k249⟩
  · cases h; exact ⟨_, _, rfl, Tryz.func79, k250⟩
  · cases h; exact ⟨_, _, rfl, Tryz.func80, k251⟩
  · cases h; exact ⟨_, _, rfl, Tryz.func83, k253⟩
  · cases h; exact ⟨_, _, rfl, Tryz.func84, k254⟩
  · cases h; exact ⟨_, _, rfl, Tryz.func85, k255⟩
  · cases h; exact ⟨_, _, rfl, Tryz.func86, k256⟩
  · cases h; exact ⟨_, _, rfl, Tryz.func89, k257⟩
  · cases h; exact ⟨_, _, rfl, Tryz.func90, k258⟩
  · cases h; exact ⟨_, _, rfl, Tryz.func91, k259⟩
  · cases h; exact ⟨_, _, rfl, Tryz.func98, k260⟩
  · cases h; exact ⟨_, _, rfl, Tryz.func99, k261⟩
  · cases h; exact ⟨_, _, rfl, Tryz.func100, k262⟩
  · cases h; exact ⟨_, _, rfl, Tryz.func101, k263⟩
  · cases h; exact ⟨_, _, rfl, Tryz.func107, k264⟩
  · cases h; exact ⟨_, _, rfl, Tryz.func109, k265⟩
  · cases h; exact ⟨_, _, rfl, Tryz.func111, k266⟩
  · cases h; exact ⟨_, _, rfl, Tryz.func112, k267⟩
  · cases h; exact ⟨_, _, rfl, Tryz.func113, k268⟩
  · cases h; exact ⟨_, _, rfl, Tryz.func114, k269⟩
  · cases h; exact ⟨_, _, rfl, Tryz.func162, k274⟩
  · cases h; exact ⟨_, _, rfl, Tryz.func170, k289⟩
  · cases h; exact ⟨_, _, rfl, Tryz.func122, k300⟩
  · cases h; exact ⟨_, _, rfl, Tryz.func124, k301⟩
  · cases h; exact ⟨_, _, rfl, Tryz.func125, k302⟩
  · cases h; exact ⟨_, _, rfl, Tryz.func126, k303⟩
  · cases h; exact ⟨_, _, rfl, Tryz.func127, k304⟩
  · cases h; exact ⟨_, _, rfl, Tryz.func128, k305⟩
  · cases h; exact ⟨_, _, rfl, Tryz.func129, k306⟩
  · cases h; exact ⟨_, _, rfl, Tryz.func130, k307⟩
  · cases h; exact ⟨_, _, rfl, Tryz.func131, k308⟩
  · cases h; exact ⟨_, _, rfl, Tryz.func132, k309⟩
  · cases h; exact ⟨_, _, rfl, Tryz.func133, k310⟩
  · cases h; exact ⟨_, _, rfl, Tryz.func134, k311⟩
  · cases h; exact ⟨_, _, rfl, Tryz.func135, k312⟩
  · cases h; exact ⟨_, _, rfl, Tryz.func136, k313⟩
  · cases h; exact ⟨_, _, rfl, Tryz.func139, k314⟩
  · cases h; exact ⟨_, _, rfl, Tryz.func140, k315⟩
  · cases h; exact ⟨_, _, rfl, Tryz.func156, k331⟩
  · cases h; exact ⟨_, _, rfl, Tryz.func157, k332⟩
  · cases h; exact ⟨_, _, rfl, Tryz.func158, k333⟩
  · cases h; exact ⟨_, _, rfl, Tryz.func159, k334⟩
  · cases h; exact ⟨_, _, rfl, Tryz.func160, k335⟩
  · cases h; exact ⟨_, _, rfl, Tryz.func161, k336⟩
  · cases h; exact ⟨_, _, rfl, Tryz.func163, k337⟩
  · cases h; exact ⟨_, _, rfl, Tryz.func164, k338⟩
  · cases h; exact ⟨_, _, rfl, Tryz.func165, k339⟩
  · cases h; exact ⟨_, _, rfl, Tryz.func166, k340⟩
  · cases h; exact ⟨_, _, rfl, Tryz.func167, k341⟩
  · cases h; exact ⟨_, _, rfl, Tryz.func168, k342⟩
  · cases h; exact ⟨_, _, rfl, Tryz.func169, k343⟩
  · cases h; exact ⟨_, _, rfl, Tryz.func189, k344⟩
  · cases h; exact ⟨_, _, rfl, Tryz.func190, k345⟩
  · cases h; exact ⟨_, _, rfl, Tryz.func191, k346⟩
  · cases h; exact ⟨_, _, rfl, Tryz.func3, k1006⟩
  · cases h; exact ⟨_, _, rfl, Tryz.func5, k1008⟩
  · cases h
theorem clones_ok : ∀ f n b z, clones f = some (n, b, z) → ∃ g fn, nf f = some g ∧ Tryz.prog.funcs[g]? = some fn ∧ chkFun Tryz.prog nf abi fn (cloneOf n b z) = true := by
  intro f n b z h
  unfold clones at h
  split at h
  · cases h; exact ⟨_, _, rfl, Tryz.func92, k132⟩
  · cases h; exact ⟨_, _, rfl, Tryz.func93, k133⟩
  · cases h; exact ⟨_, _, rfl, Tryz.func94, k134⟩
  · cases h; exact ⟨_, _, rfl, Tryz.func81, k135⟩
  · cases h; exact ⟨_, _, rfl, Tryz.func95, k136⟩
  · cases h; exact ⟨_, _, rfl, Tryz.func87, k137⟩
  · cases h; exact ⟨_, _, rfl, Tryz.func88, k149⟩
  · cases h; exact ⟨_, _, rfl, Tryz.func68, k210⟩
  · cases h; exact ⟨_, _, rfl, Tryz.func108, k229⟩
  · cases h
abbrev i (n : Int) : V := .int .i64 n
abbrev b0 : V := .bool false
abbrev b1 : V := .bool true
abbrev s0 : V := .sl []
abbrev f0 : V := .fresh []
def Holds (e : Entry) : Prop := CallsOK Tryz.prog nf e.1 e.2.1 e.2.2.1 e.2.2.2
theorem holds_of {tbl : List Entry} {e : Entry} (k : Known Tryz.prog nf tbl) (h : runF abi funs (orP (cloneP clones) (memoP tbl)) 100000 60 e.1 e.2.1 = some e.2.2) : Holds e :=
  runF_ok enters_all (by kernel_rfl) (orP_ok (cloneP_ok enters_all (by kernel_rfl) clones_ok) (memoP_ok tbl k)) funs_ok 60 e.1 e.2.1 _ _ h
def m0 : Entry := (192, [V.agg [i 1,i 20,i 20,V.sl [[i 0,i 0,i 0,i 0]],s0,s0]], i 0, [])
theorem r0 : runF abi funs (orP (cloneP clones) (memoP [])) 100000 60 192 m0.2.1 = some m0.2.2 := by kernel_rfl
theorem w0 : Holds m0 := holds_of (tbl := []) trivial r0
def m1 : Entry := (254, [V.sl [[i 1,i 20,i 20,V.sl [[i 0,i 0,i 0,i 0]],s0,s0]],i 0,i 50], V.tup [i 2,i 2,i 0], [])
theorem r1 : runF abi funs (orP (cloneP clones) (memoP [m0])) 100000 60 254 m1.2.1 = some m1.2.2 := by kernel_rfl
theorem w1 : Holds m1 := holds_of (tbl := [m0]) ⟨w0, trivial⟩ r1
def m2 : Entry := (44, [V.agg [i 0,i 50,s0,s0,b0,b0,b0,s0,V.sl [[i 0],[i 0],[i 0],[i 0],[i 0],[i 0],[i 0],[i 0],[i 0],[i 0],[i 0],[i 0]],V.sl [[b0],[b0],[b0],[b0],[b0],[b0],[b0],[b0],[b0],[b0],[b0],[b0]],V.sl [[i 0,i 0,i 0,i 0,i 0,s0,s0,V.int .u32 (0),s0,V.int .u32 (0)],[i 0,i 0,i 0,i 0,i 0,s0,s0,V.int .u32 (0),s0,V.int .u32 (0)],[i 0,i 0,i 0,i 0,i 0,s0,s0,V.int .u32 (0),s0,V.int .u32 (0)],[i 0,i 0,i 0,i 0,i 0,s0,s0,V.int .u32 (0),s0,V.int .u32 (0)],[i 0,i 0,i 0,i 0,i 0,s0,s0,V.int .u32 (0),s0,V.int .u32 (0)],[i 0,i 0,i 0,i 0,i 0,s0,s0,V.int .u32 (0),s0,V.int .u32 (0)],[i 0,i 0,i 0,i 0,i 0,s0,s0,V.int .u32 (0),s0,V.int .u32 (0)],[i 0,i 0,i 0,i 0,i 0,s0,s0,V.int .u32 (0),s0,V.int .u32 (0)],[i 0,i 0,i 0,i 0,i 0,s0,s0,V.int .u32 (0),s0,V.int .u32 (0)],[i 0,i 0,i 0,i 0,i 0,s0,s0,V.int .u32 (0),s0,V.int .u32 (0)],[i 0,i 0,i 0,i 0,i 0,s0,s0,V.int .u32 (0),s0,V.int .u32 (0)],[i 0,i 0,i 0,i 0,i 0,s0,s0,V.int .u32 (0),s0,V.int .u32 (0)]],s0,s0],V.agg [i 1,i 1,i 20,i 20,V.sl [[i 0,i 0,i 0,i 0]],s0,s0,i 0,i 0,i 0,i 0,V.int .u32 (0)]], V.tup [V.agg [i 0,i 50,V.fresh [[i 1,i 20,i 20,V.sl [[i 0,i 0,i 0,i 0]],s0,s0]],V.fresh [[i 1,i 1,i 0,i 2,i 18]],b0,b0,b0,f0,V.fresh [[i 0],[i 0],[i 0],[i 0],[i 0],[i 0],[i 0],[i 0],[i 0],[i 0],[i 0],[i 0]],V.fresh [[b0],[b0],[b0],[b0],[b0],[b0],[b0],[b0],[b0],[b0],[b0],[b0]],V.fresh [[i 0,i 0,i 0,i 0,i 0,s0,s0,V.int .u32 (0),s0,V.int .u32 (0)],[i 0,i 0,i 0,i 0,i 0,s0,s0,V.int .u32 (0),s0,V.int .u32 (0)],[i 0,i 0,i 0,i 0,i 0,s0,s0,V.int .u32 (0),s0,V.int .u32 (0)],[i 0,i 0,i 0,i 0,i 0,s0,s0,V.int .u32 (0),s0,V.int .u32 (0)],[i 0,i 0,i 0,i 0,i 0,s0,s0,V.int .u32 (0),s0,V.int .u32 (0)],[i 0,i 0,i 0,i 0,i 0,s0,s0,V.int .u32 (0),s0,V.int .u32 (0)],[i 0,i 0,i 0,i 0,i 0,s0,s0,V.int .u32 (0),s0,V.int .u32 (0)],[i 0,i 0,i 0,i 0,i 0,s0,s0,V.int .u32 (0),s0,V.int .u32 (0)],[i 0,i 0,i 0,i 0,i 0,s0,s0,V.int .u32 (0),s0,V.int .u32 (0)],[i 0,i 0,i 0,i 0,i 0,s0,s0,V.int .u32 (0),s0,V.int .u32 (0)],[i 0,i 0,i 0,i 0,i 0,s0,s0,V.int .u32 (0),s0,V.int .u32 (0)],[i 0,i 0,i 0,i 0,i 0,s0,s0,V.int .u32 (0),s0,V.int .u32 (0)]],f0,f0],f0,V.agg [i 0,i 0,i 0,i 0]], [])
theorem r2 : runF abi funs (orP (cloneP clones) (memoP [m0, m1])) 100000 60 44 m2.2.1 = some m2.2.2 := by kernel_rfl
theorem w2 : Holds m2 := holds_of (tbl := [m0, m1]) ⟨w0, ⟨w1, trivial⟩⟩ r2
def m3 : Entry := (265, [V.sl [[i 2],[i 0],[i 1],[i 0],[i 0],[i 0],[i 0],[i 0]]], V.int .u32 (2434569669), [])
theorem r3 : runF abi funs (orP (cloneP clones) (memoP [])) 100000 60 265 m3.2.1 = some m3.2.2 := by kernel_rfl
theorem w3 : Holds m3 := holds_of (tbl := []) trivial r3
def m4 : Entry := (44, [V.agg [i 0,i 50,V.sl [[i 1,i 20,i 20,V.sl [[i 0,i 0,i 0,i 0]],s0,s0]],V.sl [[i 1,i 1,i 0,i 2,i 18]],b0,b0,b0,s0,V.sl [[i 0],[i 0],[i 0],[i 0],[i 0],[i 0],[i 0],[i 0],[i 0],[i 0],[i 0],[i 0]],V.sl [[b0],[b0],[b0],[b0],[b0],[b0],[b0],[b0],[b0],[b0],[b0],[b0]],V.sl [[i 0,i 0,i 0,i 0,i 0,s0,s0,V.int .u32 (0),s0,V.int .u32 (0)],[i 0,i 0,i 0,i 0,i 0,s0,s0,V.int .u32 (0),s0,V.int .u32 (0)],[i 0,i 0,i 0,i 0,i 0,s0,s0,V.int .u32 (0),s0,V.int .u32 (0)],[i 0,i 0,i 0,i 0,i 0,s0,s0,V.int .u32 (0),s0,V.int .u32 (0)],[i 0,i 0,i 0,i 0,i 0,s0,s0,V.int .u32 (0),s0,V.int .u32 (0)],[i 0,i 0,i 0,i 0,i 0,s0,s0,V.int .u32 (0),s0,V.int .u32 (0)],[i 0,i 0,i 0,i 0,i 0,s0,s0,V.int .u32 (0),s0,V.int .u32 (0)],[i 0,i 0,i 0,i 0,i 0,s0,s0,V.int .u32 (0),s0,V.int .u32 (0)],[i 0,i 0,i 0,i 0,i 0,s0,s0,V.int .u32 (0),s0,V.int .u32 (0)],[i 0,i 0,i 0,i 0,i 0,s0,s0,V.int .u32 (0),s0,V.int .u32 (0)],[i 0,i 0,i 0,i 0,i 0,s0,s0,V.int .u32 (0),s0,V.int .u32 (0)],[i 0,i 0,i 0,i 0,i 0,s0,s0,V.int .u32 (0),s0,V.int .u32 (0)]],s0,s0],V.agg [i 3,i 0,i 0,i 0,s0,s0,s0,i 0,i 0,i 0,i 0,V.int .u32 (0)]], V.tup [V.agg [i 0,i 50,V.fresh [[i 1,i 20,i 20,V.sl [[i 0,i 0,i 0,i 0]],s0,s0]],V.fresh [[i 1,i 1,i 0,i 2,i 18]],b0,b0,b0,f0,V.fresh [[i 1],[i 0],[i 0],[i 0],[i 0],[i 0],[i 0],[i 0],[i 0],[i 0],[i 0],[i 0]],V.fresh [[b1],[b0],[b0],[b0],[b0],[b0],[b0],[b0],[b0],[b0],[b0],[b0]],V.fresh [[i 2,i 0,i 1,i 0,i 0,s0,s0,V.int .u32 (0),s0,V.int .u32 (2434569669)],[i 0,i 0,i 0,i 0,i 0,s0,s0,V.int .u32 (0),s0,V.int .u32 (0)],[i 0,i 0,i 0,i 0,i 0,s0,s0,V.int .u32 (0),s0,V.int .u32 (0)],[i 0,i 0,i 0,i 0,i 0,s0,s0,V.int .u32 (0),s0,V.int .u32 (0)],[i 0,i 0,i 0,i 0,i 0,s0,s0,V.int .u32 (0),s0,V.int .u32 (0)],[i 0,i 0,i 0,i 0,i 0,s0,s0,V.int .u32 (0),s0,V.int .u32 (0)],[i 0,i 0,i 0,i 0,i 0,s0,s0,V.int .u32 (0),s0,V.int .u32 (0)],[i 0,i 0,i 0,i 0,i 0,s0,s0,V.int .u32 (0),s0,V.int .u32 (0)],[i 0,i 0,i 0,i 0,i 0,s0,s0,V.int .u32 (0),s0,V.int .u32 (0)],[i 0,i 0,i 0,i 0,i 0,s0,s0,V.int .u32 (0),s0,V.int .u32 (0)],[i 0,i 0,i 0,i 0,i 0,s0,s0,V.int .u32 (0),s0,V.int .u32 (0)],[i 0,i 0,i 0,i 0,i 0,s0,s0,V.int .u32 (0),s0,V.int .u32 (0)]],f0,f0],f0,V.agg [i 0,i 0,i 1,i 0]], [])
theorem r4 : runF abi funs (orP (cloneP clones) (memoP [m3])) 100000 60 44 m4.2.1 = some m4.2.2 := by kernel_rfl
theorem w4 : Holds m4 := holds_of (tbl := [m3]) ⟨w3, trivial⟩ r4
def m5 : Entry := (123, [V.agg [i 0,i 50,V.sl [[i 1,i 20,i 20,V.sl [[i 0,i 0,i 0,i 0]],s0,s0]],V.sl [[i 1,i 1,i 0,i 2,i 18]],b0,b0,b0,s0,V.sl [[i 1],[i 0],[i 0],[i 0],[i 0],[i 0],[i 0],[i 0],[i 0],[i 0],[i 0],[i 0]],V.sl [[b1],[b0],[b0],[b0],[b0],[b0],[b0],[b0],[b0],[b0],[b0],[b0]],V.sl [[i 2,i 0,i 1,i 0,i 0,s0,s0,V.int .u32 (0),s0,V.int .u32 (2434569669)],[i 0,i 0,i 0,i 0,i 0,s0,s0,V.int .u32 (0),s0,V.int .u32 (0)],[i 0,i 0,i 0,i 0,i 0,s0,s0,V.int .u32 (0),s0,V.int .u32 (0)],[i 0,i 0,i 0,i 0,i 0,s0,s0,V.int .u32 (0),s0,V.int .u32 (0)],[i 0,i 0,i 0,i 0,i 0,s0,s0,V.int .u32 (0),s0,V.int .u32 (0)],[i 0,i 0,i 0,i 0,i 0,s0,s0,V.int .u32 (0),s0,V.int .u32 (0)],[i 0,i 0,i 0,i 0,i 0,s0,s0,V.int .u32 (0),s0,V.int .u32 (0)],[i 0,i 0,i 0,i 0,i 0,s0,s0,V.int .u32 (0),s0,V.int .u32 (0)],[i 0,i 0,i 0,i 0,i 0,s0,s0,V.int .u32 (0),s0,V.int .u32 (0)],[i 0,i 0,i 0,i 0,i 0,s0,s0,V.int .u32 (0),s0,V.int .u32 (0)],[i 0,i 0,i 0,i 0,i 0,s0,s0,V.int .u32 (0),s0,V.int .u32 (0)],[i 0,i 0,i 0,i 0,i 0,s0,s0,V.int .u32 (0),s0,V.int .u32 (0)]],s0,s0]], V.tup [V.agg [i 0,i 50,V.fresh [[i 1,i 20,i 20,V.sl [[i 0,i 0,i 0,i 0]],s0,s0]],V.fresh [[i 1,i 1,i 0,i 2,i 18]],b1,b0,b0,f0,V.fresh [[i 1],[i 0],[i 0],[i 0],[i 0],[i 0],[i 0],[i 0],[i 0],[i 0],[i 0],[i 0]],V.fresh [[b1],[b0],[b0],[b0],[b0],[b0],[b0],[b0],[b0],[b0],[b0],[b0]],V.fresh [[i 2,i 0,i 1,i 0,i 0,s0,s0,V.int .u32 (0),s0,V.int .u32 (2434569669)],[i 0,i 0,i 0,i 0,i 0,s0,s0,V.int .u32 (0),s0,V.int .u32 (0)],[i 0,i 0,i 0,i 0,i 0,s0,s0,V.int .u32 (0),s0,V.int .u32 (0)],[i 0,i 0,i 0,i 0,i 0,s0,s0,V.int .u32 (0),s0,V.int .u32 (0)],[i 0,i 0,i 0,i 0,i 0,s0,s0,V.int .u32 (0),s0,V.int .u32 (0)],[i 0,i 0,i 0,i 0,i 0,s0,s0,V.int .u32 (0),s0,V.int .u32 (0)],[i 0,i 0,i 0,i 0,i 0,s0,s0,V.int .u32 (0),s0,V.int .u32 (0)],[i 0,i 0,i 0,i 0,i 0,s0,s0,V.int .u32 (0),s0,V.int .u32 (0)],[i 0,i 0,i 0,i 0,i 0,s0,s0,V.int .u32 (0),s0,V.int .u32 (0)],[i 0,i 0,i 0,i 0,i 0,s0,s0,V.int .u32 (0),s0,V.int .u32 (0)],[i 0,i 0,i 0,i 0,i 0,s0,s0,V.int .u32 (0),s0,V.int .u32 (0)],[i 0,i 0,i 0,i 0,i 0,s0,s0,V.int .u32 (0),s0,V.int .u32 (0)]],f0,f0],i 0], [])
theorem r5 : runF abi funs (orP (cloneP clones) (memoP [])) 100000 60 123 m5.2.1 = some m5.2.2 := by kernel_rfl
theorem w5 : Holds m5 := holds_of (tbl := []) trivial r5
def m6 : Entry := (265, [V.sl [[i 2],[i 0],[i 1],[i 0],[i 0],[i 1],[i 7],[i 0],[i 0]]], V.int .u32 (346932625), [])
theorem r6 : runF abi funs (orP (cloneP clones) (memoP [])) 100000 60 265 m6.2.1 = some m6.2.2 := by kernel_rfl
theorem w6 : Holds m6 := holds_of (tbl := []) trivial r6
def m7 : Entry := (75, [V.pbox [i 0,i 50,V.sl [[i 1,i 20,i 20,V.sl [[i 0,i 0,i 0,i 0]],s0,s0]],V.sl [[i 1,i 1,i 0,i 2,i 18]],b1,b0,b0,s0,V.sl [[i 1],[i 0],[i 0],[i 0],[i 0],[i 0],[i 0],[i 0],[i 0],[i 0],[i 0],[i 0]],V.sl [[b1],[b0],[b0],[b0],[b0],[b0],[b0],[b0],[b0],[b0],[b0],[b0]],V.sl [[i 2,i 0,i 1,i 0,i 0,s0,s0,V.int .u32 (0),s0,V.int .u32 (2434569669)],[i 0,i 0,i 0,i 0,i 0,s0,s0,V.int .u32 (0),s0,V.int .u32 (0)],[i 0,i 0,i 0,i 0,i 0,s0,s0,V.int .u32 (0),s0,V.int .u32 (0)],[i 0,i 0,i 0,i 0,i 0,s0,s0,V.int .u32 (0),s0,V.int .u32 (0)],[i 0,i 0,i 0,i 0,i 0,s0,s0,V.int .u32 (0),s0,V.int .u32 (0)],[i 0,i 0,i 0,i 0,i 0,s0,s0,V.int .u32 (0),s0,V.int .u32 (0)],[i 0,i 0,i 0,i 0,i 0,s0,s0,V.int .u32 (0),s0,V.int .u32 (0)],[i 0,i 0,i 0,i 0,i 0,s0,s0,V.int .u32 (0),s0,V.int .u32 (0)],[i 0,i 0,i 0,i 0,i 0,s0,s0,V.int .u32 (0),s0,V.int .u32 (0)],[i 0,i 0,i 0,i 0,i 0,s0,s0,V.int .u32 (0),s0,V.int .u32 (0)],[i 0,i 0,i 0,i 0,i 0,s0,s0,V.int .u32 (0),s0,V.int .u32 (0)],[i 0,i 0,i 0,i 0,i 0,s0,s0,V.int .u32 (0),s0,V.int .u32 (0)]],V.sl [[i 0]],V.sl [[b0]],i 7,i 0,i 0,i 0,s0,s0,s0,i 0,i 1,i 0,i 7,V.int .u32 (0),f0,i 0,i 0,i 0,i 0] 0], V.tup [], [[i 0,i 50,V.sl [[i 1,i 20,i 20,V.sl [[i 0,i 0,i 0,i 0]],s0,s0]],V.sl [[i 1,i 1,i 0,i 2,i 18]],b1,b0,b0,s0,V.fresh [[i 1],[i 0],[i 0],[i 0],[i 0],[i 0],[i 0],[i 0],[i 0],[i 0],[i 0],[i 0]],V.fresh [[b1],[b0],[b0],[b0],[b0],[b0],[b0],[b0],[b0],[b0],[b0],[b0]],V.fresh [[i 2,i 0,i 1,i 0,i 0,V.sl [[i 7]],s0,V.int .u32 (0),s0,V.int .u32 (346932625)],[i 0,i 0,i 0,i 0,i 0,s0,s0,V.int .u32 (0),s0,V.int .u32 (0)],[i 0,i 0,i 0,i 0,i 0,s0,s0,V.int .u32 (0),s0,V.int .u32 (0)],[i 0,i 0,i 0,i 0,i 0,s0,s0,V.int .u32 (0),s0,V.int .u32 (0)],[i 0,i 0,i 0,i 0,i 0,s0,s0,V.int .u32 (0),s0,V.int .u32 (0)],[i 0,i 0,i 0,i 0,i 0,s0,s0,V.int .u32 (0),s0,V.int .u32 (0)],[i 0,i 0,i 0,i 0,i 0,s0,s0,V.int .u32 (0),s0,V.int .u32 (0)],[i 0,i 0,i 0,i 0,i 0,s0,s0,V.int .u32 (0),s0,V.int .u32 (0)],[i 0,i 0,i 0,i 0,i 0,s0,s0,V.int .u32 (0),s0,V.int .u32 (0)],[i 0,i 0,i 0,i 0,i 0,s0,s0,V.int .u32 (0),s0,V.int .u32 (0)],[i 0,i 0,i 0,i 0,i 0,s0,s0,V.int .u32 (0),s0,V.int .u32 (0)],[i 0,i 0,i 0,i 0,i 0,s0,s0,V.int .u32 (0),s0,V.int .u32 (0)]],V.sl [[i 0]],V.sl [[b0]],i 7,i 0,i 0,i 0,s0,s0,s0,i 0,i 1,i 0,i 7,V.int .u32 (0),f0,i 0,i 0,i 0,i 0]])
theorem r7 : runF abi funs (orP (cloneP clones) (memoP [m6, m3])) 100000 60 75 m7.2.1 = some m7.2.2 := by kernel_rfl
theorem w7 : Holds m7 := holds_of (tbl := [m6, m3]) ⟨w6, ⟨w3, trivial⟩⟩ r7
def m8 : Entry := (76, [V.pbox [i 0,i 50,V.sl [[i 1,i 20,i 20,V.sl [[i 0,i 0,i 0,i 0]],s0,s0]],V.sl [[i 1,i 1,i 0,i 2,i 18]],b1,b0,b0,s0,V.sl [[i 1],[i 0],[i 0],[i 0],[i 0],[i 0],[i 0],[i 0],[i 0],[i 0],[i 0],[i 0]],V.sl [[b1],[b0],[b0],[b0],[b0],[b0],[b0],[b0],[b0],[b0],[b0],[b0]],V.sl [[i 2,i 0,i 1,i 0,i 0,V.sl [[i 7]],s0,V.int .u32 (0),s0,V.int .u32 (346932625)],[i 0,i 0,i 0,i 0,i 0,s0,s0,V.int .u32 (0),s0,V.int .u32 (0)],[i 0,i 0,i 0,i 0,i 0,s0,s0,V.int .u32 (0),s0,V.int .u32 (0)],[i 0,i 0,i 0,i 0,i 0,s0,s0,V.int .u32 (0),s0,V.int .u32 (0)],[i 0,i 0,i 0,i 0,i 0,s0,s0,V.int .u32 (0),s0,V.int .u32 (0)],[i 0,i 0,i 0,i 0,i 0,s0,s0,V.int .u32 (0),s0,V.int .u32 (0)],[i 0,i 0,i 0,i 0,i 0,s0,s0,V.int .u32 (0),s0,V.int .u32 (0)],[i 0,i 0,i 0,i 0,i 0,s0,s0,V.int .u32 (0),s0,V.int .u32 (0)],[i 0,i 0,i 0,i 0,i 0,s0,s0,V.int .u32 (0),s0,V.int .u32 (0)],[i 0,i 0,i 0,i 0,i 0,s0,s0,V.int .u32 (0),s0,V.int .u32 (0)],[i 0,i 0,i 0,i 0,i 0,s0,s0,V.int .u32 (0),s0,V.int .u32 (0)],[i 0,i 0,i 0,i 0,i 0,s0,s0,V.int .u32 (0),s0,V.int .u32 (0)]],V.sl [[i 0]],V.sl [[b0]],i 8,i 0,i 0,i 0,s0,s0,s0,i 0,i 1,i 1,i 0,V.int .u32 (0),f0,i 0,i 0,i 0,i 0] 0], V.tup [], [[i 0,i 50,V.sl [[i 1,i 20,i 20,V.sl [[i 0,i 0,i 0,i 0]],s0,s0]],V.sl [[i 1,i 1,i 0,i 2,i 18]],b1,b0,b0,s0,V.fresh [[i 1],[i 0],[i 0],[i 0],[i 0],[i 0],[i 0],[i 0],[i 0],[i 0],[i 0],[i 0]],V.fresh [[b1],[b0],[b0],[b0],[b0],[b0],[b0],[b0],[b0],[b0],[b0],[b0]],V.fresh [[i 2,i 0,i 1,i 0,i 0,s0,s0,V.int .u32 (0),s0,V.int .u32 (2434569669)],[i 0,i 0,i 0,i 0,i 0,s0,s0,V.int .u32 (0),s0,V.int .u32 (0)],[i 0,i 0,i 0,i 0,i 0,s0,s0,V.int .u32 (0),s0,V.int .u32 (0)],[i 0,i 0,i 0,i 0,i 0,s0,s0,V.int .u32 (0),s0,V.int .u32 (0)],[i 0,i 0,i 0,i 0,i 0,s0,s0,V.int .u32 (0),s0,V.int .u32 (0)],[i 0,i 0,i 0,i 0,i 0,s0,s0,V.int .u32 (0),s0,V.int .u32 (0)],[i 0,i 0,i 0,i 0,i 0,s0,s0,V.int .u32 (0),s0,V.int .u32 (0)],[i 0,i 0,i 0,i 0,i 0,s0,s0,V.int .u32 (0),s0,V.int .u32 (0)],[i 0,i 0,i 0,i 0,i 0,s0,s0,V.int .u32 (0),s0,V.int .u32 (0)],[i 0,i 0,i 0,i 0,i 0,s0,s0,V.int .u32 (0),s0,V.int .u32 (0)],[i 0,i 0,i 0,i 0,i 0,s0,s0,V.int .u32 (0),s0,V.int .u32 (0)],[i 0,i 0,i 0,i 0,i 0,s0,s0,V.int .u32 (0),s0,V.int .u32 (0)]],V.sl [[i 0]],V.sl [[b0]],i 8,i 0,i 0,i 0,s0,s0,s0,i 0,i 1,i 1,i 0,V.int .u32 (0),f0,i 0,i 0,i 0,i 7]])
theorem r8 : runF abi funs (orP (cloneP clones) (memoP [m3, m6])) 100000 60 76 m8.2.1 = some m8.2.2 := by kernel_rfl
theorem w8 : Holds m8 := holds_of (tbl := [m3, m6]) ⟨w3, ⟨w6, trivial⟩⟩ r8
def m9 : Entry := (1008, [], b1, [])
theorem r9 : runF abi funs (orP (cloneP clones) (memoP [m2, m4, m5, m7, m8])) 100000 60 1008 m9.2.1 = some m9.2.2 := by kernel_rfl
theorem w9 : Holds m9 := holds_of (tbl := [m2, m4, m5, m7, m8]) ⟨w2, ⟨w4, ⟨w5, ⟨w7, ⟨w8, trivial⟩⟩⟩⟩⟩ r9
def m10 : Entry := (44, [V.agg [i 0,i 100,s0,s0,b0,b0,b0,s0,V.sl [[i 0],[i 0],[i 0],[i 0],[i 0],[i 0],[i 0],[i 0],[i 0],[i 0],[i 0],[i 0]],V.sl [[b0],[b0],[b0],[b0],[b0],[b0],[b0],[b0],[b0],[b0],[b0],[b0]],V.sl [[i 0,i 0,i 0,i 0,i 0,s0,s0,V.int .u32 (0),s0,V.int .u32 (0)],[i 0,i 0,i 0,i 0,i 0,s0,s0,V.int .u32 (0),s0,V.int .u32 (0)],[i 0,i 0,i 0,i 0,i 0,s0,s0,V.int .u32 (0),s0,V.int .u32 (0)],[i 0,i 0,i 0,i 0,i 0,s0,s0,V.int .u32 (0),s0,V.int .u32 (0)],[i 0,i 0,i 0,i 0,i 0,s0,s0,V.int .u32 (0),s0,V.int .u32 (0)],[i 0,i 0,i 0,i 0,i 0,s0,s0,V.int .u32 (0),s0,V.int .u32 (0)],[i 0,i 0,i 0,i 0,i 0,s0,s0,V.int .u32 (0),s0,V.int .u32 (0)],[i 0,i 0,i 0,i 0,i 0,s0,s0,V.int .u32 (0),s0,V.int .u32 (0)],[i 0,i 0,i 0,i 0,i 0,s0,s0,V.int .u32 (0),s0,V.int .u32 (0)],[i 0,i 0,i 0,i 0,i 0,s0,s0,V.int .u32 (0),s0,V.int .u32 (0)],[i 0,i 0,i 0,i 0,i 0,s0,s0,V.int .u32 (0),s0,V.int .u32 (0)],[i 0,i 0,i 0,i 0,i 0,s0,s0,V.int .u32 (0),s0,V.int .u32 (0)]],s0,s0],V.agg [i 6,i 0,i 0,i 0,s0,s0,s0,i 0,i 0,i 0,i 0,V.int .u32 (0)]], V.tup [V.agg [i 0,i 100,f0,f0,b0,b0,b0,f0,V.fresh [[i 0],[i 0],[i 0],[i 0],[i 0],[i 0],[i 0],[i 0],[i 0],[i 0],[i 0],[i 0]],V.fresh [[b0],[b0],[b0],[b0],[b0],[b0],[b0],[b0],[b0],[b0],[b0],[b0]],V.fresh [[i 0,i 0,i 0,i 0,i 0,s0,s0,V.int .u32 (0),s0,V.int .u32 (0)],[i 0,i 0,i 0,i 0,i 0,s0,s0,V.int .u32 (0),s0,V.int .u32 (0)],[i 0,i 0,i 0,i 0,i 0,s0,s0,V.int .u32 (0),s0,V.int .u32 (0)],[i 0,i 0,i 0,i 0,i 0,s0,s0,V.int .u32 (0),s0,V.int .u32 (0)],[i 0,i 0,i 0,i 0,i 0,s0,s0,V.int .u32 (0),s0,V.int .u32 (0)],[i 0,i 0,i 0,i 0,i 0,s0,s0,V.int .u32 (0),s0,V.int .u32 (0)],[i 0,i 0,i 0,i 0,i 0,s0,s0,V.int .u32 (0),s0,V.int .u32 (0)],[i 0,i 0,i 0,i 0,i 0,s0,s0,V.int .u32 (0),s0,V.int .u32 (0)],[i 0,i 0,i 0,i 0,i 0,s0,s0,V.int .u32 (0),s0,V.int .u32 (0)],[i 0,i 0,i 0,i 0,i 0,s0,s0,V.int .u32 (0),s0,V.int .u32 (0)],[i 0,i 0,i 0,i 0,i 0,s0,s0,V.int .u32 (0),s0,V.int .u32 (0)],[i 0,i 0,i 0,i 0,i 0,s0,s0,V.int .u32 (0),s0,V.int .u32 (0)]],f0,f0],f0,V.agg [i 8,i 0,i 0,i 0]], [])
theorem r10 : runF abi funs (orP (cloneP clones) (memoP [])) 100000 60 44 m10.2.1 = some m10.2.2 := by kernel_rfl
theorem w10 : Holds m10 := holds_of (tbl := []) trivial r10
def m11 : Entry := (308, [V.sl [[i 9,i 0,i 0,i 0],[i 10,i 0,i 0,i 0],[i 0,i 0,i 0,i 0]]], V.tup [V.agg [i 3,i 3,V.fresh [[i 0,i 1]]],b1], [])
theorem r11 : runF abi funs (orP (cloneP clones) (memoP [])) 100000 60 308 m11.2.1 = some m11.2.2 := by kernel_rfl
theorem w11 : Holds m11 := holds_of (tbl := []) trivial r11
def m12 : Entry := (255, [V.agg [i 5,i 50,i 50,V.sl [[i 9,i 0,i 0,i 0],[i 10,i 0,i 0,i 0],[i 0,i 0,i 0,i 0]],s0,s0]], V.tup [i 3,i 3,V.fresh [[i 0,i 1]]], [])
theorem r12 : runF abi funs (orP (cloneP clones) (memoP [m11])) 100000 60 255 m12.2.1 = some m12.2.2 := by kernel_rfl
theorem w12 : Holds m12 := holds_of (tbl := [m11]) ⟨w11, trivial⟩ r12
def m13 : Entry := (254, [V.sl [[i 5,i 50,i 50,V.sl [[i 9,i 0,i 0,i 0],[i 10,i 0,i 0,i 0],[i 0,i 0,i 0,i 0]],s0,s0]],i 0,i 100], V.tup [i 6,i 2,i 0], [])
theorem r13 : runF abi funs (orP (cloneP clones) (memoP [m11, m12])) 100000 60 254 m13.2.1 = some m13.2.2 := by kernel_rfl
theorem w13 : Holds m13 := holds_of (tbl := [m11, m12]) ⟨w11, ⟨w12, trivial⟩⟩ r13
def m14 : Entry := (121, [s0,V.agg [i 5,i 50,i 50,V.sl [[i 9,i 0,i 0,i 0],[i 10,i 0,i 0,i 0],[i 0,i 0,i 0,i 0]],s0,s0],i 100], V.tup [V.fresh [[i 5,i 50,i 50,V.sl [[i 9,i 0,i 0,i 0],[i 10,i 0,i 0,i 0],[i 0,i 0,i 0,i 0]],s0,s0]],V.fresh [[i 3,i 3,i 0,i 6,i 44]],i 0], [])
theorem r14 : runF abi funs (orP (cloneP clones) (memoP [m11, m13, m12])) 100000 60 121 m14.2.1 = some m14.2.2 := by kernel_rfl
theorem w14 : Holds m14 := holds_of (tbl := [m11, m13, m12]) ⟨w11, ⟨w13, ⟨w12, trivial⟩⟩⟩ r14
def m15 : Entry := (44, [V.agg [i 0,i 100,V.sl [[i 5,i 50,i 50,V.sl [[i 9,i 0,i 0,i 0],[i 10,i 0,i 0,i 0],[i 0,i 0,i 0,i 0]],s0,s0]],V.sl [[i 3,i 3,i 0,i 6,i 44]],b0,b0,b0,s0,V.sl [[i 0],[i 0],[i 0],[i 0],[i 0],[i 0],[i 0],[i 0],[i 0],[i 0],[i 0],[i 0]],V.sl [[b0],[b0],[b0],[b0],[b0],[b0],[b0],[b0],[b0],[b0],[b0],[b0]],V.sl [[i 0,i 0,i 0,i 0,i 0,s0,s0,V.int .u32 (0),s0,V.int .u32 (0)],[i 0,i 0,i 0,i 0,i 0,s0,s0,V.int .u32 (0),s0,V.int .u32 (0)],[i 0,i 0,i 0,i 0,i 0,s0,s0,V.int .u32 (0),s0,V.int .u32 (0)],[i 0,i 0,i 0,i 0,i 0,s0,s0,V.int .u32 (0),s0,V.int .u32 (0)],[i 0,i 0,i 0,i 0,i 0,s0,s0,V.int .u32 (0),s0,V.int .u32 (0)],[i 0,i 0,i 0,i 0,i 0,s0,s0,V.int .u32 (0),s0,V.int .u32 (0)],[i 0,i 0,i 0,i 0,i 0,s0,s0,V.int .u32 (0),s0,V.int .u32 (0)],[i 0,i 0,i 0,i 0,i 0,s0,s0,V.int .u32 (0),s0,V.int .u32 (0)],[i 0,i 0,i 0,i 0,i 0,s0,s0,V.int .u32 (0),s0,V.int .u32 (0)],[i 0,i 0,i 0,i 0,i 0,s0,s0,V.int .u32 (0),s0,V.int .u32 (0)],[i 0,i 0,i 0,i 0,i 0,s0,s0,V.int .u32 (0),s0,V.int .u32 (0)],[i 0,i 0,i 0,i 0,i 0,s0,s0,V.int .u32 (0),s0,V.int .u32 (0)]],s0,s0],V.agg [i 1,i 5,i 50,i 50,V.sl [[i 9,i 0,i 0,i 0],[i 10,i 0,i 0,i 0],[i 0,i 0,i 0,i 0]],s0,s0,i 0,i 0,i 0,i 0,V.int .u32 (0)]], V.tup [V.agg [i 0,i 100,V.fresh [[i 5,i 50,i 50,V.sl [[i 9,i 0,i 0,i 0],[i 10,i 0,i 0,i 0],[i 0,i 0,i 0,i 0]],s0,s0]],V.fresh [[i 3,i 3,i 0,i 6,i 44]],b0,b0,b0,f0,V.fresh [[i 0],[i 0],[i 0],[i 0],[i 0],[i 0],[i 0],[i 0],[i 0],[i 0],[i 0],[i 0]],V.fresh [[b0],[b0],[b0],[b0],[b0],[b0],[b0],[b0],[b0],[b0],[b0],[b0]],V.fresh [[i 0,i 0,i 0,i 0,i 0,s0,s0,V.int .u32 (0),s0,V.int .u32 (0)],[i 0,i 0,i 0,i 0,i 0,s0,s0,V.int .u32 (0),s0,V.int .u32 (0)],[i 0,i 0,i 0,i 0,i 0,s0,s0,V.int .u32 (0),s0,V.int .u32 (0)],[i 0,i 0,i 0,i 0,i 0,s0,s0,V.int .u32 (0),s0,V.int .u32 (0)],[i 0,i 0,i 0,i 0,i 0,s0,s0,V.int .u32 (0),s0,V.int .u32 (0)],[i 0,i 0,i 0,i 0,i 0,s0,s0,V.int .u32 (0),s0,V.int .u32 (0)],[i 0,i 0,i 0,i 0,i 0,s0,s0,V.int .u32 (0),s0,V.int .u32 (0)],[i 0,i 0,i 0,i 0,i 0,s0,s0,V.int .u32 (0),s0,V.int .u32 (0)],[i 0,i 0,i 0,i 0,i 0,s0,s0,V.int .u32 (0),s0,V.int .u32 (0)],[i 0,i 0,i 0,i 0,i 0,s0,s0,V.int .u32 (0),s0,V.int .u32 (0)],[i 0,i 0,i 0,i 0,i 0,s0,s0,V.int .u32 (0),s0,V.int .u32 (0)],[i 0,i 0,i 0,i 0,i 0,s0,s0,V.int .u32 (0),s0,V.int .u32 (0)]],f0,f0],f0,V.agg [i 11,i 0,i 0,i 0]], [])
theorem r15 : runF abi funs (orP (cloneP clones) (memoP [m11])) 100000 60 44 m15.2.1 = some m15.2.2 := by kernel_rfl
theorem w15 : Holds m15 := holds_of (tbl := [m11]) ⟨w11, trivial⟩ r15
def m16 : Entry := (310, [V.sl [[i 5,i 50,i 50,V.sl [[i 9,i 0,i 0,i 0],[i 10,i 0,i 0,i 0],[i 0,i 0,i 0,i 0]],s0,s0],[i 6,i 50,i 3,V.sl [[i 9,i 0,i 0,i 0],[i 10,i 0,i 0,i 0],[i 0,i 0,i 0,i 0]],s0,s0]]], b1, [])
theorem r16 : runF abi funs (orP (cloneP clones) (memoP [m11])) 100000 60 310 m16.2.1 = some m16.2.2 := by kernel_rfl
theorem w16 : Holds m16 := holds_of (tbl := [m11]) ⟨w11, trivial⟩ r16
def m17 : Entry := (255, [V.agg [i 6,i 50,i 3,V.sl [[i 9,i 0,i 0,i 0],[i 10,i 0,i 0,i 0],[i 0,i 0,i 0,i 0]],s0,s0]], V.tup [i 3,i 3,V.fresh [[i 0,i 1]]], [])
theorem r17 : runF abi funs (orP (cloneP clones) (memoP [m11])) 100000 60 255 m17.2.1 = some m17.2.2 := by kernel_rfl
theorem w17 : Holds m17 := holds_of (tbl := [m11]) ⟨w11, trivial⟩ r17
def m18 : Entry := (197, [V.sl [[i 5,i 50,i 50,V.sl [[i 9,i 0,i 0,i 0],[i 10,i 0,i 0,i 0],[i 0,i 0,i 0,i 0]],s0,s0],[i 6,i 50,i 3,V.sl [[i 9,i 0,i 0,i 0],[i 10,i 0,i 0,i 0],[i 0,i 0,i 0,i 0]],s0,s0]],i 100], V.tup [f0,i 14], [])
theorem r18 : runF abi funs (orP (cloneP clones) (memoP [m16, m12, m17])) 100000 60 197 m18.2.1 = some m18.2.2 := by kernel_rfl
theorem w18 : Holds m18 := holds_of (tbl := [m16, m12, m17]) ⟨w16, ⟨w12, ⟨w17, trivial⟩⟩⟩ r18
def m19 : Entry := (121, [V.sl [[i 5,i 50,i 50,V.sl [[i 9,i 0,i 0,i 0],[i 10,i 0,i 0,i 0],[i 0,i 0,i 0,i 0]],s0,s0]],V.agg [i 6,i 50,i 3,V.sl [[i 9,i 0,i 0,i 0],[i 10,i 0,i 0,i 0],[i 0,i 0,i 0,i 0]],s0,s0],i 100], V.tup [f0,f0,i 14], [])
theorem r19 : runF abi funs (orP (cloneP clones) (memoP [m11, m18])) 100000 60 121 m19.2.1 = some m19.2.2 := by kernel_rfl
theorem w19 : Holds m19 := holds_of (tbl := [m11, m18]) ⟨w11, ⟨w18, trivial⟩⟩ r19
def m20 : Entry := (44, [V.agg [i 0,i 100,V.sl [[i 5,i 50,i 50,V.sl [[i 9,i 0,i 0,i 0],[i 10,i 0,i 0,i 0],[i 0,i 0,i 0,i 0]],s0,s0]],V.sl [[i 3,i 3,i 0,i 6,i 44]],b0,b0,b0,s0,V.sl [[i 0],[i 0],[i 0],[i 0],[i 0],[i 0],[i 0],[i 0],[i 0],[i 0],[i 0],[i 0]],V.sl [[b0],[b0],[b0],[b0],[b0],[b0],[b0],[b0],[b0],[b0],[b0],[b0]],V.sl [[i 0,i 0,i 0,i 0,i 0,s0,s0,V.int .u32 (0),s0,V.int .u32 (0)],[i 0,i 0,i 0,i 0,i 0,s0,s0,V.int .u32 (0),s0,V.int .u32 (0)],[i 0,i 0,i 0,i 0,i 0,s0,s0,V.int .u32 (0),s0,V.int .u32 (0)],[i 0,i 0,i 0,i 0,i 0,s0,s0,V.int .u32 (0),s0,V.int .u32 (0)],[i 0,i 0,i 0,i 0,i 0,s0,s0,V.int .u32 (0),s0,V.int .u32 (0)],[i 0,i 0,i 0,i 0,i 0,s0,s0,V.int .u32 (0),s0,V.int .u32 (0)],[i 0,i 0,i 0,i 0,i 0,s0,s0,V.int .u32 (0),s0,V.int .u32 (0)],[i 0,i 0,i 0,i 0,i 0,s0,s0,V.int .u32 (0),s0,V.int .u32 (0)],[i 0,i 0,i 0,i 0,i 0,s0,s0,V.int .u32 (0),s0,V.int .u32 (0)],[i 0,i 0,i 0,i 0,i 0,s0,s0,V.int .u32 (0),s0,V.int .u32 (0)],[i 0,i 0,i 0,i 0,i 0,s0,s0,V.int .u32 (0),s0,V.int .u32 (0)],[i 0,i 0,i 0,i 0,i 0,s0,s0,V.int .u32 (0),s0,V.int .u32 (0)]],s0,s0],V.agg [i 5,i 0,i 0,i 0,s0,s0,s0,i 0,i 0,i 0,i 0,V.int .u32 (0)]], V.tup [V.agg [i 0,i 100,V.fresh [[i 5,i 50,i 50,V.sl [[i 9,i 0,i 0,i 0],[i 10,i 0,i 0,i 0],[i 0,i 0,i 0,i 0]],s0,s0]],V.fresh [[i 3,i 3,i 0,i 6,i 44]],b0,b0,b0,f0,V.fresh [[i 0],[i 0],[i 0],[i 0],[i 0],[i 0],[i 0],[i 0],[i 0],[i 0],[i 0],[i 0]],V.fresh [[b0],[b0],[b0],[b0],[b0],[b0],[b0],[b0],[b0],[b0],[b0],[b0]],V.fresh [[i 0,i 0,i 0,i 0,i 0,s0,s0,V.int .u32 (0),s0,V.int .u32 (0)],[i 0,i 0,i 0,i 0,i 0,s0,s0,V.int .u32 (0),s0,V.int .u32 (0)],[i 0,i 0,i 0,i 0,i 0,s0,s0,V.int .u32 (0),s0,V.int .u32 (0)],[i 0,i 0,i 0,i 0,i 0,s0,s0,V.int .u32 (0),s0,V.int .u32 (0)],[i 0,i 0,i 0,i 0,i 0,s0,s0,V.int .u32 (0),s0,V.int .u32 (0)],[i 0,i 0,i 0,i 0,i 0,s0,s0,V.int .u32 (0),s0,V.int .u32 (0)],[i 0,i 0,i 0,i 0,i 0,s0,s0,V.int .u32 (0),s0,V.int .u32 (0)],[i 0,i 0,i 0,i 0,i 0,s0,s0,V.int .u32 (0),s0,V.int .u32 (0)],[i 0,i 0,i 0,i 0,i 0,s0,s0,V.int .u32 (0),s0,V.int .u32 (0)],[i 0,i 0,i 0,i 0,i 0,s0,s0,V.int .u32 (0),s0,V.int .u32 (0)],[i 0,i 0,i 0,i 0,i 0,s0,s0,V.int .u32 (0),s0,V.int .u32 (0)],[i 0,i 0,i 0,i 0,i 0,s0,s0,V.int .u32 (0),s0,V.int .u32 (0)]],f0,f0],f0,V.agg [i 4,i 0,i 0,i 0]], [])
theorem r20 : runF abi funs (orP (cloneP clones) (memoP [])) 100000 60 44 m20.2.1 = some m20.2.2 := by kernel_rfl
theorem w20 : Holds m20 := holds_of (tbl := []) trivial r20
def m21 : Entry := (265, [V.sl [[i 1],[i 0],[i 1],[i 8],[i 0],[i 0],[i 0],[i 0]]], V.int .u32 (2300351877), [])
theorem r21 : runF abi funs (orP (cloneP clones) (memoP [])) 100000 60 265 m21.2.1 = some m21.2.2 := by kernel_rfl
theorem w21 : Holds m21 := holds_of (tbl := []) trivial r21
def m22 : Entry := (44, [V.agg [i 0,i 100,V.sl [[i 5,i 50,i 50,V.sl [[i 9,i 0,i 0,i 0],[i 10,i 0,i 0,i 0],[i 0,i 0,i 0,i 0]],s0,s0]],V.sl [[i 3,i 3,i 0,i 6,i 44]],b0,b0,b0,s0,V.sl [[i 0],[i 0],[i 0],[i 0],[i 0],[i 0],[i 0],[i 0],[i 0],[i 0],[i 0],[i 0]],V.sl [[b0],[b0],[b0],[b0],[b0],[b0],[b0],[b0],[b0],[b0],[b0],[b0]],V.sl [[i 0,i 0,i 0,i 0,i 0,s0,s0,V.int .u32 (0),s0,V.int .u32 (0)],[i 0,i 0,i 0,i 0,i 0,s0,s0,V.int .u32 (0),s0,V.int .u32 (0)],[i 0,i 0,i 0,i 0,i 0,s0,s0,V.int .u32 (0),s0,V.int .u32 (0)],[i 0,i 0,i 0,i 0,i 0,s0,s0,V.int .u32 (0),s0,V.int .u32 (0)],[i 0,i 0,i 0,i 0,i 0,s0,s0,V.int .u32 (0),s0,V.int .u32 (0)],[i 0,i 0,i 0,i 0,i 0,s0,s0,V.int .u32 (0),s0,V.int .u32 (0)],[i 0,i 0,i 0,i 0,i 0,s0,s0,V.int .u32 (0),s0,V.int .u32 (0)],[i 0,i 0,i 0,i 0,i 0,s0,s0,V.int .u32 (0),s0,V.int .u32 (0)],[i 0,i 0,i 0,i 0,i 0,s0,s0,V.int .u32 (0),s0,V.int .u32 (0)],[i 0,i 0,i 0,i 0,i 0,s0,s0,V.int .u32 (0),s0,V.int .u32 (0)],[i 0,i 0,i 0,i 0,i 0,s0,s0,V.int .u32 (0),s0,V.int .u32 (0)],[i 0,i 0,i 0,i 0,i 0,s0,s0,V.int .u32 (0),s0,V.int .u32 (0)]],s0,s0],V.agg [i 2,i 0,i 0,i 0,s0,s0,s0,i 0,i 0,i 0,i 0,V.int .u32 (0)]], V.tup [V.agg [i 0,i 100,V.fresh [[i 5,i 50,i 50,V.sl [[i 9,i 0,i 0,i 0],[i 10,i 0,i 0,i 0],[i 0,i 0,i 0,i 0]],s0,s0]],V.fresh [[i 3,i 3,i 0,i 6,i 44]],b0,b0,b0,f0,V.fresh [[i 1],[i 0],[i 0],[i 0],[i 0],[i 0],[i 0],[i 0],[i 0],[i 0],[i 0],[i 0]],V.fresh [[b1],[b0],[b0],[b0],[b0],[b0],[b0],[b0],[b0],[b0],[b0],[b0]],V.fresh [[i 1,i 0,i 1,i 8,i 0,s0,s0,V.int .u32 (0),s0,V.int .u32 (2300351877)],[i 0,i 0,i 0,i 0,i 0,s0,s0,V.int .u32 (0),s0,V.int .u32 (0)],[i 0,i 0,i 0,i 0,i 0,s0,s0,V.int .u32 (0),s0,V.int .u32 (0)],[i 0,i 0,i 0,i 0,i 0,s0,s0,V.int .u32 (0),s0,V.int .u32 (0)],[i 0,i 0,i 0,i 0,i 0,s0,s0,V.int .u32 (0),s0,V.int .u32 (0)],[i 0,i 0,i 0,i 0,i 0,s0,s0,V.int .u32 (0),s0,V.int .u32 (0)],[i 0,i 0,i 0,i 0,i 0,s0,s0,V.int .u32 (0),s0,V.int .u32 (0)],[i 0,i 0,i 0,i 0,i 0,s0,s0,V.int .u32 (0),s0,V.int .u32 (0)],[i 0,i 0,i 0,i 0,i 0,s0,s0,V.int .u32 (0),s0,V.int .u32 (0)],[i 0,i 0,i 0,i 0,i 0,s0,s0,V.int .u32 (0),s0,V.int .u32 (0)],[i 0,i 0,i 0,i 0,i 0,s0,s0,V.int .u32 (0),s0,V.int .u32 (0)],[i 0,i 0,i 0,i 0,i 0,s0,s0,V.int .u32 (0),s0,V.int .u32 (0)]],f0,f0],f0,V.agg [i 0,i 0,i 1,i 0]], [])
theorem r22 : runF abi funs (orP (cloneP clones) (memoP [m21])) 100000 60 44 m22.2.1 = some m22.2.2 := by kernel_rfl
theorem w22 : Holds m22 := holds_of (tbl := [m21]) ⟨w21, trivial⟩ r22
def m23 : Entry := (265, [V.sl [[i 2],[i 1],[i 1],[i 0],[i 0],[i 0],[i 0],[i 0]]], V.int .u32 (2434045381), [])
theorem r23 : runF abi funs (orP (cloneP clones) (memoP [])) 100000 60 265 m23.2.1 = some m23.2.2 := by kernel_rfl
theorem w23 : Holds m23 := holds_of (tbl := []) trivial r23
def m24 : Entry := (44, [V.agg [i 0,i 100,V.sl [[i 5,i 50,i 50,V.sl [[i 9,i 0,i 0,i 0],[i 10,i 0,i 0,i 0],[i 0,i 0,i 0,i 0]],s0,s0]],V.sl [[i 3,i 3,i 0,i 6,i 44]],b0,b0,b0,s0,V.sl [[i 1],[i 0],[i 0],[i 0],[i 0],[i 0],[i 0],[i 0],[i 0],[i 0],[i 0],[i 0]],V.sl [[b1],[b0],[b0],[b0],[b0],[b0],[b0],[b0],[b0],[b0],[b0],[b0]],V.sl [[i 1,i 0,i 1,i 8,i 0,s0,s0,V.int .u32 (0),s0,V.int .u32 (2300351877)],[i 0,i 0,i 0,i 0,i 0,s0,s0,V.int .u32 (0),s0,V.int .u32 (0)],[i 0,i 0,i 0,i 0,i 0,s0,s0,V.int .u32 (0),s0,V.int .u32 (0)],[i 0,i 0,i 0,i 0,i 0,s0,s0,V.int .u32 (0),s0,V.int .u32 (0)],[i 0,i 0,i 0,i 0,i 0,s0,s0,V.int .u32 (0),s0,V.int .u32 (0)],[i 0,i 0,i 0,i 0,i 0,s0,s0,V.int .u32 (0),s0,V.int .u32 (0)],[i 0,i 0,i 0,i 0,i 0,s0,s0,V.int .u32 (0),s0,V.int .u32 (0)],[i 0,i 0,i 0,i 0,i 0,s0,s0,V.int .u32 (0),s0,V.int .u32 (0)],[i 0,i 0,i 0,i 0,i 0,s0,s0,V.int .u32 (0),s0,V.int .u32 (0)],[i 0,i 0,i 0,i 0,i 0,s0,s0,V.int .u32 (0),s0,V.int .u32 (0)],[i 0,i 0,i 0,i 0,i 0,s0,s0,V.int .u32 (0),s0,V.int .u32 (0)],[i 0,i 0,i 0,i 0,i 0,s0,s0,V.int .u32 (0),s0,V.int .u32 (0)]],s0,s0],V.agg [i 3,i 0,i 0,i 0,s0,s0,s0,i 0,i 0,i 0,i 0,V.int .u32 (0)]], V.tup [V.agg [i 0,i 100,V.fresh [[i 5,i 50,i 50,V.sl [[i 9,i 0,i 0,i 0],[i 10,i 0,i 0,i 0],[i 0,i 0,i 0,i 0]],s0,s0]],V.fresh [[i 3,i 3,i 0,i 6,i 44]],b0,b0,b0,f0,V.fresh [[i 1],[i 1],[i 0],[i 0],[i 0],[i 0],[i 0],[i 0],[i 0],[i 0],[i 0],[i 0]],V.fresh [[b1],[b1],[b0],[b0],[b0],[b0],[b0],[b0],[b0],[b0],[b0],[b0]],V.fresh [[i 1,i 0,i 1,i 8,i 0,s0,s0,V.int .u32 (0),s0,V.int .u32 (2300351877)],[i 2,i 1,i 1,i 0,i 0,s0,s0,V.int .u32 (0),s0,V.int .u32 (2434045381)],[i 0,i 0,i 0,i 0,i 0,s0,s0,V.int .u32 (0),s0,V.int .u32 (0)],[i 0,i 0,i 0,i 0,i 0,s0,s0,V.int .u32 (0),s0,V.int .u32 (0)],[i 0,i 0,i 0,i 0,i 0,s0,s0,V.int .u32 (0),s0,V.int .u32 (0)],[i 0,i 0,i 0,i 0,i 0,s0,s0,V.int .u32 (0),s0,V.int .u32 (0)],[i 0,i 0,i 0,i 0,i 0,s0,s0,V.int .u32 (0),s0,V.int .u32 (0)],[i 0,i 0,i 0,i 0,i 0,s0,s0,V.int .u32 (0),s0,V.int .u32 (0)],[i 0,i 0,i 0,i 0,i 0,s0,s0,V.int .u32 (0),s0,V.int .u32 (0)],[i 0,i 0,i 0,i 0,i 0,s0,s0,V.int .u32 (0),s0,V.int .u32 (0)],[i 0,i 0,i 0,i 0,i 0,s0,s0,V.int .u32 (0),s0,V.int .u32 (0)],[i 0,i 0,i 0,i 0,i 0,s0,s0,V.int .u32 (0),s0,V.int .u32 (0)]],f0,f0],f0,V.agg [i 0,i 1,i 1,i 0]], [])
theorem r24 : runF abi funs (orP (cloneP clones) (memoP [m23])) 100000 60 44 m24.2.1 = some m24.2.2 := by kernel_rfl
theorem w24 : Holds m24 := holds_of (tbl := [m23]) ⟨w23, trivial⟩ r24
def m25 : Entry := (265, [V.sl [[i 3],[i 2],[i 1],[i 0],[i 0],[i 0],[i 0],[i 0]]], V.int .u32 (2567738821), [])
theorem r25 : runF abi funs (orP (cloneP clones) (memoP [])) 100000 60 265 m25.2.1 = some m25.2.2 := by kernel_rfl
theorem w25 : Holds m25 := holds_of (tbl := []) trivial r25
def m26 : Entry := (44, [V.agg [i 0,i 100,V.sl [[i 5,i 50,i 50,V.sl [[i 9,i 0,i 0,i 0],[i 10,i 0,i 0,i 0],[i 0,i 0,i 0,i 0]],s0,s0]],V.sl [[i 3,i 3,i 0,i 6,i 44]],b0,b0,b0,s0,V.sl [[i 1],[i 1],[i 0],[i 0],[i 0],[i 0],[i 0],[i 0],[i 0],[i 0],[i 0],[i 0]],V.sl [[b1],[b1],[b0],[b0],[b0],[b0],[b0],[b0],[b0],[b0],[b0],[b0]],V.sl [[i 1,i 0,i 1,i 8,i 0,s0,s0,V.int .u32 (0),s0,V.int .u32 (2300351877)],[i 2,i 1,i 1,i 0,i 0,s0,s0,V.int .u32 (0),s0,V.int .u32 (2434045381)],[i 0,i 0,i 0,i 0,i 0,s0,s0,V.int .u32 (0),s0,V.int .u32 (0)],[i 0,i 0,i 0,i 0,i 0,s0,s0,V.int .u32 (0),s0,V.int .u32 (0)],[i 0,i 0,i 0,i 0,i 0,s0,s0,V.int .u32 (0),s0,V.int .u32 (0)],[i 0,i 0,i 0,i 0,i 0,s0,s0,V.int .u32 (0),s0,V.int .u32 (0)],[i 0,i 0,i 0,i 0,i 0,s0,s0,V.int .u32 (0),s0,V.int .u32 (0)],[i 0,i 0,i 0,i 0,i 0,s0,s0,V.int .u32 (0),s0,V.int .u32 (0)],[i 0,i 0,i 0,i 0,i 0,s0,s0,V.int .u32 (0),s0,V.int .u32 (0)],[i 0,i 0,i 0,i 0,i 0,s0,s0,V.int .u32 (0),s0,V.int .u32 (0)],[i 0,i 0,i 0,i 0,i 0,s0,s0,V.int .u32 (0),s0,V.int .u32 (0)],[i 0,i 0,i 0,i 0,i 0,s0,s0,V.int .u32 (0),s0,V.int .u32 (0)]],s0,s0],V.agg [i 4,i 0,i 0,i 0,s0,s0,s0,i 0,i 0,i 0,i 0,V.int .u32 (0)]], V.tup [V.agg [i 0,i 100,V.fresh [[i 5,i 50,i 50,V.sl [[i 9,i 0,i 0,i 0],[i 10,i 0,i 0,i 0],[i 0,i 0,i 0,i 0]],s0,s0]],V.fresh [[i 3,i 3,i 0,i 6,i 44]],b0,b0,b0,f0,V.fresh [[i 1],[i 1],[i 1],[i 0],[i 0],[i 0],[i 0],[i 0],[i 0],[i 0],[i 0],[i 0]],V.fresh [[b1],[b1],[b1],[b0],[b0],[b0],[b0],[b0],[b0],[b0],[b0],[b0]],V.fresh [[i 1,i 0,i 1,i 8,i 0,s0,s0,V.int .u32 (0),s0,V.int .u32 (2300351877)],[i 2,i 1,i 1,i 0,i 0,s0,s0,V.int .u32 (0),s0,V.int .u32 (2434045381)],[i 3,i 2,i 1,i 0,i 0,s0,s0,V.int .u32 (0),s0,V.int .u32 (2567738821)],[i 0,i 0,i 0,i 0,i 0,s0,s0,V.int .u32 (0),s0,V.int .u32 (0)],[i 0,i 0,i 0,i 0,i 0,s0,s0,V.int .u32 (0),s0,V.int .u32 (0)],[i 0,i 0,i 0,i 0,i 0,s0,s0,V.int .u32 (0),s0,V.int .u32 (0)],[i 0,i 0,i 0,i 0,i 0,s0,s0,V.int .u32 (0),s0,V.int .u32 (0)],[i 0,i 0,i 0,i 0,i 0,s0,s0,V.int .u32 (0),s0,V.int .u32 (0)],[i 0,i 0,i 0,i 0,i 0,s0,s0,V.int .u32 (0),s0,V.int .u32 (0)],[i 0,i 0,i 0,i 0,i 0,s0,s0,V.int .u32 (0),s0,V.int .u32 (0)],[i 0,i 0,i 0,i 0,i 0,s0,s0,V.int .u32 (0),s0,V.int .u32 (0)],[i 0,i 0,i 0,i 0,i 0,s0,s0,V.int .u32 (0),s0,V.int .u32 (0)]],f0,f0],f0,V.agg [i 0,i 2,i 1,i 0]], [])
theorem r26 : runF abi funs (orP (cloneP clones) (memoP [m25])) 100000 60 44 m26.2.1 = some m26.2.2 := by kernel_rfl
theorem w26 : Holds m26 := holds_of (tbl := [m25]) ⟨w25, trivial⟩ r26
def m27 : Entry := (265, [V.sl [[i 1],[i 0],[i 1],[i 0],[i 0],[i 0],[i 0],[i 0]]], V.int .u32 (2300351941), [])
theorem r27 : runF abi funs (orP (cloneP clones) (memoP [])) 100000 60 265 m27.2.1 = some m27.2.2 := by kernel_rfl
theorem w27 : Holds m27 := holds_of (tbl := []) trivial r27
def m28 : Entry := (123, [V.agg [i 0,i 100,V.sl [[i 5,i 50,i 50,V.sl [[i 9,i 0,i 0,i 0],[i 10,i 0,i 0,i 0],[i 0,i 0,i 0,i 0]],s0,s0]],V.sl [[i 3,i 3,i 0,i 6,i 44]],b0,b0,b0,s0,V.sl [[i 1],[i 1],[i 1],[i 0],[i 0],[i 0],[i 0],[i 0],[i 0],[i 0],[i 0],[i 0]],V.sl [[b1],[b1],[b1],[b0],[b0],[b0],[b0],[b0],[b0],[b0],[b0],[b0]],V.sl [[i 1,i 0,i 1,i 8,i 0,s0,s0,V.int .u32 (0),s0,V.int .u32 (2300351877)],[i 2,i 1,i 1,i 0,i 0,s0,s0,V.int .u32 (0),s0,V.int .u32 (2434045381)],[i 3,i 2,i 1,i 0,i 0,s0,s0,V.int .u32 (0),s0,V.int .u32 (2567738821)],[i 0,i 0,i 0,i 0,i 0,s0,s0,V.int .u32 (0),s0,V.int .u32 (0)],[i 0,i 0,i 0,i 0,i 0,s0,s0,V.int .u32 (0),s0,V.int .u32 (0)],[i 0,i 0,i 0,i 0,i 0,s0,s0,V.int .u32 (0),s0,V.int .u32 (0)],[i 0,i 0,i 0,i 0,i 0,s0,s0,V.int .u32 (0),s0,V.int .u32 (0)],[i 0,i 0,i 0,i 0,i 0,s0,s0,V.int .u32 (0),s0,V.int .u32 (0)],[i 0,i 0,i 0,i 0,i 0,s0,s0,V.int .u32 (0),s0,V.int .u32 (0)],[i 0,i 0,i 0,i 0,i 0,s0,s0,V.int .u32 (0),s0,V.int .u32 (0)],[i 0,i 0,i 0,i 0,i 0,s0,s0,V.int .u32 (0),s0,V.int .u32 (0)],[i 0,i 0,i 0,i 0,i 0,s0,s0,V.int .u32 (0),s0,V.int .u32 (0)]],s0,s0]], V.tup [V.agg [i 0,i 100,V.fresh [[i 5,i 50,i 50,V.sl [[i 9,i 0,i 0,i 0],[i 10,i 0,i 0,i 0],[i 0,i 0,i 0,i 0]],s0,s0]],V.fresh [[i 3,i 3,i 0,i 6,i 44]],b1,b0,b0,f0,V.fresh [[i 1],[i 1],[i 1],[i 0],[i 0],[i 0],[i 0],[i 0],[i 0],[i 0],[i 0],[i 0]],V.fresh [[b1],[b1],[b1],[b0],[b0],[b0],[b0],[b0],[b0],[b0],[b0],[b0]],V.fresh [[i 1,i 0,i 1,i 0,i 0,s0,s0,V.int .u32 (0),s0,V.int .u32 (2300351941)],[i 2,i 1,i 1,i 0,i 0,s0,s0,V.int .u32 (0),s0,V.int .u32 (2434045381)],[i 3,i 2,i 1,i 0,i 0,s0,s0,V.int .u32 (0),s0,V.int .u32 (2567738821)],[i 0,i 0,i 0,i 0,i 0,s0,s0,V.int .u32 (0),s0,V.int .u32 (0)],[i 0,i 0,i 0,i 0,i 0,s0,s0,V.int .u32 (0),s0,V.int .u32 (0)],[i 0,i 0,i 0,i 0,i 0,s0,s0,V.int .u32 (0),s0,V.int .u32 (0)],[i 0,i 0,i 0,i 0,i 0,s0,s0,V.int .u32 (0),s0,V.int .u32 (0)],[i 0,i 0,i 0,i 0,i 0,s0,s0,V.int .u32 (0),s0,V.int .u32 (0)],[i 0,i 0,i 0,i 0,i 0,s0,s0,V.int .u32 (0),s0,V.int .u32 (0)],[i 0,i 0,i 0,i 0,i 0,s0,s0,V.int .u32 (0),s0,V.int .u32 (0)],[i 0,i 0,i 0,i 0,i 0,s0,s0,V.int .u32 (0),s0,V.int .u32 (0)],[i 0,i 0,i 0,i 0,i 0,s0,s0,V.int .u32 (0),s0,V.int .u32 (0)]],f0,f0],i 0], [])
theorem r28 : runF abi funs (orP (cloneP clones) (memoP [m27, m21])) 100000 60 123 m28.2.1 = some m28.2.2 := by kernel_rfl
theorem w28 : Holds m28 := holds_of (tbl := [m27, m21]) ⟨w27, ⟨w21, trivial⟩⟩ r28
def m29 : Entry := (44, [V.agg [i 0,i 100,V.sl [[i 5,i 50,i 50,V.sl [[i 9,i 0,i 0,i 0],[i 10,i 0,i 0,i 0],[i 0,i 0,i 0,i 0]],s0,s0]],V.sl [[i 3,i 3,i 0,i 6,i 44]],b1,b0,b0,s0,V.sl [[i 1],[i 1],[i 1],[i 0],[i 0],[i 0],[i 0],[i 0],[i 0],[i 0],[i 0],[i 0]],V.sl [[b1],[b1],[b1],[b0],[b0],[b0],[b0],[b0],[b0],[b0],[b0],[b0]],V.sl [[i 1,i 0,i 1,i 0,i 0,s0,s0,V.int .u32 (0),s0,V.int .u32 (2300351941)],[i 2,i 1,i 1,i 0,i 0,s0,s0,V.int .u32 (0),s0,V.int .u32 (2434045381)],[i 3,i 2,i 1,i 0,i 0,s0,s0,V.int .u32 (0),s0,V.int .u32 (2567738821)],[i 0,i 0,i 0,i 0,i 0,s0,s0,V.int .u32 (0),s0,V.int .u32 (0)],[i 0,i 0,i 0,i 0,i 0,s0,s0,V.int .u32 (0),s0,V.int .u32 (0)],[i 0,i 0,i 0,i 0,i 0,s0,s0,V.int .u32 (0),s0,V.int .u32 (0)],[i 0,i 0,i 0,i 0,i 0,s0,s0,V.int .u32 (0),s0,V.int .u32 (0)],[i 0,i 0,i 0,i 0,i 0,s0,s0,V.int .u32 (0),s0,V.int .u32 (0)],[i 0,i 0,i 0,i 0,i 0,s0,s0,V.int .u32 (0),s0,V.int .u32 (0)],[i 0,i 0,i 0,i 0,i 0,s0,s0,V.int .u32 (0),s0,V.int .u32 (0)],[i 0,i 0,i 0,i 0,i 0,s0,s0,V.int .u32 (0),s0,V.int .u32 (0)],[i 0,i 0,i 0,i 0,i 0,s0,s0,V.int .u32 (0),s0,V.int .u32 (0)]],V.sl [[i 0]],V.sl [[b0]]],V.agg [i 5,i 0,i 0,i 0,s0,s0,s0,i 0,i 0,i 0,i 0,V.int .u32 (0)]], V.tup [V.agg [i 0,i 100,V.fresh [[i 5,i 50,i 50,V.sl [[i 9,i 0,i 0,i 0],[i 10,i 0,i 0,i 0],[i 0,i 0,i 0,i 0]],s0,s0]],V.fresh [[i 3,i 3,i 0,i 6,i 44]],b1,b0,b0,f0,V.fresh [[i 1],[i 1],[i 1],[i 0],[i 0],[i 0],[i 0],[i 0],[i 0],[i 0],[i 0],[i 0]],V.fresh [[b1],[b1],[b1],[b0],[b0],[b0],[b0],[b0],[b0],[b0],[b0],[b0]],V.fresh [[i 1,i 0,i 1,i 0,i 0,s0,s0,V.int .u32 (0),s0,V.int .u32 (2300351941)],[i 2,i 1,i 1,i 0,i 0,s0,s0,V.int .u32 (0),s0,V.int .u32 (2434045381)],[i 3,i 2,i 1,i 0,i 0,s0,s0,V.int .u32 (0),s0,V.int .u32 (2567738821)],[i 0,i 0,i 0,i 0,i 0,s0,s0,V.int .u32 (0),s0,V.int .u32 (0)],[i 0,i 0,i 0,i 0,i 0,s0,s0,V.int .u32 (0),s0,V.int .u32 (0)],[i 0,i 0,i 0,i 0,i 0,s0,s0,V.int .u32 (0),s0,V.int .u32 (0)],[i 0,i 0,i 0,i 0,i 0,s0,s0,V.int .u32 (0),s0,V.int .u32 (0)],[i 0,i 0,i 0,i 0,i 0,s0,s0,V.int .u32 (0),s0,V.int .u32 (0)],[i 0,i 0,i 0,i 0,i 0,s0,s0,V.int .u32 (0),s0,V.int .u32 (0)],[i 0,i 0,i 0,i 0,i 0,s0,s0,V.int .u32 (0),s0,V.int .u32 (0)],[i 0,i 0,i 0,i 0,i 0,s0,s0,V.int .u32 (0),s0,V.int .u32 (0)],[i 0,i 0,i 0,i 0,i 0,s0,s0,V.int .u32 (0),s0,V.int .u32 (0)]],V.fresh [[i 0]],V.fresh [[b0]]],f0,V.agg [i 7,i 0,i 0,i 0]], [])
theorem r29 : runF abi funs (orP (cloneP clones) (memoP [])) 100000 60 44 m29.2.1 = some m29.2.2 := by kernel_rfl
theorem w29 : Holds m29 := holds_of (tbl := []) trivial r29
def m30 : Entry := (44, [V.agg [i 0,i 100,V.sl [[i 5,i 50,i 50,V.sl [[i 9,i 0,i 0,i 0],[i 10,i 0,i 0,i 0],[i 0,i 0,i 0,i 0]],s0,s0]],V.sl [[i 3,i 3,i 0,i 6,i 44]],b1,b0,b0,s0,V.sl [[i 1],[i 1],[i 1],[i 0],[i 0],[i 0],[i 0],[i 0],[i 0],[i 0],[i 0],[i 0]],V.sl [[b1],[b1],[b1],[b0],[b0],[b0],[b0],[b0],[b0],[b0],[b0],[b0]],V.sl [[i 1,i 0,i 1,i 0,i 0,s0,s0,V.int .u32 (0),s0,V.int .u32 (2300351941)],[i 2,i 1,i 1,i 0,i 0,s0,s0,V.int .u32 (0),s0,V.int .u32 (2434045381)],[i 3,i 2,i 1,i 0,i 0,s0,s0,V.int .u32 (0),s0,V.int .u32 (2567738821)],[i 0,i 0,i 0,i 0,i 0,s0,s0,V.int .u32 (0),s0,V.int .u32 (0)],[i 0,i 0,i 0,i 0,i 0,s0,s0,V.int .u32 (0),s0,V.int .u32 (0)],[i 0,i 0,i 0,i 0,i 0,s0,s0,V.int .u32 (0),s0,V.int .u32 (0)],[i 0,i 0,i 0,i 0,i 0,s0,s0,V.int .u32 (0),s0,V.int .u32 (0)],[i 0,i 0,i 0,i 0,i 0,s0,s0,V.int .u32 (0),s0,V.int .u32 (0)],[i 0,i 0,i 0,i 0,i 0,s0,s0,V.int .u32 (0),s0,V.int .u32 (0)],[i 0,i 0,i 0,i 0,i 0,s0,s0,V.int .u32 (0),s0,V.int .u32 (0)],[i 0,i 0,i 0,i 0,i 0,s0,s0,V.int .u32 (0),s0,V.int .u32 (0)],[i 0,i 0,i 0,i 0,i 0,s0,s0,V.int .u32 (0),s0,V.int .u32 (0)]],V.sl [[i 0]],V.sl [[b0]]],V.agg [i 6,i 0,i 0,i 0,s0,s0,s0,i 0,i 0,i 1,i 0,V.int .u32 (0)]], V.tup [V.agg [i 0,i 100,V.fresh [[i 5,i 50,i 50,V.sl [[i 9,i 0,i 0,i 0],[i 10,i 0,i 0,i 0],[i 0,i 0,i 0,i 0]],s0,s0]],V.fresh [[i 3,i 3,i 0,i 6,i 44]],b1,b0,b0,f0,V.fresh [[i 1],[i 1],[i 1],[i 0],[i 0],[i 0],[i 0],[i 0],[i 0],[i 0],[i 0],[i 0]],V.fresh [[b1],[b1],[b1],[b0],[b0],[b0],[b0],[b0],[b0],[b0],[b0],[b0]],V.fresh [[i 1,i 0,i 1,i 0,i 0,s0,s0,V.int .u32 (0),s0,V.int .u32 (2300351941)],[i 2,i 1,i 1,i 0,i 0,s0,s0,V.int .u32 (0),s0,V.int .u32 (2434045381)],[i 3,i 2,i 1,i 0,i 0,s0,s0,V.int .u32 (0),s0,V.int .u32 (2567738821)],[i 0,i 0,i 0,i 0,i 0,s0,s0,V.int .u32 (0),s0,V.int .u32 (0)],[i 0,i 0,i 0,i 0,i 0,s0,s0,V.int .u32 (0),s0,V.int .u32 (0)],[i 0,i 0,i 0,i 0,i 0,s0,s0,V.int .u32 (0),s0,V.int .u32 (0)],[i 0,i 0,i 0,i 0,i 0,s0,s0,V.int .u32 (0),s0,V.int .u32 (0)],[i 0,i 0,i 0,i 0,i 0,s0,s0,V.int .u32 (0),s0,V.int .u32 (0)],[i 0,i 0,i 0,i 0,i 0,s0,s0,V.int .u32 (0),s0,V.int .u32 (0)],[i 0,i 0,i 0,i 0,i 0,s0,s0,V.int .u32 (0),s0,V.int .u32 (0)],[i 0,i 0,i 0,i 0,i 0,s0,s0,V.int .u32 (0),s0,V.int .u32 (0)],[i 0,i 0,i 0,i 0,i 0,s0,s0,V.int .u32 (0),s0,V.int .u32 (0)]],V.fresh [[i 0]],V.fresh [[b0]]],f0,V.agg [i 3,i 0,i 0,i 0]], [])
theorem r30 : runF abi funs (orP (cloneP clones) (memoP [])) 100000 60 44 m30.2.1 = some m30.2.2 := by kernel_rfl
theorem w30 : Holds m30 := holds_of (tbl := []) trivial r30
def m31 : Entry := (44, [V.agg [i 0,i 100,V.sl [[i 5,i 50,i 50,V.sl [[i 9,i 0,i 0,i 0],[i 10,i 0,i 0,i 0],[i 0,i 0,i 0,i 0]],s0,s0]],V.sl [[i 3,i 3,i 0,i 6,i 44]],b1,b0,b0,s0,V.sl [[i 1],[i 1],[i 1],[i 0],[i 0],[i 0],[i 0],[i 0],[i 0],[i 0],[i 0],[i 0]],V.sl [[b1],[b1],[b1],[b0],[b0],[b0],[b0],[b0],[b0],[b0],[b0],[b0]],V.sl [[i 1,i 0,i 1,i 0,i 0,s0,s0,V.int .u32 (0),s0,V.int .u32 (2300351941)],[i 2,i 1,i 1,i 0,i 0,s0,s0,V.int .u32 (0),s0,V.int .u32 (2434045381)],[i 3,i 2,i 1,i 0,i 0,s0,s0,V.int .u32 (0),s0,V.int .u32 (2567738821)],[i 0,i 0,i 0,i 0,i 0,s0,s0,V.int .u32 (0),s0,V.int .u32 (0)],[i 0,i 0,i 0,i 0,i 0,s0,s0,V.int .u32 (0),s0,V.int .u32 (0)],[i 0,i 0,i 0,i 0,i 0,s0,s0,V.int .u32 (0),s0,V.int .u32 (0)],[i 0,i 0,i 0,i 0,i 0,s0,s0,V.int .u32 (0),s0,V.int .u32 (0)],[i 0,i 0,i 0,i 0,i 0,s0,s0,V.int .u32 (0),s0,V.int .u32 (0)],[i 0,i 0,i 0,i 0,i 0,s0,s0,V.int .u32 (0),s0,V.int .u32 (0)],[i 0,i 0,i 0,i 0,i 0,s0,s0,V.int .u32 (0),s0,V.int .u32 (0)],[i 0,i 0,i 0,i 0,i 0,s0,s0,V.int .u32 (0),s0,V.int .u32 (0)],[i 0,i 0,i 0,i 0,i 0,s0,s0,V.int .u32 (0),s0,V.int .u32 (0)]],V.sl [[i 0]],V.sl [[b0]]],V.agg [i 6,i 0,i 0,i 0,s0,s0,s0,i 0,i 0,i 0,i 0,V.int .u32 (0)]], V.tup [V.agg [i 0,i 100,V.fresh [[i 5,i 50,i 50,V.sl [[i 9,i 0,i 0,i 0],[i 10,i 0,i 0,i 0],[i 0,i 0,i 0,i 0]],s0,s0]],V.fresh [[i 3,i 3,i 0,i 6,i 44]],b1,b0,b0,V.fresh [[i 0,i 0,i 0,i 0,i 0,i 0,i 0,i 0,i 0,i 0,i 0,i 0,i 0,s0,b0,i 0,i 0,i 0,i 0,i 0,i 0,i 0,i 0,i 0,s0,b0,s0,b0]],V.fresh [[i 1],[i 1],[i 1],[i 0],[i 0],[i 0],[i 0],[i 0],[i 0],[i 0],[i 0],[i 0]],V.fresh [[b1],[b1],[b1],[b0],[b0],[b0],[b0],[b0],[b0],[b0],[b0],[b0]],V.fresh [[i 1,i 0,i 1,i 0,i 0,s0,s0,V.int .u32 (0),s0,V.int .u32 (2300351941)],[i 2,i 1,i 1,i 0,i 0,s0,s0,V.int .u32 (0),s0,V.int .u32 (2434045381)],[i 3,i 2,i 1,i 0,i 0,s0,s0,V.int .u32 (0),s0,V.int .u32 (2567738821)],[i 0,i 0,i 0,i 0,i 0,s0,s0,V.int .u32 (0),s0,V.int .u32 (0)],[i 0,i 0,i 0,i 0,i 0,s0,s0,V.int .u32 (0),s0,V.int .u32 (0)],[i 0,i 0,i 0,i 0,i 0,s0,s0,V.int .u32 (0),s0,V.int .u32 (0)],[i 0,i 0,i 0,i 0,i 0,s0,s0,V.int .u32 (0),s0,V.int .u32 (0)],[i 0,i 0,i 0,i 0,i 0,s0,s0,V.int .u32 (0),s0,V.int .u32 (0)],[i 0,i 0,i 0,i 0,i 0,s0,s0,V.int .u32 (0),s0,V.int .u32 (0)],[i 0,i 0,i 0,i 0,i 0,s0,s0,V.int .u32 (0),s0,V.int .u32 (0)],[i 0,i 0,i 0,i 0,i 0,s0,s0,V.int .u32 (0),s0,V.int .u32 (0)],[i 0,i 0,i 0,i 0,i 0,s0,s0,V.int .u32 (0),s0,V.int .u32 (0)]],V.fresh [[i 0]],V.fresh [[b0]]],V.fresh [[i 0,i 1,i 0,i 0,i 0,i 0]],V.agg [i 0,i 0,i 0,i 0]], [])
theorem r31 : runF abi funs (orP (cloneP clones) (memoP [])) 100000 60 44 m31.2.1 = some m31.2.2 := by kernel_rfl
theorem w31 : Holds m31 := holds_of (tbl := []) trivial r31
def m32 : Entry := (44, [V.agg [i 0,i 100,V.sl [[i 5,i 50,i 50,V.sl [[i 9,i 0,i 0,i 0],[i 10,i 0,i 0,i 0],[i 0,i 0,i 0,i 0]],s0,s0]],V.sl [[i 3,i 3,i 0,i 6,i 44]],b1,b0,b0,V.sl [[i 0,i 0,i 0,i 0,i 0,i 0,i 0,i 0,i 0,i 0,i 0,i 0,i 0,s0,b0,i 0,i 0,i 0,i 0,i 0,i 0,i 0,i 0,i 0,s0,b0,s0,b0]],V.sl [[i 1],[i 1],[i 1],[i 0],[i 0],[i 0],[i 0],[i 0],[i 0],[i 0],[i 0],[i 0]],V.sl [[b1],[b1],[b1],[b0],[b0],[b0],[b0],[b0],[b0],[b0],[b0],[b0]],V.sl [[i 1,i 0,i 1,i 0,i 0,s0,s0,V.int .u32 (0),s0,V.int .u32 (2300351941)],[i 2,i 1,i 1,i 0,i 0,s0,s0,V.int .u32 (0),s0,V.int .u32 (2434045381)],[i 3,i 2,i 1,i 0,i 0,s0,s0,V.int .u32 (0),s0,V.int .u32 (2567738821)],[i 0,i 0,i 0,i 0,i 0,s0,s0,V.int .u32 (0),s0,V.int .u32 (0)],[i 0,i 0,i 0,i 0,i 0,s0,s0,V.int .u32 (0),s0,V.int .u32 (0)],[i 0,i 0,i 0,i 0,i 0,s0,s0,V.int .u32 (0),s0,V.int .u32 (0)],[i 0,i 0,i 0,i 0,i 0,s0,s0,V.int .u32 (0),s0,V.int .u32 (0)],[i 0,i 0,i 0,i 0,i 0,s0,s0,V.int .u32 (0),s0,V.int .u32 (0)],[i 0,i 0,i 0,i 0,i 0,s0,s0,V.int .u32 (0),s0,V.int .u32 (0)],[i 0,i 0,i 0,i 0,i 0,s0,s0,V.int .u32 (0),s0,V.int .u32 (0)],[i 0,i 0,i 0,i 0,i 0,s0,s0,V.int .u32 (0),s0,V.int .u32 (0)],[i 0,i 0,i 0,i 0,i 0,s0,s0,V.int .u32 (0),s0,V.int .u32 (0)]],V.sl [[i 0]],V.sl [[b0]]],V.agg [i 6,i 0,i 0,i 0,s0,s0,s0,i 0,i 0,i 0,i 0,V.int .u32 (0)]], V.tup [V.agg [i 0,i 100,V.fresh [[i 5,i 50,i 50,V.sl [[i 9,i 0,i 0,i 0],[i 10,i 0,i 0,i 0],[i 0,i 0,i 0,i 0]],s0,s0]],V.fresh [[i 3,i 3,i 0,i 6,i 44]],b1,b0,b0,V.fresh [[i 0,i 0,i 0,i 0,i 0,i 0,i 0,i 0,i 0,i 0,i 0,i 0,i 0,s0,b0,i 0,i 0,i 0,i 0,i 0,i 0,i 0,i 0,i 0,s0,b0,s0,b0]],V.fresh [[i 1],[i 1],[i 1],[i 0],[i 0],[i 0],[i 0],[i 0],[i 0],[i 0],[i 0],[i 0]],V.fresh [[b1],[b1],[b1],[b0],[b0],[b0],[b0],[b0],[b0],[b0],[b0],[b0]],V.fresh [[i 1,i 0,i 1,i 0,i 0,s0,s0,V.int .u32 (0),s0,V.int .u32 (2300351941)],[i 2,i 1,i 1,i 0,i 0,s0,s0,V.int .u32 (0),s0,V.int .u32 (2434045381)],[i 3,i 2,i 1,i 0,i 0,s0,s0,V.int .u32 (0),s0,V.int .u32 (2567738821)],[i 0,i 0,i 0,i 0,i 0,s0,s0,V.int .u32 (0),s0,V.int .u32 (0)],[i 0,i 0,i 0,i 0,i 0,s0,s0,V.int .u32 (0),s0,V.int .u32 (0)],[i 0,i 0,i 0,i 0,i 0,s0,s0,V.int .u32 (0),s0,V.int .u32 (0)],[i 0,i 0,i 0,i 0,i 0,s0,s0,V.int .u32 (0),s0,V.int .u32 (0)],[i 0,i 0,i 0,i 0,i 0,s0,s0,V.int .u32 (0),s0,V.int .u32 (0)],[i 0,i 0,i 0,i 0,i 0,s0,s0,V.int .u32 (0),s0,V.int .u32 (0)],[i 0,i 0,i 0,i 0,i 0,s0,s0,V.int .u32 (0),s0,V.int .u32 (0)],[i 0,i 0,i 0,i 0,i 0,s0,s0,V.int .u32 (0),s0,V.int .u32 (0)],[i 0,i 0,i 0,i 0,i 0,s0,s0,V.int .u32 (0),s0,V.int .u32 (0)]],V.fresh [[i 0]],V.fresh [[b0]]],f0,V.agg [i 5,i 0,i 0,i 0]], [])
theorem r32 : runF abi funs (orP (cloneP clones) (memoP [])) 100000 60 44 m32.2.1 = some m32.2.2 := by kernel_rfl
theorem w32 : Holds m32 := holds_of (tbl := []) trivial r32
def m33 : Entry := (44, [V.agg [i 0,i 100,V.sl [[i 5,i 50,i 50,V.sl [[i 9,i 0,i 0,i 0],[i 10,i 0,i 0,i 0],[i 0,i 0,i 0,i 0]],s0,s0]],V.sl [[i 3,i 3,i 0,i 6,i 44]],b1,b0,b0,V.sl [[i 0,i 0,i 0,i 0,i 0,i 0,i 0,i 0,i 0,i 0,i 0,i 0,i 0,s0,b0,i 0,i 0,i 0,i 0,i 0,i 0,i 0,i 0,i 0,s0,b0,s0,b0]],V.sl [[i 1],[i 1],[i 1],[i 0],[i 0],[i 0],[i 0],[i 0],[i 0],[i 0],[i 0],[i 0]],V.sl [[b1],[b1],[b1],[b0],[b0],[b0],[b0],[b0],[b0],[b0],[b0],[b0]],V.sl [[i 1,i 0,i 1,i 0,i 0,s0,s0,V.int .u32 (0),s0,V.int .u32 (2300351941)],[i 2,i 1,i 1,i 0,i 0,s0,s0,V.int .u32 (0),s0,V.int .u32 (2434045381)],[i 3,i 2,i 1,i 0,i 0,s0,s0,V.int .u32 (0),s0,V.int .u32 (2567738821)],[i 0,i 0,i 0,i 0,i 0,s0,s0,V.int .u32 (0),s0,V.int .u32 (0)],[i 0,i 0,i 0,i 0,i 0,s0,s0,V.int .u32 (0),s0,V.int .u32 (0)],[i 0,i 0,i 0,i 0,i 0,s0,s0,V.int .u32 (0),s0,V.int .u32 (0)],[i 0,i 0,i 0,i 0,i 0,s0,s0,V.int .u32 (0),s0,V.int .u32 (0)],[i 0,i 0,i 0,i 0,i 0,s0,s0,V.int .u32 (0),s0,V.int .u32 (0)],[i 0,i 0,i 0,i 0,i 0,s0,s0,V.int .u32 (0),s0,V.int .u32 (0)],[i 0,i 0,i 0,i 0,i 0,s0,s0,V.int .u32 (0),s0,V.int .u32 (0)],[i 0,i 0,i 0,i 0,i 0,s0,s0,V.int .u32 (0),s0,V.int .u32 (0)],[i 0,i 0,i 0,i 0,i 0,s0,s0,V.int .u32 (0),s0,V.int .u32 (0)]],V.sl [[i 0]],V.sl [[b0]]],V.agg [i 7,i 0,i 0,i 0,s0,s0,s0,i 2,i 1,i 0,i 0,V.int .u32 (0)]], V.tup [V.agg [i 0,i 100,V.fresh [[i 5,i 50,i 50,V.sl [[i 9,i 0,i 0,i 0],[i 10,i 0,i 0,i 0],[i 0,i 0,i 0,i 0]],s0,s0]],V.fresh [[i 3,i 3,i 0,i 6,i 44]],b1,b0,b0,V.fresh [[i 0,i 0,i 0,i 0,i 0,i 0,i 0,i 0,i 0,i 0,i 0,i 0,i 0,s0,b0,i 0,i 0,i 0,i 0,i 0,i 0,i 0,i 0,i 0,s0,b0,s0,b0]],V.fresh [[i 1],[i 1],[i 1],[i 0],[i 0],[i 0],[i 0],[i 0],[i 0],[i 0],[i 0],[i 0]],V.fresh [[b1],[b1],[b1],[b0],[b0],[b0],[b0],[b0],[b0],[b0],[b0],[b0]],V.fresh [[i 1,i 0,i 1,i 0,i 0,s0,s0,V.int .u32 (0),s0,V.int .u32 (2300351941)],[i 2,i 1,i 1,i 0,i 0,s0,s0,V.int .u32 (0),s0,V.int .u32 (2434045381)],[i 3,i 2,i 1,i 0,i 0,s0,s0,V.int .u32 (0),s0,V.int .u32 (2567738821)],[i 0,i 0,i 0,i 0,i 0,s0,s0,V.int .u32 (0),s0,V.int .u32 (0)],[i 0,i 0,i 0,i 0,i 0,s0,s0,V.int .u32 (0),s0,V.int .u32 (0)],[i 0,i 0,i 0,i 0,i 0,s0,s0,V.int .u32 (0),s0,V.int .u32 (0)],[i 0,i 0,i 0,i 0,i 0,s0,s0,V.int .u32 (0),s0,V.int .u32 (0)],[i 0,i 0,i 0,i 0,i 0,s0,s0,V.int .u32 (0),s0,V.int .u32 (0)],[i 0,i 0,i 0,i 0,i 0,s0,s0,V.int .u32 (0),s0,V.int .u32 (0)],[i 0,i 0,i 0,i 0,i 0,s0,s0,V.int .u32 (0),s0,V.int .u32 (0)],[i 0,i 0,i 0,i 0,i 0,s0,s0,V.int .u32 (0),s0,V.int .u32 (0)],[i 0,i 0,i 0,i 0,i 0,s0,s0,V.int .u32 (0),s0,V.int .u32 (0)]],V.fresh [[i 0]],V.fresh [[b0]]],f0,V.agg [i 3,i 0,i 0,i 0]], [])
theorem r33 : runF abi funs (orP (cloneP clones) (memoP [])) 100000 60 44 m33.2.1 = some m33.2.2 := by kernel_rfl
theorem w33 : Holds m33 := holds_of (tbl := []) trivial r33
def m34 : Entry := (265, [V.sl [[i 2],[i 1],[i 1],[i 0],[i 0],[i 0],[i 1],[i 3],[i 0]]], V.int .u32 (345890193), [])
theorem r34 : runF abi funs (orP (cloneP clones) (memoP [])) 100000 60 265 m34.2.1 = some m34.2.2 := by kernel_rfl
theorem w34 : Holds m34 := holds_of (tbl := []) trivial r34
def m35 : Entry := (76, [V.pbox [i 0,i 100,V.sl [[i 5,i 50,i 50,V.sl [[i 9,i 0,i 0,i 0],[i 10,i 0,i 0,i 0],[i 0,i 0,i 0,i 0]],s0,s0]],V.sl [[i 3,i 3,i 0,i 6,i 44]],b1,b0,b0,V.sl [[i 0,i 0,i 0,i 0,i 0,i 0,i 0,i 0,i 0,i 0,i 0,i 0,i 0,s0,b0,i 0,i 0,i 0,i 0,i 0,i 0,i 0,i 0,i 0,s0,b0,s0,b0]],V.sl [[i 1],[i 1],[i 1],[i 0],[i 0],[i 0],[i 0],[i 0],[i 0],[i 0],[i 0],[i 0]],V.sl [[b1],[b1],[b1],[b0],[b0],[b0],[b0],[b0],[b0],[b0],[b0],[b0]],V.sl [[i 1,i 0,i 1,i 0,i 0,s0,s0,V.int .u32 (0),s0,V.int .u32 (2300351941)],[i 2,i 1,i 1,i 0,i 0,s0,s0,V.int .u32 (0),s0,V.int .u32 (2434045381)],[i 3,i 2,i 1,i 0,i 0,s0,s0,V.int .u32 (0),s0,V.int .u32 (2567738821)],[i 0,i 0,i 0,i 0,i 0,s0,s0,V.int .u32 (0),s0,V.int .u32 (0)],[i 0,i 0,i 0,i 0,i 0,s0,s0,V.int .u32 (0),s0,V.int .u32 (0)],[i 0,i 0,i 0,i 0,i 0,s0,s0,V.int .u32 (0),s0,V.int .u32 (0)],[i 0,i 0,i 0,i 0,i 0,s0,s0,V.int .u32 (0),s0,V.int .u32 (0)],[i 0,i 0,i 0,i 0,i 0,s0,s0,V.int .u32 (0),s0,V.int .u32 (0)],[i 0,i 0,i 0,i 0,i 0,s0,s0,V.int .u32 (0),s0,V.int .u32 (0)],[i 0,i 0,i 0,i 0,i 0,s0,s0,V.int .u32 (0),s0,V.int .u32 (0)],[i 0,i 0,i 0,i 0,i 0,s0,s0,V.int .u32 (0),s0,V.int .u32 (0)],[i 0,i 0,i 0,i 0,i 0,s0,s0,V.int .u32 (0),s0,V.int .u32 (0)]],V.sl [[i 0]],V.sl [[b0]],i 8,i 0,i 0,i 0,s0,s0,s0,i 1,i 1,i 3,i 0,V.int .u32 (0),f0,i 0,i 0,i 0,i 0] 0], V.tup [], [[i 0,i 100,V.sl [[i 5,i 50,i 50,V.sl [[i 9,i 0,i 0,i 0],[i 10,i 0,i 0,i 0],[i 0,i 0,i 0,i 0]],s0,s0]],V.sl [[i 3,i 3,i 0,i 6,i 44]],b1,b0,b0,V.sl [[i 0,i 0,i 0,i 0,i 0,i 0,i 0,i 0,i 0,i 0,i 0,i 0,i 0,s0,b0,i 0,i 0,i 0,i 0,i 0,i 0,i 0,i 0,i 0,s0,b0,s0,b0]],V.fresh [[i 1],[i 1],[i 1],[i 0],[i 0],[i 0],[i 0],[i 0],[i 0],[i 0],[i 0],[i 0]],V.fresh [[b1],[b1],[b1],[b0],[b0],[b0],[b0],[b0],[b0],[b0],[b0],[b0]],V.fresh [[i 1,i 0,i 1,i 0,i 0,s0,s0,V.int .u32 (0),s0,V.int .u32 (2300351941)],[i 2,i 1,i 1,i 0,i 0,s0,V.sl [[i 3]],V.int .u32 (0),s0,V.int .u32 (345890193)],[i 3,i 2,i 1,i 0,i 0,s0,s0,V.int .u32 (0),s0,V.int .u32 (2567738821)],[i 0,i 0,i 0,i 0,i 0,s0,s0,V.int .u32 (0),s0,V.int .u32 (0)],[i 0,i 0,i 0,i 0,i 0,s0,s0,V.int .u32 (0),s0,V.int .u32 (0)],[i 0,i 0,i 0,i 0,i 0,s0,s0,V.int .u32 (0),s0,V.int .u32 (0)],[i 0,i 0,i 0,i 0,i 0,s0,s0,V.int .u32 (0),s0,V.int .u32 (0)],[i 0,i 0,i 0,i 0,i 0,s0,s0,V.int .u32 (0),s0,V.int .u32 (0)],[i 0,i 0,i 0,i 0,i 0,s0,s0,V.int .u32 (0),s0,V.int .u32 (0)],[i 0,i 0,i 0,i 0,i 0,s0,s0,V.int .u32 (0),s0,V.int .u32 (0)],[i 0,i 0,i 0,i 0,i 0,s0,s0,V.int .u32 (0),s0,V.int .u32 (0)],[i 0,i 0,i 0,i 0,i 0,s0,s0,V.int .u32 (0),s0,V.int .u32 (0)]],V.sl [[i 0]],V.sl [[b0]],i 8,i 0,i 0,i 0,s0,s0,s0,i 1,i 1,i 3,i 0,V.int .u32 (0),f0,i 16,i 0,i 0,i 0]])
theorem r35 : runF abi funs (orP (cloneP clones) (memoP [m34, m23])) 100000 60 76 m35.2.1 = some m35.2.2 := by kernel_rfl
theorem w35 : Holds m35 := holds_of (tbl := [m34, m23]) ⟨w34, ⟨w23, trivial⟩⟩ r35
def m36 : Entry := (44, [V.agg [i 0,i 100,V.sl [[i 5,i 50,i 50,V.sl [[i 9,i 0,i 0,i 0],[i 10,i 0,i 0,i 0],[i 0,i 0,i 0,i 0]],s0,s0]],V.sl [[i 3,i 3,i 0,i 6,i 44]],b1,b0,b0,V.sl [[i 0,i 0,i 0,i 0,i 0,i 0,i 0,i 0,i 0,i 0,i 0,i 0,i 0,s0,b0,i 0,i 0,i 0,i 0,i 0,i 0,i 0,i 0,i 0,s0,b0,s0,b0]],V.sl [[i 1],[i 1],[i 1],[i 0],[i 0],[i 0],[i 0],[i 0],[i 0],[i 0],[i 0],[i 0]],V.sl [[b1],[b1],[b1],[b0],[b0],[b0],[b0],[b0],[b0],[b0],[b0],[b0]],V.sl [[i 1,i 0,i 1,i 0,i 0,s0,s0,V.int .u32 (0),s0,V.int .u32 (2300351941)],[i 2,i 1,i 1,i 0,i 0,s0,V.sl [[i 3]],V.int .u32 (0),s0,V.int .u32 (345890193)],[i 3,i 2,i 1,i 0,i 0,s0,s0,V.int .u32 (0),s0,V.int .u32 (2567738821)],[i 0,i 0,i 0,i 0,i 0,s0,s0,V.int .u32 (0),s0,V.int .u32 (0)],[i 0,i 0,i 0,i 0,i 0,s0,s0,V.int .u32 (0),s0,V.int .u32 (0)],[i 0,i 0,i 0,i 0,i 0,s0,s0,V.int .u32 (0),s0,V.int .u32 (0)],[i 0,i 0,i 0,i 0,i 0,s0,s0,V.int .u32 (0),s0,V.int .u32 (0)],[i 0,i 0,i 0,i 0,i 0,s0,s0,V.int .u32 (0),s0,V.int .u32 (0)],[i 0,i 0,i 0,i 0,i 0,s0,s0,V.int .u32 (0),s0,V.int .u32 (0)],[i 0,i 0,i 0,i 0,i 0,s0,s0,V.int .u32 (0),s0,V.int .u32 (0)],[i 0,i 0,i 0,i 0,i 0,s0,s0,V.int .u32 (0),s0,V.int .u32 (0)],[i 0,i 0,i 0,i 0,i 0,s0,s0,V.int .u32 (0),s0,V.int .u32 (0)]],V.sl [[i 0]],V.sl [[b0]]],V.agg [i 8,i 0,i 0,i 0,s0,s0,s0,i 1,i 1,i 3,i 0,V.int .u32 (0)]], V.tup [V.agg [i 0,i 100,V.fresh [[i 5,i 50,i 50,V.sl [[i 9,i 0,i 0,i 0],[i 10,i 0,i 0,i 0],[i 0,i 0,i 0,i 0]],s0,s0]],V.fresh [[i 3,i 3,i 0,i 6,i 44]],b1,b0,b0,V.fresh [[i 0,i 0,i 0,i 0,i 0,i 0,i 0,i 0,i 0,i 0,i 0,i 0,i 0,s0,b0,i 0,i 0,i 0,i 0,i 0,i 0,i 0,i 0,i 0,s0,b0,s0,b0]],V.fresh [[i 1],[i 1],[i 1],[i 0],[i 0],[i 0],[i 0],[i 0],[i 0],[i 0],[i 0],[i 0]],V.fresh [[b1],[b1],[b1],[b0],[b0],[b0],[b0],[b0],[b0],[b0],[b0],[b0]],V.fresh [[i 1,i 0,i 1,i 0,i 0,s0,s0,V.int .u32 (0),s0,V.int .u32 (2300351941)],[i 2,i 1,i 1,i 0,i 0,s0,V.sl [[i 3]],V.int .u32 (0),s0,V.int .u32 (345890193)],[i 3,i 2,i 1,i 0,i 0,s0,s0,V.int .u32 (0),s0,V.int .u32 (2567738821)],[i 0,i 0,i 0,i 0,i 0,s0,s0,V.int .u32 (0),s0,V.int .u32 (0)],[i 0,i 0,i 0,i 0,i 0,s0,s0,V.int .u32 (0),s0,V.int .u32 (0)],[i 0,i 0,i 0,i 0,i 0,s0,s0,V.int .u32 (0),s0,V.int .u32 (0)],[i 0,i 0,i 0,i 0,i 0,s0,s0,V.int .u32 (0),s0,V.int .u32 (0)],[i 0,i 0,i 0,i 0,i 0,s0,s0,V.int .u32 (0),s0,V.int .u32 (0)],[i 0,i 0,i 0,i 0,i 0,s0,s0,V.int .u32 (0),s0,V.int .u32 (0)],[i 0,i 0,i 0,i 0,i 0,s0,s0,V.int .u32 (0),s0,V.int .u32 (0)],[i 0,i 0,i 0,i 0,i 0,s0,s0,V.int .u32 (0),s0,V.int .u32 (0)],[i 0,i 0,i 0,i 0,i 0,s0,s0,V.int .u32 (0),s0,V.int .u32 (0)]],V.fresh [[i 0]],V.fresh [[b0]]],f0,V.agg [i 1,i 0,i 0,i 0]], [])
theorem r36 : runF abi funs (orP (cloneP clones) (memoP [])) 100000 60 44 m36.2.1 = some m36.2.2 := by kernel_rfl
theorem w36 : Holds m36 := holds_of (tbl := []) trivial r36
def m37 : Entry := (75, [V.pbox [i 0,i 100,V.sl [[i 5,i 50,i 50,V.sl [[i 9,i 0,i 0,i 0],[i 10,i 0,i 0,i 0],[i 0,i 0,i 0,i 0]],s0,s0]],V.sl [[i 3,i 3,i 0,i 6,i 44]],b1,b0,b0,V.sl [[i 0,i 0,i 0,i 0,i 0,i 0,i 0,i 0,i 0,i 0,i 0,i 0,i 0,s0,b0,i 0,i 0,i 0,i 0,i 0,i 0,i 0,i 0,i 0,s0,b0,s0,b0]],V.sl [[i 1],[i 1],[i 1],[i 0],[i 0],[i 0],[i 0],[i 0],[i 0],[i 0],[i 0],[i 0]],V.sl [[b1],[b1],[b1],[b0],[b0],[b0],[b0],[b0],[b0],[b0],[b0],[b0]],V.sl [[i 1,i 0,i 1,i 0,i 0,s0,s0,V.int .u32 (0),s0,V.int .u32 (2300351941)],[i 2,i 1,i 1,i 0,i 0,s0,V.sl [[i 3]],V.int .u32 (0),s0,V.int .u32 (345890193)],[i 3,i 2,i 1,i 0,i 0,s0,s0,V.int .u32 (0),s0,V.int .u32 (2567738821)],[i 0,i 0,i 0,i 0,i 0,s0,s0,V.int .u32 (0),s0,V.int .u32 (0)],[i 0,i 0,i 0,i 0,i 0,s0,s0,V.int .u32 (0),s0,V.int .u32 (0)],[i 0,i 0,i 0,i 0,i 0,s0,s0,V.int .u32 (0),s0,V.int .u32 (0)],[i 0,i 0,i 0,i 0,i 0,s0,s0,V.int .u32 (0),s0,V.int .u32 (0)],[i 0,i 0,i 0,i 0,i 0,s0,s0,V.int .u32 (0),s0,V.int .u32 (0)],[i 0,i 0,i 0,i 0,i 0,s0,s0,V.int .u32 (0),s0,V.int .u32 (0)],[i 0,i 0,i 0,i 0,i 0,s0,s0,V.int .u32 (0),s0,V.int .u32 (0)],[i 0,i 0,i 0,i 0,i 0,s0,s0,V.int .u32 (0),s0,V.int .u32 (0)],[i 0,i 0,i 0,i 0,i 0,s0,s0,V.int .u32 (0),s0,V.int .u32 (0)]],V.sl [[i 0]],V.sl [[b0]],i 7,i 0,i 0,i 0,s0,s0,s0,i 1,i 1,i 0,i 9,V.int .u32 (0),f0,i 0,i 0,i 0,i 0] 0], V.tup [], [[i 0,i 100,V.sl [[i 5,i 50,i 50,V.sl [[i 9,i 0,i 0,i 0],[i 10,i 0,i 0,i 0],[i 0,i 0,i 0,i 0]],s0,s0]],V.sl [[i 3,i 3,i 0,i 6,i 44]],b1,b0,b0,V.sl [[i 0,i 0,i 0,i 0,i 0,i 0,i 0,i 0,i 0,i 0,i 0,i 0,i 0,s0,b0,i 0,i 0,i 0,i 0,i 0,i 0,i 0,i 0,i 0,s0,b0,s0,b0]],V.fresh [[i 1],[i 1],[i 1],[i 0],[i 0],[i 0],[i 0],[i 0],[i 0],[i 0],[i 0],[i 0]],V.fresh [[b1],[b1],[b1],[b0],[b0],[b0],[b0],[b0],[b0],[b0],[b0],[b0]],V.fresh [[i 1,i 0,i 1,i 0,i 0,s0,s0,V.int .u32 (0),s0,V.int .u32 (2300351941)],[i 2,i 1,i 1,i 0,i 0,s0,s0,V.int .u32 (0),s0,V.int .u32 (2434045381)],[i 3,i 2,i 1,i 0,i 0,s0,s0,V.int .u32 (0),s0,V.int .u32 (2567738821)],[i 0,i 0,i 0,i 0,i 0,s0,s0,V.int .u32 (0),s0,V.int .u32 (0)],[i 0,i 0,i 0,i 0,i 0,s0,s0,V.int .u32 (0),s0,V.int .u32 (0)],[i 0,i 0,i 0,i 0,i 0,s0,s0,V.int .u32 (0),s0,V.int .u32 (0)],[i 0,i 0,i 0,i 0,i 0,s0,s0,V.int .u32 (0),s0,V.int .u32 (0)],[i 0,i 0,i 0,i 0,i 0,s0,s0,V.int .u32 (0),s0,V.int .u32 (0)],[i 0,i 0,i 0,i 0,i 0,s0,s0,V.int .u32 (0),s0,V.int .u32 (0)],[i 0,i 0,i 0,i 0,i 0,s0,s0,V.int .u32 (0),s0,V.int .u32 (0)],[i 0,i 0,i 0,i 0,i 0,s0,s0,V.int .u32 (0),s0,V.int .u32 (0)],[i 0,i 0,i 0,i 0,i 0,s0,s0,V.int .u32 (0),s0,V.int .u32 (0)]],V.sl [[i 0]],V.sl [[b0]],i 7,i 0,i 0,i 0,s0,s0,s0,i 1,i 1,i 0,i 9,V.int .u32 (0),V.fresh [[i 0,i 12,i 0,i 3,i 9,i 0]],i 0,i 0,i 0,i 0]])
theorem r37 : runF abi funs (orP (cloneP clones) (memoP [m23, m34])) 100000 60 75 m37.2.1 = some m37.2.2 := by kernel_rfl
theorem w37 : Holds m37 := holds_of (tbl := [m23, m34]) ⟨w23, ⟨w34, trivial⟩⟩ r37
def m38 : Entry := (44, [V.agg [i 0,i 100,V.sl [[i 5,i 50,i 50,V.sl [[i 9,i 0,i 0,i 0],[i 10,i 0,i 0,i 0],[i 0,i 0,i 0,i 0]],s0,s0]],V.sl [[i 3,i 3,i 0,i 6,i 44]],b1,b0,b0,V.sl [[i 0,i 0,i 0,i 0,i 0,i 0,i 0,i 0,i 0,i 0,i 0,i 0,i 0,s0,b0,i 0,i 0,i 0,i 0,i 0,i 0,i 0,i 0,i 0,s0,b0,s0,b0]],V.sl [[i 1],[i 1],[i 1],[i 0],[i 0],[i 0],[i 0],[i 0],[i 0],[i 0],[i 0],[i 0]],V.sl [[b1],[b1],[b1],[b0],[b0],[b0],[b0],[b0],[b0],[b0],[b0],[b0]],V.sl [[i 1,i 0,i 1,i 0,i 0,s0,s0,V.int .u32 (0),s0,V.int .u32 (2300351941)],[i 2,i 1,i 1,i 0,i 0,s0,s0,V.int .u32 (0),s0,V.int .u32 (2434045381)],[i 3,i 2,i 1,i 0,i 0,s0,s0,V.int .u32 (0),s0,V.int .u32 (2567738821)],[i 0,i 0,i 0,i 0,i 0,s0,s0,V.int .u32 (0),s0,V.int .u32 (0)],[i 0,i 0,i 0,i 0,i 0,s0,s0,V.int .u32 (0),s0,V.int .u32 (0)],[i 0,i 0,i 0,i 0,i 0,s0,s0,V.int .u32 (0),s0,V.int .u32 (0)],[i 0,i 0,i 0,i 0,i 0,s0,s0,V.int .u32 (0),s0,V.int .u32 (0)],[i 0,i 0,i 0,i 0,i 0,s0,s0,V.int .u32 (0),s0,V.int .u32 (0)],[i 0,i 0,i 0,i 0,i 0,s0,s0,V.int .u32 (0),s0,V.int .u32 (0)],[i 0,i 0,i 0,i 0,i 0,s0,s0,V.int .u32 (0),s0,V.int .u32 (0)],[i 0,i 0,i 0,i 0,i 0,s0,s0,V.int .u32 (0),s0,V.int .u32 (0)],[i 0,i 0,i 0,i 0,i 0,s0,s0,V.int .u32 (0),s0,V.int .u32 (0)]],V.sl [[i 0]],V.sl [[b0]]],V.agg [i 9,i 0,i 0,i 0,s0,s0,s0,i 1,i 1,i 0,i 0,V.int .u32 (0)]], V.tup [V.agg [i 0,i 100,V.fresh [[i 5,i 50,i 50,V.sl [[i 9,i 0,i 0,i 0],[i 10,i 0,i 0,i 0],[i 0,i 0,i 0,i 0]],s0,s0]],V.fresh [[i 3,i 3,i 0,i 6,i 44]],b1,b0,b0,V.fresh [[i 0,i 0,i 0,i 0,i 0,i 0,i 0,i 0,i 0,i 0,i 0,i 0,i 0,s0,b0,i 0,i 0,i 0,i 0,i 0,i 0,i 0,i 0,i 0,s0,b0,s0,b0]],V.fresh [[i 1],[i 1],[i 1],[i 0],[i 0],[i 0],[i 0],[i 0],[i 0],[i 0],[i 0],[i 0]],V.fresh [[b1],[b1],[b1],[b0],[b0],[b0],[b0],[b0],[b0],[b0],[b0],[b0]],V.fresh [[i 1,i 0,i 1,i 0,i 0,s0,s0,V.int .u32 (0),s0,V.int .u32 (2300351941)],[i 2,i 1,i 1,i 0,i 0,s0,s0,V.int .u32 (0),s0,V.int .u32 (2434045381)],[i 3,i 2,i 1,i 0,i 0,s0,s0,V.int .u32 (0),s0,V.int .u32 (2567738821)],[i 0,i 0,i 0,i 0,i 0,s0,s0,V.int .u32 (0),s0,V.int .u32 (0)],[i 0,i 0,i 0,i 0,i 0,s0,s0,V.int .u32 (0),s0,V.int .u32 (0)],[i 0,i 0,i 0,i 0,i 0,s0,s0,V.int .u32 (0),s0,V.int .u32 (0)],[i 0,i 0,i 0,i 0,i 0,s0,s0,V.int .u32 (0),s0,V.int .u32 (0)],[i 0,i 0,i 0,i 0,i 0,s0,s0,V.int .u32 (0),s0,V.int .u32 (0)],[i 0,i 0,i 0,i 0,i 0,s0,s0,V.int .u32 (0),s0,V.int .u32 (0)],[i 0,i 0,i 0,i 0,i 0,s0,s0,V.int .u32 (0),s0,V.int .u32 (0)],[i 0,i 0,i 0,i 0,i 0,s0,s0,V.int .u32 (0),s0,V.int .u32 (0)],[i 0,i 0,i 0,i 0,i 0,s0,s0,V.int .u32 (0),s0,V.int .u32 (0)]],V.fresh [[i 0]],V.fresh [[b0]]],f0,V.agg [i 3,i 0,i 0,i 0]], [])
theorem r38 : runF abi funs (orP (cloneP clones) (memoP [])) 100000 60 44 m38.2.1 = some m38.2.2 := by kernel_rfl
theorem w38 : Holds m38 := holds_of (tbl := []) trivial r38
def m39 : Entry := (265, [V.sl [[i 3],[i 2],[i 1],[i 0],[i 0],[i 0],[i 0],[i 0],[i 4],[i 2]]], V.int .u32 (2512763164), [])
theorem r39 : runF abi funs (orP (cloneP clones) (memoP [])) 100000 60 265 m39.2.1 = some m39.2.2 := by kernel_rfl
theorem w39 : Holds m39 := holds_of (tbl := []) trivial r39
def m40 : Entry := (78, [V.pbox [i 0,i 100,V.sl [[i 5,i 50,i 50,V.sl [[i 9,i 0,i 0,i 0],[i 10,i 0,i 0,i 0],[i 0,i 0,i 0,i 0]],s0,s0]],V.sl [[i 3,i 3,i 0,i 6,i 44]],b1,b0,b0,V.sl [[i 0,i 0,i 0,i 0,i 0,i 0,i 0,i 0,i 0,i 0,i 0,i 0,i 0,s0,b0,i 0,i 0,i 0,i 0,i 0,i 0,i 0,i 0,i 0,s0,b0,s0,b0]],V.sl [[i 1],[i 1],[i 1],[i 0],[i 0],[i 0],[i 0],[i 0],[i 0],[i 0],[i 0],[i 0]],V.sl [[b1],[b1],[b1],[b0],[b0],[b0],[b0],[b0],[b0],[b0],[b0],[b0]],V.sl [[i 1,i 0,i 1,i 0,i 0,s0,s0,V.int .u32 (0),s0,V.int .u32 (2300351941)],[i 2,i 1,i 1,i 0,i 0,s0,s0,V.int .u32 (0),s0,V.int .u32 (2434045381)],[i 3,i 2,i 1,i 0,i 0,s0,s0,V.int .u32 (0),s0,V.int .u32 (2567738821)],[i 0,i 0,i 0,i 0,i 0,s0,s0,V.int .u32 (0),s0,V.int .u32 (0)],[i 0,i 0,i 0,i 0,i 0,s0,s0,V.int .u32 (0),s0,V.int .u32 (0)],[i 0,i 0,i 0,i 0,i 0,s0,s0,V.int .u32 (0),s0,V.int .u32 (0)],[i 0,i 0,i 0,i 0,i 0,s0,s0,V.int .u32 (0),s0,V.int .u32 (0)],[i 0,i 0,i 0,i 0,i 0,s0,s0,V.int .u32 (0),s0,V.int .u32 (0)],[i 0,i 0,i 0,i 0,i 0,s0,s0,V.int .u32 (0),s0,V.int .u32 (0)],[i 0,i 0,i 0,i 0,i 0,s0,s0,V.int .u32 (0),s0,V.int .u32 (0)],[i 0,i 0,i 0,i 0,i 0,s0,s0,V.int .u32 (0),s0,V.int .u32 (0)],[i 0,i 0,i 0,i 0,i 0,s0,s0,V.int .u32 (0),s0,V.int .u32 (0)]],V.sl [[i 0]],V.sl [[b0]],i 10,i 0,i 0,i 0,s0,s0,s0,i 2,i 1,i 4,i 0,V.int .u32 (2),f0,i 0,i 0,i 0,i 0] 0], V.tup [], [[i 0,i 100,V.sl [[i 5,i 50,i 50,V.sl [[i 9,i 0,i 0,i 0],[i 10,i 0,i 0,i 0],[i 0,i 0,i 0,i 0]],s0,s0]],V.sl [[i 3,i 3,i 0,i 6,i 44]],b1,b0,b0,V.sl [[i 0,i 0,i 0,i 0,i 0,i 0,i 0,i 0,i 0,i 0,i 0,i 0,i 0,s0,b0,i 0,i 0,i 0,i 0,i 0,i 0,i 0,i 0,i 0,s0,b0,s0,b0]],V.fresh [[i 1],[i 1],[i 1],[i 0],[i 0],[i 0],[i 0],[i 0],[i 0],[i 0],[i 0],[i 0]],V.fresh [[b1],[b1],[b1],[b0],[b0],[b0],[b0],[b0],[b0],[b0],[b0],[b0]],V.fresh [[i 1,i 0,i 1,i 0,i 0,s0,s0,V.int .u32 (0),s0,V.int .u32 (2300351941)],[i 2,i 1,i 1,i 0,i 0,s0,s0,V.int .u32 (0),s0,V.int .u32 (2434045381)],[i 3,i 2,i 1,i 0,i 0,s0,s0,V.int .u32 (0),V.sl [[i 4,V.int .u32 (2)]],V.int .u32 (2512763164)],[i 0,i 0,i 0,i 0,i 0,s0,s0,V.int .u32 (0),s0,V.int .u32 (0)],[i 0,i 0,i 0,i 0,i 0,s0,s0,V.int .u32 (0),s0,V.int .u32 (0)],[i 0,i 0,i 0,i 0,i 0,s0,s0,V.int .u32 (0),s0,V.int .u32 (0)],[i 0,i 0,i 0,i 0,i 0,s0,s0,V.int .u32 (0),s0,V.int .u32 (0)],[i 0,i 0,i 0,i 0,i 0,s0,s0,V.int .u32 (0),s0,V.int .u32 (0)],[i 0,i 0,i 0,i 0,i 0,s0,s0,V.int .u32 (0),s0,V.int .u32 (0)],[i 0,i 0,i 0,i 0,i 0,s0,s0,V.int .u32 (0),s0,V.int .u32 (0)],[i 0,i 0,i 0,i 0,i 0,s0,s0,V.int .u32 (0),s0,V.int .u32 (0)],[i 0,i 0,i 0,i 0,i 0,s0,s0,V.int .u32 (0),s0,V.int .u32 (0)]],V.sl [[i 0]],V.sl [[b0]],i 10,i 0,i 0,i 0,s0,s0,s0,i 2,i 1,i 4,i 0,V.int .u32 (2),f0,i 16,i 0,i 0,i 0]])
theorem r40 : runF abi funs (orP (cloneP clones) (memoP [m39, m25])) 100000 60 78 m40.2.1 = some m40.2.2 := by kernel_rfl
theorem w40 : Holds m40 := holds_of (tbl := [m39, m25]) ⟨w39, ⟨w25, trivial⟩⟩ r40
def m41 : Entry := (44, [V.agg [i 0,i 100,V.sl [[i 5,i 50,i 50,V.sl [[i 9,i 0,i 0,i 0],[i 10,i 0,i 0,i 0],[i 0,i 0,i 0,i 0]],s0,s0]],V.sl [[i 3,i 3,i 0,i 6,i 44]],b1,b0,b0,V.sl [[i 0,i 0,i 0,i 0,i 0,i 0,i 0,i 0,i 0,i 0,i 0,i 0,i 0,s0,b0,i 0,i 0,i 0,i 0,i 0,i 0,i 0,i 0,i 0,s0,b0,s0,b0]],V.sl [[i 1],[i 1],[i 1],[i 0],[i 0],[i 0],[i 0],[i 0],[i 0],[i 0],[i 0],[i 0]],V.sl [[b1],[b1],[b1],[b0],[b0],[b0],[b0],[b0],[b0],[b0],[b0],[b0]],V.sl [[i 1,i 0,i 1,i 0,i 0,s0,s0,V.int .u32 (0),s0,V.int .u32 (2300351941)],[i 2,i 1,i 1,i 0,i 0,s0,s0,V.int .u32 (0),s0,V.int .u32 (2434045381)],[i 3,i 2,i 1,i 0,i 0,s0,s0,V.int .u32 (0),V.sl [[i 4,V.int .u32 (2)]],V.int .u32 (2512763164)],[i 0,i 0,i 0,i 0,i 0,s0,s0,V.int .u32 (0),s0,V.int .u32 (0)],[i 0,i 0,i 0,i 0,i 0,s0,s0,V.int .u32 (0),s0,V.int .u32 (0)],[i 0,i 0,i 0,i 0,i 0,s0,s0,V.int .u32 (0),s0,V.int .u32 (0)],[i 0,i 0,i 0,i 0,i 0,s0,s0,V.int .u32 (0),s0,V.int .u32 (0)],[i 0,i 0,i 0,i 0,i 0,s0,s0,V.int .u32 (0),s0,V.int .u32 (0)],[i 0,i 0,i 0,i 0,i 0,s0,s0,V.int .u32 (0),s0,V.int .u32 (0)],[i 0,i 0,i 0,i 0,i 0,s0,s0,V.int .u32 (0),s0,V.int .u32 (0)],[i 0,i 0,i 0,i 0,i 0,s0,s0,V.int .u32 (0),s0,V.int .u32 (0)],[i 0,i 0,i 0,i 0,i 0,s0,s0,V.int .u32 (0),s0,V.int .u32 (0)]],V.sl [[i 0]],V.sl [[b0]]],V.agg [i 10,i 0,i 0,i 0,s0,s0,s0,i 2,i 1,i 0,i 0,V.int .u32 (2)]], V.tup [V.agg [i 0,i 100,V.fresh [[i 5,i 50,i 50,V.sl [[i 9,i 0,i 0,i 0],[i 10,i 0,i 0,i 0],[i 0,i 0,i 0,i 0]],s0,s0]],V.fresh [[i 3,i 3,i 0,i 6,i 44]],b1,b0,b0,V.fresh [[i 0,i 0,i 0,i 0,i 0,i 0,i 0,i 0,i 0,i 0,i 0,i 0,i 0,s0,b0,i 0,i 0,i 0,i 0,i 0,i 0,i 0,i 0,i 0,s0,b0,s0,b0]],V.fresh [[i 1],[i 1],[i 1],[i 0],[i 0],[i 0],[i 0],[i 0],[i 0],[i 0],[i 0],[i 0]],V.fresh [[b1],[b1],[b1],[b0],[b0],[b0],[b0],[b0],[b0],[b0],[b0],[b0]],V.fresh [[i 1,i 0,i 1,i 0,i 0,s0,s0,V.int .u32 (0),s0,V.int .u32 (2300351941)],[i 2,i 1,i 1,i 0,i 0,s0,s0,V.int .u32 (0),s0,V.int .u32 (2434045381)],[i 3,i 2,i 1,i 0,i 0,s0,s0,V.int .u32 (0),V.sl [[i 4,V.int .u32 (2)]],V.int .u32 (2512763164)],[i 0,i 0,i 0,i 0,i 0,s0,s0,V.int .u32 (0),s0,V.int .u32 (0)],[i 0,i 0,i 0,i 0,i 0,s0,s0,V.int .u32 (0),s0,V.int .u32 (0)],[i 0,i 0,i 0,i 0,i 0,s0,s0,V.int .u32 (0),s0,V.int .u32 (0)],[i 0,i 0,i 0,i 0,i 0,s0,s0,V.int .u32 (0),s0,V.int .u32 (0)],[i 0,i 0,i 0,i 0,i 0,s0,s0,V.int .u32 (0),s0,V.int .u32 (0)],[i 0,i 0,i 0,i 0,i 0,s0,s0,V.int .u32 (0),s0,V.int .u32 (0)],[i 0,i 0,i 0,i 0,i 0,s0,s0,V.int .u32 (0),s0,V.int .u32 (0)],[i 0,i 0,i 0,i 0,i 0,s0,s0,V.int .u32 (0),s0,V.int .u32 (0)],[i 0,i 0,i 0,i 0,i 0,s0,s0,V.int .u32 (0),s0,V.int .u32 (0)]],V.fresh [[i 0]],V.fresh [[b0]]],f0,V.agg [i 1,i 0,i 0,i 0]], [])
theorem r41 : runF abi funs (orP (cloneP clones) (memoP [])) 100000 60 44 m41.2.1 = some m41.2.2 := by kernel_rfl
theorem w41 : Holds m41 := holds_of (tbl := []) trivial r41
def m42 : Entry := (265, [V.sl [[i 3],[i 2],[i 1],[i 0],[i 0],[i 0],[i 0],[i 4]]], V.int .u32 (2567738853), [])
theorem r42 : runF abi funs (orP (cloneP clones) (memoP [])) 100000 60 265 m42.2.1 = some m42.2.2 := by kernel_rfl
theorem w42 : Holds m42 := holds_of (tbl := []) trivial r42
def m43 : Entry := (77, [V.pbox [i 0,i 100,V.sl [[i 5,i 50,i 50,V.sl [[i 9,i 0,i 0,i 0],[i 10,i 0,i 0,i 0],[i 0,i 0,i 0,i 0]],s0,s0]],V.sl [[i 3,i 3,i 0,i 6,i 44]],b1,b0,b0,V.sl [[i 0,i 0,i 0,i 0,i 0,i 0,i 0,i 0,i 0,i 0,i 0,i 0,i 0,s0,b0,i 0,i 0,i 0,i 0,i 0,i 0,i 0,i 0,i 0,s0,b0,s0,b0]],V.sl [[i 1],[i 1],[i 1],[i 0],[i 0],[i 0],[i 0],[i 0],[i 0],[i 0],[i 0],[i 0]],V.sl [[b1],[b1],[b1],[b0],[b0],[b0],[b0],[b0],[b0],[b0],[b0],[b0]],V.sl [[i 1,i 0,i 1,i 0,i 0,s0,s0,V.int .u32 (0),s0,V.int .u32 (2300351941)],[i 2,i 1,i 1,i 0,i 0,s0,s0,V.int .u32 (0),s0,V.int .u32 (2434045381)],[i 3,i 2,i 1,i 0,i 0,s0,s0,V.int .u32 (0),V.sl [[i 4,V.int .u32 (2)]],V.int .u32 (2512763164)],[i 0,i 0,i 0,i 0,i 0,s0,s0,V.int .u32 (0),s0,V.int .u32 (0)],[i 0,i 0,i 0,i 0,i 0,s0,s0,V.int .u32 (0),s0,V.int .u32 (0)],[i 0,i 0,i 0,i 0,i 0,s0,s0,V.int .u32 (0),s0,V.int .u32 (0)],[i 0,i 0,i 0,i 0,i 0,s0,s0,V.int .u32 (0),s0,V.int .u32 (0)],[i 0,i 0,i 0,i 0,i 0,s0,s0,V.int .u32 (0),s0,V.int .u32 (0)],[i 0,i 0,i 0,i 0,i 0,s0,s0,V.int .u32 (0),s0,V.int .u32 (0)],[i 0,i 0,i 0,i 0,i 0,s0,s0,V.int .u32 (0),s0,V.int .u32 (0)],[i 0,i 0,i 0,i 0,i 0,s0,s0,V.int .u32 (0),s0,V.int .u32 (0)],[i 0,i 0,i 0,i 0,i 0,s0,s0,V.int .u32 (0),s0,V.int .u32 (0)]],V.sl [[i 0]],V.sl [[b0]],i 9,i 0,i 0,i 0,s0,s0,s0,i 2,i 1,i 0,i 0,V.int .u32 (6),f0,i 0,i 0,i 0,i 0] 0], V.tup [], [[i 0,i 100,V.sl [[i 5,i 50,i 50,V.sl [[i 9,i 0,i 0,i 0],[i 10,i 0,i 0,i 0],[i 0,i 0,i 0,i 0]],s0,s0]],V.sl [[i 3,i 3,i 0,i 6,i 44]],b1,b0,b0,V.sl [[i 0,i 0,i 0,i 0,i 0,i 0,i 0,i 0,i 0,i 0,i 0,i 0,i 0,s0,b0,i 0,i 0,i 0,i 0,i 0,i 0,i 0,i 0,i 0,s0,b0,s0,b0]],V.fresh [[i 1],[i 1],[i 1],[i 0],[i 0],[i 0],[i 0],[i 0],[i 0],[i 0],[i 0],[i 0]],V.fresh [[b1],[b1],[b1],[b0],[b0],[b0],[b0],[b0],[b0],[b0],[b0],[b0]],V.fresh [[i 1,i 0,i 1,i 0,i 0,s0,s0,V.int .u32 (0),s0,V.int .u32 (2300351941)],[i 2,i 1,i 1,i 0,i 0,s0,s0,V.int .u32 (0),s0,V.int .u32 (2434045381)],[i 3,i 2,i 1,i 0,i 0,s0,s0,V.int .u32 (4),s0,V.int .u32 (2567738853)],[i 0,i 0,i 0,i 0,i 0,s0,s0,V.int .u32 (0),s0,V.int .u32 (0)],[i 0,i 0,i 0,i 0,i 0,s0,s0,V.int .u32 (0),s0,V.int .u32 (0)],[i 0,i 0,i 0,i 0,i 0,s0,s0,V.int .u32 (0),s0,V.int .u32 (0)],[i 0,i 0,i 0,i 0,i 0,s0,s0,V.int .u32 (0),s0,V.int .u32 (0)],[i 0,i 0,i 0,i 0,i 0,s0,s0,V.int .u32 (0),s0,V.int .u32 (0)],[i 0,i 0,i 0,i 0,i 0,s0,s0,V.int .u32 (0),s0,V.int .u32 (0)],[i 0,i 0,i 0,i 0,i 0,s0,s0,V.int .u32 (0),s0,V.int .u32 (0)],[i 0,i 0,i 0,i 0,i 0,s0,s0,V.int .u32 (0),s0,V.int .u32 (0)],[i 0,i 0,i 0,i 0,i 0,s0,s0,V.int .u32 (0),s0,V.int .u32 (0)]],V.sl [[i 0]],V.sl [[b0]],i 9,i 0,i 0,i 0,s0,s0,s0,i 2,i 1,i 0,i 0,V.int .u32 (6),V.fresh [[i 0,i 12,i 0,i 4,i 2,i 0]],i 0,i 0,i 0,i 0]])
theorem r43 : runF abi funs (orP (cloneP clones) (memoP [m42, m39])) 100000 60 77 m43.2.1 = some m43.2.2 := by kernel_rfl
theorem w43 : Holds m43 := holds_of (tbl := [m42, m39]) ⟨w42, ⟨w39, trivial⟩⟩ r43
def m44 : Entry := (78, [V.pbox [i 0,i 100,V.sl [[i 5,i 50,i 50,V.sl [[i 9,i 0,i 0,i 0],[i 10,i 0,i 0,i 0],[i 0,i 0,i 0,i 0]],s0,s0]],V.sl [[i 3,i 3,i 0,i 6,i 44]],b1,b0,b0,V.sl [[i 0,i 0,i 0,i 0,i 0,i 0,i 0,i 0,i 0,i 0,i 0,i 0,i 0,s0,b0,i 0,i 0,i 0,i 0,i 0,i 0,i 0,i 0,i 0,s0,b0,s0,b0]],V.sl [[i 1],[i 1],[i 1],[i 0],[i 0],[i 0],[i 0],[i 0],[i 0],[i 0],[i 0],[i 0]],V.sl [[b1],[b1],[b1],[b0],[b0],[b0],[b0],[b0],[b0],[b0],[b0],[b0]],V.sl [[i 1,i 0,i 1,i 0,i 0,s0,s0,V.int .u32 (0),s0,V.int .u32 (2300351941)],[i 2,i 1,i 1,i 0,i 0,s0,s0,V.int .u32 (0),s0,V.int .u32 (2434045381)],[i 3,i 2,i 1,i 0,i 0,s0,s0,V.int .u32 (4),s0,V.int .u32 (2567738853)],[i 0,i 0,i 0,i 0,i 0,s0,s0,V.int .u32 (0),s0,V.int .u32 (0)],[i 0,i 0,i 0,i 0,i 0,s0,s0,V.int .u32 (0),s0,V.int .u32 (0)],[i 0,i 0,i 0,i 0,i 0,s0,s0,V.int .u32 (0),s0,V.int .u32 (0)],[i 0,i 0,i 0,i 0,i 0,s0,s0,V.int .u32 (0),s0,V.int .u32 (0)],[i 0,i 0,i 0,i 0,i 0,s0,s0,V.int .u32 (0),s0,V.int .u32 (0)],[i 0,i 0,i 0,i 0,i 0,s0,s0,V.int .u32 (0),s0,V.int .u32 (0)],[i 0,i 0,i 0,i 0,i 0,s0,s0,V.int .u32 (0),s0,V.int .u32 (0)],[i 0,i 0,i 0,i 0,i 0,s0,s0,V.int .u32 (0),s0,V.int .u32 (0)],[i 0,i 0,i 0,i 0,i 0,s0,s0,V.int .u32 (0),s0,V.int .u32 (0)]],V.sl [[i 0]],V.sl [[b0]],i 10,i 0,i 0,i 0,s0,s0,s0,i 2,i 1,i 4,i 0,V.int .u32 (12),f0,i 0,i 0,i 0,i 0] 0], V.tup [], [[i 0,i 100,V.sl [[i 5,i 50,i 50,V.sl [[i 9,i 0,i 0,i 0],[i 10,i 0,i 0,i 0],[i 0,i 0,i 0,i 0]],s0,s0]],V.sl [[i 3,i 3,i 0,i 6,i 44]],b1,b0,b0,V.sl [[i 0,i 0,i 0,i 0,i 0,i 0,i 0,i 0,i 0,i 0,i 0,i 0,i 0,s0,b0,i 0,i 0,i 0,i 0,i 0,i 0,i 0,i 0,i 0,s0,b0,s0,b0]],V.fresh [[i 1],[i 1],[i 1],[i 0],[i 0],[i 0],[i 0],[i 0],[i 0],[i 0],[i 0],[i 0]],V.fresh [[b1],[b1],[b1],[b0],[b0],[b0],[b0],[b0],[b0],[b0],[b0],[b0]],V.fresh [[i 1,i 0,i 1,i 0,i 0,s0,s0,V.int .u32 (0),s0,V.int .u32 (2300351941)],[i 2,i 1,i 1,i 0,i 0,s0,s0,V.int .u32 (0),s0,V.int .u32 (2434045381)],[i 3,i 2,i 1,i 0,i 0,s0,s0,V.int .u32 (0),s0,V.int .u32 (2567738821)],[i 0,i 0,i 0,i 0,i 0,s0,s0,V.int .u32 (0),s0,V.int .u32 (0)],[i 0,i 0,i 0,i 0,i 0,s0,s0,V.int .u32 (0),s0,V.int .u32 (0)],[i 0,i 0,i 0,i 0,i 0,s0,s0,V.int .u32 (0),s0,V.int .u32 (0)],[i 0,i 0,i 0,i 0,i 0,s0,s0,V.int .u32 (0),s0,V.int .u32 (0)],[i 0,i 0,i 0,i 0,i 0,s0,s0,V.int .u32 (0),s0,V.int .u32 (0)],[i 0,i 0,i 0,i 0,i 0,s0,s0,V.int .u32 (0),s0,V.int .u32 (0)],[i 0,i 0,i 0,i 0,i 0,s0,s0,V.int .u32 (0),s0,V.int .u32 (0)],[i 0,i 0,i 0,i 0,i 0,s0,s0,V.int .u32 (0),s0,V.int .u32 (0)],[i 0,i 0,i 0,i 0,i 0,s0,s0,V.int .u32 (0),s0,V.int .u32 (0)]],V.sl [[i 0]],V.sl [[b0]],i 10,i 0,i 0,i 0,s0,s0,s0,i 2,i 1,i 4,i 0,V.int .u32 (12),f0,i 0,i 0,i 0,i 4]])
theorem r44 : runF abi funs (orP (cloneP clones) (memoP [m25, m42])) 100000 60 78 m44.2.1 = some m44.2.2 := by kernel_rfl
theorem w44 : Holds m44 := holds_of (tbl := [m25, m42]) ⟨w25, ⟨w42, trivial⟩⟩ r44
def m45 : Entry := (44, [V.agg [i 0,i 100,V.sl [[i 5,i 50,i 50,V.sl [[i 9,i 0,i 0,i 0],[i 10,i 0,i 0,i 0],[i 0,i 0,i 0,i 0]],s0,s0]],V.sl [[i 3,i 3,i 0,i 6,i 44]],b1,b0,b0,V.sl [[i 0,i 0,i 0,i 0,i 0,i 0,i 0,i 0,i 0,i 0,i 0,i 0,i 0,s0,b0,i 0,i 0,i 0,i 0,i 0,i 0,i 0,i 0,i 0,s0,b0,s0,b0]],V.sl [[i 1],[i 1],[i 1],[i 0],[i 0],[i 0],[i 0],[i 0],[i 0],[i 0],[i 0],[i 0]],V.sl [[b1],[b1],[b1],[b0],[b0],[b0],[b0],[b0],[b0],[b0],[b0],[b0]],V.sl [[i 1,i 0,i 1,i 0,i 0,s0,s0,V.int .u32 (0),s0,V.int .u32 (2300351941)],[i 2,i 1,i 1,i 0,i 0,s0,s0,V.int .u32 (0),s0,V.int .u32 (2434045381)],[i 3,i 2,i 1,i 0,i 0,s0,s0,V.int .u32 (0),s0,V.int .u32 (2567738821)],[i 0,i 0,i 0,i 0,i 0,s0,s0,V.int .u32 (0),s0,V.int .u32 (0)],[i 0,i 0,i 0,i 0,i 0,s0,s0,V.int .u32 (0),s0,V.int .u32 (0)],[i 0,i 0,i 0,i 0,i 0,s0,s0,V.int .u32 (0),s0,V.int .u32 (0)],[i 0,i 0,i 0,i 0,i 0,s0,s0,V.int .u32 (0),s0,V.int .u32 (0)],[i 0,i 0,i 0,i 0,i 0,s0,s0,V.int .u32 (0),s0,V.int .u32 (0)],[i 0,i 0,i 0,i 0,i 0,s0,s0,V.int .u32 (0),s0,V.int .u32 (0)],[i 0,i 0,i 0,i 0,i 0,s0,s0,V.int .u32 (0),s0,V.int .u32 (0)],[i 0,i 0,i 0,i 0,i 0,s0,s0,V.int .u32 (0),s0,V.int .u32 (0)],[i 0,i 0,i 0,i 0,i 0,s0,s0,V.int .u32 (0),s0,V.int .u32 (0)]],V.sl [[i 0]],V.sl [[b0]]],V.agg [i 11,i 0,i 0,i 0,s0,s0,s0,i 0,i 1,i 0,i 0,V.int .u32 (0)]], V.tup [V.agg [i 0,i 100,V.fresh [[i 5,i 50,i 50,V.sl [[i 9,i 0,i 0,i 0],[i 10,i 0,i 0,i 0],[i 0,i 0,i 0,i 0]],s0,s0]],V.fresh [[i 3,i 3,i 0,i 6,i 44]],b1,b0,b0,V.fresh [[i 0,i 0,i 0,i 0,i 0,i 0,i 0,i 0,i 0,i 0,i 0,i 0,i 0,s0,b0,i 0,i 0,i 0,i 0,i 0,i 0,i 0,i 0,i 0,s0,b0,s0,b0]],V.fresh [[i 1],[i 1],[i 1],[i 0],[i 0],[i 0],[i 0],[i 0],[i 0],[i 0],[i 0],[i 0]],V.fresh [[b1],[b1],[b1],[b0],[b0],[b0],[b0],[b0],[b0],[b0],[b0],[b0]],V.fresh [[i 1,i 0,i 1,i 0,i 0,s0,s0,V.int .u32 (0),s0,V.int .u32 (2300351941)],[i 2,i 1,i 1,i 0,i 0,s0,s0,V.int .u32 (0),s0,V.int .u32 (2434045381)],[i 3,i 2,i 1,i 0,i 0,s0,s0,V.int .u32 (0),s0,V.int .u32 (2567738821)],[i 0,i 0,i 0,i 0,i 0,s0,s0,V.int .u32 (0),s0,V.int .u32 (0)],[i 0,i 0,i 0,i 0,i 0,s0,s0,V.int .u32 (0),s0,V.int .u32 (0)],[i 0,i 0,i 0,i 0,i 0,s0,s0,V.int .u32 (0),s0,V.int .u32 (0)],[i 0,i 0,i 0,i 0,i 0,s0,s0,V.int .u32 (0),s0,V.int .u32 (0)],[i 0,i 0,i 0,i 0,i 0,s0,s0,V.int .u32 (0),s0,V.int .u32 (0)],[i 0,i 0,i 0,i 0,i 0,s0,s0,V.int .u32 (0),s0,V.int .u32 (0)],[i 0,i 0,i 0,i 0,i 0,s0,s0,V.int .u32 (0),s0,V.int .u32 (0)],[i 0,i 0,i 0,i 0,i 0,s0,s0,V.int .u32 (0),s0,V.int .u32 (0)],[i 0,i 0,i 0,i 0,i 0,s0,s0,V.int .u32 (0),s0,V.int .u32 (0)]],V.fresh [[i 0]],V.fresh [[b0]]],f0,V.agg [i 3,i 0,i 0,i 0]], [])
theorem r45 : runF abi funs (orP (cloneP clones) (memoP [])) 100000 60 44 m45.2.1 = some m45.2.2 := by kernel_rfl
theorem w45 : Holds m45 := holds_of (tbl := []) trivial r45
def m46 : Entry := (131, [V.agg [V.sl [[i 1],[i 1],[i 1],[i 0],[i 0],[i 0],[i 0],[i 0],[i 0],[i 0],[i 0],[i 0]],V.sl [[b1],[b1],[b1],[b0],[b0],[b0],[b0],[b0],[b0],[b0],[b0],[b0]],V.sl [[i 1,i 0,i 1,i 0,i 0,s0,s0,V.int .u32 (0),s0,V.int .u32 (2300351941)],[i 2,i 1,i 1,i 0,i 0,s0,s0,V.int .u32 (0),s0,V.int .u32 (2434045381)],[i 3,i 2,i 1,i 0,i 0,s0,s0,V.int .u32 (0),s0,V.int .u32 (2567738821)],[i 0,i 0,i 0,i 0,i 0,s0,s0,V.int .u32 (0),s0,V.int .u32 (0)],[i 0,i 0,i 0,i 0,i 0,s0,s0,V.int .u32 (0),s0,V.int .u32 (0)],[i 0,i 0,i 0,i 0,i 0,s0,s0,V.int .u32 (0),s0,V.int .u32 (0)],[i 0,i 0,i 0,i 0,i 0,s0,s0,V.int .u32 (0),s0,V.int .u32 (0)],[i 0,i 0,i 0,i 0,i 0,s0,s0,V.int .u32 (0),s0,V.int .u32 (0)],[i 0,i 0,i 0,i 0,i 0,s0,s0,V.int .u32 (0),s0,V.int .u32 (0)],[i 0,i 0,i 0,i 0,i 0,s0,s0,V.int .u32 (0),s0,V.int .u32 (0)],[i 0,i 0,i 0,i 0,i 0,s0,s0,V.int .u32 (0),s0,V.int .u32 (0)],[i 0,i 0,i 0,i 0,i 0,s0,s0,V.int .u32 (0),s0,V.int .u32 (0)]]],V.agg [i 1,i 1]], V.tup [V.agg [V.fresh [[i 1],[i 1],[i 1],[i 0],[i 0],[i 0],[i 0],[i 0],[i 0],[i 0],[i 0],[i 0]],V.fresh [[b1],[b0],[b1],[b0],[b0],[b0],[b0],[b0],[b0],[b0],[b0],[b0]],V.fresh [[i 1,i 0,i 1,i 0,i 0,s0,s0,V.int .u32 (0),s0,V.int .u32 (2300351941)],[i 0,i 0,i 0,i 0,i 0,s0,s0,V.int .u32 (0),s0,V.int .u32 (0)],[i 3,i 2,i 1,i 0,i 0,s0,s0,V.int .u32 (0),s0,V.int .u32 (2567738821)],[i 0,i 0,i 0,i 0,i 0,s0,s0,V.int .u32 (0),s0,V.int .u32 (0)],[i 0,i 0,i 0,i 0,i 0,s0,s0,V.int .u32 (0),s0,V.int .u32 (0)],[i 0,i 0,i 0,i 0,i 0,s0,s0,V.int .u32 (0),s0,V.int .u32 (0)],[i 0,i 0,i 0,i 0,i 0,s0,s0,V.int .u32 (0),s0,V.int .u32 (0)],[i 0,i 0,i 0,i 0,i 0,s0,s0,V.int .u32 (0),s0,V.int .u32 (0)],[i 0,i 0,i 0,i 0,i 0,s0,s0,V.int .u32 (0),s0,V.int .u32 (0)],[i 0,i 0,i 0,i 0,i 0,s0,s0,V.int .u32 (0),s0,V.int .u32 (0)],[i 0,i 0,i 0,i 0,i 0,s0,s0,V.int .u32 (0),s0,V.int .u32 (0)],[i 0,i 0,i 0,i 0,i 0,s0,s0,V.int .u32 (0),s0,V.int .u32 (0)]]],f0,b1], [])
theorem r46 : runF abi funs (orP (cloneP clones) (memoP [])) 100000 60 131 m46.2.1 = some m46.2.2 := by kernel_rfl
theorem w46 : Holds m46 := holds_of (tbl := []) trivial r46
def m47 : Entry := (44, [V.agg [i 0,i 100,V.sl [[i 5,i 50,i 50,V.sl [[i 9,i 0,i 0,i 0],[i 10,i 0,i 0,i 0],[i 0,i 0,i 0,i 0]],s0,s0]],V.sl [[i 3,i 3,i 0,i 6,i 44]],b1,b0,b0,V.sl [[i 0,i 0,i 0,i 0,i 0,i 0,i 0,i 0,i 0,i 0,i 0,i 0,i 0,s0,b0,i 0,i 0,i 0,i 0,i 0,i 0,i 0,i 0,i 0,s0,b0,s0,b0]],V.sl [[i 1],[i 1],[i 1],[i 0],[i 0],[i 0],[i 0],[i 0],[i 0],[i 0],[i 0],[i 0]],V.sl [[b1],[b0],[b1],[b0],[b0],[b0],[b0],[b0],[b0],[b0],[b0],[b0]],V.sl [[i 1,i 0,i 1,i 0,i 0,s0,s0,V.int .u32 (0),s0,V.int .u32 (2300351941)],[i 0,i 0,i 0,i 0,i 0,s0,s0,V.int .u32 (0),s0,V.int .u32 (0)],[i 3,i 2,i 1,i 0,i 0,s0,s0,V.int .u32 (0),s0,V.int .u32 (2567738821)],[i 0,i 0,i 0,i 0,i 0,s0,s0,V.int .u32 (0),s0,V.int .u32 (0)],[i 0,i 0,i 0,i 0,i 0,s0,s0,V.int .u32 (0),s0,V.int .u32 (0)],[i 0,i 0,i 0,i 0,i 0,s0,s0,V.int .u32 (0),s0,V.int .u32 (0)],[i 0,i 0,i 0,i 0,i 0,s0,s0,V.int .u32 (0),s0,V.int .u32 (0)],[i 0,i 0,i 0,i 0,i 0,s0,s0,V.int .u32 (0),s0,V.int .u32 (0)],[i 0,i 0,i 0,i 0,i 0,s0,s0,V.int .u32 (0),s0,V.int .u32 (0)],[i 0,i 0,i 0,i 0,i 0,s0,s0,V.int .u32 (0),s0,V.int .u32 (0)],[i 0,i 0,i 0,i 0,i 0,s0,s0,V.int .u32 (0),s0,V.int .u32 (0)],[i 0,i 0,i 0,i 0,i 0,s0,s0,V.int .u32 (0),s0,V.int .u32 (0)]],V.sl [[i 0]],V.sl [[b0]]],V.agg [i 11,i 0,i 0,i 0,s0,s0,s0,i 1,i 1,i 0,i 0,V.int .u32 (0)]], V.tup [V.agg [i 0,i 100,V.fresh [[i 5,i 50,i 50,V.sl [[i 9,i 0,i 0,i 0],[i 10,i 0,i 0,i 0],[i 0,i 0,i 0,i 0]],s0,s0]],V.fresh [[i 3,i 3,i 0,i 6,i 44]],b1,b0,b0,V.fresh [[i 0,i 0,i 0,i 0,i 0,i 0,i 0,i 0,i 0,i 0,i 0,i 0,i 0,s0,b0,i 0,i 0,i 0,i 0,i 0,i 0,i 0,i 0,i 0,s0,b0,s0,b0]],V.fresh [[i 1],[i 1],[i 1],[i 0],[i 0],[i 0],[i 0],[i 0],[i 0],[i 0],[i 0],[i 0]],V.fresh [[b1],[b0],[b1],[b0],[b0],[b0],[b0],[b0],[b0],[b0],[b0],[b0]],V.fresh [[i 1,i 0,i 1,i 0,i 0,s0,s0,V.int .u32 (0),s0,V.int .u32 (2300351941)],[i 0,i 0,i 0,i 0,i 0,s0,s0,V.int .u32 (0),s0,V.int .u32 (0)],[i 3,i 2,i 1,i 0,i 0,s0,s0,V.int .u32 (0),s0,V.int .u32 (2567738821)],[i 0,i 0,i 0,i 0,i 0,s0,s0,V.int .u32 (0),s0,V.int .u32 (0)],[i 0,i 0,i 0,i 0,i 0,s0,s0,V.int .u32 (0),s0,V.int .u32 (0)],[i 0,i 0,i 0,i 0,i 0,s0,s0,V.int .u32 (0),s0,V.int .u32 (0)],[i 0,i 0,i 0,i 0,i 0,s0,s0,V.int .u32 (0),s0,V.int .u32 (0)],[i 0,i 0,i 0,i 0,i 0,s0,s0,V.int .u32 (0),s0,V.int .u32 (0)],[i 0,i 0,i 0,i 0,i 0,s0,s0,V.int .u32 (0),s0,V.int .u32 (0)],[i 0,i 0,i 0,i 0,i 0,s0,s0,V.int .u32 (0),s0,V.int .u32 (0)],[i 0,i 0,i 0,i 0,i 0,s0,s0,V.int .u32 (0),s0,V.int .u32 (0)],[i 0,i 0,i 0,i 0,i 0,s0,s0,V.int .u32 (0),s0,V.int .u32 (0)]],V.fresh [[i 0]],V.fresh [[b0]]],f0,V.agg [i 3,i 0,i 0,i 0]], [])
theorem r47 : runF abi funs (orP (cloneP clones) (memoP [])) 100000 60 44 m47.2.1 = some m47.2.2 := by kernel_rfl
theorem w47 : Holds m47 := holds_of (tbl := []) trivial r47
def m48 : Entry := (1006, [], b1, [])
theorem r48 : runF abi funs (orP (cloneP clones) (memoP [m9, m10, m14, m15, m19, m20, m22, m24, m26, m28, m29, m30, m31, m32, m33, m35, m36, m37, m38, m40, m41, m43, m44, m45, m46, m47])) 100000 60 1006 m48.2.1 = some m48.2.2 := by kernel_rfl
theorem w48 : Holds m48 := holds_of (tbl := [m9, m10, m14, m15, m19, m20, m22, m24, m26, m28, m29, m30, m31, m32, m33, m35, m36, m37, m38, m40, m41, m43, m44, m45, m46, m47]) ⟨w9, ⟨w10, ⟨w14, ⟨w15, ⟨w19, ⟨w20, ⟨w22, ⟨w24, ⟨w26, ⟨w28, ⟨w29, ⟨w30, ⟨w31, ⟨w32, ⟨w33, ⟨w35, ⟨w36, ⟨w37, ⟨w38, ⟨w40, ⟨w41, ⟨w43, ⟨w44, ⟨w45, ⟨w46, ⟨w47, trivial⟩⟩⟩⟩⟩⟩⟩⟩⟩⟩⟩⟩⟩⟩⟩⟩⟩⟩⟩⟩⟩⟩⟩⟩⟩⟩ r48
theorem told_true : CallsOK Tryz.prog nf 1006 [] (.bool true) [] := w48
end Fo.Tryz

namespace Go.Proofs.YtljbbnolcncbeaaGreat.callForms
open Go Go.ChangeShapes Go.WideShapes Go.ChangeAt Go.RowKit
set_option linter.unusedVariables false

theorem own : ownKnob Tryz.prog.godebug = none := by kernel_rfl
theorem kids : Kids Tryz.prog (· < Tryz.prog.types.size) := kids_rows (by kernel_rfl) (by kernel_rfl)
theorem full : ∀ t e, t < Tryz.prog.types.size → Tryz.prog.underlying t = some (.slice e) → 0 < Tryz.prog.cellsOf e := slices_full_of Tryz.prog (by kernel_rfl)

theorem walk (w : World) : Calls Tryz.prog 3 #[] w fun e w' => e = .returned (.bool true) ∧ Fo.CallKeeps w w' [] := by
  have h := Fo.Tryz.told_true 3 rfl w (fun _ => False) [] [] (fun _ h => h.elim) (fun _ h => by cases h) List.nodup_nil ⟨rfl, rfl⟩
  refine h.mono fun e w' ⟨c, S', he, _, _, hk, hx⟩ => ?_
  obtain ⟨c', cs, O1, O2, e1, e2, ⟨_, hv⟩, _⟩ := hx
  cases e1
  exact ⟨by rw [he, hv], hk⟩

set_option maxRecDepth 100000 in
theorem lifted (os : Os) (started : os.Started) (H : Type) (enc : TypeId × Value → H) :
    ReturnsInHanded {} Tryz.checked os 3 .any (Rows.callFormsSpec.pre6 enc Tryz.prog Tryz.f3 Rows.callFormsRow.domain false) (Rows.callFormsSpec.post enc Tryz.prog Tryz.f3 false true false false) := by
  refine returnsInHanded_of_change (C := Tryz.checked) own started (by kernel_rfl) Tryz.func3
    (ChangeSpec.witness6 (enc := enc) (C := Tryz.checked) false ⟨#[], #[], []⟩ 8 (by kernel_rfl) (by kernel_rfl) (by kernel_rfl) (by kernel_rfl)) ?_
  intro W base args ds gs before hval0 hW hcnd _
  have hW' := hW
  obtain ⟨p, q, hA0, hV, rfl, hfz, hnd⟩ := hW
  have hA : DataW.TrodAll enc Tryz.prog W 0 (fun _ => true) true Tryz.f3.params.toList args.toList ds p := hA0
  rw [Tryz.params3] at hA
  obtain ⟨rfl, rfl, rfl⟩ := trodAll_none hA
  obtain ⟨rfl, rfl⟩ := trodVars_none hV
  refine (walk W).mono fun e W' ⟨he, hg⟩ => ?_
  subst he
  exact ⟨_, rfl, Fo.law_post kids full (by rw [Tryz.params3]; intro t ht; cases ht) rfl hW' rfl rfl rfl (by kernel_rfl) Tryz.underlying4 hg⟩

theorem over : Rows.callFormsRow.holds Tryz.pinned (OpenSpec.ofChange Rows.callFormsSpec) :=
  OpenClaim.holds_of_wide 3 Tryz.f3 rfl rfl rfl rfl rfl rfl rfl ⟨rfl, rfl, rfl, rfl, rfl⟩ rfl rfl rfl rfl rfl (by kernel_rfl) Tryz.func3 (by kernel_rfl)
    (of_decide_eq_true (by kernel_rfl)) (by unfold Func.isWrapper; first | (rw [if_pos (by decide +kernel)]; kernel_rfl) | (rw [if_neg (by decide +kernel)]; exact ⟨rfl, rfl⟩))
    (fun os started H enc _ => lifted os started H enc)

theorem proved : Rows.CallFormsSaid := over
end Go.Proofs.YtljbbnolcncbeaaGreat.callForms
