/-
  FaultForms: a closed statement: it returns true. No condition.
-/
import Derived.Test.YtildnnhlpdcglaaFaultFormsFuns
import Derived.Test.YtildnnhlpdcglaaFoA35
import Derived.Test.YtildnnhlpdcglaaRows
import Derived.KernelRfl
set_option maxRecDepth 100000
namespace Fo.Try
open Go Go.Proofs
def funs : Nat → Option (AFun × Bool)
  | 60 => some (F60, true)
  | 63 => some (F63, true)
  | 94 => some (F94, true)
  | 114 => some (F114, true)
  | 144 => some (F144, true)
  | 155 => some (F155, true)
  | 158 => some (F158, true)
  | 170 => some (F170, true)
  | 185 => some (F185, true)
  | 189 => some (F189, true)
  | 216 => some (F216, true)
  | 218 => some (F218, true)
  | 219 => some (F219, true)
  | 220 => some (F220, true)
  | 228 => some (F228, true)
  | 239 => some (F239, true)
  | 244 => some (F244, true)
  | 245 => some (F245, true)
  | 271 => some (F271, true)
  | 274 => some (F274, true)
  | 281 => some (F281, true)
  | 284 => some (F284, true)
  | 286 => some (F286, true)
  | 288 => some (F288, true)
  | 298 => some (F298, true)
  | 299 => some (F299, true)
  | 330 => some (F330, true)
  | 1003 => some (F1003, true)
  | 1004 => some (F1004, true)
  | _ => none
def clones : Nat → Option (Nat × Nat × List V)
  | 136 => some (3, 24, [(.int .i64 0), (.int .i64 0), (.int .i64 0)])
  | 137 => some (1, 8, [(.int .i64 0)])
  | 270 => some (2, 16, [(.int .i64 0), (.int .i64 0)])
  | _ => none
theorem enters_all : ∀ f g, nf f = some g → enters Try.prog g = true := by
  intro f g h
  unfold nf at h
  split at h <;> first | (cases h; kernel_rfl) | cases h
theorem funs_ok : ∀ f F gv, funs f = some (F, gv) → ∃ g fn, nf f = some g ∧ Try.prog.funcs[g]? = some fn ∧ chkFun Try.prog nf abi fn F = true := by
  intro f F gv h
  unfold funs at h
  split at h
  · cases h; exact ⟨_, _, rfl, Try.func14, k60⟩
  · cases h; exact ⟨_, _, rfl, Try.func26, k63⟩
  · cases h; exact ⟨_, _, rfl, Try.func37, k94⟩
  · cases h; exact ⟨_, _, rfl, Try.func25, k114⟩
  · cases h; exact ⟨_, _, rfl, Try.func15, k144⟩
  · cases h; exact ⟨_, _, rfl, Try.func30, k155⟩
  · cases h; exact ⟨_, _, rfl, Try.func43, k158⟩
  · cases h; exact ⟨_, _, rfl, Try.func8, k170⟩
  · cases h; exact ⟨_, _, rfl, Try.func12, k185⟩
  · cases h; exact ⟨_, _, rfl, Try.func16, k189⟩
  · cases h; exact ⟨_, _, rfl, Try.func19, k216⟩
  · cases h; exact ⟨_, _, rfl, Try.func20, k218⟩
  · cases h; exact ⟨_, _, rfl, Try.func27, k219⟩
  · cases h; exact ⟨_, _, rfl, Try.func28, k220⟩
  · cases h; exact ⟨_, _, rfl, Try.func9, k228⟩
  · cases h; exact ⟨_, _, rfl, Try.func17, k239⟩
  · cases h; exact ⟨_, _, rfl, Try.func23, k244⟩
  · cases h; exact ⟨_, _, rfl, Try.func24, k245⟩
  · cases h; exact ⟨_, _, rfl, Try.func33, k271⟩
  · cases h; exact ⟨_, _, rfl, Try.func40, k274⟩
  · cases h; exact ⟨_, _, rfl, Try.func29, k281⟩
  · cases h; exact ⟨_, _, rfl, Try.func31, k284⟩
  · cases h; exact ⟨_, _, rfl, Try.func41, k286⟩
  · cases h; exact ⟨_, _, rfl, Try.func18, k288⟩
  · cases h; exact ⟨_, _, rfl, Try.func38, k298⟩
  · cases h; exact ⟨_, _, rfl, Try.func39, k299⟩
  · cases h; exact ⟨_, _, rfl, Try.func44, k330⟩
  · cases h; exact ⟨_, _, rfl, Try.func6, k1003⟩
  · cases h; exact ⟨_, _, rfl, Try.func7, k1004⟩
  · cases h
theorem clones_ok : ∀ f n b z, clones f = some (n, b, z) → ∃ g fn, nf f = some g ∧ Try.prog.funcs[g]? = some fn ∧ chkFun Try.prog nf abi fn (cloneOf n b z) = true := by
  intro f n b z h
  unfold clones at h
  split at h
  · cases h; exact ⟨_, _, rfl, Try.func34, k136⟩
  · cases h; exact ⟨_, _, rfl, Try.func35, k137⟩
  · cases h; exact ⟨_, _, rfl, Try.func32, k270⟩
  · cases h
theorem ran : runF abi funs (cloneP clones) 100000 50 1003 [] = some (.bool true, []) := by kernel_rfl
theorem told_true : CallsOK Try.prog nf 1003 [] (.bool true) [] :=
  runF_ok enters_all (by kernel_rfl) (cloneP_ok enters_all (by kernel_rfl) clones_ok) funs_ok 50 1003 [] _ _ ran
end Fo.Try

namespace Go.Proofs.Ytildnnhlpdcglaa.faultForms
open Go Go.ChangeShapes Go.WideShapes Go.ChangeAt Go.RowKit
set_option linter.unusedVariables false

theorem own : ownKnob Try.prog.godebug = none := by kernel_rfl
theorem kids : Kids Try.prog (· < Try.prog.types.size) := kids_rows (by kernel_rfl) (by kernel_rfl)
theorem full : ∀ t e, t < Try.prog.types.size → Try.prog.underlying t = some (.slice e) → 0 < Try.prog.cellsOf e := slices_full_of Try.prog (by kernel_rfl)

theorem walk (w : World) : Calls Try.prog 6 #[] w fun e w' => e = .returned (.bool true) ∧ Fo.CallKeeps w w' [] := by
  have h := Fo.Try.told_true 6 rfl w (fun _ => False) [] [] (fun _ h => h.elim) (fun _ h => by cases h) List.nodup_nil ⟨rfl, rfl⟩
  refine h.mono fun e w' ⟨c, S', he, _, _, hk, hx⟩ => ?_
  obtain ⟨c', cs, O1, O2, e1, e2, ⟨_, hv⟩, _⟩ := hx
  cases e1
  exact ⟨by rw [he, hv], hk⟩

set_option maxRecDepth 100000 in
theorem lifted (os : Os) (started : os.Started) (H : Type) (enc : TypeId × Value → H) :
    ReturnsInHanded {} Try.checked os 6 .any (Rows.faultFormsSpec.pre6 enc Try.prog Try.f6 Rows.faultFormsRow.domain false) (Rows.faultFormsSpec.post enc Try.prog Try.f6 false true false false) := by
  refine returnsInHanded_of_change (C := Try.checked) own started (by kernel_rfl) Try.func6
    (ChangeSpec.witness6 (enc := enc) (C := Try.checked) false ⟨#[], #[], []⟩ 8 (by kernel_rfl) (by kernel_rfl) (by kernel_rfl) (by kernel_rfl)) ?_
  intro W base args ds gs before hval0 hW hcnd _
  have hW' := hW
  obtain ⟨p, q, hA0, hV, rfl, hfz, hnd⟩ := hW
  have hA : DataW.TrodAll enc Try.prog W 0 (fun _ => true) true Try.f6.params.toList args.toList ds p := hA0
  rw [Try.params6] at hA
  obtain ⟨rfl, rfl, rfl⟩ := trodAll_none hA
  obtain ⟨rfl, rfl⟩ := trodVars_none hV
  refine (walk W).mono fun e W' ⟨he, hg⟩ => ?_
  subst he
  exact ⟨_, rfl, Fo.law_post kids full (by rw [Try.params6]; intro t ht; cases ht) rfl hW' rfl rfl rfl (by kernel_rfl) Try.underlying4 hg⟩

theorem over : Rows.faultFormsRow.holds Try.pinned (OpenSpec.ofChange Rows.faultFormsSpec) :=
  OpenClaim.holds_of_wide 6 Try.f6 rfl rfl rfl rfl rfl rfl rfl ⟨rfl, rfl, rfl, rfl, rfl⟩ rfl rfl rfl rfl rfl (by kernel_rfl) Try.func6 (by kernel_rfl)
    (of_decide_eq_true (by kernel_rfl)) (by unfold Func.isWrapper; first | (rw [if_pos (by decide +kernel)]; kernel_rfl) | (rw [if_neg (by decide +kernel)]; exact ⟨rfl, rfl⟩))
    (fun os started H enc _ => lifted os started H enc)

theorem proved : Rows.FaultFormsSaid := over
end Go.Proofs.Ytildnnhlpdcglaa.faultForms
