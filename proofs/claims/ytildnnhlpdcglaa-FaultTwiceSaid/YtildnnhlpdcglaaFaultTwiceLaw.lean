/-
  FaultTwice: whatever it is given, it returns true. No condition.
-/
import Derived.Test.YtildnnhlpdcglaaFaultTwiceFuns
import Derived.Test.YtildnnhlpdcglaaFaultTwiceWalk
import Derived.Test.YtildnnhlpdcglaaRows
import Derived.KernelRfl
import Derived.Carry
set_option maxRecDepth 100000
namespace Fo.Try
open Go Go.Proofs Fo.W
theorem told (W : World) (r : List (List V)) (hr : r.length ≤ maxLen) (fr : ∀ x ∈ r, FitL [.int .u8] x) (v : Value) (hv : ∀ nf : Nm, DC nf W Nobody (.sl r) v) (a : Int) (ha : (Lit.int .i64 a).wf = true) (b : Int) (hb : (Lit.int .u8 b).wf = true) :
    Calls Try.prog 4 #[v, .int .i64 a, .int .u8 b] W fun e w' => e = .returned (.bool true) ∧ CallKeeps W w' [] := by
  obtain ⟨ns, rfl, hn⟩ := rows_of (f := u8Row) (p := fun n => 0 ≤ n ∧ n ≤ 255) (fun x hx => fit_u8 (fr x hx))
  have hi : -9223372036854775808 ≤ a ∧ a ≤ 9223372036854775807 := by
    simp only [Lit.wf, Bool.and_eq_true, decide_eq_true_eq] at ha
    exact ha
  exact says (cs := [v, .int .i64 a, .int .u8 b]) (o := 1001) rfl rfl rfl (law1001 ns hn a hi b (u8_of hb))
    ⟨_, _, rfl, hv nf, _, _, rfl, rfl, _, _, rfl, rfl, rfl⟩
end Fo.Try

namespace Go.Proofs.Ytildnnhlpdcglaa.faultTwice
open Go Go.ChangeShapes Go.WideShapes Go.ChangeAt Go.RowKit
set_option linter.unusedVariables false

theorem own : ownKnob Try.prog.godebug = none := by kernel_rfl
theorem kids : Kids Try.prog (· < Try.prog.types.size) := kids_rows (by kernel_rfl) (by kernel_rfl)
theorem full : ∀ t e, t < Try.prog.types.size → Try.prog.underlying t = some (.slice e) → 0 < Try.prog.cellsOf e := slices_full_of Try.prog (by kernel_rfl)

set_option maxRecDepth 100000 in
theorem lifted (os : Os) (started : os.Started) (H : Type) (enc : TypeId × Value → H) :
    ReturnsInHanded {} Try.checked os 4 .any (Rows.faultTwiceSpec.pre6 enc Try.prog Try.f4 Rows.faultTwiceRow.domain false) (Rows.faultTwiceSpec.post enc Try.prog Try.f4 false true false false) := by
  refine returnsInHanded_of_change (C := Try.checked) own started (by kernel_rfl) Try.func4
    (ChangeSpec.witness6 (enc := enc) (C := Try.checked) false ⟨#[], #[.slice none 0 0, .int .i64 0, .int .u8 0], []⟩ 8 (by kernel_rfl) (by kernel_rfl) (by kernel_rfl) (by kernel_rfl)) ?_
  intro W base args ds gs before hval0 hW hcnd _
  have hval : ∀ (j : Nat) t v, Try.f4.params[j]? = some t → args[j]? = some v → Value.okWide Try.prog W .any base t v := hval0
  have hW' := hW
  obtain ⟨p, q, hA0, hV, rfl, hfz, hnd⟩ := hW
  have hA : DataW.TrodAll enc Try.prog W 0 (fun _ => true) true Try.f4.params.toList args.toList ds p := hA0
  rw [Try.params4] at hA hval
  obtain ⟨v0, v1, v2, d0, d1, d2, p0, p1, p2, rfl, rfl, rfl, h0, h1, h2⟩ := trodAll_three hA
  obtain ⟨rfl, rfl⟩ := trodVars_none hV
  obtain ⟨r0, l0, f0, g0⟩ := Fo.open_rows (n := 8) (l := [.int .u8]) Try.underlying22 (by kernel_rfl) (okWide_slice Try.underlying22 (hval 0 22 v0 rfl rfl)) h0
  obtain ⟨n1, rfl, rfl, rfl, w1⟩ := open_int Try.underlying2 (hval 1 2 v1 rfl rfl) h1
  obtain ⟨n2, rfl, rfl, rfl, w2⟩ := open_int Try.underlying5 (hval 2 5 v2 rfl rfl) h2
  refine (Fo.Try.told W r0 l0 f0 v0 g0 n1 w1 n2 w2).mono fun e W' ⟨he, hg⟩ => ?_
  subst he
  exact ⟨_, rfl, Fo.law_post kids full (by rw [Try.params4]; decide) rfl hW' rfl rfl rfl (by kernel_rfl) Try.underlying4 hg⟩

theorem over : Rows.faultTwiceRow.holds Try.pinned (OpenSpec.ofChange Rows.faultTwiceSpec) :=
  OpenClaim.holds_of_wide 4 Try.f4 rfl rfl rfl rfl rfl rfl rfl ⟨rfl, rfl, rfl, rfl, rfl⟩ rfl rfl rfl rfl rfl (by kernel_rfl) Try.func4 (by kernel_rfl)
    (of_decide_eq_true (by kernel_rfl)) (by unfold Func.isWrapper; first | (rw [if_pos (by decide +kernel)]; kernel_rfl) | (rw [if_neg (by decide +kernel)]; exact ⟨rfl, rfl⟩))
    (fun os started H enc _ => lifted os started H enc)

theorem proved : Rows.FaultTwiceSaid := over
end Go.Proofs.Ytildnnhlpdcglaa.faultTwice
