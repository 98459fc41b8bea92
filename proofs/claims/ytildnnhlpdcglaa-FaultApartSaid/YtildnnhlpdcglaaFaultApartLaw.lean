/-
  FaultApart: whatever it is given, it returns true. No condition.
-/
import Derived.Test.YtildnnhlpdcglaaFaultApartFuns
import Derived.Test.YtildnnhlpdcglaaFaultApartWalk
import Derived.Test.YtildnnhlpdcglaaRows
import Derived.KernelRfl
import Derived.Carry
set_option maxRecDepth 100000
namespace Fo.Try
open Go Go.Proofs Fo.W
theorem told (W : World) (a : Int) (ha : (Lit.int .u8 a).wf = true) (b : Int) (hb : (Lit.int .u8 b).wf = true) (r : List (List V)) (_ : r.length ≤ maxLen) (fr : ∀ x ∈ r, FitL [.int .u8] x) (v : Value) (hv : ∀ nf : Nm, DC nf W Nobody (.sl r) v)
    (s : List (List V)) (_ : s.length ≤ maxLen) (fs : ∀ x ∈ s, FitL [.int .i64, .int .i64] x) (u : Value) (hu : ∀ nf : Nm, DC nf W Nobody (.sl s) u) :
    Calls Try.prog 3 #[.int .u8 a, .int .u8 b, v, u] W fun e w' => e = .returned (.bool true) ∧ CallKeeps W w' [] := by
  obtain ⟨ns, rfl, hn⟩ := rows_of (f := u8Row) (p := fun n => 0 ≤ n ∧ n ≤ 255) (fun x hx => fit_u8 (fr x hx))
  obtain ⟨l, rfl, _⟩ := rows_of (f := Sema.row) (p := fun _ => True) (fun x hx => by
    obtain ⟨v1, us, rfl, h1, h2⟩ := (fs x hx).cons'
    obtain ⟨v2, us, rfl, h3, h4⟩ := h2.cons'
    obtain rfl := h4.nil'
    obtain ⟨n1, rfl, _⟩ := h1.int'
    obtain ⟨n2, rfl, _⟩ := h3.int'
    exact ⟨⟨n1, n2⟩, rfl, trivial⟩)
  exact says (cs := [.int .u8 a, .int .u8 b, v, u]) (o := 1000) rfl rfl rfl (law1000 a b (u8_of ha) (u8_of hb) ns hn l)
    ⟨_, _, rfl, rfl, _, _, rfl, rfl, _, _, rfl, hv nf, _, _, rfl, hu nf, rfl⟩
end Fo.Try

namespace Go.Proofs.Ytildnnhlpdcglaa.faultApart
open Go Go.ChangeShapes Go.WideShapes Go.ChangeAt Go.RowKit
set_option linter.unusedVariables false

theorem own : ownKnob Try.prog.godebug = none := by kernel_rfl
theorem kids : Kids Try.prog (· < Try.prog.types.size) := kids_rows (by kernel_rfl) (by kernel_rfl)
theorem full : ∀ t e, t < Try.prog.types.size → Try.prog.underlying t = some (.slice e) → 0 < Try.prog.cellsOf e := slices_full_of Try.prog (by kernel_rfl)

set_option maxRecDepth 100000 in
theorem lifted (os : Os) (started : os.Started) (H : Type) (enc : TypeId × Value → H) :
    ReturnsInHanded {} Try.checked os 3 .any (Rows.faultApartSpec.pre6 enc Try.prog Try.f3 Rows.faultApartRow.domain false) (Rows.faultApartSpec.post enc Try.prog Try.f3 false true false false) := by
  refine returnsInHanded_of_change (C := Try.checked) own started (by kernel_rfl) Try.func3
    (ChangeSpec.witness6 (enc := enc) (C := Try.checked) false ⟨#[], #[.int .u8 0, .int .u8 0, .slice none 0 0, .slice none 0 0], []⟩ 8 (by kernel_rfl) (by kernel_rfl) (by kernel_rfl) (by kernel_rfl)) ?_
  intro W base args ds gs before hval0 hW hcnd _
  have hval : ∀ (j : Nat) t v, Try.f3.params[j]? = some t → args[j]? = some v → Value.okWide Try.prog W .any base t v := hval0
  have hW' := hW
  obtain ⟨p, q, hA0, hV, rfl, hfz, hnd⟩ := hW
  have hA : DataW.TrodAll enc Try.prog W 0 (fun _ => true) true Try.f3.params.toList args.toList ds p := hA0
  rw [Try.params3] at hA hval
  obtain ⟨v0, v1, v2, v3, d0, d1, d2, d3, p0, p1, p2, p3, rfl, rfl, rfl, h0, h1, h2, h3⟩ := trodAll_four hA
  obtain ⟨rfl, rfl⟩ := trodVars_none hV
  obtain ⟨n0, rfl, rfl, rfl, w0⟩ := open_int Try.underlying5 (hval 0 5 v0 rfl rfl) h0
  obtain ⟨n1, rfl, rfl, rfl, w1⟩ := open_int Try.underlying5 (hval 1 5 v1 rfl rfl) h1
  obtain ⟨r2, l2, f2, g2⟩ := Fo.open_rows (n := 8) (l := [.int .u8]) Try.underlying22 (by kernel_rfl) (okWide_slice Try.underlying22 (hval 2 22 v2 rfl rfl)) h2
  obtain ⟨r3, l3, f3, g3⟩ := Fo.open_rows (n := 8) (l := [.int .i64, .int .i64]) Try.underlying23 (by kernel_rfl) (okWide_slice Try.underlying23 (hval 3 23 v3 rfl rfl)) h3
  refine (Fo.Try.told W n0 w0 n1 w1 r2 l2 f2 v2 g2 r3 l3 f3 v3 g3).mono fun e W' ⟨he, hg⟩ => ?_
  subst he
  exact ⟨_, rfl, Fo.law_post kids full (by rw [Try.params3]; decide) rfl hW' rfl rfl rfl (by kernel_rfl) Try.underlying4 hg⟩

theorem over : Rows.faultApartRow.holds Try.pinned (OpenSpec.ofChange Rows.faultApartSpec) :=
  OpenClaim.holds_of_wide 3 Try.f3 rfl rfl rfl rfl rfl rfl rfl ⟨rfl, rfl, rfl, rfl, rfl⟩ rfl rfl rfl rfl rfl (by kernel_rfl) Try.func3 (by kernel_rfl)
    (of_decide_eq_true (by kernel_rfl)) (by unfold Func.isWrapper; first | (rw [if_pos (by decide +kernel)]; kernel_rfl) | (rw [if_neg (by decide +kernel)]; exact ⟨rfl, rfl⟩))
    (fun os started H enc _ => lifted os started H enc)

theorem proved : Rows.FaultApartSaid := over
end Go.Proofs.Ytildnnhlpdcglaa.faultApart
