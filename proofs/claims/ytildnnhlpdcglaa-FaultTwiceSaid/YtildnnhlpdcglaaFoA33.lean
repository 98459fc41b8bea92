/-
  An argument that is an empty slice is nil or is not (part 33).
-/
import Derived.Test.YtildnnhlpdcglaaFoA31
namespace Fo
open Go
set_option linter.unusedVariables false
set_option linter.unusedSimpArgs false

section
variable {P : Program} {nf : Nm}

/-- It answers for one empty slice: so it does if it answers so for nil and for one that is not nil. -/
theorem CallsOK.split1 {f : Nat} {v : V} {outs : List (List V)} (h1 : CallsOK P nf f [.e true] v outs) (h2 : CallsOK P nf f [.e false] v outs) : CallsOK P nf f [.sl []] v outs := by
  intro g hg w M0 vals S hM hS hn hx
  obtain ⟨c, cs', O1, O2, e1, e2, hc, hr⟩ := hx
  obtain ⟨rfl, rfl⟩ := hr
  obtain ⟨hO, a, cap, ec, hl, hz, _⟩ := hc
  subst e1 hO
  cases a with
  | none =>
    have := hz rfl
    subst this
    exact h1 g hg w M0 [c] S hM hS hn ⟨c, [], [], [], rfl, e2, ⟨rfl, ec⟩, rfl, rfl⟩
  | some a => exact h2 g hg w M0 [c] S hM hS hn ⟨c, [], [], [], rfl, e2, ⟨rfl, a, cap, ec⟩, rfl, rfl⟩
end

end Fo
