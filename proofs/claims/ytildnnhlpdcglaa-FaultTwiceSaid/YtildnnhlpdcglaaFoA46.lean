/-
  What is known of numbers, put together (part 46).
-/
import Derived.Test.YtildnnhlpdcglaaFoA45
namespace Fo
open Go
set_option linter.unusedVariables false
set_option linter.unusedSimpArgs false

def beqFact (f g : Fact) : Bool := f.1 == g.1 && beqE f.2.1 g.2.1 && beqE f.2.2.1 g.2.2.1 && f.2.2.2 == g.2.2.2
def subFacts (a b : List Fact) : Bool := a.all fun f => b.any fun g => beqFact f g

theorem lookup_all {q : FuncId → Bool} : ∀ {l : List (Nat × FuncId)} (h : (l.all fun p => q p.2) = true) {f : Nat} {g : FuncId}, l.lookup f = some g → q g = true
  | [], _, _, _, hf => by cases hf
  | (a, b) :: l, h, f, g, hf => by
    simp only [List.all_cons, Bool.and_eq_true] at h
    simp only [List.lookup] at hf
    split at hf
    · cases hf; exact h.1
    · exact lookup_all h.2 hf

section
variable {nf : Nm}
theorem FactsOK.nil : FactsOK nf [] := fun _ _ _ _ h => by cases h
theorem FactsOK.sub {a b : List Fact} (h : FactsOK nf b) (s : subFacts a b = true) : FactsOK nf a := by
  intro lt x y q hm
  unfold subFacts at s
  rw [List.all_eq_true] at s
  have := s _ hm
  rw [List.any_eq_true] at this
  obtain ⟨⟨lt', x', y', q'⟩, hm', hb⟩ := this
  simp only [beqFact, Bool.and_eq_true, beq_iff_eq] at hb
  obtain ⟨⟨⟨rfl, h1⟩, h2⟩, rfl⟩ := hb
  rw [beqE_eq _ _ h1, beqE_eq _ _ h2]
  exact h _ _ _ _ hm'
theorem FactsOK.snoc {fx : List Fact} {lt q : Bool} {a b : SE} (h : FactsOK nf fx) (k : q = (if lt then decide (evalE nf a < evalE nf b) else evalE nf a == evalE nf b)) : FactsOK nf (fx ++ [(lt, a, b, q)]) := by
  intro lt' a' b' q' hm
  rcases List.mem_append.1 hm with hm | hm
  · exact h _ _ _ _ hm
  · simp only [List.mem_singleton, Prod.mk.injEq] at hm
    obtain ⟨rfl, rfl, rfl, rfl⟩ := hm
    exact k
theorem FactsOK.eqT {fx : List Fact} {a b : SE} (k : evalE nf a = evalE nf b) (h : FactsOK nf fx) : FactsOK nf (fx ++ [(false, a, b, true)]) := h.snoc (by simp [k])
theorem FactsOK.eqF {fx : List Fact} {a b : SE} (k : ¬ evalE nf a = evalE nf b) (h : FactsOK nf fx) : FactsOK nf (fx ++ [(false, a, b, false)]) := h.snoc (by simp [k])
theorem FactsOK.ltT {fx : List Fact} {a b : SE} (k : evalE nf a < evalE nf b) (h : FactsOK nf fx) : FactsOK nf (fx ++ [(true, a, b, true)]) := h.snoc (by simp [k])
theorem FactsOK.ltF {fx : List Fact} {a b : SE} (k : ¬ evalE nf a < evalE nf b) (h : FactsOK nf fx) : FactsOK nf (fx ++ [(true, a, b, false)]) := h.snoc (by simp only [if_true]; symm; simpa using k)
end
end Fo
