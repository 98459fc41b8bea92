/-
  slices.Clone (part 34).
-/
import Derived.Test.YtildnnhlpdcglaaFoA33
namespace Fo
open Go
set_option linter.unusedVariables false
set_option linter.unusedSimpArgs false

/-- slices.Clone, of rows that are n long. -/
def cloneOf (n bytes : Nat) (zero : List V) : AFun where
  n := 8
  res := [.tmp 2]
  code := (.seq (.reg [
  ⟨2, true, .mv, [.c (.e true)], none, [], []⟩])
 (.seq (.seq (.reg [
  ⟨3, true, .mv, [.s 0], none, [], []⟩,
  ⟨4, true, .eqnil false, [.s 3], none, [], []⟩])
 (.cond (.s 4) (.seq (.reg [
  ⟨2, true, .mv, [.c (.e true)], none, [], []⟩])
 .ret)
 .skip))
 (.seq (.reg [
  ⟨5, true, .buildSl n zero 0 [], [], none, [], []⟩,
  ⟨6, true, .mv, [.s 0], none, [], []⟩,
  ⟨7, true, .app n bytes zero, [.s 5, .s 6], none, [], []⟩,
  ⟨2, true, .mv, [.s 7], none, [], []⟩])
 .ret)))

section
variable {abi : Abi} {Γ : Nat → List V → V → List (List V) → Prop} {call : CallF}

theorem clone_nil (n bytes : Nat) (zero : List V) : runBody abi call 10 (cloneOf n bytes zero) true [.e true] = some (.fresh [], []) := rfl
theorem clone_run (n bytes : Nat) (zero : List V) (hz : zero.length = n) (hb : bytes ≤ 4096) (ho : zero.all V.one = true) (rows : List (List V)) (hr : rows.all (·.length = n) = true) (hl : rows.length ≤ room) (x : V) (hx : x = .e false ∧ rows = [] ∨ x = .sl rows ∧ rows ≠ []) :
    runBody abi call 10 (cloneOf n bytes zero) true [x] = some (.fresh rows, []) := by
  rcases hx with ⟨rfl, rfl⟩ | ⟨rfl, hne⟩
  · simp [runBody, cloneOf, enter, enterL, thaw, runC, runOps, guarded, comesF, comp, ev, setEnv, upd, apply, K.makes, freeze, fillR, appV, rowsOf, hz, hb, ho, hr, hl, thawL, restore, readAll, readRes, outsOf, letGo, told, give, Heap.set, empty]
  · obtain ⟨r, rs, rfl⟩ := List.exists_cons_of_ne_nil hne
    simp only [List.all_cons, Bool.and_eq_true, decide_eq_true_eq] at hr
    simp only [List.length_cons] at hl
    simp [runBody, cloneOf, enter, enterL, thaw, runC, runOps, guarded, comesF, comp, ev, setEnv, upd, apply, K.makes, freeze, fillR, appV, rowsOf, hz, hb, ho, hr, hl, thawL, restore, readAll, readRes, outsOf, letGo, told, give, Heap.set, empty]
end
end Fo
