/-
  slices.Clone as a hand-made answer of the machine (part 36).
-/
import Derived.Test.YtildnnhlpdcglaaFoA34
namespace Fo
open Go
set_option linter.unusedVariables false
set_option linter.unusedSimpArgs false

def cloneP (tbl : Nat → Option (Nat × Nat × List V)) : CallF := fun f args =>
  match tbl f with
  | none => none
  | some (n, bytes, zero) =>
    match args with
    | [.sl rows] => if zero.length = n ∧ bytes ≤ 4096 ∧ zero.all V.one = true ∧ rows.all (·.length = n) = true ∧ rows.length ≤ room then some (.fresh rows, []) else none
    | _ => none

section
variable {P : Program} {nf : Nm} {abi : Abi}

theorem cloneP_ok (hE : Ent P nf abi) (hm : P.follows .mixedOrders = true) {tbl : Nat → Option (Nat × Nat × List V)}
    (hf : ∀ f n b z, tbl f = some (n, b, z) → ∃ g fn, nf f = some g ∧ P.funcs[g]? = some fn ∧ chkFun P nf abi fn (cloneOf n b z) = true) :
    ∀ f args v outs, cloneP tbl f args = some (v, outs) → CallsOK P nf f args v outs := by
  intro f args v outs h
  unfold cloneP at h
  split at h
  · cases h
  · rename_i n bytes zero ht
    obtain ⟨g, fn, h1, h2, h3⟩ := hf _ _ _ _ ht
    split at h
    · rename_i rows
      split at h
      · rename_i hc
        obtain ⟨hz, hb, ho, hr, hl⟩ := hc
        cases h
        have one : ∀ x v, runBody abi (fun _ _ => none) 10 (cloneOf n bytes zero) true [x] = some (v, []) → CallsOK P nf f [x] v [] := fun x v hx => by
          obtain ⟨gv, hr⟩ := runBody_ok (Γ := CallsOK P nf) (fun _ _ _ _ h => by cases h) hx
          exact call_ok hE hm h1 h2 h3 hr
        by_cases he : rows = []
        · subst he
          exact CallsOK.split1 (one _ _ (clone_nil _ _ _)) (one _ _ (clone_run n bytes zero hz hb ho [] hr hl _ (.inl ⟨rfl, rfl⟩)))
        · exact one _ _ (clone_run n bytes zero hz hb ho rows hr hl _ (.inr ⟨rfl, he⟩))
      · cases h
    · cases h
end
end Fo
