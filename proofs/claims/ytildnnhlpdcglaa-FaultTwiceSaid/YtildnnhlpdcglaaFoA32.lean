/-
  Is a slice nil? (part 32)
-/
import Derived.Test.YtildnnhlpdcglaaFoA23
import Derived.WalkSpells
namespace Fo
open Go
set_option linter.unusedVariables false
set_option linter.unusedSimpArgs false

section
variable {P : Program} {nf : Nm}

theorem tells_eqnil {B : Base} {ι : Iota} {M : Nat → Prop} {h : Heap} {a : Act} {w : World} (m : Mem nf B ι M h w) {o : Oper} {neg : Bool} {t e yt : TypeId} {x : Operand} (ho : o.op = .binOp (if neg then .neq else .eql) t x (.const (.slice none 0 0)) yt)
    (ht : P.underlying t = some (.slice e)) {vx : V} {r : Res} (hx : DV nf ι w M vx (a.eval x)) (hr : comp (.eqnil neg) [vx] h = some r) : ∃ c w' M', Tells P o a w c w' ∧ ResOK nf B ι M w false r c w' M' := by
  have key : ∀ ad n c, a.eval x = .slice ad n c → (execOp a.eval o).run P w = .ok (.value (.bool (if neg then !ad.isNone else ad.isNone))) w := by
    intro ad n c e1
    have g : ∀ op, (eqGuard op t x (.const (.slice none 0 0)) (.slice ad n c) (.slice none 0 0)).run P w = .ok () w := by
      intro op
      cases op <;> simp [eqGuard, run_underlying ht]
    have ec : a.eval (.const (.slice none 0 0)) = .slice none 0 0 := rfl
    cases neg with
    | false => simp [execOp, ho, e1, ec, g, Lib.run_eql_slice_nil w t e ad n c 0 0 ht]
    | true => simp [execOp, ho, e1, ec, g, run_neq_slice_nil_any w t e ad n c 0 0 ht]
  simp only [comp] at hr
  split at hr
  · rename_i n
    cases hr
    cases n with
    | true => exact ⟨_, _, _, .inl (key _ _ _ hx), ResOK.plain m rfl⟩
    | false => obtain ⟨ad, cap, e1⟩ := hx; exact ⟨_, _, _, .inl (key _ _ _ e1), ResOK.plain m rfl⟩
  · cases hr
  · cases hr
    obtain ⟨ad, cap, e1, _, _, hh⟩ := hx
    rcases hh with hh | ⟨b, o', n, ha, _⟩
    · cases hh
    · subst ha
      refine ⟨_, _, _, .inl (key _ _ _ e1), ResOK.plain m ?_⟩
      cases neg <;> rfl
  · cases hr
    rcases hx with ⟨_, _, hl, _⟩ | ⟨b, o', n, tot, ad, cap, e', N, h1, e1, h3, h4, h5, h6, _⟩
    · cases hl
    · rcases h6 with h6 | h6
      · subst h6
        refine ⟨_, _, _, .inl (key _ _ _ e1), ResOK.plain m ?_⟩
        cases neg <;> rfl
      · omega
  · cases hr

end
end Fo
