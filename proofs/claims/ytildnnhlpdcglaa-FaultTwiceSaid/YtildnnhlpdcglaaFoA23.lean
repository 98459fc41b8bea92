/-
  The model's operations against the machine's: what is to be looked at (part 23).
-/
import Derived.Test.YtildnnhlpdcglaaFoA22
namespace Fo
open Go
set_option linter.unusedVariables false
set_option linter.unusedSimpArgs false

mutual
def checkV : V → Value → Bool
  | .int k n, .int k' n' => k == k' && n == n'
  | .bool b, .bool b' => b == b'
  | .e n, .slice a len cap => n && a.isNone && len == 0 && cap == 0
  | .fresh rows, .slice _ len cap => rows.isEmpty && len == 0 && cap == 0
  | .agg l, .agg cs => l.all V.one && checkVL l cs.toList
  | .tup l, .tuple cs => checkVL l cs.toList
  | .any, _ => true
  | _, _ => false
def checkVL : List V → List Value → Bool
  | [], [] => true
  | v :: l, c :: cs => checkV v c && checkVL l cs
  | _, _ => false
end
mutual
def checkC : V → Value → Bool
  | .int k n, .int k' n' => k == k' && n == n'
  | .bool b, .bool b' => b == b'
  | .sl rows, .slice _ len cap => rows.isEmpty && len == 0 && cap == 0
  | .agg l, .agg cs => l.all V.one && checkCL l cs.toList
  | .tup l, .tuple cs => checkCL l cs.toList
  | _, _ => false
def checkCL : List V → List Value → Bool
  | [], [] => true
  | v :: l, c :: cs => checkC v c && checkCL l cs
  | _, _ => false
end

section
variable {P : Program} {nf : Nm} {abi : Abi} {N : Nat}

mutual
theorem checkV_ok {ι : Iota} {w : World} {M : Nat → Prop} : ∀ (v : V) (c : Value), checkV v c = true → DV nf ι w M v c
  | .int k n, c, h => by cases c <;> simp [checkV] at h; obtain ⟨rfl, rfl⟩ := h; rfl
  | .bool b, c, h => by cases c <;> simp [checkV] at h; subst h; rfl
  | .e n, c, h => by cases c <;> simp [checkV] at h; obtain ⟨⟨⟨rfl, rfl⟩, rfl⟩, rfl⟩ := h; rfl
  | .fresh rows, c, h => by cases c <;> simp [checkV] at h; obtain ⟨⟨rfl, rfl⟩, rfl⟩ := h; exact ⟨rfl, _, rfl⟩
  | .agg l, c, h => by
    cases c <;> simp only [checkV, Bool.and_eq_true, Bool.false_eq_true] at h
    rename_i cs
    exact ⟨h.1, cs.toList, by simp, checkVL_ok l _ h.2⟩
  | .tup l, c, h => by
    cases c <;> simp only [checkV, Bool.false_eq_true] at h
    rename_i cs
    exact ⟨cs.toList, by simp, checkVL_ok l _ h⟩
  | .sl _, c, h => by cases c <;> simp [checkV] at h
  | .own _ _ _ _ _, c, h => by cases c <;> simp [checkV] at h
  | .ptr _ _ _ _ _, c, h => by cases c <;> simp [checkV] at h
  | .pbox _ _, c, h => by cases c <;> simp [checkV] at h
  | .iptr _ _, c, h => by cases c <;> simp [checkV] at h
  | .fn _ _ _, c, h => by cases c <;> simp [checkV] at h
  | .fmap _ _, c, h => by cases c <;> simp [checkV] at h
  | .spare _, c, h => by cases c <;> simp [checkV] at h
  | .map _ _ _, c, h => by cases c <;> simp [checkV] at h
  | .any, c, h => trivial
theorem checkVL_ok {ι : Iota} {w : World} {M : Nat → Prop} : ∀ (l : List V) (cs : List Value), checkVL l cs = true → DVL nf ι w M l cs
  | [], cs, h => by cases cs <;> simp [checkVL] at h; rfl
  | v :: l, cs, h => by
    cases cs <;> simp only [checkVL, Bool.and_eq_true, Bool.false_eq_true] at h
    exact ⟨_, _, rfl, checkV_ok v _ h.1, checkVL_ok l _ h.2⟩
end
mutual
theorem checkC_ok {w : World} {M : Nat → Prop} : ∀ (v : V) (c : Value), checkC v c = true → DC nf w M v c
  | .int k n, c, h => by cases c <;> simp [checkC] at h; obtain ⟨rfl, rfl⟩ := h; rfl
  | .bool b, c, h => by cases c <;> simp [checkC] at h; subst h; rfl
  | .e n, c, h => by cases c <;> simp [checkC] at h
  | .sl rows, c, h => by cases c <;> simp [checkC] at h; obtain ⟨⟨rfl, rfl⟩, rfl⟩ := h; exact ⟨_, 0, rfl, Nat.le_refl _, (fun _ => rfl), .inl rfl⟩
  | .agg l, c, h => by
    cases c <;> simp only [checkC, Bool.and_eq_true, Bool.false_eq_true] at h
    rename_i cs
    exact ⟨h.1, cs.toList, by simp, checkCL_ok l _ h.2⟩
  | .tup l, c, h => by
    cases c <;> simp only [checkC, Bool.false_eq_true] at h
    rename_i cs
    exact ⟨cs.toList, by simp, checkCL_ok l _ h⟩
  | .fresh _, c, h => by cases c <;> simp [checkC] at h
  | .own _ _ _ _ _, c, h => by cases c <;> simp [checkC] at h
  | .ptr _ _ _ _ _, c, h => by cases c <;> simp [checkC] at h
  | .pbox _ _, c, h => by cases c <;> simp [checkC] at h
  | .iptr _ _, c, h => by cases c <;> simp [checkC] at h
  | .fn _ _ _, c, h => by cases c <;> simp [checkC] at h
  | .fmap _ _, c, h => by cases c <;> simp [checkC] at h
  | .spare _, c, h => by cases c <;> simp [checkC] at h
  | .map _ _ _, c, h => by cases c <;> simp [checkC] at h
  | .any, c, h => by cases c <;> simp [checkC] at h
theorem checkCL_ok {w : World} {M : Nat → Prop} : ∀ (l : List V) (cs : List Value), checkCL l cs = true → DCL nf w M l cs
  | [], cs, h => by cases cs <;> simp [checkCL] at h; rfl
  | v :: l, cs, h => by
    cases cs <;> simp only [checkCL, Bool.and_eq_true, Bool.false_eq_true] at h
    exact ⟨_, _, rfl, checkC_ok v _ h.1, checkCL_ok l _ h.2⟩
end

def checkOpd (nf : Nm) : AOpd → Operand → Bool
  | .s t, .tmp t' => t == t'
  | .c (.fn f [] []), .func g => nf f == some g
  | .c v, .const c => checkV v c
  | _, _ => false

def chkXs (nf : Nm) : List AOpd → List Operand → Bool
  | [], [] => true
  | x :: xs, o :: os => checkOpd nf x o && chkXs nf xs os
  | _, _ => false

theorem opd_ok {B : Base} {ι : Iota} {M : Nat → Prop} {σ : St} {a : Act} {w : World} (rel : RelS nf B N ι M σ a w) {x : AOpd} {o : Operand} (h : checkOpd nf x o = true) : DV nf ι w M (ev σ.env x) (a.eval o) := by
  unfold checkOpd at h
  split at h
  · simp only [beq_iff_eq] at h; subst h; exact rel.env _
  · simp only [beq_iff_eq] at h; exact ⟨_, [], [], h, rfl, rfl, rfl⟩
  · exact checkV_ok _ _ h
  · cases h

theorem xs_ok {B : Base} {ι : Iota} {M : Nat → Prop} {σ : St} {a : Act} {w : World} (rel : RelS nf B N ι M σ a w) : ∀ {xs : List AOpd} {os : List Operand}, chkXs nf xs os = true → DVL nf ι w M (xs.map (ev σ.env)) (os.map a.eval)
  | [], [], _ => rfl
  | x :: xs, o :: os, h => by
    simp only [chkXs, Bool.and_eq_true] at h
    exact ⟨_, _, rfl, opd_ok rel h.1, xs_ok rel h.2⟩
  | [], _ :: _, h => by simp [chkXs] at h
  | _ :: _, [], h => by simp [chkXs] at h

/-- A function of the program that has a body. -/
def enters (P : Program) (g : FuncId) : Bool :=
  match P.funcs[g]? with
  | some fn => !(fn.name == "runtime.NumGoroutine") && fn.body.isSome
  | none => false

theorem run_enters {g : FuncId} (h : enters P g = true) (args : Array Value) (w : World) : (callFunc g args).run P w = .ok (.enter g args) w := by
  unfold enters at h
  split at h
  · rename_i fn hf
    simp only [Bool.and_eq_true, Bool.not_eq_true', beq_eq_false_iff_ne, ne_eq] at h
    obtain ⟨c, hc⟩ := Option.isSome_iff_exists.1 h.2
    simp [callFunc, hf, h.1, hc]
  · cases h

/-- What an operation says, of the model's. -/
def OpTells (P : Program) (nf : Nm) (abi : Abi) (N : Nat) (o : Oper) (ao : AOp) : Prop :=
  ∀ (B : Base) (ι : Iota) (M : Nat → Prop) (σ : St) (a : Act) (w : World), RelS nf B N ι M σ a w → ∀ r, Comes abi (CallsOK P nf) ao.k (ao.xs.map (ev σ.env)) σ.h r →
    (∃ c w' M', Tells P o a w c w' ∧ ResOK nf B ι M w ao.k.makes r c w' M') ∨
    ∃ g args, (execOp a.eval o).run P w = .ok (.enter g args) w ∧ Calls P g args w (fun e w' => ∃ c M', e = .returned c ∧ ResOK nf B ι M w ao.k.makes r c w' M')

theorem OpTells.sound {o : Oper} {ao : AOp} (hd : o.dst = if ao.w then some ao.d else none) (lt : ao.w = true → ao.d < N) (H : OpTells P nf abi N o ao) : OpSound P nf abi N o ao := by
  intro B ι M σ a w rel r hr next Q hn
  rcases H B ι M σ a w rel r hr with ⟨c, w', M', ht, ok⟩ | ⟨g, args, he, hc⟩
  · obtain ⟨ι', M'', rel'⟩ := apply_ok rel ok lt
    have := hn _ _ _ _ rel'
    rw [← hd] at this
    unfold Oper.wp
    rcases ht with ht | ⟨ht, rfl⟩
    · rw [ht]; exact this
    · rw [ht]; exact this
  · unfold Oper.wp
    rw [he]
    refine hc.mono ?_
    rintro e w' ⟨c, M', rfl, ok⟩
    obtain ⟨ι', M'', rel'⟩ := apply_ok rel ok lt
    have := hn _ _ _ _ rel'
    rw [← hd] at this
    exact this

end
end Fo
