/-
  Calls that were reckoned before (part 43).
-/
import Derived.Test.YtildnnhlpdcglaaFoA36
namespace Fo
open Go
set_option linter.unusedVariables false
set_option linter.unusedSimpArgs false

/- Are two values the same? -/
mutual
def beqV : V → V → Bool
  | .int k n, .int k' n' => (k == k') && (n == n')
  | .bool a, .bool b => a == b
  | .sym k e lo hi m r, .sym k' e' lo' hi' m' r' => k == k' && beqE e e' && lo == lo' && hi == hi' && m == m' && r == r'
  | .e a, .e b => a == b
  | .agg l, .agg m => beqL l m
  | .tup l, .tup m => beqL l m
  | .sl l, .sl m => beqR l m
  | .fresh l, .fresh m => beqR l m
  | .pbox l a, .pbox m b => a == b && beqL l m
  | .iptr l a, .iptr m b => a == b && beqL l m
  | .fn f a b, .fn g c d => f == g && beqL a c && beqL b d
  | .any, .any => true
  | _, _ => false
def beqL : List V → List V → Bool
  | [], [] => true
  | x :: l, y :: m => beqV x y && beqL l m
  | _, _ => false
def beqR : List (List V) → List (List V) → Bool
  | [], [] => true
  | x :: l, y :: m => beqL x y && beqR l m
  | _, _ => false
end

mutual
theorem beqV_eq : ∀ (x y : V), beqV x y = true → x = y
  | .int k n, y, h => by cases y <;> simp [beqV] at h; obtain ⟨rfl, rfl⟩ := h; rfl
  | .bool a, y, h => by cases y <;> simp [beqV] at h; subst h; rfl
  | .sym k e lo hi m r, y, h => by
    cases y <;> simp only [beqV, Bool.false_eq_true, Bool.and_eq_true, beq_iff_eq] at h
    obtain ⟨⟨⟨⟨⟨rfl, h1⟩, rfl⟩, rfl⟩, rfl⟩, rfl⟩ := h
    rw [beqE_eq _ _ h1]
  | .e a, y, h => by cases y <;> simp [beqV] at h; subst h; rfl
  | .agg l, y, h => by cases y <;> simp only [beqV, Bool.false_eq_true] at h; rw [beqL_eq _ _ h]
  | .tup l, y, h => by cases y <;> simp only [beqV, Bool.false_eq_true] at h; rw [beqL_eq _ _ h]
  | .sl l, y, h => by cases y <;> simp only [beqV, Bool.false_eq_true] at h; rw [beqR_eq _ _ h]
  | .fresh l, y, h => by cases y <;> simp only [beqV, Bool.false_eq_true] at h; rw [beqR_eq _ _ h]
  | .pbox l a, y, h => by
    cases y <;> simp only [beqV, Bool.false_eq_true, Bool.and_eq_true, beq_iff_eq] at h
    rw [h.1, beqL_eq _ _ h.2]
  | .iptr l a, y, h => by
    cases y <;> simp only [beqV, Bool.false_eq_true, Bool.and_eq_true, beq_iff_eq] at h
    rw [h.1, beqL_eq _ _ h.2]
  | .fn f a b, y, h => by
    cases y <;> simp only [beqV, Bool.false_eq_true, Bool.and_eq_true, beq_iff_eq] at h
    rw [h.1.1, beqL_eq _ _ h.1.2, beqL_eq _ _ h.2]
  | .any, y, h => by cases y <;> simp [beqV] at h; rfl
  | .fmap _ _, y, h => by cases y <;> simp [beqV] at h
  | .spare _, y, h => by cases y <;> simp [beqV] at h
  | .own _ _ _ _ _, y, h => by cases y <;> simp [beqV] at h
  | .ptr _ _ _ _ _, y, h => by cases y <;> simp [beqV] at h
  | .map _ _ _, y, h => by cases y <;> simp [beqV] at h
theorem beqL_eq : ∀ (x y : List V), beqL x y = true → x = y
  | [], [], _ => rfl
  | [], _ :: _, h => by simp [beqL] at h
  | _ :: _, [], h => by simp [beqL] at h
  | x :: l, y :: m, h => by
    simp only [beqL, Bool.and_eq_true] at h
    rw [beqV_eq _ _ h.1, beqL_eq _ _ h.2]
theorem beqR_eq : ∀ (x y : List (List V)), beqR x y = true → x = y
  | [], [], _ => rfl
  | [], _ :: _, h => by simp [beqR] at h
  | _ :: _, [], h => by simp [beqR] at h
  | x :: l, y :: m, h => by
    simp only [beqR, Bool.and_eq_true] at h
    rw [beqL_eq _ _ h.1, beqR_eq _ _ h.2]
end

abbrev Entry := Nat × List V × V × List (List V)

def memoP : List Entry → CallF
  | [], _, _ => none
  | (g, a, v, o) :: rest, f, args => if g = f then (if beqL a args then some (v, o) else memoP rest f args) else memoP rest f args

def orP (p q : CallF) : CallF := fun f args => match p f args with | some r => some r | none => q f args

section
variable {P : Program} {nf : Nm}

/-- What is known of each of these calls. -/
def Known (P : Program) (nf : Nm) : List Entry → Prop
  | [] => True
  | (f, a, v, o) :: rest => CallsOK P nf f a v o ∧ Known P nf rest

theorem memoP_ok : ∀ (tbl : List Entry), Known P nf tbl → ∀ f args v outs, memoP tbl f args = some (v, outs) → CallsOK P nf f args v outs
  | [], _, f, args, v, outs, h => by cases h
  | (g, a, u, o) :: rest, ⟨k1, k2⟩, f, args, v, outs, h => by
    simp only [memoP] at h
    split at h
    · rename_i e
      split at h
      · rename_i hb
        cases h
        rw [← e, ← beqL_eq _ _ hb]; exact k1
      · exact memoP_ok rest k2 f args v outs h
    · exact memoP_ok rest k2 f args v outs h

theorem orP_ok {p q : CallF} (hp : ∀ f args v outs, p f args = some (v, outs) → CallsOK P nf f args v outs) (hq : ∀ f args v outs, q f args = some (v, outs) → CallsOK P nf f args v outs) :
    ∀ f args v outs, orP p q f args = some (v, outs) → CallsOK P nf f args v outs := by
  intro f args v outs h
  unfold orP at h
  split at h
  · rename_i r hr; cases h; exact hp _ _ _ _ hr
  · exact hq _ _ _ _ h
end
end Fo
