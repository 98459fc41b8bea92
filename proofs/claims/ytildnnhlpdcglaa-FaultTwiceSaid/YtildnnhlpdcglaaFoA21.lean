/-
  Operations one behind the other, and code (part 21).
-/
import Derived.Test.YtildnnhlpdcglaaFoA20
namespace Fo
open Go
set_option linter.unusedVariables false
set_option linter.unusedSimpArgs false

section
variable (P : Program) (nf : Nm) (abi : Abi) (N : Nat)

/-- The machine's operation is the model's. -/
def OpSound (o : Oper) (ao : AOp) : Prop :=
  ∀ (B : Base) (ι : Iota) (M : Nat → Prop) (σ : St) (a : Act) (w : World), RelS nf B N ι M σ a w → ∀ r, Comes abi (CallsOK P nf) ao.k (ao.xs.map (ev σ.env)) σ.h r →
    ∀ (next : Act → World → Prop) (Q : Exit → Act → World → Prop), (∀ ι' M' a' w', RelS nf B N ι' M' (apply σ ao r) a' w' → next a' w') → o.wp P a w next Q

/-- Its place, and its guard. -/
structure OpFit (ops : Array Oper) (o : Oper) (ao : AOp) : Prop where
  dst : o.dst = if ao.w then some ao.d else none
  lt : ao.w = true → ao.d < N
  guard : match o.guard, ao.g with
    | none, none => True
    | some (j, want), some (t, want') => want = want' ∧ (ops[j]?).bind (·.dst) = some t ∧ t < N
    | _, _ => False
  sound : OpSound P nf abi N o ao

inductive OpsFit (ops : Array Oper) : List Nat → List AOp → Prop where
  | nil : OpsFit ops [] []
  | cons {i : Nat} {l : List Nat} {ao : AOp} {la : List AOp} {o : Oper} (ho : ops[i]? = some o) (h : OpFit P nf abi N ops o ao) (hl : OpsFit ops l la) : OpsFit ops (i :: l) (ao :: la)

variable {P nf abi N}

theorem guard_ok {B : Base} {ι : Iota} {M : Nat → Prop} {σ : St} {a : Act} {w : World} (rel : RelS nf B N ι M σ a w) {ops : Array Oper} {o : Oper} {ao : AOp} (hf : OpFit P nf abi N ops o ao) {b : Bool} (hg : guarded σ.env ao.g = some b) :
    Region.wanted o (yielded ops a.tmps) = b := by
  have h := hf.guard
  unfold Region.wanted
  cases hgo : o.guard with
  | none =>
    cases hga : ao.g with
    | none => rw [hga] at hg; simp [guarded] at hg; rw [← hg]
    | some x => rw [hgo, hga] at h; exact h.elim
  | some x =>
    obtain ⟨j, want⟩ := x
    cases hga : ao.g with
    | none => rw [hgo, hga] at h; exact h.elim
    | some y =>
      obtain ⟨t, want'⟩ := y
      rw [hgo, hga] at h
      obtain ⟨rfl, h2, h3⟩ := h
      rw [hga] at hg
      simp only [guarded] at hg
      have he := rel.env t
      have hlt : t < a.tmps.size := by rw [rel.size]; exact h3
      have hget : a.tmps[t]? = some (a.tmps.getD t undef) := by simp [Array.getD_eq_getD_getElem?, hlt]
      simp only [yielded, h2, Option.bind_some, hget]
      split at hg
      · rename_i bb hb
        rw [hb] at he
        have he : a.tmps.getD t undef = .bool bb := he
        rw [he]
        simp only [Option.some.injEq] at hg
        subst hg
        simp
      · rename_i hb
        rw [hb] at he
        obtain ⟨cs, e1, e2⟩ := he
        have e2 : cs = [] := e2
        subst e2
        rw [e1]
        simp only [Option.some.injEq] at hg
        subst hg
        simp
      · cases hg

theorem skip_rel {B : Base} {ι : Iota} {M : Nat → Prop} {σ : St} {a : Act} {w : World} (rel : RelS nf B N ι M σ a w) {wr : Bool} {d : Nat} (hd : wr = true → d < N) :
    RelS nf B N ι M ⟨setEnv σ.env wr d unit, σ.h⟩ (a.put (if wr then some d else none) undef) w :=
  ⟨rel.mem, setEnv_rel rel.env rel.size (fun hw => ⟨DV.unit, hd hw⟩), by rw [put_size]; exact rel.size, by rw [put_defers]; exact rel.defers⟩

theorem ops_ok {B : Base} {ops : Array Oper} {Q : Exit → Act → World → Prop} {la : List AOp} {σ σ' : St} (h : Ops abi (CallsOK P nf) la σ σ') :
    ∀ (l : List Nat) (ι : Iota) (M : Nat → Prop) (a : Act) (w : World), OpsFit P nf abi N ops l la → RelS nf B N ι M σ a w → (∀ ι' M' a' w', RelS nf B N ι' M' σ' a' w' → Q .normal a' w') → wpOps P ops Q l a w := by
  induction h with
  | nil σ =>
    intro l ι M a w hf rel hQ
    cases hf
    exact hQ _ _ _ _ rel
  | skip hg h ih =>
    intro l ι M a w hf rel hQ
    cases hf with
    | cons ho hf hl =>
      have hw := guard_ok rel hf hg
      simp only [wpOps, ho, hw, Bool.false_eq_true, if_false]
      refine ih _ ι M _ _ hl ?_ hQ
      rw [hf.dst]
      exact skip_rel rel hf.lt
  | cons r hg hr h ih =>
    intro l ι M a w hf rel hQ
    cases hf with
    | cons ho hf hl =>
      have hw := guard_ok rel hf hg
      simp only [wpOps, ho, hw, if_true]
      exact .inl (hf.sound B ι M _ a w rel r hr _ _ (fun ι' M' a' w' rel' => ih _ _ _ _ _ hl rel' hQ))

end
end Fo
