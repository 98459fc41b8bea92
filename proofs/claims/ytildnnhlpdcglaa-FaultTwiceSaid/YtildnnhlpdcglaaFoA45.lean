/-
  seal.Sum of numbers that are not told, as an answer of the machine (part 45).
-/
import Derived.Test.YtildnnhlpdcglaaFoA44
namespace Fo
open Go
set_option linter.unusedVariables false
set_option linter.unusedSimpArgs false

section
variable {abi : Abi} {Γ Γ' : Nat → List V → V → List (List V) → Prop}

theorem Called.mono (hΓ : ∀ f a v o, Γ f a v o → Γ' f a v o) {f : Nat} {xs : List V} {h : Heap} {r : Res} (hc : Called abi Γ f xs h r) : Called abi Γ' f xs h r := by
  obtain ⟨a1, h1, bs, a2, ids, v, outs, h1, h2, h3, h4, h5⟩ := hc
  exact ⟨a1, _, bs, a2, ids, v, outs, h1, h2, hΓ _ _ _ _ h3, h4, h5⟩
theorem Comes.mono (hΓ : ∀ f a v o, Γ f a v o → Γ' f a v o) {k : K} {xs : List V} {h : Heap} {r : Res} (hc : Comes abi Γ k xs h r) : Comes abi Γ' k xs h r := by
  cases k <;> first | exact hc | exact Called.mono hΓ hc | skip
  simp only [Comes] at hc ⊢
  split at hc
  · exact Called.mono hΓ hc
  · exact hc.elim
theorem Ops.mono (hΓ : ∀ f a v o, Γ f a v o → Γ' f a v o) {l : List AOp} {σ σ' : St} (h : Ops abi Γ l σ σ') : Ops abi Γ' l σ σ' := by
  induction h with
  | nil σ => exact .nil σ
  | skip hg _ ih => exact .skip hg ih
  | cons r hg hr _ ih => exact .cons r hg (Comes.mono hΓ hr) ih
theorem DOps.mono (hΓ : ∀ f a v o, Γ f a v o → Γ' f a v o) {l : List AOp} {σ σ' : St} (h : DOps abi Γ l σ σ') : DOps abi Γ' l σ σ' := by
  induction h with
  | nil σ => exact .nil σ
  | skip hg _ ih => exact .skip hg ih
  | cons r hg hr ht hw hf _ ih => exact .cons r hg (Comes.mono hΓ hr) ht hw hf ih
theorem Ex.mono (hΓ : ∀ f a v o, Γ f a v o → Γ' f a v o) {c : AC} {σ σ' : St} {e : AE} (h : Ex abi Γ c σ e σ') : Ex abi Γ' c σ e σ' := by
  induction h with
  | skip σ => exact .skip σ
  | reg h => exact .reg (Ops.mono hΓ h)
  | drw h => exact .drw (DOps.mono hΓ h)
  | seq _ _ i1 i2 => exact .seq i1 i2
  | seqX _ ne i1 => exact .seqX i1 ne
  | cond t hc _ i1 => exact .cond t hc i1
  | block _ ne i1 => exact .block i1 ne
  | blockX _ i1 => exact .blockX i1
  | loop _ _ i1 i2 => exact .loop i1 i2
  | loopX _ ne i1 => exact .loopX i1 ne
  | exit i σ => exact .exit i σ
  | ret σ => exact .ret σ
theorem Runs.mono (hΓ : ∀ f a v o, Γ f a v o → Γ' f a v o) {F : AFun} {gv : Bool} {args : List V} {v : V} {outs : List (List V)} (h : Runs abi Γ F gv args v outs) : Runs abi Γ' F gv args v outs := by
  obtain ⟨e, σ, vs, h1, a, b, c⟩ := h
  exact ⟨e, σ, vs, h1, a, Ex.mono hΓ b, c⟩
end

theorem seal_ex (abi : Abi) (ns : List Int) : ∃ x : Int, 0 ≤ x ∧ x ≤ 4294967295 ∧ (ns.length ≤ 9223372036854775806 → Runs abi (fun _ _ _ _ => False) sealF true [.sl (intRows ns)] (.int .u32 x) []) := by
  by_cases h : ns.length ≤ 9223372036854775806
  · obtain ⟨x, a, b, c⟩ := seal_ok (abi := abi) (Γ := fun _ _ _ _ => False) ns h
    exact ⟨x, a, b, fun _ => c⟩
  · exact ⟨0, by omega, by omega, fun k => absurd k h⟩

/-- What seal.Sum tells. -/
noncomputable def sealN (abi : Abi) (ns : List Int) : Int := Classical.choose (seal_ex abi ns)
theorem sealN_ok (abi : Abi) (ns : List Int) : 0 ≤ sealN abi ns ∧ sealN abi ns ≤ 4294967295 ∧ (ns.length ≤ 9223372036854775806 → Runs abi (fun _ _ _ _ => False) sealF true [.sl (intRows ns)] (.int .u32 (sealN abi ns)) []) :=
  Classical.choose_spec (seal_ex abi ns)

/-- How the numbers of a row came. -/
def symRows : List (List V) → Option (List SE)
  | [] => some []
  | [x] :: rows =>
    match symOf x with
    | some (.i64, e, _, _) => (symRows rows).map (e :: ·)
    | _ => none
  | _ => none

def hasSym : List (List V) → Bool
  | [] => false
  | [.sym _ _ _ _ _ _] :: _ => true
  | _ :: rows => hasSym rows

/-- seal.Sum is function s. -/
def sealP (s : Nat) : CallF := fun f args =>
  if f = s then
    match args with
    | [.sl rows] => if hasSym rows && decide (rows.length ≤ 1000000) then (symRows rows).map fun l => (.sym .u32 (.app s l) 0 4294967295 1 0, []) else none
    | _ => none
  else none

section
variable {P : Program} {nf : Nm} {abi : Abi}

theorem symRows_ok {w : World} {M : Nat → Prop} {b n : Nat} : ∀ (rows : List (List V)) (l : List SE) (o : Nat), symRows rows = some l → DCR nf w M b n rows o → DCR nf w M b n (intRows (evalEs nf l)) o ∧ (evalEs nf l).length = rows.length
  | [], l, o, h, _ => by simp only [symRows, Option.some.injEq] at h; subst h; exact ⟨trivial, rfl⟩
  | [] :: _, l, o, h, _ => by simp [symRows] at h
  | (x :: y :: r) :: rows, l, o, h, _ => by simp [symRows] at h
  | [x] :: rows, l, o, h, ⟨h1, ⟨h2, ⟨c, hc, hd⟩, h3⟩, h4⟩ => by
    simp only [symRows] at h
    split at h
    · rename_i e lo hi hs
      simp only [Option.map_eq_some_iff] at h
      obtain ⟨m, hm, rfl⟩ := h
      obtain ⟨i1, i2⟩ := symRows_ok rows m (o + n) hm h4
      have := (symOf_ok (ι := ι00) hs (DC.toDV _ _ hd)).1
      exact ⟨⟨h1, ⟨rfl, ⟨c, hc, this⟩, trivial⟩, i1⟩, by simp [evalEs, i2]⟩
    · cases h

theorem sealP_ok (hE : Ent P nf abi) (hm : P.follows .mixedOrders = true) {s : Nat} (hφ : nf.φ s = sealN abi) {g : FuncId} {fn : Func} (hg : nf s = some g) (hf : P.funcs[g]? = some fn) (hk : chkFun P nf abi fn sealF = true) :
    ∀ f args v outs, sealP s f args = some (v, outs) → CallsOK P nf f args v outs := by
  intro f args v outs h
  unfold sealP at h
  split at h
  · rename_i e
    subst e
    split at h
    · rename_i rows
      split at h
      · rename_i hc
        simp only [Bool.and_eq_true, decide_eq_true_eq] at hc
        simp only [Option.map_eq_some_iff, Prod.mk.injEq] at h
        obtain ⟨l, hl, rfl, rfl⟩ := h
        have hN := sealN_ok abi (evalEs nf l)
        have hE2 : evalE nf (.app f l) = sealN abi (evalEs nf l) := by simp only [evalE]; rw [hφ]
        intro g' hg' w M0 vals S hM hS hnd hx
        obtain ⟨c, cs', O1, O2, e1, e2, ⟨hO, hd⟩, hr⟩ := hx
        obtain ⟨ad, cap, ec, hle, hz, hrow⟩ := hd
        have hlen : (evalEs nf l).length = rows.length := by
          rcases hrow with hrow | ⟨b, o, n, ha, m1, m2, m3⟩
          · subst hrow; simp only [symRows, Option.some.injEq] at hl; subst hl; rfl
          · exact (symRows_ok rows l o hl m3).2
        have hci := call_ok hE hm hg hf hk (Runs.mono (Γ' := CallsOK P nf) (fun _ _ _ _ h => h.elim) (hN.2.2 (by omega)))
        have hx' : XVL nf ι00 w (fun b => M0 b ∨ b ∈ S) [.sl (intRows (evalEs nf l))] vals S := by
          refine ⟨c, cs', O1, O2, e1, e2, ⟨hO, ad, cap, ?_, ?_, hz, ?_⟩, hr⟩
          · rw [ec]; simp [intRows, hlen]
          · simp [intRows, hlen]; exact hle
          · rcases hrow with hrow | ⟨b, o, n, ha, m1, m2, m3⟩
            · left; subst hrow; simp only [symRows, Option.some.injEq] at hl; subst hl; rfl
            · exact .inr ⟨b, o, n, ha, m1, m2, (symRows_ok rows l o hl m3).1⟩
        refine (hci g' hg' w M0 vals S hM hS hnd hx').mono fun e w' ⟨c', S', q1, q2, q3, q4, q5⟩ => ⟨c', S', q1, q2, q3, q4, ?_⟩
        obtain ⟨c1, cs1, O3, O4, z1, z2, ⟨z3, z4⟩, z5⟩ := q5
        have z4 : c1 = .int .u32 (sealN abi (evalEs nf l)) := z4
        have hp : ptrs [.sl rows] vals = ptrs [.sl (intRows (evalEs nf l))] vals := by rw [e1]; cases cs' <;> rfl
        exact ⟨c1, cs1, O3, O4, by rw [hp]; exact z1, z2, ⟨z3, by rw [z4, hE2], by rw [hE2]; exact hN.1, by rw [hE2]; exact hN.2.1, Int.emod_one _⟩, z5⟩
      · cases h
    · cases h
  · cases h
end
end Fo
