/-
  Functions looked at by a program (part 30).
-/
import Derived.Test.YtildnnhlpdcglaaFoA24
namespace Fo
open Go
set_option linter.unusedVariables false
set_option linter.unusedSimpArgs false

section
variable (P : Program) (nf : Nm) (abi : Abi) (N : Nat)

def chkDst (o : Oper) (ao : AOp) : Bool :=
  match o.dst with
  | some d => ao.w && d == ao.d && Nat.blt ao.d N
  | none => !ao.w
def chkGuard (ops : Array Oper) (o : Oper) (ao : AOp) : Bool :=
  match o.guard, ao.g with
  | none, none => true
  | some (j, want), some (t, want') => want == want' && (match ops[j]? with | some o' => (match o'.dst with | some d => d == t | none => false) | none => false) && Nat.blt t N
  | _, _ => false
def chkOps (ops : Array Oper) : List Oper → List AOp → Bool
  | [], [] => true
  | o :: l, ao :: la => chk P nf o ao && chkDst N o ao && chkGuard N ops o ao && chkOps ops l la
  | _, _ => false
def fits : AC → Code → Bool
  | .skip, .skip => true
  | .skip, .label _ => true
  | .reg la, .region _ ops false => chkOps P nf N ops ops.toList la
  | .drw la, .region _ ops true => chkOps P nf N ops ops.toList la && okDraw abi ops.toList la
  | .seq a b, .seq x y => fits a x && fits b y
  | .cond c a b, .cond o x y => checkOpd nf c o && fits a x && fits b y
  | .block i a, .block j x => i == j && fits a x
  | .loop a, .loop x => fits a x
  | .exit i, .exit j => i == j
  | .ret, .ret => true
  | _, _ => false
def chkRes : List ResultVar → List RV → Bool
  | [], [] => true
  | .tmp t :: l, .tmp t' :: m => t == t' && chkRes l m
  | .cell a t :: l, .cell a' n :: m => a == a' && okN P t n && chkRes l m
  | _, _ => false
def chkFun (fn : Func) (F : AFun) : Bool :=
  fn.ntmps == F.n && chkRes P fn.results.toList F.res && (match fn.body with | some c => fits P nf abi F.n F.code c | none => false)
end

section
variable {P : Program} {nf : Nm} {abi : Abi} {N : Nat}

theorem chkOps_ok (hE : Ent P nf abi) {ops : Array Oper} : ∀ (l : List Oper) (la : List AOp) (k : Nat), (∀ i o, l[i]? = some o → ops[k + i]? = some o) → chkOps P nf N ops l la = true → OpsFit P nf abi N ops (List.range' k l.length) la
  | [], [], k, _, _ => .nil
  | o :: l, ao :: la, k, hget, h => by
    simp only [chkOps, Bool.and_eq_true] at h
    obtain ⟨⟨⟨h1, h2⟩, h3⟩, h4⟩ := h
    have hd : o.dst = (if ao.w then some ao.d else none) ∧ (ao.w = true → ao.d < N) := by
      unfold chkDst at h2
      split at h2
      · rename_i d hd
        simp only [Bool.and_eq_true, beq_iff_eq] at h2
        obtain ⟨⟨h5, h6⟩, h7⟩ := h2
        rw [hd, h5, h6]
        exact ⟨rfl, fun _ => by simpa using h7⟩
      · rename_i hd
        simp only [Bool.not_eq_true'] at h2
        rw [hd, h2]
        exact ⟨rfl, fun h => by cases h⟩
    refine .cons (o := o) (by simpa using hget 0 o rfl) ⟨hd.1, hd.2, ?_, (chk_ok hE h1).sound hd.1 hd.2⟩ (chkOps_ok hE l la (k + 1) (fun i o' ho => by have := hget (i + 1) o' (by simpa using ho); rwa [show k + (i + 1) = k + 1 + i by omega] at this) h4)
    unfold chkGuard at h3
    split at h3
    · rename_i e1 e2; rw [e1, e2]; trivial
    · rename_i j want t want' e1 e2
      rw [e1, e2]
      simp only [Bool.and_eq_true, beq_iff_eq] at h3
      obtain ⟨⟨h5, h6⟩, h7⟩ := h3
      refine ⟨h5, ?_, by simpa using h7⟩
      split at h6
      · rename_i o' ho'
        split at h6
        · rename_i d hd'
          simp only [beq_iff_eq] at h6
          simp [ho', hd', h6]
        · cases h6
      · cases h6
    · cases h3
  | [], _ :: _, _, _, h => by simp [chkOps] at h
  | _ :: _, [], _, _, h => by simp [chkOps] at h

theorem ops_fit (hE : Ent P nf abi) {ops : Array Oper} {la : List AOp} (h : chkOps P nf N ops ops.toList la = true) : OpsFit P nf abi N ops (List.range ops.size) la := by
  have := chkOps_ok (abi := abi) hE ops.toList la 0 (fun i o ho => by simpa using ho) h
  rwa [List.range_eq_range', ← Array.length_toList]

theorem fits_ok (hE : Ent P nf abi) (hm : P.follows .mixedOrders = true) : ∀ (a : AC) (c : Code), fits P nf abi N a c = true → CodeFit P nf abi N a c
  | .skip, c, h => by cases c <;> simp only [fits, Bool.false_eq_true] at h <;> first | exact .skip | exact .label _
  | .reg la, c, h => by
    cases c <;> try (simp only [fits, Bool.false_eq_true] at h; done)
    rename_i id ops d
    cases d <;> simp only [fits, Bool.false_eq_true] at h
    exact .reg (ops_fit hE h)
  | .drw la, c, h => by
    cases c <;> try (simp only [fits, Bool.false_eq_true] at h; done)
    rename_i id ops d
    cases d <;> simp only [fits, Bool.false_eq_true, Bool.and_eq_true] at h
    exact .drw hm (ops_fit hE h.1) h.2
  | .seq a b, c, h => by
    cases c <;> simp only [fits, Bool.false_eq_true, Bool.and_eq_true] at h
    exact .seq (fits_ok hE hm a _ h.1) (fits_ok hE hm b _ h.2)
  | .cond x a b, c, h => by
    cases c <;> simp only [fits, Bool.false_eq_true, Bool.and_eq_true] at h
    exact .cond (fun B ι M σ ac w rel => opd_ok rel h.1.1) (fits_ok hE hm a _ h.1.2) (fits_ok hE hm b _ h.2)
  | .block i a, c, h => by
    cases c <;> simp only [fits, Bool.false_eq_true, Bool.and_eq_true, beq_iff_eq] at h
    obtain ⟨rfl, h⟩ := h
    exact .block (fits_ok hE hm a _ h)
  | .loop a, c, h => by
    cases c <;> simp only [fits, Bool.false_eq_true] at h
    exact .loop (fits_ok hE hm a _ h)
  | .exit i, c, h => by
    cases c <;> simp only [fits, Bool.false_eq_true, beq_iff_eq] at h
    subst h; exact .exit _
  | .ret, c, h => by
    cases c <;> simp only [fits, Bool.false_eq_true] at h
    exact .ret

theorem chkRes_ok : ∀ (l : List ResultVar) (m : List RV), chkRes P l m = true → ResFit P l m
  | [], [], _ => trivial
  | .tmp t :: l, .tmp t' :: m, h => by
    simp only [chkRes, Bool.and_eq_true, beq_iff_eq] at h
    exact ⟨h.1, chkRes_ok l m h.2⟩
  | .cell a t :: l, .cell a' n :: m, h => by
    simp only [chkRes, Bool.and_eq_true, beq_iff_eq] at h
    exact ⟨h.1.1, okN_ok h.1.2, chkRes_ok l m h.2⟩
  | [], _ :: _, h => by simp [chkRes] at h
  | .tmp _ :: _, [], h => by simp [chkRes] at h
  | .cell _ _ :: _, [], h => by simp [chkRes] at h
  | .tmp _ :: _, .cell _ _ :: _, h => by simp [chkRes] at h
  | .cell _ _ :: _, .tmp _ :: _, h => by simp [chkRes] at h

theorem chkFun_ok (hE : Ent P nf abi) (hm : P.follows .mixedOrders = true) {fn : Func} {F : AFun} (h : chkFun P nf abi fn F = true) : FunFit P nf abi fn F := by
  simp only [chkFun, Bool.and_eq_true, beq_iff_eq] at h
  obtain ⟨⟨h1, h2⟩, h3⟩ := h
  split at h3
  · rename_i c hc
    exact ⟨⟨c, hc, fits_ok hE hm _ _ h3⟩, h1, chkRes_ok _ _ h2⟩
  · cases h3

/-- A function that was looked at, run: it tells what it tells. -/
theorem call_ok (hE : Ent P nf abi) (hm : P.follows .mixedOrders = true) {f : Nat} {g : FuncId} {fn : Func} {F : AFun} (hnf : nf f = some g) (hf : P.funcs[g]? = some fn) (h : chkFun P nf abi fn F = true)
    {gv : Bool} {args : List V} {v : V} {outs : List (List V)} (hr : Runs abi (CallsOK P nf) F gv args v outs) : CallsOK P nf f args v outs :=
  runs_ok hf (chkFun_ok hE hm h) hnf hr

end
end Fo
