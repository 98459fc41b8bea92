/-
  The machine as a program (part 31).
-/
import Derived.Test.YtildnnhlpdcglaaFoA30
namespace Fo
open Go
set_option linter.unusedVariables false
set_option linter.unusedSimpArgs false

abbrev CallF := Nat → List V → Option (V × List (List V))

def calledF (abi : Abi) (call : CallF) (f : Nat) (args : List V) (h : Heap) : Option Res :=
  match pass1 (abi f) args h with
  | none => none
  | some (a1, h1, bs) =>
    match pass2 h1 (abi f) a1 with
    | none => none
    | some (a2, ids) =>
      match call f a2 with
      | none => none
      | some (v, outs) => if lensEq a2 outs then some ⟨v, h1, bs.zip outs, if ids.isEmpty then [] else if shows v || showsR outs then ids else []⟩ else none

def comesF (abi : Abi) (call : CallF) (k : K) (xs : List V) (h : Heap) : Option Res :=
  match k with
  | .call f => calledF abi call f xs h
  | .callv => match xs with | .fn f first caps :: args => calledF abi call f (first ++ (args ++ caps)) h | _ => none
  | .bin op => match comp (.bin op) xs h with | some r => some r | none => factRes abi.fx op xs h
  | k => comp k xs h

def runOps (abi : Abi) (call : CallF) (drawn : Bool) : List AOp → St → Option St
  | [], σ => some σ
  | o :: l, σ =>
    match guarded σ.env o.g with
    | none => none
    | some false => runOps abi call drawn l ⟨setEnv σ.env o.w o.d unit, σ.h⟩
    | some true =>
      match comesF abi call o.k (o.xs.map (ev σ.env)) σ.h with
      | none => none
      | some r =>
        if drawn then
          if (touch o.k (o.xs.map (ev σ.env)) σ.h).all (fun x => o.u.contains x) && (rOf abi o || (touchW o.k (o.xs.map (ev σ.env)) σ.h).all (fun x => o.uw.contains x)) && (!(rOf abi o) || r.fz.isEmpty) then runOps abi call drawn l (apply σ o r) else none
        else runOps abi call drawn l (apply σ o r)

def runC (abi : Abi) (call : CallF) : Nat → AC → St → Option (AE × St)
  | 0, _, _ => none
  | n + 1, c, σ =>
    match c with
    | .skip => some (.normal, σ)
    | .reg l => (runOps abi call false l σ).map fun s => (.normal, s)
    | .drw l => (runOps abi call true l σ).map fun s => (.normal, s)
    | .seq a b =>
      match runC abi call n a σ with
      | some (.normal, σ') => runC abi call n b σ'
      | r => r
    | .cond x a b =>
      match ev σ.env x with
      | .bool true => runC abi call n a σ
      | .bool false => runC abi call n b σ
      | _ => none
    | .block i a =>
      match runC abi call n a σ with
      | some (.exit j, σ') => if j = i then some (.normal, σ') else some (.exit j, σ')
      | r => r
    | .loop a =>
      match runC abi call n a σ with
      | some (.normal, σ') => runC abi call n (.loop a) σ'
      | r => r
    | .exit i => some (.exit i, σ)
    | .ret => some (.ret, σ)

def runBody (abi : Abi) (call : CallF) (n : Nat) (F : AFun) (gv : Bool) (args : List V) : Option (V × List (List V)) :=
  if args.length ≤ F.n then
    match runC abi call n F.code (enter args) with
    | some (.exit _, _) => none
    | some (_, σ) =>
      match readAll σ F.res with
      | none => none
      | some vs =>
        match outsOf args 0 σ.h with
        | none => none
        | some (outs, h1) => (match letGo gv h1 (told vs) with | some v => some (v, outs) | none => (letGo false h1 (told vs)).map fun v => (v, outs))
    | none => none
  else none

def runF (abi : Abi) (funs : Nat → Option (AFun × Bool)) (prim : CallF) (fuel : Nat) : Nat → CallF
  | 0, f, args => prim f args
  | n + 1, f, args =>
    match prim f args with
    | some r => some r
    | none =>
      match funs f with
      | none => none
      | some (F, gv) => runBody abi (runF abi funs prim fuel n) fuel F gv args

section
variable {abi : Abi} {Γ : Nat → List V → V → List (List V) → Prop} {call : CallF}

theorem calledF_ok (hc : ∀ f args v outs, call f args = some (v, outs) → Γ f args v outs) {f : Nat} {args : List V} {h : Heap} {r : Res} (hr : calledF abi call f args h = some r) : Called abi Γ f args h r := by
  unfold calledF at hr
  split at hr
  · cases hr
  · rename_i a1 h1 bs e1
    split at hr
    · cases hr
    · rename_i a2 ids e2
      split at hr
      · cases hr
      · rename_i v outs e3
        split at hr
        · rename_i e4
          cases hr
          exact ⟨a1, h1, bs, a2, ids, v, outs, e1, e2, hc _ _ _ _ e3, e4, rfl⟩
        · cases hr

theorem comesF_ok (hc : ∀ f args v outs, call f args = some (v, outs) → Γ f args v outs) {k : K} {xs : List V} {h : Heap} {r : Res} (hr : comesF abi call k xs h = some r) : Comes abi Γ k xs h r := by
  cases k <;> first | exact hr | exact calledF_ok hc hr | skip
  · simp only [comesF] at hr
    split at hr
    · rename_i q hq; cases hr; exact .inl hq
    · exact .inr hr
  · simp only [comesF] at hr
    split at hr
    · exact calledF_ok hc hr
    · cases hr

theorem runOps_ok (hc : ∀ f args v outs, call f args = some (v, outs) → Γ f args v outs) : ∀ (l : List AOp) (σ σ' : St), runOps abi call false l σ = some σ' → Ops abi Γ l σ σ'
  | [], σ, σ', h => by simp only [runOps, Option.some.injEq] at h; subst h; exact .nil _
  | o :: l, σ, σ', h => by
    simp only [runOps] at h
    split at h
    · cases h
    · rename_i hg; exact .skip hg (runOps_ok hc l _ _ h)
    · rename_i hg
      split at h
      · cases h
      · rename_i r hr
        simp only [Bool.false_eq_true, if_false] at h
        exact .cons r hg (comesF_ok hc hr) (runOps_ok hc l _ _ h)

theorem runDOps_ok (hc : ∀ f args v outs, call f args = some (v, outs) → Γ f args v outs) : ∀ (l : List AOp) (σ σ' : St), runOps abi call true l σ = some σ' → DOps abi Γ l σ σ'
  | [], σ, σ', h => by simp only [runOps, Option.some.injEq] at h; subst h; exact .nil _
  | o :: l, σ, σ', h => by
    simp only [runOps] at h
    split at h
    · cases h
    · rename_i hg; exact .skip hg (runDOps_ok hc l _ _ h)
    · rename_i hg
      split at h
      · cases h
      · rename_i r hr
        simp only [if_true] at h
        split at h
        · rename_i hq
          simp only [Bool.and_eq_true, List.all_eq_true, List.contains_eq_mem, decide_eq_true_eq, Bool.or_eq_true, Bool.not_eq_true', List.isEmpty_iff] at hq
          exact .cons r hg (comesF_ok hc hr) hq.1.1 (fun hn => hq.1.2.resolve_left (by rw [hn]; simp)) (fun hR => hq.2.resolve_left (by rw [hR]; simp)) (runDOps_ok hc l _ _ h)
        · cases h

theorem runC_ok (hc : ∀ f args v outs, call f args = some (v, outs) → Γ f args v outs) : ∀ (n : Nat) (c : AC) (σ : St) (e : AE) (σ' : St), runC abi call n c σ = some (e, σ') → Ex abi Γ c σ e σ'
  | 0, _, _, _, _, h => by simp [runC] at h
  | n + 1, c, σ, e, σ', h => by
    cases c <;> simp only [runC] at h
    case skip => cases h; exact .skip _
    case reg l =>
      simp only [Option.map_eq_some_iff] at h
      obtain ⟨s, hs, e1⟩ := h
      cases e1
      exact .reg (runOps_ok hc _ _ _ hs)
    case drw l =>
      simp only [Option.map_eq_some_iff] at h
      obtain ⟨s, hs, e1⟩ := h
      cases e1
      exact .drw (runDOps_ok hc _ _ _ hs)
    case seq a b =>
      split at h
      · rename_i s hs; exact .seq (runC_ok hc n _ _ _ _ hs) (runC_ok hc n _ _ _ _ h)
      · rename_i hne
        exact .seqX (runC_ok hc n _ _ _ _ h) (fun e1 => hne _ (by rw [h, e1]))
    case cond x a b =>
      split at h
      · rename_i hx; exact .cond true hx (runC_ok hc n _ _ _ _ h)
      · rename_i hx; exact .cond false hx (runC_ok hc n _ _ _ _ h)
      · cases h
    case block i a =>
      split at h
      · rename_i j s hs
        split at h
        · rename_i hj; subst hj; cases h; exact .blockX (runC_ok hc n _ _ _ _ hs)
        · rename_i hj; cases h; exact .block (runC_ok hc n _ _ _ _ hs) (fun e1 => hj (by cases e1; rfl))
      · rename_i hne
        exact .block (runC_ok hc n _ _ _ _ h) (fun e1 => hne _ _ (by rw [h, e1]))
    case loop a =>
      split at h
      · rename_i s hs; exact .loop (runC_ok hc n _ _ _ _ hs) (runC_ok hc n _ _ _ _ h)
      · rename_i hne
        exact .loopX (runC_ok hc n _ _ _ _ h) (fun e1 => hne _ (by rw [h, e1]))
    case exit i => cases h; exact .exit _ _
    case ret => cases h; exact .ret _

theorem runBody_ok (hc : ∀ f args v outs, call f args = some (v, outs) → Γ f args v outs) {n : Nat} {F : AFun} {gv : Bool} {args : List V} {v : V} {outs : List (List V)} (h : runBody abi call n F gv args = some (v, outs)) :
    ∃ gv, Runs abi Γ F gv args v outs := by
  unfold runBody at h
  split at h
  · rename_i hl
    split at h
    · cases h
    · rename_i e σ hne hr
      split at h
      · cases h
      · rename_i vs hv
        split at h
        · cases h
        · rename_i o h1 ho
          have he : e = .normal ∨ e = .ret := by
            cases e with
            | normal => exact .inl rfl
            | ret => exact .inr rfl
            | exit i => exact (hne i rfl).elim
          split at h
          · rename_i u hu
            cases h
            exact ⟨gv, e, σ, vs, h1, hl, runC_ok hc _ _ _ _ _ hr, he, hv, ho, hu⟩
          · simp only [Option.map_eq_some_iff, Prod.mk.injEq] at h
            obtain ⟨u, hu, rfl, rfl⟩ := h
            exact ⟨false, e, σ, vs, h1, hl, runC_ok hc _ _ _ _ _ hr, he, hv, ho, hu⟩
    · cases h
  · cases h
end

theorem runF_ok {P : Program} {nf : Nm} {abi : Abi} (hE : Ent P nf abi) (hm : P.follows .mixedOrders = true) {funs : Nat → Option (AFun × Bool)} {prim : CallF} {fuel : Nat}
    (hp : ∀ f args v outs, prim f args = some (v, outs) → CallsOK P nf f args v outs)
    (hf : ∀ f F gv, funs f = some (F, gv) → ∃ g fn, nf f = some g ∧ P.funcs[g]? = some fn ∧ chkFun P nf abi fn F = true) :
    ∀ (n f : Nat) (args : List V) (v : V) (outs : List (List V)), runF abi funs prim fuel n f args = some (v, outs) → CallsOK P nf f args v outs
  | 0, f, args, v, outs, h => hp _ _ _ _ h
  | n + 1, f, args, v, outs, h => by
    simp only [runF] at h
    split at h
    · rename_i r hr; cases h; exact hp _ _ _ _ hr
    · split at h
      · cases h
      · rename_i F gv hF
        obtain ⟨g, fn, h1, h2, h3⟩ := hf _ _ _ hF
        obtain ⟨gv', hr⟩ := runBody_ok (fun f args v outs hh => runF_ok hE hm hp hf n f args v outs hh) h
        exact call_ok hE hm h1 h2 h3 hr

end Fo
