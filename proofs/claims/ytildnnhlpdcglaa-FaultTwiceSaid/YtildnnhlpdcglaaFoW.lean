/-
  The machine without fuel, its words, and the plain data.
-/
import Derived.Test.YtildnnhlpdcglaaFoA43
import Derived.Test.YtildnnhlpdcglaaFoA44
namespace Fo
open Go
set_option linter.unusedVariables false
set_option linter.unusedSimpArgs false

def CallF.le (c d : CallF) : Prop := ∀ f a r, c f a = some r → d f a = some r

section
variable {abi : Abi} {c d : CallF}

theorem calledF_mono (h : CallF.le c d) {f : Nat} {args : List V} {hp : Heap} {r : Res} (e : calledF abi c f args hp = some r) : calledF abi d f args hp = some r := by
  unfold calledF at e ⊢
  split at e
  · cases e
  · split at e
    · cases e
    · split at e
      · cases e
      · rename_i hc
        simp only [h _ _ _ hc]
        exact e
theorem comesF_mono (h : CallF.le c d) {k : K} {xs : List V} {hp : Heap} {r : Res} (e : comesF abi c k xs hp = some r) : comesF abi d k xs hp = some r := by
  unfold comesF at e ⊢
  split at e
  · exact calledF_mono h e
  · split at e
    · exact calledF_mono h e
    · cases e
  · exact e
  · exact e
theorem runOps_mono (h : CallF.le c d) (w : Bool) : ∀ (l : List AOp) (σ σ' : St), runOps abi c w l σ = some σ' → runOps abi d w l σ = some σ'
  | [], σ, σ', e => e
  | o :: l, σ, σ', e => by
    simp only [runOps] at e ⊢
    split at e
    · cases e
    · exact runOps_mono h w l _ _ e
    · split at e
      · cases e
      · rename_i r hr
        simp only [comesF_mono h hr]
        cases w with
        | true =>
          simp only [if_true] at e ⊢
          split at e
          · rename_i h2; rw [if_pos h2]; exact runOps_mono h true l _ _ e
          · cases e
        | false => exact runOps_mono h false l _ _ e
theorem runC_mono (h : CallF.le c d) : ∀ (n m : Nat) (a : AC) (σ : St) (r : AE × St), n ≤ m → runC abi c n a σ = some r → runC abi d m a σ = some r
  | 0, _, _, _, _, _, e => by simp [runC] at e
  | n + 1, 0, _, _, _, hm, _ => by omega
  | n + 1, m + 1, a, σ, r, hm, e => by
    have hm : n ≤ m := by omega
    cases a <;> simp only [runC] at e ⊢ <;> try exact e
    case reg l =>
      simp only [Option.map_eq_some_iff] at e ⊢
      obtain ⟨s, hs, e⟩ := e
      exact ⟨s, runOps_mono h _ _ _ _ hs, e⟩
    case drw l =>
      simp only [Option.map_eq_some_iff] at e ⊢
      obtain ⟨s, hs, e⟩ := e
      exact ⟨s, runOps_mono h _ _ _ _ hs, e⟩
    case seq x y =>
      cases hx : runC abi c n x σ with
      | none => rw [hx] at e; cases e
      | some q =>
        rw [hx] at e
        rw [runC_mono h n m x σ q hm hx]
        obtain ⟨q1, q2⟩ := q
        cases q1 <;> try exact e
        exact runC_mono h n m y _ _ hm e
    case cond x y z =>
      split at e
      · exact runC_mono h n m _ _ _ hm e
      · exact runC_mono h n m _ _ _ hm e
      · cases e
    case block i x =>
      cases hx : runC abi c n x σ with
      | none => rw [hx] at e; cases e
      | some q => rw [hx] at e; rw [runC_mono h n m x σ q hm hx]; exact e
    case loop x =>
      cases hx : runC abi c n x σ with
      | none => rw [hx] at e; cases e
      | some q =>
        rw [hx] at e
        rw [runC_mono h n m x σ q hm hx]
        obtain ⟨q1, q2⟩ := q
        cases q1 <;> try exact e
        exact runC_mono h n m _ _ _ hm e
theorem runBody_mono (h : CallF.le c d) {n m : Nat} (hm : n ≤ m) {F : AFun} {gv : Bool} {args : List V} {r : V × List (List V)} (e : runBody abi c n F gv args = some r) : runBody abi d m F gv args = some r := by
  unfold runBody at e ⊢
  split at e
  · rename_i hl
    rw [if_pos hl]
    cases hx : runC abi c n F.code (enter args) with
    | none => rw [hx] at e; cases e
    | some q => rw [hx] at e; rw [runC_mono h n m _ _ q hm hx]; exact e
  · cases e
theorem runF_mono {funs : Nat → Option (AFun × Bool)} {prim : CallF} {fuel fuel' : Nat} (hf : fuel ≤ fuel') : ∀ (n m : Nat), n ≤ m → CallF.le (runF abi funs prim fuel n) (runF abi funs prim fuel' m)
  | 0, 0, _ => fun f a r e => e
  | 0, m + 1, _ => fun f a r e => by
    have e : prim f a = some r := e
    simp only [runF, e]
  | n + 1, 0, hm => by omega
  | n + 1, m + 1, hm => fun f a r e => by
    simp only [runF] at e ⊢
    split at e
    · exact e
    · split at e
      · cases e
      · exact runBody_mono (runF_mono hf n m (by omega)) hf e
end

section
variable {abi : Abi} {ch : Nat → CallF} {lim : CallF}

theorem calledF_cont (hl : ∀ f a r, lim f a = some r → ∃ n, ch n f a = some r) {f : Nat} {args : List V} {hp : Heap} {r : Res} (e : calledF abi lim f args hp = some r) : ∃ n, calledF abi (ch n) f args hp = some r := by
  unfold calledF at e ⊢
  split at e
  · cases e
  · split at e
    · cases e
    · split at e
      · cases e
      · rename_i hc
        obtain ⟨n, hn⟩ := hl _ _ _ hc
        refine ⟨n, ?_⟩
        simp only [hn]
        exact e
theorem comesF_cont (hl : ∀ f a r, lim f a = some r → ∃ n, ch n f a = some r) {k : K} {xs : List V} {hp : Heap} {r : Res} (e : comesF abi lim k xs hp = some r) : ∃ n, comesF abi (ch n) k xs hp = some r := by
  unfold comesF at e ⊢
  split at e
  · exact calledF_cont hl e
  · split at e
    · exact calledF_cont hl e
    · cases e
  · exact ⟨0, e⟩
  · exact ⟨0, e⟩
theorem runOps_cont (hm : ∀ n m, n ≤ m → CallF.le (ch n) (ch m)) (hl : ∀ f a r, lim f a = some r → ∃ n, ch n f a = some r) (w : Bool) : ∀ (l : List AOp) (σ σ' : St), runOps abi lim w l σ = some σ' → ∃ n, runOps abi (ch n) w l σ = some σ'
  | [], σ, σ', e => ⟨0, e⟩
  | o :: l, σ, σ', e => by
    simp only [runOps] at e ⊢
    split at e
    · cases e
    · exact runOps_cont hm hl w l _ _ e
    · split at e
      · cases e
      · rename_i r hr
        obtain ⟨n, hn⟩ := comesF_cont hl hr
        cases w with
        | true =>
          simp only [if_true] at e
          split at e
          · rename_i h2
            obtain ⟨m, hq⟩ := runOps_cont hm hl true l _ _ e
            refine ⟨max n m, ?_⟩
            simp only [comesF_mono (hm n (max n m) (by omega)) hn, if_true]
            rw [if_pos h2]
            exact runOps_mono (hm m _ (by omega)) _ _ _ _ hq
          · cases e
        | false =>
          obtain ⟨m, hq⟩ := runOps_cont hm hl false l _ _ e
          refine ⟨max n m, ?_⟩
          simp only [comesF_mono (hm n (max n m) (by omega)) hn]
          exact runOps_mono (hm m _ (by omega)) _ _ _ _ hq
theorem runC_cont (hm : ∀ n m, n ≤ m → CallF.le (ch n) (ch m)) (hl : ∀ f a r, lim f a = some r → ∃ n, ch n f a = some r) : ∀ (n : Nat) (a : AC) (σ : St) (r : AE × St), runC abi lim n a σ = some r → ∃ k, runC abi (ch k) n a σ = some r
  | 0, _, _, _, e => by simp [runC] at e
  | n + 1, a, σ, r, e => by
    cases a <;> simp only [runC] at e ⊢ <;> try exact ⟨0, e⟩
    case reg l =>
      simp only [Option.map_eq_some_iff] at e ⊢
      obtain ⟨s, hs, e⟩ := e
      obtain ⟨k, hk⟩ := runOps_cont hm hl _ _ _ _ hs
      exact ⟨k, s, hk, e⟩
    case drw l =>
      simp only [Option.map_eq_some_iff] at e ⊢
      obtain ⟨s, hs, e⟩ := e
      obtain ⟨k, hk⟩ := runOps_cont hm hl _ _ _ _ hs
      exact ⟨k, s, hk, e⟩
    case seq x y =>
      cases hx : runC abi lim n x σ with
      | none => rw [hx] at e; cases e
      | some q =>
        rw [hx] at e
        obtain ⟨k, hk⟩ := runC_cont hm hl n x σ q hx
        obtain ⟨q1, q2⟩ := q
        cases q1 <;> try exact ⟨k, by rw [hk]; exact e⟩
        obtain ⟨j, hj⟩ := runC_cont hm hl n y _ _ e
        refine ⟨max k j, ?_⟩
        rw [runC_mono (hm k _ (by omega)) n n _ _ _ (Nat.le_refl _) hk]
        exact runC_mono (hm j _ (by omega)) n n _ _ _ (Nat.le_refl _) hj
    case cond x y z =>
      split at e
      · exact runC_cont hm hl n _ _ _ e
      · exact runC_cont hm hl n _ _ _ e
      · cases e
    case block i x =>
      cases hx : runC abi lim n x σ with
      | none => rw [hx] at e; cases e
      | some q =>
        rw [hx] at e
        obtain ⟨k, hk⟩ := runC_cont hm hl n x σ q hx
        exact ⟨k, by rw [hk]; exact e⟩
    case loop x =>
      cases hx : runC abi lim n x σ with
      | none => rw [hx] at e; cases e
      | some q =>
        rw [hx] at e
        obtain ⟨k, hk⟩ := runC_cont hm hl n x σ q hx
        obtain ⟨q1, q2⟩ := q
        cases q1 <;> try exact ⟨k, by rw [hk]; exact e⟩
        obtain ⟨j, hj⟩ := runC_cont hm hl n _ _ _ e
        refine ⟨max k j, ?_⟩
        rw [runC_mono (hm k _ (by omega)) n n _ _ _ (Nat.le_refl _) hk]
        exact runC_mono (hm j _ (by omega)) n n _ _ _ (Nat.le_refl _) hj
end

/-- What a call comes to, in the end. -/
def Comes2 (abi : Abi) (funs : Nat → Option (AFun × Bool)) (prim : CallF) (f : Nat) (a : List V) (r : V × List (List V)) : Prop := ∃ n, runF abi funs prim n n f a = some r
open Classical in
noncomputable def cw (abi : Abi) (funs : Nat → Option (AFun × Bool)) (prim : CallF) : CallF := fun f a => if h : ∃ r, Comes2 abi funs prim f a r then some (choose h) else none

section
variable {abi : Abi} {funs : Nat → Option (AFun × Bool)} {prim : CallF}

theorem stage_le (n m : Nat) (h : n ≤ m) : CallF.le (runF abi funs prim n n) (runF abi funs prim m m) := runF_mono h n m h

theorem cw_iff {f : Nat} {a : List V} {r : V × List (List V)} : cw abi funs prim f a = some r ↔ ∃ n, runF abi funs prim n n f a = some r := by
  unfold cw
  constructor
  · intro h
    split at h
    · rename_i hq
      cases h
      exact Classical.choose_spec hq
    · cases h
  · intro ⟨n, hn⟩
    have hq : ∃ r, Comes2 abi funs prim f a r := ⟨r, n, hn⟩
    rw [dif_pos hq]
    obtain ⟨m, hm⟩ := Classical.choose_spec hq
    have e1 := stage_le n (max n m) (by omega) _ _ _ hn
    have e2 := stage_le m (max n m) (by omega) _ _ _ hm
    rw [e1] at e2
    exact e2.symm

theorem cw_prim {f : Nat} {a : List V} {r : V × List (List V)} (h : prim f a = some r) : cw abi funs prim f a = some r := cw_iff.2 ⟨0, h⟩
theorem cw_body {f : Nat} {a : List V} {r : V × List (List V)} {F : AFun} {gv : Bool} {n : Nat} (hp : prim f a = none) (hf : funs f = some (F, gv)) (h : runBody abi (cw abi funs prim) n F gv a = some r) : cw abi funs prim f a = some r := by
  have : ∃ k, runBody abi (runF abi funs prim k k) n F gv a = some r := by
    unfold runBody at h ⊢
    split at h
    · rename_i hl
      simp only [if_pos hl]
      cases hx : runC abi (cw abi funs prim) n F.code (enter a) with
      | none => rw [hx] at h; cases h
      | some q =>
        rw [hx] at h
        obtain ⟨k, hk⟩ := runC_cont (ch := fun n => runF abi funs prim n n) stage_le (fun f a r e => cw_iff.1 e) n _ _ _ hx
        exact ⟨k, by simp only [hk]; exact h⟩
    · cases h
  obtain ⟨k, hk⟩ := this
  refine cw_iff.2 ⟨max k n + 1, ?_⟩
  simp only [runF, hp, hf]
  exact runBody_mono (runF_mono (by omega) k _ (by omega)) (by omega) hk

theorem cw_ok {P : Program} {nf : Nm} (hE : Ent P nf abi) (hm : P.follows .mixedOrders = true)
    (hp : ∀ f args v outs, prim f args = some (v, outs) → CallsOK P nf f args v outs)
    (hf : ∀ f F gv, funs f = some (F, gv) → ∃ g fn, nf f = some g ∧ P.funcs[g]? = some fn ∧ chkFun P nf abi fn F = true)
    {f : Nat} {args : List V} {v : V} {outs : List (List V)} (h : cw abi funs prim f args = some (v, outs)) : CallsOK P nf f args v outs := by
  obtain ⟨n, hn⟩ := cw_iff.1 h
  exact runF_ok hE hm hp hf n f args v outs hn
end

/-- Code, and what holds behind it. -/
def Wp (abi : Abi) (call : CallF) (c : AC) (σ : St) (Q : AE → St → Prop) : Prop := ∃ n e σ', runC abi call n c σ = some (e, σ') ∧ Q e σ'
def WpO (abi : Abi) (call : CallF) (d : Bool) (l : List AOp) (σ : St) (R : St → Prop) : Prop := ∃ σ', runOps abi call d l σ = some σ' ∧ R σ'
def okD (abi : Abi) (d : Bool) (o : AOp) (xs : List V) (h : Heap) (r : Res) : Bool :=
  !d || ((touch o.k xs h).all (fun x => o.u.contains x) && (rOf abi o || (touchW o.k xs h).all (fun x => o.uw.contains x)) && (!(rOf abi o) || r.fz.isEmpty))
def seqK (abi : Abi) (call : CallF) (b : AC) (Q : AE → St → Prop) : AE → St → Prop
  | .normal, σ => Wp abi call b σ Q
  | e, σ => Q e σ
def blockK (i : Nat) (Q : AE → St → Prop) : AE → St → Prop
  | .exit j, σ => if j = i then Q .normal σ else Q (.exit j) σ
  | e, σ => Q e σ
def loopK (I : St → Prop) (Q : AE → St → Prop) : AE → St → Prop
  | .normal, σ => I σ
  | e, σ => Q e σ

section
variable {abi : Abi} {call : CallF}

theorem le_refl' : CallF.le call call := fun _ _ _ h => h
theorem fuel_mono {n m : Nat} {a : AC} {σ : St} {r : AE × St} (h : n ≤ m) (e : runC abi call n a σ = some r) : runC abi call m a σ = some r := runC_mono le_refl' n m a σ r h e

@[simp] theorem seqK_n (b : AC) (Q : AE → St → Prop) (σ : St) : seqK abi call b Q .normal σ = Wp abi call b σ Q := rfl
@[simp] theorem seqK_e (b : AC) (Q : AE → St → Prop) (σ : St) (i : Nat) : seqK abi call b Q (.exit i) σ = Q (.exit i) σ := rfl
@[simp] theorem seqK_r (b : AC) (Q : AE → St → Prop) (σ : St) : seqK abi call b Q .ret σ = Q .ret σ := rfl
@[simp] theorem blockK_n (i : Nat) (Q : AE → St → Prop) (σ : St) : blockK i Q .normal σ = Q .normal σ := rfl
@[simp] theorem blockK_e (i j : Nat) (Q : AE → St → Prop) (σ : St) : blockK i Q (.exit j) σ = if j = i then Q .normal σ else Q (.exit j) σ := rfl
@[simp] theorem blockK_r (i : Nat) (Q : AE → St → Prop) (σ : St) : blockK i Q .ret σ = Q .ret σ := rfl
@[simp] theorem loopK_n (I : St → Prop) (Q : AE → St → Prop) (σ : St) : loopK I Q .normal σ = I σ := rfl
@[simp] theorem loopK_e (i : Nat) (I : St → Prop) (Q : AE → St → Prop) (σ : St) : loopK I Q (.exit i) σ = Q (.exit i) σ := rfl
@[simp] theorem loopK_r (I : St → Prop) (Q : AE → St → Prop) (σ : St) : loopK I Q .ret σ = Q .ret σ := rfl

theorem wp_mono {c : AC} {σ : St} {Q R : AE → St → Prop} (h : Wp abi call c σ Q) (hq : ∀ e σ', Q e σ' → R e σ') : Wp abi call c σ R := by
  obtain ⟨n, e, σ', h1, h2⟩ := h
  exact ⟨n, e, σ', h1, hq _ _ h2⟩

theorem wp_skip {σ : St} {Q : AE → St → Prop} : Wp abi call .skip σ Q = Q .normal σ := by
  apply propext
  constructor
  · intro ⟨n, e, σ', h1, h2⟩
    cases n <;> simp only [runC, Option.some.injEq, Prod.mk.injEq, reduceCtorEq] at h1
    obtain ⟨rfl, rfl⟩ := h1; exact h2
  · intro h; exact ⟨1, _, _, rfl, h⟩
theorem wp_ret {σ : St} {Q : AE → St → Prop} : Wp abi call .ret σ Q = Q .ret σ := by
  apply propext
  constructor
  · intro ⟨n, e, σ', h1, h2⟩
    cases n <;> simp only [runC, Option.some.injEq, Prod.mk.injEq, reduceCtorEq] at h1
    obtain ⟨rfl, rfl⟩ := h1; exact h2
  · intro h; exact ⟨1, _, _, rfl, h⟩
theorem wp_exit {i : Nat} {σ : St} {Q : AE → St → Prop} : Wp abi call (.exit i) σ Q = Q (.exit i) σ := by
  apply propext
  constructor
  · intro ⟨n, e, σ', h1, h2⟩
    cases n <;> simp only [runC, Option.some.injEq, Prod.mk.injEq, reduceCtorEq] at h1
    obtain ⟨rfl, rfl⟩ := h1; exact h2
  · intro h; exact ⟨1, _, _, rfl, h⟩
theorem wp_reg {l : List AOp} {σ : St} {Q : AE → St → Prop} : Wp abi call (.reg l) σ Q = WpO abi call false l σ (Q .normal) := by
  apply propext
  constructor
  · intro ⟨n, e, σ', h1, h2⟩
    cases n <;> simp only [runC, Option.map_eq_some_iff, Prod.mk.injEq, reduceCtorEq] at h1
    obtain ⟨s, hs, rfl, rfl⟩ := h1; exact ⟨s, hs, h2⟩
  · intro ⟨s, hs, h⟩; exact ⟨1, .normal, s, by simp [runC, hs], h⟩
theorem wp_drw {l : List AOp} {σ : St} {Q : AE → St → Prop} : Wp abi call (.drw l) σ Q = WpO abi call true l σ (Q .normal) := by
  apply propext
  constructor
  · intro ⟨n, e, σ', h1, h2⟩
    cases n <;> simp only [runC, Option.map_eq_some_iff, Prod.mk.injEq, reduceCtorEq] at h1
    obtain ⟨s, hs, rfl, rfl⟩ := h1; exact ⟨s, hs, h2⟩
  · intro ⟨s, hs, h⟩; exact ⟨1, .normal, s, by simp [runC, hs], h⟩
theorem wp_seq {a b : AC} {σ : St} {Q : AE → St → Prop} : Wp abi call (.seq a b) σ Q = Wp abi call a σ (seqK abi call b Q) := by
  apply propext
  constructor
  · intro ⟨n, e, σ', h1, h2⟩
    cases n <;> simp only [runC, reduceCtorEq] at h1
    rename_i n
    cases hx : runC abi call n a σ with
    | none => rw [hx] at h1; cases h1
    | some q =>
      rw [hx] at h1
      obtain ⟨q1, q2⟩ := q
      refine ⟨n, q1, q2, hx, ?_⟩
      cases q1 with
      | normal => exact ⟨n, e, σ', h1, h2⟩
      | exit i => cases h1; exact h2
      | ret => cases h1; exact h2
  · intro ⟨n, e, σ', h1, h2⟩
    cases e with
    | normal =>
      obtain ⟨m, e2, σ2, h3, h4⟩ := h2
      refine ⟨max n m + 1, e2, σ2, ?_, h4⟩
      simp only [runC, fuel_mono (show n ≤ max n m by omega) h1]
      exact fuel_mono (by omega) h3
    | exit i => exact ⟨n + 1, _, _, by simp only [runC, h1], h2⟩
    | ret => exact ⟨n + 1, _, _, by simp only [runC, h1], h2⟩
theorem wp_cond {x : AOpd} {a b : AC} {σ : St} {Q : AE → St → Prop} : Wp abi call (.cond x a b) σ Q = ∃ t, ev σ.env x = .bool t ∧ (if t then Wp abi call a σ Q else Wp abi call b σ Q) := by
  apply propext
  constructor
  · intro ⟨n, e, σ', h1, h2⟩
    cases n <;> simp only [runC, reduceCtorEq] at h1
    rename_i n
    split at h1
    · rename_i hx; exact ⟨true, hx, n, e, σ', h1, h2⟩
    · rename_i hx; exact ⟨false, hx, n, e, σ', h1, h2⟩
    · cases h1
  · intro ⟨t, hx, h⟩
    cases t with
    | true => obtain ⟨n, e, σ', h1, h2⟩ := h; exact ⟨n + 1, e, σ', by simp only [runC, hx]; exact h1, h2⟩
    | false => obtain ⟨n, e, σ', h1, h2⟩ := h; exact ⟨n + 1, e, σ', by simp only [runC, hx]; exact h1, h2⟩
theorem wp_block {i : Nat} {a : AC} {σ : St} {Q : AE → St → Prop} : Wp abi call (.block i a) σ Q = Wp abi call a σ (blockK i Q) := by
  apply propext
  constructor
  · intro ⟨n, e, σ', h1, h2⟩
    cases n <;> simp only [runC, reduceCtorEq] at h1
    rename_i n
    cases hx : runC abi call n a σ with
    | none => rw [hx] at h1; cases h1
    | some q =>
      rw [hx] at h1
      obtain ⟨q1, q2⟩ := q
      refine ⟨n, q1, q2, hx, ?_⟩
      cases q1 with
      | normal => cases h1; exact h2
      | exit j =>
        simp only at h1
        rw [blockK_e]
        split at h1
        · rename_i hj; rw [if_pos hj]; cases h1; exact h2
        · rename_i hj; rw [if_neg hj]; cases h1; exact h2
      | ret => cases h1; exact h2
  · intro ⟨n, e, σ', h1, h2⟩
    cases e with
    | normal => exact ⟨n + 1, _, _, by simp only [runC, h1], h2⟩
    | exit j =>
      rw [blockK_e] at h2
      split at h2
      · rename_i hj; exact ⟨n + 1, _, _, by simp only [runC, h1, if_pos hj], h2⟩
      · rename_i hj; exact ⟨n + 1, _, _, by simp only [runC, h1, if_neg hj], h2⟩
    | ret => exact ⟨n + 1, _, _, by simp only [runC, h1], h2⟩
theorem wp_loop {a : AC} {σ : St} {Q : AE → St → Prop} (h : Wp abi call a σ (loopK (fun σ' => Wp abi call (.loop a) σ' Q) Q)) : Wp abi call (.loop a) σ Q := by
  obtain ⟨n, e, σ', h1, h2⟩ := h
  cases e with
  | normal =>
    obtain ⟨m, e2, σ2, h3, h4⟩ := h2
    refine ⟨max n m + 1, e2, σ2, ?_, h4⟩
    simp only [runC, fuel_mono (show n ≤ max n m by omega) h1]
    exact fuel_mono (by omega) h3
  | exit i => exact ⟨n + 1, _, _, by simp only [runC, h1], h2⟩
  | ret => exact ⟨n + 1, _, _, by simp only [runC, h1], h2⟩
/-- A loop with what holds ahead of each go. -/
theorem wp_inv {a : AC} {σ : St} {Q : AE → St → Prop} (N : Nat) (I : Nat → St → Prop) (h0 : I 0 σ) (hs : ∀ k σ, k < N → I k σ → Wp abi call a σ (loopK (I (k + 1)) Q)) (he : ∀ σ, I N σ → Wp abi call a σ (loopK (fun _ => False) Q)) :
    Wp abi call (.loop a) σ Q := by
  have : ∀ m k σ, k + m = N → I k σ → Wp abi call (.loop a) σ Q := by
    intro m
    induction m with
    | zero =>
      intro k σ hk hi
      refine wp_loop (wp_mono (he σ (by rw [← hk]; exact hi)) ?_)
      intro e σ' hq
      cases e with
      | normal => exact hq.elim
      | exit i => exact hq
      | ret => exact hq
    | succ m ih =>
      intro k σ hk hi
      refine wp_loop (wp_mono (hs k σ (by omega) hi) ?_)
      intro e σ' hq
      cases e with
      | normal => exact ih (k + 1) σ' (by omega) hq
      | exit i => exact hq
      | ret => exact hq
  exact this N 0 σ (by omega) h0
/-- A loop with what holds ahead of each go, and a number that falls. -/
theorem wp_down {a : AC} {σ : St} {Q : AE → St → Prop} (I : Nat → St → Prop) (N : Nat) (h0 : I N σ) (hs : ∀ n σ, I n σ → Wp abi call a σ (loopK (fun σ' => ∃ m, m < n ∧ I m σ') Q)) :
    Wp abi call (.loop a) σ Q := by
  have : ∀ n σ, I n σ → Wp abi call (.loop a) σ Q := by
    intro n
    induction n using Nat.strongRecOn with
    | ind n ih =>
      intro σ hi
      refine wp_loop (wp_mono (hs n σ hi) ?_)
      intro e σ' hq
      cases e with
      | normal => obtain ⟨m, hm, hi'⟩ := hq; exact ih m hm σ' hi'
      | exit i => exact hq
      | ret => exact hq
  exact this N σ h0

/-- What holds between two pieces of code. -/
theorem wp_cut {a b : AC} {σ : St} {Q : AE → St → Prop} (J : St → Prop) (h1 : Wp abi call a σ (fun e σ' => e = .normal ∧ J σ')) (h2 : ∀ σ', J σ' → Wp abi call b σ' Q) : Wp abi call (.seq a b) σ Q := by
  rw [wp_seq]
  refine wp_mono h1 ?_
  rintro e σ' ⟨rfl, hj⟩
  exact h2 σ' hj
theorem wpo_nil {d : Bool} {σ : St} {R : St → Prop} : WpO abi call d [] σ R = R σ := by
  apply propext
  constructor
  · intro ⟨s, hs, h⟩; simp only [runOps, Option.some.injEq] at hs; subst hs; exact h
  · intro h; exact ⟨σ, rfl, h⟩
theorem wpo_cons {d : Bool} {o : AOp} {l : List AOp} {σ : St} {R : St → Prop} : WpO abi call d (o :: l) σ R = ((guarded σ.env o.g = some false ∧ WpO abi call d l ⟨setEnv σ.env o.w o.d unit, σ.h⟩ R) ∨
    (guarded σ.env o.g = some true ∧ ∃ r, comesF abi call o.k (o.xs.map (ev σ.env)) σ.h = some r ∧ okD abi d o (o.xs.map (ev σ.env)) σ.h r = true ∧ WpO abi call d l (apply σ o r) R)) := by
  apply propext
  unfold WpO
  constructor
  · intro ⟨s, hs, h⟩
    simp only [runOps] at hs
    split at hs
    · cases hs
    · rename_i hg; exact .inl ⟨hg, s, hs, h⟩
    · rename_i hg
      split at hs
      · cases hs
      · rename_i r hr
        refine .inr ⟨hg, r, hr, ?_⟩
        cases d with
        | false => exact ⟨rfl, s, hs, h⟩
        | true =>
          simp only [if_true] at hs
          split at hs
          · rename_i hq; exact ⟨by simpa [okD] using hq, s, hs, h⟩
          · cases hs
  · rintro (⟨hg, s, hs, h⟩ | ⟨hg, r, hr, hd, s, hs, h⟩)
    · exact ⟨s, by simp only [runOps, hg]; exact hs, h⟩
    · refine ⟨s, ?_, h⟩
      simp only [runOps, hg, hr]
      cases d with
      | false => exact hs
      | true =>
        simp only [okD, Bool.not_true, Bool.false_or] at hd
        rw [if_pos rfl, if_pos hd]; exact hs
/-- What a function tells behind its code. -/
def fin (res : List RV) (gv : Bool) (args : List V) (σ : St) : Option (V × List (List V)) :=
  match readAll σ res with
  | none => none
  | some vs =>
    match outsOf args 0 σ.h with
    | none => none
    | some (outs, h1) => (match letGo gv h1 (told vs) with | some v => some (v, outs) | none => (letGo false h1 (told vs)).map fun v => (v, outs))
def finK (F : List RV) (gv : Bool) (args : List V) (R : V × List (List V) → Prop) : AE → St → Prop
  | .exit _, _ => False
  | _, σ => ∃ r, fin F gv args σ = some r ∧ R r
@[simp] theorem finK_n (F : List RV) (gv : Bool) (args : List V) (R : V × List (List V) → Prop) (σ : St) : finK F gv args R .normal σ = ∃ r, fin F gv args σ = some r ∧ R r := rfl
@[simp] theorem finK_r (F : List RV) (gv : Bool) (args : List V) (R : V × List (List V) → Prop) (σ : St) : finK F gv args R .ret σ = ∃ r, fin F gv args σ = some r ∧ R r := rfl
@[simp] theorem finK_e (F : List RV) (gv : Bool) (args : List V) (R : V × List (List V) → Prop) (i : Nat) (σ : St) : finK F gv args R (.exit i) σ = False := rfl

theorem body_of {F : AFun} {gv : Bool} {args : List V} {R : V × List (List V) → Prop} (hl : args.length ≤ F.n) (h : Wp abi call F.code (enter args) (finK F.res gv args R)) : ∃ n r, runBody abi call n F gv args = some r ∧ R r := by
  obtain ⟨n, e, σ, h1, h2⟩ := h
  cases e with
  | exit i => exact h2.elim
  | normal =>
    obtain ⟨r, h3, h4⟩ := h2
    refine ⟨n, r, ?_, h4⟩
    simp only [runBody, if_pos hl, h1]
    exact h3
  | ret =>
    obtain ⟨r, h3, h4⟩ := h2
    refine ⟨n, r, ?_, h4⟩
    simp only [runBody, if_pos hl, h1]
    exact h3
end

theorem cw_wp {abi : Abi} {funs : Nat → Option (AFun × Bool)} {prim : CallF} {f : Nat} {F : AFun} {gv : Bool} {args : List V} {R : V × List (List V) → Prop} (hp : prim f args = none) (hf : funs f = some (F, gv)) (hl : args.length ≤ F.n)
    (h : Wp abi (cw abi funs prim) F.code (enter args) (finK F.res gv args R)) : ∃ r, cw abi funs prim f args = some r ∧ R r := by
  obtain ⟨n, r, h1, h2⟩ := body_of hl h
  exact ⟨r, cw_body hp hf h1, h2⟩

theorem cw_eq {abi : Abi} {funs : Nat → Option (AFun × Bool)} {prim : CallF} {f : Nat} {F : AFun} {gv : Bool} {args : List V} {r : V × List (List V)} (hp : prim f args = none) (hf : funs f = some (F, gv)) (hl : Nat.ble args.length F.n = true)
    (h : Wp abi (cw abi funs prim) F.code (enter args) (finK F.res gv args (fun x => x = r))) : cw abi funs prim f args = some r := by
  obtain ⟨r', h1, rfl⟩ := cw_wp hp hf (Nat.le_of_ble_eq_true hl) h
  exact h1

end Fo

namespace Fo
open Go
set_option linter.unusedVariables false
set_option linter.unusedSimpArgs false

/-- The rest of a row of operations, behind what one comes to. -/
def WpS (abi : Abi) (call : CallF) (d : Bool) (o : AOp) (xs : List V) (l : List AOp) (σ : St) (R : St → Prop) (q : Option Res) : Prop := ∃ r, q = some r ∧ okD abi d o xs σ.h r = true ∧ WpO abi call d l (apply σ o r) R
def WpG (abi : Abi) (call : CallF) (d : Bool) (o : AOp) (want : Bool) (l : List AOp) (σ : St) (R : St → Prop) (g : V) : Prop := match g with
  | .bool b => if b = want then WpS abi call d o (o.xs.map (ev σ.env)) l σ R (comesF abi call o.k (o.xs.map (ev σ.env)) σ.h) else WpO abi call d l ⟨setEnv σ.env o.w o.d unit, σ.h⟩ R
  | .tup [] => WpO abi call d l ⟨setEnv σ.env o.w o.d unit, σ.h⟩ R
  | _ => False
def WpC (abi : Abi) (call : CallF) (a b : AC) (σ : St) (Q : AE → St → Prop) (v : V) : Prop := match v with
  | .bool t => if t then Wp abi call a σ Q else Wp abi call b σ Q
  | _ => False

section
variable {abi : Abi} {call : CallF}

theorem wpo_u {d : Bool} {t : Nat} {w : Bool} {k : K} {xs : List AOpd} {u uw : List Nat} {l : List AOp} {σ : St} {R : St → Prop} :
    WpO abi call d (⟨t, w, k, xs, none, u, uw⟩ :: l) σ R = WpS abi call d ⟨t, w, k, xs, none, u, uw⟩ (xs.map (ev σ.env)) l σ R (comesF abi call k (xs.map (ev σ.env)) σ.h) := by
  rw [wpo_cons]; simp [guarded, WpS]
theorem wpo_g {d : Bool} {t q : Nat} {w want : Bool} {k : K} {xs : List AOpd} {u uw : List Nat} {l : List AOp} {σ : St} {R : St → Prop} :
    WpO abi call d (⟨t, w, k, xs, some (q, want), u, uw⟩ :: l) σ R = WpG abi call d ⟨t, w, k, xs, some (q, want), u, uw⟩ want l σ R (σ.env q) := by
  rw [wpo_cons]; simp only [guarded]
  generalize σ.env q = g
  cases g with
  | bool b => cases b <;> cases want <;> simp [WpG, WpS]
  | tup l => cases l <;> simp [WpG]
  | _ => simp [WpG]
theorem wpg_b {d : Bool} {o : AOp} {b want : Bool} {l : List AOp} {σ : St} {R : St → Prop} : WpG abi call d o want l σ R (.bool b) = if b = want then WpS abi call d o (o.xs.map (ev σ.env)) l σ R (comesF abi call o.k (o.xs.map (ev σ.env)) σ.h) else WpO abi call d l ⟨setEnv σ.env o.w o.d unit, σ.h⟩ R := rfl
theorem wpg_t {d : Bool} {o : AOp} {want : Bool} {l : List AOp} {σ : St} {R : St → Prop} : WpG abi call d o want l σ R (.bool want) = WpS abi call d o (o.xs.map (ev σ.env)) l σ R (comesF abi call o.k (o.xs.map (ev σ.env)) σ.h) := by simp [wpg_b]
theorem wpg_tf {d : Bool} {o : AOp} {l : List AOp} {σ : St} {R : St → Prop} : WpG abi call d o true l σ R (.bool false) = WpO abi call d l ⟨setEnv σ.env o.w o.d unit, σ.h⟩ R := by simp [wpg_b]
theorem wpg_ft {d : Bool} {o : AOp} {l : List AOp} {σ : St} {R : St → Prop} : WpG abi call d o false l σ R (.bool true) = WpO abi call d l ⟨setEnv σ.env o.w o.d unit, σ.h⟩ R := by simp [wpg_b]
theorem wpg_0 {d : Bool} {o : AOp} {want : Bool} {l : List AOp} {σ : St} {R : St → Prop} : WpG abi call d o want l σ R (.tup []) = WpO abi call d l ⟨setEnv σ.env o.w o.d unit, σ.h⟩ R := rfl
theorem wps_some {d : Bool} {o : AOp} {xs : List V} {l : List AOp} {σ : St} {R : St → Prop} {r : Res} : WpS abi call d o xs l σ R (some r) = (okD abi d o xs σ.h r = true ∧ WpO abi call d l (apply σ o r) R) := by simp [WpS]
theorem wp_cond' {x : AOpd} {a b : AC} {σ : St} {Q : AE → St → Prop} : Wp abi call (.cond x a b) σ Q = WpC abi call a b σ Q (ev σ.env x) := by
  rw [wp_cond]
  generalize ev σ.env x = v
  cases v <;> simp [WpC]
theorem wpc_t {a b : AC} {σ : St} {Q : AE → St → Prop} : WpC abi call a b σ Q (.bool true) = Wp abi call a σ Q := rfl
theorem wpc_f {a b : AC} {σ : St} {Q : AE → St → Prop} : WpC abi call a b σ Q (.bool false) = Wp abi call b σ Q := rfl
theorem wpc_d {a b : AC} {σ : St} {Q : AE → St → Prop} {t : Bool} : WpC abi call a b σ Q (.bool t) = if t then Wp abi call a σ Q else Wp abi call b σ Q := rfl

@[simp] theorem setEnv_f (e : Env) (d : Nat) (v : V) : setEnv e false d v = e := rfl
@[simp] theorem setEnv_t (e : Env) (d : Nat) (v : V) : setEnv e true d v = upd e d v := rfl
@[simp] theorem upd_at' {α : Type} (f : Nat → α) (i : Nat) (x : α) (j : Nat) : upd f i x j = if j = i then x else f j := rfl
end
/-- A block that was given away (an empty one says nothing). -/
def kill (h : Heap) (d v j : Nat) (r : List (List V)) : Heap := if r.isEmpty then h else h.set d v j .dead
@[simp] theorem kill_cnt (h : Heap) (d v j : Nat) (r : List (List V)) : (kill h d v j r).cnt = h.cnt := by unfold kill; split <;> rfl
@[simp] theorem kill_bl (h : Heap) (d v j : Nat) (r : List (List V)) (a b c : Nat) : (kill h d v j r).bl a b c = if a = d ∧ b = v ∧ c = j then (if r.isEmpty then h.bl d v j else .dead) else h.bl a b c := by
  unfold kill
  split
  · split
    · rename_i e; obtain ⟨rfl, rfl, rfl⟩ := e; rfl
    · rfl
  · rw [Heap.set_bl]
/-- What is given of a slice of the frame's own. -/
def giveO (h : Heap) (d v j fr len : Nat) : Bc → Option (V × Heap)
  | .rows r => if len = 0 ∧ r.isEmpty = false then (if (r.drop fr).isEmpty then none else some (.spare (r.drop fr), h.set d v j .dead)) else some (.fresh ((r.drop fr).take len), if r.isEmpty then h else h.set d v j .dead)
  | .frz r => some (.sl ((r.drop fr).take len), h)
  | _ => none
theorem give_o {h : Heap} {d v j fr len : Nat} : give h (.own d v j fr len) = giveO h d v j fr len (h.bl d v j) := by
  rw [give]; unfold giveO; cases h.bl d v j <;> rfl
def giveS (h : Heap) (d v j fr len : Nat) (r : List (List V)) : Option (V × Heap) := if len = 0 ∧ r.isEmpty = false then (if (r.drop fr).isEmpty then none else some (.spare (r.drop fr), h.set d v j .dead)) else some (.fresh ((r.drop fr).take len), if r.isEmpty then h else h.set d v j .dead)
theorem giveO_s {h : Heap} {d v j fr len : Nat} {r : List (List V)} : giveO h d v j (fr + 1) len (.rows r) = giveS h d v j (fr + 1) len r := rfl
theorem giveO_frz {h : Heap} {d v j fr len : Nat} {r : List (List V)} : giveO h d v j fr len (.frz r) = some (.sl ((r.drop fr).take len), h) := rfl
theorem giveO_dead {h : Heap} {d v j fr len : Nat} : giveO h d v j fr len .dead = none := rfl
theorem giveO_rows {h : Heap} {d v j len : Nat} {r : List (List V)} : giveO h d v j 0 len (.rows r) = if r.length = len then some (.fresh r, kill h d v j r) else giveS h d v j 0 len r := by
  split
  · rename_i hl
    subst hl
    simp only [giveO, kill]
    cases r <;> simp
  · rfl
theorem give_own {h : Heap} {d v j len : Nat} {r : List (List V)} (hb : h.bl d v j = .rows r) (hl : r.length = len) : give h (.own d v j 0 len) = some (.fresh r, kill h d v j r) := by
  rw [give_o, hb, giveO_rows, if_pos hl]
theorem give_int {h : Heap} {k : IntKind} {n : Int} : give h (.int k n) = some (.int k n, h) := by rw [give]
theorem give_bool {h : Heap} {b : Bool} : give h (.bool b) = some (.bool b, h) := by rw [give]
theorem give_e {h : Heap} {b : Bool} : give h (.e b) = some (if b then .fresh [] else .sl [], h) := by rw [give]
theorem give_sl {h : Heap} {r : List (List V)} : give h (.sl r) = some (.sl r, h) := by rw [give]
theorem give_iptr {h : Heap} {r : List V} {o : Nat} : give h (.iptr r o) = some (.iptr r o, h) := by rw [give]
theorem give_f {h : Heap} : give h (.fresh []) = some (.fresh [], h) := by rw [give]
theorem give_agg {h : Heap} {l : List V} : give h (.agg l) = (giveL h l).map fun r => (.agg r.1, r.2) := by rw [give]
theorem give_tup {h : Heap} {l : List V} : give h (.tup l) = (giveL h l).map fun r => (.tup r.1, r.2) := by rw [give]
def giveMp (h : Heap) (d v j : Nat) : Bc → Option (V × Heap)
  | .mp es => if es.all (fun e => plainV e.2) then some (.fmap (es.map (·.1)) (es.map (·.2)), h.set d v j .dead) else none
  | _ => none
theorem give_map {h : Heap} {d v j : Nat} : give h (.map d v j) = giveMp h d v j (h.bl d v j) := by
  rw [give]; unfold giveMp; cases h.bl d v j <;> rfl
theorem lendArg_fn {h : Heap} {f : Nat} {a b : List V} : lendArg h (.fn f a b) = match lendCaps h a, lendCaps h b with | some x, some y => some (.fn f x.1 y.1, x.2 ++ y.2) | _, _ => none := by rw [lendArg]; cases lendCaps h a <;> cases lendCaps h b <;> rfl
theorem lendArg_int {h : Heap} {k : IntKind} {n : Int} : lendArg h (.int k n) = lend h (.int k n) := by rw [lendArg]; simp
theorem lendArg_bool {h : Heap} {b : Bool} : lendArg h (.bool b) = lend h (.bool b) := by rw [lendArg]; simp
theorem lendArg_e {h : Heap} {b : Bool} : lendArg h (.e b) = lend h (.e b) := by rw [lendArg]; simp
theorem lendArg_sl {h : Heap} {r : List (List V)} : lendArg h (.sl r) = lend h (.sl r) := by rw [lendArg]; simp
theorem lendArg_fresh {h : Heap} {r : List (List V)} : lendArg h (.fresh r) = lend h (.fresh r) := by rw [lendArg]; simp
theorem lendArg_own {h : Heap} {a b c f n : Nat} : lendArg h (.own a b c f n) = lend h (.own a b c f n) := by rw [lendArg]; simp
theorem lendArg_ptr {h : Heap} {a b c f n : Nat} : lendArg h (.ptr a b c f n) = lend h (.ptr a b c f n) := by rw [lendArg]; simp
theorem lendArg_agg {h : Heap} {l : List V} : lendArg h (.agg l) = lend h (.agg l) := by rw [lendArg]; simp
theorem lendArg_tup {h : Heap} {l : List V} : lendArg h (.tup l) = lend h (.tup l) := by rw [lendArg]; simp
theorem lendArg_iptr {h : Heap} {r : List V} {o : Nat} : lendArg h (.iptr r o) = lend h (.iptr r o) := by rw [lendArg]; simp
theorem giveL_n {h : Heap} : giveL h [] = some ([], h) := by rw [giveL]
theorem giveL_c {h : Heap} {x : V} {l : List V} : giveL h (x :: l) = match give h x with | none => none | some (a, h1) => match giveL h1 l with | none => none | some (b, h2) => some (a :: b, h2) := by
  rw [giveL]
  cases give h x with
  | none => rfl
  | some r => cases hq : giveL r.2 l <;> simp [hq]

theorem beq_eq_decide (a b : Int) : (a == b) = decide (a = b) := by by_cases h : a = b <;> simp [h]
attribute [simp] beq_eq_decide
@[simp] theorem mk_mv  : K.makes (.mv) = false := rfl
@[simp] theorem kn_mv  : K.n (.mv) = true := rfl
@[simp] theorem mk_lit  : K.makes (.lit) = true := rfl
@[simp] theorem kn_lit  : K.n (.lit) = false := rfl
@[simp] theorem mk_nilck  : K.makes (.nilck) = false := rfl
@[simp] theorem kn_nilck  : K.n (.nilck) = true := rfl
@[simp] theorem mk_pick  : K.makes (.pick) = false := rfl
@[simp] theorem kn_pick  : K.n (.pick) = true := rfl
@[simp] theorem mk_box (n : Nat) : K.makes (.box n) = true := rfl
@[simp] theorem kn_box (n : Nat) : K.n (.box n) = false := rfl
@[simp] theorem mk_zero (l : List V) : K.makes (.zero l) = true := rfl
@[simp] theorem kn_zero (l : List V) : K.n (.zero l) = false := rfl
@[simp] theorem mk_build (z : List V) (p : List (Nat × Nat)) : K.makes (.build z p) = true := rfl
@[simp] theorem kn_build (z : List V) (p : List (Nat × Nat)) : K.n (.build z p) = false := rfl
@[simp] theorem mk_buildSl (n l : Nat) (z : List V) (p : List Nat) : K.makes (.buildSl n z l p) = true := rfl
@[simp] theorem kn_buildSl (n l : Nat) (z : List V) (p : List Nat) : K.n (.buildSl n z l p) = false := rfl
@[simp] theorem mk_load (n : Option Nat) : K.makes (.load n) = false := rfl
@[simp] theorem kn_load (n : Option Nat) : K.n (.load n) = false := rfl
@[simp] theorem mk_store (n : Nat) : K.makes (.store n) = false := rfl
@[simp] theorem kn_store (n : Nat) : K.n (.store n) = false := rfl
@[simp] theorem mk_storeL (n : Nat) : K.makes (.storeL n) = true := rfl
@[simp] theorem kn_storeL (n : Nat) : K.n (.storeL n) = false := rfl
@[simp] theorem mk_faddr (n : Nat) : K.makes (.faddr n) = false := rfl
@[simp] theorem kn_faddr (n : Nat) : K.n (.faddr n) = true := rfl
@[simp] theorem mk_iaddr (n : Nat) : K.makes (.iaddr n) = false := rfl
@[simp] theorem kn_iaddr (n : Nat) : K.n (.iaddr n) = false := rfl
@[simp] theorem mk_iaddrA (l n : Nat) : K.makes (.iaddrA l n) = false := rfl
@[simp] theorem kn_iaddrA (l n : Nat) : K.n (.iaddrA l n) = true := rfl
@[simp] theorem mk_field (o : Nat) (n : Option Nat) : K.makes (.field o n) = false := rfl
@[simp] theorem kn_field (o : Nat) (n : Option Nat) : K.n (.field o n) = true := rfl
@[simp] theorem mk_index (l s : Nat) (n : Option Nat) : K.makes (.index l s n) = false := rfl
@[simp] theorem kn_index (l s : Nat) (n : Option Nat) : K.n (.index l s n) = true := rfl
@[simp] theorem mk_extract (k : Nat) : K.makes (.extract k) = false := rfl
@[simp] theorem kn_extract (k : Nat) : K.n (.extract k) = true := rfl
@[simp] theorem mk_bin (op : BinOp) : K.makes (.bin op) = false := rfl
@[simp] theorem kn_bin (op : BinOp) : K.n (.bin op) = true := rfl
@[simp] theorem mk_eqnil (b : Bool) : K.makes (.eqnil b) = false := rfl
@[simp] theorem kn_eqnil (b : Bool) : K.n (.eqnil b) = true := rfl
@[simp] theorem mk_eqv (a b : Bool) (s : List (Option IntKind)) : K.makes (.eqv a s b) = false := rfl
@[simp] theorem kn_eqv (a b : Bool) (s : List (Option IntKind)) : K.n (.eqv a s b) = true := rfl
@[simp] theorem mk_un (op : UnOp) : K.makes (.un op) = false := rfl
@[simp] theorem kn_un (op : UnOp) : K.n (.un op) = true := rfl
@[simp] theorem mk_conv (k : IntKind) : K.makes (.conv k) = false := rfl
@[simp] theorem kn_conv (k : IntKind) : K.n (.conv k) = true := rfl
@[simp] theorem mk_len  : K.makes (.len) = false := rfl
@[simp] theorem kn_len  : K.n (.len) = true := rfl
@[simp] theorem mk_lenA (n : Nat) : K.makes (.lenA n) = false := rfl
@[simp] theorem kn_lenA (n : Nat) : K.n (.lenA n) = true := rfl
@[simp] theorem mk_app (n b : Nat) (z : List V) : K.makes (.app n b z) = true := rfl
@[simp] theorem kn_app (n b : Nat) (z : List V) : K.n (.app n b z) = false := rfl
@[simp] theorem mk_slice (n : Nat) (a b : Bool) : K.makes (.slice n a b) = false := rfl
@[simp] theorem kn_slice (n : Nat) (a b : Bool) : K.n (.slice n a b) = false := rfl
@[simp] theorem mk_clear (z : List V) : K.makes (.clear z) = false := rfl
@[simp] theorem kn_clear (z : List V) : K.n (.clear z) = false := rfl
@[simp] theorem mk_least  : K.makes (.least) = false := rfl
@[simp] theorem kn_least  : K.n (.least) = true := rfl
@[simp] theorem mk_most  : K.makes (.most) = false := rfl
@[simp] theorem kn_most  : K.n (.most) = true := rfl
@[simp] theorem mk_mkmap  : K.makes (.mkmap) = true := rfl
@[simp] theorem kn_mkmap  : K.n (.mkmap) = false := rfl
@[simp] theorem mk_mkslice (z : List V) (b : Nat) : K.makes (.mkslice z b) = true := rfl
@[simp] theorem kn_mkslice (z : List V) (b : Nat) : K.n (.mkslice z b) = false := rfl
@[simp] theorem mk_mkfn (f n : Nat) : K.makes (.mkfn f n) = false := rfl
@[simp] theorem kn_mkfn (f n : Nat) : K.n (.mkfn f n) = true := rfl
@[simp] theorem mk_lookup (a o : Bool) (s : List (Option IntKind)) (z : V) : K.makes (.lookup a s z o) = false := rfl
@[simp] theorem kn_lookup (a o : Bool) (s : List (Option IntKind)) (z : V) : K.n (.lookup a s z o) = false := rfl
@[simp] theorem mk_mapset (a : Bool) (s : List (Option IntKind)) : K.makes (.mapset a s) = false := rfl
@[simp] theorem kn_mapset (a : Bool) (s : List (Option IntKind)) : K.n (.mapset a s) = false := rfl
@[simp] theorem mk_call (f : Nat) : K.makes (.call f) = true := rfl
@[simp] theorem kn_call (f : Nat) : K.n (.call f) = false := rfl
@[simp] theorem mk_callv  : K.makes (.callv) = true := rfl
@[simp] theorem kn_callv  : K.n (.callv) = false := rfl
@[simp] theorem mk_bad  : K.makes (.bad) = false := rfl
@[simp] theorem kn_bad  : K.n (.bad) = true := rfl
@[simp] theorem mk_capE  : K.makes (.capE) = false := rfl
@[simp] theorem kn_capE  : K.n (.capE) = false := rfl
@[simp] theorem mk_slice3  : K.makes (.slice3) = false := rfl
@[simp] theorem kn_slice3  : K.n (.slice3) = false := rfl
@[simp] theorem mk_buildSlL (n l : Nat) (z : List V) (p : List Nat) : K.makes (.buildSlL n z l p) = true := rfl
@[simp] theorem kn_buildSlL (n l : Nat) (z : List V) (p : List Nat) : K.n (.buildSlL n z l p) = false := rfl
@[simp] theorem mk_appZ (b : Nat) (z : List V) : K.makes (.appZ b z) = true := rfl
@[simp] theorem kn_appZ (b : Nat) (z : List V) : K.n (.appZ b z) = false := rfl
section
variable {abi : Abi} {call : CallF}
theorem wps_f {t : Nat} {w : Bool} {k : K} {xs' : List AOpd} {g : Option (Nat × Bool)} {u uw : List Nat} {xs : List V} {l : List AOp} {σ : St} {R : St → Prop} {v : V} {h : Heap} :
    WpS abi call false ⟨t, w, k, xs', g, u, uw⟩ xs l σ R (some ⟨v, h, [], []⟩) = if k.makes = true then (match thaw t (h.cnt t) v 0 ⟨upd h.cnt t (h.cnt t + 1), h.bl⟩ with | (v, j, h2) => WpO abi call false l ⟨setEnv σ.env w t v, h2⟩ R) else WpO abi call false l ⟨setEnv σ.env w t v, h⟩ R := by
  rw [wps_some]
  split
  · rename_i hk; simp [okD, apply, hk, freeze, restore]
  · rename_i hk; simp [okD, apply, hk, freeze]
theorem wps_r {d : Bool} {t : Nat} {w : Bool} {k : K} {xs' : List AOpd} {g : Option (Nat × Bool)} {u uw : List Nat} {xs : List V} {l : List AOp} {σ : St} {R : St → Prop} {r : Res} :
    WpS abi call d ⟨t, w, k, xs', g, u, uw⟩ xs l σ R (some r) = (okD abi d ⟨t, w, k, xs', g, u, uw⟩ xs σ.h r = true ∧ WpO abi call d l (apply σ ⟨t, w, k, xs', g, u, uw⟩ r) R) := wps_some
theorem apply_m {σ : St} {t : Nat} {w : Bool} {k : K} {xs : List AOpd} {g : Option (Nat × Bool)} {u uw : List Nat} {r : Res} : apply σ ⟨t, w, k, xs, g, u, uw⟩ r = if k.makes = true then
    (match thaw t ((freeze r.h r.fz).cnt t) r.v 0 ⟨upd (freeze r.h r.fz).cnt t ((freeze r.h r.fz).cnt t + 1), (freeze r.h r.fz).bl⟩ with | (v, j, h2) => ⟨setEnv σ.env w t v, restore t ((freeze r.h r.fz).cnt t) r.bx j h2⟩)
    else ⟨setEnv σ.env w t r.v, r.bx.foldl (fun h b => h.set b.1.1 b.1.2.1 b.1.2.2 (.box b.2)) (freeze r.h r.fz)⟩ := by
  simp only [apply]
theorem thawL_c {d v : Nat} {x : V} {l : List V} {j : Nat} {h : Heap} : thawL d v (x :: l) j h = match thaw d v x j h with | (a, j1, h1) => match thawL d v l j1 h1 with | (b, j2, h2) => (a :: b, j2, h2) := by rw [thawL]
theorem thawL_n {d v : Nat} {j : Nat} {h : Heap} : thawL d v [] j h = ([], j, h) := by rw [thawL]
theorem thaw_agg {d v : Nat} {l : List V} {j : Nat} {h : Heap} : thaw d v (.agg l) j h = match thawL d v l j h with | (a, j1, h1) => (.agg a, j1, h1) := by rw [thaw]
theorem thaw_tup {d v : Nat} {l : List V} {j : Nat} {h : Heap} : thaw d v (.tup l) j h = match thawL d v l j h with | (a, j1, h1) => (.tup a, j1, h1) := by rw [thaw]
theorem thaw_pbox {d v : Nat} {l : List V} {o j : Nat} {h : Heap} : thaw d v (.pbox l o) j h = match thawL d v l (j + 1) h with | (a, j1, h1) => (.ptr d v j 0 o, j1, h1.set d v j (.box a)) := by rw [thaw]
theorem thaw_fresh {d v : Nat} {r : List (List V)} {j : Nat} {h : Heap} : thaw d v (.fresh r) j h = (.own d v j 0 r.length, j + 1, h.set d v j (.rows r)) := by rw [thaw]
theorem thaw_spare {d v : Nat} {r : List (List V)} {j : Nat} {h : Heap} : thaw d v (.spare r) j h = (.own d v j 0 0, j + 1, h.set d v j (.rows r)) := by rw [thaw]
theorem thaw_fmap {d v : Nat} {ks vs : List V} {j : Nat} {h : Heap} : thaw d v (.fmap ks vs) j h = (.map d v j, j + 1, h.set d v j (.mp (ks.zip vs))) := by rw [thaw]
theorem thaw_int {d v : Nat} {k : IntKind} {n : Int} {j : Nat} {h : Heap} : thaw d v (.int k n) j h = (.int k n, j, h) := by simp [thaw]
theorem thaw_bool {d v : Nat} {b : Bool} {j : Nat} {h : Heap} : thaw d v (.bool b) j h = (.bool b, j, h) := by simp [thaw]
theorem thaw_e {d v : Nat} {b : Bool} {j : Nat} {h : Heap} : thaw d v (.e b) j h = (.e b, j, h) := by simp [thaw]
theorem thaw_sl {d v : Nat} {r : List (List V)} {j : Nat} {h : Heap} : thaw d v (.sl r) j h = (.sl r, j, h) := by simp [thaw]
theorem thaw_any {d v : Nat} {j : Nat} {h : Heap} : thaw d v .any j h = (.any, j, h) := by simp [thaw]
theorem thaw_fn {d v f : Nat} {a b : List V} {j : Nat} {h : Heap} : thaw d v (.fn f a b) j h = (.fn f a b, j, h) := by simp [thaw]
theorem thaw_iptr {d v o : Nat} {a : List V} {j : Nat} {h : Heap} : thaw d v (.iptr a o) j h = (.iptr a o, j, h) := by simp [thaw]
theorem restore_c {d v a b c : Nat} {row : List V} {l : List ((Nat × Nat × Nat) × List V)} {j : Nat} {h : Heap} : restore d v (((a, b, c), row) :: l) j h = match thawL d v row j h with | (x, j1, h1) => restore d v l j1 (h1.set a b c (.box x)) := by rw [restore]
theorem restore_n {d v j : Nat} {h : Heap} : restore d v [] j h = h := by rw [restore]
theorem enterL_c {x : V} {l : List V} {i : Nat} {e : Env} {h : Heap} : enterL (x :: l) i e h = match thaw i 0 x 0 ⟨upd h.cnt i 1, h.bl⟩ with | (v, j, h1) => enterL l (i + 1) (upd e i v) h1 := by rw [enterL]
theorem enterL_n {i : Nat} {e : Env} {h : Heap} : enterL [] i e h = ⟨e, h⟩ := by rw [enterL]
theorem thaw_own {d v a b c f n : Nat} {j : Nat} {h : Heap} : thaw d v (.own a b c f n) j h = (.own a b c f n, j, h) := by simp [thaw]
theorem thaw_ptr {d v a b c f n : Nat} {j : Nat} {h : Heap} : thaw d v (.ptr a b c f n) j h = (.ptr a b c f n, j, h) := by simp [thaw]
theorem thaw_map {d v a b c : Nat} {j : Nat} {h : Heap} : thaw d v (.map a b c) j h = (.map a b c, j, h) := by simp [thaw]
/-- Of drawn regions: what looks at no memory. -/
theorem wps_n {t : Nat} {w : Bool} {k : K} {xs' : List AOpd} {g : Option (Nat × Bool)} {u uw : List Nat} {xs : List V} {l : List AOp} {σ : St} {R : St → Prop} {v : V} {h : Heap} :
    WpS abi call true ⟨t, w, k, xs', g, u, uw⟩ xs l σ R (some ⟨v, h, [], []⟩) = if k.n = true then WpO abi call true l ⟨setEnv σ.env w t v, h⟩ R else (okD abi true ⟨t, w, k, xs', g, u, uw⟩ xs σ.h ⟨v, h, [], []⟩ = true ∧ WpO abi call true l (apply σ ⟨t, w, k, xs', g, u, uw⟩ ⟨v, h, [], []⟩) R) := by
  rw [wps_some]
  split
  · rename_i hk
    have hm : k.makes = false := by cases k <;> first | rfl | cases hk
    have ht : touch k xs σ.h = [] := by cases k <;> first | rfl | cases hk
    have hw : touchW k xs σ.h = [] := by cases k <;> first | rfl | cases hk
    simp [okD, apply, hm, ht, hw, freeze]
  · rfl

variable {h : Heap}
theorem cf_mv {x : V} : comesF abi call .mv [x] h = some ⟨x, h, [], []⟩ := rfl
theorem cf_lit {x : V} : comesF abi call .lit [x] h = some ⟨x, h, [], []⟩ := rfl
theorem cf_nilp {d v j row o : Nat} : comesF abi call .nilck [.ptr d v j row o] h = some ⟨.ptr d v j row o, h, [], []⟩ := rfl
theorem cf_nili {row : List V} {o : Nat} : comesF abi call .nilck [.iptr row o] h = some ⟨.iptr row o, h, [], []⟩ := rfl
theorem cf_pick {c : Bool} {a b : V} : comesF abi call .pick [.bool c, a, b] h = some ⟨if c then a else b, h, [], []⟩ := rfl
theorem cf_box {n : Nat} {x : V} : comesF abi call (.box n) [x] h = if x.cells.length = n ∧ x.cells.all V.one then some ⟨.pbox x.cells 0, h, [], []⟩ else none := rfl
theorem cf_zero {l : List V} : comesF abi call (.zero l) [] h = if l.all V.one then some ⟨.pbox l 0, h, [], []⟩ else none := rfl
theorem cf_build {z : List V} {p : List (Nat × Nat)} {xs : List V} : comesF abi call (.build z p) xs h = comp (.build z p) xs h := rfl
theorem cf_buildSl {n len : Nat} {z : List V} {p : List Nat} {xs : List V} : comesF abi call (.buildSl n z len p) xs h = comp (.buildSl n z len p) xs h := rfl
theorem cf_buildSlL {n len : Nat} {z : List V} {p : List Nat} {xs : List V} : comesF abi call (.buildSlL n z len p) xs h = comp (.buildSlL n z len p) xs h := rfl
theorem cf_loadp {n : Option Nat} {d v j row o : Nat} : comesF abi call (.load n) [.ptr d v j row o] h = match rowAt h (.ptr d v j row o) with | some (row, off) => (partV row off n).map fun v => ⟨v, h, [], []⟩ | none => none := rfl
theorem cf_loadi {n : Option Nat} {row : List V} {o : Nat} : comesF abi call (.load n) [.iptr row o] h = (partV row o n).map fun v => ⟨v, h, [], []⟩ := rfl
theorem cf_store {n : Nat} {p v : V} : comesF abi call (.store n) [p, v] h = storeV n p v h := rfl
theorem cf_storeL {n : Nat} {p v : V} : comesF abi call (.storeL n) [p, v] h = storeV n p v h := rfl
theorem cf_fap {off d v j row o : Nat} : comesF abi call (.faddr off) [.ptr d v j row o] h = some ⟨.ptr d v j row (o + off), h, [], []⟩ := rfl
theorem cf_fai {off : Nat} {row : List V} {o : Nat} : comesF abi call (.faddr off) [.iptr row o] h = some ⟨.iptr row (o + off), h, [], []⟩ := rfl
theorem cf_iaddr {n : Nat} {x : V} {k : IntKind} {i : Int} : comesF abi call (.iaddr n) [x, .int k i] h = comp (.iaddr n) [x, .int k i] h := rfl
theorem cf_iaddrA {n len : Nat} {x : V} {k : IntKind} {i : Int} : comesF abi call (.iaddrA len n) [x, .int k i] h = comp (.iaddrA len n) [x, .int k i] h := rfl
theorem cf_field {off : Nat} {n : Option Nat} {l : List V} : comesF abi call (.field off n) [.agg l] h = (partV l off n).map fun v => ⟨v, h, [], []⟩ := rfl
theorem cf_index {len size : Nat} {n : Option Nat} {l : List V} {k : IntKind} {i : Int} : comesF abi call (.index len size n) [.agg l, .int k i] h = comp (.index len size n) [.agg l, .int k i] h := rfl
theorem cf_extract {k : Nat} {l : List V} : comesF abi call (.extract k) [.tup l] h = (l[k]?).map fun v => ⟨v, h, [], []⟩ := rfl
theorem cf_add {k : IntKind} {a b : Int} : comesF abi call (.bin .add) [.int k a, .int k b] h = some ⟨.int k (k.wrap (a + b)), h, [], []⟩ := by simp [comesF, comp, binV, binInt]
theorem cf_sub {k : IntKind} {a b : Int} : comesF abi call (.bin .sub) [.int k a, .int k b] h = some ⟨.int k (k.wrap (a - b)), h, [], []⟩ := by simp [comesF, comp, binV, binInt]
theorem cf_mul {k : IntKind} {a b : Int} : comesF abi call (.bin .mul) [.int k a, .int k b] h = some ⟨.int k (k.wrap (a * b)), h, [], []⟩ := by simp [comesF, comp, binV, binInt]
theorem cf_eql {k : IntKind} {a b : Int} : comesF abi call (.bin .eql) [.int k a, .int k b] h = some ⟨.bool (decide (a = b)), h, [], []⟩ := by simp [comesF, comp, binV, binInt, beq_eq_decide]
theorem cf_neq {k : IntKind} {a b : Int} : comesF abi call (.bin .neq) [.int k a, .int k b] h = some ⟨.bool (!decide (a = b)), h, [], []⟩ := by simp [comesF, comp, binV, binInt, bne, beq_eq_decide]
theorem cf_lss {k : IntKind} {a b : Int} : comesF abi call (.bin .lss) [.int k a, .int k b] h = some ⟨.bool (decide (a < b)), h, [], []⟩ := by simp [comesF, comp, binV, binInt]
theorem cf_leq {k : IntKind} {a b : Int} : comesF abi call (.bin .leq) [.int k a, .int k b] h = some ⟨.bool (decide (a ≤ b)), h, [], []⟩ := by simp [comesF, comp, binV, binInt]
theorem cf_gtr {k : IntKind} {a b : Int} : comesF abi call (.bin .gtr) [.int k a, .int k b] h = some ⟨.bool (decide (b < a)), h, [], []⟩ := by simp [comesF, comp, binV, binInt]
theorem cf_geq {k : IntKind} {a b : Int} : comesF abi call (.bin .geq) [.int k a, .int k b] h = some ⟨.bool (decide (b ≤ a)), h, [], []⟩ := by simp [comesF, comp, binV, binInt]
/-- Any other one. -/
theorem cf_bin {op : BinOp} {k k' : IntKind} {a b : Int} {v : V} (hv : binInt op k a k' b = some v) : comesF abi call (.bin op) [.int k a, .int k' b] h = some ⟨v, h, [], []⟩ := by simp [comesF, comp, binV, hv]
theorem cf_eqnil {neg : Bool} {x : V} : comesF abi call (.eqnil neg) [x] h = comp (.eqnil neg) [x] h := rfl
theorem cf_eqv {agg neg : Bool} {sig : List (Option IntKind)} {x y : V} : comesF abi call (.eqv agg sig neg) [x, y] h = comp (.eqv agg sig neg) [x, y] h := rfl
theorem cf_not {b : Bool} : comesF abi call (.un .not) [.bool b] h = some ⟨.bool (!b), h, [], []⟩ := rfl
theorem cf_neg {k : IntKind} {n : Int} : comesF abi call (.un .neg) [.int k n] h = some ⟨.int k (k.wrap (0 - n)), h, [], []⟩ := rfl
theorem cf_unxor {k : IntKind} {n : Int} : comesF abi call (.un .xor) [.int k n] h = comp (.un .xor) [.int k n] h := rfl
theorem cf_conv {k k' : IntKind} {n : Int} : comesF abi call (.conv k) [.int k' n] h = some ⟨.int k (k.wrap n), h, [], []⟩ := rfl
theorem cf_len {x : V} : comesF abi call .len [x] h = comp .len [x] h := rfl
theorem cf_lenA {n : Nat} {x : V} : comesF abi call (.lenA n) [x] h = some ⟨.int .i64 n, h, [], []⟩ := rfl
theorem cf_app {n b : Nat} {z : List V} {x y : V} : comesF abi call (.app n b z) [x, y] h = appV n b z x y h := rfl
theorem cf_slice {n : Nat} {lo hi : Bool} {xs : List V} : comesF abi call (.slice n lo hi) xs h = comp (.slice n lo hi) xs h := rfl
theorem cf_capE {x : V} : comesF abi call .capE [x] h = comp .capE [x] h := rfl
theorem cf_appZ {b : Nat} {z : List V} {x y : V} : comesF abi call (.appZ b z) [x, y] h = appZV b z x y h := rfl
theorem cf_slice3 {x a b c : V} : comesF abi call .slice3 [x, a, b, c] h = slice3V h x a b c := rfl
theorem cf_clear {z : List V} {x : V} : comesF abi call (.clear z) [x] h = comp (.clear z) [x] h := rfl
theorem cf_least {xs : List V} : comesF abi call .least xs h = comp .least xs h := rfl
theorem cf_most {xs : List V} : comesF abi call .most xs h = comp .most xs h := rfl
theorem cf_mkmap : comesF abi call .mkmap [] h = some ⟨.fmap [] [], h, [], []⟩ := rfl
theorem cf_mkslice {z : List V} {b : Nat} {x y : V} : comesF abi call (.mkslice z b) [x, y] h = mksliceV z b x y h := rfl
theorem cf_mkfn {f n : Nat} {xs : List V} : comesF abi call (.mkfn f n) xs h = some ⟨.fn f (xs.take n) (xs.drop n), h, [], []⟩ := rfl
theorem cf_lookup {agg ok : Bool} {sig : List (Option IntKind)} {z : V} {xs : List V} : comesF abi call (.lookup agg sig z ok) xs h = comp (.lookup agg sig z ok) xs h := rfl
theorem cf_mapset {agg : Bool} {sig : List (Option IntKind)} {xs : List V} : comesF abi call (.mapset agg sig) xs h = comp (.mapset agg sig) xs h := rfl
theorem cf_call {f : Nat} {xs : List V} : comesF abi call (.call f) xs h = calledF abi call f xs h := rfl
theorem cf_callv {f : Nat} {first caps args : List V} : comesF abi call .callv (.fn f first caps :: args) h = calledF abi call f (first ++ (args ++ caps)) h := rfl
end

attribute [simp] cf_mv cf_lit cf_nilp cf_nili cf_pick cf_box cf_zero cf_build cf_buildSl cf_buildSlL cf_loadp cf_loadi cf_store cf_storeL cf_fap cf_fai cf_iaddr cf_iaddrA cf_field cf_index cf_extract cf_add cf_sub cf_mul cf_eql cf_neq cf_lss cf_leq cf_gtr cf_geq cf_eqnil cf_eqv cf_not cf_neg cf_unxor cf_conv cf_len cf_lenA cf_app cf_slice cf_capE cf_appZ cf_slice3 cf_clear cf_least cf_most cf_mkmap cf_mkslice cf_mkfn cf_lookup cf_mapset cf_call cf_callv
attribute [simp] ev calledF comp okD apply_m K.r K.l freeze fin readAll readRes outsOf told letGo giveP give_o giveO_frz giveO_dead giveO_rows giveO_s give_int give_bool give_e give_sl give_iptr give_f give_agg give_tup give_map giveMp plainV giveL_n giveL_c lend lendL lendArg_fn lendArg_int lendArg_bool lendArg_e lendArg_sl lendArg_fresh lendArg_own lendArg_ptr lendArg_agg lendArg_tup lendArg_iptr lendCap lendCaps enter enterL_c enterL_n thawL_c thawL_n thaw_agg thaw_tup thaw_pbox thaw_fresh thaw_spare thaw_fmap thaw_int thaw_bool thaw_e thaw_sl thaw_any thaw_fn thaw_iptr thaw_own thaw_ptr thaw_map restore_c restore_n pass1 pass2 isPb lensEq shows showsL showsR touch touchW idsV idsL boxIds boxIds1 boxIdsL boxIdsA isBoxed rOf rowAt partV storeV allRows rowsOf appV sliceV sliceV.go fillV fillR splice V.cells V.one Heap.set_bl empty flatC okS eqC findKey noCap allInts mksliceV
attribute [simp] wp_skip wp_ret wp_exit wp_reg wp_drw wp_seq wp_cond' wp_block wpo_nil wpo_u wpo_g wpg_t wpg_tf wpg_ft wpg_0 wps_f wps_n wpc_t wpc_f
attribute [simp low] wps_r

@[simp] theorem not_add_le (n k : Nat) : (n + k ≤ n) = (k = 0) := by apply propext; omega
theorem wrap64 {n : Int} (h1 : -9223372036854775808 ≤ n) (h2 : n ≤ 9223372036854775807) : IntKind.i64.wrap n = n := by rw [IntKind.wrap_i64]; omega
end Fo

namespace Fo.W
open Go
set_option linter.unusedVariables false
set_option linter.unusedSimpArgs false

structure Inst where
  op : Int
  a : Int
  b : Int
  n : Int
  deriving DecidableEq, Inhabited
structure Rep2 where
  first : Int
  last : Int
  left : Int
  deriving DecidableEq, Inhabited
structure Mem where
  m0 : Int
  m1 : Int
  m2 : Int
  m3 : Int
  m4 : Int
  m5 : Int
  m6 : Int
  m7 : Int
  deriving DecidableEq, Inhabited
structure Mach where
  pc : Int
  mem : Mem
  reps : List Rep2
  over : Bool
  deriving DecidableEq, Inhabited
structure Task where
  rank : Int
  period : Int
  fin : Int
  main : List Inst
  way : List Inst
  opt : List Inst
  deriving DecidableEq, Inhabited
structure Bnds where
  cost : Int
  lost : Int
  block : Int
  resp : Int
  promote : Int
  deriving DecidableEq, Inhabited
structure Job where
  task : Int
  at_ : Int
  in_ : Int
  phase : Int
  m : Mach
  kept : Mach
  held : List Int
  up : Bool
  deriving DecidableEq, Inhabited
structure Sema where
  ceil : Int
  holder : Int
  deriving DecidableEq, Inhabited
structure Waiter where
  client : Int
  mask : Int
  deriving DecidableEq, Inhabited
structure Handle where
  at_ : Int
  gen : Int
  deriving DecidableEq, Inhabited
structure Thing where
  kind : Int
  h : Handle
  s : Sema
  bl : List Int
  bw : List Int
  bits : Int
  fw : List Waiter
  sum : Int
  deriving DecidableEq, Inhabited
structure Table where
  gens : List Int
  is_ : List Bool
  l : List Thing
  deriving DecidableEq, Inhabited
structure Watch where
  rows : List Int
  off : List Bool
  deriving DecidableEq, Inhabited
structure Kernel where
  now : Int
  apart : Int
  tasks : List Task
  bounds : List Bnds
  runs : Bool
  halt : Bool
  hit : Bool
  jobs : List Job
  t : Table
  w : Watch
  deriving DecidableEq, Inhabited
structure Event where
  at_ : Int
  kind : Int
  task : Int
  a : Int
  n : Int
  err : Int
  deriving DecidableEq, Inhabited

@[simp] theorem take_full {α : Type} {r : List α} {n : Nat} (h : r.length = n) : List.take n r = r := List.take_of_length_le (by omega)
/-- A list of which the first k were changed. -/
def mapTo {α : Type} (g : α → α) (l : List α) (k : Nat) : List α := (l.take k).map g ++ l.drop k
section
variable {α : Type} {g : α → α} {l : List α} {k : Nat} {x : α}
@[simp] theorem mapTo_zero : mapTo g l 0 = l := by simp [mapTo]
@[simp] theorem mapTo_len : (mapTo g l k).length = l.length := by simp [mapTo]; omega
@[simp] theorem mapTo_all : mapTo g l l.length = l.map g := by simp [mapTo]
theorem mapTo_get {m : Nat} (h : k ≤ m) : (mapTo g l k)[m]? = l[m]? := by
  by_cases hk : k ≤ l.length
  · have e : ((l.take k).map g).length = k := by simp; omega
    unfold mapTo
    rw [List.getElem?_append_right (by omega), e, List.getElem?_drop]
    congr 1; omega
  · rw [List.getElem?_eq_none (by simp; omega), List.getElem?_eq_none (by omega)]
@[simp] theorem mapTo_getk : (mapTo g l k)[k]? = l[k]? := mapTo_get (Nat.le_refl _)
theorem mapTo_at {m : Nat} {h : m < (mapTo g l k).length} (hk : k ≤ m) : (mapTo g l k)[m] = l[m]'(by simpa using h) := by
  have := mapTo_get (g := g) (l := l) hk
  rw [List.getElem?_eq_getElem h, List.getElem?_eq_getElem (by simpa using h)] at this
  exact Option.some.inj this
@[simp] theorem mapTo_atk {h : k < (mapTo g l k).length} : (mapTo g l k)[k] = l[k]'(by simpa using h) := mapTo_at (Nat.le_refl _)
theorem mapTo_succ (hx : l[k]? = some x) : mapTo g l (k + 1) = (mapTo g l k).set k (g x) := by
  obtain ⟨hk, hx'⟩ := List.getElem?_eq_some_iff.1 hx
  have e : ((l.take k).map g).length = k := by simp; omega
  have d : l.drop k = x :: l.drop (k + 1) := by rw [← hx']; exact List.drop_eq_getElem_cons hk
  unfold mapTo
  rw [List.set_append_right _ _ (by omega), e, Nat.sub_self, d, List.set_cons_zero, List.take_add_one, hx]
  simp
theorem mapTo_same (hx : l[k]? = some x) (hg : g x = x) : mapTo g l (k + 1) = mapTo g l k := by
  rw [mapTo_succ hx, hg]
  apply List.ext_getElem?
  intro i
  rw [List.getElem?_set]
  split
  · rename_i e; subst e; rw [mapTo_getk, hx]; rw [if_pos (by have := (List.getElem?_eq_some_iff.1 hx).1; simpa using this)]
  · rfl
end
/-- A list as the rows of a slice. -/
def R {α : Type} (f : α → List V) (l : List α) : List (List V) := l.map f
section
variable {α : Type} {f : α → List V} {l m : List α}
@[simp] theorem R_nil : R f [] = [] := rfl
@[simp] theorem R_cons {x : α} : R f (x :: l) = f x :: R f l := rfl
@[simp] theorem R_length : (R f l).length = l.length := by simp [R]
@[simp] theorem R_get {k : Nat} : (R f l)[k]? = l[k]?.map f := by simp [R]
@[simp] theorem R_at {k : Nat} {h : k < (R f l).length} : (R f l)[k] = f (l[k]'(by simpa using h)) := by simp [R]
theorem R_set {k : Nat} {x : α} : (R f l).set k (f x) = R f (l.set k x) := by simp [R]
@[simp] theorem R_set' {k : Nat} {x : α} : R f (l.set k x) = (R f l).set k (f x) := R_set.symm
theorem R_mapTo {g : α → α} {k : Nat} {x : α} (hx : l[k]? = some x) : R f (mapTo g l (k + 1)) = (R f (mapTo g l k)).set k (f (g x)) := by rw [mapTo_succ hx, R_set]
theorem R_snoc {x : α} : R f l ++ [f x] = R f (l ++ [x]) := by simp [R]
@[simp] theorem R_app : R f (l ++ m) = R f l ++ R f m := by simp [R]
theorem R_append : R f l ++ R f m = R f (l ++ m) := by simp [R]
@[simp] theorem R_take {k : Nat} : (R f l).take k = R f (l.take k) := by simp [R]
@[simp] theorem R_drop {k : Nat} : (R f l).drop k = R f (l.drop k) := by simp [R]
@[simp] theorem R_eq_nil : R f l = [] ↔ l = [] := by simp [R]
@[simp] theorem R_ne {k : Nat} : (R f l).isEmpty = l.isEmpty := by cases l <;> rfl
@[simp] theorem R_take_snoc {x : List V} : List.take (l.length + 1) (R f l ++ [x]) = R f l ++ [x] := List.take_of_length_le (by simp)
@[simp] theorem R_forall {p : List V → Prop} : (∀ x ∈ R f l, p x) ↔ ∀ y ∈ l, p (f y) := by simp [R]
theorem R_all {n : Nat} (h : ∀ x, (f x).length = n) : ∀ r ∈ R f l, r.length = n := by simp [R, h]
end

theorem take_set {α : Type} : ∀ (l : List α) (n : Nat) (x : α), n < l.length → (l.set n x).take (n + 1) = l.take n ++ [x]
  | [], n, x, h => by simp at h
  | a :: l, 0, x, h => by simp
  | a :: l, n + 1, x, h => by simp [take_set l n x (by simpa using h)]
abbrev i64 (n : Int) : V := .int .i64 n
@[reducible] def intRow (n : Int) : List V := [.int .i64 n]
@[reducible] def boolRow (b : Bool) : List V := [.bool b]
abbrev RI (l : List Int) : List (List V) := R intRow l
abbrev RB (l : List Bool) : List (List V) := R boolRow l
@[reducible] def Inst.row (x : Inst) : List V := [i64 x.op, i64 x.a, i64 x.b, i64 x.n]
abbrev RC (l : List Inst) : List (List V) := R Inst.row l
@[reducible] def Rep2.row (x : Rep2) : List V := [i64 x.first, i64 x.last, i64 x.left]
@[reducible] def Mach.row (s : List (List V) → V) (m : Mach) : List V := [i64 m.pc, i64 m.mem.m0, i64 m.mem.m1, i64 m.mem.m2, i64 m.mem.m3, i64 m.mem.m4, i64 m.mem.m5, i64 m.mem.m6, i64 m.mem.m7, s (R Rep2.row m.reps), .bool m.over]
@[reducible] def Task.row (s : List (List V) → V) (t : Task) : List V := [i64 t.rank, i64 t.period, i64 t.fin, s (RC t.main), s (RC t.way), s (RC t.opt)]
@[reducible] def Bnds.row (b : Bnds) : List V := [i64 b.cost, i64 b.lost, i64 b.block, i64 b.resp, i64 b.promote]
@[reducible] def Job.row (s : List (List V) → V) (j : Job) : List V :=
  [i64 j.task, i64 j.at_, i64 j.in_, i64 j.phase,
   i64 j.m.pc, i64 j.m.mem.m0, i64 j.m.mem.m1, i64 j.m.mem.m2, i64 j.m.mem.m3, i64 j.m.mem.m4, i64 j.m.mem.m5, i64 j.m.mem.m6, i64 j.m.mem.m7, s (R Rep2.row j.m.reps), .bool j.m.over,
   i64 j.kept.pc, i64 j.kept.mem.m0, i64 j.kept.mem.m1, i64 j.kept.mem.m2, i64 j.kept.mem.m3, i64 j.kept.mem.m4, i64 j.kept.mem.m5, i64 j.kept.mem.m6, i64 j.kept.mem.m7, s (R Rep2.row j.kept.reps), .bool j.kept.over,
   s (RI j.held), .bool j.up]
@[reducible] def Sema.row (x : Sema) : List V := [i64 x.ceil, i64 x.holder]
@[reducible] def Waiter.row (x : Waiter) : List V := [i64 x.client, .int .u32 x.mask]
@[reducible] def Handle.row (x : Handle) : List V := [i64 x.at_, i64 x.gen]
@[reducible] def Thing.row (s : List (List V) → V) (x : Thing) : List V := [i64 x.kind, i64 x.h.at_, i64 x.h.gen, i64 x.s.ceil, i64 x.s.holder, s (RI x.bl), s (RI x.bw), .int .u32 x.bits, s (R Waiter.row x.fw), .int .u32 x.sum]
@[reducible] def Table.row (s : List (List V) → V) (t : Table) : List V := [s (RI t.gens), s (RB t.is_), s (R (Thing.row .sl) t.l)]
@[reducible] def Watch.row (s : List (List V) → V) (w : Watch) : List V := [s (RI w.rows), s (RB w.off)]
@[reducible] def Event.row (e : Event) : List V := [i64 e.at_, i64 e.kind, i64 e.task, i64 e.a, i64 e.n, i64 e.err]
abbrev RE (l : List Event) : List (List V) := R Event.row l
@[reducible] def Kernel.row (s : List (List V) → V) (k : Kernel) : List V :=
  [i64 k.now, i64 k.apart, s (R (Task.row .sl) k.tasks), s (R Bnds.row k.bounds), .bool k.runs, .bool k.halt, .bool k.hit, s (R (Job.row .sl) k.jobs), s (RI k.t.gens), s (RB k.t.is_), s (R (Thing.row .sl) k.t.l), s (RI k.w.rows), s (RB k.w.off)]

attribute [simp] intRow boolRow Inst.row Rep2.row Mach.row Task.row Bnds.row Job.row Sema.row Waiter.row Handle.row Thing.row Table.row Watch.row Event.row Kernel.row
theorem showsR_R {α : Type} {f : α → List V} (h : ∀ x, showsL (f x) = false) : ∀ l : List α, showsR (R f l) = false
  | [] => rfl
  | x :: l => by
    have := showsR_R h l
    show showsR (f x :: R f l) = false
    simp [showsR, h x, this]
@[simp] theorem sh_int (l : List Int) : showsR (R intRow l) = false := showsR_R (fun _ => rfl) l
@[simp] theorem sh_bool (l : List Bool) : showsR (R boolRow l) = false := showsR_R (fun _ => rfl) l
@[simp] theorem sh_inst (l : List Inst) : showsR (R Inst.row l) = false := showsR_R (fun _ => rfl) l
@[simp] theorem sh_rep (l : List Rep2) : showsR (R Rep2.row l) = false := showsR_R (fun _ => rfl) l
@[simp] theorem sh_sema (l : List Sema) : showsR (R Sema.row l) = false := showsR_R (fun _ => rfl) l
@[simp] theorem sh_waiter (l : List Waiter) : showsR (R Waiter.row l) = false := showsR_R (fun _ => rfl) l
@[simp] theorem sh_bnds (l : List Bnds) : showsR (R Bnds.row l) = false := showsR_R (fun _ => rfl) l
@[simp] theorem sh_event (l : List Event) : showsR (R Event.row l) = false := showsR_R (fun _ => rfl) l
def Mem.get (m : Mem) (a : Int) : Int := if a = 0 then m.m0 else if a = 1 then m.m1 else if a = 2 then m.m2 else if a = 3 then m.m3 else if a = 4 then m.m4 else if a = 5 then m.m5 else if a = 6 then m.m6 else m.m7
def Mem.set (m : Mem) (a v : Int) : Mem := if a = 0 then { m with m0 := v } else if a = 1 then { m with m1 := v } else if a = 2 then { m with m2 := v } else if a = 3 then { m with m3 := v } else if a = 4 then { m with m4 := v } else if a = 5 then { m with m5 := v } else if a = 6 then { m with m6 := v } else { m with m7 := v }

end Fo.W

