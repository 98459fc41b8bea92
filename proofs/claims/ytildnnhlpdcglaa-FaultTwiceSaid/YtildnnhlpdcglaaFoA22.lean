/-
  Functions, whole (part 22).
-/
import Derived.Test.YtildnnhlpdcglaaFoA27
namespace Fo
open Go
set_option linter.unusedVariables false
set_option linter.unusedSimpArgs false

/-- What a function tells: a place of its frame, or what stands at an address there. -/
inductive RV where
  | tmp (t : Nat)
  | cell (t : Nat) (n : Option Nat)
  deriving Inhabited

structure AFun where
  code : AC
  n : Nat
  res : List RV
  deriving Inhabited

def enterL : List V → Nat → Env → Heap → St
  | [], _, e, h => ⟨e, h⟩
  | x :: l, i, e, h =>
    let t := thaw i 0 x 0 { h with cnt := upd h.cnt i 1 }
    enterL l (i + 1) (upd e i t.1) t.2.2

def empty : Heap := ⟨fun _ => 0, fun _ _ _ => .dead⟩
def enter (args : List V) : St := enterL args 0 (fun _ => unit) empty

def readRes (σ : St) : RV → Option V
  | .tmp t => some (σ.env t)
  | .cell t n => match rowAt σ.h (σ.env t) with | some (row, off) => partV row off n | none => none
def readAll (σ : St) : List RV → Option (List V)
  | [] => some []
  | r :: l => match readRes σ r with | none => none | some v => (readAll σ l).map (v :: ·)
def told : List V → V
  | [v] => v
  | l => .tup l

/-- The boxes that were borrowed. -/
def outsOf : List V → Nat → Heap → Option (List (List V) × Heap)
  | [], _, h => some ([], h)
  | .pbox _ _ :: l, i, h =>
    match h.bl i 0 0 with
    | .box r =>
      match giveL (h.set i 0 0 .dead) r with
      | none => none
      | some y => (outsOf l (i + 1) y.2).map fun s => (y.1 :: s.1, s.2)
    | _ => none
  | _ :: l, i, h => outsOf l (i + 1) h

/-- An address into a variable that is given away with it. -/
def giveP (h : Heap) (d v j off : Nat) : Option (V × Heap) :=
  match h.bl d v j with
  | .box r => (giveL (h.set d v j .dead) r).map fun y => (.pbox y.1 off, y.2)
  | _ => none
def letGo (gv : Bool) (h : Heap) (x : V) : Option V :=
  if gv then
    match x with
    | .ptr d v j 0 off => (giveP h d v j off).map (·.1)
    | x => (give h x).map (·.1)
  else (lend h x).map (·.1)

/-- A function, called with args, tells v. -/
def Runs (abi : Abi) (Γ : Nat → List V → V → List (List V) → Prop) (F : AFun) (gv : Bool) (args : List V) (v : V) (outs : List (List V)) : Prop :=
  ∃ e σ vs h1, args.length ≤ F.n ∧ Ex abi Γ F.code (enter args) e σ ∧ (e = .normal ∨ e = .ret) ∧ readAll σ F.res = some vs ∧ outsOf args 0 σ.h = some (outs, h1) ∧ letGo gv h1 (told vs) = some v

section
variable {P : Program} {nf : Nm}

def ResFit (P : Program) : List ResultVar → List RV → Prop
  | [], [] => True
  | .tmp t :: l, .tmp t' :: m => t = t' ∧ ResFit P l m
  | .cell a t :: l, .cell a' n :: m => a = a' ∧ (match n with | some k => aggOf P t = some true ∧ szOf P t = some k | none => aggOf P t = some false) ∧ ResFit P l m
  | _, _ => False

structure FunFit (P : Program) (nf : Nm) (abi : Abi) (fn : Func) (F : AFun) : Prop where
  body : ∃ c, fn.body = some c ∧ CodeFit P nf abi F.n F.code c
  n : fn.ntmps = F.n
  res : ResFit P fn.results.toList F.res

def BoxAt (ι : Iota) (i : Nat) : List V → List Value → Prop
  | .pbox _ off :: l, c :: cs => (∃ b o n t, c = .pointer (some ⟨b, o + off, none⟩) ∧ ι i 0 0 = some (.pl b o n t)) ∧ BoxAt ι (i + 1) l cs
  | _ :: l, _ :: cs => BoxAt ι (i + 1) l cs
  | _, _ => True

theorem BoxAt.le {ι ι' : Iota} (h : Iota.le ι ι') : ∀ (l : List V) (cs : List Value) (i : Nat), BoxAt ι i l cs → BoxAt ι' i l cs := by
  intro l
  induction l with
  | nil => intro cs i k; cases cs <;> trivial
  | cons x l ih =>
    intro cs i k
    cases cs with
    | nil => cases x <;> trivial
    | cons c cs =>
      cases x <;> simp only [BoxAt] at k ⊢
      case pbox row off => obtain ⟨⟨b, o, n, t, e1, e2⟩, k⟩ := k; exact ⟨⟨b, o, n, t, e1, h _ _ _ _ e2⟩, ih cs (i + 1) k⟩
      all_goals exact ih cs (i + 1) k

theorem BoxAt.cons {ι : Iota} {w : World} {M : Nat → Prop} {i : Nat} {x : V} {c : Value} {l : List V} {cs : List Value} {h : Heap} (k : BoxAt ι (i + 1) l cs) (hd : DV nf ι w M (thaw i 0 x 0 h).1 c) : BoxAt ι i (x :: l) (c :: cs) := by
  cases x <;> simp only [BoxAt] <;> try exact k
  obtain ⟨b, o, n, tot, h1, h2⟩ := hd
  exact ⟨⟨b, o, n, tot, by rw [h2]; simp, h1⟩, k⟩

theorem enterL_ok {B : Base} {w : World} {M : Nat → Prop} : ∀ (args : List V) (vals : List Value) (O : List Nat) (i : Nat) (env : Env) (h : Heap) (ι : Iota) (cv : Nat → Value),
    Mem nf B ι M h w → XVL nf ι00 w M args vals O → O.Nodup → (∀ b ∈ O, ∀ d' v' j', ¬ Owns h ι d' v' j' b) → (∀ b ∈ O, b ∈ B.S0 ∨ B.w0.heap.size ≤ b) →
    (∀ k, i ≤ k → h.cnt k = 0) → (∀ t, (t < i ∨ i + args.length ≤ t) → DV nf ι w M (env t) (cv t)) → (∀ k c, vals[k]? = some c → cv (i + k) = c) →
    ∃ ι', Iota.le ι ι' ∧ Mem nf B ι' M (enterL args i env h).h w ∧ (∀ t, DV nf ι' w M ((enterL args i env h).env t) (cv t)) ∧ BoxAt ι' i args vals
  | [], vals, O, i, env, h, ι, cv, m, hx, hn, hd, hm, hc, he, hv => by
    refine ⟨ι, Iota.le_refl _, m, fun t => he t (by simp only [List.length_nil]; omega), by cases vals <;> trivial⟩
  | x :: l, vals, O, i, env, h, ι, cv, m, hx, hn, hd, hm, hc, he, hv => by
    obtain ⟨c, cs', O1, O2, e1, e2, h1, h2⟩ := hx
    subst e1 e2
    have hn' := List.nodup_append.1 hn
    have h1' : XV nf ι w M x c O1 := XV.stays (Stays.refl _ _) (ι00_le ι) _ _ _ (fun b hb => ⟨rfl, XV.inM _ _ _ h1 b hb⟩) h1
    let h0 : Heap := { h with cnt := upd h.cnt i 1 }
    have m0 : Mem nf B ι M h0 w := by
      have := m.bump i
      rw [hc i (Nat.le_refl _)] at this
      exact this
    have f0 : Free h0 ι i 0 0 := fun j' _ => m.fut i 0 j' (by rw [hc i (Nat.le_refl _)]; exact Nat.le_refl _)
    have c0 : 0 < h0.cnt i := by show 0 < upd _ _ _ _; simp
    obtain ⟨ι1, t1, v1⟩ := thaw_ok (d := i) (ver := 0) x c O1 0 h0 ι m0 h1' hn'.1 (fun b hb d v j o => hd b (by simp [hb]) d v j o) (fun b hb => hm b (by simp [hb])) f0 c0
    obtain ⟨ι2, le2, m2, e2, k2⟩ := enterL_ok l cs' O2 (i + 1) (upd env i (thaw i 0 x 0 h0).1) (thaw i 0 x 0 h0).2.2 ι1 cv t1.mem h2 hn'.2.1
      (fun b hb d v j o => by
        rcases t1.owns _ _ _ _ o with o | o
        · exact hd b (by simp [hb]) d v j o
        · exact hn'.2.2 b o b hb rfl) (fun b hb => hm b (by simp [hb]))
      (fun k hk => by rw [t1.cnt]; show upd _ _ _ _ = _; rw [upd_ne _ _ _ _ (by omega)]; exact hc k (by omega))
      (fun t ht => by
        by_cases e : t = i
        · subst e
          rw [upd_eq, show cv t = c by simpa using hv 0 c rfl]; exact v1
        · rw [upd_ne _ _ _ _ e]
          exact DV.stays (Stays.refl _ _) t1.le _ _ (he t (by simp only [List.length_cons]; omega)))
      (fun k c' hk => by have := hv (k + 1) c' (by simpa using hk); rwa [show i + (k + 1) = i + 1 + k by omega] at this)
    exact ⟨ι2, Iota.le_trans t1.le le2, m2, e2, BoxAt.cons k2 (DV.stays (Stays.refl _ _) le2 _ _ v1)⟩

theorem outsOf_ok {B : Base} {ι : Iota} {M : Nat → Prop} {w : World} : ∀ (args : List V) (vals : List Value) (i : Nat) (h : Heap) (outs : List (List V)) (h' : Heap),
    Mem nf B ι M h w → BoxAt ι i args vals → args.length = vals.length → outsOf args i h = some (outs, h') → ∃ O, Given (nf := nf) B ι M w O h h' ∧ XVL nf ι00 w M (rebox args outs) (ptrs args vals) O := by
  intro args
  induction args with
  | nil =>
    intro vals i h outs h' m hb hl ho
    simp only [outsOf, Option.some.injEq, Prod.mk.injEq] at ho
    obtain ⟨rfl, rfl⟩ := ho
    exact ⟨[], Given.refl m, rfl, rfl⟩
  | cons x l ih =>
    intro vals i h outs h' m hb hl ho
    cases vals with
    | nil => simp at hl
    | cons c cs =>
      simp only [List.length_cons, Nat.add_right_cancel_iff] at hl
      cases x <;> simp only [BoxAt, outsOf, rebox, ptrs] at hb ho ⊢ <;> try exact ih cs (i + 1) h outs h' m hb hl ho
      rename_i row off
      obtain ⟨⟨b, o, n, tot, e1, e2⟩, hb⟩ := hb
      split at ho
      · rename_i r hr
        split at ho
        · cases ho
        · rename_i y hy
          simp only [Option.map_eq_some_iff, Prod.mk.injEq] at ho
          obtain ⟨⟨s1, s2⟩, hs, rfl, rfl⟩ := ho
          have kb := m.blk i 0 0
          rw [hr] at kb
          obtain ⟨b', o', k1, k2, k3, k4, k5⟩ := kb
          rw [e2] at k1; cases k1
          have ow : Owns h ι i 0 0 b := by unfold Owns; rw [hr]; exact ⟨_, _, _, e2⟩
          have g0 := Given.one (nf := nf) m i 0 0 (.inr ⟨b, rfl, ow⟩)
          obtain ⟨O1, g1, x1⟩ := giveM_ok r o _ y.1 y.2 g0.mem k5 hy
          obtain ⟨O2, g2, x2⟩ := ih cs (i + 1) y.2 s1 s2 g1.mem hb hl hs
          exact ⟨([b] ++ O1) ++ O2, (g0.trans g1).trans g2, c, ptrs l cs, b :: O1, O2, rfl, by simp, ⟨b, o, O1, e1, rfl, k2, k3, k4, x1⟩, x2⟩
      · cases ho

def resOne (tmps : Array Value) : ResultVar → Sem Value
  | .tmp t => pure (tmps.getD t undef)
  | .cell a t => do loadVar t (← asAddr (tmps.getD a undef))

theorem results_eq (fn : Func) (tmps : Array Value) : results fn tmps = (do
    let vs ← fn.results.mapM (resOne tmps)
    pure (if h : vs.size = 1 then vs[0] else .tuple vs)) := by
  unfold results
  congr 1

theorem readRes_ok {B : Base} {N : Nat} {ι : Iota} {M : Nat → Prop} {σ : St} {a : Act} {w : World} (rel : RelS nf B N ι M σ a w) : ∀ (rs : List ResultVar) (l : List RV) (vs : List V),
    ResFit P rs l → readAll σ l = some vs → ∃ cs : List Value, (rs.mapM (resOne a.tmps)).run P w = .ok cs w ∧ DVL nf ι w M vs cs
  | [], [], vs, _, hr => by
    simp only [readAll, Option.some.injEq] at hr; subst hr
    exact ⟨[], rfl, rfl⟩
  | .tmp t :: rs, .tmp t' :: l, vs, hf, hr => by
    obtain ⟨rfl, hf⟩ := hf
    simp only [readAll, readRes, Option.map_eq_some_iff] at hr
    obtain ⟨vs', hv, rfl⟩ := hr
    obtain ⟨cs, h1, h2⟩ := readRes_ok rel rs l vs' hf hv
    refine ⟨a.tmps.getD t undef :: cs, ?_, _, cs, rfl, rel.env t, h2⟩
    rw [List.mapM_cons]
    simp only [Sem.run_bind, Sem.run_pure, Result.andThen_ok, h1, resOne]
  | .cell x t :: rs, .cell x' n :: l, vs, hf, hr => by
    obtain ⟨rfl, hn, hf⟩ := hf
    simp only [readAll, readRes] at hr
    split at hr
    · cases hr
    · rename_i u hu
      simp only [Option.map_eq_some_iff] at hr
      obtain ⟨vs', hv, rfl⟩ := hr
      split at hu
      · rename_i row off hrow
        obtain ⟨cs, h1, h2⟩ := readRes_ok rel rs l vs' hf hv
        obtain ⟨b, o, e, hd⟩ := rowAt_ok rel.mem (rel.env x) hrow
        obtain ⟨c, hc, hdv⟩ := partV_ok (P := P) hn hd hu
        refine ⟨c :: cs, ?_, c, cs, rfl, hdv, h2⟩
        rw [List.mapM_cons]
        have hc' : (loadVar t ⟨b, o + off, none⟩).run P w = .ok c w := by
          simpa [Instr.loadAt, Sem.run_bind, Instr.sureAddr, asAddr, Result.andThen] using hc
        simp only [Sem.run_bind, Sem.run_pure, Result.andThen_ok, e, asAddr, hc', h1, resOne]
      · cases hu
  | [], _ :: _, _, hf, _ => hf.elim
  | .tmp _ :: _, [], _, hf, _ => hf.elim
  | .cell _ _ :: _, [], _, hf, _ => hf.elim
  | .tmp _ :: _, .cell _ _ :: _, _, hf, _ => hf.elim
  | .cell _ _ :: _, .tmp _ :: _, _, hf, _ => hf.elim

theorem told_one {vs : List V} {cs : List Value} {ι : Iota} {w : World} {M : Nat → Prop} (h : DVL nf ι w M vs cs) :
    DV nf ι w M (told vs) (if h : cs.toArray.size = 1 then cs.toArray[0] else .tuple cs.toArray) := by
  match vs, cs, h with
  | [], _, h => obtain rfl : _ = [] := h; exact ⟨[], rfl, rfl⟩
  | [v], _, ⟨c, cs', e, h1, h2⟩ => obtain rfl : cs' = [] := h2; subst e; simpa [told] using h1
  | v :: u :: l, _, ⟨c, cs', e, h1, c2, cs2, e2, h3, h4⟩ =>
    subst e2; subst e
    have : ¬ (c :: c2 :: cs2).toArray.size = 1 := by simp
    rw [dif_neg this]
    exact ⟨_, rfl, c, _, rfl, h1, c2, cs2, rfl, h3, h4⟩

theorem DVL.len {ι : Iota} {w : World} {M : Nat → Prop} : ∀ {l : List V} {cs : List Value}, DVL nf ι w M l cs → l.length = cs.length
  | [], _, h => by obtain rfl : _ = [] := h; rfl
  | _ :: _, _, ⟨_, _, e, _, h⟩ => by subst e; simp [DVL.len h]
theorem XVL.len {ι : Iota} {w : World} {M : Nat → Prop} : ∀ {l : List V} {cs : List Value} {O : List Nat}, XVL nf ι w M l cs O → l.length = cs.length
  | [], _, _, h => by obtain ⟨rfl, _⟩ := h; rfl
  | _ :: _, _, _, ⟨_, _, _, _, e, _, _, h⟩ => by subst e; simp [XVL.len h]

/-- What was lent is no block that is given, and none of others'. -/
theorem notLent {B : Base} {ι : Iota} {M : Nat → Prop} {h : Heap} {w : World} (m : Mem nf B ι M h w) {ids : Ids} {b : Nat} (ha : ∀ i ∈ ids, Alive h i) (hM : M b) (hno : ∀ d v j, ¬ Owns h ι d v j b) : ¬ Lent ι ids b := by
  intro hl
  obtain ⟨i, hi, o, n, t, e⟩ := hl
  have k := ha i hi
  have kb := m.blk i.1 i.2.1 i.2.2
  unfold Alive at k
  cases hc : h.bl i.1 i.2.1 i.2.2 with
  | dead => simp only [hc] at k
  | mp es => simp only [hc] at k
  | rows r => exact hno i.1 i.2.1 i.2.2 (by unfold Owns; rw [hc]; exact ⟨_, _, _, e⟩)
  | box r => exact hno i.1 i.2.1 i.2.2 (by unfold Owns; rw [hc]; exact ⟨_, _, _, e⟩)
  | frz r =>
    rw [hc] at kb
    rcases kb with ⟨k1, _⟩ | ⟨b', o2, n2, k1, k2, _⟩
    · rw [k1] at e; cases e
    · rw [k1] at e; cases e; exact k2 hM

theorem giveP_ok {B : Base} {ι : Iota} {M : Nat → Prop} {w : World} {h : Heap} {d v j off : Nat} {c : Value} {v' : V} {h' : Heap} (m : Mem nf B ι M h w) (hv : DV nf ι w M (.ptr d v j 0 off) c) (hg : giveP h d v j off = some (v', h')) :
    ∃ O, Given (nf := nf) B ι M w O h h' ∧ XV nf ι00 w M v' c O := by
  unfold giveP at hg
  split at hg
  · rename_i r hr
    simp only [Option.map_eq_some_iff, Prod.mk.injEq] at hg
    obtain ⟨⟨s1, s2⟩, hs, rfl, rfl⟩ := hg
    obtain ⟨b, o, n, tot, e1, e2⟩ := hv
    have kb := m.blk d v j
    rw [hr] at kb
    obtain ⟨b', o', k1, k2, k3, k4, k5⟩ := kb
    rw [e1] at k1; cases k1
    have ow : Owns h ι d v j b := by unfold Owns; rw [hr]; exact ⟨_, _, _, e1⟩
    have g0 := Given.one (nf := nf) m d v j (.inr ⟨b, rfl, ow⟩)
    obtain ⟨O1, g1, x1⟩ := giveM_ok r o _ s1 s2 g0.mem k5 hs
    exact ⟨[b] ++ O1, g0.trans g1, b, o, O1, by rw [e2]; simp, rfl, k2, k3, k4, x1⟩
  · cases hg

/-- What goes out, goes with its memory. -/
theorem letGo_ok {B : Base} {ι : Iota} {M : Nat → Prop} {w : World} {h : Heap} {x v : V} {c : Value} (m : Mem nf B ι M h w) (hv : DV nf ι w M x c) (hg : letGo true h x = some v) :
    ∃ O h', Given (nf := nf) B ι M w O h h' ∧ XV nf ι00 w M v c O := by
  simp only [letGo, if_true] at hg
  split at hg
  · simp only [Option.map_eq_some_iff] at hg
    obtain ⟨⟨v', h2⟩, hgive, rfl⟩ := hg
    obtain ⟨O, g, xv⟩ := giveP_ok m hv hgive
    exact ⟨O, h2, g, xv⟩
  · simp only [Option.map_eq_some_iff] at hg
    obtain ⟨⟨v', h2⟩, hgive, rfl⟩ := hg
    obtain ⟨O, g, xv⟩ := give_ok _ _ _ _ _ m hv hgive
    exact ⟨O, h2, g, xv⟩

theorem runs_ok {abi : Abi} {f : Nat} {g : FuncId} {fn : Func} {F : AFun} (hf : P.funcs[g]? = some fn) (hfit : FunFit P nf abi fn F) (hnf : nf f = some g)
    {gv : Bool} {args : List V} {v : V} {outs : List (List V)} (hr : Runs abi (CallsOK P nf) F gv args v outs) : CallsOK P nf f args v outs := by
  obtain ⟨e, σ, vs, h1, hlen, hex, he, hread, hout, hgo⟩ := hr
  intro g' hg' w M0 vals S hlow hoff hnd hx
  rw [hnf] at hg'; cases hg'
  obtain ⟨c, hbody, hcode⟩ := hfit.body
  refine calls_of_wp hf hbody ?_
  have hsz : vals.length ≤ fn.ntmps := by rw [← XVL.len hx, hfit.n]; exact hlen
  let tmps : Array Value := vals.toArray ++ Array.replicate (fn.ntmps - vals.toArray.size) undef
  let M : Nat → Prop := fun b => M0 b ∨ b ∈ S
  let B0 : Base := ⟨w, M0, S, ι00⟩
  have m0 : Mem nf B0 ι00 M empty w :=
    ⟨⟨hlow, hoff⟩, fun _ _ _ => trivial, fun _ _ _ _ _ _ _ o => o.elim, fun _ _ _ _ o => o.elim, fun _ _ _ _ => ⟨rfl, rfl⟩,
      ⟨rfl, rfl, rfl, Nat.le_refl _, fun _ _ _ => rfl, fun _ _ => rfl⟩, fun b hb => .inl hb, Iota.le_refl _⟩
  obtain ⟨ι, hle, m1, henv, hbox⟩ := enterL_ok args vals S 0 (fun _ => unit) empty ι00 (fun t => tmps.getD t undef) m0 hx hnd (fun _ _ _ _ _ o => o.elim) (fun b hb => .inl hb) (fun _ _ => rfl)
    (fun t ht => by
      have : tmps.getD t undef = undef := by
        have hlt : vals.length ≤ t := by have := XVL.len hx; omega
        simp only [tmps, Array.getD_eq_getD_getElem?]
        rw [Array.getElem?_append_right (by simpa using hlt)]
        rw [Array.getElem?_replicate]
        split <;> rfl
      show DV nf ι00 w M unit (tmps.getD t undef)
      rw [this]; exact DV.unit)
    (fun k c hk => by
      have hlt : k < vals.length := (List.getElem?_eq_some_iff.1 hk).1
      simp only [tmps, Array.getD_eq_getD_getElem?, Nat.zero_add]
      rw [Array.getElem?_append_left (by simpa using hlt)]
      simp [hk])
  let B : Base := ⟨w, M0, S, ι⟩
  have m2 : Mem nf B ι M (enter args).h w := ⟨⟨m1.wf.low, m1.wf.off⟩, m1.blk, m1.inj, m1.mine, m1.fut, ⟨m1.keep.os, m1.keep.tape, m1.keep.output, m1.keep.size, m1.keep.block, m1.keep.shape⟩, m1.foreign, Iota.le_refl _⟩
  have rel : RelS nf B F.n ι M (enter args) { tmps := tmps, defers := [] } w := ⟨m2, henv, by simp only [tmps, Array.size_append, Array.size_replicate, List.size_toArray]; rw [← hfit.n]; omega, rfl⟩
  refine wp_mono ((code_ok hex).1 c ι M _ w hcode rel) ?_
  rintro x a' w' ⟨hxe, ι', M', rel'⟩
  have hfin : bodyPost P fn (fun e w' => ∃ c S', e = .returned c ∧ S'.Nodup ∧ (∀ b ∈ S', b ∈ S ∨ w.heap.size ≤ b) ∧ CallKeeps w w' S ∧
      XVL nf ι00 w' (fun b => M0 b ∨ b ∈ S') (v :: rebox args outs) (c :: ptrs args vals) S') .ret a' w' := by
    obtain ⟨cs, hrun, hdv⟩ := readRes_ok rel' _ _ _ hfit.res hread
    refine ⟨rel'.defers, (if h : cs.toArray.size = 1 then cs.toArray[0] else .tuple cs.toArray), ?_, ?_⟩
    · rw [results_eq]
      have : (fn.results.mapM (resOne a'.tmps)).run P w' = .ok cs.toArray w' := by
        rw [Array.mapM_eq_mapM_toList]
        show Sem.run P (List.mapM (resOne a'.tmps) fn.results.toList >>= fun l => pure l.toArray) w' = _
        simp only [Sem.run_bind, hrun, Result.andThen_ok, Sem.run_pure]
      simp only [Sem.run_bind, this, Result.andThen_ok, Sem.run_pure]
    · have htold := told_one hdv
      obtain ⟨O2, g2, x2⟩ := outsOf_ok args vals 0 σ.h outs h1 rel'.mem (BoxAt.le rel'.mem.ext _ _ _ hbox) (XVL.len hx) hout
      have hkeep : CallKeeps w w' S := ⟨rel'.mem.keep.os, rel'.mem.keep.tape, rel'.mem.keep.output, rel'.mem.keep.size, rel'.mem.keep.block, rel'.mem.keep.shape⟩
      cases gv with
      | true =>
        obtain ⟨O1, h2, g1, x1⟩ := letGo_ok g2.mem htold hgo
        have hnd12 : (O1 ++ O2).Nodup := List.nodup_append.2 ⟨g1.nodup, g2.nodup, fun b hb b' hb' e => by
          subst e
          obtain ⟨d, vv, j, o⟩ := g1.was b hb
          exact g2.isnt b hb' _ _ _ o⟩
        have hown : ∀ b ∈ O1 ++ O2, ∃ d v j, Owns σ.h ι' d v j b := by
          intro b hb
          rcases List.mem_append.1 hb with hb | hb
          · obtain ⟨d, vv, j, o⟩ := g1.was b hb; exact ⟨d, vv, j, g2.owns _ _ _ _ o⟩
          · exact g2.was b hb
        have hsub : ∀ b, (M0 b ∨ b ∈ O1 ++ O2) → M' b := by
          rintro b (hb | hb)
          · exact rel'.mem.foreign b hb
          · obtain ⟨d, vv, j, o⟩ := hown b hb; exact (rel'.mem.ownsM o).1
        refine ⟨_, O1 ++ O2, rfl, hnd12, fun b hb => ?_, hkeep, _, _, O1, O2, rfl, rfl, ?_, ?_⟩
        · obtain ⟨d, vv, j, o⟩ := hown b hb; exact rel'.mem.mine _ _ _ _ o
        · exact XV.stays (Stays.sub hsub) (Iota.le_refl _) _ _ _ (fun b hb => ⟨rfl, .inr (by simp [hb])⟩) x1
        · exact XVL.stays (Stays.sub hsub) (Iota.le_refl _) _ _ _ (fun b hb => ⟨rfl, .inr (by simp [hb])⟩) x2
      | false =>
        simp only [letGo, Bool.false_eq_true, if_false, Option.map_eq_some_iff] at hgo
        obtain ⟨⟨v', ids⟩, hlend, rfl⟩ := hgo
        have hd := lend_ok g2.mem _ _ _ _ htold hlend
        have hal := lendL_alive.lend_alive _ _ hlend
        have hsub : ∀ b, (M0 b ∨ b ∈ O2) → M' b := by
          rintro b (hb | hb)
          · exact rel'.mem.foreign b hb
          · obtain ⟨d, vv, j, o⟩ := g2.was b hb; exact (rel'.mem.ownsM o).1
        have hsub2 : ∀ b, (M0 b ∨ b ∈ O2) → Less ι' M' ids b := fun b hb => ⟨hsub b hb, notLent g2.mem hal (hsub b hb) (fun d vv j o => by
          rcases hb with hb | hb
          · exact g2.mem.notForeign o hb
          · exact g2.isnt b hb _ _ _ o)⟩
        refine ⟨_, O2, rfl, g2.nodup, fun b hb => ?_, hkeep, _, _, [], O2, rfl, rfl, ?_, ?_⟩
        · obtain ⟨d, vv, j, o⟩ := g2.was b hb; exact rel'.mem.mine _ _ _ _ o
        · exact DC.toXV _ _ (DC.stays (Stays.sub hsub2) _ _ hd)
        · exact XVL.stays (Stays.sub hsub) (Iota.le_refl _) _ _ _ (fun b hb => ⟨rfl, .inr hb⟩) x2
  rcases he with rfl | rfl
  · cases x <;> first | exact hxe.elim | exact hfin
  · cases x <;> first | exact hxe.elim | exact hfin

end
end Fo
