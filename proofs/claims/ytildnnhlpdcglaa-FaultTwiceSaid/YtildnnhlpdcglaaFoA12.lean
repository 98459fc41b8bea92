/-
  The operations: equality, lengths, stores (part 12).
-/
import Derived.Test.YtildnnhlpdcglaaFoA11
namespace Fo
open Go
set_option linter.unusedVariables false
set_option linter.unusedSimpArgs false

section
variable {nf : Nm} {P : Program}

theorem sigOK_of {ι : Iota} {w : World} {M : Nat → Prop} : ∀ (s : List (Option IntKind)) (l : List V) (cs : List Value), DVL nf ι w M l cs → okS s l = true → SigOK s cs
  | [], [], cs, h, _ => h
  | [], x :: l, cs, h, e => by simp [okS] at e
  | none :: s, [], cs, h, e => by simp [okS] at e
  | some k :: s, [], cs, h, e => by simp [okS] at e
  | none :: s, x :: l, cs, ⟨c, cs', e1, h1, h2⟩, e => by
    cases x <;> simp only [okS, Bool.false_eq_true] at e
    rename_i b
    exact ⟨b, cs', by rw [e1, show c = _ from h1], sigOK_of s l cs' h2 e⟩
  | some k :: s, x :: l, cs, ⟨c, cs', e1, h1, h2⟩, e => by
    cases x <;> simp only [okS, Bool.false_eq_true, Bool.and_eq_true, beq_iff_eq] at e
    · rename_i k' n
      obtain ⟨rfl, e⟩ := e
      exact ⟨n, cs', by rw [e1, show c = _ from h1], sigOK_of s l cs' h2 e⟩
    · rename_i k' q lo hi m r
      obtain ⟨rfl, e⟩ := e
      exact ⟨evalE nf q, cs', by rw [e1, h1.1], sigOK_of s l cs' h2 e⟩

theorem eqC_eq {ι : Iota} {w : World} {M : Nat → Prop} : ∀ (s : List (Option IntKind)) (l m : List V) (cs ds : List Value) (q : Bool), DVL nf ι w M l cs → DVL nf ι w M m ds → okS s l = true → okS s m = true → eqC l m = some q → q = eqVs cs ds
  | [], [], m, cs, ds, q, h, k, e, f, g => by
    cases m with
    | nil =>
      have h : cs = [] := h
      have k : ds = [] := k
      subst h k
      simp only [eqC, Option.some.injEq] at g
      rw [← g]; rfl
    | cons => simp [okS] at f
  | [], _ :: _, m, cs, ds, q, h, k, e, f, g => by simp [okS] at e
  | none :: s, [], m, cs, ds, q, h, k, e, f, g => by simp [okS] at e
  | some _ :: s, [], m, cs, ds, q, h, k, e, f, g => by simp [okS] at e
  | none :: s, x :: l, [], cs, ds, q, h, k, e, f, g => by simp [okS] at f
  | some _ :: s, x :: l, [], cs, ds, q, h, k, e, f, g => by simp [okS] at f
  | none :: s, x :: l, y :: m, cs, ds, q, ⟨c, cs', e1, h1, h2⟩, ⟨d, ds', e2, k1, k2⟩, e, f, g => by
    cases x <;> simp only [okS, Bool.false_eq_true] at e
    cases y <;> simp only [okS, Bool.false_eq_true] at f
    rename_i a b
    rw [e1, e2, show c = _ from h1, show d = _ from k1]
    simp only [eqC] at g
    simp only [eqVs, eq1s]
    split at g
    · rename_i hab
      rw [hab, Bool.true_and]; exact eqC_eq s l m cs' ds' q h2 k2 e f g
    · rename_i hab
      simp only [Bool.not_eq_true] at hab
      rw [hab]; cases g; rfl
  | some k0 :: s, x :: l, y :: m, cs, ds, q, ⟨c, cs', e1, h1, h2⟩, ⟨d, ds', e2, k1, k2⟩, e, f, g => by
    have key : ∀ (ka kb : IntKind) (a b : Int) (z : Bool), c = .int ka a → d = .int kb b → z = (a == b) → okS s l = true → okS s m = true → (if z then eqC l m else some false) = some q → q = eqVs cs ds := by
      intro ka kb a b z ec ed hz el em hg
      rw [e1, e2, ec, ed]
      simp only [eqVs, eq1s]
      rw [← hz]
      cases z with
      | true => simpa using eqC_eq s l m cs' ds' q h2 k2 el em (by simpa using hg)
      | false => simp at hg; simp [hg]
    have sy : ∀ ka kb ea eb l1 u1 l2 u2, symOf x = some (ka, ea, l1, u1) → symOf y = some (kb, eb, l2, u2) → okS s l = true → okS s m = true →
        (match symEq ea eb l1 u1 l2 u2 with | some true => eqC l m | some false => some false | none => none) = some q → q = eqVs cs ds := by
      intro ka kb ea eb l1 u1 l2 u2 ex ey el em hg
      obtain ⟨x1, x2, x3⟩ := symOf_ok ex h1
      obtain ⟨y1, y2, y3⟩ := symOf_ok ey k1
      cases hq : symEq ea eb l1 u1 l2 u2 with
      | none => rw [hq] at hg; cases hg
      | some z =>
        rw [hq] at hg
        refine key _ _ _ _ z x1 y1 (symEq_ok hq x2 x3 y2 y3) el em ?_
        cases z <;> simpa using hg
    cases x <;> simp only [okS, Bool.false_eq_true, Bool.and_eq_true, beq_iff_eq] at e <;> cases y <;> simp only [okS, Bool.false_eq_true, Bool.and_eq_true, beq_iff_eq] at f
    · rename_i ka a kb b
      exact key ka kb a b (a == b) h1 k1 rfl e.2 f.2 (by simpa only [eqC] using g)
    · exact sy _ _ _ _ _ _ _ _ rfl rfl e.2 f.2 (by simp only [eqC, symOf] at g; split at g <;> rename_i hq <;> rw [hq] <;> exact g)
    · exact sy _ _ _ _ _ _ _ _ rfl rfl e.2 f.2 (by simp only [eqC, symOf] at g; split at g <;> rename_i hq <;> rw [hq] <;> exact g)
    · exact sy _ _ _ _ _ _ _ _ rfl rfl e.2 f.2 (by simp only [eqC, symOf] at g; split at g <;> rename_i hq <;> rw [hq] <;> exact g)

/-- A flat value of a type. -/
theorem flat_mk {ι : Iota} {w : World} {M : Nat → Prop} {d : Nat} {t : TypeId} {agg : Bool} {s : List (Option IntKind)} (hs : sigT P d t = some s) (ha : aggOf P t = some agg) {x : V} {c : Value} {l : List V}
    (hx : DV nf ι w M x c) (hf : flatC agg x = some l) (ho : okS s l = true) : ∃ cs, DVL nf ι w M l cs ∧ c = mkV P t cs := by
  cases x <;> simp only [flatC, reduceCtorEq] at hf
  · cases agg <;> simp at hf
    subst hf
    exact ⟨[c], ⟨c, [], rfl, hx, rfl⟩, by simp [mkV, ha]⟩
  · cases agg <;> simp at hf
    subst hf
    exact ⟨[c], ⟨c, [], rfl, hx, rfl⟩, by simp [mkV, ha]⟩
  · cases agg <;> simp at hf
    subst hf
    exact ⟨[c], ⟨c, [], rfl, hx, rfl⟩, by simp [mkV, ha]⟩
  · cases agg <;> simp at hf
    subst hf
    obtain ⟨_, cs, e, hd⟩ := hx
    exact ⟨cs, hd, by simp [mkV, ha, e]⟩

theorem tells_eqv {B : Base} {ι : Iota} {M : Nat → Prop} {h : Heap} {a : Act} {w : World} (m : Mem nf B ι M h w) {o : Oper} {neg : Bool} {op : BinOp} (hop : op = if neg then .neq else .eql) {xt yt : TypeId} {x y : Operand} (ho : o.op = .binOp op xt x y yt) {d : Nat} {agg : Bool} {s : List (Option IntKind)}
    (hd : d ≤ Op.maxDepth) (hs : sigT P d xt = some s) (ha : aggOf P xt = some agg) (hb : agg = false → s = [none]) (hg : agg = true → P.eqGuardType P.depth xt = false) {vx vy : V} {r : Res}
    (hx : DV nf ι w M vx (a.eval x)) (hy : DV nf ι w M vy (a.eval y)) (hr : comp (.eqv agg s neg) [vx, vy] h = some r) : ∃ c w' M', Tells P o a w c w' ∧ ResOK nf B ι M w false r c w' M' := by
  simp only [comp] at hr
  split at hr
  · rename_i l1 l2 hl hm
    split at hr
    · rename_i hok
      simp only [Bool.and_eq_true] at hok
      simp only [Option.map_eq_some_iff] at hr
      obtain ⟨z0, hz0, rfl⟩ := hr
      obtain ⟨cs, hcs, ecs⟩ := flat_mk (P := P) hs ha hx hl hok.1
      obtain ⟨ds, hds, eds⟩ := flat_mk (P := P) hs ha hy hm hok.2
      have heq := eqT_ok d xt s Op.maxDepth cs ds w hs hd (sigOK_of s _ _ hcs hok.1) (sigOK_of s _ _ hds hok.2)
      have hc := eqC_eq s _ _ _ _ _ hcs hds hok.1 hok.2 hz0
      have hguard : (eqGuard op xt x y (a.eval x) (a.eval y)).run P w = .ok () w := by
        cases agg with
        | true =>
          have e1 : a.eval x = .agg cs.toArray := by rw [ecs]; simp [mkV, ha]
          have e2 : a.eval y = .agg ds.toArray := by rw [eds]; simp [mkV, ha]
          rw [e1, e2]
          exact run_eqGuard_agg w op xt x y _ _ (hg rfl)
        | false =>
          have hs' := hb rfl
          subst hs'
          obtain ⟨b1, q1, f1, _⟩ := sigOK_of _ _ _ hcs hok.1
          have e1 : a.eval x = .bool b1 := by rw [ecs, f1]; simp [mkV, ha]
          rw [e1]
          cases op <;> simp [eqGuard]
      have hbin : (binOp op xt (a.eval x) (a.eval y)).run P w = .ok (.bool (if neg then !z0 else z0)) w := by
        have e0 : ∀ (z : Bool), (binOp (if z then .neq else .eql) xt (a.eval x) (a.eval y)) = (fun q => Value.bool (if z then !q else q)) <$> Op.equal xt (a.eval x) (a.eval y) := by
          intro z
          cases agg with
          | true =>
            have e1 : a.eval x = .agg cs.toArray := by rw [ecs]; simp [mkV, ha]
            have e2 : a.eval y = .agg ds.toArray := by rw [eds]; simp [mkV, ha]
            rw [e1, e2]
            cases z <;> simp [binOp]
          | false =>
            have hs' := hb rfl
            subst hs'
            obtain ⟨b1, q1, f1, _⟩ := sigOK_of _ _ _ hcs hok.1
            obtain ⟨b2, q2, f2, _⟩ := sigOK_of _ _ _ hds hok.2
            have e1 : a.eval x = .bool b1 := by rw [ecs, f1]; simp [mkV, ha]
            have e2 : a.eval y = .bool b2 := by rw [eds, f2]; simp [mkV, ha]
            rw [e1, e2]
            cases z <;> simp [binOp]
        rw [hop, e0]
        rw [ecs, eds, Sem.run_map]
        simp only [Op.equal, heq, Result.andThen_ok, ← hc]
      exact ⟨_, w, M, .inl (by simp only [execOp, ho, Sem.run_bind, hguard, Result.andThen_ok, hbin, Sem.run_pure]), ResOK.plain m rfl⟩
    · cases hr
  · cases hr

theorem tells_len {B : Base} {ι : Iota} {M : Nat → Prop} {h : Heap} {a : Act} {w : World} (m : Mem nf B ι M h w) {o : Oper} {x : Operand} {t e : TypeId} {rest : Array TypeId} (ho : o.op = .call { callee := .builtin .len, args := #[x], argTypes := #[t] }) {vx : V} {r : Res}
    (ht : P.underlying t = some (.slice e)) (hx : DV nf ι w M vx (a.eval x)) (hr : comp .len [vx] h = some r) : ∃ c w' M', Tells P o a w c w' ∧ ResOK nf B ι M w false r c w' M' := by
  have key : ∀ ad n cap, a.eval x = .slice ad n cap → (execOp a.eval o).run P w = .ok (.value (.int .i64 n)) w := by
    intro ad n cap e1
    simp [execOp, ho, resolve, invoke, builtin, Builtin.len_, run_underlying ht, e1, goInt]
  simp only [comp] at hr
  split at hr
  · cases hr
    obtain ⟨ad, cap, e1, _⟩ := hx
    exact ⟨_, _, _, .inl (key _ _ _ e1), ResOK.plain m rfl⟩
  · cases hr
    rcases hx with ⟨_, _, rfl, ad, e1⟩ | ⟨b, o', n, tot, ad, cap, e', N, _, e1, _⟩
    · exact ⟨_, _, _, .inl (key _ _ _ e1), ResOK.plain m rfl⟩
    · exact ⟨_, _, _, .inl (key _ _ _ e1), ResOK.plain m rfl⟩
  · cases hr
    obtain ⟨_, ad, e1⟩ := hx
    exact ⟨_, _, _, .inl (key _ _ _ e1), ResOK.plain m rfl⟩
  · rename_i n
    cases hr
    cases n with
    | true => exact ⟨_, _, _, .inl (key _ _ _ hx), ResOK.plain m rfl⟩
    | false => obtain ⟨ad, cap, e1⟩ := hx; exact ⟨_, _, _, .inl (key _ _ _ e1), ResOK.plain m rfl⟩
  · cases hr

theorem tells_lenA {B : Base} {ι : Iota} {M : Nat → Prop} {h : Heap} {a : Act} {w : World} (m : Mem nf B ι M h w) {o : Oper} {x : Operand} {t e : TypeId} {n : Nat} (ho : o.op = .call { callee := .builtin .len, args := #[x], argTypes := #[t] }) {vx : V} {r : Res}
    (ht : P.underlying t = some (.array n e)) (hr : comp (.lenA n) [vx] h = some r) : ∃ c w' M', Tells P o a w c w' ∧ ResOK nf B ι M w false r c w' M' := by
  simp only [comp, Option.some.injEq] at hr
  subst hr
  exact ⟨.int .i64 n, w, M, .inl (by simp [execOp, ho, resolve, invoke, builtin, Builtin.len_, run_underlying ht, goInt]), ResOK.plain m rfl⟩

end
end Fo
