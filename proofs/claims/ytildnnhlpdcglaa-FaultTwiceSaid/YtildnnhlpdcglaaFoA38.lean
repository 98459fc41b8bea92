/-
  The operations: least and most, make, maps (part 38).
-/
import Derived.Test.YtildnnhlpdcglaaFoA37
namespace Fo
open Go
set_option linter.unusedVariables false
set_option linter.unusedSimpArgs false

section
variable {nf : Nm} {P : Program}

theorem DVL.ints {ι : Iota} {w : World} {M : Nat → Prop} {k : IntKind} : ∀ (l : List V) (cs : List Value) (ns : List Int), DVL nf ι w M l cs → allInts k l = some ns → cs = ns.map (Value.int k)
  | [], cs, ns, h, e => by
    have h : cs = [] := h
    simp only [allInts, Option.some.injEq] at e
    subst h e; rfl
  | v :: l, cs, ns, ⟨c, cs', e1, h1, h2⟩, e => by
    cases v <;> simp only [allInts, reduceCtorEq] at e
    rename_i k' n
    split at e
    · rename_i hk
      subst hk
      simp only [Option.map_eq_some_iff] at e
      obtain ⟨ms, hm, rfl⟩ := e
      rw [e1, DVL.ints l cs' ms h2 hm, show c = _ from h1]; rfl
    · cases e

theorem run_most {w : World} (k : IntKind) : ∀ (ns : List Int) (a : Int), ((ns.map (Value.int k)).foldlM Builtin.max2 (.int k a)).run P w = .ok (.int k (ns.foldl (fun x y => if x < y then y else x) a)) w
  | [], a => rfl
  | n :: ns, a => by
    simp only [List.map_cons, List.foldlM_cons, Sem.run_bind, Builtin.max2, Sem.run_pure, Result.andThen_ok, List.foldl_cons, gt_iff_lt]
    exact run_most k ns _
theorem run_least {w : World} (k : IntKind) : ∀ (ns : List Int) (a : Int), ((ns.map (Value.int k)).foldlM Builtin.min2 (.int k a)).run P w = .ok (.int k (ns.foldl (fun x y => if y < x then y else x) a)) w
  | [], a => rfl
  | n :: ns, a => by
    simp only [List.map_cons, List.foldlM_cons, Sem.run_bind, Builtin.min2, Sem.run_pure, Result.andThen_ok, List.foldl_cons]
    exact run_least k ns _

theorem tells_most {B : Base} {ι : Iota} {M : Nat → Prop} {h : Heap} {a : Act} {w : World} (m : Mem nf B ι M h w) {o : Oper} {xs : Array Operand} {ts : Array TypeId} (ho : o.op = .call { callee := .builtin .max, args := xs, argTypes := ts }) {vs : List V} {r : Res}
    (hx : DVL nf ι w M vs (xs.toList.map a.eval)) (hr : comp .most vs h = some r) : ∃ c w' M', Tells P o a w c w' ∧ ResOK nf B ι M w false r c w' M' := by
  cases vs with
  | nil => simp [comp] at hr
  | cons v vs =>
    cases v <;> simp only [comp, reduceCtorEq] at hr
    rename_i k n
    simp only [Option.map_eq_some_iff] at hr
    obtain ⟨ns, hn, rfl⟩ := hr
    obtain ⟨c, cs, e, h1, h2⟩ := hx
    have e2 := DVL.ints _ _ _ h2 hn
    rw [show c = .int k n from h1, e2] at e
    have ea : (xs.map a.eval).toList = .int k n :: ns.map (Value.int k) := by simpa using e
    refine ⟨_, _, _, .inl (by simp only [execOp, ho, resolve, invoke, builtin, Builtin.max_, Sem.run_bind, Sem.run_pure, Result.andThen_ok, ea, run_most]), ResOK.plain m rfl⟩
theorem tells_least {B : Base} {ι : Iota} {M : Nat → Prop} {h : Heap} {a : Act} {w : World} (m : Mem nf B ι M h w) {o : Oper} {xs : Array Operand} {ts : Array TypeId} (ho : o.op = .call { callee := .builtin .min, args := xs, argTypes := ts }) {vs : List V} {r : Res}
    (hx : DVL nf ι w M vs (xs.toList.map a.eval)) (hr : comp .least vs h = some r) : ∃ c w' M', Tells P o a w c w' ∧ ResOK nf B ι M w false r c w' M' := by
  cases vs with
  | nil => simp [comp] at hr
  | cons v vs =>
    cases v <;> simp only [comp, reduceCtorEq] at hr
    rename_i k n
    simp only [Option.map_eq_some_iff] at hr
    obtain ⟨ns, hn, rfl⟩ := hr
    obtain ⟨c, cs, e, h1, h2⟩ := hx
    have e2 := DVL.ints _ _ _ h2 hn
    rw [show c = .int k n from h1, e2] at e
    have ea : (xs.map a.eval).toList = .int k n :: ns.map (Value.int k) := by simpa using e
    refine ⟨_, _, _, .inl (by simp only [execOp, ho, resolve, invoke, builtin, Builtin.min_, Sem.run_bind, Sem.run_pure, Result.andThen_ok, ea, run_least]), ResOK.plain m rfl⟩

theorem noCap_ok {B : Base} {ι : Iota} {M : Nat → Prop} {h : Heap} {w : World} (m : Mem nf B ι M h w) {x : V} {c : Value} (hx : DV nf ι w M x c) (h0 : noCap h x = true) : ∃ ad, c = .slice ad 0 0 := by
  unfold noCap at h0
  split at h0
  · subst h0; exact ⟨none, hx⟩
  · obtain ⟨_, ad, e⟩ := hx; exact ⟨ad, e⟩
  · rename_i d v j fr len
    split at h0
    · rename_i rr hb
      have k := m.blk d v j
      rw [hb] at k
      rcases k with ⟨k1, k2⟩ | ⟨hne, _⟩
      · rcases hx with ⟨_, rfl, rfl, ad, e⟩ | ⟨b, o, n, tot, a, cap, e, N, h1, _⟩
        · exact ⟨ad, e⟩
        · rw [k1] at h1; cases h1
      · cases rr with
        | nil => exact absurd rfl hne
        | cons => simp at h0
    · cases h0
  · cases h0

theorem tells_capE {B : Base} {ι : Iota} {M : Nat → Prop} {h : Heap} {a : Act} {w : World} (m : Mem nf B ι M h w) {o : Oper} {x : Operand} {t e : TypeId} (ho : o.op = .call { callee := .builtin .cap, args := #[x], argTypes := #[t] }) {vx : V} {r : Res}
    (ht : P.underlying t = some (.slice e)) (hx : DV nf ι w M vx (a.eval x)) (hr : comp .capE [vx] h = some r) : ∃ c w' M', Tells P o a w c w' ∧ ResOK nf B ι M w false r c w' M' := by
  simp only [comp] at hr
  split at hr
  · rename_i h0
    cases hr
    obtain ⟨ad, e1⟩ := noCap_ok m hx h0
    refine ⟨.int .i64 0, w, M, .inl ?_, ResOK.plain m rfl⟩
    simp [execOp, ho, resolve, invoke, builtin, Builtin.cap_, run_underlying ht, e1, goInt]
  · cases hr

theorem run_sliceAt3 {w : World} {t e : TypeId} {n : Nat} (ht : P.underlying t = some (.slice e)) (hn : szOf P e = some n) {ad : Option Addr} {len cap : Nat} {l h m : Int}
    (h1 : 0 ≤ l) (h2 : l ≤ h) (h3 : h ≤ m) (h4 : m ≤ cap) : ∃ c, (Instr.sliceAt t (.slice ad len cap) (some (.int .i64 l)) (some (.int .i64 h)) (some (.int .i64 m))).run P w = .ok c w := by
  have e1 : (Instr.sliceBound (.int .i64 h) m.toNat .slice3B).run P w = .ok h.toNat w := by simp [Instr.sliceBound, asIntOf, h3]; omega
  have e2 : (Instr.sliceBound (.int .i64 l) h.toNat .slice3C).run P w = .ok l.toNat w := by simp [Instr.sliceBound, asIntOf, h1]; omega
  have e3 : (Instr.sliceBound (.int .i64 m) cap .slice3Acap).run P w = .ok m.toNat w := by simp [Instr.sliceBound, asIntOf, h4]; omega
  simp [Instr.sliceAt, run_underlying ht, Instr.slice, Instr.sliceBounds, run_sizeOf' hn, e1, e2, e3]

theorem tells_slice3 {B : Base} {ι : Iota} {M : Nat → Prop} {h : Heap} {a : Act} {w : World} (m : Mem nf B ι M h w) {o : Oper} {t e : TypeId} {x lo hi mx : Operand} (ho : o.op = .slice t x (some lo) (some hi) (some mx)) {n : Nat}
    (ht : P.underlying t = some (.slice e)) (hn : szOf P e = some n) {vx vl vh vm : V} {r : Res} (hx : DV nf ι w M vx (a.eval x)) (hl : DV nf ι w M vl (a.eval lo)) (hh : DV nf ι w M vh (a.eval hi)) (hm : DV nf ι w M vm (a.eval mx))
    (hr : comp .slice3 [vx, vl, vh, vm] h = some r) : ∃ c w' M', Tells P o a w c w' ∧ ResOK nf B ι M w false r c w' M' := by
  simp only [comp] at hr
  unfold slice3V at hr
  split at hr
  · rename_i d v j fr len ia ib ic
    split at hr
    · rename_i rr hrr
      split at hr
      · rename_i hc
        obtain ⟨c1, c2, c3, c4⟩ := hc
        cases hr
        have hc' : ∀ ad ln cap, a.eval x = .slice ad ln cap → ic ≤ cap → ∃ c w' M', Tells P o a w c w' ∧ ResOK nf B ι M w false ⟨.any, h, [], []⟩ c w' M' := by
          intro ad ln cap e1 hle
          obtain ⟨c, hrun⟩ := run_sliceAt3 (P := P) (w := w) (ad := ad) (len := ln) (cap := cap) ht hn c1 c2 c3 hle
          refine ⟨c, w, M, .inl ?_, ResOK.plain m trivial⟩
          simp only [execOp, ho, Option.map_some, e1, show a.eval lo = _ from hl, show a.eval hi = _ from hh, show a.eval mx = _ from hm, Sem.run_bind, hrun, Result.andThen_ok, Sem.run_pure]
        rcases hx with ⟨h1, rfl, rfl, ad, ex⟩ | ⟨bb, o', n', tot, ad, cap, e', N, h1, ex, h3, h4, h5, h6, h7, h8⟩
        · have hr0 : rr = [] := by
            have k := m.blk d v j
            cases hq : h.bl d v j with
            | dead => rw [hq] at hrr; cases hrr
            | box x => rw [hq] at hrr; cases hrr
            | mp x => rw [hq] at hrr; cases hrr
            | rows x =>
              rw [hq] at hrr k; cases hrr
              rcases k with ⟨_, k2⟩ | ⟨_, b', o2, n2, e2, N2, k1, _⟩
              · exact k2
              · rw [k1] at h1; cases h1
            | frz x =>
              rw [hq] at hrr k; cases hrr
              rcases k with ⟨_, k2⟩ | ⟨b', o2, n2, k1, _⟩
              · exact k2
              · rw [k1] at h1; cases h1
          subst hr0
          simp only [List.length_nil] at c4
          exact hc' _ _ _ ex (by omega)
        · have ht2 : tot = rr.length := by
            have k := m.blk d v j
            cases hq : h.bl d v j with
            | dead => rw [hq] at hrr; cases hrr
            | box x => rw [hq] at hrr; cases hrr
            | mp x => rw [hq] at hrr; cases hrr
            | rows x =>
              rw [hq] at hrr k; cases hrr
              rcases k with ⟨k1, _⟩ | ⟨_, b', o2, n2, e2, N2, k1, _⟩
              · rw [k1] at h1; cases h1
              · rw [k1] at h1; cases h1; rfl
            | frz x =>
              rw [hq] at hrr k; cases hrr
              rcases k with ⟨k1, _⟩ | ⟨b', o2, n2, k1, _⟩
              · rw [k1] at h1; cases h1
              · rw [k1] at h1; cases h1; rfl
          exact hc' _ _ _ ex (by omega)
      · cases hr
    · cases hr
  · cases hr

theorem tells_mkmap {B : Base} {ι : Iota} {M : Nat → Prop} {h : Heap} {a : Act} {w : World} (m : Mem nf B ι M h w) {o : Oper} {t : TypeId} (ho : o.op = .makeMap t none) {r : Res}
    (hr : comp .mkmap [] h = some r) : ∃ c w' M', Tells P o a w c w' ∧ ResOK nf B ι M w true r c w' M' := by
  simp only [comp, Option.some.injEq] at hr
  subst hr
  refine ⟨.map (some w.heap.size), _, plusM M w, .inl ?_, ResOK.alloc m (.map #[] 0) (ids := []) (by simp) ⟨w.heap.size, #[], 0, rfl, rfl, ⟨.inr rfl, ?_⟩, heap_alloc_eq, rfl, rfl⟩⟩
  · simp only [execOp, ho, Option.map_none]; rfl
  · rintro ⟨i, hi, _⟩; cases hi

end
end Fo
