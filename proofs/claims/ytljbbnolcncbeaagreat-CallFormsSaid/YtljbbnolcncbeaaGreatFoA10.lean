/-
  The operations: more of them (part 10).
-/
import Derived.Test.YtljbbnolcncbeaaGreatFoA9
namespace Fo
open Go
set_option linter.unusedVariables false
set_option linter.unusedSimpArgs false

section
variable {nf : Nat → Option FuncId} {P : Program}

theorem sub_lt_of_mul {i len n cap N o : Nat} (h1 : i < len) (h2 : len ≤ cap) (h3 : o + cap * n ≤ N) : o + i * n + n ≤ N := by
  have : (i + 1) * n ≤ cap * n := Nat.mul_le_mul_right n (by omega)
  rw [Nat.add_mul, Nat.one_mul] at this
  omega

theorem allRows_ok {B : Base} {ι : Iota} {M : Nat → Prop} {h : Heap} {w : World} (m : Mem nf B ι M h w) {d v j b o n tot : Nat} {r : List (List V)} (hr : allRows (h.bl d v j) = some r)
    (h1 : ι d v j = some (.pl b o n tot)) : DCR nf w M b n r o := by
  have k := m.blk d v j
  cases hc : h.bl d v j with
  | dead => rw [hc] at hr; cases hr
  | box x => rw [hc] at hr; cases hr
  | mp x => rw [hc] at hr; cases hr
  | rows x =>
    rw [hc] at hr k; cases hr
    rcases k with ⟨k1, _⟩ | ⟨hne, b', o2, n2, e', N', k1, k2, k3, k4, k5, k6⟩
    · rw [k1] at h1; cases h1
    · rw [k1] at h1; cases h1; exact k6
  | frz x =>
    rw [hc] at hr k; cases hr
    rcases k with ⟨k1, _⟩ | ⟨b', o2, n2, k1, k2, k3, k6⟩
    · rw [k1] at h1; cases h1
    · rw [k1] at h1; cases h1; exact k6

theorem tells_iaddr {B : Base} {ι : Iota} {M : Nat → Prop} {h : Heap} {a : Act} {w : World} (m : Mem nf B ι M h w) {o : Oper} {t : TypeId} {x ix : Operand} (ho : o.op = .indexAddr t x ix) {e : TypeId} {n : Nat} {v vi : V} {r : Res}
    (ht : P.underlying t = some (.slice e)) (hn : szOf P e = some n)
    (hv : DV nf ι w M v (a.eval x)) (hi : DV nf ι w M vi (a.eval ix)) (hr : comp (.iaddr n) [v, vi] h = some r) : ∃ c w' M', Tells P o a w c w' ∧ ResOK nf B ι M w false r c w' M' := by
  cases vi <;> simp only [comp] at hr <;> try cases hr
  rename_i k i
  have hi : a.eval ix = .int k i := hi
  split at hr
  · rename_i rows
    split at hr
    · rename_i hb
      split at hr
      · rename_i row hrow
        split at hr
        · rename_i hlen
          cases hr
          obtain ⟨ad, cap, e1, e2, -, e3⟩ := hv
          have hlt : i.toNat < rows.length := by omega
          rcases e3 with e3 | ⟨b, o', n', h1, h2, h3, h4⟩
          · subst e3; simp at hlt
          · obtain ⟨g1, g2⟩ := DCR.get _ _ _ _ h4 hrow
            have : n' = n := by omega
            subst this
            subst h1
            exact ⟨.pointer (some ⟨b, o' + i.toNat * n', none⟩), w, M, .inl (by
              simp [execOp, ho, Instr.indexAt, hi, asIntOf, run_underlying ht, e1, hb.1, hb.2, run_sizeOf' hn, Addr.add_lit]), ResOK.plain m ⟨b, o' + i.toNat * n', by simp, h2, h3, g2⟩⟩
        · cases hr
      · cases hr
    · cases hr
  · rename_i d ver j fr len
    split at hr
    · rename_i hb
      split at hr
      · rename_i rr hrr
        split at hr
        · rename_i row hrow
          split at hr
          · rename_i hlen
            cases hr
            rcases hv with ⟨_, _, hl, _⟩ | ⟨b, o', n', tot, ad, cap, e', N, h1, h2, h3, h4, h5, h6, h7, h8⟩
            · omega
            · rcases h6 with h6 | h6
              · subst h6
                have hnn : n' = n := by
                  have g := allRows_ok m hrr h1
                  have := (DCR.get _ _ _ _ g hrow).1
                  omega
                subst hnn
                exact ⟨.pointer (some ⟨b, o' + fr * n' + i.toNat * n', none⟩), w, M, .inl (by
                  simp [execOp, ho, Instr.indexAt, hi, asIntOf, run_underlying ht, h2, hb.1, hb.2, run_sizeOf' hn, Addr.add_lit]), ResOK.plain m ⟨b, o', n', tot, h1, by rw [Nat.add_mul]; simp [Nat.add_assoc]⟩⟩
              · omega
          · cases hr
        · cases hr
      · cases hr
    · cases hr
  · cases hr


theorem tells_iaddrA {B : Base} {ι : Iota} {M : Nat → Prop} {h : Heap} {a : Act} {w : World} (m : Mem nf B ι M h w) {o : Oper} {t : TypeId} {x ix : Operand} (ho : o.op = .indexAddr t x ix) {e : TypeId} {len n : Nat} {v vi : V} {r : Res}
    (ht : P.underlying t = some (.array len e)) (hn : szOf P e = some n)
    (hv : DV nf ι w M v (a.eval x)) (hi : DV nf ι w M vi (a.eval ix)) (hr : comp (.iaddrA len n) [v, vi] h = some r) : ∃ c w' M', Tells P o a w c w' ∧ ResOK nf B ι M w false r c w' M' := by
  cases vi <;> simp only [comp] at hr <;> try cases hr
  rename_i k i
  have hi : a.eval ix = .int k i := hi
  split at hr
  · rename_i hb
    have key : ∀ b o', a.eval x = .pointer (some ⟨b, o', none⟩) → (execOp a.eval o).run P w = .ok (.value (.pointer (some ⟨b, o' + i.toNat * n, none⟩))) w := by
      intro b o' e1
      simp [execOp, ho, Instr.indexAt, hi, asIntOf, run_underlying ht, e1, Instr.sureAddr, hb.1, hb.2, run_sizeOf' hn, Addr.add_lit]
    split at hr
    · cases hr
      obtain ⟨b, o', n', tot, h1, e1⟩ := hv
      exact ⟨_, _, _, .inl (key _ _ e1), ResOK.plain m ⟨b, o', n', tot, h1, by rw [Nat.add_assoc]⟩⟩
    · cases hr
      obtain ⟨b, o', e1, h1⟩ := hv
      exact ⟨_, _, _, .inl (key _ _ e1), ResOK.plain m ⟨b, o', by rw [Nat.add_assoc], h1⟩⟩
    · cases hr
  · cases hr

/-- A part of a value. -/
theorem part_ok {ι : Iota} {w : World} {M : Nat → Prop} {l : List V} {cs : List Value} {off : Nat} {t : TypeId} {n : Option Nat} {v : V} (hn : match n with | some k => aggOf P t = some true ∧ szOf P t = some k | none => aggOf P t = some false)
    (hd : DVL nf ι w M l cs) (ho : l.all V.one = true) (hp : partV l off n = some v) : ∃ c, (part t cs.toArray off).run P w = .ok c w ∧ DV nf ι w M v c := by
  cases n with
  | some k =>
    simp only [partV] at hp
    split at hp
    · rename_i hle
      cases hp
      have hl := hd.length
      refine ⟨.agg ((cs.drop off).take k).toArray, ?_, all_part ho _ _, _, rfl, DVL.take _ _ _ (DVL.drop _ _ _ hd)⟩
      simp [part, run_isAgg hn.1, run_sizeOf' hn.2]
    · cases hp
  | none =>
    simp only [partV] at hp
    obtain ⟨c, hc, hv⟩ := DVL.get _ _ _ _ hd hp
    exact ⟨c, by simp [part, run_isAgg hn, hc], hv⟩

theorem tells_field {B : Base} {ι : Iota} {M : Nat → Prop} {h : Heap} {a : Act} {w : World} (m : Mem nf B ι M h w) {o : Oper} {t : TypeId} {x : Operand} {f : Nat} (ho : o.op = .field t x f) {fs : Array Field} {fd : Field} {off : Nat} {n : Option Nat} {v : V} {r : Res}
    (hs : P.underlying t = some (.struct fs)) (hf : fs[f]? = some fd) (hoff : fd.offset = off)
    (hn : match n with | some k => aggOf P fd.type = some true ∧ szOf P fd.type = some k | none => aggOf P fd.type = some false)
    (hv : DV nf ι w M v (a.eval x)) (hr : comp (.field off n) [v] h = some r) : ∃ c w' M', Tells P o a w c w' ∧ ResOK nf B ι M w false r c w' M' := by
  cases v <;> simp only [comp] at hr <;> try cases hr
  rename_i l
  obtain ⟨hone, cs, e, hd⟩ := hv
  simp only [Option.map_eq_some_iff] at hr
  obtain ⟨u, hu, rfl⟩ := hr
  obtain ⟨c, hc, hdv⟩ := part_ok (P := P) hn hd hone hu
  exact ⟨c, w, M, .inl (by simp [execOp, ho, Instr.field, run_underlying hs, hf, e, asAgg, hoff, hc]), ResOK.plain m hdv⟩

theorem tells_index {B : Base} {ι : Iota} {M : Nat → Prop} {h : Heap} {a : Act} {w : World} (m : Mem nf B ι M h w) {o : Oper} {t : TypeId} {x ix : Operand} (ho : o.op = .index t x ix) {len size : Nat} {e : TypeId} {n : Option Nat} {v vi : V} {r : Res}
    (ht : P.underlying t = some (.array len e)) (hz : szOf P e = some size)
    (hn : match n with | some k => aggOf P e = some true ∧ szOf P e = some k | none => aggOf P e = some false)
    (hv : DV nf ι w M v (a.eval x)) (hi : DV nf ι w M vi (a.eval ix)) (hr : comp (.index len size n) [v, vi] h = some r) : ∃ c w' M', Tells P o a w c w' ∧ ResOK nf B ι M w false r c w' M' := by
  cases v <;> cases vi <;> simp only [comp] at hr <;> try cases hr
  rename_i l k i
  have hi : a.eval ix = .int k i := hi
  obtain ⟨hone, cs, e1, hd⟩ := hv
  split at hr
  · rename_i hb
    simp only [Option.map_eq_some_iff] at hr
    obtain ⟨u, hu, rfl⟩ := hr
    obtain ⟨c, hc, hdv⟩ := part_ok (P := P) hn hd hone hu
    exact ⟨c, w, M, .inl (by simp [execOp, ho, Instr.index, hi, asIntOf, run_underlying ht, e1, hb.1, hb.2, run_sizeOf' hz, hc]), ResOK.plain m hdv⟩
  · cases hr

theorem tells_extract {B : Base} {ι : Iota} {M : Nat → Prop} {h : Heap} {a : Act} {w : World} (m : Mem nf B ι M h w) {o : Oper} {x : Operand} {k : Nat} (ho : o.op = .extract x k) {v : V} {r : Res}
    (hv : DV nf ι w M v (a.eval x)) (hr : comp (.extract k) [v] h = some r) : ∃ c w' M', Tells P o a w c w' ∧ ResOK nf B ι M w false r c w' M' := by
  cases v <;> simp only [comp] at hr <;> try cases hr
  rename_i l
  obtain ⟨cs, e1, hd⟩ := hv
  simp only [Option.map_eq_some_iff] at hr
  obtain ⟨u, hu, rfl⟩ := hr
  obtain ⟨c, hc, hdv⟩ := DVL.get _ _ _ _ hd hu
  exact ⟨c, w, M, .inl (by simp [execOp, ho, Instr.extract, e1, hc]), ResOK.plain m hdv⟩

theorem tells_bin {B : Base} {ι : Iota} {M : Nat → Prop} {h : Heap} {a : Act} {w : World} (m : Mem nf B ι M h w) {o : Oper} {op : BinOp} {xt yt : TypeId} {x y : Operand} (ho : o.op = .binOp op xt x y yt) {vx vy : V} {r : Res}
    (hx : DV nf ι w M vx (a.eval x)) (hy : DV nf ι w M vy (a.eval y)) (hr : comp (.bin op) [vx, vy] h = some r) : ∃ c w' M', Tells P o a w c w' ∧ ResOK nf B ι M w false r c w' M' := by
  cases vx <;> cases vy <;> simp only [comp] at hr <;> try cases hr
  rename_i k i yk j
  have hx : a.eval x = .int k i := hx
  have hy : a.eval y = .int yk j := hy
  simp only [Option.map_eq_some_iff] at hr
  obtain ⟨u, hu, rfl⟩ := hr
  have key : ∃ c, (binOp op xt (.int k i) (.int yk j)).run P w = .ok c w ∧ DV nf ι w M u c := by
    by_cases hs : op = .shl
    · subst hs
      by_cases hb : j < 0
      · simp [binInt, hb] at hu
      · simp only [binInt, hb, if_false, Option.some.injEq] at hu; subst hu; exact ⟨_, by simp [binOp, Op.shift, hb], rfl⟩
    by_cases hs : op = .shr
    · subst hs
      by_cases hb : j < 0
      · simp [binInt, hb] at hu
      · simp only [binInt, hb, if_false, Option.some.injEq] at hu; subst hu; exact ⟨_, by simp [binOp, Op.shift, hb], rfl⟩
    by_cases hk : k = yk
    · subst hk
      by_cases hq : op = .quo
      · subst hq
        by_cases h0 : j = 0
        · simp [binInt, h0] at hu
        · simp only [binInt, ne_eq, not_true_eq_false, h0, if_false, Option.some.injEq] at hu; subst hu; exact ⟨_, by simp [binOp, Op.intDiv, h0], rfl⟩
      by_cases hq : op = .rem
      · subst hq
        by_cases h0 : j = 0
        · simp [binInt, h0] at hu
        · simp only [binInt, ne_eq, not_true_eq_false, h0, if_false, Option.some.injEq] at hu; subst hu; exact ⟨_, by simp [binOp, Op.intDiv, h0], rfl⟩
      cases op <;> simp_all [binInt] <;> subst hu <;> exact ⟨_, by simp [binOp, Op.intArith, Op.intBits, Op.intCmp], rfl⟩
    · exfalso
      cases op <;> simp_all [binInt]
  obtain ⟨c, hc, hd⟩ := key
  have hg : (eqGuard op xt x y (.int k i) (.int yk j)).run P w = .ok () w := by
    cases op <;> simp [eqGuard]
  exact ⟨c, w, M, .inl (by simp [execOp, ho, hx, hy, hg, hc]), ResOK.plain m hd⟩

theorem tells_un {B : Base} {ι : Iota} {M : Nat → Prop} {h : Heap} {a : Act} {w : World} (m : Mem nf B ι M h w) {o : Oper} {op : UnOp} {xt : TypeId} {x : Operand} (ho : o.op = .unOp op xt x) {vx : V} {r : Res}
    (hx : DV nf ι w M vx (a.eval x)) (hr : comp (.un op) [vx] h = some r) : ∃ c w' M', Tells P o a w c w' ∧ ResOK nf B ι M w false r c w' M' := by
  cases op <;> cases vx <;> simp only [comp] at hr <;> try cases hr
  · rename_i k i
    have hx : a.eval x = .int k i := hx
    exact ⟨.int k (k.wrap (0 - i)), w, M, .inl (by simp [execOp, ho, hx, Op.unary, Op.intArith]), ResOK.plain m rfl⟩
  · rename_i k i
    have hx : a.eval x = .int k i := hx
    simp only [Option.map_eq_some_iff, binInt, ne_eq, not_true_eq_false, if_false] at hr
    obtain ⟨u, hu, rfl⟩ := hr
    cases hu
    exact ⟨.int k (k.wrap (BitVec.ofInt k.bits (if k.signed then -1 else k.max) ^^^ BitVec.ofInt k.bits i).toNat), w, M, .inl (by simp only [execOp, ho, hx, Op.unary, Op.intBits]; rfl), ResOK.plain m rfl⟩
  · rename_i b
    have hx : a.eval x = .bool b := hx
    exact ⟨_, w, M, .inl (by simp [execOp, ho, hx, Op.unary]), ResOK.plain m rfl⟩

theorem tells_conv {B : Base} {ι : Iota} {M : Nat → Prop} {h : Heap} {a : Act} {w : World} (m : Mem nf B ι M h w) {o : Oper} {s t : TypeId} {x : Operand} (ho : o.op = .convert s t x) {ks kt : IntKind} {vx : V} {r : Res}
    (hs : P.underlying s = some (.int ks)) (ht : P.underlying t = some (.int kt))
    (hx : DV nf ι w M vx (a.eval x)) (hr : comp (.conv kt) [vx] h = some r) : ∃ c w' M', Tells P o a w c w' ∧ ResOK nf B ι M w false r c w' M' := by
  cases vx <;> simp only [comp] at hr <;> try cases hr
  rename_i k i
  have hx : a.eval x = .int k i := hx
  exact ⟨.int kt (kt.wrap i), w, M, .inl (by simp [execOp, ho, hx, convert, run_underlying hs, run_underlying ht, Conv.intToInt]), ResOK.plain m rfl⟩

theorem tells_mkfn {B : Base} {ι : Iota} {M : Nat → Prop} {h : Heap} {a : Act} {w : World} (m : Mem nf B ι M h w) {o : Oper} {g : FuncId} {first caps : Array Operand} (ho : o.op = .makeFunc (.func g) first caps) {f : Nat} {vf vc : List V} {r : Res}
    (hg : nf f = some g) (h1 : DVL nf ι w M vf (first.map a.eval).toList) (h2 : DVL nf ι w M vc (caps.map a.eval).toList) (hr : comp (.mkfn f first.size) (vf ++ vc) h = some r) : ∃ c w' M', Tells P o a w c w' ∧ ResOK nf B ι M w false r c w' M' := by
  simp only [comp, Option.some.injEq] at hr
  subst hr
  have hl : vf.length = first.size := by have := h1.length; simpa using this.symm
  refine ⟨.func (.func g) (first.map a.eval) (caps.map a.eval), w, M, .inl (by simp [execOp, ho, Instr.makeFunc]), ResOK.plain m ?_⟩
  rw [← hl, List.take_left, List.drop_left]
  exact ⟨g, _, _, hg, by rw [Array.toArray_toList, Array.toArray_toList], h1, h2⟩

end
end Fo
