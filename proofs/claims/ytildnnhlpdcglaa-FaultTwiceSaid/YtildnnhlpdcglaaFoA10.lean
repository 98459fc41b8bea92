/-
  The operations: more of them (part 10).
-/
import Derived.Test.YtildnnhlpdcglaaFoA9
namespace Fo
open Go
set_option linter.unusedVariables false
set_option linter.unusedSimpArgs false

section
variable {nf : Nm} {P : Program}

theorem sub_lt_of_mul {i len n cap N o : Nat} (h1 : i < len) (h2 : len ≤ cap) (h3 : o + cap * n ≤ N) : o + i * n + n ≤ N := by
  have : (i + 1) * n ≤ cap * n := Nat.mul_le_mul_right n (by omega)
  rw [Nat.add_mul, Nat.one_mul] at this
  omega

theorem allRows_ok {B : Base} {ι : Iota} {M : Nat → Prop} {h : Heap} {w : World} (m : Mem nf B ι M h w) {d v j b o n tot : Nat} {r : List (List V)} (hr : allRows (h.bl d v j) = some r)
    (h1 : ι d v j = some (.pl b o n tot)) : DCR nf w M b n r o := by
  have k := m.blk d v j
  cases hc : h.bl d v j with
  | dead => rw [hc] at hr; cases hr
  | box x => rw [hc] at hr; cases hr
  | mp x => rw [hc] at hr; cases hr
  | rows x =>
    rw [hc] at hr k; cases hr
    rcases k with ⟨k1, _⟩ | ⟨hne, b', o2, n2, e', N', k1, k2, k3, k4, k5, k6⟩
    · rw [k1] at h1; cases h1
    · rw [k1] at h1; cases h1; exact k6
  | frz x =>
    rw [hc] at hr k; cases hr
    rcases k with ⟨k1, _⟩ | ⟨b', o2, n2, k1, k2, k3, k6⟩
    · rw [k1] at h1; cases h1
    · rw [k1] at h1; cases h1; exact k6

theorem tells_iaddr {B : Base} {ι : Iota} {M : Nat → Prop} {h : Heap} {a : Act} {w : World} (m : Mem nf B ι M h w) {o : Oper} {t : TypeId} {x ix : Operand} (ho : o.op = .indexAddr t x ix) {e : TypeId} {n : Nat} {v vi : V} {r : Res}
    (ht : P.underlying t = some (.slice e)) (hn : szOf P e = some n)
    (hv : DV nf ι w M v (a.eval x)) (hi : DV nf ι w M vi (a.eval ix)) (hr : comp (.iaddr n) [v, vi] h = some r) : ∃ c w' M', Tells P o a w c w' ∧ ResOK nf B ι M w false r c w' M' := by
  cases vi <;> simp only [comp] at hr <;> try cases hr
  rename_i k i
  have hi : a.eval ix = .int k i := hi
  split at hr
  · rename_i rows
    split at hr
    · rename_i hb
      split at hr
      · rename_i row hrow
        split at hr
        · rename_i hlen
          cases hr
          obtain ⟨ad, cap, e1, e2, -, e3⟩ := hv
          have hlt : i.toNat < rows.length := by omega
          rcases e3 with e3 | ⟨b, o', n', h1, h2, h3, h4⟩
          · subst e3; simp at hlt
          · obtain ⟨g1, g2⟩ := DCR.get _ _ _ _ h4 hrow
            have : n' = n := by omega
            subst this
            subst h1
            exact ⟨.pointer (some ⟨b, o' + i.toNat * n', none⟩), w, M, .inl (by
              simp [execOp, ho, Instr.indexAt, hi, asIntOf, run_underlying ht, e1, hb.1, hb.2, run_sizeOf' hn, Addr.add_lit]), ResOK.plain m ⟨b, o' + i.toNat * n', by simp, h2, h3, g2⟩⟩
        · cases hr
      · cases hr
    · cases hr
  · rename_i d ver j fr len
    split at hr
    · rename_i hb
      split at hr
      · rename_i rr hrr
        split at hr
        · rename_i row hrow
          split at hr
          · rename_i hlen
            cases hr
            rcases hv with ⟨_, _, hl, _⟩ | ⟨b, o', n', tot, ad, cap, e', N, h1, h2, h3, h4, h5, h6, h7, h8⟩
            · omega
            · rcases h6 with h6 | h6
              · subst h6
                have hnn : n' = n := by
                  have g := allRows_ok m hrr h1
                  have := (DCR.get _ _ _ _ g hrow).1
                  omega
                subst hnn
                exact ⟨.pointer (some ⟨b, o' + fr * n' + i.toNat * n', none⟩), w, M, .inl (by
                  simp [execOp, ho, Instr.indexAt, hi, asIntOf, run_underlying ht, h2, hb.1, hb.2, run_sizeOf' hn, Addr.add_lit]), ResOK.plain m ⟨b, o', n', tot, h1, by rw [Nat.add_mul]; simp [Nat.add_assoc]⟩⟩
              · omega
          · cases hr
        · cases hr
      · cases hr
    · cases hr
  · cases hr


theorem tells_iaddrA {B : Base} {ι : Iota} {M : Nat → Prop} {h : Heap} {a : Act} {w : World} (m : Mem nf B ι M h w) {o : Oper} {t : TypeId} {x ix : Operand} (ho : o.op = .indexAddr t x ix) {e : TypeId} {len n : Nat} {v vi : V} {r : Res}
    (ht : P.underlying t = some (.array len e)) (hn : szOf P e = some n)
    (hv : DV nf ι w M v (a.eval x)) (hi : DV nf ι w M vi (a.eval ix)) (hr : comp (.iaddrA len n) [v, vi] h = some r) : ∃ c w' M', Tells P o a w c w' ∧ ResOK nf B ι M w false r c w' M' := by
  cases vi <;> simp only [comp] at hr <;> try cases hr
  rename_i k i
  have hi : a.eval ix = .int k i := hi
  split at hr
  · rename_i hb
    have key : ∀ b o', a.eval x = .pointer (some ⟨b, o', none⟩) → (execOp a.eval o).run P w = .ok (.value (.pointer (some ⟨b, o' + i.toNat * n, none⟩))) w := by
      intro b o' e1
      simp [execOp, ho, Instr.indexAt, hi, asIntOf, run_underlying ht, e1, Instr.sureAddr, hb.1, hb.2, run_sizeOf' hn, Addr.add_lit]
    split at hr
    · cases hr
      obtain ⟨b, o', n', tot, h1, e1⟩ := hv
      exact ⟨_, _, _, .inl (key _ _ e1), ResOK.plain m ⟨b, o', n', tot, h1, by rw [Nat.add_assoc]⟩⟩
    · cases hr
      obtain ⟨b, o', e1, h1⟩ := hv
      exact ⟨_, _, _, .inl (key _ _ e1), ResOK.plain m ⟨b, o', by rw [Nat.add_assoc], h1⟩⟩
    · cases hr
  · cases hr

/-- A part of a value. -/
theorem part_ok {ι : Iota} {w : World} {M : Nat → Prop} {l : List V} {cs : List Value} {off : Nat} {t : TypeId} {n : Option Nat} {v : V} (hn : match n with | some k => aggOf P t = some true ∧ szOf P t = some k | none => aggOf P t = some false)
    (hd : DVL nf ι w M l cs) (ho : l.all V.one = true) (hp : partV l off n = some v) : ∃ c, (part t cs.toArray off).run P w = .ok c w ∧ DV nf ι w M v c := by
  cases n with
  | some k =>
    simp only [partV] at hp
    split at hp
    · rename_i hle
      cases hp
      have hl := hd.length
      refine ⟨.agg ((cs.drop off).take k).toArray, ?_, all_part ho _ _, _, rfl, DVL.take _ _ _ (DVL.drop _ _ _ hd)⟩
      simp [part, run_isAgg hn.1, run_sizeOf' hn.2]
    · cases hp
  | none =>
    simp only [partV] at hp
    obtain ⟨c, hc, hv⟩ := DVL.get _ _ _ _ hd hp
    exact ⟨c, by simp [part, run_isAgg hn, hc], hv⟩

theorem tells_field {B : Base} {ι : Iota} {M : Nat → Prop} {h : Heap} {a : Act} {w : World} (m : Mem nf B ι M h w) {o : Oper} {t : TypeId} {x : Operand} {f : Nat} (ho : o.op = .field t x f) {fs : Array Field} {fd : Field} {off : Nat} {n : Option Nat} {v : V} {r : Res}
    (hs : P.underlying t = some (.struct fs)) (hf : fs[f]? = some fd) (hoff : fd.offset = off)
    (hn : match n with | some k => aggOf P fd.type = some true ∧ szOf P fd.type = some k | none => aggOf P fd.type = some false)
    (hv : DV nf ι w M v (a.eval x)) (hr : comp (.field off n) [v] h = some r) : ∃ c w' M', Tells P o a w c w' ∧ ResOK nf B ι M w false r c w' M' := by
  cases v <;> simp only [comp] at hr <;> try cases hr
  rename_i l
  obtain ⟨hone, cs, e, hd⟩ := hv
  simp only [Option.map_eq_some_iff] at hr
  obtain ⟨u, hu, rfl⟩ := hr
  obtain ⟨c, hc, hdv⟩ := part_ok (P := P) hn hd hone hu
  exact ⟨c, w, M, .inl (by simp [execOp, ho, Instr.field, run_underlying hs, hf, e, asAgg, hoff, hc]), ResOK.plain m hdv⟩

theorem tells_index {B : Base} {ι : Iota} {M : Nat → Prop} {h : Heap} {a : Act} {w : World} (m : Mem nf B ι M h w) {o : Oper} {t : TypeId} {x ix : Operand} (ho : o.op = .index t x ix) {len size : Nat} {e : TypeId} {n : Option Nat} {v vi : V} {r : Res}
    (ht : P.underlying t = some (.array len e)) (hz : szOf P e = some size)
    (hn : match n with | some k => aggOf P e = some true ∧ szOf P e = some k | none => aggOf P e = some false)
    (hv : DV nf ι w M v (a.eval x)) (hi : DV nf ι w M vi (a.eval ix)) (hr : comp (.index len size n) [v, vi] h = some r) : ∃ c w' M', Tells P o a w c w' ∧ ResOK nf B ι M w false r c w' M' := by
  cases v <;> cases vi <;> simp only [comp] at hr <;> try cases hr
  rename_i l k i
  have hi : a.eval ix = .int k i := hi
  obtain ⟨hone, cs, e1, hd⟩ := hv
  split at hr
  · rename_i hb
    simp only [Option.map_eq_some_iff] at hr
    obtain ⟨u, hu, rfl⟩ := hr
    obtain ⟨c, hc, hdv⟩ := part_ok (P := P) hn hd hone hu
    exact ⟨c, w, M, .inl (by simp [execOp, ho, Instr.index, hi, asIntOf, run_underlying ht, e1, hb.1, hb.2, run_sizeOf' hz, hc]), ResOK.plain m hdv⟩
  · cases hr

theorem tells_extract {B : Base} {ι : Iota} {M : Nat → Prop} {h : Heap} {a : Act} {w : World} (m : Mem nf B ι M h w) {o : Oper} {x : Operand} {k : Nat} (ho : o.op = .extract x k) {v : V} {r : Res}
    (hv : DV nf ι w M v (a.eval x)) (hr : comp (.extract k) [v] h = some r) : ∃ c w' M', Tells P o a w c w' ∧ ResOK nf B ι M w false r c w' M' := by
  cases v <;> simp only [comp] at hr <;> try cases hr
  rename_i l
  obtain ⟨cs, e1, hd⟩ := hv
  simp only [Option.map_eq_some_iff] at hr
  obtain ⟨u, hu, rfl⟩ := hr
  obtain ⟨c, hc, hdv⟩ := DVL.get _ _ _ _ hd hu
  exact ⟨c, w, M, .inl (by simp [execOp, ho, Instr.extract, e1, hc]), ResOK.plain m hdv⟩

theorem tells_binInt {w : World} {op : BinOp} {xt : TypeId} {k yk : IntKind} {i j : Int} {u : V} (hu : binInt op k i yk j = some u) : ∃ c, (binOp op xt (.int k i) (.int yk j)).run P w = .ok c w ∧ ∀ ι M, DV nf ι w M u c := by
  by_cases hs : op = .shl
  · subst hs
    by_cases hb : j < 0
    · simp [binInt, hb] at hu
    · simp only [binInt, hb, if_false, Option.some.injEq] at hu; subst hu; exact ⟨_, by simp [binOp, Op.shift, hb], fun _ _ => rfl⟩
  by_cases hs : op = .shr
  · subst hs
    by_cases hb : j < 0
    · simp [binInt, hb] at hu
    · simp only [binInt, hb, if_false, Option.some.injEq] at hu; subst hu; exact ⟨_, by simp [binOp, Op.shift, hb], fun _ _ => rfl⟩
  by_cases hk : k = yk
  · subst hk
    by_cases hq : op = .quo
    · subst hq
      by_cases h0 : j = 0
      · simp [binInt, h0] at hu
      · simp only [binInt, ne_eq, not_true_eq_false, h0, if_false, Option.some.injEq] at hu; subst hu; exact ⟨_, by simp [binOp, Op.intDiv, h0], fun _ _ => rfl⟩
    by_cases hq : op = .rem
    · subst hq
      by_cases h0 : j = 0
      · simp [binInt, h0] at hu
      · simp only [binInt, ne_eq, not_true_eq_false, h0, if_false, Option.some.injEq] at hu; subst hu; exact ⟨_, by simp [binOp, Op.intDiv, h0], fun _ _ => rfl⟩
    cases op <;> simp_all [binInt] <;> subst hu <;> exact ⟨_, by simp [binOp, Op.intArith, Op.intBits, Op.intCmp], fun _ _ => rfl⟩
  · exfalso
    cases op <;> simp_all [binInt]

theorem wrap_range (k : IntKind) (n : Int) : k.min ≤ k.wrap n ∧ k.wrap n ≤ k.max := by
  cases k <;> simp [IntKind.wrap, IntKind.min, IntKind.max, IntKind.signed, IntKind.bits] <;> (try split) <;> omega
theorem wrap_same (k : IntKind) (n : Int) (h1 : k.min ≤ n) (h2 : n ≤ k.max) : k.wrap n = n := by
  cases k <;> simp [IntKind.wrap, IntKind.min, IntKind.max, IntKind.signed, IntKind.bits] at h1 h2 ⊢ <;> (try split) <;> omega

mutual
theorem beqE_eq : ∀ (a b : SE), beqE a b = true → a = b
  | .var i, b, h => by cases b <;> simp [beqE] at h; subst h; rfl
  | .con i, b, h => by cases b <;> simp [beqE] at h; subst h; rfl
  | .bin op k x y, b, h => by
    cases b <;> simp only [beqE, Bool.false_eq_true, Bool.and_eq_true, beq_iff_eq] at h
    obtain ⟨⟨⟨rfl, rfl⟩, h1⟩, h2⟩ := h
    rw [beqE_eq _ _ h1, beqE_eq _ _ h2]
  | .conv k x, b, h => by
    cases b <;> simp only [beqE, Bool.false_eq_true, Bool.and_eq_true, beq_iff_eq] at h
    obtain ⟨rfl, h1⟩ := h
    rw [beqE_eq _ _ h1]
  | .app f l, b, h => by
    cases b <;> simp only [beqE, Bool.false_eq_true, Bool.and_eq_true, beq_iff_eq] at h
    obtain ⟨rfl, h1⟩ := h
    rw [beqEs_eq _ _ h1]
theorem beqEs_eq : ∀ (a b : List SE), beqEs a b = true → a = b
  | [], [], _ => rfl
  | [], _ :: _, h => by simp [beqEs] at h
  | _ :: _, [], h => by simp [beqEs] at h
  | x :: l, y :: m, h => by
    simp only [beqEs, Bool.and_eq_true] at h
    rw [beqE_eq _ _ h.1, beqEs_eq _ _ h.2]
end

theorem symOf_ok {ι : Iota} {w : World} {M : Nat → Prop} {v : V} {c : Value} {k : IntKind} {e : SE} {lo hi : Int} (h : symOf v = some (k, e, lo, hi)) (hd : DV nf ι w M v c) : c = .int k (evalE nf e) ∧ lo ≤ evalE nf e ∧ evalE nf e ≤ hi := by
  cases v <;> simp only [symOf, reduceCtorEq, Option.some.injEq, Prod.mk.injEq] at h
  · obtain ⟨rfl, rfl, rfl, rfl⟩ := h
    exact ⟨hd, Int.le_refl _, Int.le_refl _⟩
  · obtain ⟨rfl, rfl, rfl, rfl⟩ := h
    exact ⟨hd.1, hd.2.1, hd.2.2.1⟩

theorem isNot_ok {a b : SE} (h : isNot a b = true) : evalE nf a ≠ evalE nf b := by
  unfold isNot at h
  split at h
  · rename_i c a b
    simp only [Bool.and_eq_true, beq_iff_eq] at h
    obtain ⟨rfl, h⟩ := h
    rw [← beqE_eq _ _ h]
    simp only [evalE, binInt, ne_eq, not_true_eq_false, if_false]
    generalize evalE nf b = v
    have e2 : (BitVec.ofInt IntKind.u32.bits 4294967295 ^^^ BitVec.ofInt IntKind.u32.bits v).toNat = 2 ^ 32 - 1 - (v % 2 ^ 32).toNat := by
      show (BitVec.ofInt 32 4294967295 ^^^ BitVec.ofInt 32 v).toNat = _
      have e1 : BitVec.ofInt 32 4294967295 = BitVec.allOnes 32 := rfl
      rw [e1, BitVec.allOnes_xor, BitVec.toNat_not, BitVec.toNat_ofInt]
      rfl
    rw [e2]
    have hw : ∀ n : Int, IntKind.u32.wrap n = n % 4294967296 := by intro n; simp [IntKind.wrap, IntKind.signed, IntKind.bits]
    rw [hw]
    intro hv
    omega
  · cases h

theorem symEq_ok {a b : SE} {l1 h1 l2 h2 : Int} {q : Bool} (h : symEq a b l1 h1 l2 h2 = some q) (a1 : l1 ≤ evalE nf a) (a2 : evalE nf a ≤ h1) (b1 : l2 ≤ evalE nf b) (b2 : evalE nf b ≤ h2) : q = (evalE nf a == evalE nf b) := by
  unfold symEq at h
  split at h
  · rename_i e; cases h; rw [beqE_eq _ _ e]; simp
  · split at h
    · rename_i e
      cases h
      simp only [Bool.or_eq_true, decide_eq_true_eq] at e
      symm
      simp only [beq_eq_false_iff_ne, ne_eq]
      rcases e with ((e | e) | e) | e
      · omega
      · omega
      · exact isNot_ok e
      · exact fun q => isNot_ok e q.symm
    · cases h
theorem symLt_ok {a b : SE} {l1 h1 l2 h2 : Int} {q : Bool} (h : symLt a b l1 h1 l2 h2 = some q) (a1 : l1 ≤ evalE nf a) (a2 : evalE nf a ≤ h1) (b1 : l2 ≤ evalE nf b) (b2 : evalE nf b ≤ h2) : q = decide (evalE nf a < evalE nf b) := by
  unfold symLt at h
  split at h
  · cases h; symm; simp only [decide_eq_true_eq]; omega
  · split at h
    · rename_i e
      cases h
      simp only [Bool.or_eq_true, decide_eq_true_eq] at e
      symm
      simp only [decide_eq_false_iff_not]
      rcases e with e | e
      · omega
      · rw [beqE_eq _ _ e]; omega
    · cases h

theorem symV_mk {ι : Iota} {w : World} {M : Nat → Prop} {k : IntKind} {e : SE} {lo hi n : Int} (he : evalE nf e = n) (h1 : lo ≤ n) (h2 : n ≤ hi) : ∀ c, DV nf ι w M (.int k n) c → DV nf ι w M (.sym k e lo hi 1 0) c := by
  intro c hc
  have hc : c = .int k n := hc
  exact ⟨by rw [hc, he], by rw [he]; exact h1, by rw [he]; exact h2, Int.emod_one _⟩

theorem fdiv_range {a b h : Int} (h0 : 0 ≤ a) (h1 : a ≤ h) (hb : 0 < b) : 0 ≤ a.fdiv b ∧ a.fdiv b ≤ h := by
  rw [Int.fdiv_eq_ediv_of_nonneg _ (by omega)]
  refine ⟨Int.ediv_nonneg h0 (by omega), Int.le_trans (Int.ediv_le_self _ h0) h1⟩

def Refines (nf : Nm) (ι : Iota) (w : World) (M : Nat → Prop) (op : BinOp) (u : V) (cx cy : Value) : Prop :=
  ∃ k i yk j u0, cx = .int k i ∧ cy = .int yk j ∧ binInt op k i yk j = some u0 ∧ ∀ c, DV nf ι w M u0 c → DV nf ι w M u c

theorem Refines.gen {ι : Iota} {w : World} {M : Nat → Prop} {op : BinOp} {u : V} {cx cy : Value} {k k' : IntKind} {a b : SE} (x1 : cx = .int k (evalE nf a)) (y1 : cy = .int k' (evalE nf b)) (n lo hi : Int)
    (e1 : binInt op k (evalE nf a) k' (evalE nf b) = some (.int k n)) (e2 : evalE nf (.bin op k a b) = n) (q1 : lo ≤ n) (q2 : n ≤ hi) (eu : V.sym k (.bin op k a b) lo hi 1 0 = u) : Refines nf ι w M op u cx cy := by
  subst eu
  exact ⟨_, _, _, _, _, x1, y1, e1, symV_mk e2 q1 q2⟩

theorem symOp_ok {ι : Iota} {w : World} {M : Nat → Prop} {op : BinOp} {x y u : V} {cx cy : Value} {k : IntKind} {a b : SE} {l1 h1 l2 h2 : Int} (ex : symOf x = some (k, a, l1, h1)) (ey : symOf y = some (k, b, l2, h2)) (h : symOp op x y k a b l1 h1 l2 h2 = some u)
    (hx : DV nf ι w M x cx) (hy : DV nf ι w M y cy) : Refines nf ι w M op u cx cy := by
  obtain ⟨x1, x2, x3⟩ := symOf_ok ex hx
  obtain ⟨y1, y2, y3⟩ := symOf_ok ey hy
  cases op <;> simp only [symOp, reduceCtorEq] at h
  case eql =>
    simp only [Option.map_eq_some_iff] at h
    obtain ⟨q, hq, rfl⟩ := h
    have := symEq_ok hq x2 x3 y2 y3
    subst this
    exact ⟨_, _, _, _, _, x1, y1, by simp only [binInt, ne_eq, not_true_eq_false, if_false], fun _ h => h⟩
  case neq =>
    simp only [Option.map_eq_some_iff] at h
    obtain ⟨q, hq, rfl⟩ := h
    have := symEq_ok hq x2 x3 y2 y3
    subst this
    exact ⟨_, _, _, _, .bool (!(evalE nf a == evalE nf b)), x1, y1, by simp only [binInt, ne_eq, not_true_eq_false, if_false]; rfl, fun _ h => h⟩
  case lss =>
    simp only [Option.map_eq_some_iff] at h
    obtain ⟨q, hq, rfl⟩ := h
    have := symLt_ok hq x2 x3 y2 y3
    subst this
    exact ⟨_, _, _, _, _, x1, y1, by simp only [binInt, ne_eq, not_true_eq_false, if_false], fun _ h => h⟩
  case geq =>
    simp only [Option.map_eq_some_iff] at h
    obtain ⟨q, hq, rfl⟩ := h
    have := symLt_ok hq x2 x3 y2 y3
    subst this
    refine ⟨_, _, _, _, .bool (decide (evalE nf a ≥ evalE nf b)), x1, y1, by simp only [binInt, ne_eq, not_true_eq_false, if_false], ?_⟩
    intro c hc
    have hc : c = .bool (decide (evalE nf a ≥ evalE nf b)) := hc
    show c = _
    rw [hc]; congr 1; rw [← decide_not]; congr 1; simp [Int.not_lt]
  case gtr =>
    simp only [Option.map_eq_some_iff] at h
    obtain ⟨q, hq, rfl⟩ := h
    have := symLt_ok hq y2 y3 x2 x3
    subst this
    exact ⟨_, _, _, _, _, x1, y1, by simp only [binInt, ne_eq, not_true_eq_false, if_false], fun _ h => h⟩
  case leq =>
    simp only [Option.map_eq_some_iff] at h
    obtain ⟨q, hq, rfl⟩ := h
    have := symLt_ok hq y2 y3 x2 x3
    subst this
    refine ⟨_, _, _, _, .bool (decide (evalE nf a ≤ evalE nf b)), x1, y1, by simp only [binInt, ne_eq, not_true_eq_false, if_false], ?_⟩
    intro c hc
    have hc : c = .bool (decide (evalE nf a ≤ evalE nf b)) := hc
    show c = _
    rw [hc]; congr 1; rw [← decide_not]; congr 1; simp [Int.not_lt]
  case rem =>
    unfold symRem at h
    split at h
    · rename_i k2 e2 lo2 hi2 m r k3 n
      split at h
      · rename_i hc0
        simp only [symOf, Option.some.injEq, Prod.mk.injEq] at ex ey
        obtain ⟨q1, q2, q3, q4⟩ := ex
        obtain ⟨p1, p2, p3, p4⟩ := ey
        obtain ⟨z1, z2, z3, z4⟩ := hx
        rw [q2] at z2 z4
        have hb : evalE nf b = n := by rw [← p2]; rfl
        have hrun : binInt .rem k (evalE nf a) k (evalE nf b) = some (.int k ((evalE nf a).tmod n)) := by
          rw [hb]; simp only [binInt, ne_eq, not_true_eq_false, if_false]; rw [if_neg (by omega)]
        split at h
        · rename_i hc
          obtain ⟨c3, c4⟩ := hc
          cases h
          refine ⟨k, _, k, _, .int k ((evalE nf a).tmod n), x1, y1, hrun, ?_⟩
          intro c hc
          have hc : c = .int k ((evalE nf a).tmod n) := hc
          show c = .int k2 (r % n)
          rw [hc, q1, Int.tmod_eq_emod_of_nonneg (by omega), ← z4, Int.emod_emod_of_dvd _ (Int.dvd_of_emod_eq_zero c4)]
        · cases h
          refine ⟨k, _, k, _, .int k ((evalE nf a).tmod n), x1, y1, hrun, ?_⟩
          rw [q1, q2]
          refine symV_mk ?_ (Int.tmod_nonneg _ (by omega)) (by have := Int.tmod_lt_of_pos (evalE nf a) hc0.2; omega)
          have hn0 : ¬ n = 0 := by omega
          simp only [evalE, binInt, ne_eq, not_true_eq_false, if_false, hn0]
      · cases h
    · cases h
  case add =>
    split at h
    · rename_i hc
      have hw := wrap_same k (evalE nf a + evalE nf b) (by omega) (by omega)
      exact Refines.gen x1 y1 (k.wrap (evalE nf a + evalE nf b)) _ _ (by simp only [binInt, ne_eq, not_true_eq_false, if_false]) (by simp only [binInt, evalE, ne_eq, not_true_eq_false, if_false]) (by rw [hw]; omega) (by rw [hw]; omega) (Option.some.inj h)
    · exact Refines.gen x1 y1 (k.wrap (evalE nf a + evalE nf b)) _ _ (by simp only [binInt, ne_eq, not_true_eq_false, if_false]) (by simp only [binInt, evalE, ne_eq, not_true_eq_false, if_false]) (wrap_range _ _).1 (wrap_range _ _).2 (Option.some.inj h)
  case sub =>
    split at h
    · rename_i hc
      have hw := wrap_same k (evalE nf a - evalE nf b) (by omega) (by omega)
      exact Refines.gen x1 y1 (k.wrap (evalE nf a - evalE nf b)) _ _ (by simp only [binInt, ne_eq, not_true_eq_false, if_false]) (by simp only [binInt, evalE, ne_eq, not_true_eq_false, if_false]) (by rw [hw]; omega) (by rw [hw]; omega) (Option.some.inj h)
    · exact Refines.gen x1 y1 (k.wrap (evalE nf a - evalE nf b)) _ _ (by simp only [binInt, ne_eq, not_true_eq_false, if_false]) (by simp only [binInt, evalE, ne_eq, not_true_eq_false, if_false]) (wrap_range _ _).1 (wrap_range _ _).2 (Option.some.inj h)
  case mul => exact Refines.gen x1 y1 (k.wrap (evalE nf a * evalE nf b)) _ _ (by simp only [binInt, ne_eq, not_true_eq_false, if_false]) (by simp only [binInt, evalE, ne_eq, not_true_eq_false, if_false]) (wrap_range _ _).1 (wrap_range _ _).2 (Option.some.inj h)
  all_goals exact Refines.gen x1 y1 (k.wrap _) _ _ (by simp only [binInt, ne_eq, not_true_eq_false, if_false]; rfl) (by simp only [binInt, evalE, ne_eq, not_true_eq_false, if_false]) (wrap_range _ _).1 (wrap_range _ _).2 (Option.some.inj h)

theorem symBin_ok {ι : Iota} {w : World} {M : Nat → Prop} {op : BinOp} {x y u : V} {cx cy : Value} (h : symBin op x y = some u) (hx : DV nf ι w M x cx) (hy : DV nf ι w M y cy) : Refines nf ι w M op u cx cy := by
  unfold symBin at h
  split at h
  · rename_i k a l1 h1 k' b l2 h2 ex ey
    obtain ⟨x1, x2, x3⟩ := symOf_ok ex hx
    obtain ⟨y1, y2, y3⟩ := symOf_ok ey hy
    split at h
    · cases b <;> simp only [symShl, reduceCtorEq] at h
      rename_i n
      split at h
      · cases h
      · rename_i hn
        exact Refines.gen x1 y1 (k.wrap (evalE nf a * 2 ^ (min n.toNat k.bits))) _ _ (by simp only [binInt, evalE, hn, if_false]) (by simp only [binInt, evalE, hn, if_false]) (wrap_range _ _).1 (wrap_range _ _).2 (Option.some.inj h)
    · cases b <;> simp only [symShr, reduceCtorEq] at h
      rename_i n
      split at h
      · cases h
      · rename_i hn
        simp only [not_or] at hn
        have hn1 : ¬ (n < 0) := hn.1
        have hr := fdiv_range (a := evalE nf a) (b := 2 ^ (min n.toNat k.bits)) (h := h1) (by omega) x3 (Int.pow_pos (by omega))
        exact Refines.gen x1 y1 ((evalE nf a).fdiv (2 ^ (min n.toNat k.bits))) _ _ (by simp only [binInt, evalE, hn1, if_false]) (by simp only [binInt, evalE, hn1, if_false]) hr.1 hr.2 (Option.some.inj h)
    · split at h
      · rename_i hk
        subst hk
        exact symOp_ok ex ey h hx hy
      · cases h
  · cases h

theorem tells_refines {B : Base} {ι : Iota} {M : Nat → Prop} {h : Heap} {a : Act} {w : World} (m : Mem nf B ι M h w) {o : Oper} {op : BinOp} {xt yt : TypeId} {x y : Operand} (ho : o.op = .binOp op xt x y yt) {u : V}
    (main : Refines nf ι w M op u (a.eval x) (a.eval y)) : ∃ c w' M', Tells P o a w c w' ∧ ResOK nf B ι M w false ⟨u, h, [], []⟩ c w' M' := by
  obtain ⟨k, i, yk, j, u0, ex, ey, h0, hd⟩ := main
  obtain ⟨c, hc, hdv⟩ := tells_binInt (nf := nf) (P := P) (w := w) (xt := xt) h0
  have hg : (eqGuard op xt x y (.int k i) (.int yk j)).run P w = .ok () w := by
    cases op <;> simp [eqGuard]
  exact ⟨c, w, M, .inl (by simp [execOp, ho, ex, ey, hg, hc]), ResOK.plain m (hd _ (hdv _ _))⟩

theorem tells_bin {B : Base} {ι : Iota} {M : Nat → Prop} {h : Heap} {a : Act} {w : World} (m : Mem nf B ι M h w) {o : Oper} {op : BinOp} {xt yt : TypeId} {x y : Operand} (ho : o.op = .binOp op xt x y yt) {vx vy : V} {r : Res}
    (hx : DV nf ι w M vx (a.eval x)) (hy : DV nf ι w M vy (a.eval y)) (hr : comp (.bin op) [vx, vy] h = some r) : ∃ c w' M', Tells P o a w c w' ∧ ResOK nf B ι M w false r c w' M' := by
  simp only [comp, Option.map_eq_some_iff] at hr
  obtain ⟨u, hu, rfl⟩ := hr
  refine tells_refines m ho ?_
  unfold binV at hu
  split at hu
  · exact ⟨_, _, _, _, u, hx, hy, hu, fun _ h => h⟩
  · exact symBin_ok hu hx hy

/-- What is known is so. -/
def FactsOK (nf : Nm) (fx : List Fact) : Prop := ∀ lt a b q, (lt, a, b, q) ∈ fx → q = (if lt then decide (evalE nf a < evalE nf b) else evalE nf a == evalE nf b)

theorem factOf_ok {fx : List Fact} (hF : FactsOK nf fx) {lt : Bool} {a b : SE} {q : Bool} (h : factOf lt a b fx = some q) : q = (if lt then decide (evalE nf a < evalE nf b) else evalE nf a == evalE nf b) := by
  induction fx with
  | nil => cases h
  | cons f fx ih =>
    obtain ⟨lt', a', b', q'⟩ := f
    simp only [factOf] at h
    split at h
    · rename_i hc
      simp only [Bool.and_eq_true, beq_iff_eq] at hc
      obtain ⟨⟨rfl, h1⟩, h2⟩ := hc
      cases h
      rw [beqE_eq _ _ h1, beqE_eq _ _ h2]
      exact hF _ _ _ _ (by simp)
    · exact ih (fun lt a b q hm => hF lt a b q (by simp [hm])) h

theorem factEq_ok {fx : List Fact} (hF : FactsOK nf fx) {a b : SE} {q : Bool} (h : factEq a b fx = some q) : q = (evalE nf a == evalE nf b) := by
  unfold factEq at h
  split at h
  · rename_i q' hq
    cases h
    simpa using factOf_ok hF hq
  · have := factOf_ok hF h
    simp only [Bool.false_eq_true, if_false] at this
    rw [this, Bool.eq_iff_iff]
    simp only [beq_iff_eq]
    exact ⟨fun h => h.symm, fun h => h.symm⟩

theorem factBin_ok {fx : List Fact} (hF : FactsOK nf fx) {ι : Iota} {w : World} {M : Nat → Prop} {op : BinOp} {x y u : V} {cx cy : Value} (h : factBin fx op x y = some u) (hx : DV nf ι w M x cx) (hy : DV nf ι w M y cy) : Refines nf ι w M op u cx cy := by
  unfold factBin at h
  split at h
  · rename_i k a l1 h1 k' b l2 h2 ex ey
    obtain ⟨x1, x2, x3⟩ := symOf_ok ex hx
    obtain ⟨y1, y2, y3⟩ := symOf_ok ey hy
    split at h
    · rename_i hk
      subst hk
      cases op <;> simp only [reduceCtorEq, Option.map_eq_some_iff] at h
      all_goals obtain ⟨q, hq, rfl⟩ := h
      all_goals first | (have hq := factEq_ok hF hq; subst hq) | (have hq := factOf_ok hF hq; simp only [if_true] at hq; subst hq)
      · exact ⟨_, _, _, _, _, x1, y1, by simp only [binInt, ne_eq, not_true_eq_false, if_false], fun _ h => h⟩
      · exact ⟨_, _, _, _, .bool (!(evalE nf a == evalE nf b)), x1, y1, by simp only [binInt, ne_eq, not_true_eq_false, if_false]; rfl, fun _ h => h⟩
      · exact ⟨_, _, _, _, _, x1, y1, by simp only [binInt, ne_eq, not_true_eq_false, if_false], fun _ h => h⟩
      · refine ⟨_, _, _, _, .bool (decide (evalE nf a ≤ evalE nf b)), x1, y1, by simp only [binInt, ne_eq, not_true_eq_false, if_false], ?_⟩
        intro c hc
        have hc : c = .bool (decide (evalE nf a ≤ evalE nf b)) := hc
        show c = _
        rw [hc]; congr 1; rw [← decide_not]; congr 1; simp [Int.not_lt]
      · exact ⟨_, _, _, _, _, x1, y1, by simp only [binInt, ne_eq, not_true_eq_false, if_false], fun _ h => h⟩
      · refine ⟨_, _, _, _, .bool (decide (evalE nf a ≥ evalE nf b)), x1, y1, by simp only [binInt, ne_eq, not_true_eq_false, if_false], ?_⟩
        intro c hc
        have hc : c = .bool (decide (evalE nf a ≥ evalE nf b)) := hc
        show c = _
        rw [hc]; congr 1; rw [← decide_not]; congr 1; simp [Int.not_lt]
    · cases h
  · cases h

theorem tells_un {B : Base} {ι : Iota} {M : Nat → Prop} {h : Heap} {a : Act} {w : World} (m : Mem nf B ι M h w) {o : Oper} {op : UnOp} {xt : TypeId} {x : Operand} (ho : o.op = .unOp op xt x) {vx : V} {r : Res}
    (hx : DV nf ι w M vx (a.eval x)) (hr : comp (.un op) [vx] h = some r) : ∃ c w' M', Tells P o a w c w' ∧ ResOK nf B ι M w false r c w' M' := by
  cases op <;> cases vx <;> simp only [comp] at hr <;> try cases hr
  · rename_i k i
    have hx : a.eval x = .int k i := hx
    exact ⟨.int k (k.wrap (0 - i)), w, M, .inl (by simp [execOp, ho, hx, Op.unary, Op.intArith]), ResOK.plain m rfl⟩
  · rename_i k i
    have hx : a.eval x = .int k i := hx
    simp only [Option.map_eq_some_iff, binInt, ne_eq, not_true_eq_false, if_false] at hr
    obtain ⟨u, hu, rfl⟩ := hr
    cases hu
    exact ⟨.int k (k.wrap (BitVec.ofInt k.bits (if k.signed then -1 else k.max) ^^^ BitVec.ofInt k.bits i).toNat), w, M, .inl (by simp only [execOp, ho, hx, Op.unary, Op.intBits]; rfl), ResOK.plain m rfl⟩
  · rename_i k e lo hi mm rr
    obtain ⟨hx, _⟩ := hx
    refine ⟨.int k (k.wrap (BitVec.ofInt k.bits (if k.signed then -1 else k.max) ^^^ BitVec.ofInt k.bits (evalE nf e)).toNat), w, M, .inl (by simp only [execOp, ho, hx, Op.unary, Op.intBits]; rfl), ResOK.plain m ?_⟩
    exact symV_mk (by simp only [evalE, binInt, ne_eq, not_true_eq_false, if_false]) (wrap_range _ _).1 (wrap_range _ _).2 _ rfl
  · rename_i b
    have hx : a.eval x = .bool b := hx
    exact ⟨_, w, M, .inl (by simp [execOp, ho, hx, Op.unary]), ResOK.plain m rfl⟩

theorem tells_conv {B : Base} {ι : Iota} {M : Nat → Prop} {h : Heap} {a : Act} {w : World} (m : Mem nf B ι M h w) {o : Oper} {s t : TypeId} {x : Operand} (ho : o.op = .convert s t x) {ks kt : IntKind} {vx : V} {r : Res}
    (hs : P.underlying s = some (.int ks)) (ht : P.underlying t = some (.int kt))
    (hx : DV nf ι w M vx (a.eval x)) (hr : comp (.conv kt) [vx] h = some r) : ∃ c w' M', Tells P o a w c w' ∧ ResOK nf B ι M w false r c w' M' := by
  simp only [comp, Option.map_eq_some_iff] at hr
  obtain ⟨u, hu, rfl⟩ := hr
  have run : ∀ k i, a.eval x = .int k i → Tells P o a w (.int kt (kt.wrap i)) w := by
    intro k i hx
    exact .inl (by simp [execOp, ho, hx, convert, run_underlying hs, run_underlying ht, Conv.intToInt])
  unfold convV at hu
  split at hu
  · cases hu
    exact ⟨_, w, M, run _ _ hx, ResOK.plain m rfl⟩
  · unfold symConv at hu
    split at hu
    · rename_i k e lo hi mm r _
      obtain ⟨x1, x2, x3, x4⟩ := hx
      split at hu
      · rename_i hc
        cases hu
        have hw := wrap_same kt (evalE nf e) (by omega) (by omega)
        exact ⟨_, w, M, run _ _ x1, ResOK.plain m ⟨by rw [hw], x2, x3, x4⟩⟩
      · cases hu
        exact ⟨_, w, M, run _ _ x1, ResOK.plain m ⟨rfl, (wrap_range _ _).1, (wrap_range _ _).2, Int.emod_one _⟩⟩
    · cases hu

theorem tells_mkfn {B : Base} {ι : Iota} {M : Nat → Prop} {h : Heap} {a : Act} {w : World} (m : Mem nf B ι M h w) {o : Oper} {g : FuncId} {first caps : Array Operand} (ho : o.op = .makeFunc (.func g) first caps) {f : Nat} {vf vc : List V} {r : Res}
    (hg : nf f = some g) (h1 : DVL nf ι w M vf (first.map a.eval).toList) (h2 : DVL nf ι w M vc (caps.map a.eval).toList) (hr : comp (.mkfn f first.size) (vf ++ vc) h = some r) : ∃ c w' M', Tells P o a w c w' ∧ ResOK nf B ι M w false r c w' M' := by
  simp only [comp, Option.some.injEq] at hr
  subst hr
  have hl : vf.length = first.size := by have := h1.length; simpa using this.symm
  refine ⟨.func (.func g) (first.map a.eval) (caps.map a.eval), w, M, .inl (by simp [execOp, ho, Instr.makeFunc]), ResOK.plain m ?_⟩
  rw [← hl, List.take_left, List.drop_left]
  exact ⟨g, _, _, hg, by rw [Array.toArray_toList, Array.toArray_toList], h1, h2⟩

end
end Fo
