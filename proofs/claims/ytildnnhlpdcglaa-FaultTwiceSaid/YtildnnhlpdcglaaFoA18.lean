/-
  The operations: cuts of slices, clear, numbers (part 18).
-/
import Derived.Test.YtildnnhlpdcglaaFoA17
namespace Fo
open Go
set_option linter.unusedVariables false
set_option linter.unusedSimpArgs false

section
variable {nf : Nm} {P : Program}

def LoOK (lo : Option Value) (l d : Int) : Prop := match lo with | some v => v = .int .i64 l | none => l = d
def HiOK (hi : Option Value) (b : Option Int) : Prop := match hi, b with | some v, some h => v = .int .i64 h | none, none => True | _, _ => False
theorem HiOK.lo {hi : Option Value} {b : Option Int} (h : HiOK hi b) (d : Int) : LoOK hi (b.getD d) d := by
  cases hi <;> cases b <;> first | exact h.elim | exact h | rfl

theorem run_sliceAt {w : World} {t e : TypeId} {n : Nat} (ht : P.underlying t = some (.slice e)) (hn : szOf P e = some n) {a : Option Addr} {len cap : Nat} {lo hi : Option Value} {l h : Int}
    (hlo : LoOK lo l 0) (hhi : LoOK hi h len) (h1 : 0 ≤ l) (h2 : l ≤ h) (h3 : h ≤ cap) :
    (Instr.sliceAt t (.slice a len cap) lo hi none).run P w = .ok (.slice (if cap = l.toNat then a else a.map (·.add (l.toNat * n))) (h.toNat - l.toNat) (cap - l.toNat)) w := by
  have e1 : (Instr.sliceBound (.int .i64 h) cap .sliceAcap).run P w = .ok h.toNat w := by simp [Instr.sliceBound, asIntOf, h3]; omega
  have e2 : (Instr.sliceBound (.int .i64 l) h.toNat .sliceB).run P w = .ok l.toNat w := by simp [Instr.sliceBound, asIntOf, h1]; omega
  have e3 : ∀ k : Nat, h = k → (Instr.sliceBound (.int .i64 l) k .sliceB).run P w = .ok l.toNat w := by
    intro k hk; subst hk; simpa using e2
  cases lo <;> cases hi <;> simp only [LoOK] at hlo hhi <;> subst_vars
  · simp [Instr.sliceAt, run_underlying ht, Instr.slice, Instr.sliceBounds, run_sizeOf' hn]
  · simp [Instr.sliceAt, run_underlying ht, Instr.slice, Instr.sliceBounds, run_sizeOf' hn, e1]
  · simp [Instr.sliceAt, run_underlying ht, Instr.slice, Instr.sliceBounds, run_sizeOf' hn, e3 len rfl]
  · simp [Instr.sliceAt, run_underlying ht, Instr.slice, Instr.sliceBounds, run_sizeOf' hn, e1, e2]

theorem sliceV_ok {B : Base} {ι : Iota} {M : Nat → Prop} {h : Heap} {w : World} (m : Mem nf B ι M h w) {t e : TypeId} {n : Nat} (ht : P.underlying t = some (.slice e)) (hn : szOf P e = some n)
    {x : V} {c : Value} {lo hi : Option Value} {l : Int} {b : Option Int} {v : V} (hx : DV nf ι w M x c) (hlo : LoOK lo l 0) (hhi : HiOK hi b)
    (hr : sliceV.go n h x l b = some v) : ∃ c', (Instr.sliceAt t c lo hi none).run P w = .ok c' w ∧ DV nf ι w M v c' := by
  unfold sliceV.go at hr
  split at hr
  · rename_i rows
    simp only at hr
    split at hr
    · rename_i hc
      obtain ⟨c1, c2, c3, c4⟩ := hc
      cases hr
      obtain ⟨a, cap, ex, hl, hz, hm⟩ := hx
      subst ex
      refine ⟨_, run_sliceAt ht hn hlo (hhi.lo _) c1 c2 (by omega), ?_⟩
      have hlen : ((rows.drop l.toNat).take ((b.getD rows.length).toNat - l.toNat)).length = (b.getD rows.length).toNat - l.toNat := by rw [List.length_take, List.length_drop]; omega
      refine ⟨_, cap - l.toNat, by rw [hlen], by rw [hlen]; omega, ?_, ?_⟩
      · intro e
        split at e
        · omega
        · cases a with
          | none => have := hz rfl; omega
          | some a => simp at e
      rcases hm with hm | ⟨bb, o, n', ha, m1, m2, m3⟩
      · left; subst hm; simp
      · by_cases hcap : cap = l.toNat
        · left
          exact List.eq_nil_of_length_eq_zero (by rw [hlen]; omega)
        · cases rows with
          | nil => left; simp
          | cons r0 rs =>
            have hnn : n' = n := by
              have := m3.1
              simp only [List.all_cons, Bool.and_eq_true, decide_eq_true_eq] at c4
              omega
            subst hnn
            right
            refine ⟨bb, o + l.toNat * n', n', by rw [if_neg hcap, ha]; simp [Addr.add_lit], m1, m2, DCR.take _ _ _ (DCR.drop _ _ _ m3)⟩
    · cases hr
  · rename_i q
    split at hr
    · rename_i hc
      obtain ⟨rfl, c2⟩ := hc
      cases hr
      cases q with
      | true =>
        have hx : c = .slice none 0 0 := hx
        subst hx
        exact ⟨_, run_sliceAt (l := 0) (h := b.getD 0) ht hn hlo (hhi.lo _) (Int.le_refl _) (by omega) (by omega), by rw [c2]; rfl⟩
      | false =>
        obtain ⟨a, cap, hx⟩ := hx
        subst hx
        refine ⟨_, run_sliceAt (l := 0) (h := b.getD 0) ht hn hlo (hhi.lo _) (Int.le_refl _) (by omega) (by omega), ?_⟩
        rw [c2]
        by_cases h0 : cap = Int.toNat 0
        · exact ⟨a, cap - Int.toNat 0, by rw [if_pos h0]; rfl⟩
        · exact ⟨a.add (Int.toNat 0 * n), cap - Int.toNat 0, by rw [if_neg h0]; rfl⟩
    · cases hr
  · rename_i d ver j fr len
    simp only at hr
    split at hr
    · rename_i r hrr
      split at hr
      · rename_i hc
        obtain ⟨c1, c2, c3, c4⟩ := hc
        cases hr
        rcases hx with ⟨h1, rfl, rfl, ad, ex⟩ | ⟨bb, o', n', tot, ad, cap, e', N, h1, ex, h3, h4, h5, h6, h7, h8⟩
        · subst ex
          have hr0 : r = [] := by
            have k := m.blk d ver j
            cases hq : h.bl d ver j with
            | dead => rw [hq] at hrr; cases hrr
            | box x => rw [hq] at hrr; cases hrr
            | mp x => rw [hq] at hrr; cases hrr
            | rows x =>
              rw [hq] at hrr k; cases hrr
              rcases k with ⟨_, k2⟩ | ⟨_, b', o2, n2, e2, N2, k1, _⟩
              · exact k2
              · rw [k1] at h1; cases h1
            | frz x =>
              rw [hq] at hrr k; cases hrr
              rcases k with ⟨_, k2⟩ | ⟨b', o2, n2, k1, _⟩
              · exact k2
              · rw [k1] at h1; cases h1
          subst hr0
          simp only [List.length_nil] at c3
          refine ⟨_, run_sliceAt ht hn hlo (hhi.lo _) c1 c2 (by omega), .inl ⟨h1, by omega, by omega, ad, ?_⟩⟩
          have e1 : l.toNat = 0 := by omega
          have e2 : (b.getD ((0 : Nat) : Int)).toNat = 0 := by omega
          rw [e1, e2]; simp
        · have htot : tot = r.length := by
            have k := m.blk d ver j
            cases hq : h.bl d ver j with
            | dead => rw [hq] at hrr; cases hrr
            | box x => rw [hq] at hrr; cases hrr
            | mp x => rw [hq] at hrr; cases hrr
            | rows x =>
              rw [hq] at hrr k; cases hrr
              rcases k with ⟨k1, _⟩ | ⟨_, b', o2, n2, e2, N2, k1, _⟩
              · rw [k1] at h1; cases h1
              · rw [k1] at h1; cases h1; rfl
            | frz x =>
              rw [hq] at hrr k; cases hrr
              rcases k with ⟨k1, _⟩ | ⟨b', o2, n2, k1, _⟩
              · rw [k1] at h1; cases h1
              · rw [k1] at h1; cases h1; rfl
          subst ex
          refine ⟨_, run_sliceAt ht hn hlo (hhi.lo _) c1 c2 (by omega), ?_⟩
          have g := allRows_ok m hrr h1
          have hnn : r = [] ∨ n' = n := by
            cases r with
            | nil => exact .inl rfl
            | cons q qs => right; have e1 := g.1; simp only [List.all_cons, Bool.and_eq_true, decide_eq_true_eq] at c4; omega
          refine .inr ⟨bb, o', n', tot, _, cap - l.toNat, e', N, h1, rfl, by omega, by omega, by omega, ?_, h7, ?_⟩
          · by_cases hcap : cap = l.toNat
            · right; omega
            · rcases h6 with h6 | h6
              · rcases hnn with hnn | hnn
                · subst hnn
                  simp only [List.length_nil] at c3
                  have e1 : l.toNat = 0 := by omega
                  have e2 : fr = 0 := by omega
                  left; rw [if_neg hcap, h6, e1, e2]; simp [Addr.add_lit]
                · subst hnn
                  left; rw [if_neg hcap, h6]; simp [Addr.add_lit, Nat.add_mul, Nat.add_assoc]
              · right; omega
          · have : fr + l.toNat + (cap - l.toNat) = fr + cap := by omega
            rw [this]; exact h8
      · cases hr
    · cases hr
  · cases hr

theorem i64_of {ι : Iota} {w : World} {M : Nat → Prop} {k : IntKind} {n : Int} {c : Value} (h : DV nf ι w M (.int k n) c) : c = .int k n := h

theorem tells_slice {B : Base} {ι : Iota} {M : Nat → Prop} {h : Heap} {a : Act} {w : World} (m : Mem nf B ι M h w) {o : Oper} {t e : TypeId} {x : Operand} {lo hi : Option Operand} (ho : o.op = .slice t x lo hi none) {n : Nat}
    (ht : P.underlying t = some (.slice e)) (hn : szOf P e = some n) {vx : V} {vl vh : Option V} {r : Res} (hx : DV nf ι w M vx (a.eval x))
    (hl : match lo, vl with | some o, some v => DV nf ι w M v (a.eval o) | none, none => True | _, _ => False) (hh : match hi, vh with | some o, some v => DV nf ι w M v (a.eval o) | none, none => True | _, _ => False)
    (hr : (sliceV n h vx vl vh).map (fun v => (⟨v, h, [], []⟩ : Res)) = some r) : ∃ c w' M', Tells P o a w c w' ∧ ResOK nf B ι M w false r c w' M' := by
  simp only [Option.map_eq_some_iff] at hr
  obtain ⟨v, hv, rfl⟩ := hr
  have key : ∃ c', (Instr.sliceAt t (a.eval x) (lo.map a.eval) (hi.map a.eval) none).run P w = .ok c' w ∧ DV nf ι w M v c' := by
    unfold sliceV at hv
    split at hv
    · rename_i q
      split at hv
      · rename_i q2
        cases lo <;> cases hi <;> simp only at hl hh
        exact sliceV_ok m ht hn hx (lo := some _) (hi := some _) (by exact i64_of hl) (by exact i64_of hh) hv
      · cases lo <;> cases hi <;> simp only at hl hh
        exact sliceV_ok m ht hn hx (lo := some _) (hi := none) (b := none) (by exact i64_of hl) trivial hv
      · cases hv
    · split at hv
      · rename_i q2
        cases lo <;> cases hi <;> simp only at hl hh
        exact sliceV_ok m ht hn hx (lo := none) (hi := some _) rfl (by exact i64_of hh) hv
      · cases lo <;> cases hi <;> simp only at hl hh
        exact sliceV_ok m ht hn hx (lo := none) (hi := none) (b := none) rfl trivial hv
      · cases hv
    · cases hv
  obtain ⟨c', hrun, hd⟩ := key
  exact ⟨c', w, M, .inl (by simp [execOp, ho, hrun]), ResOK.plain m hd⟩

theorem tells_clear {B : Base} {ι : Iota} {M : Nat → Prop} {h : Heap} {a : Act} {w : World} (m : Mem nf B ι M h w) {o : Oper} {x : Operand} {t e : TypeId} (ho : o.op = .call { callee := .builtin .clear, args := #[x], argTypes := #[t] })
    {n : Nat} {z : Value} {zero : List V} (ht : P.underlying t = some (.slice e)) (hz : (P.info? e).bind (·.zero) = some z) (hzd : DCL nf w M zero z.cells.toList) (hzo : zero.all V.one = true)
    {vx : V} {r : Res} (hx : DV nf ι w M vx (a.eval x)) (hr : comp (.clear zero) [vx] h = some r) : ∃ c w' M', Tells P o a w c w' ∧ ResOK nf B ι M w false r c w' M' := by
  have hexec : ∀ w', (Builtin.clear_ #[t] o.type #[a.eval x]).run P w = .ok (.tuple #[]) w' → Tells P o a w undef w' := by
    intro w' hrun
    exact .inl (by simp [execOp, ho, resolve, invoke, builtin, hrun]; rfl)
  cases vx <;> simp only [comp] at hr <;> try cases hr
  rename_i d v j fr len
  split at hr
  · rename_i rr hb
    split at hr
    · rename_i hc
      obtain ⟨c1, c2, c3⟩ := hc
      cases hr
      have k := m.blk d v j
      rw [hb] at k
      have hzl : z.cells.size = zero.length := by have := hzd.length; simpa using this
      rcases hx with ⟨h1, rfl, rfl, ad, ex⟩ | ⟨b, o', n', tot, ad, cap, e', N, h1, ex, h3, h4, h5, h6, h7, h8⟩
      · have hr0 : rr = [] := by
          rcases k with ⟨_, k2⟩ | ⟨_, b', o2, n2, e2, N2, k1, _⟩
          · exact k2
          · rw [k1] at h1; cases h1
        subst hr0
        have hrun : (Builtin.clear_ #[t] o.type #[a.eval x]).run P w = .ok (.tuple #[]) w := by
          rw [ex]; cases ad <;> simp [Builtin.clear_, run_underlying ht]
        show ∃ c w' M', Tells P o a w c w' ∧ ResOK nf B ι M w false ⟨unit, h.set d v j (.rows []), [], []⟩ c w' M'
        refine ⟨_, w, M, hexec _ hrun, ResOK.plain (m.put (d := d) (v := v) (j := j) (c := .rows []) (by rw [h1]; simp) (Or.inl ⟨h1, rfl⟩) ?_) DV.unit⟩
        rintro b ⟨o2, n2, t2', e2⟩; rw [h1] at e2; cases e2
      · rcases k with ⟨k1, k2⟩ | ⟨hne, b', o2, n2, e2, N2, k1, k2, k3, k4, k5, k6⟩
        · rw [k1] at h1; cases h1
        rw [k1] at h1; cases h1
        have ow : Owns h ι d v j b := by unfold Owns; rw [hb]; exact ⟨_, _, _, k1⟩
        simp only [List.all_eq_true, decide_eq_true_eq] at c2
        have hnn : n' = zero.length := by
          cases rr with
          | nil => exact absurd rfl hne
          | cons q qs => have e1 := DCR.lens _ _ k6 q (by simp); have e2 := c2 q (by simp); omega
        have c2' : ∀ x ∈ rr, x.length = n' := by intro x hx; rw [hnn]; exact c2 x hx
        by_cases hl0 : len = 0
        · subst hl0
          have hsame : rr.take fr ++ (List.replicate 0 zero ++ rr.drop (fr + 0)) = rr := by simp
          rw [hsame]
          have hrun : (Builtin.clear_ #[t] o.type #[a.eval x]).run P w = .ok (.tuple #[]) w := by
            rw [ex]; cases ad <;> simp [Builtin.clear_, run_underlying ht]
          refine ⟨_, w, M, hexec _ hrun, ResOK.plain (m.put (d := d) (v := v) (j := j) (c := .rows rr) (by rw [k1]; simp) (Or.inr ⟨hne, b, o', n', e2, N2, k1, k2, k3, k4, k5, k6⟩) ?_) DV.unit⟩
          rintro b2 ⟨o4, n4, t4, e4⟩
          rw [k1] at e4; cases e4
          exact ⟨fun d2 v2 j2 ne o5 => ne (m.inj _ _ _ _ _ _ _ o5 ow), m.mine _ _ _ _ ow⟩
        · have had : ad = some ⟨b, o' + fr * n', none⟩ := by rcases h6 with h6 | h6; exact h6; omega
          subst had
          have hzc : (Builtin.zeroCells z.cells len).toList = (List.replicate len z.cells.toList).flatten := zeros_flat _ _ rfl len
          have hdz := DCL.replicate hzd len
          have hoz := one_replicate hzo len
          have hlz : ((List.replicate len zero).flatten).length = len * n' := by rw [flatten_len (n := n') _ (by intro x hx; rw [(List.mem_replicate.1 hx).2, hnn])]; simp
          have hbound : o' + fr * n' + len * n' ≤ o' + rr.length * n' := by
            rw [Nat.add_assoc, ← Nat.add_mul]; exact Nat.add_le_add_left (Nat.mul_le_mul_right _ c1) _
          have hcl := hdz.length
          have hst : (storeCells (⟨b, o' + fr * n', none⟩ : Addr) (Builtin.zeroCells z.cells len).toList).run P w = .ok () (w.setCells b (o' + fr * n') (List.replicate len z.cells.toList).flatten) := by
            rw [hzc]
            exact run_store_seq (dcl_one hdz hoz) (fun k hk => cell_isSome k4 (by omega)) k3
          have hrun : (Builtin.clear_ #[t] o.type #[a.eval x]).run P w = .ok (.tuple #[]) (w.setCells b (o' + fr * n') (List.replicate len z.cells.toList).flatten) := by
            rw [ex]
            cases len with
            | zero => exact absurd rfl hl0
            | succ len => simp [Builtin.clear_, run_underlying ht, zeroOf hz, hst]
          have hlens : ∀ x ∈ rr.take fr ++ (List.replicate len zero ++ rr.drop (fr + len)), x.length = n' := by
            intro x hx
            rcases List.mem_append.1 hx with hx | hx
            · exact c2' x (List.mem_of_mem_take hx)
            · rcases List.mem_append.1 hx with hx | hx
              · rw [(List.mem_replicate.1 hx).2, hnn]
              · exact c2' x (List.mem_of_mem_drop hx)
          have hflat : (rr.take fr ++ (List.replicate len zero ++ rr.drop (fr + len))).flatten = splice rr.flatten (fr * n') (List.replicate len zero).flatten := by
            unfold splice
            rw [List.flatten_append, List.flatten_append, flatten_take n' _ _ c2', flatten_drop n' _ _ c2', hlz, ← Nat.add_mul]
          have hnl : (rr.take fr ++ (List.replicate len zero ++ rr.drop (fr + len))).length = rr.length := by simp; omega
          have hwr := DCM.write k2 k6.flat hdz hoz (off := fr * n') (by rw [hlz, flatten_len _ c2', ← Nat.add_mul]; exact Nat.mul_le_mul_right _ c1)
          rw [← hflat] at hwr
          have hnew := DCM.unflat _ _ hlens hwr
          have mdt := m.dirty ow (List.replicate len z.cells.toList).flatten (o' + fr * n')
          have e3 : ∀ (c : Bc), (h.set d v j .dead).set d v j c = h.set d v j c := by
            intro c; unfold Heap.set; simp only; congr 1; funext d' v' j'; split <;> rfl
          have mm := mdt.put (d := d) (v := v) (j := j) (c := .rows (rr.take fr ++ (List.replicate len zero ++ rr.drop (fr + len)))) (by rw [k1]; simp)
            (Or.inr ⟨by intro h0; rw [h0] at hnl; simp at hnl; exact hne (List.eq_nil_of_length_eq_zero hnl.symm), b, o', n', e2, N2, by rw [hnl]; exact k1, k2, fun x => by rw [World.frozen?_setCells]; exact k3 x, by rw [shape_setCells]; exact k4, by rw [hnl]; exact k5, hnew⟩) (by
              rintro b2 ⟨o4, n4, t4, e4⟩
              rw [k1] at e4; cases e4
              exact ⟨fun d2 v2 j2 _ => dirty_not m ow d2 v2 j2, m.mine _ _ _ _ ow⟩)
          rw [e3] at mm
          refine ⟨_, _, M, hexec _ hrun, ⟨Stays.setCells k2 _ _, mm, (fun i hi => by cases hi), (fun e => by cases e), fun _ => ⟨DV.unit, [], rfl, by simp, by simp⟩⟩⟩
    · cases hr
  · cases hr

end
end Fo
