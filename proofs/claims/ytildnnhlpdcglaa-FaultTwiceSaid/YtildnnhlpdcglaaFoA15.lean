/-
  The operations: slices that are made, and cut (part 15).
-/
import Derived.Test.YtildnnhlpdcglaaFoA14
namespace Fo
open Go
set_option linter.unusedVariables false
set_option linter.unusedSimpArgs false

section
variable {nf : Nm} {P : Program}

theorem flatten_len {n : Nat} : ∀ (r : List (List V)), (∀ x ∈ r, x.length = n) → r.flatten.length = r.length * n
  | [], _ => by simp
  | x :: r, h => by
    rw [List.flatten_cons, List.length_append, h x (by simp), flatten_len r (fun y hy => h y (by simp [hy])), List.length_cons, Nat.add_mul]; omega

/-- Rows, out of their cells. -/
theorem DCR.mk {w : World} {M : Nat → Prop} {b n : Nat} : ∀ (r : List (List V)) (cs : List Value) (o : Nat), (∀ x ∈ r, x.length = n) → DCL nf w M r.flatten cs → (∀ k c, cs[k]? = some c → w.cell? ⟨b, o + k, none⟩ = some c) → r.flatten.all V.one = true → DCR nf w M b n r o
  | [], _, _, _, _, _, _ => trivial
  | x :: r, cs, o, hl, hd, hc, ho => by
    rw [List.flatten_cons] at hd ho
    rw [List.all_append, Bool.and_eq_true] at ho
    have h1 := DCL.take x.length _ _ hd
    have h2 := DCL.drop x.length _ _ hd
    rw [List.take_left] at h1
    rw [List.drop_left] at h2
    have hx := hl x (by simp)
    refine ⟨hx, DCM.mk x _ o (fun k c hk => hc k c ?_) h1 ho.1, DCR.mk r _ (o + n) (fun y hy => hl y (by simp [hy])) h2 (fun k c hk => ?_) ho.2⟩
    · rw [List.getElem?_take] at hk
      split at hk
      · exact hk
      · cases hk
    · rw [List.getElem?_drop, hx] at hk
      rw [Nat.add_assoc]
      exact hc _ c hk

theorem DCR.cells {w : World} {M : Nat → Prop} {b n : Nat} : ∀ (r : List (List V)) (o : Nat), DCR nf w M b n r o →
    ∃ cs : List Value, DCL nf w M r.flatten cs ∧ (∀ k c, cs[k]? = some c → w.cell? ⟨b, o + k, none⟩ = some c) ∧ r.flatten.all V.one = true ∧ (∀ x ∈ r, x.length = n)
  | [], _, _ => ⟨[], rfl, by simp, rfl, by simp⟩
  | x :: r, o, ⟨h1, h2, h3⟩ => by
    obtain ⟨c1, l1, r1, d1⟩ := h2.read
    obtain ⟨c2, d2, r2, o2, l2⟩ := DCR.cells r (o + n) h3
    refine ⟨c1 ++ c2, DCL.append _ _ _ _ d1 d2, ?_, ?_, ?_⟩
    · intro k c hk
      by_cases hlt : k < c1.length
      · rw [List.getElem?_append_left hlt] at hk; exact r1 k c hk
      · rw [List.getElem?_append_right (by omega)] at hk
        have := r2 _ c hk
        rwa [show o + n + (k - c1.length) = o + k by omega] at this
    · rw [List.flatten_cons, List.all_append, h2.one, o2]; rfl
    · intro y hy
      rcases List.mem_cons.1 hy with rfl | hy
      · exact h1
      · exact l2 y hy

theorem flatten_set {n : Nat} : ∀ (r : List (List V)) (i : Nat) (x : List V), (∀ y ∈ r, y.length = n) → i < r.length → x.length = n → (r.set i x).flatten = splice r.flatten (i * n) x
  | [], i, x, _, h, _ => by simp at h
  | y :: r, 0, x, hl, h, hx => by
    have hy := hl y (by simp)
    simp only [List.set_cons_zero, List.flatten_cons, splice, Nat.zero_mul, List.take_zero, List.nil_append, Nat.zero_add]
    rw [hx, ← hy, List.drop_left]
  | y :: r, i + 1, x, hl, h, hx => by
    have hy := hl y (by simp)
    have ih := flatten_set r i x (fun z hz => hl z (by simp [hz])) (by simpa using h) hx
    simp only [List.set_cons_succ, List.flatten_cons, ih, splice]
    rw [show (i + 1) * n = y.length + i * n by rw [Nat.add_mul]; omega, List.take_length_add_append, Nat.add_assoc, List.drop_length_add_append]
    simp [List.append_assoc]

theorem splCc_ok {w : World} {M : Nat → Prop} {r l : List V} {A cs : List Value} {off : Nat} (h : DCL nf w M r A) (hl : DCL nf w M l cs) : DCL nf w M (splice r off l) (splC A off cs) := by
  unfold splice splC
  rw [hl.length]
  exact DCL.append _ _ _ _ (DCL.take _ _ _ h) (DCL.append _ _ _ _ hl (DCL.drop _ _ _ h))

theorem fillR_ok {B : Base} {ι : Iota} {M : Nat → Prop} {h : Heap} {w : World} (m : Mem nf B ι M h w) (n : Nat) : ∀ (places : List Nat) (vs : List V) (ps : List (Nat × Value)) (rows rows' : List (List V)) (ids0 ids : Ids) (A : Array Value),
    PartsOK (nf := nf) ι w M vs ps → ps.map (·.1) = places → DCL nf w (Less ι M ids0) rows.flatten A.toList → rows.flatten.all V.one = true → (∀ x ∈ rows, x.length = n) → fillR h n rows (places.zip vs) = some (rows', ids) →
    ∃ A', Instr.fill (fun i => some (i * n, n)) A ps = some A' ∧ DCL nf w (Less ι M (ids0 ++ ids)) rows'.flatten A'.toList ∧ rows'.flatten.all V.one = true ∧ (∀ x ∈ rows', x.length = n) ∧ rows'.length = rows.length ∧ (∀ i ∈ ids, Alive h i)
  | [], vs, ps, rows, rows', ids0, ids, A, hp, he, hd, ho, hl, hf => by
    have : ps = [] := by simpa using he
    subst this
    simp only [List.zip_nil_left, fillR, Option.some.injEq, Prod.mk.injEq] at hf; obtain ⟨rfl, rfl⟩ := hf
    exact ⟨A, rfl, by simpa using hd, ho, hl, rfl, by simp⟩
  | i :: places, [], ps, rows, rows', ids0, ids, A, hp, he, hd, ho, hl, hf => by
    have : ps = [] := hp
    subst this; simp at he
  | i :: places, v :: vs, ps, rows, rows', ids0, ids, A, hp, he, hd, ho, hl, hf => by
    obtain ⟨i', c, ps', rfl, h1, h2⟩ := hp
    simp only [List.map_cons, List.cons.injEq] at he
    obtain ⟨rfl, he⟩ := he
    simp only [List.zip_cons_cons, fillR] at hf
    cases hle : lendL h v.cells with
    | none => rw [hle] at hf; cases hf
    | some r =>
      rw [hle] at hf
      simp only at hf
      split at hf
      · rename_i hc
        simp only [Option.map_eq_some_iff] at hf
        obtain ⟨s, hs, e⟩ := hf
        simp only [Prod.mk.injEq] at e; obtain ⟨rfl, rfl⟩ := e
        have hone : v.cells.all V.one = true := by rw [← lendL_one _ hle]; exact hc.2.2
        obtain ⟨cs, hcs, hdl⟩ := cells_of h1 hone
        have hdc := lendL_ok m _ _ _ _ hdl hle
        have hlen := hdc.length
        have hA := hd.length
        simp only [Array.length_toList] at hA
        have hfl := flatten_len rows hl
        have hin : i' * n + n ≤ rows.length * n := by
          rw [show i' * n + n = (i' + 1) * n by rw [Nat.add_mul]; omega]
          exact Nat.mul_le_mul_right _ hc.2.1
        have e2 := foldl_zipA (i' * n) c A cs hcs (by omega)
        have hfs := flatten_set rows i' r.1 hl hc.2.1 hc.1
        obtain ⟨A', g1, g2, g3, g4, g5, g6⟩ := fillR_ok m n places vs ps' (rows.set i' r.1) s.1 (ids0 ++ r.2) s.2 (c.cells.zipIdx.foldl (fun (a : Array Value) (x : Value × Nat) => a.setIfInBounds (i' * n + x.2) x.1) A) h2 he
          (by rw [hfs, e2]; exact splCc_ok (DCL.stays (Less.sub (by simp +contextual)) _ _ hd) (DCL.stays (Less.sub (by simp +contextual)) _ _ hdc)) (by rw [hfs]; exact splice_one ho hc.2.2)
          (by intro x hx; rcases List.mem_or_eq_of_mem_set hx with hx | rfl; exact hl x hx; exact hc.1) hs
        refine ⟨A', ?_, by rw [← List.append_assoc]; exact g2, g3, g4, by rw [g5]; simp, ?_⟩
        · have hsz : c.cells.size = n := by rw [hcs]; simp; omega
          simp only [Instr.fill]
          rw [if_neg (by simp [hsz]; omega)]
          exact g1
        · intro x hx
          rcases List.mem_append.1 hx with hx | hx
          · exact lendL_alive _ hle x hx
          · exact g6 x hx
      · cases hf

theorem zeros_flat (z : Array Value) (n : Nat) (hz : z.size = n) : ∀ (len : Nat), ((Array.range (len * n)).map (z[· % z.size]!)).toList = (List.replicate len z.toList).flatten := by
  intro len
  simp only [Array.toList_map, Array.toList_range]
  subst hz
  induction len with
  | zero => simp
  | succ k ih =>
    rw [show (k + 1) * z.size = z.size + k * z.size by rw [Nat.add_mul]; omega, List.range_add, List.map_append, List.map_map, List.replicate_succ, List.flatten_cons]
    congr 1
    · apply List.ext_getElem
      · simp
      · intro i h1 h2
        simp at h1 h2 ⊢
        rw [Nat.mod_eq_of_lt h2]
        simp [h2]
    · rw [← ih]
      apply List.map_congr_left
      intro i _
      simp

theorem DCL.replicate {w : World} {M : Nat → Prop} {l : List V} {cs : List Value} (h : DCL nf w M l cs) : ∀ (k : Nat), DCL nf w M (List.replicate k l).flatten (List.replicate k cs).flatten
  | 0 => by simp [DCL]
  | k + 1 => by rw [List.replicate_succ, List.replicate_succ, List.flatten_cons, List.flatten_cons]; exact DCL.append _ _ _ _ h (DCL.replicate h k)
theorem one_replicate {l : List V} (h : l.all V.one = true) : ∀ (k : Nat), ((List.replicate k l).flatten).all V.one = true
  | 0 => rfl
  | k + 1 => by rw [List.replicate_succ, List.flatten_cons, List.all_append, h, one_replicate h k]; rfl

theorem size_lt_alloc (w : World) (o : Obj) : w.heap.size < (w.alloc o).heap.size := by rw [size_alloc]; omega

theorem range0 (f : Nat → Value) : (Array.range 0).map f = #[] := by apply Array.ext'; simp

/-- A slice in a new block. -/
theorem fresh_ok {ι : Iota} {w : World} {M : Nat → Prop} {ids : Ids} {n : Nat} {rows : List (List V)} {A : Array Value} {t : TypeId} {cap : Nat} (hd : DCL nf w (Less ι M ids) rows.flatten (A.toList.take (rows.length * n))) (ho : rows.flatten.all V.one = true) (hl : ∀ x ∈ rows, x.length = n)
    (hc : rows.length ≤ cap) (hs : cap * n ≤ A.size) (hlent : ¬ Lent ι ids w.heap.size) (hne : rows ≠ []) :
    XV nf ι (w.alloc (.cells A t)) (Less ι (plusM M w) ids) (.fresh rows) (.slice (some ⟨w.heap.size, 0, none⟩) rows.length cap) [w.heap.size] := by
  refine .inr ⟨hne, w.heap.size, 0, n, cap, t, A.size, rfl, hc, rfl, ⟨.inr rfl, hlent⟩, NF.new, shape_new, by omega, ?_⟩
  have s : Stays w (Less ι M ids) (w.alloc (.cells A t)) (Less ι (plusM M w) ids) := by
    have s := Stays.alloc w M (.cells A t)
    refine ⟨s.size, fun b hb hb2 => heap_alloc_lt hb2, fun b hb => ?_, s.shape⟩
    rcases hb.1 with h1 | h1
    · exact .inl ⟨h1, hb.2⟩
    · exact .inr (by omega)
  refine DCR.mk rows (A.toList.take (rows.length * n)) 0 hl (DCL.stays s _ _ hd) ?_ ho
  intro k c hk
  rw [cell_new, Nat.zero_add]
  rw [List.getElem?_take] at hk
  split at hk
  · simpa using hk
  · cases hk

theorem tells_buildSl {B : Base} {ι : Iota} {M : Nat → Prop} {h : Heap} {a : Act} {w : World} (m : Mem nf B ι M h w) {o : Oper} {t e : TypeId} {len : Nat} {parts : Array (Nat × Operand)} (ho : o.op = .buildSlice t len parts) {n : Nat} {z : Value} {zero : List V} {vs : List V} {r : Res}
    (ht : P.underlying t = some (.slice e)) (hn : szOf P e = some n) (hz : (P.info? e).bind (·.zero) = some z) (hzs : z.cells.size = n) (hzd : DCL nf w M zero z.cells.toList) (hlim : len * n ≤ 2 ^ 24)
    (hv : DVL nf ι w M vs (parts.toList.map fun x => a.eval x.2)) (hr : comp (.buildSl n zero len (parts.toList.map (·.1))) vs h = some r) : ∃ c w' M', Tells P o a w c w' ∧ ResOK nf B ι M w true r c w' M' := by
  simp only [comp] at hr
  split at hr
  · rename_i hc
    simp only [Option.map_eq_some_iff] at hr
    obtain ⟨q, hf, rfl⟩ := hr
    have hparts : ∀ (l : List (Nat × Operand)) (vs : List V), DVL nf ι w M vs (l.map fun x => a.eval x.2) → PartsOK (nf := nf) ι w M vs (l.map fun x => (x.1, a.eval x.2)) := by
      intro l
      induction l with
      | nil => intro vs h; cases vs with
        | nil => rfl
        | cons v vs => obtain ⟨c, cs', e, _⟩ := h; simp at e
      | cons x l ih => intro vs h; cases vs with
        | nil => have h : _ = [] := h; simp at h
        | cons v vs =>
          obtain ⟨c, cs', e, h1, h2⟩ := h
          simp only [List.map_cons, List.cons.injEq] at e
          obtain ⟨rfl, rfl⟩ := e
          exact ⟨x.1, a.eval x.2, _, rfl, h1, ih vs h2⟩
    have hrep : ∀ x ∈ List.replicate len zero, x.length = n := by intro x hx; rw [(List.mem_replicate.1 hx).2]; exact hc.2.1
    obtain ⟨A', g1, g2, g3, g4, g5, g6⟩ := fillR_ok (nf := nf) m n (parts.toList.map (·.1)) vs (parts.toList.map fun x => (x.1, a.eval x.2)) (List.replicate len zero) q.1 [] q.2 ((Array.range (len * n)).map (z.cells[· % z.cells.size]!)) (hparts _ _ hv)
      (by rw [List.map_map]; rfl) (by rw [zeros_flat _ _ hzs]; exact DCL.replicate (DCL.stays (Less.of ι w M []) _ _ hzd) len) (one_replicate hc.2.2 len) hrep hf
    have hlen : q.1.length = len := by rw [g5]; simp
    have hA : A'.size = len * n := by
      have := g2.length
      rw [flatten_len _ g4, hlen] at this
      simpa using this
    have e1 : (parts.map fun (i, x) => (i, a.eval x)).toList = parts.toList.map fun x => (x.1, a.eval x.2) := by simp
    have hlent : ¬ Lent ι q.2 w.heap.size := fun hl => by have := Lent.old m g6 hl; omega
    have hrun : (execOp a.eval o).run P w = .ok (.value (.slice (some ⟨w.heap.size, 0, none⟩) len len)) (w.alloc (.cells A' e)) := by
      have hlim' : ¬ (len * n > 2 ^ 24) := by omega
      by_cases h0 : len * n = 0
      · have g1' : Instr.fill (fun i => some (i * n, n)) #[] (parts.toList.map fun x => (x.1, a.eval x.2)) = some A' := by
          rw [h0, range0] at g1; exact g1
        simp only [execOp, ho, Instr.buildSlice, Sem.run_bind, run_underlying ht, Result.andThen_ok, run_sizeOf' hn, hlim', if_false]
        simp only [h0, if_true, Sem.run_bind, Sem.run_pure, Result.andThen_ok, e1, range0, g1']
        simp [newRow, newObj, Sem.run, Bind.bind, Sem.bind, Pure.pure]
      · simp only [execOp, ho, Instr.buildSlice, Sem.run_bind, run_underlying ht, Result.andThen_ok, run_sizeOf' hn, hlim', h0, if_false, zeroOf hz, Sem.run_pure, e1, g1]
        simp [newRow, newObj, Sem.run, Bind.bind, Sem.bind, Pure.pure]
    by_cases hl0 : len = 0
    · have hq0 : q.1 = [] := List.eq_nil_of_length_eq_zero (by omega)
      refine ⟨_, _, plusM M w, .inl hrun, Stays.alloc w M _, m.alloc _, fun i hi => .inl (g6 i hi), fun _ => ⟨[], [], .inl ⟨hq0, rfl, some ⟨w.heap.size, 0, none⟩, by rw [hl0]⟩, rfl, by simp, by simp⟩, fun e => by cases e⟩
    refine ⟨_, _, plusM M w, .inl hrun, ResOK.alloc m _ g6 ?_⟩
    · have := fresh_ok (nf := nf) (ι := ι) (w := w) (M := M) (ids := q.2) (n := n) (rows := q.1) (A := A') (t := e) (cap := len) (by rw [hlen, List.take_of_length_le (by simp [hA])]; simpa using g2) g3 g4 (by omega) (by omega) hlent (by intro h0; rw [h0] at hlen; exact hl0 hlen.symm)
      rw [hlen] at this
      exact this
  · cases hr

end
end Fo
