/-
  The operations: append, cuts of slices, clear (part 16).
-/
import Derived.Test.YtildnnhlpdcglaaFoA15
namespace Fo
open Go
set_option linter.unusedVariables false
set_option linter.unusedSimpArgs false

section
variable {nf : Nm} {P : Program}

/-- The rows of a slice, as the model reads them. -/
structure RowsAre (w : World) (M : Nat → Prop) (n : Nat) (ys : List (List V)) (c : Value) : Prop where
  ex : ∃ a cap cs, c = .slice a ys.length cap ∧ ys.length ≤ cap ∧ (ys.length * n = 0 ∨ ∃ b o, a = some ⟨b, o, none⟩ ∧ ∀ k v, cs[k]? = some v → w.cell? ⟨b, o + k, none⟩ = some v) ∧ DCL nf w M ys.flatten cs ∧ ys.flatten.all V.one = true

theorem rowsOf_ok {B : Base} {ι : Iota} {M : Nat → Prop} {h : Heap} {w : World} (m : Mem nf B ι M h w) {y : V} {c : Value} {ys : List (List V)} {n : Nat} (hr : rowsOf h y = some ys) (hy : DV nf ι w M y c) (hn : ∀ x ∈ ys, x.length = n) : RowsAre (nf := nf) w M n ys c := by
  unfold rowsOf at hr
  split at hr
  · rename_i rows
    cases hr
    obtain ⟨a, cap, e, hl, -, hm⟩ := hy
    rcases hm with hm | ⟨b, o, n', ha, _, _, hd⟩
    · subst hm; exact ⟨a, cap, [], e, hl, .inl (by simp), rfl, rfl⟩
    · obtain ⟨cs, d1, d2, d3, d4⟩ := hd.cells
      exact ⟨a, cap, cs, e, hl, .inr ⟨b, o, ha, d2⟩, d1, d3⟩
  · rename_i rows
    split at hr
    · cases hr
      obtain ⟨_, a, e⟩ := hy
      exact ⟨a, 0, [], e, by simp, .inl (by simp), rfl, rfl⟩
    · cases hr
  · rename_i n
    cases hr
    cases n with
    | true => exact ⟨none, 0, [], hy, by simp, .inl (by simp), rfl, rfl⟩
    | false => obtain ⟨a, cap, e⟩ := hy; exact ⟨some a, cap, [], e, by simp, .inl (by simp), rfl, rfl⟩
  · rename_i d v j fr len
    simp only [Option.map_eq_some_iff] at hr
    obtain ⟨r, hrr, rfl⟩ := hr
    rcases hy with ⟨h1, rfl, rfl, a, e⟩ | ⟨b, o, n', tot, a, cap, e', N, h1, h2, h3, h4, h5, h6, h7, h8⟩
    · exact ⟨a, 0, [], by simpa using e, by simp, .inl (by simp), by simp [DCL], by simp⟩
    · have g := allRows_ok m hrr h1
      have htot : tot = r.length := by
        have k := m.blk d v j
        cases hc : h.bl d v j with
        | dead => rw [hc] at hrr; cases hrr
        | box x => rw [hc] at hrr; cases hrr
        | mp x => rw [hc] at hrr; cases hrr
        | rows x =>
          rw [hc] at hrr k; cases hrr
          rcases k with ⟨k1, _⟩ | ⟨hne, b', o2, n2, e2, N2, k1, _⟩
          · rw [k1] at h1; cases h1
          · rw [k1] at h1; cases h1; rfl
        | frz x =>
          rw [hc] at hrr k; cases hrr
          rcases k with ⟨k1, _⟩ | ⟨b', o2, n2, k1, _⟩
          · rw [k1] at h1; cases h1
          · rw [k1] at h1; cases h1; rfl
      have hl : ((r.drop fr).take len).length = len := by rw [List.length_take, List.length_drop]; omega
      obtain ⟨cs, d1, d2, d3, d4⟩ := (DCR.take len _ _ (DCR.drop fr r o g)).cells
      refine ⟨a, cap, cs, by rw [hl]; exact h2, by rw [hl]; exact h3, ?_, d1, d3⟩
      rcases h6 with h6 | h6
      · exact .inr ⟨b, o + fr * n', h6, d2⟩
      · left; rw [hl]; have : len = 0 := by omega
        rw [this]; simp
  · cases hr

theorem RowsAre.first {w : World} {M : Nat → Prop} {n : Nat} {ys : List (List V)} {c : Value} (h : RowsAre (nf := nf) w M n ys c) (hn : ∀ x ∈ ys, x.length = n) :
    ∃ cs, (Builtin.firstCells n ys.length c).run P w = .ok cs.toArray w ∧ DCL nf w M ys.flatten cs ∧ cs.length = ys.length * n ∧ ys.flatten.all V.one = true := by
  obtain ⟨a, cap, cs, e, hl, hm, hd, ho⟩ := h.ex
  have hlen : cs.length = ys.length * n := by rw [hd.length, flatten_len _ hn]
  refine ⟨cs, ?_, hd, hlen, ho⟩
  subst e
  cases a with
  | none =>
    rcases hm with hm | ⟨b, o, ha, _⟩
    · have : cs = [] := List.eq_nil_of_length_eq_zero (by omega)
      subst this; simp [Builtin.firstCells]
    · cases ha
  | some ad =>
    simp only [Builtin.firstCells]
    rw [← hlen]
    refine run_loadCells_list w ad cs ?_
    rcases hm with hm | ⟨b, o, ha, hc⟩
    · have : cs = [] := List.eq_nil_of_length_eq_zero (by omega)
      subst this; simp
    · cases ha
      intro j v hj
      rw [Addr.add_lit]; exact hc j v hj

theorem growBy_le (need : Nat) : ∀ (k c : Nat), c ≤ 2 * need + 768 → Builtin.growBy need k c ≤ 2 * need + 768
  | 0, c, h => h
  | k + 1, c, h => by
    simp only [Builtin.growBy]
    split
    · exact h
    · exact growBy_le need k _ (by omega)
theorem nextcap_le {need cap : Nat} (h : cap < need) : Builtin.nextslicecap need cap ≤ 2 * need + 768 := by
  unfold Builtin.nextslicecap
  split
  · omega
  · split
    · omega
    · exact growBy_le _ _ _ (by omega)

/-- The world with one draw more. -/
def drawn1 (w : World) : World := { w with drawn := w.drawn + 1 }

theorem Mem.drawn1 {B : Base} {ι : Iota} {M : Nat → Prop} {h : Heap} {w : World} (m : Mem nf B ι M h w) : Mem nf B ι M h (drawn1 w) :=
  m.move ⟨Nat.le_refl _, fun _ _ _ => rfl, fun _ h => .inl h, fun _ _ => rfl⟩ ⟨m.keep.os, m.keep.tape, m.keep.output, m.keep.size, m.keep.block, m.keep.shape⟩ (fun _ _ _ _ o => ⟨rfl, (m.ownsM o).1⟩) m.foreign

/-- What append asks of the type of its elements. -/
structure ElemOK (P : Program) (e : TypeId) (n bytes : Nat) (z : Value) : Prop where
  info : ∃ i, P.info? e = some i ∧ i.size = n ∧ i.bytes = bytes ∧ i.zero = some z
  small : bytes ≤ 4096
  zs : z.cells.size = n

theorem info_run {e : TypeId} {i : TypeInfo} (h : P.info? e = some i) (w : World) : (typeInfo e).run P w = .ok i w := by simp [typeInfo, h]

/-- Append, in place. -/
theorem run_append_place {w : World} {t t2 ty e : TypeId} {n bytes : Nat} {z : Value} (he : ElemOK P e n bytes z) (ht : P.underlying t = some (.slice e)) (ht2 : ∀ k, P.underlying t2 ≠ some (.int k)) (ht3 : (P.underlying t2).isSome = true)
    {a : Option Addr} {len cap : Nat} {ys : List (List V)} {c : Value} {cs : List Value} (hc : ∃ a' cap', c = .slice a' ys.length cap') (hf : (Builtin.firstCells n ys.length c).run P w = .ok cs.toArray w) (hle : len + ys.length ≤ cap)
    {w' : World} (hw : ∀ b, a = some b → (storeCells (b.add (len * n)) cs).run P w = .ok () w') (hw0 : a = none → w' = w) :
    (Builtin.append_ #[t, t2] ty #[.slice a len cap, c]).run P w = .ok (.slice a (len + ys.length) cap) w' := by
  obtain ⟨i, hi, h1, h2, h3⟩ := he.info
  obtain ⟨a', cap', rfl⟩ := hc
  obtain ⟨u, hu⟩ := Option.isSome_iff_exists.1 ht3
  have hz : ((P.info? e).bind (·.zero)) = some z := by rw [hi]; exact h3
  have hnz : (u matches .int _) = false := by cases u <;> first | rfl | (exact absurd hu (ht2 _))
  have hsz : (Go.sizeOf e).run P w = .ok n w := run_sizeOf' (by simp [szOf, hi, h1]) w
  cases a with
  | none =>
    have := hw0 rfl; subst this
    simp [Builtin.append_, run_underlying ht, run_underlying hu, hsz, Builtin.lenOf, hnz, hle, hf]
    cases u <;> simp_all
  | some b =>
    have := hw b rfl
    simp [Builtin.append_, run_underlying ht, run_underlying hu, hsz, Builtin.lenOf, hnz, hle, hf, this]
    cases u <;> simp_all


theorem run_append_grow {w : World} {t t2 ty e : TypeId} {n bytes : Nat} {z : Value} (he : ElemOK P e n bytes z) (ht : P.underlying t = some (.slice e)) (ht2 : ∀ k, P.underlying t2 ≠ some (.int k)) (ht3 : (P.underlying t2).isSome = true)
    {a : Option Addr} {len cap : Nat} {ys : List (List V)} {c : Value} {cs old : List Value} (hc : ∃ a' cap', c = .slice a' ys.length cap') (hf : (Builtin.firstCells n ys.length c).run P (drawn1 w) = .ok cs.toArray (drawn1 w))
    (ho : (Builtin.firstCells n len (.slice a len cap)).run P (drawn1 w) = .ok old.toArray (drawn1 w)) (hle : cap < len + ys.length) (hroom : len + ys.length ≤ room) :
    ∃ (newCap : Nat) (rest : List Value), len + ys.length ≤ newCap ∧ rest.length = (newCap - (len + ys.length)) * n ∧
    (Builtin.append_ #[t, t2] ty #[.slice a len cap, c]).run P w = .ok (.slice (some ⟨w.heap.size, 0, none⟩) (len + ys.length) newCap) ((drawn1 w).alloc (.cells (old.toArray ++ cs.toArray ++ rest.toArray) e)) := by
  obtain ⟨i, hi, h1, h2, h3⟩ := he.info
  obtain ⟨a', cap', rfl⟩ := hc
  obtain ⟨u, hu⟩ := Option.isSome_iff_exists.1 ht3
  have hz : ((P.info? e).bind (·.zero)) = some z := by rw [hi]; exact h3
  have hnz : (u matches .int _) = false := by cases u <;> first | rfl | (exact absurd hu (ht2 _))
  have hsz : ∀ w, (Go.sizeOf e).run P w = .ok n w := fun w => run_sizeOf' (by simp [szOf, hi, h1]) w
  let need := len + ys.length
  let newCap := need + (w.tape w.drawn (.appendCap need cap e)) % (2 ^ 63 - need)
  refine ⟨newCap, (Builtin.zeroCells z.cells (newCap - need)).toList, by show need ≤ newCap; omega, ?_, ?_⟩
  · simp [Builtin.zeroCells, he.zs]; rfl
  · have hle' : ¬ (len + ys.length ≤ cap) := by omega
    have hmax : ¬ (((len + ys.length : Nat) : Int) > IntKind.i64.max) := by
      have : IntKind.i64.max = 9223372036854775807 := rfl
      unfold room at hroom; rw [this]; omega
    have hcap : ¬ (Builtin.nextslicecap (len + ys.length) cap * bytes > 2 ^ 48) := by
      have h4 := nextcap_le hle
      have h5 : Builtin.nextslicecap (len + ys.length) cap * bytes ≤ (2 * (len + ys.length) + 768) * 4096 := Nat.mul_le_mul h4 he.small
      unfold room at hroom; omega
    have hcap' : ¬ (281474976710656 < Builtin.nextslicecap (len + ys.length) cap * bytes) := by simpa using hcap
    have hforced : (Question.appendCap (len + ys.length) cap e).forced = false := rfl
    have hchoose : (choose (.appendCap (len + ys.length) cap e)).run P w = .ok newCap (drawn1 w) := by
      simp [choose, Sem.run, hforced, Question.cut]; exact ⟨rfl, rfl⟩
    have hask : ∀ k w, (askRoom k).run P w = .ok () w := by
      intro k w; unfold askRoom; split <;> simp [mark, Sem.run]
    have hf' : (Builtin.firstCells n ys.length (.slice a' ys.length cap')).run P w.drew = .ok cs.toArray w.drew := hf
    have ho' : (Builtin.firstCells n len (.slice a len cap)).run P w.drew = .ok old.toArray w.drew := ho
    have hA : ∀ Z : Array Value, old.toArray ++ (cs.toArray ++ Z) = (old ++ cs).toArray ++ Z := by intro Z; rw [← Array.append_assoc]; simp
    have key : (Builtin.append_ #[t, t2] ty #[.slice a len cap, .slice a' ys.length cap']).run P w = .ok (.slice (some ⟨w.heap.size, 0, none⟩) (len + ys.length) newCap) ((drawn1 w).alloc (.cells (old.toArray ++ cs.toArray ++ (Builtin.zeroCells z.cells (newCap - need))) e)) := by
      have hmax' : ¬ ((9223372036854775807 : Int) < (len : Int) + (ys.length : Int)) := by unfold room at hroom; omega
      cases u <;> first | (exact absurd hu (ht2 _)) | (
        simp only [Builtin.append_, List.getElem?_toArray, List.getElem?_cons_zero, List.getElem?_cons_succ, Sem.run_bind, run_underlying ht, run_underlying hu, hsz, Result.andThen_ok, Sem.run_pure, Builtin.lenOf, Bool.false_eq_true, if_false, hle', Bool.not_false, if_true]
        simp [hmax', info_run hi, h2, hcap', hforced, Question.cut, hask, ho', hf', zeroOf hz, newRow, newObj, Sem.run_bind', Sem.run]
        simp only [newCap, need, drawn1]
        refine ⟨trivial, ?_⟩
        rw [hA, Nat.add_sub_cancel_left]
        rfl)
    simpa using key

end
end Fo
