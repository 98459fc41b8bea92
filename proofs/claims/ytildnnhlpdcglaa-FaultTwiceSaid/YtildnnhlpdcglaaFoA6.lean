/-
  Reading and writing the model's memory (part 6).
-/
import Derived.Test.YtildnnhlpdcglaaFoA5
import Derived.Lib.ReflectliteSwap
import Derived.Shelf.Abstract
namespace Fo
open Go
set_option linter.unusedVariables false
set_option linter.unusedSimpArgs false

section
variable {nf : Nm}

theorem DV.oneCell {ι : Iota} {w : World} {M : Nat → Prop} {v : V} {c : Value} (h : DV nf ι w M v c) (o : v.one = true) : c.oneCell' = true := by
  cases v <;> simp only [V.one, Bool.false_eq_true] at o
  case int => have h : c = _ := h; subst h; rfl
  case e n => cases n with | true => have h : c = _ := h; subst h; rfl | false => obtain ⟨a, cap, h⟩ := h; subst h; rfl
  case bool => have h : c = _ := h; subst h; rfl
  case sym => obtain ⟨h, _⟩ := h; subst h; rfl
  case sl => obtain ⟨a, cap, e, _⟩ := h; subst e; rfl
  case fresh => obtain ⟨_, a, e⟩ := h; subst e; rfl
  case own => rcases h with ⟨_, _, _, a, e⟩ | ⟨b, o, n, tot, a, cap, e, N, _, h2, _⟩ <;> subst_vars <;> rfl
  case ptr => obtain ⟨b, o, n, tot, _, e⟩ := h; subst e; rfl
  case pbox => exact h.elim
  case iptr => obtain ⟨b, o, e, _⟩ := h; subst e; rfl
  case fn => obtain ⟨g, fs, cs, _, e, _⟩ := h; subst e; rfl
  case fmap => exact h.elim
  case spare => exact h.elim
  case map => obtain ⟨b, _, e⟩ := h; subst e; rfl

theorem DCM.toDVM {ι : Iota} {w : World} {M : Nat → Prop} {b : Nat} : ∀ (l : List V) (o : Nat), DCM nf w M b l o → DVM nf ι w M b l o
  | [], _, _ => trivial
  | v :: l, o, ⟨ho, ⟨c, hc, h1⟩, h2⟩ => ⟨ho, ⟨c, hc, DC.toDV v c h1⟩, DCM.toDVM l (o + 1) h2⟩

theorem DVM.part {ι : Iota} {w : World} {M : Nat → Prop} {b : Nat} : ∀ (k : Nat) (l : List V) (o : Nat), DVM nf ι w M b l o → DVM nf ι w M b (l.drop k) (o + k)
  | 0, l, o, h => by simpa using h
  | k + 1, [], o, h => by simp [DVM]
  | k + 1, x :: l, o, h => by
    have := DVM.part k l (o + 1) h.2.2
    rw [List.drop_succ_cons, show o + (k + 1) = o + 1 + k by omega]; exact this
theorem DVM.take {ι : Iota} {w : World} {M : Nat → Prop} {b : Nat} : ∀ (k : Nat) (l : List V) (o : Nat), DVM nf ι w M b l o → DVM nf ι w M b (l.take k) o
  | 0, l, o, h => by simp [DVM]
  | k + 1, [], o, h => by simp [DVM]
  | k + 1, x :: l, o, h => ⟨h.1, h.2.1, DVM.take k l (o + 1) h.2.2⟩
theorem DVM.one {ι : Iota} {w : World} {M : Nat → Prop} {b : Nat} : ∀ (l : List V) (o : Nat), DVM nf ι w M b l o → l.all V.one = true
  | [], _, _ => rfl
  | v :: l, o, ⟨ho, _, h⟩ => by simp [ho]; simpa using DVM.one l (o + 1) h

/-- The cells that stand in memory. -/
theorem DVM.read {ι : Iota} {w : World} {M : Nat → Prop} {b : Nat} : ∀ (l : List V) (o : Nat), DVM nf ι w M b l o →
    ∃ cs : List Value, cs.length = l.length ∧ (∀ k v, cs[k]? = some v → w.cell? ⟨b, o + k, none⟩ = some v) ∧ DVL nf ι w M l cs ∧ (∀ v ∈ cs, v.oneCell' = true)
  | [], _, _ => ⟨[], rfl, by simp, rfl, by simp⟩
  | v :: l, o, ⟨ho, ⟨c, hc, h1⟩, h2⟩ => by
    obtain ⟨cs, hl, hr, hd, h1c⟩ := DVM.read l (o + 1) h2
    refine ⟨c :: cs, by simp [hl], ?_, ⟨c, cs, rfl, h1, hd⟩, ?_⟩
    · intro k x hx
      cases k with
      | zero => simp at hx; subst hx; simpa using hc
      | succ k => have := hr k x (by simpa using hx); rw [show o + (k + 1) = o + 1 + k by omega]; exact this
    · intro x hx
      rcases List.mem_cons.1 hx with rfl | hx
      · exact h1.oneCell ho
      · exact h1c x hx

theorem DVL.length {ι : Iota} {w : World} {M : Nat → Prop} : ∀ (l : List V) (cs : List Value), DVL nf ι w M l cs → cs.length = l.length
  | [], cs, h => by have h : cs = [] := h; subst h; rfl
  | v :: l, cs, ⟨c, cs', e, _, h⟩ => by subst e; simp [DVL.length l cs' h]
theorem DVL.get {ι : Iota} {w : World} {M : Nat → Prop} : ∀ (l : List V) (cs : List Value) (k : Nat) (v : V), DVL nf ι w M l cs → l[k]? = some v → ∃ c, cs[k]? = some c ∧ DV nf ι w M v c
  | [], cs, k, v, h, e => by simp at e
  | x :: l, cs, 0, v, ⟨c, cs', e1, h1, h2⟩, e => by subst e1; simp at e; subst e; exact ⟨c, by simp, h1⟩
  | x :: l, cs, k + 1, v, ⟨c, cs', e1, h1, h2⟩, e => by subst e1; simpa using DVL.get l cs' k v h2 (by simpa using e)
theorem DVL.drop {ι : Iota} {w : World} {M : Nat → Prop} : ∀ (k : Nat) (l : List V) (cs : List Value), DVL nf ι w M l cs → DVL nf ι w M (l.drop k) (cs.drop k)
  | 0, l, cs, h => by simpa using h
  | k + 1, [], cs, h => by have h : cs = [] := h; subst h; simp [DVL]
  | k + 1, x :: l, cs, ⟨c, cs', e1, h1, h2⟩ => by subst e1; simpa using DVL.drop k l cs' h2
theorem DVL.take {ι : Iota} {w : World} {M : Nat → Prop} : ∀ (k : Nat) (l : List V) (cs : List Value), DVL nf ι w M l cs → DVL nf ι w M (l.take k) (cs.take k)
  | 0, l, cs, h => by simp [DVL]
  | k + 1, [], cs, h => by have h : cs = [] := h; subst h; simp [DVL]
  | k + 1, x :: l, cs, ⟨c, cs', e1, h1, h2⟩ => by subst e1; exact ⟨c, cs'.take k, by simp, h1, DVL.take k l cs' h2⟩
theorem all_part {l : List V} (h : l.all V.one = true) (k n : Nat) : ((l.drop k).take n).all V.one = true := by
  rw [List.all_eq_true] at h ⊢
  intro x hx
  exact h x (List.mem_of_mem_drop (List.mem_of_mem_take hx))

theorem DVL.append {ι : Iota} {w : World} {M : Nat → Prop} : ∀ (l m : List V) (cs ds : List Value), DVL nf ι w M l cs → DVL nf ι w M m ds → DVL nf ι w M (l ++ m) (cs ++ ds)
  | [], m, cs, ds, h, k => by have h : cs = [] := h; subst h; simpa using k
  | x :: l, m, cs, ds, ⟨c, cs', e1, h1, h2⟩, k => by subst e1; exact ⟨c, cs' ++ ds, by simp, h1, DVL.append l m cs' ds h2 k⟩

theorem DCR.get {w : World} {M : Nat → Prop} {b n : Nat} : ∀ (r : List (List V)) (o k : Nat) (x : List V), DCR nf w M b n r o → r[k]? = some x → x.length = n ∧ DCM nf w M b x (o + k * n)
  | [], _, _, _, _, e => by simp at e
  | y :: r, o, 0, x, h, e => by simp at e; subst e; exact ⟨h.1, by simpa using h.2.1⟩
  | y :: r, o, k + 1, x, h, e => by
    have := DCR.get r (o + n) k x h.2.2 (by simpa using e)
    rw [show o + (k + 1) * n = o + n + k * n by rw [Nat.add_mul]; omega]; exact this

/-- What an address leads to. -/
theorem rowAt_ok {B : Base} {ι : Iota} {M : Nat → Prop} {h : Heap} {w : World} (m : Mem nf B ι M h w) {p : V} {c : Value} {row : List V} {off : Nat}
    (hp : DV nf ι w M p c) (hr : rowAt h p = some (row, off)) : ∃ b o, c = .pointer (some ⟨b, o + off, none⟩) ∧ DVM nf ι w M b row o := by
  unfold rowAt at hr
  split at hr
  · rename_i d v j rw_ off'
    have k := m.blk d v j
    obtain ⟨b, o, n, tot, h1, h2⟩ := hp
    split at hr
    · rename_i r hb
      rw [hb] at k
      obtain ⟨b', o', k1, _, _, _, k5⟩ := k
      rw [k1] at h1; cases h1
      split at hr
      · rename_i h0; subst h0
        simp only [Option.some.injEq, Prod.mk.injEq] at hr; obtain ⟨rfl, rfl⟩ := hr
        exact ⟨_, _, by rw [h2]; simp, k5⟩
      · cases hr
    · rename_i r hb
      rw [hb] at k
      split at hr
      · rename_i x hx
        simp only [Option.some.injEq, Prod.mk.injEq] at hr; obtain ⟨rfl, rfl⟩ := hr
        rcases k with ⟨k1, k2⟩ | ⟨hne, b', o', n', e', N', k1, _, _, _, _, k6⟩
        · subst k2; simp at hx
        · rw [k1] at h1; cases h1
          exact ⟨_, _, h2, DCM.toDVM _ _ (DCR.get _ _ _ _ k6 hx).2⟩
      · cases hr
    · rename_i r hb
      rw [hb] at k
      split at hr
      · rename_i x hx
        simp only [Option.some.injEq, Prod.mk.injEq] at hr; obtain ⟨rfl, rfl⟩ := hr
        rcases k with ⟨k1, k2⟩ | ⟨b', o', n', k1, _, _, k6⟩
        · subst k2; simp at hx
        · rw [k1] at h1; cases h1
          exact ⟨_, _, h2, DCM.toDVM _ _ (DCR.get _ _ _ _ k6 hx).2⟩
      · cases hr
    · cases hr
  · rename_i r o
    simp only [Option.some.injEq, Prod.mk.injEq] at hr; obtain ⟨rfl, rfl⟩ := hr
    obtain ⟨b, o, h1, h2, h3, h4⟩ := hp
    exact ⟨b, o, h1, DCM.toDVM _ _ h4⟩
  · cases hr

end

/- Facts on the program's types. -/
def aggOf (P : Program) (t : TypeId) : Option Bool :=
  match P.underlying t with
  | some (.struct _) => some true
  | some (.array _ _) => some true
  | some _ => some false
  | none => none
def szOf (P : Program) (t : TypeId) : Option Nat := (P.info? t).map (·.size)

theorem run_isAgg {P : Program} {t : TypeId} {b : Bool} (h : aggOf P t = some b) (w : World) : (isAgg t).run P w = .ok b w := by
  unfold aggOf at h
  split at h <;> first | (rename_i hu; cases h; simp [isAgg, run_underlying hu]) | (rename_i x hs ha hu; cases h; simp [isAgg, run_underlying hu]) | cases h

theorem szOf_info {P : Program} {t : TypeId} {n : Nat} (h : szOf P t = some n) : ∃ i, P.info? t = some i ∧ i.size = n := by
  unfold szOf at h; simpa using h
theorem run_sizeOf' {P : Program} {t : TypeId} {n : Nat} (h : szOf P t = some n) (w : World) : (Go.sizeOf t).run P w = .ok n w := by
  obtain ⟨i, h1, h2⟩ := szOf_info h
  simp [Go.sizeOf, typeInfo, h1, h2]

section
variable {nf : Nm} {P : Program}

theorem run_loadAt_agg {ι : Iota} {w : World} {M : Nat → Prop} {b o n : Nat} {t : TypeId} {l : List V} (ha : aggOf P t = some true) (hs : szOf P t = some n) (hd : DVM nf ι w M b l o) (hl : l.length = n) :
    ∃ c, (Instr.loadAt t (.pointer (some ⟨b, o, none⟩))).run P w = .ok c w ∧ DV nf ι w M (.agg l) c := by
  obtain ⟨cs, h1, h2, h3, h4⟩ := hd.read
  obtain ⟨i, hi, hn⟩ := szOf_info hs
  refine ⟨.agg cs.toArray, ?_, hd.one, cs, rfl, h3⟩
  have := Go.Lib.rl_loadVar_cells (P := P) t i hi (run_isAgg ha) b o cs (by omega) w h2
  simpa [Instr.loadAt, Instr.sureAddr] using this

theorem run_loadAt_one {ι : Iota} {w : World} {M : Nat → Prop} {b o : Nat} {t : TypeId} {v : V} {l : List V} (ha : aggOf P t = some false) (hd : DVM nf ι w M b (v :: l) o) :
    ∃ c, (Instr.loadAt t (.pointer (some ⟨b, o, none⟩))).run P w = .ok c w ∧ DV nf ι w M v c := by
  obtain ⟨ho, ⟨c, hc, h1⟩, _⟩ := hd
  exact ⟨c, by simp [Instr.loadAt, Instr.sureAddr, loadVar, run_isAgg ha, hc], h1⟩

theorem partV_ok {ι : Iota} {w : World} {M : Nat → Prop} {b o off : Nat} {t : TypeId} {n : Option Nat} {row : List V} {v : V} (hn : match n with | some k => aggOf P t = some true ∧ szOf P t = some k | none => aggOf P t = some false)
    (hd : DVM nf ι w M b row o) (hp : partV row off n = some v) :
    ∃ c, (Instr.loadAt t (.pointer (some ⟨b, o + off, none⟩))).run P w = .ok c w ∧ DV nf ι w M v c := by
  cases n with
  | some k =>
    simp only [partV] at hp
    split at hp
    · cases hp
      exact run_loadAt_agg hn.1 hn.2 ((hd.part off).take k) (by rw [List.length_take, List.length_drop]; omega)
    · cases hp
  | none =>
    simp only [partV] at hp
    obtain ⟨hlt, hv⟩ := List.getElem?_eq_some_iff.1 hp
    have hd' := hd.part off
    rw [List.drop_eq_getElem_cons hlt, hv] at hd'
    exact run_loadAt_one hn hd'

/-- Several cells of a block are written: what stays. -/
theorem heap_setCells_ne (b : Nat) : ∀ (vs : List Value) (o : Nat) (w : World) (k : Nat), k ≠ b → (w.setCells b o vs).heap[k]? = w.heap[k]?
  | [], _, _, _, _ => rfl
  | v :: r, o, w, k, h => by rw [World.setCells, heap_setCells_ne b r (o + 1) _ k h, Go.RowKit.Below.heap_setCell _ _ _ _ h]
theorem size_setCells' (b : Nat) : ∀ (vs : List Value) (o : Nat) (w : World), (w.setCells b o vs).heap.size = w.heap.size
  | [], _, _ => rfl
  | v :: r, o, w => by rw [World.setCells, size_setCells' b r (o + 1)]; simp [World.setCell]
theorem shape_setCell (w : World) (a : Addr) (v : Value) (k : Nat) : (w.setCell a v).shape? k = w.shape? k := by
  unfold World.shape? World.setCell
  simp only [Array.getElem?_modify]
  by_cases h : a.block = k
  · simp only [h, if_true]
    cases hk : w.heap[k]? with
    | none => rfl
    | some o => cases o <;> simp; split <;> simp
  · simp only [h, if_false]
theorem shape_setCells (b : Nat) : ∀ (vs : List Value) (o : Nat) (w : World) (k : Nat), (w.setCells b o vs).shape? k = w.shape? k
  | [], _, _, _ => rfl
  | v :: r, o, w, k => by rw [World.setCells, shape_setCells b r (o + 1), shape_setCell]
theorem misc_setCells (b : Nat) : ∀ (vs : List Value) (o : Nat) (w : World), (w.setCells b o vs).os = w.os ∧ (w.setCells b o vs).tape = w.tape ∧ (w.setCells b o vs).output = w.output ∧ (w.setCells b o vs).drawn = w.drawn
  | [], _, _ => ⟨rfl, rfl, rfl, rfl⟩
  | v :: r, o, w => by rw [World.setCells]; have := misc_setCells b r (o + 1) (w.setCell ⟨b, o, none⟩ v); simpa [World.setCell] using this

theorem Stays.setCells {w : World} {M : Nat → Prop} {b : Nat} (hb : M b) (vs : List Value) (o : Nat) : Stays w M (w.setCells b o vs) M :=
  ⟨by rw [size_setCells']; exact Nat.le_refl _, fun k hk _ => heap_setCells_ne b vs o w k (fun e => hk (e ▸ hb)), fun _ h => .inl h, fun k _ => shape_setCells b vs o w k⟩

theorem Kept.setCells {B : Base} {w : World} (k : Kept B w) {b : Nat} (hb : b ∈ B.S0 ∨ B.w0.heap.size ≤ b) (vs : List Value) (o : Nat) : Kept B (w.setCells b o vs) := by
  obtain ⟨m1, m2, m3, _⟩ := misc_setCells b vs o w
  refine ⟨m1.trans k.os, m2.trans k.tape, m3.trans k.output, by rw [size_setCells']; exact k.size, fun x hx hs => ?_, fun x hx => (shape_setCells b vs o w x).trans (k.shape x hx)⟩
  rw [heap_setCells_ne b vs o w x (fun e => by subst e; rcases hb with h | h; exact hs h; omega)]
  exact k.block x hx hs

end
end Fo
