/-
  The operations: the simple ones (part 9).
-/
import Derived.Test.YtildnnhlpdcglaaFoA8
import Derived.Laws.StructEq
namespace Fo
open Go
set_option linter.unusedVariables false
set_option linter.unusedSimpArgs false

section
variable {nf : Nm} {P : Program}

/-- An operation tells c, and leaves the world w'. -/
def Tells (P : Program) (o : Oper) (a : Act) (w : World) (c : Value) (w' : World) : Prop :=
  (execOp a.eval o).run P w = .ok (.value c) w' ∨ ((execOp a.eval o).run P w = .ok .skip w' ∧ c = undef)

theorem DV.unit {ι : Iota} {w : World} {M : Nat → Prop} : DV nf ι w M unit undef := ⟨[], rfl, rfl⟩

theorem ResOK.plain {B : Base} {ι : Iota} {M : Nat → Prop} {h : Heap} {w : World} (m : Mem nf B ι M h w) {mk : Bool} {v : V} {c : Value} (hv : DV nf ι w M v c) : ResOK nf B ι M w mk ⟨v, h, [], []⟩ c w M where
  stays := Stays.refl w M
  mem := m
  lent := by intro i hi; cases hi
  new := fun _ => ⟨[], [], DV.toXV _ _ (DV.stays (Less.of ι w M []) (Iota.le_refl ι) _ _ hv), rfl, by simp, by simp⟩
  old := fun _ => ⟨DV.stays (Less.of ι w M []) (Iota.le_refl ι) _ _ hv, [], rfl, List.nodup_nil, by simp⟩

/- A new block. -/
def plusM (M : Nat → Prop) (w : World) : Nat → Prop := fun b => M b ∨ b = w.heap.size

theorem heap_alloc_lt {w : World} {o : Obj} {k : Nat} (h : k < w.heap.size) : (w.alloc o).heap[k]? = w.heap[k]? := Go.RowKit.Below.heap_alloc w o k h
theorem heap_alloc_eq {w : World} {o : Obj} : (w.alloc o).heap[w.heap.size]? = some o := by
  show (w.heap.push o)[w.heap.size]? = _
  simp
theorem size_alloc {w : World} {o : Obj} : (w.alloc o).heap.size = w.heap.size + 1 := by simp

theorem Stays.alloc (w : World) (M : Nat → Prop) (o : Obj) : Stays w M (w.alloc o) (plusM M w) :=
  ⟨by rw [size_alloc]; omega, fun b _ hb => heap_alloc_lt hb, fun b hb => hb.imp id (fun e => by omega), fun b hb => by unfold World.shape?; rw [heap_alloc_lt hb]⟩

theorem Kept.alloc {B : Base} {w : World} (k : Kept B w) (o : Obj) : Kept B (w.alloc o) :=
  ⟨k.os, k.tape, k.output, by rw [size_alloc]; have := k.size; omega, fun b hb hs => by rw [heap_alloc_lt (by have := k.size; omega)]; exact k.block b hb hs, fun b hb => by rw [← k.shape b hb]; exact shape_of (heap_alloc_lt (by have := k.size; omega))⟩

theorem Mem.alloc {B : Base} {ι : Iota} {M : Nat → Prop} {h : Heap} {w : World} (m : Mem nf B ι M h w) (o : Obj) : Mem nf B ι (plusM M w) h (w.alloc o) :=
  m.move (Stays.alloc w M o) (m.keep.alloc o) (fun d v j b ow => ⟨heap_alloc_lt (m.ownsM ow).2, .inl (m.ownsM ow).1⟩) (fun b hb => .inl (m.foreign b hb))

theorem NF.new {w : World} {c : Array Value} {t : TypeId} : NF (w.alloc (.cells c t)) w.heap.size := fun o => by
  unfold World.frozen?
  simp only [heap_alloc_eq]
  simp
theorem cell_new {w : World} {c : Array Value} {t : TypeId} {k : Nat} : (w.alloc (.cells c t)).cell? ⟨w.heap.size, k, none⟩ = c[k]? := by
  unfold World.cell?
  simp only [heap_alloc_eq]
  simp
theorem shape_new {w : World} {c : Array Value} {t : TypeId} : (w.alloc (.cells c t)).shape? w.heap.size = some (t, c.size) := by
  unfold World.shape?
  simp only [heap_alloc_eq]

theorem DVM.mk {ι : Iota} {w : World} {M : Nat → Prop} {b : Nat} : ∀ (l : List V) (cs : List Value) (o : Nat), (∀ k c, cs[k]? = some c → w.cell? ⟨b, o + k, none⟩ = some c) → DVL nf ι w M l cs → l.all V.one = true → DVM nf ι w M b l o
  | [], _, _, _, _, _ => trivial
  | v :: l, _, o, hc, ⟨c, cs', e, h1, h2⟩, ho => by
    subst e
    simp only [List.all_cons, Bool.and_eq_true] at ho
    exact ⟨ho.1, ⟨c, by simpa using hc 0 c rfl, h1⟩, DVM.mk l cs' (o + 1) (fun k x hx => by have := hc (k + 1) x (by simpa using hx); rwa [show o + (k + 1) = o + 1 + k by omega] at this) h2 ho.2⟩

/-- What is owned is none of the new. -/
theorem Mem.notNew {B : Base} {ι : Iota} {M : Nat → Prop} {h : Heap} {w : World} (m : Mem nf B ι M h w) (d v j : Nat) : ¬ Owns h ι d v j w.heap.size := fun o => by
  have := (m.ownsM o).2; omega

theorem Lent.old {B : Base} {ι : Iota} {M : Nat → Prop} {h : Heap} {w : World} (m : Mem nf B ι M h w) {ids : Ids} (ha : ∀ i ∈ ids, Alive h i) {b : Nat} (hl : Lent ι ids b) : b < w.heap.size := by
  obtain ⟨i, hi, o, n, t, e⟩ := hl
  have k := ha i hi
  have kb := m.blk i.1 i.2.1 i.2.2
  unfold Alive at k
  cases hc : h.bl i.1 i.2.1 i.2.2 with
  | dead => simp only [hc] at k
  | mp es => simp only [hc] at k
  | rows r =>
    rw [hc] at kb
    rcases kb with ⟨k1, _⟩ | ⟨hne, b', o2, n2, e', N', k1, k2, k3, k4, _⟩
    · rw [k1] at e; cases e
    · rw [k1] at e; cases e; exact shape_lt k4
  | frz r =>
    rw [hc] at kb
    rcases kb with ⟨k1, _⟩ | ⟨b', o2, n2, k1, k2, k3, _⟩
    · rw [k1] at e; cases e
    · rw [k1] at e; cases e; exact k3
  | box r =>
    rw [hc] at kb
    obtain ⟨b', o2, k1, k2, k3, _⟩ := kb
    rw [k1] at e; cases e; exact k3

/-- A result that is one new block. -/
theorem ResOK.alloc {B : Base} {ι : Iota} {M : Nat → Prop} {h : Heap} {w : World} (m : Mem nf B ι M h w) (o : Obj) {ids : Ids} (ha : ∀ i ∈ ids, Alive h i) {v : V} {c : Value}
    (hv : XV nf ι (w.alloc o) (Less ι (plusM M w) ids) v c [w.heap.size]) : ResOK nf B ι M w true ⟨v, h, [], ids⟩ c (w.alloc o) (plusM M w) where
  stays := Stays.alloc w M o
  mem := m.alloc o
  lent := fun i hi => .inl (ha i hi)
  new := fun _ => ⟨[w.heap.size], [], hv, rfl, by simp, by
    intro b hb
    obtain rfl : b = w.heap.size := by simpa using hb
    exact ⟨m.notNew, .inr m.keep.size⟩⟩
  old := fun e => by cases e

theorem cells_of {ι : Iota} {w : World} {M : Nat → Prop} {v : V} {c : Value} (hv : DV nf ι w M v c) (ho : v.cells.all V.one = true) : ∃ cs : List Value, c.cells = cs.toArray ∧ DVL nf ι w M v.cells cs := by
  cases v with
  | agg l => obtain ⟨_, cs, e, h⟩ := hv; subst e; exact ⟨cs, rfl, h⟩
  | tup l => simp [V.cells, V.one] at ho
  | any => simp [V.cells, V.one] at ho
  | _ =>
    have h1 := hv.oneCell (by simpa [V.cells] using ho)
    refine ⟨[c], ?_, c, [], rfl, hv, rfl⟩
    rw [Go.Lib.cells_one h1]

/-- A variable in memory. -/
theorem box_ok {B : Base} {ι : Iota} {M : Nat → Prop} {h : Heap} {w : World} (m : Mem nf B ι M h w) {l : List V} {cs : List Value} (t : TypeId) (hd : DVL nf ι w M l cs) (ho : l.all V.one = true) :
    ResOK nf B ι M w true ⟨.pbox l 0, h, [], []⟩ (.pointer (some ⟨w.heap.size, 0, none⟩)) (w.alloc (.cells cs.toArray t)) (plusM M w) := by
  refine ResOK.alloc m _ (by simp) ⟨w.heap.size, 0, [], rfl, rfl, ⟨.inr rfl, ?_⟩, by rw [size_alloc]; omega, NF.new, ?_⟩
  · rintro ⟨i, hi, _⟩; cases hi
  · refine DVM.toXV _ _ (DVM.mk l cs 0 (fun k c hk => by rw [cell_new]; simpa using hk) (DVL.stays ?_ (Iota.le_refl ι) _ _ hd) ho)
    have s := Stays.alloc w M (.cells cs.toArray t)
    exact ⟨s.size, s.block, fun b hb => s.less b hb.1, s.shape⟩

theorem tells_box {B : Base} {ι : Iota} {M : Nat → Prop} {h : Heap} {a : Act} {w : World} (m : Mem nf B ι M h w) {o : Oper} {t : TypeId} {x : Operand} (ho : o.op = .box t x) {v : V} {n : Nat} {r : Res}
    (hv : DV nf ι w M v (a.eval x)) (hr : comp (.box n) [v] h = some r) : ∃ c w' M', Tells P o a w c w' ∧ ResOK nf B ι M w true r c w' M' := by
  simp only [comp] at hr
  split at hr
  · rename_i hc
    cases hr
    obtain ⟨cs, e, hd⟩ := cells_of hv hc.2
    exact ⟨_, _, _, .inl (by simp [execOp, ho, Instr.box, newVar, newRow, e, newObj, Sem.run, Bind.bind, Sem.bind, Pure.pure]), box_ok m t hd hc.2⟩
  · cases hr


theorem zeroOf {t : TypeId} {z : Value} (h : (P.info? t).bind (·.zero) = some z) (w : World) : (zeroValue t).run P w = .ok z w := by
  cases hi : P.info? t with
  | none => rw [hi] at h; cases h
  | some i => rw [hi] at h; have h : i.zero = some z := h; simp [zeroValue, typeInfo, hi, h]

theorem tells_zero {B : Base} {ι : Iota} {M : Nat → Prop} {h : Heap} {a : Act} {w : World} (m : Mem nf B ι M h w) {o : Oper} {t : TypeId} (ho : o.op = .alloc t) {z : Value} {cells : List V} {r : Res}
    (hz : (P.info? t).bind (·.zero) = some z) (hc : DVL nf ι w M cells z.cells.toList) (hr : comp (.zero cells) [] h = some r) : ∃ c w' M', Tells P o a w c w' ∧ ResOK nf B ι M w true r c w' M' := by
  simp only [comp] at hr
  split at hr
  · rename_i hall
    cases hr
    refine ⟨_, _, _, .inl ?_, box_ok (cs := z.cells.toList) m t hc hall⟩
    simp [execOp, ho, Instr.alloc, zeroOf hz, newVar, newRow, newObj, Sem.run, Bind.bind, Sem.bind, Pure.pure]
    simp [Sem.run_bind', zeroOf hz, Sem.run]
  · cases hr

theorem tells_mv {B : Base} {ι : Iota} {M : Nat → Prop} {h : Heap} {a : Act} {w : World} (m : Mem nf B ι M h w) {o : Oper} {x : Operand} (ho : o.op = .move x ∨ o.op = .assign x) {v : V} {r : Res} {mk : Bool}
    (hv : DV nf ι w M v (a.eval x)) (hr : some (⟨v, h, [], []⟩ : Res) = some r) : ∃ c w' M', Tells P o a w c w' ∧ ResOK nf B ι M w mk r c w' M' := by
  cases hr
  refine ⟨_, _, _, .inl ?_, ResOK.plain m hv⟩
  rcases ho with ho | ho <;> simp [execOp, ho]

theorem tells_nilck {B : Base} {ι : Iota} {M : Nat → Prop} {h : Heap} {a : Act} {w : World} (m : Mem nf B ι M h w) {o : Oper} {x : Operand} (ho : o.op = .nilCheck x) {v : V} {r : Res}
    (hv : DV nf ι w M v (a.eval x)) (hr : comp .nilck [v] h = some r) : ∃ c w' M', Tells P o a w c w' ∧ ResOK nf B ι M w false r c w' M' := by
  simp only [comp] at hr
  split at hr
  · cases hr
    have hv' := hv
    obtain ⟨b, o', n, tot, _, e⟩ := hv
    exact ⟨_, _, _, .inl (by simp [execOp, ho, e]; rfl), ResOK.plain m (by rw [e] at hv'; exact hv')⟩
  · cases hr
    have hv' := hv
    obtain ⟨b, o', e, _⟩ := hv
    exact ⟨_, _, _, .inl (by simp [execOp, ho, e]; rfl), ResOK.plain m (by rw [e] at hv'; exact hv')⟩
  · cases hr

theorem tells_pick {B : Base} {ι : Iota} {M : Nat → Prop} {h : Heap} {a : Act} {w : World} (m : Mem nf B ι M h w) {o : Oper} {c x y : Operand} (ho : o.op = .pick c x y) {vc vx vy : V} {r : Res}
    (hc : DV nf ι w M vc (a.eval c)) (hx : DV nf ι w M vx (a.eval x)) (hy : DV nf ι w M vy (a.eval y)) (hr : comp .pick [vc, vx, vy] h = some r) : ∃ c w' M', Tells P o a w c w' ∧ ResOK nf B ι M w false r c w' M' := by
  cases vc <;> simp only [comp] at hr <;> try cases hr
  rename_i b
  have hc : a.eval c = .bool b := hc
  refine ⟨if b then a.eval x else a.eval y, w, M, .inl ?_, ResOK.plain m ?_⟩
  · simp [execOp, ho, hc, asBool]
  · cases b <;> simpa

theorem tells_load {B : Base} {ι : Iota} {M : Nat → Prop} {h : Heap} {a : Act} {w : World} (m : Mem nf B ι M h w) {o : Oper} {t : TypeId} {x : Operand} (ho : o.op = .load t x) {n : Option Nat} {v : V} {r : Res}
    (hn : match n with | some k => aggOf P t = some true ∧ szOf P t = some k | none => aggOf P t = some false)
    (hv : DV nf ι w M v (a.eval x)) (hr : comp (.load n) [v] h = some r) : ∃ c w' M', Tells P o a w c w' ∧ ResOK nf B ι M w false r c w' M' := by
  simp only [comp] at hr
  split at hr
  · rename_i row off hrow
    simp only [Option.map_eq_some_iff] at hr
    obtain ⟨u, hu, rfl⟩ := hr
    obtain ⟨b, o', e, hd⟩ := rowAt_ok m hv hrow
    obtain ⟨c, hc, hdv⟩ := partV_ok (P := P) hn hd hu
    exact ⟨c, w, M, .inl (by simp only [execOp, ho, e, Sem.run_bind, hc, Result.andThen_ok, Sem.run_pure]), ResOK.plain m hdv⟩
  · cases hr

theorem tells_faddr {B : Base} {ι : Iota} {M : Nat → Prop} {h : Heap} {a : Act} {w : World} (m : Mem nf B ι M h w) {o : Oper} {s : TypeId} {x : Operand} {f : Nat} (ho : o.op = .fieldAddr s x f) {fs : Array Field} {fd : Field} {sz off : Nat} {v : V} {r : Res}
    (hs : P.underlying s = some (.struct fs)) (hf : fs[f]? = some fd) (hz : szOf P fd.type = some sz) (hz0 : sz ≠ 0) (hoff : fd.offset = off)
    (hv : DV nf ι w M v (a.eval x)) (hr : comp (.faddr off) [v] h = some r) : ∃ c w' M', Tells P o a w c w' ∧ ResOK nf B ι M w false r c w' M' := by
  have key : ∀ b o', a.eval x = .pointer (some ⟨b, o', none⟩) → (execOp a.eval o).run P w = .ok (.value (.pointer (some ⟨b, o' + off, none⟩))) w := by
    intro b o' e
    simp [execOp, ho, e, Instr.fieldAt, run_underlying hs, hf, Instr.sureAddr, fieldPlace, run_sizeOf' hz, hz0, hoff, Addr.add_lit]
  simp only [comp] at hr
  split at hr
  · cases hr
    obtain ⟨b, o', n, tot, h1, e⟩ := hv
    exact ⟨_, _, _, .inl (key _ _ e), ResOK.plain m ⟨b, o', n, tot, h1, by rw [Nat.add_assoc]⟩⟩
  · cases hr
    obtain ⟨b, o', e, h1⟩ := hv
    exact ⟨_, _, _, .inl (key _ _ e), ResOK.plain m ⟨b, o', by rw [Nat.add_assoc], h1⟩⟩
  · cases hr

end
end Fo
