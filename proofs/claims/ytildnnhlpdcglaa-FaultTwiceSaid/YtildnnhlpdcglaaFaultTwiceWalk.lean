/-
  What the functions that FaultTwice reaches compute.
-/
import Derived.Test.YtildnnhlpdcglaaFoW
import Derived.Test.YtildnnhlpdcglaaFaultTwiceTab
import Derived.KernelRfl
set_option maxRecDepth 100000
set_option linter.unusedVariables false
set_option linter.unusedSimpArgs false
namespace Fo.W
open Go Fo
def mayInst (i : Inst) : Bool :=
  if i.op = 0 ∨ i.op = 11 then decide (i.a = 0 ∧ i.b = 0 ∧ i.n = 0)
  else if i.op = 1 then decide ((0 ≤ i.a ∧ i.a < 8) ∧ i.b = 0 ∧ -2147483648 ≤ i.n ∧ i.n ≤ 2147483647)
  else if i.op = 2 ∨ i.op = 3 ∨ i.op = 4 then decide ((0 ≤ i.a ∧ i.a < 8) ∧ (0 ≤ i.b ∧ i.b < 8) ∧ i.n = 0)
  else if i.op = 5 then decide ((0 ≤ i.a ∧ i.a < 8) ∧ i.b = 0 ∧ -63 ≤ i.n ∧ i.n ≤ 63)
  else if i.op = 6 then decide ((0 ≤ i.a ∧ i.a < 8) ∧ i.b = 0 ∧ 1 ≤ i.n ∧ i.n ≤ 64)
  else if i.op = 7 then decide ((0 ≤ i.a ∧ i.a < 8) ∧ i.b = 0 ∧ 1 ≤ i.n ∧ i.n ≤ 24)
  else if i.op = 8 then decide (i.a = 0 ∧ (1 ≤ i.b ∧ i.b ≤ 24) ∧ 1 ≤ i.n ∧ i.n ≤ 20)
  else if i.op = 9 ∨ i.op = 10 then decide ((0 ≤ i.a ∧ i.a ≤ 3) ∧ i.b = 0 ∧ i.n = 0)
  else false
end Fo.W
set_option maxRecDepth 100000
set_option linter.unusedVariables false
set_option linter.unusedSimpArgs false
namespace Fo.W
open Go Fo
abbrev w64 (n : Int) : Int := IntKind.i64.wrap n
def narrow (v n : Int) : Int := if n < 1 ∨ 64 < n then v else (w64 (v * 2 ^ (min (64 - n).toNat 64))).fdiv (2 ^ (min (64 - n).toNat 64))
def shift (v n : Int) : Int := if n ≤ -64 ∨ 64 ≤ n then v else if n < 0 then v.fdiv (2 ^ (min (-n).toNat 64)) else w64 (IntKind.u64.wrap (IntKind.u64.wrap v * 2 ^ (min n.toNat 64)))
theorem w136 (l : List Rep2) (h : l.length ≤ 1000000) : C 136 [.sl (R Rep2.row l)] = some (.fresh (R Rep2.row l), []) := cl136 _ (R_all fun _ => rfl) (by simpa using h)
theorem w137 (l : List Int) (h : l.length ≤ 1000000) : C 137 [.sl (RI l)] = some (.fresh (RI l), []) := cl137 _ (R_all fun _ => rfl) (by simpa using h)
theorem w284 (m : Mach) (h : m.reps.length ≤ 1000000) : C 284 [.agg (m.row .sl)] = some (.agg (m.row .sl), []) := by
  refine c_eq rfl rfl rfl ?_
  simp [F284, w136, h, give_own]
def newM (n : Int) : Mach := ⟨0, ⟨n, 0, 0, 0, 0, 0, 0, 0⟩, [], false⟩
theorem w155 (n : Int) : C 155 [i64 n] = some (.agg ((newM n).row .sl), []) := by
  refine c_eq rfl rfl rfl ?_
  simp [F155, newM]
structure Job.ok (j : Job) : Prop where
  m : j.m.reps.length ≤ 100000
  kept : j.kept.reps.length ≤ 100000
  held : j.held.length ≤ 100000
theorem w281 (j : Job) (h : j.ok) : C 281 [.agg (j.row .sl)] = some (.agg [i64 j.task, i64 j.at_, i64 j.in_, i64 j.phase,
   i64 j.m.pc, i64 j.m.mem.m0, i64 j.m.mem.m1, i64 j.m.mem.m2, i64 j.m.mem.m3, i64 j.m.mem.m4, i64 j.m.mem.m5, i64 j.m.mem.m6, i64 j.m.mem.m7, .sl (R Rep2.row j.m.reps), .bool j.m.over,
   i64 j.kept.pc, i64 j.kept.mem.m0, i64 j.kept.mem.m1, i64 j.kept.mem.m2, i64 j.kept.mem.m3, i64 j.kept.mem.m4, i64 j.kept.mem.m5, i64 j.kept.mem.m6, i64 j.kept.mem.m7, .sl (R Rep2.row j.kept.reps), .bool j.kept.over,
   .fresh (RI j.held), .bool j.up], []) := by
  refine c_eq rfl rfl rfl ?_
  have h1 := w284 j.m (by have := h.m; omega)
  have h2 := w284 j.kept (by have := h.kept; omega)
  have h3 := w137 j.held (by have := h.held; omega)
  simp [F281, h1, h2, h3, give_own]
def newJ (place at_ in_ : Int) : Job := ⟨place, at_, in_, 0, newM in_, newM in_, [], false⟩
def codeOf (t : Task) (ph : Int) : List Inst := if ph = 0 then t.main else if ph = 1 then t.way else if ph = 2 then t.opt else []
structure Task.ok (t : Task) : Prop where
  main : t.main.length ≤ 100000
  way : t.way.length ≤ 100000
  opt : t.opt.length ≤ 100000
def back (t : Task) (j : Job) : Job := if j.phase = 0 ∧ t.way ≠ [] then { j with phase := 1, m := newM j.in_, kept := newM j.in_, held := [] } else { j with m := j.kept, held := [] }
theorem w288 (t : Task) (j : Job) (h : j.ok) : C 288 [.agg (t.row .sl), .agg (j.row .sl)] = some (.agg ((back t j).row .sl), []) := by
  refine c_eq rfl rfl rfl ?_
  obtain ⟨jt, ja, ji, ph, jm, jk, jh, ju⟩ := j
  obtain ⟨rank, per, en, main, way, opt⟩ := t
  simp only [F288]
  by_cases e0 : ph = 0
  · subst e0
    have h1 := w281 _ h
    have h2 := w284 jk (by have := h.kept; simp at this; omega)
    have h3 := w155 ji
    cases way with
    | nil => simp [back, h1, h2, h3, newM]
    | cons x l => simp [back, h1, h2, h3, newM]
  · have h1 := w281 _ h
    have h2 := w284 jk (by have := h.kept; simp at this; omega)
    simp [back, e0, h1, h2, newM]
end Fo.W
set_option maxRecDepth 100000
set_option linter.unusedVariables false
set_option linter.unusedSimpArgs false
namespace Fo.W
open Go Fo
def goesN (pc : Int) (reps : List Rep2) : Nat → Int × List Rep2
  | 0 => (pc, [])
  | n + 1 =>
    match reps[n]? with
    | some r => if r.last < pc then (if 0 < r.left then (r.first, reps.take n ++ [⟨r.first, r.last, w64 (r.left - 1)⟩]) else goesN pc reps n) else (pc, reps.take (n + 1))
    | none => (pc, reps.take (n + 1))
def goes (m : Mach) : Mach := { m with pc := (goesN m.pc m.reps m.reps.length).1, reps := (goesN m.pc m.reps m.reps.length).2 }
theorem le8 {P : Int → Prop} {a : Int} (h : 0 ≤ a ∧ a < 8) (h0 : P 0) (h1 : P 1) (h2 : P 2) (h3 : P 3) (h4 : P 4) (h5 : P 5) (h6 : P 6) (h7 : P 7) : P a := by
  have : a = 0 ∨ a = 1 ∨ a = 2 ∨ a = 3 ∨ a = 4 ∨ a = 5 ∨ a = 6 ∨ a = 7 := by omega
  rcases this with rfl | rfl | rfl | rfl | rfl | rfl | rfl | rfl <;> assumption
theorem mem_at {a : Int} (h : 0 ≤ a ∧ a < 8) (x0 x9 x10 : V) (m : Mem) : [x0, i64 m.m0, i64 m.m1, i64 m.m2, i64 m.m3, i64 m.m4, i64 m.m5, i64 m.m6, i64 m.m7, x9, x10][1 + a.toNat]? = some (i64 (m.get a)) :=
  le8 (P := fun a => [x0, i64 m.m0, i64 m.m1, i64 m.m2, i64 m.m3, i64 m.m4, i64 m.m5, i64 m.m6, i64 m.m7, x9, x10][1 + a.toNat]? = some (i64 (m.get a))) h rfl rfl rfl rfl rfl rfl rfl rfl
theorem mem_set {a : Int} (h : 0 ≤ a ∧ a < 8) (x0 x9 x10 : V) (m : Mem) (v : Int) : List.take (1 + a.toNat) [x0, i64 m.m0, i64 m.m1, i64 m.m2, i64 m.m3, i64 m.m4, i64 m.m5, i64 m.m6, i64 m.m7, x9, x10] ++ V.int .i64 v :: List.drop (1 + a.toNat) [i64 m.m0, i64 m.m1, i64 m.m2, i64 m.m3, i64 m.m4, i64 m.m5, i64 m.m6, i64 m.m7, x9, x10] =
    [x0, i64 (m.set a v).m0, i64 (m.set a v).m1, i64 (m.set a v).m2, i64 (m.set a v).m3, i64 (m.set a v).m4, i64 (m.set a v).m5, i64 (m.set a v).m6, i64 (m.set a v).m7, x9, x10] :=
  le8 (P := fun a => List.take (1 + a.toNat) [x0, i64 m.m0, i64 m.m1, i64 m.m2, i64 m.m3, i64 m.m4, i64 m.m5, i64 m.m6, i64 m.m7, x9, x10] ++ V.int .i64 v :: List.drop (1 + a.toNat) [i64 m.m0, i64 m.m1, i64 m.m2, i64 m.m3, i64 m.m4, i64 m.m5, i64 m.m6, i64 m.m7, x9, x10] =
    [x0, i64 (m.set a v).m0, i64 (m.set a v).m1, i64 (m.set a v).m2, i64 (m.set a v).m3, i64 (m.set a v).m4, i64 (m.set a v).m5, i64 (m.set a v).m6, i64 (m.set a v).m7, x9, x10]) h rfl rfl rfl rfl rfl rfl rfl rfl
def exec (i : Inst) (m : Mach) : Mach :=
  if i.op = 0 then { m with over := true }
  else if i.op = 1 then { m with pc := m.pc + 1, mem := m.mem.set i.a i.n }
  else if i.op = 2 then { m with pc := m.pc + 1, mem := m.mem.set i.a (w64 (m.mem.get i.a + m.mem.get i.b)) }
  else if i.op = 3 then { m with pc := m.pc + 1, mem := m.mem.set i.a (w64 (m.mem.get i.a - m.mem.get i.b)) }
  else if i.op = 4 then { m with pc := m.pc + 1, mem := m.mem.set i.a (w64 (m.mem.get i.a * m.mem.get i.b)) }
  else if i.op = 5 then { m with pc := m.pc + 1, mem := m.mem.set i.a (shift (m.mem.get i.a) i.n) }
  else if i.op = 6 then { m with pc := m.pc + 1, mem := m.mem.set i.a (narrow (m.mem.get i.a) i.n) }
  else if i.op = 7 then { m with pc := if m.mem.get i.a = 0 then m.pc + 1 + i.n else m.pc + 1 }
  else if i.op = 8 then { m with pc := m.pc + 1, reps := m.reps ++ [⟨m.pc + 1, m.pc + i.b, i.n - 1⟩] }
  else { m with pc := m.pc + 1 }
def nextI (l : List Inst) (m : Mach) : Option Inst :=
  if m.over = false ∧ 0 ≤ m.pc then (match l[m.pc.toNat]? with | some i => if mayInst i then some i else none | none => none) else none
theorem w64_congr {a b : Int} (h : a % 18446744073709551616 = b % 18446744073709551616) : w64 a = w64 b := by simp only [w64, IntKind.wrap_i64]; omega
theorem may_a {i : Inst} (h : mayInst i = true) : 0 ≤ i.a ∧ i.a < 8 ∧ 0 ≤ i.b ∧ i.b ≤ 24 ∧ 0 ≤ i.op ∧ i.op ≤ 11 := by
  unfold mayInst at h
  repeat' split at h
  all_goals first | (simp at h; done) | (simp at h; omega)
theorem may_b {i : Inst} (h : mayInst i = true) (ho : i.op = 2 ∨ i.op = 3 ∨ i.op = 4) : i.b < 8 := by
  unfold mayInst at h
  rcases ho with e | e | e <;> simp [e] at h <;> omega
theorem may_n7 {a b n : Int} (h : mayInst ⟨7, a, b, n⟩ = true) : 1 ≤ n ∧ n ≤ 24 := by simp [mayInst] at h; omega
theorem may_n8 {a b n : Int} (h : mayInst ⟨8, a, b, n⟩ = true) : 1 ≤ n ∧ n ≤ 20 := by simp [mayInst] at h; omega
theorem exec_reps (i : Inst) (m : Mach) : (exec i m).reps.length ≤ m.reps.length + 1 := by
  unfold exec; repeat' split
  all_goals simp
end Fo.W
set_option maxRecDepth 100000
set_option linter.unusedVariables false
set_option linter.unusedSimpArgs false
namespace Fo.W
open Go Fo
def eraseLast (a : Int) (l : List Int) : Nat → List Int
  | 0 => l
  | n + 1 => if l[n]? = some a then l.eraseIdx n else eraseLast a l n
def jobGo (t : Task) (j : Job) : Option (Job × Inst) :=
  match nextI (codeOf t j.phase) j.m with
  | none => none
  | some i =>
    let m := goes (exec i j.m)
    some ({ j with m := m, kept := if i.op = 11 then m else j.kept, held := if i.op = 9 then j.held ++ [i.a] else if i.op = 10 then eraseLast i.a j.held j.held.length else j.held }, i)
theorem codeOf_len {t : Task} (ht : t.ok) (ph : Int) : (codeOf t ph).length ≤ 100000 := by
  unfold codeOf; repeat' split
  · exact ht.main
  · exact ht.way
  · exact ht.opt
  · simp
theorem goesN_len (pc : Int) (reps : List Rep2) : ∀ n, (goesN pc reps n).2.length ≤ n
  | 0 => by simp [goesN]
  | n + 1 => by
    unfold goesN
    split
    · split
      · split
        · simp; omega
        · exact Nat.le_succ_of_le (goesN_len pc reps n)
      · simp; omega
    · simp; omega
theorem goes_reps (m : Mach) : (goes m).reps.length ≤ m.reps.length := goesN_len _ _ _
end Fo.W
set_option maxRecDepth 100000
set_option linter.unusedVariables false
set_option linter.unusedSimpArgs false
namespace Fo.W
open Go Fo
abbrev RS (l : List Sema) : List (List V) := R Sema.row l
def hasS (l : List Sema) (s : Int) : Bool := decide (0 ≤ s ∧ s < l.length)
def holdsS (l : List Sema) (s t : Int) : Bool := match l[s.toNat]? with | some x => decide (0 ≤ s ∧ x.holder = t + 1) | none => false
def freeS (t : Int) (x : Sema) : Sema := if x.holder = t + 1 then ⟨x.ceil, 0⟩ else x
def allS (l : List Sema) (t : Int) : List Sema := l.map (freeS t)
theorem w286 (l : List Sema) (s : Int) : C 286 [.sl (RS l), i64 s] = some (.bool (hasS l s), []) := by
  refine c_eq rfl rfl rfl ?_
  by_cases h : 0 ≤ s <;> simp [F286, h, hasS]
theorem w271 (l : List Sema) (s t : Int) (ht : 0 ≤ t ∧ t ≤ 1000000) : C 271 [.sl (RS l), i64 s, i64 t] = some (.bool (holdsS l s t), []) := by
  refine c_eq rfl rfl rfl ?_
  have hw := wrap64 (n := t + 1) (by omega) (by omega)
  by_cases h : 0 ≤ s ∧ s < l.length
  · obtain ⟨x, hx⟩ : ∃ x, l[s.toNat]? = some x := ⟨l[s.toNat]'(by omega), by simp⟩
    have hx' := (List.getElem?_eq_some_iff.1 hx).2
    simp [F271, w286, hasS, holdsS, h, ht, hx, hx', hw]
  · have hn : holdsS l s t = false := by
      unfold holdsS; split
      · rename_i x hx; have := (List.getElem?_eq_some_iff.1 hx).1; simp; intro h1; exact absurd ⟨h1, by omega⟩ h
      · rfl
    simp [F271, w286, hasS, hn, h]
theorem w270 (l : List Sema) (h : l.length ≤ 1000000) : C 270 [.sl (RS l)] = some (.fresh (RS l), []) := cl270 _ (R_all fun _ => rfl) (by simpa using h)
theorem w216 (l : List Sema) (t : Int) (ht : 0 ≤ t ∧ t ≤ 1000000) (hl : l.length ≤ 1000000) : C 216 [.sl (RS l), i64 t] = some (.sl (RS (allS l t)), []) := by
  refine c_eq rfl rfl rfl ?_
  simp [F216, w270, hl]
  refine wp_inv l.length (fun k σ => σ.env 0 = .sl (RS l) ∧ σ.env 1 = i64 t ∧ σ.env 5 = .own 8 0 0 0 l.length ∧ σ.env 10 = i64 l.length ∧ σ.env 11 = i64 k ∧ σ.h.bl 8 0 0 = .rows (RS (mapTo (freeS t) l k))) ?_ ?_ ?_
  · simp
  · intro k σ hk ⟨h0, h1, h5, h10, h11, hb⟩
    have hw := wrap64 (n := (k : Int) + 1) (by omega) (by omega)
    obtain ⟨x, hx⟩ : ∃ x, l[k]? = some x := ⟨l[k], by simp [hk]⟩
    have hx' := (List.getElem?_eq_some_iff.1 hx).2
    by_cases hh : x.holder = t + 1
    · have hq : holdsS l k t = true := by simp [holdsS, hx, hh]
      simp [h0, h1, h5, h10, h11, hb, w271, ht, hk, hw, hq, hx, hx', R_mapTo hx, freeS, hh]
    · have hq : holdsS l k t = false := by simp [holdsS, hx, hh]
      simp [h0, h1, h5, h10, h11, hb, w271, ht, hk, hw, hq, mapTo_same hx, freeS, hh]
  · intro σ ⟨h0, h1, h5, h10, h11, hb⟩
    simp [h0, h1, h5, h10, h11, hb, allS]
end Fo.W
set_option maxRecDepth 100000
set_option linter.unusedVariables false
set_option linter.unusedSimpArgs false
namespace Fo.W
open Go Fo
def Small (n : Int) : Prop := -1000000 ≤ n ∧ n ≤ 1000000
end Fo.W
set_option maxRecDepth 100000
set_option linter.unusedVariables false
set_option linter.unusedSimpArgs false
namespace Fo.W
open Go Fo
end Fo.W
set_option maxRecDepth 100000
set_option linter.unusedVariables false
set_option linter.unusedSimpArgs false
namespace Fo.W
open Go Fo
def Acc (d : Nat) (x : V) (h : Heap) (rows : List (List V)) : Prop := (rows = [] ∧ x = .e true) ∨ (rows ≠ [] ∧ ∃ v, x = .own d v 0 0 rows.length ∧ h.bl d v 0 = .rows rows)
theorem Acc.nil {d : Nat} {h : Heap} : Acc d (.e true) h [] := .inl ⟨rfl, rfl⟩
theorem Acc.mk {d v n : Nat} {h : Heap} {rows : List (List V)} (hn : rows ≠ []) (hl : n = rows.length) (hb : h.bl d v 0 = .rows rows) : Acc d (.own d v 0 0 n) h rows := .inr ⟨hn, v, by rw [hl], hb⟩
end Fo.W
set_option maxRecDepth 100000
set_option linter.unusedVariables false
set_option linter.unusedSimpArgs false
namespace Fo.W
open Go Fo
end Fo.W
set_option maxRecDepth 100000
set_option linter.unusedVariables false
set_option linter.unusedSimpArgs false
namespace Fo.W
open Go Fo
theorem w218 (j : Job) (h : j.ok) : C 218 [.agg (j.row .sl)] = some (.agg (j.row .fresh), []) := by
  refine c_eq rfl rfl rfl ?_
  have h1 := w136 j.m.reps (by have := h.m; omega)
  have h2 := w136 j.kept.reps (by have := h.kept; omega)
  have h3 := w137 j.held (by have := h.held; omega)
  simp [F218, h1, h2, h3]
def hitJ (t : Task) (j : Job) (l : List Sema) : Job × List Sema × Int :=
  if j.phase = 2 then (j, allS l j.task, 13) else (back t j, allS l j.task, if (back t j).phase ≠ j.phase then 7 else 6)
theorem w228 (t : Task) (j : Job) (l : List Sema) (hj : j.ok) (ht : 0 ≤ j.task ∧ j.task ≤ 1000000) (hl : l.length ≤ 1000000) : C 228 [.agg (t.row .sl), .agg (j.row .sl), .sl (RS l)] = some (.tup [.agg ((hitJ t j l).1.row .sl), .sl (RS (hitJ t j l).2.1), i64 (hitJ t j l).2.2], []) := by
  refine c_eq rfl rfl rfl ?_
  obtain ⟨jt, ja, ji, ph, jm, jk, jh, ju⟩ := j
  have h1 := w288 t _ hj
  have h2 := w216 l jt ht hl
  by_cases q : ph = 2
  · subst q
    have h3 := w218 _ hj
    simp [F228, h1, h2, h3, hitJ]
  · by_cases q2 : (back t ⟨jt, ja, ji, ph, jm, jk, jh, ju⟩).phase = ph
    · simp [F228, h1, h2, hitJ, q, q2]
    · simp [F228, h1, h2, hitJ, q, q2]
end Fo.W
set_option maxRecDepth 100000
set_option linter.unusedVariables false
set_option linter.unusedSimpArgs false
namespace Fo.W
open Go Fo
@[reducible] def u8Row (n : Int) : List V := [.int .u8 n]
attribute [simp] u8Row
abbrev RU (l : List Int) : List (List V) := R u8Row l
structure Pk where
  l : List Int
  n : Nat
@[reducible] def Pk.row (p : Pk) : List V := [.sl (RU p.l), i64 p.n]
def Pk.Ok (p : Pk) : Prop := (∀ x ∈ p.l, 0 ≤ x ∧ x ≤ 255) ∧ p.l.length ≤ 1000000 ∧ p.n ≤ p.l.length
attribute [simp] Pk.row
theorem w6 (l : List Int) : C 6 [.sl (RU l)] = some (.pbox (Pk.row ⟨l, 0⟩) 0, []) := by
  refine c_eq rfl rfl rfl ?_
  simp [F6]
theorem w18 (p : Pk) (hp : p.Ok) (m : Int) (hm : 0 < m ∧ m ≤ 1000) : ∃ v q, C 18 [.pbox p.row 0, i64 m] = some (i64 v, [Pk.row q]) ∧ Pk.Ok q ∧ 0 ≤ v ∧ v < m := by
  obtain ⟨l, n⟩ := p
  obtain ⟨h1, h2, h3⟩ := hp
  simp only at h1 h2 h3
  by_cases c : l.length ≤ n
  · refine ⟨0, ⟨l, n⟩, ?_, ⟨h1, h2, h3⟩, by omega, hm.1⟩
    refine c_eq rfl rfl rfl ?_
    simp [F18, c]
  · have hlt : n < l.length := by omega
    obtain ⟨x, hx'⟩ : ∃ x, l[n] = x := ⟨_, rfl⟩
    have hx : l[n]? = some x := by simp [hlt, hx']
    have hr := h1 _ (List.getElem_mem hlt)
    rw [hx'] at hr
    have e : x.tmod m = x % m := Int.tmod_eq_emod_of_nonneg hr.1
    have e0 := Int.emod_nonneg x (b := m) (by omega)
    have e1 := Int.emod_lt_of_pos x hm.1
    refine ⟨x % m, ⟨l, n + 1⟩, ?_, ⟨h1, h2, hlt⟩, e0, e1⟩
    have hw := wrap64 (n := (n : Int) + 1) (by omega) (by omega)
    have hw1 := wrap64 (n := x % m) (by omega) (by omega)
    have hw2 := wrap64 (n := x) (by omega) (by omega)
    have hw3 := wrap64 (n := (n : Int)) (by omega) (by omega)
    have hm0 : ¬ m = 0 := by omega
    have hn1 : ¬ ((n : Int) < 0) := by omega
    refine c_eq rfl rfl rfl ?_
    simp [F18, c, hx, hx', hw, hw1, hw2, hw3, hm0, hn1, e, hlt, cf_bin, binInt]
def Inst.Small (x : Inst) : Prop := (0 ≤ x.op ∧ x.op ≤ 11) ∧ (0 ≤ x.a ∧ x.a ≤ 100) ∧ (0 ≤ x.b ∧ x.b ≤ 100) ∧ (-100 ≤ x.n ∧ x.n ≤ 100)
theorem w120 (p : Pk) (hp : p.Ok) : ∃ x q, C 120 [.pbox p.row 0] = some (.agg (Inst.row x), [Pk.row q]) ∧ Pk.Ok q ∧ x.Small := by
  obtain ⟨a, p1, e1, o1, a0, a1⟩ := w18 p hp 3 (by omega)
  obtain ⟨b, p2, e2, o2, b0, b1⟩ := w18 p1 o1 3 (by omega)
  obtain ⟨k, p3, e3, o3, k0, k1⟩ := w18 p2 o2 6 (by omega)
  obtain ⟨n, p4, e4, o4, n0, n1⟩ := w18 p3 o3 9 (by omega)
  obtain ⟨m, p5, e5, o5, m0, m1⟩ := w18 p3 o3 7 (by omega)
  obtain ⟨u, p6, e6, o6, u0, u1⟩ := w18 p3 o3 64 (by omega)
  obtain ⟨l, i⟩ := p
  obtain ⟨l1, i1⟩ := p1
  obtain ⟨l2, i2⟩ := p2
  obtain ⟨l3, i3⟩ := p3
  simp at e1 e2 e3 e4 e5 e6
  by_cases c0 : k = 0
  · subst c0
    have hw := wrap64 (n := n - 4) (by omega) (by omega)
    refine ⟨⟨1, a, 0, n - 4⟩, p4, ?_, o4, ?_⟩
    · refine c_eq rfl rfl rfl ?_
      simp [F120, e1, e2, e3, e4, hw]
    · simp only [Inst.Small]; omega
  by_cases c1 : k = 1
  · subst c1
    refine ⟨⟨2, a, b, 0⟩, ⟨l3, i3⟩, ?_, o3, ?_⟩
    · refine c_eq rfl rfl rfl ?_
      simp [F120, e1, e2, e3]
    · simp only [Inst.Small]; omega
  by_cases c2 : k = 2
  · subst c2
    refine ⟨⟨3, a, b, 0⟩, ⟨l3, i3⟩, ?_, o3, ?_⟩
    · refine c_eq rfl rfl rfl ?_
      simp [F120, e1, e2, e3]
    · simp only [Inst.Small]; omega
  by_cases c3 : k = 3
  · subst c3
    refine ⟨⟨4, a, b, 0⟩, ⟨l3, i3⟩, ?_, o3, ?_⟩
    · refine c_eq rfl rfl rfl ?_
      simp [F120, e1, e2, e3]
    · simp only [Inst.Small]; omega
  by_cases c4 : k = 4
  · subst c4
    have hw := wrap64 (n := m - 3) (by omega) (by omega)
    refine ⟨⟨5, a, 0, m - 3⟩, p5, ?_, o5, ?_⟩
    · refine c_eq rfl rfl rfl ?_
      simp [F120, e1, e2, e3, e5, hw]
    · simp only [Inst.Small]; omega
  have hw := wrap64 (n := 1 + u) (by omega) (by omega)
  refine ⟨⟨6, a, 0, 1 + u⟩, p6, ?_, o6, ?_⟩
  · refine c_eq rfl rfl rfl ?_
    simp [F120, e1, e2, e3, e6, c0, c1, c2, c3, c4, hw]
  · simp only [Inst.Small]; omega
end Fo.W
set_option maxRecDepth 100000
set_option linter.unusedVariables false
set_option linter.unusedSimpArgs false
namespace Fo.W
open Go Fo
def Acc2 (a b : Nat) (x : V) (h : Heap) (rows : List (List V)) : Prop := (rows = [] ∧ x = .e true) ∨ (rows ≠ [] ∧ ∃ d v, (d = a ∨ d = b) ∧ x = .own d v 0 0 rows.length ∧ h.bl d v 0 = .rows rows)
theorem w69 (p : Pk) (hp : p.Ok) (most locks : Int) (hm : 0 < most ∧ most ≤ 100) (hl : 0 ≤ locks ∧ locks ≤ 100) : ∃ l q, C 69 [.pbox p.row 0, i64 most, i64 locks] = some (.fresh (RC l), [Pk.row q]) ∧ Pk.Ok q ∧ (l.length ≤ 3 * most.toNat ∧ 1 ≤ l.length) ∧ ∀ x ∈ l, Inst.Small x := by
  obtain ⟨n0, p1, e1, o1, a0, a1⟩ := w18 p hp most (by omega)
  obtain ⟨N, hN⟩ : ∃ N : Nat, n0 + 1 = N := ⟨(n0 + 1).toNat, by omega⟩
  have hw0 := wrap64 (n := (N : Int)) (by omega) (by omega)
  suffices h : ∃ r, C 69 [.pbox p.row 0, i64 most, i64 locks] = some r ∧ ∃ l q, r = (.fresh (RC l), [Pk.row q]) ∧ Pk.Ok q ∧ (l.length ≤ 3 * most.toNat ∧ 1 ≤ l.length) ∧ ∀ x ∈ l, Inst.Small x by
    obtain ⟨r, h1, l, q, rfl, h2⟩ := h
    exact ⟨l, q, h1, h2⟩
  refine c_ex rfl rfl rfl ?_
  simp at e1
  simp [F69, e1, hN, hw0]
  refine wp_inv N (fun k σ => σ.env 0 = .ptr 0 0 0 0 0 ∧ σ.env 2 = i64 locks ∧ σ.env 8 = i64 ((N : Int) - k) ∧ ∃ q : Pk, q.Ok ∧ σ.h.bl 0 0 0 = .box q.row ∧ ∃ l : List Inst, (k ≤ l.length ∧ l.length ≤ 3 * k) ∧ (∀ x ∈ l, x.Small) ∧ Acc2 40 45 (σ.env 7) σ.h (RC l)) ?_ ?_ ?_
  · simp
    exact ⟨p1, o1, ⟨rfl, rfl⟩, Or.inl ⟨rfl, rfl⟩⟩
  · rintro k σ hk ⟨e0, e2, e8, q, oq, b0, l, ⟨l1, l2⟩, ls, ha⟩
    have hw := wrap64 (n := (N : Int) - k - 1) (by omega) (by omega)
    have hpos : (k : Int) < N := by omega
    have hpos' : 0 < (N : Int) - k := by omega
    have hsub : (N : Int) - (k + 1) = (N : Int) - k - 1 := by omega
    have r1 : l.length + 1 ≤ room := by unfold room; omega
    have r2 : l.length + 1 + 1 ≤ room := by unfold room; omega
    have r3 : l.length + 1 + 1 + 1 ≤ room := by unfold room; omega
    obtain ⟨c, q1, f1, oq1, c0, c1⟩ := w18 q oq 4 (by omega)
    simp at f1
    by_cases h1 : 0 < locks
    · by_cases h2 : c = 0
      · obtain ⟨s, q2, f2, oq2, s0, s1⟩ := w18 q1 oq1 locks (by omega)
        obtain ⟨x, q3, f3, oq3, xs⟩ := w120 q2 oq2
        have hy : ∀ z ∈ l ++ [⟨9, s, 0, 0⟩] ++ [x] ++ [⟨10, s, 0, 0⟩], Inst.Small z := by
          intro z hz
          simp only [List.mem_append, List.mem_singleton] at hz
          rcases hz with ((hz | rfl) | rfl) | rfl
          · exact ls z hz
          · simp only [Inst.Small]; omega
          · exact xs
          · simp only [Inst.Small]; omega
        simp at f2 f3 b0
        rcases ha with ⟨g1, g2⟩ | ⟨g1, d, v, g2, g3, g4⟩
        · simp at g1; subst g1
          simp [e0, e2, e8, b0, f1, f2, f3, h1, h2, g2, hpos, hpos', hw, room, hsub]
          exact ⟨q3, oq3, ⟨rfl, rfl⟩, _, ⟨by simp; simp at l1; omega, by simp; omega⟩, hy, Or.inr ⟨by simp, 40, σ.h.cnt 40, .inl rfl, by simp, by simp⟩⟩
        · simp at g1
          rcases g2 with rfl | rfl
          · simp [e0, e2, e8, b0, f1, f2, f3, h1, h2, g3, g4, hpos, hpos', hw, r1, r2, r3, hsub]
            exact ⟨q3, oq3, ⟨rfl, rfl⟩, _, ⟨by simp; omega, by simp; omega⟩, hy, Or.inr ⟨by simp, 40, σ.h.cnt 40, .inl rfl, by simp [Nat.add_assoc], by simp⟩⟩
          · simp [e0, e2, e8, b0, f1, f2, f3, h1, h2, g3, g4, hpos, hpos', hw, r1, r2, r3, hsub]
            exact ⟨q3, oq3, ⟨rfl, rfl⟩, _, ⟨by simp; omega, by simp; omega⟩, hy, Or.inr ⟨by simp, 40, σ.h.cnt 40, .inl rfl, by simp [Nat.add_assoc], by simp⟩⟩
      · obtain ⟨x, q3, f3, oq3, xs⟩ := w120 q1 oq1
        have hy : ∀ z ∈ l ++ [x], Inst.Small z := by
          intro z hz
          simp only [List.mem_append, List.mem_singleton] at hz
          rcases hz with hz | rfl
          · exact ls z hz
          · exact xs
        simp at f3 b0
        rcases ha with ⟨g1, g2⟩ | ⟨g1, d, v, g2, g3, g4⟩
        · simp at g1; subst g1
          simp [e0, e2, e8, b0, f1, f3, h1, h2, g2, hpos, hpos', hw, room, hsub]
          exact ⟨q3, oq3, ⟨rfl, rfl⟩, _, ⟨by simp; simp at l1; omega, by simp; omega⟩, hy, Or.inr ⟨by simp, 45, σ.h.cnt 45, .inr rfl, by simp, by simp⟩⟩
        · simp at g1
          rcases g2 with rfl | rfl
          · simp [e0, e2, e8, b0, f1, f3, h1, h2, g3, g4, hpos, hpos', hw, r1, r2, r3, hsub]
            exact ⟨q3, oq3, ⟨rfl, rfl⟩, _, ⟨by simp; omega, by simp; omega⟩, hy, Or.inr ⟨by simp, 45, σ.h.cnt 45, .inr rfl, by simp [Nat.add_assoc], by simp⟩⟩
          · simp [e0, e2, e8, b0, f1, f3, h1, h2, g3, g4, hpos, hpos', hw, r1, r2, r3, hsub]
            exact ⟨q3, oq3, ⟨rfl, rfl⟩, _, ⟨by simp; omega, by simp; omega⟩, hy, Or.inr ⟨by simp, 45, σ.h.cnt 45, .inr rfl, by simp [Nat.add_assoc], by simp⟩⟩
    · obtain ⟨x, q3, f3, oq3, xs⟩ := w120 q oq
      have hy : ∀ z ∈ l ++ [x], Inst.Small z := by
        intro z hz
        simp only [List.mem_append, List.mem_singleton] at hz
        rcases hz with hz | rfl
        · exact ls z hz
        · exact xs
      have h1' : ¬ (0 < locks) := h1
      simp at f3 b0
      rcases ha with ⟨g1, g2⟩ | ⟨g1, d, v, g2, g3, g4⟩
      · simp at g1; subst g1
        simp [e0, e2, e8, b0, f3, h1, g2, hpos, hpos', hw, room, hsub]
        exact ⟨q3, oq3, ⟨rfl, rfl⟩, _, ⟨by simp; simp at l1; omega, by simp; omega⟩, hy, Or.inr ⟨by simp, 45, σ.h.cnt 45, .inr rfl, by simp, by simp⟩⟩
      · simp at g1
        rcases g2 with rfl | rfl
        · simp [e0, e2, e8, b0, f3, h1, g3, g4, hpos, hpos', hw, r1, r2, r3, hsub]
          exact ⟨q3, oq3, ⟨rfl, rfl⟩, _, ⟨by simp; omega, by simp; omega⟩, hy, Or.inr ⟨by simp, 45, σ.h.cnt 45, .inr rfl, by simp [Nat.add_assoc], by simp⟩⟩
        · simp [e0, e2, e8, b0, f3, h1, g3, g4, hpos, hpos', hw, r1, r2, r3, hsub]
          exact ⟨q3, oq3, ⟨rfl, rfl⟩, _, ⟨by simp; omega, by simp; omega⟩, hy, Or.inr ⟨by simp, 45, σ.h.cnt 45, .inr rfl, by simp [Nat.add_assoc], by simp⟩⟩
  · rintro σ ⟨e0, e2, e8, q, oq, b0, l, ⟨l1, l2⟩, ls, ha⟩
    rcases ha with ⟨g1, g2⟩ | ⟨g1, d, v, g2, g3, g4⟩
    · simp at g1; subst g1; simp at l1; omega
    · have hd : ¬ d = 0 := by omega
      simp at b0
      simp [e0, e2, e8, b0, g3, g4, hd]
      exact ⟨l, q, ⟨rfl, rfl, rfl⟩, oq, by omega, ls⟩
end Fo.W
set_option maxRecDepth 100000
set_option linter.unusedVariables false
set_option linter.unusedSimpArgs false
namespace Fo.W
open Go Fo
theorem small_app {l m : List Inst} (h : ∀ x ∈ l, Inst.Small x) (h' : ∀ x ∈ m, Inst.Small x) : ∀ x ∈ l ++ m, Inst.Small x := by
  intro x hx
  rcases List.mem_append.1 hx with hx | hx
  · exact h x hx
  · exact h' x hx
theorem small_one {x : Inst} (h : x.Small) : ∀ z ∈ [x], Inst.Small z := by
  intro z hz
  rw [List.mem_singleton.1 hz]; exact h
theorem small_cons {x : Inst} {l : List Inst} (h : x.Small) (hl : ∀ x ∈ l, Inst.Small x) : ∀ z ∈ x :: l, Inst.Small z := by
  intro z hz
  rcases List.mem_cons.1 hz with rfl | hz
  · exact h
  · exact hl z hz
def PcAt (locks i : Int) (q : Pk) (l : List Inst) (σ : St) : Prop := σ.env 0 = .ptr 0 0 0 0 0 ∧ σ.env 1 = i64 locks ∧ σ.env 6 = i64 i ∧ σ.h.bl 0 0 0 = .box [.sl (RU q.l), i64 q.n] ∧ Acc 61 (σ.env 5) σ.h (RC l)
def Piece (x : V) (h : Heap) (m : List Inst) : Prop := ∃ d v, (d = 35 ∨ d = 48 ∨ d = 52 ∨ d = 21) ∧ x = .own d v 0 0 m.length ∧ h.bl d v 0 = .rows (RC m)
theorem w41 (p : Pk) (hp : p.Ok) (locks : Int) (hl : 0 ≤ locks ∧ locks ≤ 100) : ∃ l q, C 41 [.pbox p.row 0, i64 locks] = some (.fresh (RC l), [Pk.row q]) ∧ Pk.Ok q ∧ (l.length ≤ 24 ∧ 1 ≤ l.length) ∧ ∀ x ∈ l, Inst.Small x := by
  obtain ⟨n0, p1, e1, o1, a0, a1⟩ := w18 p hp 4 (by omega)
  obtain ⟨N, hN⟩ : ∃ N : Nat, n0 + 1 = N := ⟨(n0 + 1).toNat, by omega⟩
  have hw0 := wrap64 (n := (N : Int)) (by omega) (by omega)
  suffices h : ∃ r, C 41 [.pbox p.row 0, i64 locks] = some r ∧ ∃ l q, r = (.fresh (RC l), [Pk.row q]) ∧ Pk.Ok q ∧ (l.length ≤ 24 ∧ 1 ≤ l.length) ∧ ∀ x ∈ l, Inst.Small x by
    obtain ⟨r, h1, l, q, rfl, h2⟩ := h
    exact ⟨l, q, h1, h2⟩
  refine c_ex rfl rfl rfl ?_
  simp at e1
  simp [F41, e1, hN, hw0]
  refine wp_inv N (fun k σ => ∃ (q : Pk) (l : List Inst), q.Ok ∧ PcAt locks ((N : Int) - k) q l σ ∧ l.length ≤ 23 ∧ (∀ x ∈ l, x.Small)) ?_ ?_ ?_
  · exact ⟨p1, [], o1, by simp [PcAt, Acc], by simp, by simp⟩
  · rintro k σ hk ⟨q, l, oq, hat, l2, ls⟩
    have hw := wrap64 (n := (N : Int) - k - 1) (by omega) (by omega)
    have hpos : (k : Int) < N := by omega
    have hpos' : 0 < (N : Int) - k := by omega
    have hsub : (N : Int) - (k + 1) = (N : Int) - k - 1 := by omega
    obtain ⟨c, q1, f1, oq1, c0, c1⟩ := w18 q oq 5 (by omega)
    simp at f1
    refine wp_cut (PcAt locks ((N : Int) - k) q l) ?_ ?_
    · obtain ⟨e0, e2, e8, b0, ha⟩ := hat
      rcases ha with ⟨g1, g2⟩ | ⟨g1, v, g3, g4⟩
      · simp at g1; subst g1
        simp [e0, e2, e8, b0, g2, hpos, PcAt, Acc]
      · simp at g1
        simp [e0, e2, e8, b0, g3, g4, g1, hpos, PcAt, Acc]
    intro σ hat
    refine wp_cut (fun τ => ∃ (q' : Pk) (l' : List Inst), q'.Ok ∧ PcAt locks ((N : Int) - k) q' l' τ ∧ l'.length ≤ 23 ∧ (∀ x ∈ l', x.Small)) ?_ ?_
    · rw [wp_block]
      refine wp_cut (PcAt locks ((N : Int) - k) q l) ?_ ?_
      · obtain ⟨e0, e2, e8, b0, ha⟩ := hat
        rcases ha with ⟨g1, g2⟩ | ⟨g1, v, g3, g4⟩
        · simp at g1; subst g1
          simp [e0, e2, e8, b0, g2, PcAt, Acc]
        · simp at g1
          simp [e0, e2, e8, b0, g3, g4, g1, PcAt, Acc]
      intro σ hat
      refine wp_cut (fun τ => ∃ (q' : Pk) (m : List Inst), q'.Ok ∧ PcAt locks ((N : Int) - k) q' l τ ∧ ((∀ x ∈ m, x.Small) ∧ m.length ≤ 7 ∧ 1 ≤ m.length) ∧ Piece (τ.env 7) τ.h m) ?_ ?_
      · obtain ⟨e0, e2, e8, b0, ha⟩ := hat
        by_cases h2 : c = 2
        · subst h2
          have hx : Inst.Small ⟨11, 0, 0, 0⟩ := by simp only [Inst.Small]; omega
          rcases ha with ⟨g1, g2⟩ | ⟨g1, v, g3, g4⟩
          · simp at g1; subst g1
            simp [e0, e2, e8, b0, f1, g2, PcAt, Acc]
            exact ⟨q1, oq1, ⟨rfl, rfl⟩, [⟨11, 0, 0, 0⟩], ⟨small_one hx, by simp, by simp⟩, 52, σ.h.cnt 52, by simp, rfl, by simp⟩
          · simp at g1
            simp [e0, e2, e8, b0, f1, g3, g4, g1, PcAt, Acc]
            exact ⟨q1, oq1, ⟨rfl, rfl⟩, [⟨11, 0, 0, 0⟩], ⟨small_one hx, by simp, by simp⟩, 52, σ.h.cnt 52, by simp, rfl, by simp⟩
        obtain ⟨m, q2, f2, oq2, ⟨m1, m2⟩, ms⟩ := w69 q1 oq1 2 locks (by omega) hl
        obtain ⟨u, q3, f3, oq3, u0, u1⟩ := w18 q2 oq2 3 (by omega)
        have m1' : m.length ≤ 6 := by simpa using m1
        have hmne : m ≠ [] := by rintro rfl; simp at m2
        have r2 : 1 + m.length ≤ room := by unfold room; omega
        simp at f2 f3
        by_cases h0 : c = 0
        · subst h0
          have hx : Inst.Small ⟨8, 0, m.length, 1 + u⟩ := by simp only [Inst.Small]; omega
          have hw3 := wrap64 (n := 1 + u) (by omega) (by omega)
          rcases ha with ⟨g1, g2⟩ | ⟨g1, v, g3, g4⟩
          · simp at g1; subst g1
            simp [e0, e2, e8, b0, g2, f1, f2, f3, hw3, r2, hmne, PcAt, Acc]
            exact ⟨q3, oq3, ⟨rfl, rfl⟩, ⟨8, 0, m.length, 1 + u⟩ :: m, ⟨small_cons hx ms, by simp; omega, by simp⟩, 35, σ.h.cnt 35, by simp, by simp [Nat.add_comm], by simp⟩
          · simp at g1
            simp [e0, e2, e8, b0, g3, g4, g1, f1, f2, f3, hw3, r2, hmne, PcAt, Acc]
            exact ⟨q3, oq3, ⟨rfl, rfl⟩, ⟨8, 0, m.length, 1 + u⟩ :: m, ⟨small_cons hx ms, by simp; omega, by simp⟩, 35, σ.h.cnt 35, by simp, by simp [Nat.add_comm], by simp⟩
        by_cases h1 : c = 1
        · subst h1
          have hx : Inst.Small ⟨7, u, 0, m.length⟩ := by simp only [Inst.Small]; omega
          rcases ha with ⟨g1, g2⟩ | ⟨g1, v, g3, g4⟩
          · simp at g1; subst g1
            simp [e0, e2, e8, b0, g2, f1, f2, f3, r2, hmne, PcAt, Acc]
            exact ⟨q3, oq3, ⟨rfl, rfl⟩, ⟨7, u, 0, m.length⟩ :: m, ⟨small_cons hx ms, by simp; omega, by simp⟩, 48, σ.h.cnt 48, by simp, by simp [Nat.add_comm], by simp⟩
          · simp at g1
            simp [e0, e2, e8, b0, g3, g4, g1, f1, f2, f3, r2, hmne, PcAt, Acc]
            exact ⟨q3, oq3, ⟨rfl, rfl⟩, ⟨7, u, 0, m.length⟩ :: m, ⟨small_cons hx ms, by simp; omega, by simp⟩, 48, σ.h.cnt 48, by simp, by simp [Nat.add_comm], by simp⟩
        rcases ha with ⟨g1, g2⟩ | ⟨g1, v, g3, g4⟩
        · simp at g1; subst g1
          simp [e0, e2, e8, b0, g2, f1, f2, h0, h1, h2, hmne, PcAt, Acc]
          exact ⟨q2, oq2, ⟨rfl, rfl⟩, m, ⟨ms, by omega, m2⟩, 21, σ.h.cnt 21, by simp, by simp, by simp⟩
        · simp at g1
          simp [e0, e2, e8, b0, g3, g4, g1, f1, f2, h0, h1, h2, hmne, PcAt, Acc]
          exact ⟨q2, oq2, ⟨rfl, rfl⟩, m, ⟨ms, by omega, m2⟩, 21, σ.h.cnt 21, by simp, by simp, by simp⟩
      rintro τ ⟨q', m, oq', hat, ⟨ms, m1, m2⟩, d, v, hd, e7, bm⟩
      obtain ⟨e0, e2, e8, b0, ha⟩ := hat
      have hmne : m ≠ [] := by rintro rfl; simp at m2
      have hd0 : d ≠ 0 ∧ d ≠ 61 := by omega
      have hw2 := wrap64 (n := (l.length : Int) + m.length) (by omega) (by omega)
      have r2 : l.length + m.length ≤ room := by unfold room; omega
      have r3 : m.length ≤ room := by unfold room; omega
      have hwm := wrap64 (n := (m.length : Int)) (by omega) (by omega)
      rcases ha with ⟨g1, g2⟩ | ⟨g1, v', g3, g4⟩
      · simp at g1; subst g1
        have h3 : m.length < 23 := by omega
        have h3' : (m.length : Int) < 23 := by omega
        simp [e0, e2, e8, b0, e7, bm, g2, hwm, hmne, hd0, r3, h3, h3']
        exact ⟨q', oq', m, ⟨by simp [e0], by simp [e2], by simp [e8], by simp [b0, hd0], Or.inr ⟨by simpa using hmne, τ.h.cnt 61, by simp, by simp⟩⟩, by omega, ms⟩
      · simp at g1
        by_cases h3 : l.length + m.length < 23
        · have h3' : (l.length : Int) + m.length < 23 := by omega
          simp [e0, e2, e8, b0, e7, bm, g3, g4, g1, hw2, hmne, hd0, r2, h3, h3']
          exact ⟨q', oq', l ++ m, ⟨by simp [e0], by simp [e2], by simp [e8], by simp [b0, hd0], Or.inr ⟨by simp [g1], τ.h.cnt 61, by simp, by simp⟩⟩, by simp; omega, small_app ls ms⟩
        · have h3' : ¬ (l.length : Int) + m.length < 23 := by omega
          simp [e0, e2, e8, b0, e7, bm, g3, g4, g1, hw2, hmne, hd0, r2, h3, h3']
          exact ⟨q', oq', l, ⟨by simp [e0], by simp [e2], by simp [e8], by simp [b0], Or.inr ⟨by simpa using g1, v', by simp [g3], by simpa using g4⟩⟩, l2, ls⟩
    rintro τ ⟨q', l', oq', hat, l2', ls'⟩
    obtain ⟨e0, e2, e8, b0, ha⟩ := hat
    rcases ha with ⟨g1, g2⟩ | ⟨g1, v', g3, g4⟩
    · simp at g1; subst g1
      simp [e0, e2, e8, b0, g2, hw, hsub, PcAt]
      exact ⟨q', oq', [], ⟨⟨rfl, rfl⟩, Or.inl ⟨rfl, rfl⟩⟩, by simp, by simp⟩
    · simp at g1
      simp [e0, e2, e8, b0, g3, g4, hw, hsub, PcAt]
      exact ⟨q', oq', l', ⟨⟨rfl, rfl⟩, Or.inr ⟨by simpa using g1, v', by simp, g4⟩⟩, l2', ls'⟩
  · rintro σ ⟨q, l, oq, hat, l2, ls⟩
    obtain ⟨e0, e2, e8, b0, ha⟩ := hat
    have hx : Inst.Small ⟨0, 0, 0, 0⟩ := by simp only [Inst.Small]; omega
    have r2 : l.length + 1 ≤ room := by unfold room; omega
    rcases ha with ⟨g1, g2⟩ | ⟨g1, v, g3, g4⟩
    · simp at g1; subst g1
      simp [e0, e2, e8, b0, g2, room]
      exact ⟨[⟨0, 0, 0, 0⟩], q, ⟨rfl, rfl, rfl⟩, oq, by simp, small_one hx⟩
    · simp [e0, e2, e8, b0, g3, g4, r2]
      exact ⟨l ++ [⟨0, 0, 0, 0⟩], q, ⟨by simp, rfl, rfl⟩, oq, by simp; omega, small_app ls (small_one hx)⟩
end Fo.W
set_option maxRecDepth 100000
set_option linter.unusedVariables false
set_option linter.unusedSimpArgs false
namespace Fo.W
open Go Fo
theorem w19 (p : Pk) (hp : p.Ok) (rank locks : Int) (hr : 0 ≤ rank ∧ rank ≤ 1000) (hl : 0 ≤ locks ∧ locks ≤ 100) : ∃ (t : Task) (q : Pk), C 19 [.pbox p.row 0, i64 rank, i64 locks] = some (.agg (Task.row .sl t), [Pk.row q]) ∧ q.Ok ∧ t.rank = rank ∧ (20 ≤ t.period ∧ t.period ≤ 130) ∧ (t.period - 9 ≤ t.fin ∧ t.fin ≤ t.period) ∧
    (1 ≤ t.main.length ∧ t.main.length ≤ 24) ∧ t.way.length ≤ 2 ∧ t.opt.length ≤ 24 ∧ (∀ x ∈ t.main, Inst.Small x) ∧ (∀ x ∈ t.way, Inst.Small x) ∧ (∀ x ∈ t.opt, Inst.Small x) := by
  obtain ⟨l, p1, e1, o1, ⟨l1, l2⟩, ls⟩ := w41 p hp locks hl
  obtain ⟨a, p2, e2, o2, a0, a1⟩ := w18 p1 o1 12 (by omega)
  obtain ⟨b, p3, e3, o3, b0, b1⟩ := w18 p2 o2 10 (by omega)
  obtain ⟨c, p4, e4, o4, c0, c1⟩ := w18 p3 o3 3 (by omega)
  simp at e1 e2 e3 e4
  have hne : l ≠ [] := by rintro rfl; simp at l2
  have hw1 := wrap64 (n := 10 * a) (by omega) (by omega)
  have hw2 := wrap64 (n := 20 + 10 * a) (by omega) (by omega)
  have hw3 := wrap64 (n := 20 + 10 * a - b) (by omega) (by omega)
  have s1 : Inst.Small ⟨1, 0, 0, 99⟩ := by simp only [Inst.Small]; omega
  have s2 : Inst.Small ⟨0, 0, 0, 0⟩ := by simp only [Inst.Small]; omega
  by_cases hc : c = 0
  · subst hc
    obtain ⟨d, p5, e5, o5, d0, d1⟩ := w18 p4 o4 2 (by omega)
    obtain ⟨e, p6, e6, o6, e0', e1'⟩ := w18 p5 o5 3 (by omega)
    simp at e5 e6
    have hd : d = 0 ∨ d = 1 := by omega
    by_cases he : e = 0
    · subst he
      obtain ⟨m, p7, e7, o7, ⟨m1, m2⟩, ms⟩ := w41 p6 o6 0 (by omega)
      have hmne : m ≠ [] := by rintro rfl; simp at m2
      simp at e7
      rcases hd with rfl | rfl
      · refine ⟨⟨rank, 20 + 10 * a, 20 + 10 * a - b, l, [⟨1, 0, 0, 99⟩, ⟨0, 0, 0, 0⟩], m⟩, p7, ?_, o7, rfl, by simp; omega, by simp; omega, ⟨l2, l1⟩, by simp, m1, ls, small_cons s1 (small_one s2), ms⟩
        refine c_eq rfl rfl rfl ?_
        simp [F19, giveS, e1, e2, e3, e4, e5, e6, e7, hw1, hw2, hw3, hne, hmne]
      · refine ⟨⟨rank, 20 + 10 * a, 20 + 10 * a - b, l, [⟨0, 0, 0, 0⟩], m⟩, p7, ?_, o7, rfl, by simp; omega, by simp; omega, ⟨l2, l1⟩, by simp, m1, ls, small_one s2, ms⟩
        refine c_eq rfl rfl rfl ?_
        simp [F19, giveS, e1, e2, e3, e4, e5, e6, e7, hw1, hw2, hw3, hne, hmne]
    · rcases hd with rfl | rfl
      · refine ⟨⟨rank, 20 + 10 * a, 20 + 10 * a - b, l, [⟨1, 0, 0, 99⟩, ⟨0, 0, 0, 0⟩], []⟩, p6, ?_, o6, rfl, by simp; omega, by simp; omega, ⟨l2, l1⟩, by simp, by simp, ls, small_cons s1 (small_one s2), by simp⟩
        refine c_eq rfl rfl rfl ?_
        simp [F19, giveS, e1, e2, e3, e4, e5, e6, he, hw1, hw2, hw3, hne]
      · refine ⟨⟨rank, 20 + 10 * a, 20 + 10 * a - b, l, [⟨0, 0, 0, 0⟩], []⟩, p6, ?_, o6, rfl, by simp; omega, by simp; omega, ⟨l2, l1⟩, by simp, by simp, ls, small_one s2, by simp⟩
        refine c_eq rfl rfl rfl ?_
        simp [F19, giveS, e1, e2, e3, e4, e5, e6, he, hw1, hw2, hw3, hne]
  · obtain ⟨e, p6, e6, o6, e0', e1'⟩ := w18 p4 o4 3 (by omega)
    simp at e6
    by_cases he : e = 0
    · subst he
      obtain ⟨m, p7, e7, o7, ⟨m1, m2⟩, ms⟩ := w41 p6 o6 0 (by omega)
      have hmne : m ≠ [] := by rintro rfl; simp at m2
      simp at e7
      refine ⟨⟨rank, 20 + 10 * a, 20 + 10 * a - b, l, [], m⟩, p7, ?_, o7, rfl, by simp; omega, by simp; omega, ⟨l2, l1⟩, by simp, m1, ls, by simp, ms⟩
      refine c_eq rfl rfl rfl ?_
      simp [F19, giveS, e1, e2, e3, e4, e6, e7, hc, hw1, hw2, hw3, hne, hmne]
    · refine ⟨⟨rank, 20 + 10 * a, 20 + 10 * a - b, l, [], []⟩, p6, ?_, o6, rfl, by simp; omega, by simp; omega, ⟨l2, l1⟩, by simp, by simp, ls, by simp, by simp⟩
      refine c_eq rfl rfl rfl ?_
      simp [F19, giveS, e1, e2, e3, e4, e6, hc, he, hw1, hw2, hw3, hne]
end Fo.W
set_option maxRecDepth 100000
set_option linter.unusedVariables false
set_option linter.unusedSimpArgs false
namespace Fo.W
open Go Fo
theorem w64_pow (v : Int) (k : Nat) : w64 (w64 (v * 2 ^ k) * 2) = w64 (v * 2 ^ (k + 1)) := by
  refine w64_congr ?_
  rw [Int.pow_succ, ← Int.mul_assoc]
  simp only [w64, IntKind.wrap_i64]
  omega
theorem shift_up (v : Int) (n : Nat) (hn : n ≤ 63) : shift v n = w64 (v * 2 ^ n) := by
  unfold shift
  rw [if_neg (by omega), if_neg (by omega)]
  have e : min ((n : Int)).toNat 64 = n := by omega
  rw [e]
  refine w64_congr ?_
  simp only [IntKind.wrap_u64, Int.emod_emod_of_dvd _ (Int.dvd_refl _)]
  rw [Int.mul_emod, Int.emod_emod_of_dvd _ (Int.dvd_refl _), ← Int.mul_emod]
theorem shift_down (v : Int) (n : Nat) (hn : n ≤ 63) (h0 : 0 < n) : shift v (-n) = v / 2 ^ n := by
  unfold shift
  rw [if_neg (by omega), if_pos (by omega)]
  have e : min (-(-(n : Int))).toNat 64 = n := by omega
  rw [e]
  exact Int.fdiv_eq_ediv_of_nonneg _ (by exact Int.pow_nonneg (by omega))
theorem half (x : Int) : x / 2 = if x < 0 ∧ x.tmod 2 ≠ 0 then x.tdiv 2 - 1 else x.tdiv 2 := by
  by_cases h : 0 ≤ x
  · rw [if_neg (by omega), Int.tdiv_eq_ediv_of_nonneg h]
  · obtain ⟨y, rfl⟩ : ∃ y, x = -y := ⟨-x, by omega⟩
    rw [Int.neg_tmod, Int.neg_tdiv, Int.tdiv_eq_ediv_of_nonneg (by omega), Int.tmod_eq_emod_of_nonneg (by omega)]
    split <;> omega
theorem ediv_pow (v : Int) (k : Nat) : v / 2 ^ (k + 1) = v / 2 ^ k / 2 := by
  rw [Int.pow_succ, Int.ediv_ediv_of_nonneg (Int.pow_nonneg (by omega))]
theorem pow_bnd (v : Int) (k : Nat) (h : -9223372036854775808 ≤ v ∧ v ≤ 9223372036854775807) : -9223372036854775808 ≤ v / 2 ^ k ∧ v / 2 ^ k ≤ 9223372036854775807 := by
  induction k with
  | zero => simpa using h
  | succ k ih => rw [ediv_pow]; omega
theorem w298 (v n : Int) (hv : -9223372036854775808 ≤ v ∧ v ≤ 9223372036854775807) : C 298 [i64 v, i64 n] = some (i64 (shift v n), []) := by
  refine c_eq rfl rfl rfl ?_
  by_cases h : n < -63
  · have e : shift v n = v := by unfold shift; rw [if_pos (by omega)]
    simp [F298, h, e]
  by_cases h2 : 63 < n
  · have e : shift v n = v := by unfold shift; rw [if_pos (by omega)]
    simp [F298, h, h2, e]
  by_cases h3 : 0 ≤ n
  · obtain ⟨N, rfl⟩ : ∃ N : Nat, n = N := ⟨n.toNat, by omega⟩
    rw [shift_up v N (by omega)]
    simp [F298, h, h2]
    refine wp_inv N (fun k σ => σ.env 0 = i64 (w64 (v * 2 ^ k)) ∧ σ.env 1 = i64 ((N : Int) - k)) ?_ ?_ ?_
    · have := wrap64 (n := v) (by omega) (by omega)
      simp [this]
    · rintro k σ hk ⟨e0, e1⟩
      have hw := wrap64 (n := (N : Int) - k - 1) (by omega) (by omega)
      have hs : (N : Int) - (k + 1) = N - k - 1 := by omega
      have hp : (k : Int) < N := by omega
      have hp' : 0 < (N : Int) - k := by omega
      have hq := w64_pow v k
      simp only [w64] at hq
      simp [e0, e1, hw, hs, hp, hp', hq]
    · rintro σ ⟨e0, e1⟩
      simp at e1
      simp [e0, e1]
      refine wp_inv 0 (fun k σ => σ.env 0 = i64 (w64 (v * 2 ^ N)) ∧ σ.env 1 = i64 0) ?_ ?_ ?_
      · simp [e0, e1]
      · intro k σ hk; omega
      · rintro σ ⟨e0, e1⟩
        simp [e0, e1]
  · obtain ⟨N, rfl⟩ : ∃ N : Nat, n = -N := ⟨(-n).toNat, by omega⟩
    rw [shift_down v N (by omega) (by omega)]
    have hn1 : ¬ ((N : Int) < 0) := by omega
    simp [F298, h, h2]
    refine wp_inv 0 (fun k σ => σ.env 0 = i64 v ∧ σ.env 1 = i64 (-(N : Int))) ?_ ?_ ?_
    · simp
    · intro k σ hk; omega
    · rintro σ ⟨e0, e1⟩
      simp [e0, e1, hn1]
      refine wp_inv N (fun k σ => σ.env 0 = i64 (v / 2 ^ k) ∧ σ.env 1 = i64 ((k : Int) - N)) ?_ ?_ ?_
      · simp [e0, e1]
      · rintro k σ hk ⟨e0, e1⟩
        have hw := wrap64 (n := (k : Int) - N + 1) (by omega) (by omega)
        have hs : (k : Int) + 1 - N = k - N + 1 := by omega
        have hp' : (k : Int) - N < 0 := by omega
        have hp : (k : Int) < N := by omega
        have hb := pow_bnd v k hv
        have hh := half (v / 2 ^ k)
        rw [← ediv_pow] at hh
        have hyx := ediv_pow v k
        have hd := Int.tmod_def (v / 2 ^ k) 2
        generalize v / 2 ^ k = x at *
        generalize v / 2 ^ (k + 1) = y at *
        by_cases g1 : x < 0
        · by_cases g2 : x.tmod 2 = 0
          · have hy : y = x.tdiv 2 := by rw [hh, if_neg (by simp [g2])]
            have hwy : IntKind.i64.wrap y = y := wrap64 (by omega) (by omega)
            rw [hy] at hwy
            simp [e0, e1, hw, hs, hp, hp', g1, g2, cf_bin, binInt, hwy, hy]
          · have hy : y = x.tdiv 2 - 1 := by rw [hh, if_pos ⟨g1, g2⟩]
            have hwy : IntKind.i64.wrap (x.tdiv 2) = x.tdiv 2 := wrap64 (by omega) (by omega)
            have hwy2 : IntKind.i64.wrap (x.tdiv 2 - 1) = x.tdiv 2 - 1 := wrap64 (by omega) (by omega)
            have hwm : IntKind.i64.wrap (x.tmod 2) = x.tmod 2 := wrap64 (by omega) (by omega)
            have g2' : (x.tmod 2 != 0) = true := by simpa using g2
            simp [e0, e1, hw, hs, hp, hp', g1, g2', cf_bin, binInt, hwy, hwy2, hwm, hy]
        · have hy : y = x.tdiv 2 := by rw [hh, if_neg (by simp [g1])]
          have hwy : IntKind.i64.wrap y = y := wrap64 (by omega) (by omega)
          rw [hy] at hwy
          simp [e0, e1, hw, hs, hp, hp', g1, cf_bin, binInt, hwy, hy]
      · rintro σ ⟨e0, e1⟩
        simp at e1
        simp [e0, e1]
theorem w158 (a : Int) : C 158 [.agg [i64 8], i64 a] = some (.bool (decide (0 ≤ a ∧ a < 8)), []) := by
  refine c_eq rfl rfl rfl ?_
  by_cases h : 0 ≤ a <;> simp [F158, h]
set_option maxHeartbeats 4000000 in
theorem w94 (i : Inst) : C 94 [.agg i.row] = some (.bool (mayInst i), []) := by
  refine c_eq rfl rfl rfl ?_
  obtain ⟨op, a, b, n⟩ := i
  simp only [F94]
  by_cases h : op = 0 ∨ op = 11
  · rcases h with rfl | rfl <;> by_cases ha : a = 0 <;> by_cases hb : b = 0 <;> simp [mayInst, ha, hb]
  by_cases h1 : op = 1
  · subst h1; by_cases ha : 0 ≤ a ∧ a < 8 <;> by_cases hb : b = 0 <;> by_cases hc : -2147483648 ≤ n <;> simp [mayInst, w158, ha, hb, hc]
    omega
  by_cases h2 : op = 2 ∨ op = 3 ∨ op = 4
  · rcases h2 with rfl | rfl | rfl <;> by_cases ha : 0 ≤ a ∧ a < 8 <;> by_cases hb : 0 ≤ b ∧ b < 8 <;> simp [mayInst, w158, ha, hb]
  by_cases h3 : op = 5
  · subst h3; by_cases ha : 0 ≤ a ∧ a < 8 <;> by_cases hb : b = 0 <;> by_cases hc : -63 ≤ n <;> simp [mayInst, w158, ha, hb, hc]
  by_cases h4 : op = 6
  · subst h4; by_cases ha : 0 ≤ a ∧ a < 8 <;> by_cases hb : b = 0 <;> by_cases hc : 1 ≤ n <;> simp [mayInst, w158, ha, hb, hc]
  by_cases h5 : op = 7
  · subst h5; by_cases ha : 0 ≤ a ∧ a < 8 <;> by_cases hb : b = 0 <;> by_cases hc : 1 ≤ n <;> simp [mayInst, w158, ha, hb, hc]
  by_cases h6 : op = 8
  · subst h6; by_cases ha : a = 0 <;> by_cases hb : 1 ≤ b <;> by_cases hd : b ≤ 24 <;> by_cases hc : 1 ≤ n <;> simp [mayInst, ha, hb, hc, hd]
    all_goals trace_state
  by_cases h7 : op = 9 ∨ op = 10
  · rcases h7 with rfl | rfl <;> by_cases ha : 0 ≤ a <;> by_cases hd : a < 4 <;> by_cases hb : b = 0 <;> simp [mayInst, ha, hb, hd]
    all_goals (first | omega | trace_state)
  simp at h h2 h7
  simp [mayInst, h, h1, h2, h3, h4, h5, h6, h7]
end Fo.W
set_option maxRecDepth 100000
set_option linter.unusedVariables false
set_option linter.unusedSimpArgs false
namespace Fo.W
open Go Fo
theorem pow_step (k : Nat) : (2 : Int) ^ (k + 1) = 2 * 2 ^ k := by rw [Int.pow_succ, Int.mul_comm]
theorem pow_pos2 (k : Nat) : (0 : Int) < 2 ^ k := Int.pow_pos (by omega)
theorem pow_le63 : ∀ k : Nat, k ≤ 63 → (2 : Int) ^ k ≤ 9223372036854775808 := by
  intro k hk
  have : ∀ m k : Nat, k + m = 63 → (2 : Int) ^ k ≤ 9223372036854775808 := by
    intro m
    induction m with
    | zero => intro k hk; obtain rfl : k = 63 := by omega
              decide
    | succ m ih => intro k hk; have := ih (k + 1) (by omega); rw [pow_step] at this; have := pow_pos2 k; omega
  exact this (63 - k) k (by omega)
theorem w330 (N : Nat) (h : N ≤ 63) : C 330 [i64 N] = some (.int .u64 (2 ^ N), []) := by
  refine c_eq rfl rfl rfl ?_
  simp [F330]
  refine wp_inv N (fun k σ => σ.env 3 = .int .u64 (2 ^ k) ∧ σ.env 0 = i64 ((N : Int) - k)) ?_ ?_ ?_
  · simp
  · rintro k σ hk ⟨e3, e0⟩
    have hw := wrap64 (n := (N : Int) - k - 1) (by omega) (by omega)
    have hs : (N : Int) - (k + 1) = N - k - 1 := by omega
    have hp : (k : Int) < N := by omega
    have h1 := pow_le63 (k + 1) (by omega)
    have h2 := pow_step k
    have h3 := pow_pos2 k
    have hu : IntKind.u64.wrap (2 * 2 ^ k) = 2 ^ (k + 1) := by rw [← h2, IntKind.wrap_u64]; omega
    simp [e3, e0, hw, hs, hp, hu, cf_bin, binInt]
  · rintro σ ⟨e3, e0⟩
    simp at e0
    simp [e3, e0]
theorem narrow_eq (v : Int) (n : Nat) (h1 : 1 ≤ n) (h2 : n ≤ 63) : narrow v n = if v % 2 ^ n < 2 ^ (n - 1) then v % 2 ^ n else v % 2 ^ n - 2 ^ n := by
  unfold narrow
  rw [if_neg (by omega)]
  obtain ⟨m, hm⟩ : ∃ m : Nat, n + m = 64 := ⟨64 - n, by omega⟩
  have e : min (64 - (n : Int)).toNat 64 = m := by omega
  rw [e, Int.fdiv_eq_ediv_of_nonneg _ (by have := pow_pos2 m; omega)]
  have p64 : (2 : Int) ^ n * 2 ^ m = 18446744073709551616 := by rw [← Int.pow_add, hm]; decide
  have p63 : (2 : Int) ^ (n - 1) * 2 ^ m = 9223372036854775808 := by rw [← Int.pow_add, show n - 1 + m = 63 by omega]; decide
  have hpm := pow_pos2 m
  have hpn := pow_pos2 n
  have hX : (v * 2 ^ m) % 18446744073709551616 = (v % 2 ^ n) * 2 ^ m := by
    rw [← p64, Int.mul_comm v, Int.mul_comm (2 ^ n), Int.mul_emod_mul_of_pos _ _ hpm, Int.mul_comm]
  have r0 := Int.emod_nonneg v (b := 2 ^ n) (by omega)
  have r1 := Int.emod_lt_of_pos v hpn
  generalize v % 2 ^ n = r at *
  by_cases hr : r < 2 ^ (n - 1)
  · rw [if_pos hr]
    have hz : r * 2 ^ m < 9223372036854775808 := by rw [← p63]; exact Int.mul_lt_mul_of_pos_right hr hpm
    have hz0 : 0 ≤ r * 2 ^ m := Int.mul_nonneg r0 (by omega)
    have hw : w64 (v * 2 ^ m) = r * 2 ^ m := by
      generalize r * 2 ^ m = z at *
      simp only [w64, IntKind.wrap_i64]; omega
    rw [hw, Int.mul_ediv_cancel _ (by omega)]
  · rw [if_neg hr]
    have hz : 9223372036854775808 ≤ r * 2 ^ m := by rw [← p63]; exact Int.mul_le_mul_of_nonneg_right (by omega) (by omega)
    have hz1 : r * 2 ^ m < 18446744073709551616 := by rw [← p64]; exact Int.mul_lt_mul_of_pos_right r1 hpm
    have hw : w64 (v * 2 ^ m) = r * 2 ^ m - 18446744073709551616 := by
      generalize r * 2 ^ m = z at *
      simp only [w64, IntKind.wrap_i64]; omega
    rw [hw, ← p64, ← Int.sub_mul, Int.mul_ediv_cancel _ (by omega)]
theorem w299 (v n : Int) (hv : -9223372036854775808 ≤ v ∧ v ≤ 9223372036854775807) : C 299 [i64 v, i64 n] = some (i64 (narrow v n), []) := by
  refine c_eq rfl rfl rfl ?_
  by_cases h : n < 1
  · simp [F299, h, narrow]
  by_cases h2 : 63 < n
  · have e : narrow v n = v := by
      unfold narrow
      split
      · rfl
      · have e : min (64 - n).toNat 64 = 0 := by omega
        rw [e]
        simp only [w64, IntKind.wrap_i64]
        simp
        omega
    simp [F299, h, h2, e]
  obtain ⟨N, rfl⟩ : ∃ N : Nat, n = N := ⟨n.toNat, by omega⟩
  have hb := w330 N (by omega)
  have hb1 := w330 (N - 1) (by omega)
  have hi : ((N - 1 : Nat) : Int) = N - 1 := by omega
  rw [hi] at hb1
  have hw := wrap64 (n := (N : Int) - 1) (by omega) (by omega)
  have hN := pow_le63 N (by omega)
  have hN0 := pow_pos2 N
  have hN1 := pow_pos2 (N - 1)
  have hs : (2 : Int) ^ N = 2 * 2 ^ (N - 1) := by rw [← pow_step, show N - 1 + 1 = N by omega]
  have hne := narrow_eq v N (by omega) (by omega)
  have hm : (IntKind.u64.wrap v).tmod (2 ^ N) = v % 2 ^ N := by
    rw [Int.tmod_eq_emod_of_nonneg (by rw [IntKind.wrap_u64]; omega), IntKind.wrap_u64]
    refine Int.emod_emod_of_dvd _ ⟨2 ^ (64 - N), ?_⟩
    rw [← Int.pow_add, show N + (64 - N) = 64 by omega]; decide
  have r0 := Int.emod_nonneg v (b := 2 ^ N) (by omega)
  have r1 := Int.emod_lt_of_pos v hN0
  have hz : ¬ (2 : Int) ^ N = 0 := by omega
  have hu : IntKind.u64.wrap (v % 2 ^ N) = v % 2 ^ N := by rw [IntKind.wrap_u64]; omega
  generalize (2 : Int) ^ N = P at *
  generalize (2 : Int) ^ (N - 1) = Q at *
  generalize v % P = r at *
  have hiw : IntKind.i64.wrap r = r := wrap64 (by omega) (by omega)
  by_cases hr : r < Q
  · rw [if_pos hr] at hne
    have hr' : ¬ Q ≤ r := by omega
    simp [F299, h, h2, hb, hb1, hw, hm, hz, hu, hiw, cf_bin, binInt, hr, hr', hne]
  · rw [if_neg hr] at hne
    have hr' : Q ≤ r := by omega
    have hu2 : IntKind.u64.wrap (P - r) = P - r := by rw [IntKind.wrap_u64]; omega
    have hi2 : IntKind.i64.wrap (P - r) = P - r := wrap64 (by omega) (by omega)
    have hi3 : IntKind.i64.wrap (-(P - r)) = r - P := by rw [show -(P - r) = r - P by omega]; exact wrap64 (by omega) (by omega)
    simp [F299, h, h2, hb, hb1, hw, hm, hz, hu, hu2, hi2, hi3, cf_bin, binInt, hr, hr', hne]
end Fo.W
set_option maxRecDepth 100000
set_option linter.unusedVariables false
set_option linter.unusedSimpArgs false
namespace Fo.W
open Go Fo
theorem w244n (l : List Inst) (m : Mach) (hm : m.reps.length ≤ 100000) (hn : nextI l m = none) : C 244 [.sl (RC l), .agg (m.row .sl)] = some (.tup [.agg (m.row .sl), .agg [zz, zz, zz, zz], .bool false], []) := by
  refine c_eq rfl rfl rfl ?_
  obtain ⟨pc, ⟨m0, m1, m2, m3, m4, m5, m6, m7⟩, reps, over⟩ := m
  simp only [F244]
  simp at hm
  have r1 : reps.length ≤ room := by unfold room; omega
  by_cases h0 : reps = []
  · subst h0
    cases over with
    | true => simp [room]
    | false =>
    simp [nextI] at hn
    by_cases c1 : pc < 0
    · simp [room, c1]
    by_cases c2 : l.length ≤ pc
    · simp [room, c1, c2]
    have c3 : 0 ≤ pc := by omega
    have c4 : pc < l.length := by omega
    obtain ⟨x, hx⟩ : ∃ x, l[pc.toNat]? = some x := ⟨l[pc.toNat]'(by omega), by simp⟩
    have hx' := (List.getElem?_eq_some_iff.1 hx).2
    have hq := w94 x
    have hy : mayInst x = false := by simp [c3, hx] at hn; simpa using hn
    rw [hy] at hq
    simp [room, c1, c2, c3, c4, hx, hx', hq]
  · cases over with
    | true => simp [r1, h0]
    | false =>
    simp [nextI] at hn
    by_cases c1 : pc < 0
    · simp [r1, h0, c1]
    by_cases c2 : l.length ≤ pc
    · simp [r1, h0, c1, c2]
    have c3 : 0 ≤ pc := by omega
    have c4 : pc < l.length := by omega
    obtain ⟨x, hx⟩ : ∃ x, l[pc.toNat]? = some x := ⟨l[pc.toNat]'(by omega), by simp⟩
    have hx' := (List.getElem?_eq_some_iff.1 hx).2
    have hq := w94 x
    have hy : mayInst x = false := by simp [c3, hx] at hn; simpa using hn
    rw [hy] at hq
    simp [r1, h0, c1, c2, c3, c4, hx, hx', hq]
def okD (d : Nat) : Prop := d = 10 ∨ d = 13 ∨ d = 169 ∨ d = 218
def StB (l : List Inst) (m : Mach) (n : Nat) (σ : St) : Prop :=
  σ.env 0 = .sl (RC l) ∧ σ.env 3 = .ptr 3 0 0 0 0 ∧ σ.env 4 = .ptr 4 0 0 0 0 ∧ σ.env 5 = .ptr 5 0 0 0 0 ∧
  σ.h.bl 4 0 0 = .box [zz, zz, zz, zz, zz, zz, zz, zz, zz, et, ff] ∧ σ.h.bl 5 0 0 = .box [zz, zz, zz, zz] ∧
  ∃ d v, okD d ∧ σ.h.bl 3 0 0 = .box [i64 m.pc, i64 m.mem.m0, i64 m.mem.m1, i64 m.mem.m2, i64 m.mem.m3, i64 m.mem.m4, i64 m.mem.m5, i64 m.mem.m6, i64 m.mem.m7, .own d v 0 0 n, .bool m.over] ∧ σ.h.bl d v 0 = .rows (R Rep2.row m.reps)
def StI (x : Inst) (σ : St) : Prop := ∃ u, σ.env 7 = .ptr 7 u 0 0 0 ∧ σ.h.bl 7 u 0 = .box [i64 x.op, i64 x.a, i64 x.b, i64 x.n]
theorem w244 (l : List Inst) (m : Mach) (i : Inst) (hl : l.length ≤ 100000) (hm : m.reps.length ≤ 100000) (hr : ∀ a, 0 ≤ a ∧ a < 8 → -9223372036854775808 ≤ m.mem.get a ∧ m.mem.get a ≤ 9223372036854775807) (hn : nextI l m = some i) :
    C 244 [.sl (RC l), .agg (m.row .sl)] = some (.tup [.agg ((goes (exec i m)).row .sl), .agg i.row, .bool true], []) := by
  refine c_eq rfl rfl rfl ?_
  simp only [F244]
  simp only [nextI] at hn
  split at hn
  rotate_left
  · cases hn
  rename_i hc
  split at hn
  rotate_left
  · cases hn
  rename_i x hx
  split at hn
  rotate_left
  · cases hn
  rename_i hy
  cases hn
  have hq := w94 i
  rw [hy] at hq
  have r1 : m.reps.length ≤ room := by unfold room; omega
  have r2 : m.reps.length + 1 ≤ room := by unfold room; omega
  obtain ⟨hlt, hx'⟩ := List.getElem?_eq_some_iff.1 hx
  refine wp_cut (fun σ => σ.env 0 = .sl (RC l) ∧ σ.env 3 = .ptr 3 0 0 0 0 ∧ σ.env 4 = .ptr 4 0 0 0 0 ∧ σ.env 5 = .ptr 5 0 0 0 0 ∧ 
    σ.h.bl 4 0 0 = .box [zz, zz, zz, zz, zz, zz, zz, zz, zz, et, ff] ∧ σ.h.bl 5 0 0 = .box [zz, zz, zz, zz] ∧ σ.h.bl 3 0 0 = .box (m.row .sl)) (by simp) ?_
  rintro σ ⟨e0, e3, e4, e5, b4, b5, b3⟩
  simp at b3
  refine wp_cut (StB l m m.reps.length) ?_ ?_
  · by_cases h0 : m.reps = []
    · simp [e0, e3, e4, e5, b4, b5, b3, h0, room, StB]
      exact ⟨10, .inl rfl, _, ⟨rfl, rfl⟩, by simp⟩
    · simp [e0, e3, e4, e5, b4, b5, b3, h0, r1, StB]
      exact ⟨13, .inr (.inl rfl), _, ⟨rfl, rfl⟩, by simp⟩
  rintro σ ⟨e0, e3, e4, e5, b4, b5, d, v, hd, b3, bd⟩
  have hd3 : d ≠ 3 ∧ d ≠ 4 ∧ d ≠ 5 ∧ d ≠ 7 := by unfold okD at hd; omega
  have c1' : ¬ m.pc < 0 := by omega
  have c2 : ¬ (l.length : Int) ≤ m.pc := by omega
  have c4 : m.pc < l.length := by omega
  have hov : m.over = false := hc.1
  have c0 : 0 ≤ m.pc := hc.2
  refine wp_cut (StB l m m.reps.length) ?_ ?_
  · simp [e0, e3, e4, e5, b4, b5, b3, bd, hov, c1', c2, c4, c0, hx, hx', hq, StB]
    exact ⟨d, hd, v, ⟨rfl, rfl⟩, bd⟩
  rintro σ ⟨e0, e3, e4, e5, b4, b5, d, v, hd, b3, bd⟩
  have hd3 : d ≠ 3 ∧ d ≠ 4 ∧ d ≠ 5 ∧ d ≠ 7 := by unfold okD at hd; omega
  refine wp_cut (fun σ => StB l m m.reps.length σ ∧ StI i σ) ?_ ?_
  · simp [e0, e3, e4, e5, b4, b5, b3, bd, hov, c1', c2, c4, c0, hx, hx', hq, StB, StI]
    exact ⟨d, hd, v, ⟨rfl, rfl⟩, by simp [hd3, bd]⟩
  rintro σ ⟨⟨e0, e3, e4, e5, b4, b5, d, v, hd, b3, bd⟩, ui, e7, b7⟩
  have hd3 : d ≠ 3 ∧ d ≠ 4 ∧ d ≠ 5 ∧ d ≠ 7 := by unfold okD at hd; omega
  have hw := wrap64 (n := m.pc + 1) (by omega) (by omega)
  refine wp_cut (fun σ => StB l m m.reps.length σ ∧ StI i σ ∧ σ.env 8 = i64 (m.pc + 1)) ?_ ?_
  · simp [e0, e3, e4, e5, e7, b4, b5, b3, b7, bd, hw, StB, StI]
    exact ⟨d, hd, v, ⟨rfl, rfl⟩, bd⟩
  rintro σ ⟨⟨e0, e3, e4, e5, b4, b5, d, v, hd, b3, bd⟩, ⟨ui, e7, b7⟩, e8⟩
  refine wp_cut (fun σ => StB l { exec i m with pc := m.pc } (exec i m).reps.length σ ∧ StI i σ ∧ σ.env 8 = i64 (exec i m).pc) ?_ ?_
  · obtain ⟨a0, a1, i0, i1, o0, o1⟩ := may_a hy
    have ma := mem_at ⟨a0, a1⟩
    have aA : 1 + i.a.toNat ≤ 10 := by omega
    have ms := mem_set ⟨a0, a1⟩
    have ops : i.op = 0 ∨ i.op = 1 ∨ i.op = 2 ∨ i.op = 3 ∨ i.op = 4 ∨ i.op = 5 ∨ i.op = 6 ∨ i.op = 7 ∨ i.op = 8 ∨ i.op = 9 ∨ i.op = 10 ∨ i.op = 11 := by omega
    have hsh := w298 (m.mem.get i.a) i.n (hr _ ⟨a0, a1⟩)
    have hna := w299 (m.mem.get i.a) i.n (hr _ ⟨a0, a1⟩)
    have hd3 : d ≠ 3 ∧ d ≠ 4 ∧ d ≠ 5 ∧ d ≠ 7 := by unfold okD at hd; omega
    have hd6 : d ≠ 168 ∧ 168 ≠ d ∧ 3 ≠ d ∧ 4 ≠ d ∧ 5 ≠ d ∧ 7 ≠ d := by unfold okD at hd; omega
    obtain ⟨op, a, b, n⟩ := i
    simp only at *
    rcases ops with rfl | rfl | rfl | rfl | rfl | rfl | rfl | rfl | rfl | rfl | rfl | rfl
    · simp [e0, e3, e4, e5, e7, e8, b4, b5, b3, b7, bd, a0, a1, ma, ms, aA, exec, StB, StI, hd3]
      first | exact ⟨d, hd, v, ⟨rfl, rfl⟩, by simp [hd3, bd]⟩ | exact ⟨d, hd, v, ⟨rfl, rfl⟩, bd⟩
    · simp [e0, e3, e4, e5, e7, e8, b4, b5, b3, b7, bd, a0, a1, ma, ms, aA, exec, StB, StI, hd3]
      first | exact ⟨d, hd, v, ⟨rfl, rfl⟩, by simp [hd3, bd]⟩ | exact ⟨d, hd, v, ⟨rfl, rfl⟩, bd⟩
    · have b8 := may_b hy (by simp)
      have mb' := mem_at ⟨i0, b8⟩
      simp [e0, e3, e4, e5, e7, e8, b4, b5, b3, b7, bd, a0, a1, ma, ms, aA, exec, StB, StI, hd3, i0, b8, mb', cf_bin, binInt]
      first | exact ⟨d, hd, v, ⟨rfl, rfl⟩, by simp [hd3, bd]⟩ | exact ⟨d, hd, v, ⟨rfl, rfl⟩, bd⟩
    · have b8 := may_b hy (by simp)
      have mb' := mem_at ⟨i0, b8⟩
      simp [e0, e3, e4, e5, e7, e8, b4, b5, b3, b7, bd, a0, a1, ma, ms, aA, exec, StB, StI, hd3, i0, b8, mb', cf_bin, binInt]
      first | exact ⟨d, hd, v, ⟨rfl, rfl⟩, by simp [hd3, bd]⟩ | exact ⟨d, hd, v, ⟨rfl, rfl⟩, bd⟩
    · have b8 := may_b hy (by simp)
      have mb' := mem_at ⟨i0, b8⟩
      simp [e0, e3, e4, e5, e7, e8, b4, b5, b3, b7, bd, a0, a1, ma, ms, aA, exec, StB, StI, hd3, i0, b8, mb', cf_bin, binInt]
      first | exact ⟨d, hd, v, ⟨rfl, rfl⟩, by simp [hd3, bd]⟩ | exact ⟨d, hd, v, ⟨rfl, rfl⟩, bd⟩
    · simp [e0, e3, e4, e5, e7, e8, b4, b5, b3, b7, bd, a0, a1, ma, ms, aA, exec, StB, StI, hd3, hsh]
      first | exact ⟨d, hd, v, ⟨rfl, rfl⟩, by simp [hd3, bd]⟩ | exact ⟨d, hd, v, ⟨rfl, rfl⟩, bd⟩
    · simp [e0, e3, e4, e5, e7, e8, b4, b5, b3, b7, bd, a0, a1, ma, ms, aA, exec, StB, StI, hd3, hna]
      first | exact ⟨d, hd, v, ⟨rfl, rfl⟩, by simp [hd3, bd]⟩ | exact ⟨d, hd, v, ⟨rfl, rfl⟩, bd⟩
    · have hn := may_n7 hy
      have hw2 := wrap64 (n := m.pc + 1 + n) (by omega) (by omega)
      by_cases hz : m.mem.get a = 0
      · simp [e0, e3, e4, e5, e7, e8, b4, b5, b3, b7, bd, a0, a1, ma, ms, aA, exec, StB, StI, hd3, hz, hw2]
        first | exact ⟨d, hd, v, ⟨rfl, rfl⟩, by simp [hd3, bd]⟩ | exact ⟨d, hd, v, ⟨rfl, rfl⟩, bd⟩
      · simp [e0, e3, e4, e5, e7, e8, b4, b5, b3, b7, bd, a0, a1, ma, ms, aA, exec, StB, StI, hd3, hz]
        first | exact ⟨d, hd, v, ⟨rfl, rfl⟩, by simp [hd3, bd]⟩ | exact ⟨d, hd, v, ⟨rfl, rfl⟩, bd⟩
    · have hn := may_n8 hy
      have hw2 := wrap64 (n := m.pc + b) (by omega) (by omega)
      have hw3 := wrap64 (n := n - 1) (by omega) (by omega)
      by_cases h0 : m.reps = []
      · simp [e0, e3, e4, e5, e7, e8, b4, b5, b3, b7, bd, a0, a1, ma, ms, aA, exec, StB, StI, hd3, hw2, hw3, r1, r2, h0, hd6, room]
        exact ⟨169, .inr (.inr (.inl rfl)), _, ⟨rfl, rfl⟩, by simp⟩
      · simp [e0, e3, e4, e5, e7, e8, b4, b5, b3, b7, bd, a0, a1, ma, ms, aA, exec, StB, StI, hd3, hw2, hw3, r1, r2, h0, hd6]
        exact ⟨169, .inr (.inr (.inl rfl)), _, ⟨rfl, rfl⟩, by simp⟩
    · simp [e0, e3, e4, e5, e7, e8, b4, b5, b3, b7, bd, a0, a1, ma, ms, aA, exec, StB, StI, hd3]
      first | exact ⟨d, hd, v, ⟨rfl, rfl⟩, by simp [hd3, bd]⟩ | exact ⟨d, hd, v, ⟨rfl, rfl⟩, bd⟩
    · simp [e0, e3, e4, e5, e7, e8, b4, b5, b3, b7, bd, a0, a1, ma, ms, aA, exec, StB, StI, hd3]
      first | exact ⟨d, hd, v, ⟨rfl, rfl⟩, by simp [hd3, bd]⟩ | exact ⟨d, hd, v, ⟨rfl, rfl⟩, bd⟩
    · simp [e0, e3, e4, e5, e7, e8, b4, b5, b3, b7, bd, a0, a1, ma, ms, aA, exec, StB, StI, hd3]
      first | exact ⟨d, hd, v, ⟨rfl, rfl⟩, by simp [hd3, bd]⟩ | exact ⟨d, hd, v, ⟨rfl, rfl⟩, bd⟩
  clear e0 e3 e4 e5 b4 b5 b3 bd e7 b7 e8 hd
  have hx8 := exec_reps i m
  generalize exec i m = M at *
  rintro σ ⟨⟨e0, e3, e4, e5, b4, b5, d, v, hd, b3, bd⟩, ⟨ui, e7, b7⟩, e8⟩
  have hd3 : d ≠ 3 ∧ d ≠ 4 ∧ d ≠ 5 ∧ d ≠ 7 := by unfold okD at hd; omega
  refine wp_cut (fun σ => StB l M M.reps.length σ ∧ StI i σ) ?_ ?_
  · simp at b3 bd
    simp [e0, e3, e4, e5, e7, e8, b4, b5, b3, b7, bd, hd3, StB, StI]
    exact ⟨d, hd, v, ⟨rfl, rfl⟩, by simp [hd3, bd]⟩
  clear e0 e3 e4 e5 b4 b5 b3 bd e7 b7 e8 hd
  rintro σ ⟨⟨e0, e3, e4, e5, b4, b5, d, v, hd, b3, bd⟩, ⟨ui, e7, b7⟩⟩
  refine wp_cut (fun σ => StI i σ ∧ σ.env 4 = .ptr 4 0 0 0 0 ∧ σ.env 5 = .ptr 5 0 0 0 0 ∧ σ.env 3 = .ptr 3 0 0 0 0 ∧ σ.h.bl 4 0 0 = .box [zz, zz, zz, zz, zz, zz, zz, zz, zz, et, ff] ∧ σ.h.bl 5 0 0 = .box [zz, zz, zz, zz] ∧
    ∃ d v rows, okD d ∧ σ.h.bl 3 0 0 = .box [i64 (goes M).pc, i64 M.mem.m0, i64 M.mem.m1, i64 M.mem.m2, i64 M.mem.m3, i64 M.mem.m4, i64 M.mem.m5, i64 M.mem.m6, i64 M.mem.m7, .own d v 0 0 (goes M).reps.length, .bool M.over] ∧ σ.h.bl d v 0 = .rows (R Rep2.row rows) ∧ rows.take (goes M).reps.length = (goes M).reps) ?_ ?_
  · rw [wp_block]
    refine wp_down (fun n σ => n ≤ M.reps.length ∧ goesN M.pc M.reps n = goesN M.pc M.reps M.reps.length ∧ StB l M n σ ∧ StI i σ) M.reps.length ?_ ?_
    · exact ⟨Nat.le_refl _, rfl, ⟨e0, e3, e4, e5, b4, b5, d, v, hd, b3, bd⟩, ui, e7, b7⟩
    · clear e0 e3 e4 e5 b4 b5 b3 bd e7 b7 hd
      rintro n σ ⟨hn, hg, ⟨e0, e3, e4, e5, b4, b5, d, v, hd, b3, bd⟩, ui, e7, b7⟩
      have hd3 : d ≠ 3 ∧ d ≠ 4 ∧ d ≠ 5 ∧ d ≠ 7 ∧ d ≠ 9 := by unfold okD at hd; omega
      have hgp : (goes M).pc = (goesN M.pc M.reps n).1 := by rw [hg]; rfl
      have hgr : (goes M).reps = (goesN M.pc M.reps n).2 := by rw [hg]; rfl
      rw [hgp, hgr]
      cases n with
      | zero =>
        simp [e0, e3, e4, e5, e7, b4, b5, b3, b7, bd, goesN, StI]
        exact ⟨d, hd, v, ⟨rfl, rfl⟩, _, bd⟩
      | succ n =>
        have hlt : n < M.reps.length := by omega
        have hw := wrap64 (n := (n : Int) + 1 - 1) (by omega) (by omega)
        have hw' : IntKind.i64.wrap ((n : Int)) = n := wrap64 (by omega) (by omega)
        have hp : (0 : Int) < (n : Int) + 1 := by omega
        have hx : M.reps[n]? = some M.reps[n] := by simp [hlt]
        have hle : (n : Int) < (n : Int) + 1 := by omega
        have hle2 : ¬ ((n : Int) + 1 ≤ n) := by omega
        have hle3 : (n : Int) ≤ (n : Int) + 1 := by omega
        have hle4 : n ≤ M.reps.length := by omega
        have hall := R_all (f := Rep2.row) (l := M.reps) (n := 3) (fun _ => rfl)
        have hd6 : d ≠ 217 ∧ 217 ≠ d ∧ 3 ≠ d ∧ 4 ≠ d ∧ 5 ≠ d ∧ 7 ≠ d ∧ 9 ≠ d := by unfold okD at hd; omega
        have hrm : n + 1 ≤ room := by unfold room; omega
        have hlt' : n + 1 ≤ M.reps.length := hlt
        have hdu2 : d = 10 ∨ d = 13 ∨ d = 168 ∨ d = 169 ∨ d = 218 := by unfold okD at hd; omega
        have hdu : d = 10 ∨ d = 13 ∨ d = 168 ∨ d = 169 ∨ d = 217 ∨ d = 218 := by unfold okD at hd; omega
        generalize hr' : M.reps[n] = r at hx
        by_cases c1 : r.last < M.pc
        · by_cases c2 : 0 < r.left
          · simp [e0, e3, e4, e5, e7, b4, b5, b3, b7, bd, hw, hw', hp, hx, hle, hlt, hr', c1, c2, goesN, hle2, hle3, hle4, hd3, hd6, hrm, hlt', hdu, hdu2, StI]
            refine ⟨d, hd, v, ⟨rfl, rfl⟩, M.reps.take n ++ ⟨r.first, r.last, w64 (r.left - 1)⟩ :: M.reps.drop (n + 1), ?_, ?_⟩
            · simp [hd3, R, List.map_append, List.map_take, List.map_drop]
            · have e1 : (M.reps.take n).length = n := by simp; omega
              have e2 : M.reps.take n ++ (⟨r.first, r.last, w64 (r.left - 1)⟩ : Rep2) :: M.reps.drop (n + 1) = (M.reps.take n ++ [⟨r.first, r.last, w64 (r.left - 1)⟩]) ++ M.reps.drop (n + 1) := by simp
              rw [e2]
              exact List.take_left' (by simp [e1])
          · simp [e0, e3, e4, e5, e7, b4, b5, b3, b7, bd, hw, hw', hp, hx, hle, hlt, hr', c1, c2, goesN, hle2, hle3, hle4, hd3, hdu, StI, StB]
            exact ⟨n, by omega, by omega, by rw [← hg]; simp [goesN, hx, c1, c2], d, hd, v, ⟨rfl, rfl, rfl⟩, by simp [hd3, bd]⟩
        · simp [e0, e3, e4, e5, e7, b4, b5, b3, b7, bd, hw, hw', hp, hx, hle, hlt, hr', c1, goesN, hd3, hdu, StI]
          exact ⟨d, hd, v, ⟨rfl, rfl, by omega⟩, _, bd, by rw [Nat.min_eq_left (by omega)]⟩
  clear e0 e3 e4 e5 b4 b5 b3 bd e7 b7 hd
  rintro σ ⟨⟨ui, e7, b7⟩, e4, e5, e3, b4, b5, d, v, rows, hd, b3, bd, ht⟩
  have hd3 : d ≠ 3 ∧ d ≠ 4 ∧ d ≠ 5 ∧ d ≠ 7 := by unfold okD at hd; omega
  have hlen : (goes M).reps.length ≤ rows.length := by have := congrArg List.length ht; simp at this; omega
  have hG : goes M = ⟨(goes M).pc, M.mem, (goes M).reps, M.over⟩ := rfl
  rw [hG]
  generalize (goes M).pc = gp at *
  generalize (goes M).reps = gr at *
  by_cases h0 : gr.length = rows.length
  · have : rows = gr := by rw [← ht, h0, List.take_length]
    subst this
    simp [e3, e4, e5, e7, b3, b4, b5, b7, bd, hd3]
    unfold okD at hd; omega
  · simp [e3, e4, e5, e7, b3, b4, b5, b7, bd, hd3, h0, giveS, ht]
    unfold okD at hd; omega
end Fo.W
set_option maxRecDepth 100000
set_option linter.unusedVariables false
set_option linter.unusedSimpArgs false
namespace Fo.W
open Go Fo
theorem w63r (l : List Int) (hl : l.length ≤ 1000000) : C 63 [.sl (RI l), .sl (RI l)] = some (.bool true, []) := by
  refine c_eq rfl rfl rfl ?_
  simp [F63]
  refine wp_inv l.length (fun k σ => σ.env 0 = .sl (RI l) ∧ σ.env 1 = .sl (RI l) ∧ σ.env 5 = i64 k) ?_ ?_ ?_
  · simp
  · rintro k σ hk ⟨e0, e1, e5⟩
    have hw := wrap64 (n := (k : Int) + 1) (by omega) (by omega)
    obtain ⟨x, hx⟩ : ∃ x, l[k]? = some x := ⟨l[k], by simp [hk]⟩
    have hx' := (List.getElem?_eq_some_iff.1 hx).2
    simp [e0, e1, e5, hk, hw, hx, hx']
  · rintro σ ⟨e0, e1, e5⟩
    simp [e0, e1, e5]
theorem w1005r (l : List Sema) (hl : l.length ≤ 1000000) : C 1005 [.sl (RS l), .sl (RS l)] = some (.bool true, []) := by
  refine c_eq rfl rfl rfl ?_
  simp [F1005]
  refine wp_inv l.length (fun k σ => σ.env 0 = .sl (RS l) ∧ σ.env 1 = .sl (RS l) ∧ σ.env 5 = i64 k) ?_ ?_ ?_
  · simp
  · rintro k σ hk ⟨e0, e1, e5⟩
    have hw := wrap64 (n := (k : Int) + 1) (by omega) (by omega)
    obtain ⟨x, hx⟩ : ∃ x, l[k]? = some x := ⟨l[k], by simp [hk]⟩
    have hx' := (List.getElem?_eq_some_iff.1 hx).2
    simp [e0, e1, e5, hk, hw, hx, hx']
  · rintro σ ⟨e0, e1, e5⟩
    simp [e0, e1, e5]
theorem w114r (m : Mach) (hm : m.reps.length ≤ 1000000) : C 114 [.agg (m.row .sl), .agg (m.row .sl)] = some (.bool true, []) := by
  refine c_eq rfl rfl rfl ?_
  obtain ⟨pc, ⟨m0, m1, m2, m3, m4, m5, m6, m7⟩, reps, over⟩ := m
  simp only at hm
  simp [F114]
  refine wp_inv reps.length (fun k σ => σ.env 2 = .ptr 2 0 0 0 0 ∧ σ.env 3 = .ptr 3 0 0 0 0 ∧ σ.env 5 = i64 k ∧
    σ.h.bl 2 0 0 = .box [i64 pc, i64 m0, i64 m1, i64 m2, i64 m3, i64 m4, i64 m5, i64 m6, i64 m7, .sl (R Rep2.row reps), .bool over] ∧
    σ.h.bl 3 0 0 = .box [i64 pc, i64 m0, i64 m1, i64 m2, i64 m3, i64 m4, i64 m5, i64 m6, i64 m7, .sl (R Rep2.row reps), .bool over]) ?_ ?_ ?_
  · simp
  · rintro k σ hk ⟨e2, e3, e5, b2, b3⟩
    have hw := wrap64 (n := (k : Int) + 1) (by omega) (by omega)
    obtain ⟨x, hx⟩ : ∃ x, reps[k]? = some x := ⟨reps[k], by simp [hk]⟩
    have hx' := (List.getElem?_eq_some_iff.1 hx).2
    simp [e2, e3, e5, b2, b3, hk, hw, hx, hx']
  · rintro σ ⟨e2, e3, e5, b2, b3⟩
    simp [e2, e3, e5, b2, b3]
theorem w60r (j : Job) (h : j.ok) : C 60 [.agg (j.row .sl), .agg (j.row .sl)] = some (.bool true, []) := by
  refine c_eq rfl rfl rfl ?_
  have h1 := w114r j.m (by have := h.m; omega)
  have h2 := w114r j.kept (by have := h.kept; omega)
  have h3 := w63r j.held (by have := h.held; omega)
  simp at h1 h2
  simp [F60, h1, h2, h3]
theorem w245 (t : Task) (j : Job) : C 245 [.agg (t.row .sl), .agg (j.row .sl)] = some (.sl (RC (codeOf t j.phase)), []) := by
  refine c_eq rfl rfl rfl ?_
  by_cases c0 : j.phase = 0
  · simp [F245, codeOf, c0]
  by_cases c1 : j.phase = 1
  · simp [F245, codeOf, c1]
  by_cases c2 : j.phase = 2
  · simp [F245, codeOf, c2]
  simp [F245, codeOf, c0, c1, c2]
end Fo.W
set_option maxRecDepth 100000
set_option linter.unusedVariables false
set_option linter.unusedSimpArgs false
namespace Fo.W
open Go Fo
def Mem.In (m : Mem) : Prop := ∀ a, 0 ≤ a ∧ a < 8 → -9223372036854775808 ≤ m.get a ∧ m.get a ≤ 9223372036854775807
theorem w185n (t : Task) (j : Job) (ht : t.ok) (hj : j.ok) (hn : jobGo t j = none) : C 185 [.agg (t.row .sl), .agg (j.row .sl)] = some (.tup [.agg (j.row .sl), .agg [zz, zz, zz, zz], .bool false], []) := by
  refine c_eq rfl rfl rfl ?_
  have h0 : nextI (codeOf t j.phase) j.m = none := by
    unfold jobGo at hn; split at hn
    · assumption
    · cases hn
  have h2 := w245 t j
  have h3 := w244n _ _ hj.m h0
  simp at h2 h3
  simp [F185, h2, h3]
theorem w185 (t : Task) (j x : Job) (i : Inst) (ht : t.ok) (hj : j.ok) (hm : j.m.mem.In) (hn : jobGo t j = some (x, i)) : C 185 [.agg (t.row .sl), .agg (j.row .sl)] = some (.tup [.agg (x.row .sl), .agg i.row, .bool true], []) := by
  refine c_eq rfl rfl rfl ?_
  unfold jobGo at hn
  split at hn
  · cases hn
  rename_i i' h0
  simp only [Option.some.injEq, Prod.mk.injEq] at hn
  obtain ⟨rfl, rfl⟩ := hn
  have h2 := w245 t j
  have h3 := w244 _ _ _ (codeOf_len ht _) hj.m hm h0
  simp at h2 h3
  have hH : j.held.length ≤ 100000 := hj.held
  have r1 : j.held.length ≤ room := by unfold room; omega
  have r2 : j.held.length + 1 ≤ room := by unfold room; omega
  by_cases hz : j.held = []
  · simp [hz] at h2
    by_cases e1 : i'.op = 11
    · simp [F185, h2, h3, e1, hz, room]
    by_cases e2 : i'.op = 9
    · simp [F185, h2, h3, e1, e2, hz, room]
    by_cases e3 : i'.op = 10
    · simp [F185, h2, h3, e1, e2, e3, hz, room, eraseLast]
      refine wp_inv 0 (fun _ τ => τ = _) rfl (by intro k τ hk; omega) ?_
      rintro τ rfl
      simp [e3, show IntKind.i64.wrap (-1) = -1 from rfl]
    simp [F185, h2, h3, e1, e2, e3, hz, room]
  · by_cases e1 : i'.op = 11
    · simp [F185, h2, h3, e1, hz, r1]
    by_cases e2 : i'.op = 9
    · simp [F185, h2, h3, e1, e2, hz, r1, r2]
    by_cases e3 : i'.op = 10
    · simp [F185, h2, h3, e1, e2, e3, hz, r1]
      have hw := wrap64 (n := (j.held.length : Int) - 1) (by omega) (by omega)
      refine wp_down (fun n σ => n ≤ j.held.length ∧ eraseLast i'.a j.held n = eraseLast i'.a j.held j.held.length ∧ σ.env 4 = .ptr 4 0 0 0 0 ∧ σ.env 5 = .ptr 5 0 0 0 0 ∧ σ.env 8 = .ptr 8 0 0 0 0 ∧ σ.env 10 = .ptr 10 0 0 0 0 ∧ σ.env 11 = i64 ((n : Int) - 1) ∧ σ.h.bl 32 0 0 = .rows (RI j.held) ∧
        σ.h.bl 10 0 0 = .box [i64 j.task, i64 j.at_, i64 j.in_, i64 j.phase, i64 (goes (exec i' j.m)).pc, i64 (goes (exec i' j.m)).mem.m0, i64 (goes (exec i' j.m)).mem.m1, i64 (goes (exec i' j.m)).mem.m2, i64 (goes (exec i' j.m)).mem.m3, i64 (goes (exec i' j.m)).mem.m4, i64 (goes (exec i' j.m)).mem.m5, i64 (goes (exec i' j.m)).mem.m6, i64 (goes (exec i' j.m)).mem.m7, .sl (R Rep2.row (goes (exec i' j.m)).reps), .bool (goes (exec i' j.m)).over, i64 j.kept.pc, i64 j.kept.mem.m0, i64 j.kept.mem.m1, i64 j.kept.mem.m2, i64 j.kept.mem.m3, i64 j.kept.mem.m4, i64 j.kept.mem.m5, i64 j.kept.mem.m6, i64 j.kept.mem.m7, .sl (R Rep2.row j.kept.reps), .bool j.kept.over, .own 32 0 0 0 j.held.length, .bool j.up] ∧
        σ.h.bl 4 0 0 = .box [zz, zz, zz, zz, zz, zz, zz, zz, zz, zz, zz, zz, zz, et, ff, zz, zz, zz, zz, zz, zz, zz, zz, zz, et, ff, et, ff] ∧ σ.h.bl 5 0 0 = .box [zz, zz, zz, zz] ∧ σ.h.bl 8 0 0 = .box [i64 i'.op, i64 i'.a, i64 i'.b, i64 i'.n]) j.held.length ?_ ?_
      · simp [hw, e3]
      · intro n σ ⟨hn, hg, q4, q5, q8, q10, q11, b32, b10, b4, b5, b8⟩
        rw [← hg]
        cases n with
        | zero => simp [q4, q5, q8, q10, q11, b32, b10, b4, b5, b8, eraseLast, e3]
        | succ n =>
          have hlt : n < j.held.length := by omega
          have hw := wrap64 (n := (n : Int) + 1) (by omega) (by omega)
          have hw2 := wrap64 (n := (n : Int) - 1) (by omega) (by omega)
          generalize hx : j.held[n] = x
          have hx' : j.held[n]? = some x := by simp [hlt, hx]
          have l1 : n ≤ j.held.length := by omega
          have l2 : (n : Int) ≤ j.held.length := by omega
          have l3 : n + 1 ≤ j.held.length := by omega
          have l4 : (n : Int) + 1 ≤ j.held.length := by omega
          have l6 : (0 : Int) ≤ (n : Int) + 1 := by omega
          have l5 : ¬ (n : Int) < 0 := by omega
          have r3 : n ≤ room := by unfold room; omega
          have r4 : (j.held.length - n) ≤ room := by unfold room; omega
          by_cases hq : x = i'.a
          · have her : j.held.take n ++ j.held.drop (n + 1) = j.held.eraseIdx n := (List.eraseIdx_eq_take_drop_succ ..).symm
            have r6 : j.held.length ≤ room + (n + 1) := by unfold room; omega
            have r5 : n + (j.held.length - (n + 1)) ≤ room := by unfold room; omega
            have et1 : ∀ h : n = 0, j.held.take n = [] := fun h => by rw [h]; rfl
            have et2 : ∀ h : j.held.length = n + 1, j.held.drop (n + 1) = [] := fun h => List.drop_eq_nil_of_le (by omega)
            have her' : RI (j.held.take n ++ j.held.drop (n + 1)) = RI (j.held.eraseIdx n) := by rw [her]
            by_cases n0 : n = 0
            · by_cases nl : j.held.length - (n + 1) = 0
              · simp [q4, q5, q8, q10, q11, b32, b10, b4, b5, b8, eraseLast, e3, hlt, hx, hx', hq, hw, r3, r4, r5, r6, l1, l2, l3, l4, l5, l6, eq_true n0, eq_true nl]
                rw [← her', n0]; simp
              · simp [q4, q5, q8, q10, q11, b32, b10, b4, b5, b8, eraseLast, e3, hlt, hx, hx', hq, hw, r3, r4, r5, r6, l1, l2, l3, l4, l5, l6, eq_true n0, nl]
                rw [← her', n0]; simp
            · by_cases nl : j.held.length - (n + 1) = 0
              · simp [q4, q5, q8, q10, q11, b32, b10, b4, b5, b8, eraseLast, e3, hlt, hx, hx', hq, hw, r3, r4, r5, r6, l1, l2, l3, l4, l5, l6, n0, eq_true nl]
                rw [← her', List.drop_eq_nil_of_le (show (j.held.take n).length ≤ n + (j.held.length - (n + 1)) by simp; omega)]; simp
              · simp [q4, q5, q8, q10, q11, b32, b10, b4, b5, b8, eraseLast, e3, hlt, hx, hx', hq, hw, r3, r4, r5, r6, l1, l2, l3, l4, l5, l6, n0, nl]
                rw [← her']; simp
          · simp [q4, q5, q8, q10, q11, b32, b10, b4, b5, b8, eraseLast, e3, hlt, hx, hx', hq, hw2]
            exact ⟨n, by omega, by omega, rfl, rfl⟩
    simp [F185, h2, h3, e1, e2, e3, hz, r1]
end Fo.W
set_option maxRecDepth 100000
set_option linter.unusedVariables false
set_option linter.unusedSimpArgs false
namespace Fo.W
open Go Fo
theorem get_set {a b : Int} (v : Int) (m : Mem) (ha : 0 ≤ a ∧ a < 8) (hb : 0 ≤ b ∧ b < 8) : (m.set a v).get b = if b = a then v else m.get b := by
  refine le8 (P := fun a => (m.set a v).get b = if b = a then v else m.get b) ha ?_ ?_ ?_ ?_ ?_ ?_ ?_ ?_ <;>
    exact le8 (P := fun b => (m.set _ v).get b = if b = _ then v else m.get b) hb rfl rfl rfl rfl rfl rfl rfl rfl
theorem set_in {a v : Int} {m : Mem} (h : m.In) (ha : 0 ≤ a ∧ a < 8) (hv : -9223372036854775808 ≤ v ∧ v ≤ 9223372036854775807) : (m.set a v).In := by
  intro b hb
  rw [get_set v m ha hb]
  split
  · exact hv
  · exact h b hb
theorem w64_in (n : Int) : -9223372036854775808 ≤ w64 n ∧ w64 n ≤ 9223372036854775807 := by simp only [w64, IntKind.wrap_i64]; omega
theorem shift_in (v n : Int) (hv : -9223372036854775808 ≤ v ∧ v ≤ 9223372036854775807) : -9223372036854775808 ≤ shift v n ∧ shift v n ≤ 9223372036854775807 := by
  unfold shift
  split
  · exact hv
  · split
    · rw [Int.fdiv_eq_ediv_of_nonneg _ (Int.pow_nonneg (by omega))]
      exact pow_bnd v _ hv
    · exact w64_in _
theorem narrow_in (v n : Int) (hv : -9223372036854775808 ≤ v ∧ v ≤ 9223372036854775807) : -9223372036854775808 ≤ narrow v n ∧ narrow v n ≤ 9223372036854775807 := by
  unfold narrow
  split
  · exact hv
  · rw [Int.fdiv_eq_ediv_of_nonneg _ (Int.pow_nonneg (by omega))]
    exact pow_bnd _ _ (w64_in _)
theorem may_n1 {i : Inst} (h : mayInst i = true) (ho : i.op = 1) : -2147483648 ≤ i.n ∧ i.n ≤ 2147483647 := by
  unfold mayInst at h
  simp [ho] at h; omega
theorem exec_in {i : Inst} {m : Mach} (hy : mayInst i = true) (hm : m.mem.In) : (exec i m).mem.In := by
  obtain ⟨a0, a1, b0, b1, o0, o1⟩ := may_a hy
  unfold exec
  split
  · exact hm
  split
  · exact set_in hm ⟨a0, a1⟩ (by have := may_n1 hy (by assumption); omega)
  split
  · exact set_in hm ⟨a0, a1⟩ (w64_in _)
  split
  · exact set_in hm ⟨a0, a1⟩ (w64_in _)
  split
  · exact set_in hm ⟨a0, a1⟩ (w64_in _)
  split
  · exact set_in hm ⟨a0, a1⟩ (shift_in _ _ (hm _ ⟨a0, a1⟩))
  split
  · exact set_in hm ⟨a0, a1⟩ (narrow_in _ _ (hm _ ⟨a0, a1⟩))
  split
  · exact hm
  split
  · exact hm
  exact hm
theorem next_may {l : List Inst} {m : Mach} {i : Inst} (h : nextI l m = some i) : mayInst i = true := by
  simp only [nextI] at h
  split at h
  · split at h
    · split at h
      · cases h; assumption
      · cases h
    · cases h
  · cases h
theorem eraseLast_len (a : Int) (l : List Int) : ∀ n, (eraseLast a l n).length ≤ l.length
  | 0 => Nat.le_refl _
  | n + 1 => by
    unfold eraseLast
    split
    · rw [List.length_eraseIdx]; split <;> omega
    · exact eraseLast_len a l n
structure Kept (j x : Job) : Prop where
  task : x.task = j.task
  at_ : x.at_ = j.at_
  in_ : x.in_ = j.in_
  phase : x.phase = j.phase
  up : x.up = j.up
  mem : x.m.mem.In
  reps : x.m.reps.length ≤ j.m.reps.length + 1
  kept : x.kept.reps.length ≤ max j.kept.reps.length (j.m.reps.length + 1)
  held : x.held.length ≤ j.held.length + 1
theorem jobGo_kept {t : Task} {j x : Job} {i : Inst} (hm : j.m.mem.In) (h : jobGo t j = some (x, i)) : Kept j x := by
  unfold jobGo at h
  split at h
  · cases h
  rename_i i' h0
  simp only [Option.some.injEq, Prod.mk.injEq] at h
  obtain ⟨rfl, rfl⟩ := h
  have h1 := exec_reps i' j.m
  have h2 := goes_reps (exec i' j.m)
  have h3 := exec_in (next_may h0) hm
  have h4 := eraseLast_len i'.a j.held j.held.length
  refine ⟨rfl, rfl, rfl, rfl, rfl, h3, ?_, ?_, ?_⟩
  · simp only; omega
  · simp only; split <;> omega
  · simp only
    split
    · simp
    · split <;> omega
end Fo.W
set_option maxRecDepth 100000
set_option linter.unusedVariables false
set_option linter.unusedSimpArgs false
namespace Fo.W
open Go Fo
theorem w239 (n : Int) : C 239 [i64 n] = some (.agg ((newM n).row .sl), []) := by
  refine c_eq rfl rfl rfl ?_
  simp [F239, newM]
theorem w170 (a b c : Int) : C 170 [i64 a, i64 b, i64 c] = some (.agg ((newJ a b c).row .sl), []) := by
  refine c_eq rfl rfl rfl ?_
  have h := w239 c
  simp [newM] at h
  simp [F170, h, newJ, newM]
theorem begun1004 : C 1004 [] = some (.bool true, []) := cw_iff.2 ⟨60, by kernel_rfl⟩
theorem hit_once (t : Task) (j : Job) (h : j.phase = 0) (ht : j.task = 1) : hitJ t j [⟨0, 2⟩, ⟨0, 1⟩] = (back t j, [⟨0, 0⟩, ⟨0, 1⟩], if t.way = [] then 6 else 7) := by
  by_cases c : t.way = []
  · simp [hitJ, back, h, c, allS, freeS, ht]
  · simp [hitJ, back, h, c, allS, freeS, ht]
theorem hit_again (t : Task) (j : Job) (h : j.phase = 0) (ht : j.task = 1) : hitJ t (back t j) [⟨0, 0⟩, ⟨0, 1⟩] = (back t j, [⟨0, 0⟩, ⟨0, 1⟩], 6) := by
  by_cases c : t.way = []
  · simp [hitJ, back, h, c, allS, freeS, ht]
  · simp [hitJ, back, h, c, allS, freeS, ht]
theorem newM_in (v : Int) (h : -9223372036854775808 ≤ v ∧ v ≤ 9223372036854775807) : (newM v).mem.In := by
  intro a ha
  refine le8 (P := fun a => -9223372036854775808 ≤ (newM v).mem.get a ∧ (newM v).mem.get a ≤ 9223372036854775807) ha ?_ ?_ ?_ ?_ ?_ ?_ ?_ ?_ <;> simp [newM, Mem.get]
  exact h
theorem law1001 (l : List Int) (hl : ∀ x ∈ l, 0 ≤ x ∧ x ≤ 255) (inn : Int) (hin : -9223372036854775808 ≤ inn ∧ inn ≤ 9223372036854775807) (n : Int) (hn : 0 ≤ n ∧ n ≤ 255) : C 1001 [.sl (RU l), i64 inn, .int .u8 n] = some (.bool true, []) := by
  refine c_eq rfl rfl rfl ?_
  have hb := begun1004
  by_cases c1 : 150 < l.length
  · have c1' : (150 : Int) < l.length := by omega
    simp [F1001, hb, c1, c1']
  have d1 : ¬ (150 : Int) < l.length := by omega
  have hll : l.length ≤ 1000000 := by omega
  have h6 := w6 l
  obtain ⟨t, q, e19, oq, t1, t2, t3, t4, t5, t6, t7, t8, t9⟩ := w19 ⟨l, 0⟩ ⟨hl, hll, Nat.zero_le _⟩ 1 3 (by omega) (by omega)
  have h170 := w170 1 2 inn
  simp at h6 e19 h170
  simp [newJ, newM] at h170
  simp [F1001, hb, d1, h6, e19, h170]
  have em : n.tmod 40 = n % 40 := Int.tmod_eq_emod_of_nonneg hn.1
  have hw1 : IntKind.u8.wrap (n % 40) = n % 40 := by rw [IntKind.wrap_u8]; omega
  have hw2 : IntKind.i64.wrap (n % 40) = n % 40 := wrap64 (by omega) (by omega)
  refine wp_mono (Q := fun e τ => e = .exit 0 ∧ τ.env 7 = .ptr 7 0 0 0 0 ∧ τ.env 8 = .ptr 8 0 0 0 0 ∧ τ.h.bl 7 0 0 = .box (t.row .sl) ∧ ∃ j : Job, (j.task = 1 ∧ j.phase = 0 ∧ j.ok) ∧ τ.h.bl 8 0 0 = .box (j.row .sl)) ?_ ?_
  · refine wp_inv (n % 40).toNat (fun k τ => τ.env 7 = .ptr 7 0 0 0 0 ∧ τ.env 8 = .ptr 8 0 0 0 0 ∧ τ.env 9 = i64 k ∧ τ.env 2 = .int .u8 n ∧ τ.h.bl 7 0 0 = .box (t.row .sl) ∧
      ∃ j : Job, (j.task = 1 ∧ j.phase = 0 ∧ j.m.mem.In ∧ j.m.reps.length ≤ k ∧ j.kept.reps.length ≤ k ∧ j.held.length ≤ k) ∧ τ.h.bl 8 0 0 = .box (j.row .sl)) ?_ ?_ ?_
    · simp
      exact ⟨newJ 1 2 inn, ⟨rfl, rfl, newM_in inn hin, by simp [newJ, newM], by simp [newJ, newM], by simp [newJ]⟩, by simp [newJ, newM]⟩
    · rintro k τ hk ⟨e7, e8, e9, e2, b7, j, ⟨j1, j2, j3, j4, j5, j6⟩, b8⟩
      have hkw := wrap64 (n := (k : Int) + 1) (by omega) (by omega)
      have hlt : (k : Int) < n % 40 := by omega
      simp at b7 b8
      by_cases ho : j.m.over = true
      · simp [e7, e8, e9, e2, b7, b8, em, hw1, hw2, cf_bin, binInt, hlt, ho]
        exact ⟨j, ⟨j1, j2, ⟨by omega, by omega, by omega⟩⟩, by simp [b8, ho]⟩
      · have ho' : j.m.over = false := by simpa using ho
        have hok : j.ok := ⟨by omega, by omega, by omega⟩
        have htk : t.ok := ⟨by omega, by omega, by omega⟩
        cases hg : jobGo t j with
        | none =>
          have hq := w185n t j htk hok hg
          simp [ho'] at hq
          simp [e7, e8, e9, e2, b7, b8, em, hw1, hw2, cf_bin, binInt, hlt, ho', hq, hkw]
          exact ⟨j, ⟨j1, j2, j3, by omega, by omega, by omega⟩, by simp [b8, ho']⟩
        | some r =>
          obtain ⟨x, i⟩ := r
          have hq := w185 t j x i htk hok j3 hg
          have hk2 := jobGo_kept j3 hg
          simp [ho'] at hq
          simp [e7, e8, e9, e2, b7, b8, em, hw1, hw2, cf_bin, binInt, hlt, ho', hq, hkw]
          exact ⟨x, ⟨hk2.task.trans j1, hk2.phase.trans j2, hk2.mem, by have := hk2.reps; omega, by have := hk2.kept; omega, by have := hk2.held; omega⟩, by simp [b8]⟩
    · rintro τ ⟨e7, e8, e9, e2, b7, j, ⟨j1, j2, j3, j4, j5, j6⟩, b8⟩
      simp at b7 b8
      have hnn : ((n % 40).toNat : Int) = n % 40 := by omega
      simp [e7, e8, e9, e2, b7, b8, em, hw1, hw2, hnn, cf_bin, binInt]
      exact ⟨j, ⟨j1, j2, ⟨by omega, by omega, by omega⟩⟩, by simp [b8]⟩
  · rintro e τ ⟨rfl, e7, e8, b7, j, ⟨j1, j2, j3⟩, b8⟩
    have q1 := w228 t j [⟨0, 2⟩, ⟨0, 1⟩] j3 (by omega) (by simp)
    rw [hit_once t j j2 j1] at q1
    have hb1 : (back t j).task = 1 := by unfold back; split <;> simp [j1]
    have hb3 : (back t j).ok := by
      have := j3.kept
      unfold back; split
      · exact ⟨by simp [newM], by simp [newM], by simp⟩
      · exact ⟨this, this, by simp⟩
    have q2 := w228 t (back t j) [⟨0, 0⟩, ⟨0, 1⟩] hb3 (by omega) (by simp)
    rw [hit_again t j j2 j1] at q2
    have q3 := w1005r [⟨0, 0⟩, ⟨0, 1⟩] (by simp)
    have q4 := w60r (back t j) hb3
    generalize back t j = x at *
    simp at b7 b8 q1 q2 q3 q4
    by_cases c : t.way = []
    · simp [c] at q1 q2 b7
      simp [blockK, e7, e8, b7, b8, q1, q2, q3, q4, c]
    · have c' : 0 < t.way.length := by cases h : t.way with | nil => exact absurd h c | cons => simp
      simp [c] at q1
      simp [blockK, e7, e8, b7, b8, q1, q2, q3, q4, c, c']
end Fo.W
