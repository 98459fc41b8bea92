/-
  What the functions that FaultApart reaches compute.
-/
import Derived.Test.YtildnnhlpdcglaaFoW
import Derived.Test.YtildnnhlpdcglaaFaultApartTab
import Derived.KernelRfl
set_option maxRecDepth 100000
set_option linter.unusedVariables false
set_option linter.unusedSimpArgs false
namespace Fo.W
open Go Fo
end Fo.W
set_option maxRecDepth 100000
set_option linter.unusedVariables false
set_option linter.unusedSimpArgs false
namespace Fo.W
open Go Fo
theorem w136 (l : List Rep2) (h : l.length ≤ 1000000) : C 136 [.sl (R Rep2.row l)] = some (.fresh (R Rep2.row l), []) := cl136 _ (R_all fun _ => rfl) (by simpa using h)
theorem w137 (l : List Int) (h : l.length ≤ 1000000) : C 137 [.sl (RI l)] = some (.fresh (RI l), []) := cl137 _ (R_all fun _ => rfl) (by simpa using h)
theorem w284 (m : Mach) (h : m.reps.length ≤ 1000000) : C 284 [.agg (m.row .sl)] = some (.agg (m.row .sl), []) := by
  refine c_eq rfl rfl rfl ?_
  simp [F284, w136, h, give_own]
def newM (n : Int) : Mach := ⟨0, ⟨n, 0, 0, 0, 0, 0, 0, 0⟩, [], false⟩
theorem w155 (n : Int) : C 155 [i64 n] = some (.agg ((newM n).row .sl), []) := by
  refine c_eq rfl rfl rfl ?_
  simp [F155, newM]
structure Job.ok (j : Job) : Prop where
  m : j.m.reps.length ≤ 100000
  kept : j.kept.reps.length ≤ 100000
  held : j.held.length ≤ 100000
theorem w281 (j : Job) (h : j.ok) : C 281 [.agg (j.row .sl)] = some (.agg [i64 j.task, i64 j.at_, i64 j.in_, i64 j.phase,
   i64 j.m.pc, i64 j.m.mem.m0, i64 j.m.mem.m1, i64 j.m.mem.m2, i64 j.m.mem.m3, i64 j.m.mem.m4, i64 j.m.mem.m5, i64 j.m.mem.m6, i64 j.m.mem.m7, .sl (R Rep2.row j.m.reps), .bool j.m.over,
   i64 j.kept.pc, i64 j.kept.mem.m0, i64 j.kept.mem.m1, i64 j.kept.mem.m2, i64 j.kept.mem.m3, i64 j.kept.mem.m4, i64 j.kept.mem.m5, i64 j.kept.mem.m6, i64 j.kept.mem.m7, .sl (R Rep2.row j.kept.reps), .bool j.kept.over,
   .fresh (RI j.held), .bool j.up], []) := by
  refine c_eq rfl rfl rfl ?_
  have h1 := w284 j.m (by have := h.m; omega)
  have h2 := w284 j.kept (by have := h.kept; omega)
  have h3 := w137 j.held (by have := h.held; omega)
  simp [F281, h1, h2, h3, give_own]
def newJ (place at_ in_ : Int) : Job := ⟨place, at_, in_, 0, newM in_, newM in_, [], false⟩
structure Task.ok (t : Task) : Prop where
  main : t.main.length ≤ 100000
  way : t.way.length ≤ 100000
  opt : t.opt.length ≤ 100000
def back (t : Task) (j : Job) : Job := if j.phase = 0 ∧ t.way ≠ [] then { j with phase := 1, m := newM j.in_, kept := newM j.in_, held := [] } else { j with m := j.kept, held := [] }
theorem w288 (t : Task) (j : Job) (h : j.ok) : C 288 [.agg (t.row .sl), .agg (j.row .sl)] = some (.agg ((back t j).row .sl), []) := by
  refine c_eq rfl rfl rfl ?_
  obtain ⟨jt, ja, ji, ph, jm, jk, jh, ju⟩ := j
  obtain ⟨rank, per, en, main, way, opt⟩ := t
  simp only [F288]
  by_cases e0 : ph = 0
  · subst e0
    have h1 := w281 _ h
    have h2 := w284 jk (by have := h.kept; simp at this; omega)
    have h3 := w155 ji
    cases way with
    | nil => simp [back, h1, h2, h3, newM]
    | cons x l => simp [back, h1, h2, h3, newM]
  · have h1 := w281 _ h
    have h2 := w284 jk (by have := h.kept; simp at this; omega)
    simp [back, e0, h1, h2, newM]
end Fo.W
set_option maxRecDepth 100000
set_option linter.unusedVariables false
set_option linter.unusedSimpArgs false
namespace Fo.W
open Go Fo
end Fo.W
set_option maxRecDepth 100000
set_option linter.unusedVariables false
set_option linter.unusedSimpArgs false
namespace Fo.W
open Go Fo
end Fo.W
set_option maxRecDepth 100000
set_option linter.unusedVariables false
set_option linter.unusedSimpArgs false
namespace Fo.W
open Go Fo
abbrev RS (l : List Sema) : List (List V) := R Sema.row l
def hasS (l : List Sema) (s : Int) : Bool := decide (0 ≤ s ∧ s < l.length)
def holdsS (l : List Sema) (s t : Int) : Bool := match l[s.toNat]? with | some x => decide (0 ≤ s ∧ x.holder = t + 1) | none => false
def freeS (t : Int) (x : Sema) : Sema := if x.holder = t + 1 then ⟨x.ceil, 0⟩ else x
def allS (l : List Sema) (t : Int) : List Sema := l.map (freeS t)
theorem w286 (l : List Sema) (s : Int) : C 286 [.sl (RS l), i64 s] = some (.bool (hasS l s), []) := by
  refine c_eq rfl rfl rfl ?_
  by_cases h : 0 ≤ s <;> simp [F286, h, hasS]
theorem w271 (l : List Sema) (s t : Int) (ht : 0 ≤ t ∧ t ≤ 1000000) : C 271 [.sl (RS l), i64 s, i64 t] = some (.bool (holdsS l s t), []) := by
  refine c_eq rfl rfl rfl ?_
  have hw := wrap64 (n := t + 1) (by omega) (by omega)
  by_cases h : 0 ≤ s ∧ s < l.length
  · obtain ⟨x, hx⟩ : ∃ x, l[s.toNat]? = some x := ⟨l[s.toNat]'(by omega), by simp⟩
    have hx' := (List.getElem?_eq_some_iff.1 hx).2
    simp [F271, w286, hasS, holdsS, h, ht, hx, hx', hw]
  · have hn : holdsS l s t = false := by
      unfold holdsS; split
      · rename_i x hx; have := (List.getElem?_eq_some_iff.1 hx).1; simp; intro h1; exact absurd ⟨h1, by omega⟩ h
      · rfl
    simp [F271, w286, hasS, hn, h]
theorem w270 (l : List Sema) (h : l.length ≤ 1000000) : C 270 [.sl (RS l)] = some (.fresh (RS l), []) := cl270 _ (R_all fun _ => rfl) (by simpa using h)
theorem w216 (l : List Sema) (t : Int) (ht : 0 ≤ t ∧ t ≤ 1000000) (hl : l.length ≤ 1000000) : C 216 [.sl (RS l), i64 t] = some (.sl (RS (allS l t)), []) := by
  refine c_eq rfl rfl rfl ?_
  simp [F216, w270, hl]
  refine wp_inv l.length (fun k σ => σ.env 0 = .sl (RS l) ∧ σ.env 1 = i64 t ∧ σ.env 5 = .own 8 0 0 0 l.length ∧ σ.env 10 = i64 l.length ∧ σ.env 11 = i64 k ∧ σ.h.bl 8 0 0 = .rows (RS (mapTo (freeS t) l k))) ?_ ?_ ?_
  · simp
  · intro k σ hk ⟨h0, h1, h5, h10, h11, hb⟩
    have hw := wrap64 (n := (k : Int) + 1) (by omega) (by omega)
    obtain ⟨x, hx⟩ : ∃ x, l[k]? = some x := ⟨l[k], by simp [hk]⟩
    have hx' := (List.getElem?_eq_some_iff.1 hx).2
    by_cases hh : x.holder = t + 1
    · have hq : holdsS l k t = true := by simp [holdsS, hx, hh]
      simp [h0, h1, h5, h10, h11, hb, w271, ht, hk, hw, hq, hx, hx', R_mapTo hx, freeS, hh]
    · have hq : holdsS l k t = false := by simp [holdsS, hx, hh]
      simp [h0, h1, h5, h10, h11, hb, w271, ht, hk, hw, hq, mapTo_same hx, freeS, hh]
  · intro σ ⟨h0, h1, h5, h10, h11, hb⟩
    simp [h0, h1, h5, h10, h11, hb, allS]
end Fo.W
set_option maxRecDepth 100000
set_option linter.unusedVariables false
set_option linter.unusedSimpArgs false
namespace Fo.W
open Go Fo
end Fo.W
set_option maxRecDepth 100000
set_option linter.unusedVariables false
set_option linter.unusedSimpArgs false
namespace Fo.W
open Go Fo
end Fo.W
set_option maxRecDepth 100000
set_option linter.unusedVariables false
set_option linter.unusedSimpArgs false
namespace Fo.W
open Go Fo
end Fo.W
set_option maxRecDepth 100000
set_option linter.unusedVariables false
set_option linter.unusedSimpArgs false
namespace Fo.W
open Go Fo
end Fo.W
set_option maxRecDepth 100000
set_option linter.unusedVariables false
set_option linter.unusedSimpArgs false
namespace Fo.W
open Go Fo
theorem w218 (j : Job) (h : j.ok) : C 218 [.agg (j.row .sl)] = some (.agg (j.row .fresh), []) := by
  refine c_eq rfl rfl rfl ?_
  have h1 := w136 j.m.reps (by have := h.m; omega)
  have h2 := w136 j.kept.reps (by have := h.kept; omega)
  have h3 := w137 j.held (by have := h.held; omega)
  simp [F218, h1, h2, h3]
def hitJ (t : Task) (j : Job) (l : List Sema) : Job × List Sema × Int :=
  if j.phase = 2 then (j, allS l j.task, 13) else (back t j, allS l j.task, if (back t j).phase ≠ j.phase then 7 else 6)
theorem w228 (t : Task) (j : Job) (l : List Sema) (hj : j.ok) (ht : 0 ≤ j.task ∧ j.task ≤ 1000000) (hl : l.length ≤ 1000000) : C 228 [.agg (t.row .sl), .agg (j.row .sl), .sl (RS l)] = some (.tup [.agg ((hitJ t j l).1.row .sl), .sl (RS (hitJ t j l).2.1), i64 (hitJ t j l).2.2], []) := by
  refine c_eq rfl rfl rfl ?_
  obtain ⟨jt, ja, ji, ph, jm, jk, jh, ju⟩ := j
  have h1 := w288 t _ hj
  have h2 := w216 l jt ht hl
  by_cases q : ph = 2
  · subst q
    have h3 := w218 _ hj
    simp [F228, h1, h2, h3, hitJ]
  · by_cases q2 : (back t ⟨jt, ja, ji, ph, jm, jk, jh, ju⟩).phase = ph
    · simp [F228, h1, h2, hitJ, q, q2]
    · simp [F228, h1, h2, hitJ, q, q2]
end Fo.W
set_option maxRecDepth 100000
set_option linter.unusedVariables false
set_option linter.unusedSimpArgs false
namespace Fo.W
open Go Fo
@[reducible] def u8Row (n : Int) : List V := [.int .u8 n]
attribute [simp] u8Row
abbrev RU (l : List Int) : List (List V) := R u8Row l
theorem w239 (n : Int) : C 239 [i64 n] = some (.agg ((newM n).row .fresh), []) := by
  refine c_eq rfl rfl rfl ?_
  simp [F239, newM]
theorem w170 (a b c : Int) : C 170 [i64 a, i64 b, i64 c] = some (.agg ((newJ a b c).row .fresh), []) := by
  refine c_eq rfl rfl rfl ?_
  have h := w239 c
  simp [newM] at h
  simp [F170, h, newJ, newM]
theorem begun1004 : C 1004 [] = some (.bool true, []) := cw_iff.2 ⟨60, by kernel_rfl⟩
theorem tmod6 (n : Int) (h : 0 ≤ n ∧ n ≤ 255) : IntKind.i64.wrap (n.tmod 6) = n.tmod 6 := by
  have := Int.tmod_eq_emod_of_nonneg (b := 6) h.1
  exact wrap64 (by omega) (by omega)
theorem law1000 (task phase : Int) (ht : 0 ≤ task ∧ task ≤ 255) (hp : 0 ≤ phase ∧ phase ≤ 255) (held : List Int) (hh : ∀ n ∈ held, 0 ≤ n ∧ n ≤ 255) (l : List Sema) : C 1000 [.int .u8 task, .int .u8 phase, .sl (RU held), .sl (RS l)] = some (.bool true, []) := by
  refine c_eq rfl rfl rfl ?_
  simp only [F1000]
  have hb := begun1004
  by_cases c1 : 6 < held.length
  · have c1' : (6 : Int) < held.length := by omega
    simp [hb, c1, c1']
  have d1 : ¬ (6 : Int) < held.length := by omega
  by_cases c2 : 6 < l.length
  · have c2' : (6 : Int) < l.length := by omega
    simp [hb, d1, c2']
  have d2 : ¬ (6 : Int) < l.length := by omega
  have e1 : task.tmod 8 = task % 8 := Int.tmod_eq_emod_of_nonneg ht.1
  have e2 : phase.tmod 3 = phase % 3 := Int.tmod_eq_emod_of_nonneg hp.1
  have hw1 : IntKind.i64.wrap (task % 8) = task % 8 := wrap64 (by omega) (by omega)
  have hw2 : IntKind.i64.wrap (phase % 3) = phase % 3 := wrap64 (by omega) (by omega)
  have t0 : 0 ≤ task % 8 ∧ task % 8 < 8 := by omega
  generalize task % 8 = t at *
  have p0 : 0 ≤ phase % 3 ∧ phase % 3 < 3 := by omega
  generalize phase % 3 = ph at *
  have hnj := w170 t 3 9
  simp [newJ, newM] at hnj
  simp [hb, d1, d2, cf_bin, binInt, e1, e2, hw1, hw2, hnj]
  refine wp_inv held.length (fun k σ => σ.env 2 = .sl (RU held) ∧ σ.env 3 = .sl (RS l) ∧ σ.env 9 = .ptr 9 0 0 0 0 ∧ σ.env 10 = i64 k ∧ ∃ d v j, σ.h.bl 9 0 0 = .box [i64 t, i64 3, i64 9, i64 ph, i64 0, i64 9, i64 0, i64 0, i64 0, i64 0, i64 0, i64 0, i64 0, .own 29 0 0 0 0, ff, i64 0, i64 9, i64 0, i64 0, i64 0, i64 0, i64 0, i64 0, i64 0, .own 29 0 1 0 0, ff, .own d v j 0 k, ff] ∧
    σ.h.bl 29 0 0 = .rows [] ∧ σ.h.bl 29 0 1 = .rows [] ∧ σ.h.bl d v j = .rows (RI ((held.map fun n => n.tmod 6).take k)) ∧ (d = 29 ∧ v = 0 ∧ j = 2 ∨ d = 49)) ?_ ?_ ?_
  · simp
    exact ⟨29, 0, 2, ⟨rfl, rfl, rfl⟩, by simp, by simp⟩
  · rintro k σ hk ⟨e2, e3, e9, e10, d, v, j, b9, b1, b2, bd, hd⟩
    have hw := wrap64 (n := (k : Int) + 1) (by omega) (by omega)
    obtain ⟨x, hx⟩ : ∃ x, held[k]? = some x := ⟨held[k], by simp [hk]⟩
    obtain ⟨hlt, hx'⟩ := List.getElem?_eq_some_iff.1 hx
    have hx6 := tmod6 x (hh x (hx' ▸ List.getElem_mem hlt))
    have hxm : (held.map fun n => n.tmod 6)[k]? = some (x.tmod 6) := by simp [hx]
    rw [show ((held.map fun n => n.tmod 6).take (k + 1)) = (held.map fun n => n.tmod 6).take k ++ [x.tmod 6] by rw [List.take_add_one, hxm]; rfl]
    have hal : ((held.map fun n => n.tmod 6).take k).length = k := by simp; omega
    generalize (held.map fun n => n.tmod 6).take k = acc at *
    have r1 : k + 1 ≤ room := by unfold room; omega
    rcases hd with ⟨rfl, rfl, rfl⟩ | rfl
    · simp [e2, e3, e9, e10, b9, b1, b2, bd, hk, hw, hx, hx', hx6, cf_bin, binInt, hal, r1]
      exact ⟨49, _, 0, ⟨rfl, rfl, rfl⟩, by simp⟩
    · simp [e2, e3, e9, e10, b9, b1, b2, bd, hk, hw, hx, hx', hx6, cf_bin, binInt, hal, r1]
      exact ⟨49, _, 0, ⟨rfl, rfl, rfl⟩, by simp⟩
  · rintro σ ⟨e2, e3, e9, e10, d, v, j, b9, b1, b2, bd, hd⟩
    rw [show (held.map fun n => n.tmod 6).take held.length = held.map fun n => n.tmod 6 by simp] at bd
    have hml : (held.map fun n => n.tmod 6).length = held.length := by simp
    generalize (held.map fun n => n.tmod 6) = hs at *
    let J : Job := ⟨t, 3, 9, ph, newM 9, newM 9, hs, false⟩
    let T : Task := ⟨0, 0, 0, [⟨0, 0, 0, 0⟩], [], []⟩
    have hJ : J.ok := ⟨by simp [J, newM], by simp [J, newM], by simp [J]; omega⟩
    have hh := w228 T J l hJ ⟨t0.1, by simp [J]; omega⟩ (by omega)
    have hr : (hitJ T J l).1.task = t ∧ (hitJ T J l).1.at_ = 3 ∧ (hitJ T J l).1.in_ = 9 ∧ (hitJ T J l).2.1 = allS l t := by
      unfold hitJ
      split
      · exact ⟨rfl, rfl, rfl, rfl⟩
      · unfold back
        simp only
        split <;> exact ⟨rfl, rfl, rfl, rfl⟩
    generalize hitJ T J l = r at *
    obtain ⟨r1, r2, r3, r4⟩ := hr
    rw [r4] at hh
    simp [J, T, newM, r1, r2, r3] at hh
    have hal : (allS l t).length = l.length := by simp [allS]
    have hwt := wrap64 (n := t + 1) (by omega) (by omega)
    rcases hd with ⟨rfl, rfl, rfl⟩ | rfl
    all_goals
      simp [e2, e3, e9, e10, b9, b1, b2, bd, hml, hh, hal, r1, r2, r3]
      refine wp_inv l.length (fun k τ => τ.env 3 = .sl (RS l) ∧ τ.env 9 = .ptr 9 0 0 0 0 ∧ τ.env 12 = .sl (RS (allS l t)) ∧ τ.env 14 = i64 k ∧ ∃ row, τ.h.bl 9 0 0 = .box (i64 t :: row)) ?_ ?_ ?_
      · simp [e3, e9, b9]
      · rintro k τ hk ⟨f3, f9, f12, f14, row, c9⟩
        have hw := wrap64 (n := (k : Int) + 1) (by omega) (by omega)
        obtain ⟨x, hx⟩ : ∃ x, l[k]? = some x := ⟨l[k], by simp [hk]⟩
        have hx' := (List.getElem?_eq_some_iff.1 hx).2
        have hy : (allS l t)[k]? = some (freeS t x) := by simp [allS, hx]
        have hy' := (List.getElem?_eq_some_iff.1 hy).2
        by_cases c : x.holder = t + 1
        · have c' : (x.holder = t + 1) = True := eq_true c
          simp [f3, f9, f12, f14, c9, hk, hw, hwt, hal, hx, hx', hy, hy', c', freeS]
        · simp [f3, f9, f12, f14, c9, hk, hw, hwt, hal, hx, hx', hy, hy', c, freeS]
      · rintro τ ⟨f3, f9, f12, f14, row, c9⟩
        simp [f3, f9, f12, f14, c9]
end Fo.W
