/-
  The operations: so many zeros behind nothing (part 42).
-/
import Derived.Test.YtildnnhlpdcglaaFoA40
import Derived.Lib.AppendZeros
namespace Fo
open Go
set_option linter.unusedVariables false
set_option linter.unusedSimpArgs false

section
variable {nf : Nm} {P : Program}

theorem run_append_zeros (w : World) (t tn ty e : TypeId) (i : TypeInfo) (z : Value) (k kn : IntKind) (ht : P.underlying t = some (.slice e)) (htn : P.underlying tn = some (.int kn)) (hi : P.info? e = some i) (hz : i.zero = some z)
    (ad : Option Addr) (n : Nat) (h0 : 0 < n) (hs : 0 < i.size) (h63 : (n : Int) ≤ 9223372036854775807) (h48 : n * i.bytes ≤ 281474976710656) :
    (Builtin.append_ #[t, tn] ty #[.slice ad 0 0, .int k n]).run P w =
      .ok (.slice (some ⟨w.heap.size, 0, none⟩) n (grownCap w n 0 e)) (w.drew.alloc (.cells (Builtin.zeroCells z.cells n ++ Builtin.zeroCells z.cells (grownCap w n 0 e - n)) e)) := by
  cases ad with
  | none => exact Lib.run_append_nil_zeros w t tn ty e i z k kn ht htn hi hz n h0 hs h63 h48
  | some a =>
    have hn : n ≠ 0 := by omega
    have hw : IntKind.i64.wrap (n : Int) = n := by rw [IntKind.wrap_i64]; omega
    have h63' : ¬ (9223372036854775807 < (n : Int)) := by omega
    have hnc : Builtin.nextslicecap n 0 = n := by unfold Builtin.nextslicecap; rw [if_pos (by omega)]
    have h48' : ¬ (281474976710656 < Builtin.nextslicecap n 0 * i.bytes) := by rw [hnc]; omega
    have h48i : ¬ (281474976710656 < (n : Int) * (i.bytes : Int)) := by
      rw [← Int.natCast_mul]
      omega
    have hneg : ¬ ((n : Int) < 0) := by omega
    have hns : ¬ (n * i.size = 0) := Nat.mul_ne_zero hn (by omega)
    have hfirst : ∀ w, (Builtin.firstCells i.size 0 (.slice (some a) 0 0)).run P w = .ok #[] w := by
      intro w; simp [Builtin.firstCells, loadCells, loadCellsFrom]
    simp [Builtin.append_, run_underlying ht, run_underlying htn, Go.sizeOf, typeInfo, zeroValue, hi, hz, asInt, asIntOf, hw, hn, hneg, hns, h63', h48', h48i, Question.forced, hfirst, newRow, grownCap]

theorem zeroCells_flat (z : Array Value) (n : Nat) : (Builtin.zeroCells z n).toList = (List.replicate n z.toList).flatten := zeros_flat z z.size rfl n

theorem tells_appZ {B : Base} {ι : Iota} {M : Nat → Prop} {h : Heap} {a : Act} {w : World} (m : Mem nf B ι M h w) {o : Oper} {x y : Operand} {t tn e : TypeId} {kn : IntKind} (ho : o.op = .call { callee := .builtin .append, args := #[x, y], argTypes := #[t, tn] })
    {bytes : Nat} {i : TypeInfo} {z : Value} {zero : List V} (ht : P.underlying t = some (.slice e)) (htn : P.underlying tn = some (.int kn)) (hi : P.info? e = some i) (hby : i.bytes = bytes) (hz : i.zero = some z) (hs : 0 < i.size) (hzs : z.cells.size = i.size)
    (hzd : DCL nf w M zero z.cells.toList) (hzo : zero.all V.one = true) {vx vy : V} {r : Res} (hx : DV nf ι w M vx (a.eval x)) (hy : DV nf ι w M vy (a.eval y)) (hr : comp (.appZ bytes zero) [vx, vy] h = some r) : ∃ c w' M', Tells P o a w c w' ∧ ResOK nf B ι M w true r c w' M' := by
  simp only [comp] at hr
  unfold appZV at hr
  split at hr
  · rename_i k
    split at hr
    · rename_i hc
      obtain ⟨c1, c2, c3, c4⟩ := hc
      cases hr
      subst hby
      obtain ⟨ad, e1⟩ := noCap_ok m hx c1
      have hk : ((k.toNat : Nat) : Int) = k := Int.toNat_of_nonneg (by omega)
      have hroom : k.toNat ≤ 4294967296 := by unfold room at c3; omega
      have h48 : k.toNat * i.bytes ≤ 4294967296 * 4096 := Nat.mul_le_mul hroom c4
      have hrun := run_append_zeros (P := P) w t tn o.type e i z .i64 kn ht htn hi hz ad k.toNat (by omega) hs (by omega) (by omega)
      rw [hk, ← e1, ← show a.eval y = .int .i64 k from hy] at hrun
      have hge := grownCap_ge w k.toNat 0 e
      have md := m.drawn1
      have hlen : (List.replicate k.toNat zero).length = k.toNat := List.length_replicate
      have hzl : zero.length = i.size := by have := hzd.length; rw [Array.length_toList] at this; omega
      have hs1 : ∀ q, (Builtin.zeroCells z.cells q).size = q * i.size := fun q => by simp [Builtin.zeroCells, hzs]
      have sd : Stays w M (drawn1 w) (Less ι M []) := ⟨Nat.le_refl _, fun _ _ _ => rfl, fun _ hb => .inl hb.1, fun _ _ => rfl⟩
      refine ⟨_, _, _, .inl (by simp [execOp, ho, resolve, invoke, builtin, hrun]; exact ⟨rfl, rfl⟩), (ResOK.alloc (w := drawn1 w) md (.cells (Builtin.zeroCells z.cells k.toNat ++ Builtin.zeroCells z.cells (grownCap w k.toNat 0 e - k.toNat)) e) (ids := []) (by simp) ?_).drawn⟩
      have := fresh_ok (nf := nf) (ι := ι) (w := drawn1 w) (M := M) (ids := []) (n := i.size) (rows := List.replicate k.toNat zero) (A := Builtin.zeroCells z.cells k.toNat ++ Builtin.zeroCells z.cells (grownCap w k.toNat 0 e - k.toNat)) (t := e) (cap := grownCap w k.toNat 0 e)
        (by
          rw [hlen, Array.toList_append, List.take_left' (by rw [Array.length_toList, hs1]), zeroCells_flat]
          exact DCL.replicate (DCL.stays sd _ _ hzd) _)
        (one_replicate hzo _) (by intro x hx; rw [(List.mem_replicate.1 hx).2]; exact hzl) (by rw [hlen]; exact hge)
        (by
          rw [Array.size_append, hs1, hs1, ← Nat.add_mul]
          exact Nat.mul_le_mul_right _ (by omega))
        (by rintro ⟨i, hi, _⟩; cases hi) (by intro h0; rw [h0] at hlen; simp at hlen; omega)
      rw [hlen] at this
      exact this
    · cases hr
  · cases hr
end
end Fo
