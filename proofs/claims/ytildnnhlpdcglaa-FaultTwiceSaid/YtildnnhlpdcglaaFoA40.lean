/-
  The operations: laying into maps (part 40).
-/
import Derived.Test.YtildnnhlpdcglaaFoA39
namespace Fo
open Go
set_option linter.unusedVariables false
set_option linter.unusedSimpArgs false

section
variable {nf : Nm} {P : Program}

def setMap (w : World) (b : Nat) (es : Array MapEntry) (clk : Nat) : World := { w with heap := w.heap.setIfInBounds b (.map es clk) }

theorem setMap_ne {w : World} {b k : Nat} {es : Array MapEntry} {clk : Nat} (h : k ≠ b) : (setMap w b es clk).heap[k]? = w.heap[k]? := by
  show (w.heap.setIfInBounds b _)[k]? = _
  simp [Ne.symm h]
theorem setMap_eq {w : World} {b : Nat} {es : Array MapEntry} {clk : Nat} (h : b < w.heap.size) : (setMap w b es clk).heap[b]? = some (.map es clk) := by
  show (w.heap.setIfInBounds b _)[b]? = _
  simp [h]
theorem setMap_size {w : World} {b : Nat} {es : Array MapEntry} {clk : Nat} : (setMap w b es clk).heap.size = w.heap.size := by
  show (w.heap.setIfInBounds b _).size = _
  simp
theorem setMap_shape {w : World} {b : Nat} {es es0 : Array MapEntry} {clk clk0 : Nat} (h : w.heap[b]? = some (.map es0 clk0)) (k : Nat) : (setMap w b es clk).shape? k = w.shape? k := by
  by_cases e : k = b
  · subst e
    have hlt : k < w.heap.size := lt_of_getElem? h
    unfold World.shape?
    rw [setMap_eq hlt, h]
  · unfold World.shape?; rw [setMap_ne e]

theorem Stays.setMap {w : World} {M : Nat → Prop} {b : Nat} (hb : M b) {es es0 : Array MapEntry} {clk clk0 : Nat} (h : w.heap[b]? = some (.map es0 clk0)) : Stays w M (setMap w b es clk) M :=
  ⟨by rw [setMap_size]; exact Nat.le_refl _, fun k hk _ => setMap_ne (fun e => hk (by rw [e]; exact hb)), fun _ h => .inl h, fun k _ => setMap_shape h k⟩

theorem DVE.append {ι : Iota} {w : World} {M : Nat → Prop} {k v : V} {e : MapEntry} (hk : DC nf w M k e.key) (hv : DV nf ι w M v e.val) : ∀ (es : List (V × V)) (l : List MapEntry), DVE nf ι w M es l → DVE nf ι w M (es ++ [(k, v)]) (l ++ [e])
  | [], l, h => by have h : l = [] := h; subst h; exact ⟨e, [], rfl, hk, hv, rfl⟩
  | (q, u) :: es, l, ⟨x, l', h, h1, h2, h3⟩ => by subst h; exact ⟨x, l' ++ [e], rfl, h1, h2, DVE.append hk hv es l' h3⟩

theorem tells_mapset {B : Base} {ι : Iota} {M : Nat → Prop} {h : Heap} {a : Act} {w : World} (m : Mem nf B ι M h w) {o : Oper} {t kt et : TypeId} {x y u : Operand} (ho : o.op = .mapUpdate t x y u ∨ o.op = .insert t x y u) {d : Nat} {agg : Bool} {s : List (Option IntKind)} {vx vy vu : V} {r : Res}
    (ht : P.underlying t = some (.map kt et)) (hs : sigT P d kt = some s) (hd : d ≤ 100) (hdm : d ≤ Op.maxDepth) (ha : aggOf P kt = some agg)
    (hx : DV nf ι w M vx (a.eval x)) (hy : DV nf ι w M vy (a.eval y)) (hu : DV nf ι w M vu (a.eval u)) (hr : comp (.mapset agg s) [vx, vy, vu] h = some r) : ∃ c w' M', Tells P o a w c w' ∧ ResOK nf B ι M w false r c w' M' := by
  cases vx <;> simp only [comp, reduceCtorEq] at hr
  rename_i md mv mj
  obtain ⟨b, h1, h2⟩ := hx
  have k := m.blk md mv mj
  split at hr
  · rename_i es l hb hl
    rw [hb] at k
    obtain ⟨b', es', clk, k1, k2, k3, k4⟩ := k
    rw [k1] at h1; cases h1
    split at hr
    · rename_i hok
      split at hr
      · rename_i hq
        cases hr
        obtain ⟨q2, hf, hfd⟩ := findKey_ok (P := P) hs hdm ha hy hl hok k4 hq
        have hck := run_check (P := P) hs (by omega) ha hy hl hok false
        cases q2 with
        | some ic => obtain ⟨i, c⟩ := ic; exact hfd.elim
        | none =>
          have hlt : b < w.heap.size := lt_of_getElem? k3
          let e : MapEntry := { key := a.eval y, val := a.eval u, born := clk }
          have hrun : (Instr.mapUpdate t (a.eval x) (a.eval y) (a.eval u)).run P w = .ok () (setMap w b (es'.push e) (clk + 1)) := by
            simp only [Instr.mapUpdate, h2, Sem.run_bind, run_underlying ht, Result.andThen_ok, MapKept.run_getObj_map k3, hck, hf, MapKept.run_setObj_map _ k3]
            rfl
          have ow : Owns h ι md mv mj b := by unfold Owns; rw [hb]; exact k1
          have st : Stays w M (setMap w b (es'.push e) (clk + 1)) M := Stays.setMap k2 k3
          have kp : Kept B (setMap w b (es'.push e) (clk + 1)) := by
            refine ⟨m.keep.os, m.keep.tape, m.keep.output, by rw [setMap_size]; exact m.keep.size, fun b1 hb1 hs1 => ?_, fun b1 hb1 => by rw [setMap_shape k3]; exact m.keep.shape b1 hb1⟩
            rw [setMap_ne]
            · exact m.keep.block b1 hb1 hs1
            · rintro rfl
              rcases m.mine _ _ _ _ ow with q | q
              · exact hs1 q
              · omega
          have md' : Mem nf B ι M (h.set md mv mj .dead) (setMap w b (es'.push e) (clk + 1)) := by
            refine (m.kill md mv mj).move st kp ?_ m.foreign
            intro d' v' j' b2 o2
            by_cases e2 : d' = md ∧ v' = mv ∧ j' = mj
            · obtain ⟨rfl, rfl, rfl⟩ := e2; exact (Owns.putSelf.1 o2).elim
            · have o' := (Owns.put e2).1 o2
              refine ⟨setMap_ne ?_, (m.ownsM o').1⟩
              rintro rfl
              exact e2 (m.inj _ _ _ _ _ _ _ o' ow)
          have e3 : (h.set md mv mj .dead).set md mv mj (.mp (es ++ [(vy, vu)])) = h.set md mv mj (.mp (es ++ [(vy, vu)])) := by
            unfold Heap.set; simp only; congr 1; funext d' v' j'; split <;> rfl
          have k4' := DVE.stays st (Iota.le_refl ι) _ _ k4
          have mm := md'.put (d := md) (v := mv) (j := mj) (c := .mp (es ++ [(vy, vu)])) (by rw [k1]; simp)
            ⟨b, es'.push e, clk + 1, k1, k2, setMap_eq hlt, by
              rw [Array.toList_push]
              exact DVE.append (e := e) (DC.stays st _ _ (flat_closed hy hl hok)) (DV.stays st (Iota.le_refl ι) _ _ hu) _ _ k4'⟩ (by
              intro b2 e4
              have e4 : ι md mv mj = some (.mp b2) := e4
              rw [k1] at e4; cases e4
              exact ⟨fun d2 v2 j2 _ => dirty_not m ow d2 v2 j2, m.mine _ _ _ _ ow⟩)
          rw [e3] at mm
          refine ⟨undef, _, M, .inr ⟨?_, rfl⟩, st, mm, (fun i hi => by cases hi), (fun e => by cases e), fun _ => ⟨DV.unit, [], rfl, by simp, by simp⟩⟩
          rcases ho with ho | ho <;> simp only [execOp, ho, Sem.run_bind, hrun, Result.andThen_ok, Sem.run_pure]
      · cases hr
    · cases hr
  · cases hr

end
end Fo
