/-
  The operations: make of slices, looking up in maps, laying into them (part 39).
-/
import Derived.Test.YtildnnhlpdcglaaFoA38
namespace Fo
open Go
set_option linter.unusedVariables false
set_option linter.unusedSimpArgs false

section
variable {nf : Nm} {P : Program}

theorem tells_mkslice {B : Base} {ι : Iota} {M : Nat → Prop} {h : Heap} {a : Act} {w : World} (m : Mem nf B ι M h w) {o : Oper} {t e : TypeId} {x y : Operand} (ho : o.op = .makeSlice t x y) {n bytes : Nat} {i : TypeInfo} {z : Value} {zero : List V} {vx vy : V} {r : Res}
    (ht : P.underlying t = some (.slice e)) (hi : P.info? e = some i) (hn : i.size = n) (hby : i.bytes = bytes) (hz : i.zero = some z) (hzs : z.cells.size = n) (hzd : DCL nf w M zero z.cells.toList) (hzo : zero.all V.one = true)
    (hx : DV nf ι w M vx (a.eval x)) (hy : DV nf ι w M vy (a.eval y)) (hr : comp (.mkslice zero bytes) [vx, vy] h = some r) : ∃ c w' M', Tells P o a w c w' ∧ ResOK nf B ι M w true r c w' M' := by
  simp only [comp] at hr
  unfold mksliceV at hr
  split at hr
  · rename_i l c
    split at hr
    · rename_i hc
      obtain ⟨h0, rfl, h2, h3⟩ := hc
      cases hr
      subst hn hby
      have hroom : l ≤ 4294967296 := h2
      have hb : (i.bytes : Int) * l ≤ 4096 * 4294967296 := Int.mul_le_mul (by omega) hroom h0 (by omega)
      have hrun := run_make (P := P) w t e i z ht hi hz .i64 .i64 l l h0 (Int.le_refl _) (by omega) (by omega)
      have hex : (execOp a.eval o).run P w = .ok (.value (.slice (some ⟨w.heap.size, 0, none⟩) l.toNat l.toNat)) (w.alloc (.cells (madeCells z.cells (l.toNat * i.size)) e)) := by
        simp only [execOp, ho, show a.eval x = _ from hx, show a.eval y = _ from hy, Sem.run_bind, hrun, Result.andThen_ok, Sem.run_pure]
      have hzl : zero.length = i.size := by have := hzd.length; rw [Array.length_toList] at this; omega
      by_cases hl0 : l.toNat = 0
      · refine ⟨_, _, plusM M w, .inl hex, Stays.alloc w M _, m.alloc _, (fun i hi => (by cases hi)), fun _ => ⟨[], [], .inl ⟨by rw [hl0]; rfl, rfl, some ⟨w.heap.size, 0, none⟩, by rw [hl0]⟩, rfl, by simp, by simp⟩, fun e => by cases e⟩
      · refine ⟨_, _, plusM M w, .inl hex, ResOK.alloc m _ (ids := []) (by simp) ?_⟩
        have hf := zeros_flat z.cells i.size hzs l.toNat
        have hs : (madeCells z.cells (l.toNat * i.size)).size = l.toNat * i.size := size_madeCells _ _
        have hlen : (List.replicate l.toNat zero).length = l.toNat := List.length_replicate
        have := fresh_ok (nf := nf) (ι := ι) (w := w) (M := M) (ids := []) (n := i.size) (rows := List.replicate l.toNat zero) (A := madeCells z.cells (l.toNat * i.size)) (t := e) (cap := l.toNat)
          (by
            rw [hlen, List.take_of_length_le (by rw [Array.length_toList, hs]; exact Nat.le_refl _)]
            have e1 : (madeCells z.cells (l.toNat * i.size)).toList = (List.replicate l.toNat z.cells.toList).flatten := hf
            rw [e1]
            exact DCL.replicate (DCL.stays (Less.of ι w M []) _ _ hzd) _)
          (one_replicate hzo _) (by intro x hx; rw [(List.mem_replicate.1 hx).2]; exact hzl) (by rw [hlen]; exact Nat.le_refl _) (by rw [hs]; exact Nat.le_refl _)
          (by rintro ⟨i, hi, _⟩; cases hi) (by intro h0; rw [h0] at hlen; exact hl0 hlen.symm)
        rw [hlen] at this
        exact this
    · cases hr
  · cases hr

/- Keys that are flat. -/
theorem DVL.closed {ι : Iota} {w : World} {M : Nat → Prop} : ∀ (s : List (Option IntKind)) (l : List V) (cs : List Value), DVL nf ι w M l cs → okS s l = true → DCL nf w M l cs
  | [], [], cs, h, _ => h
  | [], x :: l, cs, h, e => by simp [okS] at e
  | none :: s, [], cs, h, e => by simp [okS] at e
  | some k :: s, [], cs, h, e => by simp [okS] at e
  | none :: s, x :: l, cs, ⟨c, cs', e1, h1, h2⟩, e => by
    cases x <;> simp only [okS, Bool.false_eq_true] at e
    exact ⟨c, cs', e1, h1, DVL.closed s l cs' h2 e⟩
  | some k :: s, x :: l, cs, ⟨c, cs', e1, h1, h2⟩, e => by
    cases x <;> simp only [okS, Bool.false_eq_true, Bool.and_eq_true, beq_iff_eq] at e <;> exact ⟨c, cs', e1, h1, DVL.closed s l cs' h2 e.2⟩

theorem flat_closed {ι : Iota} {w : World} {M : Nat → Prop} {agg : Bool} {s : List (Option IntKind)} {x : V} {c : Value} {l : List V} (hx : DV nf ι w M x c) (hf : flatC agg x = some l) (ho : okS s l = true) : DC nf w M x c := by
  cases x <;> simp only [flatC, reduceCtorEq] at hf
  · exact hx
  · exact hx
  · exact hx
  · cases agg <;> simp at hf
    subst hf
    obtain ⟨h1, cs, e, hd⟩ := hx
    exact ⟨h1, cs, e, DVL.closed s _ _ hd ho⟩

def Found (ι : Iota) (w : World) (M : Nat → Prop) : Option V → Option (Nat × Value) → Prop
  | none, none => True
  | some v, some (_, c) => DV nf ι w M v c
  | _, _ => False

theorem findNow_ok {ι : Iota} {w : World} {M : Nat → Prop} {d : Nat} {t : TypeId} {s : List (Option IntKind)} (hs : sigT P d t = some s) (ha : aggOf P t = some false) {td : TypeDesc} (hu : P.underlying t = some td) {k : V} {ck : Value} {l : List V}
    (hk : DV nf ι w M k ck) (hl : flatC false k = some l) (ho : okS s l = true) : ∀ (es : List (V × V)) (ms : List MapEntry) (i : Nat) (r : Option V), DVE nf ι w M es ms → findKey false s l es = some r →
      ∃ q, Instr.findNow td ck ms i = some q ∧ Found (nf := nf) ι w M r q
  | [], ms, i, r, h, hf => by
    have h : ms = [] := h
    simp only [findKey, Option.some.injEq] at hf
    subst h hf
    exact ⟨none, rfl, trivial⟩
  | (q, v) :: es, ms, i, r, ⟨e, ms', em, h1, h2, h3⟩, hf => by
    subst em
    simp only [findKey] at hf
    split at hf
    · rename_i m2 hm2
      split at hf
      · rename_i hok
        obtain ⟨cs, hcs, ecs⟩ := flat_mk (P := P) hs ha hk hl ho
        obtain ⟨ds, hds, eds⟩ := flat_mk (P := P) hs ha (DC.toDV (ι := ι) _ _ h1) hm2 hok
        have heq := fun q => eqC_eq s _ _ _ _ q hcs hds ho hok
        have sc := sigOK_of s _ _ hcs ho
        have sd := sigOK_of s _ _ hds hok
        have hnow : ∀ q, eqC l m2 = some q → Instr.sameNow td ck e.key = some q := by
          intro q hq
          cases d with
          | zero => simp [sigT] at hs
          | succ d =>
            unfold sigT at hs
            cases td <;> simp only [hu, reduceCtorEq] at hs <;> (try (simp [aggOf, hu] at ha; done))
            · cases hs
              obtain ⟨b1, q1, f1, g1⟩ := sc
              obtain ⟨b2, q2, f2, g2⟩ := sd
              have g1 : q1 = [] := g1
              have g2 : q2 = [] := g2
              subst g1 g2
              rw [heq q hq, ecs, eds, f1, f2]
              simp [mkV, ha, Instr.sameNow, eqVs, eq1s]
            · cases hs
              obtain ⟨b1, q1, f1, g1⟩ := sc
              obtain ⟨b2, q2, f2, g2⟩ := sd
              have g1 : q1 = [] := g1
              have g2 : q2 = [] := g2
              subst g1 g2
              rw [heq q hq, ecs, eds, f1, f2]
              simp [mkV, ha, Instr.sameNow, eqVs, eq1s]
        split at hf
        · rename_i he
          cases hf
          have hnow := hnow _ he
          exact ⟨some (i, e.val), by simp [Instr.findNow, hnow], h2⟩
        · rename_i he
          have hnow := hnow _ he
          obtain ⟨q2, r1, r2⟩ := findNow_ok hs ha hu hk hl ho es ms' (i + 1) r h3 hf
          exact ⟨q2, by simp [Instr.findNow, hnow, r1], r2⟩
        · cases hf
      · cases hf
    · cases hf

theorem findAsking_ok {ι : Iota} {w : World} {M : Nat → Prop} {d : Nat} {t : TypeId} {s : List (Option IntKind)} (hs : sigT P d t = some s) (hd : d ≤ Op.maxDepth) {agg : Bool} (ha : aggOf P t = some agg) {k : V} {ck : Value} {l : List V}
    (hk : DV nf ι w M k ck) (hl : flatC agg k = some l) (ho : okS s l = true) : ∀ (es : List (V × V)) (ms : List MapEntry) (i : Nat) (r : Option V), DVE nf ι w M es ms → findKey agg s l es = some r →
      ∃ q, (Instr.findAsking t ck ms i).run P w = .ok q w ∧ Found (nf := nf) ι w M r q
  | [], ms, i, r, h, hf => by
    have h : ms = [] := h
    simp only [findKey, Option.some.injEq] at hf
    subst h hf
    exact ⟨none, rfl, trivial⟩
  | (q, v) :: es, ms, i, r, ⟨e, ms', em, h1, h2, h3⟩, hf => by
    subst em
    simp only [findKey] at hf
    split at hf
    · rename_i m2 hm2
      split at hf
      · rename_i hok
        obtain ⟨cs, hcs, ecs⟩ := flat_mk (P := P) hs ha hk hl ho
        obtain ⟨ds, hds, eds⟩ := flat_mk (P := P) hs ha (DC.toDV (ι := ι) _ _ h1) hm2 hok
        have heq := fun q => eqC_eq s _ _ _ _ q hcs hds ho hok
        have hrun := eqT_ok d t s Op.maxDepth cs ds w hs hd (sigOK_of s _ _ hcs ho) (sigOK_of s _ _ hds hok)
        rw [← ecs, ← eds] at hrun
        split at hf
        · rename_i he
          cases hf
          rw [← heq _ he] at hrun
          exact ⟨some (i, e.val), by simp only [Instr.findAsking, Op.equal, Sem.run_bind, hrun, Result.andThen_ok, if_true, Sem.run_pure], h2⟩
        · rename_i he
          rw [← heq _ he] at hrun
          obtain ⟨q2, r1, r2⟩ := findAsking_ok hs hd ha hk hl ho es ms' (i + 1) r h3 hf
          exact ⟨q2, by simp only [Instr.findAsking, Op.equal, Sem.run_bind, hrun, Result.andThen_ok, Bool.false_eq_true, if_false, r1], r2⟩
        · cases hf
      · cases hf
    · cases hf

theorem findKey_ok {ι : Iota} {w : World} {M : Nat → Prop} {d : Nat} {t : TypeId} {s : List (Option IntKind)} (hs : sigT P d t = some s) (hd : d ≤ Op.maxDepth) {agg : Bool} (ha : aggOf P t = some agg) {k : V} {ck : Value} {l : List V}
    (hk : DV nf ι w M k ck) (hl : flatC agg k = some l) (ho : okS s l = true) {es : List (V × V)} {ms : List MapEntry} {r : Option V} (he : DVE nf ι w M es ms) (hf : findKey agg s l es = some r) :
      ∃ q, (Instr.findKey t ck ms).run P w = .ok q w ∧ Found (nf := nf) ι w M r q := by
  have hu : ∃ td, P.underlying t = some td := by
    cases h : P.underlying t with
    | none => simp [aggOf, h] at ha
    | some td => exact ⟨td, rfl⟩
  obtain ⟨td, hu⟩ := hu
  cases agg with
  | false =>
    obtain ⟨q, h1, h2⟩ := findNow_ok hs ha hu hk hl ho es ms 0 r he hf
    exact ⟨q, MapKept.run_findKey hu h1, h2⟩
  | true =>
    obtain ⟨q, h1, h2⟩ := findAsking_ok hs hd ha hk hl ho es ms 0 r he hf
    refine ⟨q, ?_, h2⟩
    simp only [Instr.findKey, Sem.run_bind, run_underlying hu, Result.andThen_ok]
    cases hn : Instr.findNow td ck ms 0 with
    | none => simpa using h1
    | some q2 =>
      simp only [Sem.run_pure]
      cases ms with
      | nil => simp only [Instr.findNow, Option.some.injEq] at hn; subst hn; exact h1
      | cons e ms =>
        exfalso
        obtain ⟨cs, hcs, ecs⟩ := flat_mk (P := P) hs ha hk hl ho
        have : ck = .agg cs.toArray := by rw [ecs]; simp [mkV, ha]
        rw [this] at hn
        cases td <;> simp [Instr.findNow, Instr.sameNow] at hn

theorem run_check {ι : Iota} {w : World} {M : Nat → Prop} {d : Nat} {t : TypeId} {s : List (Option IntKind)} (hs : sigT P d t = some s) (hd : d ≤ 10000) {agg : Bool} (ha : aggOf P t = some agg) {k : V} {ck : Value} {l : List V}
    (hk : DV nf ι w M k ck) (hl : flatC agg k = some l) (ho : okS s l = true) (em : Bool) : (Instr.checkKey em 10000 t ck).run P w = .ok () w := by
  obtain ⟨cs, hcs, ecs⟩ := flat_mk (P := P) hs ha hk hl ho
  rw [ecs]
  exact chkT_ok em d t s 10000 cs w hs hd (sigOK_of s _ _ hcs ho)

theorem tells_lookup {B : Base} {ι : Iota} {M : Nat → Prop} {h : Heap} {a : Act} {w : World} (m : Mem nf B ι M h w) {o : Oper} {t kt et : TypeId} {x y : Operand} {ok : Bool} (ho : o.op = .lookup t x y ok) {d : Nat} {agg : Bool} {s : List (Option IntKind)} {zero vx vy : V} {z : Value} {r : Res}
    (ht : P.underlying t = some (.map kt et)) (hs : sigT P d kt = some s) (hd : d ≤ 100) (hdm : d ≤ Op.maxDepth) (ha : aggOf P kt = some agg) (hz : (P.info? et).bind (·.zero) = some z) (hzd : ∀ ι, DV nf ι w M zero z)
    (hx : DV nf ι w M vx (a.eval x)) (hy : DV nf ι w M vy (a.eval y)) (hr : comp (.lookup agg s zero ok) [vx, vy] h = some r) : ∃ c w' M', Tells P o a w c w' ∧ ResOK nf B ι M w false r c w' M' := by
  cases vx <;> simp only [comp, reduceCtorEq] at hr
  rename_i md mv mj
  obtain ⟨b, h1, h2⟩ := hx
  have k := m.blk md mv mj
  split at hr
  · rename_i es l hb hl
    rw [hb] at k
    obtain ⟨b', es', clk, k1, k2, k3, k4⟩ := k
    rw [k1] at h1; cases h1
    split at hr
    · rename_i hok
      simp only [Option.map_eq_some_iff] at hr
      obtain ⟨q, hq, rfl⟩ := hr
      obtain ⟨q2, hf, hfd⟩ := findKey_ok (P := P) hs hdm ha hy hl hok k4 hq
      have hck := run_check (P := P) hs (by omega) ha hy hl hok es'.isEmpty
      have hzr : (Go.zeroValue et).run P w = .ok z w := by rw [zeroOf hz]
      cases q with
      | none =>
        cases q2 with
        | some _ => exact hfd.elim
        | none =>
          refine ⟨if ok then .tuple #[z, .bool false] else z, w, M, .inl ?_, ResOK.plain m ?_⟩
          · simp only [execOp, ho, Instr.lookup, h2, Sem.run_bind, run_underlying ht, Result.andThen_ok, MapKept.run_getObj_map k3, Sem.run_pure, hck, hf, hzr]
          · cases ok with
            | true => exact ⟨[z, .bool false], rfl, ⟨_, _, rfl, hzd ι, _, _, rfl, rfl, rfl⟩⟩
            | false => exact hzd ι
      | some v =>
        cases q2 with
        | none => exact hfd.elim
        | some ic =>
          obtain ⟨i, c⟩ := ic
          have hfd : DV nf ι w M v c := hfd
          refine ⟨if ok then .tuple #[c, .bool true] else c, w, M, .inl ?_, ResOK.plain m ?_⟩
          · simp only [execOp, ho, Instr.lookup, h2, Sem.run_bind, run_underlying ht, Result.andThen_ok, MapKept.run_getObj_map k3, Sem.run_pure, hck, hf]
          · cases ok with
            | true => exact ⟨[c, .bool true], rfl, ⟨_, _, rfl, hfd, _, _, rfl, rfl, rfl⟩⟩
            | false => exact hfd
    · cases hr
  · cases hr

end
end Fo
