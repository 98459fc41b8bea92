/-
  The operations: append (part 17).
-/
import Derived.Test.YtildnnhlpdcglaaFoA16
namespace Fo
open Go
set_option linter.unusedVariables false
set_option linter.unusedSimpArgs false

section
variable {nf : Nm} {P : Program}

theorem DCM.app {w : World} {M : Nat → Prop} {b : Nat} : ∀ (l m : List V) (o : Nat), DCM nf w M b l o → DCM nf w M b m (o + l.length) → DCM nf w M b (l ++ m) o
  | [], m, o, _, h => by simpa using h
  | x :: l, m, o, ⟨h1, h2, h3⟩, h => ⟨h1, h2, DCM.app l m (o + 1) h3 (by rw [List.length_cons] at h; rwa [show o + 1 + l.length = o + (l.length + 1) by omega])⟩
theorem DCM.split {w : World} {M : Nat → Prop} {b : Nat} : ∀ (l m : List V) (o : Nat), DCM nf w M b (l ++ m) o → DCM nf w M b l o ∧ DCM nf w M b m (o + l.length)
  | [], m, o, h => ⟨trivial, by simpa using h⟩
  | x :: l, m, o, ⟨h1, h2, h3⟩ => by
    have := DCM.split l m (o + 1) h3
    exact ⟨⟨h1, h2, this.1⟩, by rw [List.length_cons, show o + (l.length + 1) = o + 1 + l.length by omega]; exact this.2⟩
theorem DCR.flat {w : World} {M : Nat → Prop} {b n : Nat} : ∀ (r : List (List V)) (o : Nat), DCR nf w M b n r o → DCM nf w M b r.flatten o
  | [], _, _ => trivial
  | x :: r, o, ⟨h1, h2, h3⟩ => by rw [List.flatten_cons]; exact DCM.app _ _ _ h2 (by rw [h1]; exact DCR.flat r (o + n) h3)
theorem DCM.unflat {w : World} {M : Nat → Prop} {b n : Nat} : ∀ (r : List (List V)) (o : Nat), (∀ x ∈ r, x.length = n) → DCM nf w M b r.flatten o → DCR nf w M b n r o
  | [], _, _, _ => trivial
  | x :: r, o, hl, h => by
    rw [List.flatten_cons] at h
    have := DCM.split _ _ _ h
    have hx := hl x (by simp)
    exact ⟨hx, this.1, DCM.unflat r (o + n) (fun y hy => hl y (by simp [hy])) (by rw [← hx]; exact this.2)⟩
theorem DCR.lens {w : World} {M : Nat → Prop} {b n : Nat} : ∀ (r : List (List V)) (o : Nat), DCR nf w M b n r o → ∀ x ∈ r, x.length = n
  | [], _, _ => by simp
  | x :: r, o, ⟨h1, _, h3⟩ => by
    intro y hy
    rcases List.mem_cons.1 hy with rfl | hy
    · exact h1
    · exact DCR.lens r (o + n) h3 y hy

theorem cell_isSome {w : World} {b N q : Nat} {e : TypeId} (h : w.shape? b = some (e, N)) (hq : q < N) : (w.cell? ⟨b, q, none⟩).isSome = true := by
  unfold World.shape? at h
  unfold World.cell?
  split at h
  · rename_i c el fz hb
    simp only [Option.some.injEq, Prod.mk.injEq] at h
    simp only [hb]
    simp; omega
  · cases h

theorem ResOK.drawn {B : Base} {ι : Iota} {M : Nat → Prop} {w : World} {mk : Bool} {r : Res} {c : Value} {w' : World} {M' : Nat → Prop} (h : ResOK nf B ι M (drawn1 w) mk r c w' M') : ResOK nf B ι M w mk r c w' M' :=
  ⟨⟨h.stays.size, h.stays.block, h.stays.less, h.stays.shape⟩, h.mem, h.lent, h.new, h.old⟩

theorem flatten_take (n : Nat) : ∀ (k : Nat) (r : List (List V)), (∀ x ∈ r, x.length = n) → (r.take k).flatten = r.flatten.take (k * n)
  | 0, r, _ => by simp
  | k + 1, [], _ => by simp
  | k + 1, x :: r, h => by
    have hx := h x (by simp)
    rw [List.take_succ_cons, List.flatten_cons, List.flatten_cons, flatten_take n k r (fun y hy => h y (by simp [hy])), show (k + 1) * n = x.length + k * n by rw [Nat.add_mul]; omega, List.take_length_add_append]
theorem flatten_drop (n : Nat) : ∀ (k : Nat) (r : List (List V)), (∀ x ∈ r, x.length = n) → (r.drop k).flatten = r.flatten.drop (k * n)
  | 0, r, _ => by simp
  | k + 1, [], _ => by simp
  | k + 1, x :: r, h => by
    have hx := h x (by simp)
    rw [List.drop_succ_cons, List.flatten_cons, flatten_drop n k r (fun y hy => h y (by simp [hy])), show (k + 1) * n = x.length + k * n by rw [Nat.add_mul]; omega, List.drop_length_add_append]

theorem DVc_take {a b n len : Nat} : a + len * n = b → b = a + len * n := fun h => h.symm

theorem run_store_seq {w : World} {b q : Nat} {cs : List Value} (h1 : ∀ v ∈ cs, v.oneCell' = true) (h2 : ∀ k, k < cs.length → (w.cell? ⟨b, q + k, none⟩).isSome = true) (h3 : NF w b) : (storeCells ⟨b, q, none⟩ cs).run P w = .ok () (w.setCells b q cs) := by
  have := run_storeCells_cells (P := P) b q cs 0 w (by simpa using h2) (by intro j _; exact h3 _) h1
  simpa using this

theorem dcl_one {w : World} {M : Nat → Prop} {l : List V} {cs : List Value} (h : DCL nf w M l cs) (ho : l.all V.one = true) : ∀ v ∈ cs, v.oneCell' = true :=
  oneCells (ι := ι00) l cs (DCL.toDV l cs h) ho

theorem firstCells_old {B : Base} {ι : Iota} {M : Nat → Prop} {h : Heap} {w : World} (m : Mem nf B ι M h w) {d v j fr len : Nat} {c : Value} {r : List (List V)} {n : Nat} (hb : h.bl d v j = .rows r) (hx : DV nf ι w M (.own d v j fr len) c) (hn : ∀ x ∈ (r.drop fr).take len, x.length = n) :
    RowsAre (nf := nf) w M n ((r.drop fr).take len) c := rowsOf_ok m (by simp [rowsOf, hb, allRows]) hx hn

theorem grown_ok {ι : Iota} {w : World} {M : Nat → Prop} {n : Nat} {old : List Value} {rows ys : List (List V)} {cs rest : List Value} {t : TypeId} {nc : Nat} (h1 : DCL nf (drawn1 w) M rows.flatten old) (h2 : rows.flatten.all V.one = true) (h3 : ∀ x ∈ rows, x.length = n)
    (g1 : DCL nf (drawn1 w) M ys.flatten cs) (g2 : ys.flatten.all V.one = true) (g3 : ∀ x ∈ ys, x.length = n) (g4 : cs.length = ys.length * n) (e1 : rows.length + ys.length ≤ nc) (e2 : rest.length = (nc - (rows.length + ys.length)) * n) (hne : rows ++ ys ≠ []) :
    XV nf ι ((drawn1 w).alloc (.cells (old.toArray ++ cs.toArray ++ rest.toArray) t)) (Less ι (plusM M (drawn1 w)) []) (.fresh (rows ++ ys)) (.slice (some ⟨(drawn1 w).heap.size, 0, none⟩) (rows ++ ys).length nc) [(drawn1 w).heap.size] := by
  have hl := h1.length
  rw [flatten_len _ h3] at hl
  refine fresh_ok (nf := nf) (ι := ι) (w := drawn1 w) (M := M) (ids := []) (n := n) (rows := rows ++ ys) (A := old.toArray ++ cs.toArray ++ rest.toArray) (t := t) (cap := nc) ?_ ?_ ?_ (by simpa using e1) ?_ (by rintro ⟨i, hi, _⟩; cases hi) hne
  · have e : (old.toArray ++ cs.toArray ++ rest.toArray).toList.take ((rows ++ ys).length * n) = old ++ cs := by
      simp only [Array.toList_append, List.append_assoc]
      rw [← List.append_assoc, List.length_append, Nat.add_mul, ← hl, ← g4, ← List.length_append, List.take_left]
    rw [e, List.flatten_append]
    exact DCL.append _ _ _ _ (DCL.stays (Less.of ι _ M []) _ _ h1) (DCL.stays (Less.of ι _ M []) _ _ g1)
  · rw [List.flatten_append, List.all_append, h2, g2]; rfl
  · intro x hx
    rcases List.mem_append.1 hx with hx | hx
    · exact h3 x hx
    · exact g3 x hx
  · simp only [Array.size_append, List.size_toArray, g4, e2, hl]
    have : nc * n = (rows.length + ys.length) * n + (nc - (rows.length + ys.length)) * n := by rw [← Nat.add_mul]; congr 1; omega
    rw [Nat.add_mul] at this
    omega

theorem tells_app0 {B : Base} {ι : Iota} {M : Nat → Prop} {h : Heap} {a : Act} {w : World} (m : Mem nf B ι M h w) {o : Oper} {x y : Operand} {t t2 e : TypeId} (ho : o.op = .call { callee := .builtin .append, args := #[x, y], argTypes := #[t, t2] })
    {n bytes : Nat} {z : Value} {zero : List V} (he : ElemOK P e n bytes z) (ht : P.underlying t = some (.slice e)) (ht2 : ∀ k, P.underlying t2 ≠ some (.int k)) (ht3 : (P.underlying t2).isSome = true)
    {vx vy : V} {r : Res} (hx : DV nf ι w M vx (a.eval x)) (hy : DV nf ι w M vy (a.eval y)) (hne : vx ≠ .e true) (hr : appV n bytes zero vx vy h = some r) : ∃ c w' M', Tells P o a w c w' ∧ ResOK nf B ι M w true r c w' M' := by
  have hexec : ∀ c w', (Builtin.append_ #[t, t2] o.type #[a.eval x, a.eval y]).run P w = .ok c w' → Tells P o a w c w' := by
    intro c w' hrun
    exact .inl (by simp [execOp, ho, resolve, invoke, builtin, hrun])
  unfold appV at hr
  split at hr
  · cases hr
  · rename_i ys hys
    split at hr
    · cases hr
    · rename_i hcond
      simp only [Decidable.not_not, List.all_eq_true, decide_eq_true_eq] at hcond
      have hn := hcond.1
      have ra := rowsOf_ok m hys hy hn
      have hslice : ∃ a' cap', a.eval y = .slice a' ys.length cap' := let ⟨a', cap', _, e1, _⟩ := ra.ex; ⟨a', cap', e1⟩
      have md := m.drawn1
      have rad : RowsAre (nf := nf) (drawn1 w) M n ys (a.eval y) := by
        refine rowsOf_ok md hys ?_ hn
        exact DV.stays (w := w) (w' := drawn1 w) (M := M) ⟨Nat.le_refl _, fun _ _ _ => rfl, fun _ h => .inl h, fun _ _ => rfl⟩ (Iota.le_refl ι) _ _ hy
      obtain ⟨cs, f1, f2, f3, f4⟩ := ra.first (P := P) hn
      obtain ⟨csd, g1, g2, g3, g4⟩ := rad.first (P := P) hn
      split at hr
      · -- onto nothing
        split at hr
        · rename_i hroom
          cases hr
          obtain ⟨_, ad, ex⟩ := hx
          by_cases h0 : ys.length = 0
          · have hys0 : ys = [] := List.eq_nil_of_length_eq_zero h0
            subst hys0
            have hcs : cs = [] := List.eq_nil_of_length_eq_zero (by simpa using f3)
            subst hcs
            have hrun := run_append_place (P := P) (t := t) (t2 := t2) (ty := o.type) (a := ad) (len := 0) (cap := 0) (ys := []) (c := a.eval y) (cs := []) (w' := w) he ht ht2 ht3 hslice f1 (by simp) (fun b _ => by simp [storeCells]) (fun _ => rfl)
            rw [← ex] at hrun
            exact ⟨_, w, M, hexec _ _ hrun, ResOK.plain m ⟨rfl, ad, rfl⟩⟩
          · obtain ⟨nc, rest, e1, e2, hrun⟩ := run_append_grow (P := P) (t := t) (t2 := t2) (ty := o.type) (a := ad) (len := 0) (cap := 0) (ys := ys) (c := a.eval y) (cs := csd) (old := []) (w := w) he ht ht2 ht3 hslice g1
              (by cases ad <;> simp [Builtin.firstCells, loadCells, loadCellsFrom]) (by omega) (by omega)
            rw [← ex] at hrun
            refine ⟨_, _, _, hexec _ _ hrun, (ResOK.alloc (w := drawn1 w) md _ (ids := []) (by simp) ?_).drawn⟩
            have := grown_ok (nf := nf) (ι := ι) (w := w) (M := M) (n := n) (old := []) (rows := []) (ys := ys) (cs := csd) (rest := rest) (t := e) (nc := nc) rfl rfl (by simp) g2 g4 hn g3 (by simpa using e1) (by simpa using e2) (by intro h9; simp at h9; rw [h9] at h0; exact h0 rfl)
            simp at this ⊢
            exact this
        · cases hr
      · exact absurd rfl hne
      · -- onto the frame's own
        rename_i d v j fr len
        split at hr
        · rename_i rr hb
          split at hr
          · rename_i hle0
            obtain ⟨hle, hrn⟩ := hle0
            simp only [List.all_eq_true, decide_eq_true_eq] at hrn
            have k := m.blk d v j
            rw [hb] at k
            have ralen : ((rr.drop fr).take len).length = len := by rw [List.length_take, List.length_drop]; omega
            have rans : ∀ x ∈ (rr.drop fr).take len, x.length = n := fun x hx => hrn x (List.mem_of_mem_drop (List.mem_of_mem_take hx))
            rcases hx with ⟨h1, rfl, rfl, ad, ex⟩ | ⟨b, o', n', tot, ad, cap, e', N, h1, ex, h3, h4, h5, h6, h7, h8⟩
            · -- nothing so far
              have hr0 : rr = [] := by
                rcases k with ⟨_, k2⟩ | ⟨hne, b', o2, n2, e2, N2, k1, _⟩
                · exact k2
                · rw [k1] at h1; cases h1
              subst hr0
              split at hr
              · rename_i hin
                cases hr
                have hys0 : ys = [] := by simpa using hin
                subst hys0
                have hcs : cs = [] := List.eq_nil_of_length_eq_zero (by simpa using f3)
                subst hcs
                have hrun := run_append_place (P := P) (t := t) (t2 := t2) (ty := o.type) (a := ad) (len := 0) (cap := 0) (ys := []) (c := a.eval y) (cs := []) (w' := w) he ht ht2 ht3 hslice f1 (by simp) (fun b _ => by simp [storeCells]) (fun _ => rfl)
                rw [← ex] at hrun
                show ∃ c w' M', Tells P o a w c w' ∧ ResOK nf B ι M w true ⟨.own d v j 0 0, h.set d v j (.rows []), [], []⟩ c w' M'
                refine ⟨_, w, M, hexec _ _ hrun, ResOK.plain (m.put (d := d) (v := v) (j := j) (c := .rows []) (by rw [h1]; simp) (Or.inl ⟨h1, rfl⟩) ?_) (.inl ⟨h1, rfl, rfl, ad, rfl⟩)⟩
                rintro b ⟨o2, n2, t2', e2⟩; rw [h1] at e2; cases e2
              · split at hr
                · rename_i hin hroom
                  cases hr
                  have hy1 : ys.length ≠ 0 := by intro h0; apply hin; rw [h0]; simp
                  obtain ⟨nc, rest, e1, e2, hrun⟩ := run_append_grow (P := P) (t := t) (t2 := t2) (ty := o.type) (a := ad) (len := 0) (cap := 0) (ys := ys) (c := a.eval y) (cs := csd) (old := []) (w := w) he ht ht2 ht3 hslice g1
                    (by cases ad <;> simp [Builtin.firstCells, loadCells, loadCellsFrom]) (by omega) (by omega)
                  rw [← ex] at hrun
                  refine ⟨_, _, _, hexec _ _ hrun, (ResOK.alloc (w := drawn1 w) (md.kill d v j) _ (ids := []) (by simp) ?_).drawn⟩
                  have := grown_ok (nf := nf) (ι := ι) (w := w) (M := M) (n := n) (old := []) (rows := []) (ys := ys) (cs := csd) (rest := rest) (t := e) (nc := nc) rfl rfl (by simp) g2 g4 hn g3 (by simpa using e1) (by simpa using e2) (by intro h0; simp at h0; rw [h0] at hy1; exact hy1 rfl)
                  simp at this ⊢
                  exact this
                · cases hr
            · rcases k with ⟨k1, k2⟩ | ⟨hne, b', o2, n2, e2, N2, k1, k2, k3, k4, k5, k6⟩
              · rw [k1] at h1; cases h1
              rw [k1] at h1; cases h1
              rw [k4] at h7; cases h7
              have ow : Owns h ι d v j b := by unfold Owns; rw [hb]; exact ⟨_, _, _, k1⟩
              have hnn : n' = n := by
                cases rr with
                | nil => exact absurd rfl hne
                | cons q qs => have e1 := DCR.lens _ _ k6 q (by simp); have e2 := hrn q (by simp); omega
              subst hnn
              have hcap0 : ys.length = 0 ∨ ad = some ⟨b, o' + fr * n', none⟩ ∨ cap = 0 := .inr h6
              split at hr
              · -- in place, in what is known
                rename_i hin
                cases hr
                have hcapn : len + ys.length ≤ cap := by omega
                -- what is written
                by_cases hy0 : ys.length = 0
                · have hys0 : ys = [] := List.eq_nil_of_length_eq_zero hy0
                  subst hys0
                  have hcs : cs = [] := List.eq_nil_of_length_eq_zero (by simpa using f3)
                  subst hcs
                  have hrun := run_append_place (P := P) (t := t) (t2 := t2) (ty := o.type) (a := ad) (len := len) (cap := cap) (ys := []) (c := a.eval y) (cs := []) (w' := w) he ht ht2 ht3 hslice f1 (by simpa using h3) (fun b _ => by simp [storeCells]) (fun _ => rfl)
                  rw [← ex] at hrun
                  have hsame : rr.take (fr + len) ++ ([] ++ rr.drop (fr + len + ([] : List (List V)).length)) = rr := by simp
                  rw [hsame]
                  refine ⟨_, w, M, hexec _ _ hrun, ResOK.plain (m.put (d := d) (v := v) (j := j) (c := .rows rr) (by rw [k1]; simp) (Or.inr ⟨hne, b, o', n', e', N, k1, k2, k3, k4, k5, k6⟩) ?_) (.inr ⟨b, o', n', rr.length, _, cap, e', N, k1, rfl, by simpa using h3, by simpa using hle, h5, h6, k4, h8⟩)⟩
                  rintro b2 ⟨o4, n4, t4, e4⟩
                  rw [k1] at e4; cases e4
                  exact ⟨fun d2 v2 j2 ne o5 => ne (m.inj _ _ _ _ _ _ _ o5 ow), m.mine _ _ _ _ ow⟩
                · have had : ad = some ⟨b, o' + fr * n', none⟩ := by rcases h6 with h6 | h6; exact h6; omega
                  subst had
                  have hq : o' + fr * n' + len * n' = o' + (fr + len) * n' := by rw [Nat.add_mul]; omega
                  have hbound : o' + (fr + len) * n' + ys.length * n' ≤ o' + rr.length * n' := by
                    rw [Nat.add_assoc, ← Nat.add_mul]; exact Nat.add_le_add_left (Nat.mul_le_mul_right _ hin) _
                  have hst : (storeCells ((⟨b, o' + fr * n', none⟩ : Addr).add (len * n')) cs).run P w = .ok () (w.setCells b (o' + (fr + len) * n') cs) := by
                    rw [Addr.add_lit, hq]
                    exact run_store_seq (dcl_one f2 f4) (fun k hk => cell_isSome k4 (by omega)) k3
                  have hrun := run_append_place (P := P) (t := t) (t2 := t2) (ty := o.type) (a := some ⟨b, o' + fr * n', none⟩) (len := len) (cap := cap) (ys := ys) (c := a.eval y) (cs := cs) (w' := w.setCells b (o' + (fr + len) * n') cs) he ht ht2 ht3 hslice f1 hcapn (fun b2 hb2 => by cases hb2; exact hst) (fun h0 => by cases h0)
                  rw [← ex] at hrun
                  have hflat : (rr.take (fr + len) ++ (ys ++ rr.drop (fr + len + ys.length))).flatten = splice rr.flatten ((fr + len) * n') ys.flatten := by
                    unfold splice
                    rw [List.flatten_append, List.flatten_append, flatten_take n' _ _ hrn, flatten_drop n' _ _ hrn, flatten_len _ hn, Nat.add_mul (fr + len)]
                  have hlens : ∀ x ∈ rr.take (fr + len) ++ (ys ++ rr.drop (fr + len + ys.length)), x.length = n' := by
                    intro x hx
                    rcases List.mem_append.1 hx with hx | hx
                    · exact hrn x (List.mem_of_mem_take hx)
                    · rcases List.mem_append.1 hx with hx | hx
                      · exact hn x hx
                      · exact hrn x (List.mem_of_mem_drop hx)
                  have hnl : (rr.take (fr + len) ++ (ys ++ rr.drop (fr + len + ys.length))).length = rr.length := by simp; omega
                  have hwr := DCM.write k2 k6.flat f2 f4 (off := (fr + len) * n') (by rw [flatten_len _ hn, flatten_len _ hrn, ← Nat.add_mul]; exact Nat.mul_le_mul_right _ hin)
                  rw [← hflat] at hwr
                  have hnew := DCM.unflat _ _ hlens hwr
                  have mdt := m.dirty ow cs (o' + (fr + len) * n')
                  have e3 : ∀ (c : Bc), (h.set d v j .dead).set d v j c = h.set d v j c := by
                    intro c; unfold Heap.set; simp only; congr 1; funext d' v' j'; split <;> rfl
                  have mm := mdt.put (d := d) (v := v) (j := j) (c := .rows (rr.take (fr + len) ++ (ys ++ rr.drop (fr + len + ys.length)))) (by rw [k1]; simp)
                    (Or.inr ⟨by intro h0; rw [h0] at hnl; simp at hnl; exact hne (List.eq_nil_of_length_eq_zero hnl.symm), b, o', n', e', N, by rw [hnl]; exact k1, k2, fun x => by rw [World.frozen?_setCells]; exact k3 x, by rw [shape_setCells]; exact k4, by rw [hnl]; exact k5, hnew⟩) (by
                      rintro b2 ⟨o4, n4, t4, e4⟩
                      rw [k1] at e4; cases e4
                      exact ⟨fun d2 v2 j2 _ => dirty_not m ow d2 v2 j2, m.mine _ _ _ _ ow⟩)
                  rw [e3] at mm
                  refine ⟨_, _, M, hexec _ _ hrun, ⟨Stays.setCells k2 cs _, mm, (fun i hi => by cases hi), fun _ => ⟨[], [], ⟨rfl, ?_⟩, rfl, by simp, by simp⟩, fun e => by cases e⟩⟩
                  exact Or.inr ⟨b, o', n', rr.length, _, cap, e', N, k1, rfl, hcapn, by omega, h5, .inl rfl, by rw [shape_setCells]; exact k4, h8⟩
              · split at hr
                · rename_i hin hroom
                  cases hr
                  have hy1 : ys.length ≠ 0 := by omega
                  have hne2 : (rr.drop fr).take len ++ ys ≠ [] := by
                    intro h0; have := congrArg List.length h0; simp at this; rw [this.2] at hy1; exact hy1 rfl
                  by_cases hcapn : len + ys.length ≤ cap
                  · -- in place, beyond what is known
                    have had : ad = some ⟨b, o' + fr * n', none⟩ := by rcases h6 with h6 | h6; exact h6; omega
                    subst had
                    have hq : o' + fr * n' + len * n' = o' + (fr + len) * n' := by rw [Nat.add_mul]; omega
                    have hcapN : o' + fr * n' + cap * n' ≤ N := by rw [Nat.add_assoc, ← Nat.add_mul]; exact h8
                    have hbound : o' + (fr + len) * n' + ys.length * n' ≤ N := by
                      have : (len + ys.length) * n' ≤ cap * n' := Nat.mul_le_mul_right _ hcapn
                      rw [Nat.add_mul] at this
                      rw [← hq]; omega
                    have hst : (storeCells ((⟨b, o' + fr * n', none⟩ : Addr).add (len * n')) cs).run P w = .ok () (w.setCells b (o' + (fr + len) * n') cs) := by
                      rw [Addr.add_lit, hq]
                      exact run_store_seq (dcl_one f2 f4) (fun k hk => cell_isSome k4 (by omega)) k3
                    have hrun := run_append_place (P := P) (t := t) (t2 := t2) (ty := o.type) (a := some ⟨b, o' + fr * n', none⟩) (len := len) (cap := cap) (ys := ys) (c := a.eval y) (cs := cs) (w' := w.setCells b (o' + (fr + len) * n') cs) he ht ht2 ht3 hslice f1 hcapn (fun b2 hb2 => by cases hb2; exact hst) (fun h0 => by cases h0)
                    rw [← ex] at hrun
                    have s := Stays.setCells (w := w) k2 cs (o' + (fr + len) * n')
                    have s2 : Stays w M (w.setCells b (o' + (fr + len) * n') cs) (Less ι M []) := ⟨s.size, s.block, fun q hq => .inl hq.1, s.shape⟩
                    obtain ⟨c1, d1, d2, d3, d4⟩ := (DCR.take len _ _ (DCR.drop fr rr o' k6)).cells
                    have hl1 : c1.length = len * n' := by rw [d1.length, flatten_len _ rans, ralen]
                    refine ⟨_, _, M, hexec _ _ hrun, ⟨s, m.dirty ow cs _, (fun i hi => by cases hi), fun _ => ⟨[b], [], Or.inr ⟨hne2, b, o' + fr * n', n', cap, e', N, by rw [List.length_append, ralen], by rw [List.length_append, ralen]; exact hcapn, rfl, ⟨k2, by rintro ⟨i, hi, _⟩; cases hi⟩, fun x => by rw [World.frozen?_setCells]; exact k3 x, by rw [shape_setCells]; exact k4, hcapN, ?_⟩, rfl, by simp, ?_⟩, fun e => by cases e⟩⟩
                    · refine DCR.mk _ (c1 ++ cs) _ ?_ ?_ ?_ ?_
                      · intro x hx
                        rcases List.mem_append.1 hx with hx | hx
                        · exact rans x hx
                        · exact hn x hx
                      · rw [List.flatten_append]
                        exact DCL.append _ _ _ _ (DCL.stays s2 _ _ d1) (DCL.stays s2 _ _ f2)
                      · intro k c hk
                        by_cases hk1 : k < c1.length
                        · rw [List.getElem?_append_left hk1] at hk
                          rw [World.cell?_setCells_out b cs _ w _ (fun _ _ => .inl (by simp; omega))]
                          exact d2 k c hk
                        · rw [List.getElem?_append_right (by omega)] at hk
                          obtain ⟨hlt, hv⟩ := List.getElem?_eq_some_iff.1 hk
                          have := World.cell?_setCells_in b cs (o' + (fr + len) * n') w (fun j hj => cell_isSome k4 (by omega)) (k - c1.length) hlt
                          rw [show o' + (fr + len) * n' + (k - c1.length) = o' + fr * n' + k by rw [← hq]; omega, hv] at this
                          exact this
                      · rw [List.flatten_append, List.all_append, d3, f4]; rfl
                    · intro x hx
                      obtain rfl : x = b := by simpa using hx
                      exact ⟨fun d' v' j' => dirty_not m ow d' v' j', m.mine _ _ _ _ ow⟩
                  · -- grown
                    have hxd : DV nf ι (drawn1 w) M (.own d v j fr len) (.slice ad len cap) := Or.inr ⟨b, o', n', rr.length, ad, cap, e', N, k1, rfl, h3, hle, h5, h6, k4, h8⟩
                    have raw := firstCells_old md hb hxd rans
                    obtain ⟨oldc, q1, q2, q3, q4⟩ := raw.first (P := P) rans
                    rw [ralen] at q1 q3
                    obtain ⟨nc, rest, e1, e2', hrun⟩ := run_append_grow (P := P) (t := t) (t2 := t2) (ty := o.type) (a := ad) (len := len) (cap := cap) (ys := ys) (c := a.eval y) (cs := csd) (old := oldc) (w := w) he ht ht2 ht3 hslice g1 q1 (by omega) (by omega)
                    rw [← ex] at hrun
                    refine ⟨_, _, _, hexec _ _ hrun, (ResOK.alloc (w := drawn1 w) (md.kill d v j) _ (ids := []) (by simp) ?_).drawn⟩
                    have := grown_ok (nf := nf) (ι := ι) (w := w) (M := M) (n := n') (old := oldc) (rows := (rr.drop fr).take len) (ys := ys) (cs := csd) (rest := rest) (t := e) (nc := nc) q2 q4 rans g2 g4 hn g3 (by rw [ralen]; exact e1) (by rw [ralen]; exact e2') hne2
                    rw [List.length_append, ralen] at this
                    exact this
                · cases hr
          · cases hr
        · cases hr
      · cases hr


theorem tells_app {B : Base} {ι : Iota} {M : Nat → Prop} {h : Heap} {a : Act} {w : World} (m : Mem nf B ι M h w) {o : Oper} {x y : Operand} {t t2 e : TypeId} (ho : o.op = .call { callee := .builtin .append, args := #[x, y], argTypes := #[t, t2] })
    {n bytes : Nat} {z : Value} {zero : List V} (he : ElemOK P e n bytes z) (ht : P.underlying t = some (.slice e)) (ht2 : ∀ k, P.underlying t2 ≠ some (.int k)) (ht3 : (P.underlying t2).isSome = true)
    {vx vy : V} {r : Res} (hx : DV nf ι w M vx (a.eval x)) (hy : DV nf ι w M vy (a.eval y)) (hr : appV n bytes zero vx vy h = some r) : ∃ c w' M', Tells P o a w c w' ∧ ResOK nf B ι M w true r c w' M' := by
  by_cases hne : vx = .e true
  · subst hne
    refine tells_app0 m ho he ht ht2 ht3 (vx := .fresh []) ⟨rfl, none, hx⟩ hy (by simp) (zero := zero) ?_
    rw [← hr]
    unfold appV
    rfl
  · exact tells_app0 m ho he ht ht2 ht3 hx hy hne hr

end
end Fo
