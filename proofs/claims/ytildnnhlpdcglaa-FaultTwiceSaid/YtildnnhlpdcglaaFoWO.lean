/-
  What a law is given, as the machine has it: numbers, truths, rows and slices of them (part WO).
-/
import Derived.Test.YtildnnhlpdcglaaFoA47
import Derived.ChangeArms
namespace Fo
open Go Go.ChangeShapes Go.WideShapes Go.ChangeAt Go.RowKit
set_option linter.unusedVariables false
set_option linter.unusedSimpArgs false

/-- The cells of a type. -/
inductive CD where
  | int (k : IntKind)
  | bool
  | sl (l : List CD)
mutual
inductive Fit : CD → V → Prop where
  | int {k : IntKind} {n : Int} (h : (Lit.int k n).wf = true) : Fit (.int k) (.int k n)
  | bool {b : Bool} : Fit .bool (.bool b)
  | sl {ds : List CD} {rows : List (List V)} (h : rows.length ≤ maxLen) (hr : ∀ r ∈ rows, FitL ds r) : Fit (.sl ds) (.sl rows)
inductive FitL : List CD → List V → Prop where
  | nil : FitL [] []
  | cons {d : CD} {v : V} {ds : List CD} {vs : List V} (h : Fit d v) (hs : FitL ds vs) : FitL (d :: ds) (v :: vs)
end
def cdFields (P : Program) (r : TypeId → Option (List CD)) : List Field → Nat → Option (List CD)
  | [], _ => some []
  | f :: fs, off => if f.offset = off then (match r f.type with | some l => if l.length = P.cellsOf f.type then (cdFields P r fs (off + l.length)).map (l ++ ·) else none | none => none) else none
def cdOf (P : Program) : Nat → TypeId → Option (List CD)
  | 0, _ => none
  | n + 1, t =>
    match P.underlying t with
    | some (.int k) => some [.int k]
    | some .bool => some [.bool]
    | some (.slice e) => match cdOf P n e with | some l => if l.length = P.cellsOf e ∧ 0 < l.length then some [.sl l] else none | none => none
    | some (.struct fs) => match cdFields P (cdOf P n) fs.toList 0 with | some l => if l.length = P.cellsOf t then some l else none | none => none
    | some (.array m e) => match cdOf P n e with | some l => if l.length = P.cellsOf e ∧ m * l.length = P.cellsOf t then some (List.replicate m l).flatten else none | none => none
    | _ => none

theorem addr_add (b o k : Nat) : (⟨b, o, none⟩ : Addr).add k = ⟨b, o + k, none⟩ := by
  unfold Addr.add
  split
  · rename_i h; subst h; rfl
  · rfl
def Nobody : Nat → Prop := fun b => False ∨ b ∈ ([] : List Nat)
theorem FitL.append : ∀ {d1 d2 : List CD} {v1 v2 : List V}, FitL d1 v1 → FitL d2 v2 → FitL (d1 ++ d2) (v1 ++ v2)
  | _, _, _, _, .nil, h => h
  | _, _, _, _, .cons h hs, h2 => .cons h (hs.append h2)
theorem FitL.len : ∀ {ds : List CD} {vs : List V}, FitL ds vs → vs.length = ds.length
  | _, _, .nil => rfl
  | _, _, .cons h hs => by simp [hs.len]
theorem Fit.one {d : CD} {v : V} (h : Fit d v) : v.one = true := by cases h <;> rfl
theorem DCL.len' {nf : Nm} {w : World} {M : Nat → Prop} : ∀ {vs : List V} {cs : List Value}, DCL nf w M vs cs → vs.length = cs.length
  | [], cs, h => by obtain rfl : cs = [] := h; rfl
  | _ :: _, _, ⟨c, cs', e, _, h⟩ => by subst e; simp [DCL.len' h]
theorem DCL.app {nf : Nm} {w : World} {M : Nat → Prop} : ∀ {v1 v2 : List V} {c1 c2 : List Value}, DCL nf w M v1 c1 → DCL nf w M v2 c2 → DCL nf w M (v1 ++ v2) (c1 ++ c2)
  | [], _, _, _, h, h2 => by obtain rfl : _ = [] := h; exact h2
  | _ :: _, _, _, _, ⟨c, cs', e, h, hs⟩, h2 => by subst e; exact ⟨c, cs' ++ _, rfl, h, DCL.app hs h2⟩
theorem DCM.of {nf : Nm} {w : World} {M : Nat → Prop} {b : Nat} : ∀ {ds : List CD} {vs : List V} {cs : List Value} {o : Nat}, FitL ds vs → DCL nf w M vs cs → (∀ i, i < cs.length → w.cell? ⟨b, o + i, none⟩ = cs[i]?) → DCM nf w M b vs o
  | _, _, _, _, .nil, _, _ => trivial
  | _, _, _, o, .cons h hs, ⟨c, cs', e, h1, h2⟩, hc => by
    subst e
    refine ⟨h.one, ⟨c, by simpa using hc 0 (by simp), h1⟩, DCM.of hs h2 (fun i hi => ?_)⟩
    have := hc (i + 1) (by simpa using hi)
    rw [show o + (i + 1) = o + 1 + i by omega] at this
    simpa using this

section
variable {H : Type} {enc : TypeId × Value → H} {P : Program} {w : World} {base : Nat} {spare : Nat → Bool} {held : Bool}

/-- What is told of a value that was read. -/
def Opens (w : World) (ds : List CD) (cs : List Value) : Prop := ∃ vs, FitL ds vs ∧ ∀ nf : Nm, DCL nf w Nobody vs cs

theorem fields_open {n : Nat} (ih : ∀ t ds, cdOf P n t = some ds → ∀ fuel cs x, DataW.trod enc P w base spare held fuel t cs = some x → Opens w ds cs) {cs : List Value} {m : Nat} {xs : List (DataW H × List MemPlace)} :
    ∀ (fs : List Field) (off : Nat) (k : Nat) (ds : List CD), cdFields P (cdOf P n) fs off = some ds → off + ds.length = cs.length →
      (∀ (i : Nat) (f : Field), fs[i]? = some f → ∃ x, DataW.trod enc P w base spare held m f.type ((cs.drop f.offset).take (P.cellsOf f.type)) = some x) → Opens w ds (cs.drop off)
  | [], off, k, ds, h, hl, _ => by
    simp only [cdFields, Option.some.injEq] at h
    subst h
    have : cs.drop off = [] := List.drop_eq_nil_of_le (by simp at hl; omega)
    rw [this]
    exact ⟨[], .nil, fun _ => rfl⟩
  | f :: fs, off, k, ds, h, hl, hx => by
    simp only [cdFields] at h
    split at h
    · rename_i ho
      split at h
      · rename_i l hlf
        split at h
        · rename_i hlen
          simp only [Option.map_eq_some_iff] at h
          obtain ⟨d2, h2, rfl⟩ := h
          simp only [List.length_append] at hl
          obtain ⟨x, hx0⟩ := hx 0 f rfl
          obtain ⟨v1, f1, g1⟩ := ih _ _ hlf _ _ _ hx0
          obtain ⟨v2, f2, g2⟩ := fields_open ih (xs := xs) fs (off + l.length) (k + 1) d2 h2 (by omega) (fun i g hg => hx (i + 1) g (by simpa using hg))
          refine ⟨v1 ++ v2, f1.append f2, fun nf => ?_⟩
          have := DCL.app (g1 nf) (g2 nf)
          rw [ho, ← hlen] at this
          have e : List.take l.length (List.drop off cs) ++ List.drop (off + l.length) cs = List.drop off cs := by
            rw [← List.drop_drop, List.take_append_drop]
          rwa [e] at this
        · cases h
      · cases h
    · cases h

theorem open_cd : ∀ (n : Nat) (t : TypeId) (ds : List CD), cdOf P n t = some ds → ∀ (fuel : Nat) (cs : List Value) (x : DataW H × List MemPlace), DataW.trod enc P w base spare held fuel t cs = some x → Opens w ds cs
  | 0, t, ds, h, _, _, _, _ => by simp [cdOf] at h
  | n + 1, t, ds, h, fuel, cs, x, hx => by
    simp only [cdOf] at h
    split at h
    · rename_i k ht
      cases h
      obtain ⟨m, rfl, _, hw⟩ := DataW.trod_int ht hx
      exact ⟨[.int k m], .cons (.int hw) .nil, fun nf => ⟨_, _, rfl, rfl, rfl⟩⟩
    · rename_i ht
      cases h
      obtain ⟨b, rfl, _⟩ := DataW.trod_bool ht hx
      exact ⟨[.bool b], .cons .bool .nil, fun nf => ⟨_, _, rfl, rfl, rfl⟩⟩
    · rename_i e ht
      split at h
      · rename_i l hl
        split at h
        · rename_i hc
          cases h
          rcases DataW.trod_slice ht hx with ⟨rfl, _⟩ | ⟨a, len, cap, elems, rest, m, _, rfl, _, hb, hlc, hm, hlen, hel, _, _⟩
          · exact ⟨[.sl []], .cons (.sl (Nat.zero_le _) (by simp)) .nil, fun nf => ⟨_, _, rfl, ⟨none, 0, rfl, Nat.le_refl _, fun _ => rfl, .inl rfl⟩, rfl⟩⟩
          · have each : ∀ i, i < len → ∃ ci, w.cells? base (a.add (i * P.cellsOf e)) (P.cellsOf e) = some ci ∧ Opens w l ci := by
              intro i hi
              have h1 := hel i hi
              have h2 : elems[i]? = some elems[i] := by simp
              rw [h2, Option.bind_eq_some_iff] at h1
              obtain ⟨ci, q1, q2⟩ := h1
              exact ⟨ci, q1, open_cd n e l hl _ _ _ q2⟩
            rcases Nat.eq_zero_or_pos len with rfl | hpos
            · exact ⟨[.sl []], .cons (.sl (Nat.zero_le _) (by simp)) .nil, fun nf => ⟨_, _, rfl, ⟨some a, cap, rfl, Nat.zero_le _, by simp, .inl rfl⟩, rfl⟩⟩
            · obtain ⟨b, o, sp⟩ := a
              have hcp : 0 < P.cellsOf e := by omega
              have h00 : ∃ v, w.cell? ⟨b, o, sp⟩ = some v := by
                obtain ⟨ci, q1, _⟩ := each 0 hpos
                have q := World.cells?_some q1
                have q3 := q.2.2 0 hcp
                have hci : ci[0]? = some (ci[0]'(by rw [q.2.1]; exact hcp)) := by simp
                rw [hci] at q3
                exact ⟨_, by simpa [Addr.add] using q3⟩
              obtain ⟨v0, h00⟩ := h00
              have hsp : sp = none := by
                unfold World.cell? at h00
                split at h00
                · cases sp with
                  | none => rfl
                  | some _ => simp at h00
                · cases h00
              subst hsp
              have hbs : b < w.heap.size := by
                unfold World.cell? at h00
                split at h00
                · rename_i hq; exact lt_of_getElem? (by simpa using hq)
                · cases h00
              have rows : ∀ m i, i + m = len → ∃ rows : List (List V), rows.length = m ∧ (∀ r ∈ rows, FitL l r) ∧ ∀ nf : Nm, DCR nf w Nobody b (P.cellsOf e) rows (o + i * P.cellsOf e) := by
                intro m
                induction m with
                | zero => intro i _; exact ⟨[], rfl, by simp, fun _ => trivial⟩
                | succ m ihm =>
                  intro i hi
                  obtain ⟨rs, r1, r2, r3⟩ := ihm (i + 1) (by omega)
                  obtain ⟨ci, q1, vs, f1, g1⟩ := each i (by omega)
                  have q := World.cells?_some q1
                  refine ⟨vs :: rs, by simp [r1], ?_, fun nf => ?_⟩
                  · intro r hr
                    rcases List.mem_cons.1 hr with rfl | hr
                    · exact f1
                    · exact r2 r hr
                  · have hvl : vs.length = P.cellsOf e := by rw [f1.len, hc.1]
                    refine ⟨hvl, DCM.of f1 (g1 nf) (fun j hj => ?_), ?_⟩
                    · have := q.2.2 j (by rw [← q.2.1]; exact hj)
                      rw [addr_add, addr_add] at this
                      exact this
                    · have := r3 nf
                      rwa [Nat.succ_mul, ← Nat.add_assoc] at this
              obtain ⟨rs, r1, r2, r3⟩ := rows len 0 (by omega)
              refine ⟨[.sl rs], .cons (.sl (by omega) r2) .nil, fun nf => ⟨_, _, rfl, ⟨some ⟨b, o, none⟩, cap, by rw [r1], by omega, by simp, .inr ⟨b, o, P.cellsOf e, rfl, by simp [Nobody], hbs, by simpa using r3 nf⟩⟩, rfl⟩⟩
        · cases h
      · cases h
    · rename_i fs ht
      split at h
      · rename_i l hl
        split at h
        · rename_i hc
          cases h
          obtain ⟨xs, m, _, _, hlen, hxl, hf⟩ := DataW.trod_struct ht hx
          have := fields_open (fun t ds h fuel cs x hx => open_cd n t ds h fuel cs x hx) (cs := cs) (m := m) (xs := xs) fs.toList 0 0 _ hl (by omega) (fun i f hfi => by
            have h1 := hf i f (by simpa using hfi)
            have hi : i < fs.size := by have := (List.getElem?_eq_some_iff.1 hfi).1; simpa using this
            exact ⟨xs[i]'(by omega), by rw [h1]; simp⟩)
          simpa using this
        · cases h
      · cases h
    · rename_i m e ht
      split at h
      · rename_i l hl
        split at h
        · rename_i hc
          cases h
          obtain ⟨xs, q, _, _, hlen, hxl, hf⟩ := DataW.trod_array ht hx
          have rows : ∀ j i, i + j = m → Opens w (List.replicate j l).flatten (cs.drop (i * P.cellsOf e)) := by
            intro j
            induction j with
            | zero =>
              intro i hi
              have : cs.drop (i * P.cellsOf e) = [] := List.drop_eq_nil_of_le (by
                have : i = m := by omega
                subst this
                rw [hlen, ← hc.2, hc.1]
                exact Nat.le_refl _)
              rw [this]
              exact ⟨[], .nil, fun _ => rfl⟩
            | succ j ihj =>
              intro i hi
              obtain ⟨v2, f2, g2⟩ := ihj (i + 1) (by omega)
              have h1 := hf i (by omega)
              have h2 : xs[i]? = some (xs[i]'(by omega)) := by simp
              rw [h2] at h1
              obtain ⟨v1, f1, g1⟩ := open_cd n e l hl _ _ _ h1
              rw [List.replicate_succ, List.flatten_cons]
              refine ⟨v1 ++ v2, f1.append f2, fun nf => ?_⟩
              have := DCL.app (g1 nf) (g2 nf)
              have e1 : List.take (P.cellsOf e) (List.drop (i * P.cellsOf e) cs) ++ List.drop ((i + 1) * P.cellsOf e) cs = List.drop (i * P.cellsOf e) cs := by
                rw [Nat.succ_mul, ← List.drop_drop, List.take_append_drop]
              rwa [e1] at this
          have := rows m 0 (by omega)
          simpa using this
        · cases h
      · cases h
    · cases h
/-- An argument, opened. -/
theorem open_arg {n : Nat} {t : TypeId} {ds : List CD} (h : cdOf P n t = some ds) {v : Value} {d : DataW H} {ps : List MemPlace} (hx : DataW.Trod enc P w base spare held t v d ps) : ∃ vs, FitL ds vs ∧ ∀ nf : Nm, DCL nf w Nobody vs v.cells.toList := by
  obtain ⟨fuel, hf⟩ := hx
  exact open_cd n t ds h _ _ _ hf
/-- A slice among the arguments, opened. -/
theorem open_rows {n : Nat} {t e : TypeId} {l : List CD} {v : Value} {d : DataW H} {ps : List MemPlace} (ht : P.underlying t = some (.slice e)) (h : cdOf P n t = some [.sl l]) (hv : ∃ a len cap, v = .slice a len cap) (hx : DataW.Trod enc P w base spare held t v d ps) :
    ∃ rows : List (List V), rows.length ≤ maxLen ∧ (∀ r ∈ rows, FitL l r) ∧ ∀ nf : Nm, DC nf w Nobody (.sl rows) v := by
  obtain ⟨a, len, cap, rfl⟩ := hv
  obtain ⟨vs, f, g⟩ := open_arg h hx
  cases f with
  | cons hf hs =>
    cases hs
    cases hf with
    | sl h1 h2 =>
      refine ⟨_, h1, h2, fun nf => ?_⟩
      obtain ⟨c, cs, e, hc, _⟩ := g nf
      simp [Value.cells] at e
      obtain ⟨rfl, _⟩ := e
      exact hc
end
theorem FitL.cons' {d : CD} {ds : List CD} {vs : List V} (h : FitL (d :: ds) vs) : ∃ v us, vs = v :: us ∧ Fit d v ∧ FitL ds us := by cases h with | cons a b => exact ⟨_, _, rfl, a, b⟩
theorem FitL.nil' {vs : List V} (h : FitL [] vs) : vs = [] := by cases h; rfl
theorem Fit.int' {k : IntKind} {v : V} (h : Fit (.int k) v) : ∃ n, v = .int k n ∧ (Lit.int k n).wf = true := by cases h with | int h => exact ⟨_, rfl, h⟩
theorem Fit.bool' {v : V} (h : Fit .bool v) : ∃ b, v = .bool b := by cases h; exact ⟨_, rfl⟩
theorem Fit.sl' {ds : List CD} {v : V} (h : Fit (.sl ds) v) : ∃ rows, v = .sl rows ∧ rows.length ≤ maxLen ∧ ∀ r ∈ rows, FitL ds r := by cases h with | sl a b => exact ⟨_, rfl, a, b⟩
/-- Rows that all have a form are the rows of things. -/
theorem rows_of {α : Type} {f : α → List V} {p : α → Prop} {rows : List (List V)} (h : ∀ r ∈ rows, ∃ x, r = f x ∧ p x) : ∃ l : List α, rows = l.map f ∧ ∀ x ∈ l, p x := by
  induction rows with
  | nil => exact ⟨[], rfl, by simp⟩
  | cons r rs ih =>
    obtain ⟨x, rfl, hx⟩ := h r (by simp)
    obtain ⟨l, rfl, hl⟩ := ih (fun r hr => h r (by simp [hr]))
    exact ⟨x :: l, rfl, by simpa using ⟨hx, hl⟩⟩
theorem fit_u8 {r : List V} (h : FitL [.int .u8] r) : ∃ n : Int, r = [.int .u8 n] ∧ (0 ≤ n ∧ n ≤ 255) := by
  obtain ⟨v, us, rfl, hv, hu⟩ := h.cons'
  obtain ⟨n, rfl, hn⟩ := hv.int'
  obtain rfl := hu.nil'
  simp only [Lit.wf, Bool.and_eq_true, decide_eq_true_eq] at hn
  exact ⟨n, rfl, hn⟩
theorem u8_of {n : Int} (hn : (Lit.int .u8 n).wf = true) : 0 ≤ n ∧ n ≤ 255 := by
  simp only [Lit.wf, Bool.and_eq_true, decide_eq_true_eq] at hn
  exact hn
end Fo
