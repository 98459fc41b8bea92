/-
  Equality of numbers, bools and flat rows of them (part 11).
-/
import Derived.Test.YtildnnhlpdcglaaFoA10
import Derived.ChangeKeysEq
namespace Fo
open Go
set_option linter.unusedVariables false
set_option linter.unusedSimpArgs false

/- What stands in the cells of a flat type: none: a bool; some k: a number of kind k. -/
mutual
def sigT (P : Program) : Nat → TypeId → Option (List (Option IntKind))
  | 0, _ => none
  | d + 1, t =>
    match P.underlying t with
    | some .bool => some [none]
    | some (.int k) => some [some k]
    | some (.struct fs) =>
      if P.stoodInHeld t then none else
      match sigF P d fs.toList 0 with
      | some s => if szOf P t = some s.length then some s else none
      | none => none
    | some (.array n e) =>
      match sigT P d e with
      | some s => if szOf P t = some (n * s.length) ∧ szOf P e = some s.length then some ((List.replicate n s).flatten) else none
      | none => none
    | _ => none
def sigF (P : Program) : Nat → List Field → Nat → Option (List (Option IntKind))
  | 0, _, _ => none
  | d + 1, [], _ => some []
  | d + 1, f :: fs, off =>
    if f.name = "_" ∨ f.offset ≠ off then none else
    match sigT P d f.type with
    | some s =>
      if szOf P f.type = some s.length then
        match sigF P d fs (off + s.length) with
        | some r => some (s ++ r)
        | none => none
      else none
    | none => none
end

def SigOK : List (Option IntKind) → List Value → Prop
  | [], cs => cs = []
  | none :: s, cs => ∃ b cs', cs = .bool b :: cs' ∧ SigOK s cs'
  | some k :: s, cs => ∃ n cs', cs = .int k n :: cs' ∧ SigOK s cs'

def eq1s : Value → Value → Bool
  | .bool a, .bool b => a == b
  | .int _ a, .int _ b => a == b
  | _, _ => false
def eqVs : List Value → List Value → Bool
  | [], [] => true
  | x :: l, y :: m => eq1s x y && eqVs l m
  | _, _ => false

theorem SigOK.length : ∀ (s : List (Option IntKind)) (cs : List Value), SigOK s cs → cs.length = s.length
  | [], cs, h => by have h : cs = [] := h; subst h; rfl
  | none :: s, cs, ⟨b, cs', e, h⟩ => by subst e; simp [SigOK.length s cs' h]
  | some k :: s, cs, ⟨b, cs', e, h⟩ => by subst e; simp [SigOK.length s cs' h]

theorem SigOK.split : ∀ (s r : List (Option IntKind)) (cs : List Value), SigOK (s ++ r) cs → SigOK s (cs.take s.length) ∧ SigOK r (cs.drop s.length)
  | [], r, cs, h => by simpa [SigOK] using h
  | none :: s, r, cs, ⟨b, cs', e, h⟩ => by subst e; have := SigOK.split s r cs' h; exact ⟨⟨b, _, rfl, this.1⟩, this.2⟩
  | some k :: s, r, cs, ⟨b, cs', e, h⟩ => by subst e; have := SigOK.split s r cs' h; exact ⟨⟨b, _, rfl, this.1⟩, this.2⟩

theorem eqVs_split : ∀ (k : Nat) (l m : List Value), l.length = m.length → eqVs l m = (eqVs (l.take k) (m.take k) && eqVs (l.drop k) (m.drop k))
  | 0, l, m, h => by simp [eqVs]
  | k + 1, [], [], h => by simp [eqVs]
  | k + 1, x :: l, y :: m, h => by simp [eqVs, eqVs_split k l m (by simpa using h), Bool.and_assoc]
  | k + 1, [], y :: m, h => by simp at h
  | k + 1, x :: l, [], h => by simp at h

/-- A value of a type, out of its cells. -/
def mkV (P : Program) (t : TypeId) (cs : List Value) : Value := if aggOf P t = some true then .agg cs.toArray else cs.headD undef

section
variable {P : Program}

theorem sigT_agg {d : Nat} {t : TypeId} {s : List (Option IntKind)} (h : sigT P d t = some s) : aggOf P t = some true ∨ (aggOf P t = some false ∧ s.length = 1) := by
  cases d with
  | zero => simp [sigT] at h
  | succ d =>
    unfold sigT at h
    unfold aggOf
    cases hu : P.underlying t with
    | none => simp [hu] at h
    | some td =>
      cases td <;> simp [hu] at h ⊢
      · subst h; rfl
      · subst h; rfl

theorem run_partV {d : Nat} {t : TypeId} {s : List (Option IntKind)} (h : sigT P d t = some s) (hz : szOf P t = some s.length) (cs : List Value) (off : Nat) (hl : off + s.length ≤ cs.length) (w : World) :
    (part t cs.toArray off).run P w = .ok (mkV P t ((cs.drop off).take s.length)) w := by
  rcases sigT_agg h with ha | ⟨ha, h1⟩
  · simp [part, run_isAgg ha, run_sizeOf' hz, mkV, ha]
  · have hlt : off < cs.length := by omega
    have e : (cs.drop off).take s.length = [cs[off]] := by
      rw [h1, List.drop_eq_getElem_cons hlt]; rfl
    rw [e]
    simp [part, run_isAgg ha, mkV, ha, hlt]

mutual
theorem eqT_ok : ∀ (d : Nat) (t : TypeId) (s : List (Option IntKind)) (D : Nat) (xs ys : List Value) (w : World), sigT P d t = some s → d ≤ D → SigOK s xs → SigOK s ys →
    (Op.equalIn D t (mkV P t xs) (mkV P t ys)).run P w = .ok (eqVs xs ys) w
  | 0, t, s, D, xs, ys, w, h, _, _, _ => by simp [sigT] at h
  | d + 1, t, s, D, xs, ys, w, h, hD, hx, hy => by
    obtain ⟨D, rfl⟩ : ∃ D', D = D' + 1 := ⟨D - 1, by omega⟩
    unfold sigT at h
    cases hu : P.underlying t with
    | none => simp [hu] at h
    | some td =>
      cases td <;> simp only [hu, reduceCtorEq] at h
      case bool =>
        cases h
        obtain ⟨b, cs, rfl, h1⟩ := hx
        obtain ⟨b', cs', rfl, h2⟩ := hy
        have h1 : cs = [] := h1
        have h2 : cs' = [] := h2
        subst h1 h2
        simp [mkV, aggOf, hu, eqVs, eq1s]
        exact run_equalIn_bool' w D t b b' hu
      case int k =>
        cases h
        obtain ⟨b, cs, rfl, h1⟩ := hx
        obtain ⟨b', cs', rfl, h2⟩ := hy
        have h1 : cs = [] := h1
        have h2 : cs' = [] := h2
        subst h1 h2
        simp [mkV, aggOf, hu, eqVs, eq1s]
        exact run_equalIn_int w D t k k b b' hu
      case struct fs =>
        split at h
        · cases h
        · rename_i hst
          split at h
          · rename_i s' hs'
            split at h
            · rename_i hsz
              cases h
              have ha : aggOf P t = some true := by simp [aggOf, hu]
              have hf : P.fieldsOf t = fs := by simp [Program.fieldsOf, hu]
              simp only [mkV, ha, if_true]
              rw [run_equalIn_struct w D t _ _ (by rw [hf]; exact hu) (by simpa using hst), hf]
              have := eqF_ok d fs.toList s 0 D xs ys w hs' (by omega) (by rw [hx.length]; omega) (by rw [hy.length]; omega) (by simpa using hx) (by simpa using hy)
              simpa using this
            · cases h
          · cases h
      case array n e =>
        split at h
        · rename_i s' hs'
          split at h
          · rename_i hsz
            cases h
            have ha : aggOf P t = some true := by simp [aggOf, hu]
            obtain ⟨i, hi, hn⟩ := szOf_info hsz.2
            simp only [mkV, ha, if_true]
            rw [run_equalIn_array w D _ _ hu hi]
            have hc : P.cellsOf e = s'.length := by simp [Program.cellsOf, hi, hn]
            rw [hc, show List.range n = List.range' 0 n from List.range_eq_range']
            have := eqI_ok d e s' n 0 D xs ys w hs' hsz.2 (by omega) (by rw [hx.length]; simp) (by rw [hy.length]; simp) (by simpa using hx) (by simpa using hy)
            simpa using this
          · cases h
        · cases h
theorem eqF_ok : ∀ (d : Nat) (fs : List Field) (s : List (Option IntKind)) (off D : Nat) (xs ys : List Value) (w : World), sigF P d fs off = some s → d ≤ D → off + s.length = xs.length → off + s.length = ys.length →
    SigOK s (xs.drop off) → SigOK s (ys.drop off) → (Op.eqFields D xs.toArray ys.toArray fs).run P w = .ok (eqVs (xs.drop off) (ys.drop off)) w
  | 0, _, _, _, _, _, _, _, h, _, _, _, _, _ => by simp [sigF] at h
  | d + 1, [], s, off, D, xs, ys, w, h, hD, hx, hy, kx, ky => by
    simp only [sigF, Option.some.injEq] at h; subst h
    have kx : xs.drop off = [] := kx
    have ky : ys.drop off = [] := ky
    rw [kx, ky]; simp [Op.eqFields, eqVs]
  | d + 1, f :: fs, s, off, D, xs, ys, w, h, hD, hx, hy, kx, ky => by
    simp only [sigF] at h
    split at h
    · cases h
    · rename_i hn
      simp only [not_or, ne_eq, Decidable.not_not] at hn
      split at h
      · rename_i s1 hs1
        split at h
        · rename_i hz
          split at h
          · rename_i s2 hs2
            cases h
            have qx := kx.split; have qy := ky.split
            rw [List.drop_drop] at qx qy
            simp only [List.length_append] at hx hy
            have p1 := run_partV hs1 hz xs f.offset (by rw [hn.2]; omega) w
            have p2 := run_partV hs1 hz ys f.offset (by rw [hn.2]; omega) w
            rw [hn.2] at p1 p2
            have r1 := eqT_ok d f.type s1 D _ _ w hs1 (by omega) qx.1 qy.1
            have r2 := eqF_ok d fs s2 (off + s1.length) D xs ys w hs2 (by omega) (by omega) (by omega) qx.2 qy.2
            have e := eqVs_split s1.length (xs.drop off) (ys.drop off) (by simp; omega)
            rw [List.drop_drop, List.drop_drop] at e
            rw [e]
            simp only [Op.eqFields, hn.1, ne_eq, not_false_eq_true, if_true, Sem.run_bind, hn.2, p1, p2, Result.andThen_ok, r1]
            cases eqVs ((xs.drop off).take s1.length) ((ys.drop off).take s1.length)
            · simp
            · simpa using r2
          · cases h
        · cases h
      · cases h
theorem eqI_ok (d : Nat) (e : TypeId) (s : List (Option IntKind)) : ∀ (n i D : Nat) (xs ys : List Value) (w : World), sigT P d e = some s → szOf P e = some s.length → d ≤ D → (i + n) * s.length = xs.length → (i + n) * s.length = ys.length →
    SigOK ((List.replicate n s).flatten) (xs.drop (i * s.length)) → SigOK ((List.replicate n s).flatten) (ys.drop (i * s.length)) →
    (Op.eqItems D e s.length xs.toArray ys.toArray (List.range' i n)).run P w = .ok (eqVs (xs.drop (i * s.length)) (ys.drop (i * s.length))) w
  | 0, i, D, xs, ys, w, hs, hz, hD, hx, hy, kx, ky => by
    have kx : xs.drop (i * s.length) = [] := by simpa [SigOK] using kx
    have ky : ys.drop (i * s.length) = [] := by simpa [SigOK] using ky
    rw [kx, ky]; simp [Op.eqItems, eqVs]
  | n + 1, i, D, xs, ys, w, hs, hz, hD, hx, hy, kx, ky => by
    rw [List.replicate_succ, List.flatten_cons] at kx ky
    have qx := kx.split; have qy := ky.split
    rw [List.drop_drop, show i * s.length + s.length = (i + 1) * s.length by rw [Nat.add_mul]; omega] at qx qy
    have hle : i * s.length + s.length ≤ (i + (n + 1)) * s.length := by
      rw [show i * s.length + s.length = (i + 1) * s.length by rw [Nat.add_mul]; omega]
      exact Nat.mul_le_mul_right _ (by omega)
    have p1 := run_partV hs hz xs (i * s.length) (by omega) w
    have p2 := run_partV hs hz ys (i * s.length) (by omega) w
    have r1 := eqT_ok d e s D _ _ w hs hD qx.1 qy.1
    have r2 := eqI_ok d e s n (i + 1) D xs ys w hs hz hD (by rw [show i + 1 + n = i + (n + 1) by omega]; exact hx) (by rw [show i + 1 + n = i + (n + 1) by omega]; exact hy) qx.2 qy.2
    have e2 := eqVs_split s.length (xs.drop (i * s.length)) (ys.drop (i * s.length)) (by simp; omega)
    rw [List.drop_drop, List.drop_drop, show i * s.length + s.length = (i + 1) * s.length by rw [Nat.add_mul]; omega] at e2
    rw [e2, List.range'_succ]
    simp only [Op.eqItems, Sem.run_bind, p1, p2, Result.andThen_ok, r1]
    cases eqVs ((xs.drop (i * s.length)).take s.length) ((ys.drop (i * s.length)).take s.length)
    · simp
    · simpa using r2
end

end
end Fo
