/-
  Keys of maps (part 37).
-/
import Derived.Test.YtildnnhlpdcglaaFoA32
import Derived.MapKept
import Derived.DeepKeys3
import Derived.Laws.MakeOwn
namespace Fo
open Go
set_option linter.unusedVariables false
set_option linter.unusedSimpArgs false

section
variable {nf : Nm} {P : Program}

mutual
theorem chkT_ok (em : Bool) : ∀ (d : Nat) (t : TypeId) (s : List (Option IntKind)) (D : Nat) (xs : List Value) (w : World), sigT P d t = some s → d ≤ D → SigOK s xs →
    (Instr.checkKey em D t (mkV P t xs)).run P w = .ok () w
  | 0, t, s, D, xs, w, h, _, _ => by simp [sigT] at h
  | d + 1, t, s, D, xs, w, h, hD, hx => by
    obtain ⟨D, rfl⟩ : ∃ D', D = D' + 1 := ⟨D - 1, by omega⟩
    unfold sigT at h
    cases hu : P.underlying t with
    | none => simp [hu] at h
    | some td =>
      cases td <;> simp only [hu, reduceCtorEq] at h
      case bool =>
        cases h
        obtain ⟨b, cs, rfl, h1⟩ := hx
        have h1 : cs = [] := h1
        subst h1
        simp [mkV, aggOf, hu, Instr.checkKey, run_underlying hu]
      case int k =>
        cases h
        obtain ⟨b, cs, rfl, h1⟩ := hx
        have h1 : cs = [] := h1
        subst h1
        simp [mkV, aggOf, hu, Instr.checkKey, run_underlying hu]
      case struct fs =>
        split at h
        · cases h
        · split at h
          · rename_i s' hs'
            split at h
            · rename_i hsz
              cases h
              have ha : aggOf P t = some true := by simp [aggOf, hu]
              simp only [mkV, ha, if_true]
              rw [Instr.checkKey]
              simp only [Sem.run_bind, run_underlying hu, Result.andThen_ok]
              rw [← Array.forIn_toList]
              have := chkF_ok em d fs.toList s 0 D xs w hs' (by omega) (by rw [hx.length]; omega) (by simpa using hx)
              rw [this]; rfl
            · cases h
          · cases h
      case array n e =>
        split at h
        · rename_i s' hs'
          split at h
          · rename_i hsz
            cases h
            have ha : aggOf P t = some true := by simp [aggOf, hu]
            simp only [mkV, ha, if_true]
            rw [Instr.checkKey]
            simp only [Sem.run_bind, run_underlying hu, Result.andThen_ok]
            simp only [Std.Legacy.Range.forIn_eq_forIn_range', Std.Legacy.Range.size, Nat.sub_zero, Nat.add_one_sub_one, Nat.div_one]
            have := chkI_ok em d e s' n 0 D xs w hs' hsz.2 (by omega) (by rw [hx.length]; simp) (by simpa using hx)
            rw [this]; rfl
          · cases h
        · cases h
theorem chkF_ok (em : Bool) : ∀ (d : Nat) (fs : List Field) (s : List (Option IntKind)) (off D : Nat) (xs : List Value) (w : World), sigF P d fs off = some s → d ≤ D → off + s.length = xs.length →
    SigOK s (xs.drop off) → (forIn (m := Sem) fs PUnit.unit fun (f : Field) _ => do
        if f.name ≠ "_" then (part f.type xs.toArray f.offset >>= fun x => Instr.checkKey em D f.type x >>= fun _ => pure (ForInStep.yield PUnit.unit)) else pure (ForInStep.yield PUnit.unit)).run P w = .ok PUnit.unit w
  | 0, _, _, _, _, _, _, h, _, _, _ => by simp [sigF] at h
  | d + 1, [], s, off, D, xs, w, h, hD, hx, kx => by simp
  | d + 1, f :: fs, s, off, D, xs, w, h, hD, hx, kx => by
    simp only [sigF] at h
    split at h
    · cases h
    · rename_i hn
      simp only [not_or, ne_eq, Decidable.not_not] at hn
      split at h
      · rename_i s1 hs1
        split at h
        · rename_i hz
          split at h
          · rename_i s2 hs2
            cases h
            have qx := kx.split
            rw [List.drop_drop] at qx
            simp only [List.length_append] at hx
            have p1 := run_partV hs1 hz xs f.offset (by rw [hn.2]; omega) w
            rw [hn.2] at p1
            have r1 := chkT_ok em d f.type s1 D _ w hs1 (by omega) qx.1
            have r2 := chkF_ok em d fs s2 (off + s1.length) D xs w hs2 (by omega) (by omega) qx.2
            simp only [List.forIn_cons, Sem.run_bind, hn.1, ne_eq, not_false_eq_true, if_true, Result.andThen_ok, hn.2, p1, r1, Sem.run_pure]
            simpa using r2
          · cases h
        · cases h
      · cases h
theorem chkI_ok (em : Bool) (d : Nat) (e : TypeId) (s : List (Option IntKind)) : ∀ (n i D : Nat) (xs : List Value) (w : World), sigT P d e = some s → szOf P e = some s.length → d ≤ D → (i + n) * s.length = xs.length →
    SigOK ((List.replicate n s).flatten) (xs.drop (i * s.length)) →
    (forIn (m := Sem) (List.range' i n) PUnit.unit fun i _ => do
        Instr.checkKey em D e (← part e xs.toArray (i * (← Go.sizeOf e)))
        pure (ForInStep.yield PUnit.unit)).run P w = .ok PUnit.unit w
  | 0, i, D, xs, w, hs, hz, hD, hx, kx => by simp
  | n + 1, i, D, xs, w, hs, hz, hD, hx, kx => by
    rw [List.replicate_succ, List.flatten_cons] at kx
    have qx := kx.split
    rw [List.drop_drop, show i * s.length + s.length = (i + 1) * s.length by rw [Nat.add_mul]; omega] at qx
    have hle : i * s.length + s.length ≤ (i + (n + 1)) * s.length := by
      rw [show i * s.length + s.length = (i + 1) * s.length by rw [Nat.add_mul]; omega]
      exact Nat.mul_le_mul_right _ (by omega)
    have p1 := run_partV hs hz xs (i * s.length) (by omega) w
    have r1 := chkT_ok em d e s D _ w hs hD qx.1
    have r2 := chkI_ok em d e s n (i + 1) D xs w hs hz hD (by rw [show i + 1 + n = i + (n + 1) by omega]; exact hx) qx.2
    rw [List.range'_succ]
    simp only [List.forIn_cons, Sem.run_bind, run_sizeOf' hz, Result.andThen_ok, p1, r1, Sem.run_pure]
    simpa using r2
end

end
end Fo
