/-
  More of the model's operations against the machine's, looked at by a program (part 41).
-/
import Derived.Test.YtildnnhlpdcglaaFoA42
namespace Fo
open Go
set_option linter.unusedVariables false
set_option linter.unusedSimpArgs false

section
variable (P : Program) (nf : Nm)

def chkMk (t : TypeId) (zero : List V) (bytes : Nat) : Bool :=
  match P.underlying t with
  | some (.slice e) =>
    match P.info? e with
    | some i => i.bytes == bytes && (match i.zero with | some z => z.cells.size == i.size && checkCL zero z.cells.toList && zero.all V.one | none => false)
    | none => false
  | _ => false
def chkMap (t : TypeId) (agg : Bool) (s : List (Option IntKind)) : Bool :=
  match P.underlying t with
  | some (.map kt _) => sigT P 8 kt == some s && aggOf P kt == some agg
  | _ => false
def chkMapZ (t : TypeId) (zero : V) : Bool :=
  match P.underlying t with
  | some (.map _ et) => (match (P.info? et).bind (·.zero) with | some z => checkV zero z | none => false)
  | _ => false

def chkBuildSl (t : TypeId) (n : Nat) (zero : List V) (len : Nat) : Bool :=
  match P.underlying t with
  | some (.slice e) => szOf P e == some n && (match (P.info? e).bind (·.zero) with | some z => z.cells.size == n && checkCL zero z.cells.toList | none => false) && Nat.ble (len * n) 16777216
  | _ => false
def chkInt (t : TypeId) : Bool := match P.underlying t with | some (.int _) => true | _ => false
def chkPos (t : TypeId) : Bool := match P.underlying t with | some (.slice e) => (match P.info? e with | some i => Nat.blt 0 i.size | none => false) | _ => false

def chkMore (o : Oper) (ao : AOp) : Bool :=
  match ao.k with
  | .bad => true
  | .mkmap => match o.op, ao.xs with | .makeMap _ none, [] => true | _, _ => false
  | .mkslice zero bytes => match o.op, ao.xs with | .makeSlice t x y, [u, v] => chkMk P t zero bytes && checkOpd nf u x && checkOpd nf v y | _, _ => false
  | .lookup agg s zero ok => match o.op, ao.xs with | .lookup t x y ok', [u, v] => chkMap P t agg s && chkMapZ P t zero && ok == ok' && checkOpd nf u x && checkOpd nf v y | _, _ => false
  | .mapset agg s => match o.op, ao.xs with
    | .mapUpdate t x y z, [u, v, q] => chkMap P t agg s && checkOpd nf u x && checkOpd nf v y && checkOpd nf q z
    | .insert t x y z, [u, v, q] => chkMap P t agg s && checkOpd nf u x && checkOpd nf v y && checkOpd nf q z
    | _, _ => false
  | .slice3 => match o.op, ao.xs with
    | .slice t x (some a) (some b) (some c), [u, v, p, q] => (match P.underlying t with | some (.slice e) => (szOf P e).isSome | _ => false) && checkOpd nf u x && checkOpd nf v a && checkOpd nf p b && checkOpd nf q c
    | _, _ => false
  | .appZ bytes zero => match o.op, ao.xs with
    | .call ⟨.builtin .append, args, ts⟩, [u, v] => (match args.toList, ts.toList with | [x, y], [t, tn] => chkMk P t zero bytes && chkInt P tn && chkPos P t && checkOpd nf u x && checkOpd nf v y | _, _ => false)
    | _, _ => false
  | .buildSlL n zero len' places => match o.op with
    | .buildSlice t len parts => len == len' && places == parts.toList.map (·.1) && chkBuildSl P t n zero len && chkXs nf ao.xs (parts.toList.map (·.2))
    | _ => false
  | .most => match o.op with | .call ⟨.builtin .max, args, _⟩ => chkXs nf ao.xs args.toList | _ => false
  | .least => match o.op with | .call ⟨.builtin .min, args, _⟩ => chkXs nf ao.xs args.toList | _ => false
  | .capE => match o.op, ao.xs with
    | .call ⟨.builtin .cap, args, ts⟩, [u] => (match args.toList, ts.toList with | [x], [t] => (match P.underlying t with | some (.slice _) => true | _ => false) && checkOpd nf u x | _, _ => false)
    | _, _ => false
  | _ => false
end

section
variable {P : Program} {nf : Nm} {abi : Abi} {N : Nat}

theorem chkMap_ok {t : TypeId} {agg : Bool} {s : List (Option IntKind)} (h : chkMap P t agg s = true) : ∃ kt et, P.underlying t = some (.map kt et) ∧ sigT P 8 kt = some s ∧ aggOf P kt = some agg := by
  unfold chkMap at h
  split at h
  · rename_i kt et he
    simp only [Bool.and_eq_true, beq_iff_eq] at h
    exact ⟨kt, et, he, h.1, h.2⟩
  · cases h

theorem chkMore_ok {o : Oper} {ao : AOp} (h : chkMore P nf o ao = true) : OpTells P nf abi N o ao := by
  intro B ι M σ a w rel r hr
  unfold chkMore at h
  split at h
  · rename_i hk; rw [hk] at hr; simp only [Comes] at hr
    cases hxs : ao.xs.map (ev σ.env) with
    | nil => rw [hxs] at hr; cases hr
    | cons x l => rw [hxs] at hr; cases l <;> cases hr
  · rename_i hk; rw [hk] at hr ⊢; left
    split at h
    · rename_i t ho hx; rw [hx] at hr; exact tells_mkmap rel.mem ho hr
    · cases h
  · rename_i zero bytes hk; rw [hk] at hr ⊢; left
    split at h
    · rename_i t x y u v ho hx; rw [hx] at hr
      simp only [Bool.and_eq_true] at h
      obtain ⟨⟨h1, h2⟩, h3⟩ := h
      unfold chkMk at h1
      split at h1
      · rename_i e he
        split at h1
        · rename_i i hi
          simp only [Bool.and_eq_true, beq_iff_eq] at h1
          obtain ⟨h4, h5⟩ := h1
          split at h5
          · rename_i z hz
            simp only [Bool.and_eq_true, beq_iff_eq] at h5
            exact tells_mkslice rel.mem ho he hi rfl h4 hz h5.1.1 (checkCL_ok _ _ h5.1.2) h5.2 (opd_ok rel h2) (opd_ok rel h3) hr
          · cases h5
        · cases h1
      · cases h1
    · cases h
  · rename_i agg s zero ok hk; rw [hk] at hr ⊢; left
    split at h
    · rename_i t x y ok' u v ho hx; rw [hx] at hr
      simp only [Bool.and_eq_true, beq_iff_eq] at h
      obtain ⟨⟨⟨⟨h1, h2⟩, rfl⟩, h3⟩, h4⟩ := h
      obtain ⟨kt, et, e1, e2, e3⟩ := chkMap_ok h1
      unfold chkMapZ at h2
      rw [e1] at h2
      simp only at h2
      split at h2
      · rename_i z hz
        exact tells_lookup rel.mem ho e1 e2 (by decide) (by decide) e3 hz (fun ι => checkV_ok _ _ h2) (opd_ok rel h3) (opd_ok rel h4) hr
      · cases h2
    · cases h
  · rename_i agg s hk; rw [hk] at hr ⊢; left
    split at h
    · rename_i t x y z u v q ho hx; rw [hx] at hr
      simp only [Bool.and_eq_true] at h
      obtain ⟨⟨⟨h1, h2⟩, h3⟩, h4⟩ := h
      obtain ⟨kt, et, e1, e2, e3⟩ := chkMap_ok h1
      exact tells_mapset rel.mem (.inl ho) e1 e2 (by decide) (by decide) e3 (opd_ok rel h2) (opd_ok rel h3) (opd_ok rel h4) hr
    · rename_i t x y z u v q ho hx; rw [hx] at hr
      simp only [Bool.and_eq_true] at h
      obtain ⟨⟨⟨h1, h2⟩, h3⟩, h4⟩ := h
      obtain ⟨kt, et, e1, e2, e3⟩ := chkMap_ok h1
      exact tells_mapset rel.mem (.inr ho) e1 e2 (by decide) (by decide) e3 (opd_ok rel h2) (opd_ok rel h3) (opd_ok rel h4) hr
    · cases h
  · rename_i hk; rw [hk] at hr ⊢; left
    split at h
    · rename_i t x a1 b1 c1 u v p q ho hx; rw [hx] at hr
      simp only [Bool.and_eq_true] at h
      obtain ⟨⟨⟨⟨h1, h2⟩, h3⟩, h4⟩, h5⟩ := h
      split at h1
      · rename_i e he
        obtain ⟨n, hn⟩ := Option.isSome_iff_exists.1 h1
        exact tells_slice3 rel.mem ho he hn (opd_ok rel h2) (opd_ok rel h3) (opd_ok rel h4) (opd_ok rel h5) hr
      · cases h1
    · cases h
  · rename_i bytes zero hk; rw [hk] at hr ⊢; left
    split at h
    · rename_i args ts u v ho hx; rw [hx] at hr
      obtain ⟨args⟩ := args
      obtain ⟨ts⟩ := ts
      split at h
      · rename_i x y t tn e1 e2
        simp only at e1 e2; subst e1 e2
        simp only [Bool.and_eq_true] at h
        obtain ⟨⟨⟨⟨h1, h2⟩, h3⟩, h4⟩, h5⟩ := h
        unfold chkInt at h2
        split at h2
        · rename_i kn hkn
          unfold chkMk at h1
          split at h1
          · rename_i e he
            unfold chkPos at h3
            rw [he] at h3
            simp only at h3
            split at h1
            · rename_i i hi
              rw [hi] at h3
              simp only [Bool.and_eq_true, beq_iff_eq] at h1
              obtain ⟨h6, h7⟩ := h1
              split at h7
              · rename_i z hz
                simp only [Bool.and_eq_true, beq_iff_eq] at h7
                exact tells_appZ rel.mem ho he hkn hi h6 hz (by simpa using h3) h7.1.1 (checkCL_ok _ _ h7.1.2) h7.2 (opd_ok rel h4) (opd_ok rel h5) hr
              · cases h7
            · cases h1
          · cases h1
        · cases h2
      · cases h
    · cases h
  · rename_i n zero len' places hk; rw [hk] at hr ⊢; left
    split at h
    · rename_i t len parts ho
      simp only [Bool.and_eq_true, beq_iff_eq] at h
      obtain ⟨⟨⟨rfl, rfl⟩, h1⟩, h2⟩ := h
      unfold chkBuildSl at h1
      split at h1
      · rename_i e he
        simp only [Bool.and_eq_true, beq_iff_eq] at h1
        obtain ⟨⟨h3, h4⟩, h5⟩ := h1
        split at h4
        · rename_i z hz
          simp only [Bool.and_eq_true, beq_iff_eq] at h4
          have hv := xs_ok rel h2
          rw [List.map_map] at hv
          exact tells_buildSl rel.mem ho he h3 hz h4.1 (checkCL_ok _ _ h4.2) (by have := Nat.le_of_ble_eq_true h5; omega) hv hr
        · cases h4
      · cases h1
    · cases h
  · rename_i hk; rw [hk] at hr ⊢; left
    split at h
    · rename_i args ts ho
      exact tells_most rel.mem ho (xs_ok rel h) hr
    · cases h
  · rename_i hk; rw [hk] at hr ⊢; left
    split at h
    · rename_i args ts ho
      exact tells_least rel.mem ho (xs_ok rel h) hr
    · cases h
  · rename_i hk; rw [hk] at hr ⊢; left
    split at h
    · rename_i args ts u ho hx; rw [hx] at hr
      obtain ⟨args⟩ := args
      obtain ⟨ts⟩ := ts
      split at h
      · rename_i x t e1 e2
        simp only at e1 e2; subst e1 e2
        simp only [Bool.and_eq_true] at h
        obtain ⟨h1, h2⟩ := h
        split at h1
        · rename_i e he
          exact tells_capE rel.mem ho he (opd_ok rel h2) hr
        · cases h1
      · cases h
    · cases h
  · cases h
end
end Fo
