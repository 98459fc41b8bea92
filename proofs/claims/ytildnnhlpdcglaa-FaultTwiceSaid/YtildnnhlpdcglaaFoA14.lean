/-
  The operations: what is built of parts (part 14).
-/
import Derived.Test.YtildnnhlpdcglaaFoA13
namespace Fo
open Go
set_option linter.unusedVariables false
set_option linter.unusedSimpArgs false

section
variable {nf : Nm} {P : Program}

/-- Cells laid over cells. -/
def splC (A : List Value) (off : Nat) (cs : List Value) : List Value := A.take off ++ (cs ++ A.drop (off + cs.length))

theorem foldl_zip (off : Nat) : ∀ (cs : List Value) (k : Nat) (A : Array Value), off + k + cs.length ≤ A.size →
    ((cs.zipIdx k).foldl (fun (a : Array Value) (x : Value × Nat) => a.setIfInBounds (off + x.2) x.1) A).toList = splC A.toList (off + k) cs
  | [], k, A, h => by simp [splC]
  | c :: cs, k, A, h => by
    rw [List.zipIdx_cons, List.foldl_cons, foldl_zip off cs (k + 1) _ (by simp at h ⊢; omega)]
    simp only [List.length_cons] at h
    unfold splC
    simp only [Array.toList_setIfInBounds, List.length_cons]
    have hlt : off + k < A.toList.length := by simp; omega
    rw [show off + (k + 1) = off + k + 1 by omega, List.drop_set_of_lt (by omega), List.take_set, List.take_succ_eq_append_getElem hlt, List.set_append, if_neg (by simp at hlt ⊢; omega)]
    simp only [List.length_take, Nat.min_eq_left (Nat.le_of_lt hlt), Nat.sub_self, List.set_cons_zero, List.append_assoc, List.cons_append, List.nil_append]
    rw [show off + k + 1 + cs.length = off + k + (cs.length + 1) by omega]

theorem foldl_zipA (off : Nat) (c : Value) (A : Array Value) (cs : List Value) (hc : c.cells = cs.toArray) (h : off + cs.length ≤ A.size) :
    (c.cells.zipIdx.foldl (fun (a : Array Value) (x : Value × Nat) => a.setIfInBounds (off + x.2) x.1) A).toList = splC A.toList off cs := by
  rw [hc, ← Array.foldl_toList]
  have : (cs.toArray.zipIdx).toList = cs.zipIdx 0 := by simp
  rw [this]
  exact foldl_zip off cs 0 A (by omega)

theorem splC_ok {ι : Iota} {w : World} {M : Nat → Prop} {r l : List V} {A cs : List Value} {off : Nat} (h : DVL nf ι w M r A) (hl : DVL nf ι w M l cs) : DVL nf ι w M (splice r off l) (splC A off cs) := by
  unfold splice splC
  rw [hl.length]
  exact DVL.append _ _ _ _ (DVL.take _ _ _ h) (DVL.append _ _ _ _ hl (DVL.drop _ _ _ h))

/-- Parts, as the model has them. -/
def PartsOK (ι : Iota) (w : World) (M : Nat → Prop) : List V → List (Nat × Value) → Prop
  | [], ps => ps = []
  | v :: vs, ps => ∃ i c ps', ps = (i, c) :: ps' ∧ DV nf ι w M v c ∧ PartsOK ι w M vs ps'

theorem fillV_ok {ι : Iota} {w : World} {M : Nat → Prop} (place : Nat → Option (Nat × Nat)) : ∀ (places : List (Nat × Nat)) (vs : List V) (ps : List (Nat × Value)) (row row' : List V) (A : Array Value),
    PartsOK (nf := nf) ι w M vs ps → ps.map (fun x => place x.1) = places.map some → DVL nf ι w M row A.toList → row.all V.one = true → fillV row (places.zip vs) = some row' →
    ∃ A', Instr.fill place A ps = some A' ∧ DVL nf ι w M row' A'.toList ∧ row'.all V.one = true
  | [], vs, ps, row, row', A, hp, he, hd, ho, hf => by
    have : ps = [] := by simpa using he
    subst this
    simp only [List.zip_nil_left, fillV, Option.some.injEq] at hf; subst hf
    exact ⟨A, rfl, hd, ho⟩
  | (off, sz) :: places, [], ps, row, row', A, hp, he, hd, ho, hf => by
    have : ps = [] := hp
    subst this; simp at he
  | (off, sz) :: places, v :: vs, ps, row, row', A, hp, he, hd, ho, hf => by
    obtain ⟨i, c, ps', rfl, h1, h2⟩ := hp
    simp only [List.map_cons, List.cons.injEq] at he
    simp only [List.zip_cons_cons, fillV] at hf
    split at hf
    · rename_i hc
      obtain ⟨cs, hcs, hdl⟩ := cells_of h1 hc.2.2
      have hl := hdl.length
      have hA := hd.length
      simp only [Array.length_toList] at hA
      have e2 := foldl_zipA off c A cs hcs (by omega)
      obtain ⟨A', g1, g2, g3⟩ := fillV_ok place places vs ps' _ row' (c.cells.zipIdx.foldl (fun (a : Array Value) (x : Value × Nat) => a.setIfInBounds (off + x.2) x.1) A) h2 he.2 (by rw [e2]; exact splC_ok hd hdl) (splice_one ho hc.2.2) hf
      refine ⟨A', ?_, g2, g3⟩
      have hsz : c.cells.size = sz := by rw [hcs]; simp; omega
      simp only [Instr.fill, he.1]
      rw [if_neg (by simp [hsz]; omega)]
      exact g1
    · cases hf

theorem run_mapM {α : Type} {f : α → Sem (Nat × Nat)} {g : α → Nat × Nat} (w : World) : ∀ (l : List α), (∀ x ∈ l, (f x).run P w = .ok (g x) w) → (l.mapM f).run P w = .ok (l.map g) w
  | [], _ => by simp
  | x :: l, h => by
    rw [List.mapM_cons]
    simp only [Sem.run_bind, h x (by simp), Result.andThen_ok, run_mapM w l (fun y hy => h y (by simp [hy])), Sem.run_pure, List.map_cons]

/-- The places of parts of a type. -/
def placeOf (P : Program) (t : TypeId) (i : Nat) : Option (Nat × Nat) :=
  match P.underlying t with
  | some (.struct fs) => if fs.all (fun f => (szOf P f.type).isSome) then (fs[i]?).map fun f => (f.offset, (szOf P f.type).getD 0) else none
  | some (.array _ e) => (szOf P e).map fun n => (i * n, n)
  | _ => none

theorem run_build {t : TypeId} {z : Value} {parts : Array (Nat × Value)} {A' : Array Value} {w : World} (hz : (P.info? t).bind (·.zero) = some z) (hp : ∀ x ∈ parts.toList, (placeOf P t x.1).isSome)
    (hne : parts.toList = [] → aggOf P t = some true ∧ ∀ fs, P.underlying t = some (.struct fs) → fs.all (fun f => (szOf P f.type).isSome) = true) (harr : ∀ n e, P.underlying t = some (.array n e) → (szOf P e).isSome = true)
    (hf : Instr.fill (placeOf P t) z.cells parts.toList = some A') : (Instr.build t parts).run P w = .ok (.agg A') w := by
  have hu : (∃ fs, P.underlying t = some (.struct fs) ∧ fs.all (fun f => (szOf P f.type).isSome) = true) ∨ ∃ n e, P.underlying t = some (.array n e) := by
    cases hl : parts.toList with
    | nil =>
      obtain ⟨h1, h2⟩ := hne hl
      unfold aggOf at h1
      split at h1
      · rename_i fs hfs; exact .inl ⟨fs, hfs, h2 fs hfs⟩
      · rename_i n e hn; exact .inr ⟨n, e, hn⟩
      · cases h1
      · cases h1
    | cons x l =>
      have := hp x (by simp [hl])
      unfold placeOf at this
      split at this
      · rename_i fs hfs
        split at this
        · rename_i hall; exact .inl ⟨fs, hfs, hall⟩
        · cases this
      · rename_i n e hn; exact .inr ⟨n, e, hn⟩
      · cases this
  rcases hu with ⟨fs, hfs, hall⟩ | ⟨n, e, hn⟩
  · have hm : ((fs.mapM fun f => (do pure (f.offset, ← Go.sizeOf f.type) : Sem (Nat × Nat)))).run P w = .ok (fs.map fun f => (f.offset, (szOf P f.type).getD 0)) w := by
      rw [Array.mapM_eq_mapM_toList, Sem.run_map, run_mapM (g := fun f => (f.offset, (szOf P f.type).getD 0))]
      · simp only [Result.andThen_ok]; congr 1; apply Array.ext'; simp
      · intro f hf
        have := Array.all_eq_true_iff_forall_mem.1 hall f (by simpa using hf)
        obtain ⟨k, hk⟩ := Option.isSome_iff_exists.1 this
        simp [run_sizeOf' hk, hk]
    have hpl : (fun i => ((fs.map fun f => (f.offset, (szOf P f.type).getD 0)))[i]?) = placeOf P t := by
      funext i; unfold placeOf; simp [hfs, hall]
    simp only [Instr.build, Sem.run_bind, zeroOf hz, Result.andThen_ok, run_underlying hfs, hm]
    rw [hpl, hf]
    simp
  · obtain ⟨k, hk⟩ := Option.isSome_iff_exists.1 (harr n e hn)
    have hpl : (fun i => some (i * k, k)) = placeOf P t := by
      funext i; unfold placeOf; simp [hn, hk]
    simp only [Instr.build, Sem.run_bind, zeroOf hz, Result.andThen_ok, run_underlying hn, run_sizeOf' hk]
    rw [hpl, hf]
    simp

theorem tells_build {B : Base} {ι : Iota} {M : Nat → Prop} {h : Heap} {a : Act} {w : World} (m : Mem nf B ι M h w) {o : Oper} {t : TypeId} {parts : Array (Nat × Operand)} (ho : o.op = .build t parts) {z : Value} {zero : List V} {places : List (Nat × Nat)} {vs : List V} {r : Res}
    (hz : (P.info? t).bind (·.zero) = some z) (hzd : DVL nf ι w M zero z.cells.toList) (hagg : aggOf P t = some true)
    (hpl : parts.toList.map (fun x => placeOf P t x.1) = places.map some)
    (hst : ∀ fs, P.underlying t = some (.struct fs) → fs.all (fun f => (szOf P f.type).isSome) = true) (harr : ∀ n e, P.underlying t = some (.array n e) → (szOf P e).isSome = true)
    (hv : DVL nf ι w M vs (parts.toList.map fun x => a.eval x.2)) (hr : comp (.build zero places) vs h = some r) : ∃ c w' M', Tells P o a w c w' ∧ ResOK nf B ι M w true r c w' M' := by
  simp only [comp] at hr
  split at hr
  · rename_i hc
    simp only [Option.map_eq_some_iff] at hr
    obtain ⟨row', hf, rfl⟩ := hr
    have hparts : ∀ (l : List (Nat × Operand)) (vs : List V), DVL nf ι w M vs (l.map fun x => a.eval x.2) → PartsOK (nf := nf) ι w M vs (l.map fun x => (x.1, a.eval x.2)) := by
      intro l
      induction l with
      | nil => intro vs h; cases vs with
        | nil => rfl
        | cons v vs => obtain ⟨c, cs', e, _⟩ := h; simp at e
      | cons x l ih => intro vs h; cases vs with
        | nil => have h : _ = [] := h; simp at h
        | cons v vs =>
          obtain ⟨c, cs', e, h1, h2⟩ := h
          simp only [List.map_cons, List.cons.injEq] at e
          obtain ⟨rfl, rfl⟩ := e
          exact ⟨x.1, a.eval x.2, _, rfl, h1, ih vs h2⟩
    obtain ⟨A', g1, g2, g3⟩ := fillV_ok (nf := nf) (ι := ι) (w := w) (M := M) (placeOf P t) places vs (parts.toList.map fun x => (x.1, a.eval x.2)) zero row' z.cells (hparts _ _ hv) (by rw [List.map_map]; exact hpl) hzd hc.2 hf
    have e1 : (parts.map fun (i, x) => (i, a.eval x)).toList = parts.toList.map fun x => (x.1, a.eval x.2) := by simp
    have hrun := run_build (P := P) (t := t) (z := z) (parts := parts.map fun (i, x) => (i, a.eval x)) (A' := A') (w := w) hz (by
      intro x hx
      rw [e1] at hx
      obtain ⟨y, hy, rfl⟩ := List.mem_map.1 hx
      have : placeOf P t y.1 ∈ places.map some := by rw [← hpl]; exact List.mem_map.2 ⟨y, hy, rfl⟩
      obtain ⟨q, _, hq⟩ := List.mem_map.1 this
      simp [← hq]) (fun _ => ⟨hagg, hst⟩) harr (by rw [e1]; exact g1)
    exact ⟨.agg A', w, M, .inl (by simp only [execOp, ho, Sem.run_bind, hrun, Result.andThen_ok, Sem.run_pure]), ResOK.plain m ⟨g3, A'.toList, by simp, g2⟩⟩
  · cases hr

end
end Fo
