/-
  From what a call keeps to what a law's row asks behind it (part 35).
-/
import Derived.Test.YtildnnhlpdcglaaFoA34
import Derived.WalkKit
import Derived.ProofKit
import Derived.OpenShut
namespace Fo
open Go Go.ChangeShapes Go.WideShapes Go.ChangeAt Go.RowKit
set_option linter.unusedVariables false
set_option linter.unusedSimpArgs false

section
variable {H : Type} {enc : TypeId × Value → H} {P : Program}

theorem CallKeeps.same {W W' : World} (k : CallKeeps W W' []) {p : MemPlace} (hp : p.block < W.heap.size) : W.sameAt W' p := by
  cases p with
  | cell b off => exact cell_stays (k.block b hp (by simp)) off
  | map b => exact k.block b hp (by simp)

theorem CallKeeps.kept {W W' : World} (k : CallKeeps W W' []) (may : MemPlace → Prop) : W.keptBut W' may := by
  refine ⟨k.os, k.output, fun i hi => ?_⟩
  have e := k.block i hi (by simp)
  rw [e]
  cases h : W.heap[i]? with
  | none => simp
  | some o => cases o <;> simp

theorem CallKeeps.frz {W W' : World} (k : CallKeeps W W' []) {b : Nat} (hb : b < W.heap.size) (off : Nat) : W'.frozen? ⟨b, off, none⟩ = W.frozen? ⟨b, off, none⟩ :=
  World.frozen?_of_block (w := W) (a := ⟨b, off, none⟩) (k.block b hb (by simp))

theorem trodAll_same {W W' : World} {base : Nat} {spare : Nat → Bool} {held : Bool} : ∀ {ts : List TypeId} {vs : List Value} {ds : List (DataW H)} {ps : List MemPlace},
    DataW.TrodAll enc P W base spare held ts vs ds ps → (∀ p ∈ ps, W.sameAt W' p) → DataW.TrodAll enc P W' base spare held ts vs ds ps
  | [], [], [], _, h, _ => h
  | _ :: _, _ :: _, _ :: _, _, ⟨p, q, ⟨n, h1⟩, h2, e⟩, hs => ⟨p, q, ⟨n, DataW.trod_carry n _ _ _ h1 (fun x hx => hs x (by rw [e]; exact List.mem_append_left _ hx))⟩,
      trodAll_same h2 (fun x hx => hs x (by rw [e]; exact List.mem_append_right _ hx)), e⟩
  | [], [], _ :: _, _, h, _ => h.elim
  | [], _ :: _, _, _, h, _ => h.elim
  | _ :: _, [], _, _, h, _ => h.elim
  | _ :: _, _ :: _, [], _, h, _ => h.elim

/-- What a law's row asks behind a call that told true and kept all that was there. -/
theorem law_post {f : Func} {s : ChangeSpec} {W W' : World} {args : Array Value} {ds gs : List (DataW H)} {before : List MemPlace} {tb : TypeId}
    (K : Kids P (· < P.types.size)) (full : ∀ t e, t < P.types.size → P.underlying t = some (.slice e) → 0 < P.cellsOf e) (hrow : ∀ t ∈ f.params.toList, t < P.types.size)
    (hv : s.vars = []) (hW : DataW.Whole enc P f.params.toList s.vars false W args.toList ds gs before)
    (hr : (s.fn H (ds ++ gs)).results = [.lit (.bool true)]) (ha : (s.fn H (ds ++ gs)).args = ds) (hvv : (s.fn H (ds ++ gs)).vars = [])
    (hres : f.resultTypes = #[tb]) (htb : P.underlying tb = some .bool) (k : CallKeeps W W' []) : s.post enc P f false true false false W args (.bool true) W' := by
  have hlt : ∀ p ∈ before, p.block < W.heap.size := hW.lt
  have hWk := hW
  obtain ⟨p, q, hA, hV, rfl, hz, hn⟩ := hW
  rw [hv] at hV
  have hV' : gs = [] ∧ q = [] := by
    cases gs with
    | nil => exact ⟨rfl, hV⟩
    | cons => exact hV.elim
  obtain ⟨rfl, rfl⟩ := hV'
  have hA' : ∀ sp : Nat → Bool, (∀ x ∈ p, sp x.block = true) → DataW.TrodAll enc P W' 0 sp true f.params.toList args.toList ds p := fun sp hsp =>
    DataW.TrodAll.respare K full hrow (trodAll_same hA (fun x hx => k.same (hlt x (by simp [hx])))) hsp
  have hT : ∀ (b : Nat) (sp : Nat → Bool) (hd : Bool), DataW.TrodAll enc P W' b sp hd f.resultTypes.toList ((Value.bool true).resultList f.resultTypes.size) (s.fn H (ds ++ [])).results [] := fun b sp hd => by
    rw [hr, hres]
    exact trodAll_cons_mk (shut_bool htb _) trodAll_mk0
  refine ⟨ds, [], p ++ [], [], p, [], hWk, hT _ _ _, by rw [ha]; exact hA' _ (fun x hx => by simpa using hlt x (by simp [hx])), ?_, k.kept _, fun h => by cases h⟩
  rw [hv, hvv]
  rfl

end
end Fo
