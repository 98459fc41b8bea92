/-
  Slices of numbers among what a law is given (part 47).
-/
import Derived.Test.YtildnnhlpdcglaaFoA46
import Derived.Test.YtildnnhlpdcglaaFoA35
import Derived.ChangeSlices
namespace Fo
open Go Go.ChangeShapes Go.WideShapes Go.ChangeAt Go.RowKit
set_option linter.unusedVariables false
set_option linter.unusedSimpArgs false

def rowsOfInts (k : IntKind) (ns : List Int) : List (List V) := ns.map fun n => [.int k n]
def symRowsFrom (k : IntKind) (lo hi : Int) : Nat → Nat → List (List V)
  | _, 0 => []
  | j, n + 1 => [.sym k (.var j) lo hi 1 0] :: symRowsFrom k lo hi (j + 1) n

theorem symRowsFrom_length (k : IntKind) (lo hi : Int) : ∀ (n j : Nat), (symRowsFrom k lo hi j n).length = n
  | 0, _ => rfl
  | n + 1, j => by simp [symRowsFrom, symRowsFrom_length k lo hi n]

section
variable {nf : Nm}

theorem rows_mk {w : World} {M : Nat → Prop} {b : Nat} {k : IntKind} : ∀ (ns : List Int) (o : Nat), (∀ i, i < ns.length → w.cell? ⟨b, o + i, none⟩ = some (.int k (ns.getD i 0))) → DCR nf w M b 1 (rowsOfInts k ns) o
  | [], _, _ => trivial
  | n :: ns, o, h => ⟨rfl, ⟨rfl, ⟨_, by simpa using h 0 (by simp), rfl⟩, trivial⟩, rows_mk ns (o + 1) (fun i hi => by
      have := h (i + 1) (by simpa using hi)
      rw [show o + (i + 1) = o + 1 + i by omega] at this
      simpa using this)⟩

theorem rows_sym {w : World} {M : Nat → Prop} {b : Nat} {k : IntKind} {lo hi : Int} : ∀ (ns : List Int) (j o : Nat), (∀ i, i < ns.length → nf.ρ (j + i) = ns.getD i 0) → (∀ n ∈ ns, lo ≤ n ∧ n ≤ hi) → DCR nf w M b 1 (rowsOfInts k ns) o → DCR nf w M b 1 (symRowsFrom k lo hi j ns.length) o
  | [], _, _, _, _, _ => trivial
  | n :: ns, j, o, h, hb, ⟨_, ⟨_, ⟨c, hc, hd⟩, _⟩, hr⟩ => by
    have hn : nf.ρ j = n := by simpa using h 0 (by simp)
    have hbn := hb n (by simp)
    have hd : c = .int k n := hd
    refine ⟨rfl, ⟨rfl, ⟨c, hc, ?_⟩, trivial⟩, rows_sym ns (j + 1) (o + 1) (fun i hi => ?_) (fun m hm => hb m (by simp [hm])) hr⟩
    · show c = .int k (nf.ρ j) ∧ lo ≤ nf.ρ j ∧ nf.ρ j ≤ hi ∧ nf.ρ j % 1 = 0
      rw [hn]
      exact ⟨hd, hbn.1, hbn.2, Int.emod_one _⟩
    · have := h (i + 1) (by simpa using hi)
      rw [show j + (i + 1) = j + 1 + i by omega] at this
      simpa using this

theorem sl_sym {w : World} {M : Nat → Prop} {k : IntKind} {lo hi : Int} {ns : List Int} {j : Nat} {c : Value} (h : ∀ i, i < ns.length → nf.ρ (j + i) = ns.getD i 0) (hb : ∀ n ∈ ns, lo ≤ n ∧ n ≤ hi) (hd : DC nf w M (.sl (rowsOfInts k ns)) c) :
    DC nf w M (.sl (symRowsFrom k lo hi j ns.length)) c := by
  obtain ⟨a, cap, e, hl, hz, hm⟩ := hd
  have hlen : (rowsOfInts k ns).length = ns.length := by simp [rowsOfInts]
  refine ⟨a, cap, by rw [e, hlen, symRowsFrom_length], by rw [symRowsFrom_length]; omega, hz, ?_⟩
  rcases hm with hm | ⟨b, o, n, ha, h1, h2, h3⟩
  · left
    have : ns = [] := by simpa [rowsOfInts] using hm
    subst this; rfl
  · cases ns with
    | nil => left; rfl
    | cons x xs =>
      have hn : n = 1 := h3.1.symm
      subst hn
      exact .inr ⟨b, o, 1, ha, h1, h2, rows_sym _ j o h hb h3⟩

variable {H : Type} {enc : TypeId × Value → H} {P : Program}

/-- A slice of numbers, as it was read. -/
theorem open_sl {w : World} {spare : Nat → Bool} {held : Bool} {base : Nat} {t e : TypeId} {k : IntKind} {v : Value} {d : DataW H} {ps : List MemPlace} (ht : P.underlying t = some (.slice e)) (he : P.underlying e = some (.int k)) (hc : P.cellsOf e = 1)
    (hv : ∃ a len cap, v = .slice a len cap) (hd : DataW.Trod enc P w base spare held t v d ps) : ∃ ns : List Int, (∀ n ∈ ns, (Lit.int k n).wf = true) ∧ ns.length ≤ maxLen ∧ ∀ nf : Nm, DC nf w (fun b => False ∨ b ∈ ([] : List Nat)) (.sl (rowsOfInts k ns)) v := by
  obtain ⟨a, len, cap, rfl⟩ := hv
  obtain ⟨fuel, hf⟩ := hd
  rcases open_ints ht he hc hf with ⟨h0, _⟩ | ⟨ad, len', cap', zs, h0, _, hl, hm, hz, _, hcell, hwf⟩
  · simp [Value.cells] at h0
    obtain ⟨rfl, rfl, rfl⟩ := h0
    exact ⟨[], by simp, by simp, fun nf => ⟨none, 0, rfl, Nat.le_refl _, fun _ => rfl, .inl rfl⟩⟩
  · simp [Value.cells] at h0
    obtain ⟨rfl, rfl, rfl⟩ := h0
    have hlz : len ≤ zs.length := by rw [hz]; split <;> omega
    have hlt : (zs.take len).length = len := by rw [List.length_take]; omega
    refine ⟨zs.take len, fun n hn => hwf n (List.mem_of_mem_take hn), by omega, fun nf => ⟨some ad, cap, by simp [rowsOfInts]; omega, by simp [rowsOfInts]; omega, by simp, ?_⟩⟩
    cases hk : zs.take len with
    | nil => left; rfl
    | cons x xs =>
      right
      have hpos : 0 < zs.length := by
        cases zs with
        | nil => simp at hk
        | cons => simp
      obtain ⟨b, o, sp⟩ := ad
      have h00 := hcell 0 hpos
      have hsp : sp = none := by
        simp only [Addr.add, if_true] at h00
        unfold World.cell? at h00
        split at h00
        · cases sp with
          | none => rfl
          | some _ => simp at h00
        · cases h00
      subst hsp
      have hb : b < w.heap.size := by
        unfold World.cell? at h00
        split at h00
        · rename_i hq; exact lt_of_getElem? (by simpa [Addr.add] using hq)
        · cases h00
      refine ⟨b, o, 1, rfl, by simp, hb, ?_⟩
      rw [← hk]
      refine rows_mk _ o (fun i hi => ?_)
      have := hcell i (by omega)
      rw [Addr.add_lit] at this
      rw [this]
      congr 2
      simp [List.getD_eq_getElem?_getD, List.getElem?_take, show i < len by omega]
end
end Fo
