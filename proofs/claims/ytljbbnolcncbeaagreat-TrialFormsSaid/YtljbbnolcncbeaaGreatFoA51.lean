/-
  slices.Insert of one element ahead of others, as a hand-made answer of the machine (part 51).
-/
import Derived.Test.YtljbbnolcncbeaaGreatFoA47
import Derived.Laws.World
namespace Fo
open Go
set_option linter.unusedVariables false
set_option linter.unusedSimpArgs false

/-- What is asked of a function of the program that inserts one element (of k cells) ahead of others. -/
structure InsOK (P : Program) (g : FuncId) (k : Nat) : Prop where
  kpos : 0 < k
  shift : ∀ (b off n c i vb voff vc : Nat) (cs vs : List Value) (w : World), i < n → n + 1 ≤ c → vb ≠ b → n ≤ 1000000 →
    cs.length = n * k → vs.length = k →
    (∀ j v, cs[j]? = some v → w.cell? ⟨b, off + j, none⟩ = some v) → (∀ j, j < (n + 1) * k → (w.cell? ⟨b, off + j, none⟩).isSome = true) → (∀ j, j < (n + 1) * k → w.frozen? ⟨b, off + j, none⟩ = false) →
    (∀ j v, vs[j]? = some v → w.cell? ⟨vb, voff + j, none⟩ = some v) → (∀ v ∈ cs, v.oneCell' = true) → (∀ v ∈ vs, v.oneCell' = true) →
    ∀ (tA tB : TypeId) (kA kB : Nat), w.shape? vb = some (tA, kA) → w.shape? b = some (tB, kB) → kB ≠ 0 → w.frozen? ⟨vb, voff, none⟩ = false → w.frozen? ⟨vb, kA, none⟩ = false →
    Calls P g #[.slice (some ⟨b, off, none⟩) n c, .int .i64 i, .slice (some ⟨vb, voff, none⟩) 1 vc] w fun e w' =>
      e = .returned (.slice (some ⟨b, off, none⟩) (n + 1) c) ∧ w' = (w.drew.setCells b (off + (i + 1) * k) (cs.drop (i * k))).setCells b (off + i * k) vs
  grow : ∀ (b off n c i vb voff vc : Nat) (cs vs : List Value) (w : World), i < n → n ≤ c → c < n + 1 → n ≤ 1000000 →
    cs.length = n * k → vs.length = k →
    (∀ j v, cs[j]? = some v → w.cell? ⟨b, off + j, none⟩ = some v) →
    (∀ j v, vs[j]? = some v → w.cell? ⟨vb, voff + j, none⟩ = some v) → (∀ v ∈ cs, v.oneCell' = true) → (∀ v ∈ vs, v.oneCell' = true) →
    ∃ (G : Nat) (ROW : Array Value) (t : TypeId), n + 1 ≤ G ∧ ROW.size = G * k ∧ (∀ j v, j < i * k → cs[j]? = some v → ROW[j]? = some v) ∧
    Calls P g #[.slice (some ⟨b, off, none⟩) n c, .int .i64 i, .slice (some ⟨vb, voff, none⟩) 1 vc] w fun e w' =>
      e = .returned (.slice (some ⟨w.heap.size, 0, none⟩) (n + 1) G) ∧
      w' = (((w.alloc (.cells ROW t)).drew.setCells w.heap.size (i * k) vs).drew).setCells w.heap.size ((i + 1) * k) (cs.drop (i * k))

def insP (tbl : Nat → Option Nat) : CallF := fun f args =>
  match tbl f with
  | none => none
  | some k =>
    match args with
    | [.fresh rows, .int .i64 i, .fresh [row]] =>
      if 0 ≤ i ∧ i < rows.length ∧ rows.length ≤ 1000000 ∧ rows.all (·.length = k) = true ∧ row.length = k then some (.fresh (rows.take i.toNat ++ row :: rows.drop i.toNat), []) else none
    | _ => none

section
variable {P : Program} {nf : Nm}

theorem ins_rows {w : World} {M : Nat → Prop} {b o k i : Nat} {rows : List (List V)} {row : List V} {cs vs : List Value} (hi : i < rows.length)
    (hd : DCL nf w M rows.flatten cs) (hv : DCL nf w M row vs) (h1 : rows.flatten.all V.one = true) (h2 : row.all V.one = true) (hl : ∀ x ∈ rows, x.length = k) (hr : row.length = k)
    (c1 : ∀ j v, j < i * k → cs[j]? = some v → w.cell? ⟨b, o + j, none⟩ = some v) (c2 : ∀ j v, vs[j]? = some v → w.cell? ⟨b, o + (i * k + j), none⟩ = some v)
    (c3 : ∀ j v, cs[i * k + j]? = some v → w.cell? ⟨b, o + ((i + 1) * k + j), none⟩ = some v) : DCR nf w M b k (rows.take i ++ row :: rows.drop i) o := by
  have e1 := hd.length
  rw [flatten_len _ hl] at e1
  have e2 := hv.length
  have hik : i * k ≤ rows.length * k := Nat.mul_le_mul_right _ (Nat.le_of_lt hi)
  have hf : (rows.take i ++ row :: rows.drop i).flatten = rows.flatten.take (i * k) ++ (row ++ rows.flatten.drop (i * k)) := by
    rw [List.flatten_append, List.flatten_cons, flatten_take k _ _ hl, flatten_drop k _ _ hl]
  refine DCR.mk _ (cs.take (i * k) ++ (vs ++ cs.drop (i * k))) o ?_ ?_ ?_ ?_
  · intro x hx
    rcases List.mem_append.1 hx with hx | hx
    · exact hl x (List.mem_of_mem_take hx)
    · rcases List.mem_cons.1 hx with rfl | hx
      · exact hr
      · exact hl x (List.mem_of_mem_drop hx)
  · rw [hf]
    exact DCL.append _ _ _ _ (DCL.take _ _ _ hd) (DCL.append _ _ _ _ hv (DCL.drop _ _ _ hd))
  · intro q c hq
    by_cases q1 : q < i * k
    · rw [List.getElem?_append_left (by simp; omega), List.getElem?_take_of_lt q1] at hq
      exact c1 q c q1 hq
    · have e3 : (cs.take (i * k)).length = i * k := by rw [List.length_take]; omega
      rw [List.getElem?_append_right (by omega), e3] at hq
      by_cases q2 : q - i * k < vs.length
      · rw [List.getElem?_append_left q2] at hq
        have := c2 _ c hq
        rwa [show i * k + (q - i * k) = q by omega] at this
      · rw [List.getElem?_append_right (by omega), List.getElem?_drop] at hq
        have := c3 _ c hq
        rw [Nat.add_mul] at this
        rwa [show i * k + 1 * k + (q - i * k - vs.length) = q by omega] at this
  · rw [hf, List.all_append, List.all_append, h2]
    rw [List.all_eq_true] at h1
    simp only [Bool.true_and, Bool.and_eq_true]
    refine ⟨?_, ?_⟩ <;> rw [List.all_eq_true] <;> intro x hx
    · exact h1 x (List.mem_of_mem_take hx)
    · exact h1 x (List.mem_of_mem_drop hx)

theorem insP_ok {tbl : Nat → Option Nat} (hf : ∀ f k, tbl f = some k → ∃ g, nf f = some g ∧ InsOK P g k) :
    ∀ f args v outs, insP tbl f args = some (v, outs) → CallsOK P nf f args v outs := by
  intro f args v outs h
  unfold insP at h
  split at h
  · cases h
  · rename_i k ht
    obtain ⟨g0, hg0, H⟩ := hf _ _ ht
    split at h
    · rename_i rows i row
      split at h
      · rename_i hc
        obtain ⟨h0, hi, hn, hrk, hrow⟩ := hc
        cases h
        have hl : ∀ x ∈ rows, x.length = k := by intro x hx; have := List.all_eq_true.1 hrk x hx; simpa using this
        intro g hg w M0 vals S hM hS hnd hx
        rw [hg0] at hg; cases hg
        obtain ⟨c1, cs1, O1, O1', rfl, rfl, x1, hx⟩ := hx
        obtain ⟨c2, cs2, O2, O2', rfl, rfl, x2, hx⟩ := hx
        obtain ⟨c3, cs3, O3, O3', rfl, rfl, x3, hx⟩ := hx
        obtain ⟨rfl, rfl⟩ := hx
        obtain ⟨rfl, rfl⟩ := x2
        obtain ⟨m, rfl⟩ : ∃ m : Nat, i = m := ⟨i.toNat, by omega⟩
        have hm : m < rows.length := by omega
        rw [show ((m : Int)).toNat = m from Int.toNat_natCast m]
        rcases x1 with ⟨e, _⟩ | ⟨hne, b, o, n1, cap, e1, N1, rfl, hcap, rfl, hb, nfb, sh, hN, dr⟩
        · subst e; simp at hm
        rcases x3 with ⟨e, _⟩ | ⟨hne3, b3, o3, n3, cap3, e3, N3, rfl, hcap3, rfl, hb3, nfb3, sh3, hN3, dr3⟩
        · cases e
        have hk1 : n1 = k := by
          have := DCR.lens _ _ dr (rows[0]'(by omega)) (by simp)
          rw [hl _ (by simp)] at this; exact this.symm
        subst hk1
        have hk3 : n3 = n1 := by
          have := DCR.lens _ _ dr3 row (by simp)
          omega
        subst hk3
        have hkp := H.kpos
        have hbb : b3 ≠ b := by
          intro e; subst e
          simp at hnd
        obtain ⟨cs, d1, d2, d3, d4⟩ := dr.cells
        obtain ⟨vs, q1, q2, q3, q4⟩ := dr3.cells
        have e9 : [row].flatten = row := by simp
        rw [e9] at q1 q3
        have lc : cs.length = rows.length * n3 := by rw [d1.length, flatten_len _ hl]
        have lv : vs.length = n3 := by rw [q1.length, hrow]
        have oc : ∀ v ∈ cs, v.oneCell' = true := dcl_one d1 d3
        have ov : ∀ v ∈ vs, v.oneCell' = true := dcl_one q1 q3
        have hdl : (cs.drop (m * n3)).length = (rows.length - m) * n3 := by rw [List.length_drop, lc, Nat.mul_sub_right_distrib]
        have hmk : (m + 1) * n3 = m * n3 + n3 := by rw [Nat.add_mul, Nat.one_mul]
        have hsum : (rows.length - m) * n3 + m * n3 = rows.length * n3 := by rw [← Nat.add_mul]; congr 1; omega
        have hrk1 : (rows.length + 1) * n3 = rows.length * n3 + n3 := by rw [Nat.add_mul, Nat.one_mul]
        have hlen : (rows.take m ++ row :: rows.drop m).length = rows.length + 1 := by simp; omega
        have hne' : rows.take m ++ row :: rows.drop m ≠ [] := by simp
        by_cases hroom : rows.length + 1 ≤ cap
        · have hcapk : (rows.length + 1) * n3 ≤ cap * n3 := Nat.mul_le_mul_right _ hroom
          have call := H.shift b o rows.length cap m b3 o3 cap3 cs vs w hm hroom hbb hn lc lv d2 (fun j hj => cell_isSome sh (by omega)) (fun j hj => nfb _) q2 oc ov e3 e1 N3 N1 sh3 sh (by omega) (nfb3 _) (nfb3 _)
          refine Calls.mono call ?_
          rintro e w' ⟨rfl, rfl⟩
          have hsz : ((w.drew.setCells b (o + (m + 1) * n3) (cs.drop (m * n3))).setCells b (o + m * n3) vs).heap.size = w.heap.size := by rw [size_setCells', size_setCells']; rfl
          have hsh : ∀ x, ((w.drew.setCells b (o + (m + 1) * n3) (cs.drop (m * n3))).setCells b (o + m * n3) vs).shape? x = w.shape? x := by intro x; rw [shape_setCells, shape_setCells]; rfl
          have hbl : ∀ x, x ≠ b → ((w.drew.setCells b (o + (m + 1) * n3) (cs.drop (m * n3))).setCells b (o + m * n3) vs).heap[x]? = w.heap[x]? := by
            intro x hx
            rw [heap_setCells_ne b vs _ _ x hx, heap_setCells_ne b _ _ _ x hx]; rfl
          obtain ⟨k1, k2, k3, _⟩ := misc_setCells b vs (o + m * n3) (w.drew.setCells b (o + (m + 1) * n3) (cs.drop (m * n3)))
          obtain ⟨k4, k5, k6, _⟩ := misc_setCells b (cs.drop (m * n3)) (o + (m + 1) * n3) w.drew
          refine ⟨_, [b], rfl, by simp, by simp, ⟨k1.trans k4, k2.trans k5, k3.trans k6, by rw [hsz]; exact Nat.le_refl _, fun x hx hxs => hbl x (fun e => hxs (by simp [e])), fun x _ => hsh x⟩, ?_⟩
          refine ⟨_, _, [b], [], rfl, rfl, .inr ⟨hne', b, o, n3, cap, e1, N1, by rw [hlen], by rw [hlen]; exact hroom, rfl, .inr (by simp), fun x => by rw [World.frozen?_setCells, World.frozen?_setCells]; exact nfb x, by rw [hsh]; exact sh, hN, ?_⟩, rfl, rfl⟩
          have st : Stays w (fun b' => M0 b' ∨ b' ∈ [b] ++ ([] ++ ([b3] ++ []))) ((w.drew.setCells b (o + (m + 1) * n3) (cs.drop (m * n3))).setCells b (o + m * n3) vs) (fun b' => M0 b' ∨ b' ∈ [b]) :=
            ⟨by rw [hsz]; exact Nat.le_refl _, fun x hx _ => hbl x (fun e => hx (by simp [e])), fun x hx => .inl (by rcases hx with hx | hx; exact .inl hx; exact .inr (by simp at hx; simp [hx])), fun x _ => hsh x⟩
          have hs1 : ∀ j, j < (cs.drop (m * n3)).length → (w.drew.cell? ⟨b, o + (m + 1) * n3 + j, none⟩).isSome = true := fun j hj => by
            have : (w.cell? ⟨b, o + (m + 1) * n3 + j, none⟩).isSome = true := cell_isSome sh (by omega)
            exact this
          have hs2 : ∀ j, j < vs.length → ((w.drew.setCells b (o + (m + 1) * n3) (cs.drop (m * n3))).cell? ⟨b, o + m * n3 + j, none⟩).isSome = true := fun j hj => by
            refine cell_isSome (N := N1) (e := e1) (by rw [shape_setCells]; exact sh) (by omega)
          refine ins_rows hm (DCL.stays st _ _ d1) (DCL.stays st _ _ q1) d3 q3 hl hrow ?_ ?_ ?_
          · intro j v hj hv
            rw [World.cell?_setCells_out b vs _ _ _ (fun _ _ => .inl (by simp; omega)), World.cell?_setCells_out b _ _ _ _ (fun _ _ => .inl (by simp; omega))]
            exact d2 j v hv
          · intro j v hv
            obtain ⟨hlt, e⟩ := List.getElem?_eq_some_iff.1 hv
            have := World.cell?_setCells_in b vs (o + m * n3) _ hs2 j hlt
            rw [Nat.add_assoc] at this
            rw [this, e]
          · intro j v hv
            rw [World.cell?_setCells_out b vs _ _ _ (fun _ _ => .inr (by simp; omega))]
            have hv' : (cs.drop (m * n3))[j]? = some v := by rw [List.getElem?_drop]; exact hv
            obtain ⟨hlt, e⟩ := List.getElem?_eq_some_iff.1 hv'
            have := World.cell?_setCells_in b (cs.drop (m * n3)) (o + (m + 1) * n3) _ hs1 j hlt
            rw [Nat.add_assoc] at this
            rw [this, e]
        · obtain ⟨G, ROW, t, g1, g2, g3, call⟩ := H.grow b o rows.length cap m b3 o3 cap3 cs vs w hm hcap (by omega) hn lc lv d2 q2 oc ov
          refine Calls.mono call ?_
          rintro e w' ⟨rfl, rfl⟩
          have hGk : (rows.length + 1) * n3 ≤ G * n3 := Nat.mul_le_mul_right _ g1
          generalize hB : w.heap.size = B
          have hsA : (w.alloc (.cells ROW t)).heap.size = B + 1 := by rw [size_alloc, hB]
          have hsz : ((((w.alloc (.cells ROW t)).drew.setCells B (m * n3) vs).drew).setCells B ((m + 1) * n3) (cs.drop (m * n3))).heap.size = B + 1 := by
            rw [size_setCells']; show ((w.alloc (.cells ROW t)).drew.setCells B (m * n3) vs).heap.size = _; rw [size_setCells']; exact hsA
          have hsh : ∀ x, ((((w.alloc (.cells ROW t)).drew.setCells B (m * n3) vs).drew).setCells B ((m + 1) * n3) (cs.drop (m * n3))).shape? x = (w.alloc (.cells ROW t)).shape? x := by
            intro x; rw [shape_setCells]; show ((w.alloc (.cells ROW t)).drew.setCells B (m * n3) vs).shape? x = _; rw [shape_setCells]; rfl
          have hbl : ∀ x, x ≠ B → ((((w.alloc (.cells ROW t)).drew.setCells B (m * n3) vs).drew).setCells B ((m + 1) * n3) (cs.drop (m * n3))).heap[x]? = (w.alloc (.cells ROW t)).heap[x]? := by
            intro x hx
            rw [heap_setCells_ne B _ _ _ x hx]; show ((w.alloc (.cells ROW t)).drew.setCells B (m * n3) vs).heap[x]? = _; rw [heap_setCells_ne B _ _ _ x hx]; rfl
          have hfr : ∀ x, ((((w.alloc (.cells ROW t)).drew.setCells B (m * n3) vs).drew).setCells B ((m + 1) * n3) (cs.drop (m * n3))).frozen? x = (w.alloc (.cells ROW t)).frozen? x := by
            intro x; rw [World.frozen?_setCells]; show ((w.alloc (.cells ROW t)).drew.setCells B (m * n3) vs).frozen? x = _; rw [World.frozen?_setCells]; rfl
          have shN : (w.alloc (.cells ROW t)).shape? B = some (t, ROW.size) := by rw [← hB]; exact shape_new
          have sta := Stays.alloc w (fun b' => M0 b' ∨ b' ∈ [b] ++ ([] ++ ([b3] ++ []))) (.cells ROW t)
          obtain ⟨k1, k2, k3, _⟩ := misc_setCells B (cs.drop (m * n3)) ((m + 1) * n3) (((w.alloc (.cells ROW t)).drew.setCells B (m * n3) vs).drew)
          obtain ⟨k4, k5, k6, _⟩ := misc_setCells B vs (m * n3) (w.alloc (.cells ROW t)).drew
          refine ⟨_, [B], rfl, by simp, fun x hx => .inr (by simp at hx; omega), ⟨k1.trans k4, k2.trans k5, k3.trans k6, by omega, fun x hx hxs => ?_, fun x hx => ?_⟩, ?_⟩
          · rw [hbl x (by omega)]; exact heap_alloc_lt hx
          · rw [hsh]; exact sta.shape x hx
          refine ⟨_, _, [B], [], rfl, rfl, .inr ⟨hne', B, 0, n3, G, t, ROW.size, by rw [hlen], by rw [hlen]; exact g1, rfl, .inr (by simp), fun x => by rw [hfr, ← hB]; exact NF.new x, by rw [hsh]; exact shN, by omega, ?_⟩, rfl, rfl⟩
          have st : Stays w (fun b' => M0 b' ∨ b' ∈ [b] ++ ([] ++ ([b3] ++ []))) ((((w.alloc (.cells ROW t)).drew.setCells B (m * n3) vs).drew).setCells B ((m + 1) * n3) (cs.drop (m * n3))) (fun b' => M0 b' ∨ b' ∈ [B]) :=
            ⟨by omega, fun x hx hlt => by rw [hbl x (by omega)]; exact heap_alloc_lt hlt, fun x hx => by
              rcases hx with hx | hx
              · exact .inl (.inl hx)
              · exact .inr (by simp at hx; omega), fun x hx => by rw [hsh]; exact sta.shape x hx⟩
          have hc0 : ∀ j v, ROW[j]? = some v → (w.alloc (.cells ROW t)).cell? ⟨B, j, none⟩ = some v := fun j v hv => by rw [← hB, cell_new]; exact hv
          have hs2 : ∀ j, j < vs.length → ((w.alloc (.cells ROW t)).drew.cell? ⟨B, m * n3 + j, none⟩).isSome = true := fun j hj => by
            have : ((w.alloc (.cells ROW t)).cell? ⟨B, m * n3 + j, none⟩).isSome = true := cell_isSome shN (by omega)
            exact this
          have hs1 : ∀ j, j < (cs.drop (m * n3)).length → ((((w.alloc (.cells ROW t)).drew.setCells B (m * n3) vs).drew).cell? ⟨B, (m + 1) * n3 + j, none⟩).isSome = true := fun j hj => by
            have : (((w.alloc (.cells ROW t)).drew.setCells B (m * n3) vs).cell? ⟨B, (m + 1) * n3 + j, none⟩).isSome = true := cell_isSome (N := ROW.size) (e := t) (by rw [shape_setCells]; exact shN) (by omega)
            exact this
          refine ins_rows hm (DCL.stays st _ _ d1) (DCL.stays st _ _ q1) d3 q3 hl hrow ?_ ?_ ?_
          · intro j v hj hv
            rw [World.cell?_setCells_out B _ _ _ _ (fun _ _ => .inl (by simp; omega))]
            show ((w.alloc (.cells ROW t)).drew.setCells B (m * n3) vs).cell? _ = _
            rw [World.cell?_setCells_out B vs _ _ _ (fun _ _ => .inl (by simp; omega)), Nat.zero_add]
            exact hc0 j v (g3 j v hj hv)
          · intro j v hv
            rw [World.cell?_setCells_out B _ _ _ _ (fun _ _ => .inl (by have := (List.getElem?_eq_some_iff.1 hv).1; simp; omega))]
            show ((w.alloc (.cells ROW t)).drew.setCells B (m * n3) vs).cell? _ = _
            obtain ⟨hlt, e⟩ := List.getElem?_eq_some_iff.1 hv
            have := World.cell?_setCells_in B vs (m * n3) _ hs2 j hlt
            rw [Nat.zero_add, this, e]
          · intro j v hv
            have hv' : (cs.drop (m * n3))[j]? = some v := by rw [List.getElem?_drop]; exact hv
            obtain ⟨hlt, e⟩ := List.getElem?_eq_some_iff.1 hv'
            have := World.cell?_setCells_in B (cs.drop (m * n3)) ((m + 1) * n3) _ hs1 j hlt
            rw [Nat.zero_add, this, e]
      · cases h
    · cases h
end
end Fo
