/-
  The operations: stores (part 13).
-/
import Derived.Test.YtildnnhlpdcglaaFoA12
namespace Fo
open Go
set_option linter.unusedVariables false
set_option linter.unusedSimpArgs false

section
variable {nf : Nm} {P : Program}

theorem run_storeAt {w : World} {t : TypeId} {b q n : Nat} {c : Value} {cs : List Value} (hs : szOf P t = some n) (hc : c.cells = cs.toArray) (hl : cs.length = n)
    (h1 : ∀ v ∈ cs, v.oneCell' = true) (h2 : ∀ k, k < cs.length → (w.cell? ⟨b, q + k, none⟩).isSome = true) (h3 : NF w b) :
    (Instr.storeAt t (.pointer (some ⟨b, q, none⟩)) c).run P w = .ok () (w.setCells b q cs) := by
  obtain ⟨i, hi, hn⟩ := szOf_info hs
  have := run_storeCells_cells (P := P) b q cs 0 w (by simpa using h2) (by intro j _; exact h3 _) h1
  simp only [Nat.add_zero] at this
  simp [Instr.storeAt, Instr.sureAddr, storeVar, hc, run_sizeOf' hs, hl, this]

theorem oneCells {ι : Iota} {w : World} {M : Nat → Prop} : ∀ (l : List V) (cs : List Value), DVL nf ι w M l cs → l.all V.one = true → ∀ v ∈ cs, v.oneCell' = true
  | [], cs, h, _ => by have h : cs = [] := h; subst h; simp
  | x :: l, cs, ⟨c, cs', e, h1, h2⟩, ho => by
    subst e
    simp only [List.all_cons, Bool.and_eq_true] at ho
    intro v hv
    rcases List.mem_cons.1 hv with rfl | hv
    · exact h1.oneCell ho.1
    · exact oneCells l cs' h2 ho.2 v hv

theorem DVM.isSome {ι : Iota} {w : World} {M : Nat → Prop} {b : Nat} {l : List V} {o : Nat} (h : DVM nf ι w M b l o) (k : Nat) (hk : k < l.length) : (w.cell? ⟨b, o + k, none⟩).isSome = true := by
  obtain ⟨cs, h1, h2, _⟩ := h.read
  obtain ⟨v, hv⟩ : ∃ v, cs[k]? = some v := ⟨cs[k], by simp [h1, hk]⟩
  rw [h2 k v hv]; rfl

theorem splice_one {r l : List V} {off : Nat} (h : r.all V.one = true) (k : l.all V.one = true) : (splice r off l).all V.one = true := by
  unfold splice
  simp only [List.all_append, Bool.and_eq_true]
  rw [List.all_eq_true] at h
  refine ⟨?_, k, ?_⟩ <;> rw [List.all_eq_true] <;> intro x hx
  · exact h x (List.mem_of_mem_take hx)
  · exact h x (List.mem_of_mem_drop hx)
theorem splice_length {r l : List V} {off : Nat} (h : off + l.length ≤ r.length) : (splice r off l).length = r.length := by
  unfold splice; simp; omega

/-- Memory that was written. -/
theorem DVM.write {ι : Iota} {w : World} {M : Nat → Prop} {b : Nat} {r l : List V} {cs : List Value} {o off : Nat} (hM : M b) (h : DVM nf ι w M b r o) (hl : DVL nf ι w M l cs) (ho : l.all V.one = true) (hle : off + l.length ≤ r.length) :
    DVM nf ι (w.setCells b (o + off) cs) M b (splice r off l) o := by
  obtain ⟨c0, h1, h2, h3, h4⟩ := h.read
  have hcl := hl.length
  have s : Stays w M (w.setCells b (o + off) cs) M := Stays.setCells hM cs _
  refine DVM.mk _ (c0.take off ++ (cs ++ c0.drop (off + l.length))) o ?_ (DVL.append _ _ _ _ (DVL.take _ _ _ (DVL.stays s (Iota.le_refl ι) _ _ h3)) (DVL.append _ _ _ _ (DVL.stays s (Iota.le_refl ι) _ _ hl) (DVL.drop _ _ _ (DVL.stays s (Iota.le_refl ι) _ _ h3)))) (splice_one h.one ho)
  intro k c hk
  by_cases k1 : k < off
  · rw [List.getElem?_append_left (by simp; omega), List.getElem?_take_of_lt k1] at hk
    rw [World.cell?_setCells_out b cs _ w _ (fun _ _ => .inl (by simp; omega))]
    exact h2 k c hk
  · rw [List.getElem?_append_right (by simp; omega)] at hk
    have e1 : (c0.take off).length = off := by simp; omega
    rw [e1] at hk
    by_cases k2 : k < off + l.length
    · rw [List.getElem?_append_left (by omega)] at hk
      have hlt : k - off < cs.length := by omega
      have := World.cell?_setCells_in b cs (o + off) w (fun j hj => by
        have := h.isSome (off + j) (by omega); rwa [← Nat.add_assoc] at this) (k - off) hlt
      rw [show o + off + (k - off) = o + k by omega] at this
      rw [this]
      rw [List.getElem?_eq_getElem hlt] at hk
      exact hk
    · rw [List.getElem?_append_right (by omega), List.getElem?_drop] at hk
      rw [World.cell?_setCells_out b cs _ w _ (fun _ _ => .inr (by simp; omega))]
      refine h2 k c ?_
      rw [← hk]; congr 1; omega

theorem Mem.dirty {B : Base} {ι : Iota} {M : Nat → Prop} {h : Heap} {w : World} (m : Mem nf B ι M h w) {d v j b : Nat} (ow : Owns h ι d v j b) (vs : List Value) (q : Nat) : Mem nf B ι M (h.set d v j .dead) (w.setCells b q vs) := by
  refine (m.kill d v j).move (Stays.setCells (m.ownsM ow).1 vs q) (m.keep.setCells (m.mine _ _ _ _ ow) vs q) ?_ m.foreign
  intro d' v' j' b' o
  by_cases e : d' = d ∧ v' = v ∧ j' = j
  · obtain ⟨rfl, rfl, rfl⟩ := e; exact (Owns.putSelf.1 o).elim
  · have o' := (Owns.put e).1 o
    refine ⟨heap_setCells_ne b vs q w b' ?_, (m.ownsM o').1⟩
    rintro rfl
    exact e (m.inj _ _ _ _ _ _ _ o' ow)

theorem dirty_not {B : Base} {ι : Iota} {M : Nat → Prop} {h : Heap} {w : World} (m : Mem nf B ι M h w) {d v j b : Nat} (ow : Owns h ι d v j b) (d' v' j' : Nat) : ¬ Owns (h.set d v j .dead) ι d' v' j' b := by
  intro o
  by_cases e : d' = d ∧ v' = v ∧ j' = j
  · obtain ⟨rfl, rfl, rfl⟩ := e; exact (Owns.putSelf.1 o).elim
  · exact e (m.inj _ _ _ _ _ _ _ ((Owns.put e).1 o) ow)

theorem DCR.toCells {w : World} {M : Nat → Prop} {b n : Nat} : ∀ (r : List (List V)) (o k : Nat) (x x' : List V) (w' : World) (M' : Nat → Prop), DCR nf w M b n r o → r[k]? = some x → x'.length = n →
    (∀ l o', DCM nf w M b l o' → (o' + l.length ≤ o + k * n ∨ o + (k + 1) * n ≤ o') → DCM nf w' M' b l o') → DCM nf w' M' b x' (o + k * n) → DCR nf w' M' b n (r.set k x') o
  | [], _, _, _, _, _, _, _, e, _, _, _ => by simp at e
  | y :: r, o, 0, x, x', w', M', h, e, hl, hk, hx => by
    refine ⟨hl, by simpa using hx, ?_⟩
    exact DCR.mono r (o + n) (fun l o' h' hle => hk l o' h' (.inr (by simp; omega))) h.2.2
  | y :: r, o, k + 1, x, x', w', M', h, e, hl, hk, hx => by
    have e1 : o + (k + 1) * n = o + n + k * n := by rw [Nat.add_mul]; omega
    have e2 : o + (k + 1 + 1) * n = o + n + (k + 1) * n := by rw [Nat.add_mul]; omega
    refine ⟨h.1, hk y o h.2.1 (.inl ?_), ?_⟩
    · rw [h.1, e1]; omega
    · exact DCR.toCells r (o + n) k x x' w' M' h.2.2 (by simpa using e) hl (fun l o' h' hc => hk l o' h' (by rw [e1, e2]; exact hc)) (by rw [← e1]; exact hx)
where
  DCR.mono {w : World} {M : Nat → Prop} {b n : Nat} {w' : World} {M' : Nat → Prop} : ∀ (r : List (List V)) (o : Nat), (∀ l o', DCM nf w M b l o' → o ≤ o' → DCM nf w' M' b l o') → DCR nf w M b n r o → DCR nf w' M' b n r o
    | [], _, _, _ => trivial
    | y :: r, o, hk, h => ⟨h.1, hk _ _ h.2.1 (Nat.le_refl _), DCR.mono r (o + n) (fun l o' h' hle => hk l o' h' (by omega)) h.2.2⟩

theorem DCM.out {w : World} {M : Nat → Prop} {b : Nat} {w' : World} (s : Stays w M w' M) : ∀ (l : List V) (o : Nat), (∀ k, k < l.length → w'.cell? ⟨b, o + k, none⟩ = w.cell? ⟨b, o + k, none⟩) → DCM nf w M b l o → DCM nf w' M b l o
  | [], _, _, _ => trivial
  | v :: l, o, hk, ⟨ho, ⟨c, hc, h1⟩, h2⟩ => ⟨ho, ⟨c, by have := hk 0 (by simp); simp at this; rw [this]; exact hc, DC.stays s v c h1⟩,
      DCM.out s l (o + 1) (fun k hk' => by have := hk (k + 1) (by simpa using hk'); rwa [show o + (k + 1) = o + 1 + k by omega] at this) h2⟩

theorem DCM.mk {w : World} {M : Nat → Prop} {b : Nat} : ∀ (l : List V) (cs : List Value) (o : Nat), (∀ k c, cs[k]? = some c → w.cell? ⟨b, o + k, none⟩ = some c) → DCL nf w M l cs → l.all V.one = true → DCM nf w M b l o
  | [], _, _, _, _, _ => trivial
  | v :: l, _, o, hc, ⟨c, cs', e, h1, h2⟩, ho => by
    subst e
    simp only [List.all_cons, Bool.and_eq_true] at ho
    exact ⟨ho.1, ⟨c, by simpa using hc 0 c rfl, h1⟩, DCM.mk l cs' (o + 1) (fun k x hx => by have := hc (k + 1) x (by simpa using hx); rwa [show o + (k + 1) = o + 1 + k by omega] at this) h2 ho.2⟩
theorem DCM.read {w : World} {M : Nat → Prop} {b : Nat} : ∀ (l : List V) (o : Nat), DCM nf w M b l o →
    ∃ cs : List Value, cs.length = l.length ∧ (∀ k v, cs[k]? = some v → w.cell? ⟨b, o + k, none⟩ = some v) ∧ DCL nf w M l cs
  | [], _, _ => ⟨[], rfl, by simp, rfl⟩
  | v :: l, o, ⟨ho, ⟨c, hc, h1⟩, h2⟩ => by
    obtain ⟨cs, hl, hr, hd⟩ := DCM.read l (o + 1) h2
    refine ⟨c :: cs, by simp [hl], ?_, ⟨c, cs, rfl, h1, hd⟩⟩
    intro k x hx
    cases k with
    | zero => simp at hx; subst hx; simpa using hc
    | succ k => have := hr k x (by simpa using hx); rw [show o + (k + 1) = o + 1 + k by omega]; exact this
theorem DCM.one {w : World} {M : Nat → Prop} {b : Nat} : ∀ (l : List V) (o : Nat), DCM nf w M b l o → l.all V.one = true
  | [], _, _ => rfl
  | v :: l, o, ⟨ho, _, h⟩ => by simp [ho]; simpa using DCM.one l (o + 1) h
theorem DCL.length {w : World} {M : Nat → Prop} : ∀ (l : List V) (cs : List Value), DCL nf w M l cs → cs.length = l.length
  | [], cs, h => by have h : cs = [] := h; subst h; rfl
  | v :: l, cs, ⟨c, cs', e, _, h⟩ => by subst e; simp [DCL.length l cs' h]
theorem DCL.append {w : World} {M : Nat → Prop} : ∀ (l m : List V) (cs ds : List Value), DCL nf w M l cs → DCL nf w M m ds → DCL nf w M (l ++ m) (cs ++ ds)
  | [], m, cs, ds, h, k => by have h : cs = [] := h; subst h; simpa using k
  | x :: l, m, cs, ds, ⟨c, cs', e1, h1, h2⟩, k => by subst e1; exact ⟨c, cs' ++ ds, by simp, h1, DCL.append l m cs' ds h2 k⟩
theorem DCL.drop {w : World} {M : Nat → Prop} : ∀ (k : Nat) (l : List V) (cs : List Value), DCL nf w M l cs → DCL nf w M (l.drop k) (cs.drop k)
  | 0, l, cs, h => by simpa using h
  | k + 1, [], cs, h => by have h : cs = [] := h; subst h; simp [DCL]
  | k + 1, x :: l, cs, ⟨c, cs', e1, h1, h2⟩ => by subst e1; simpa using DCL.drop k l cs' h2
theorem DCL.take {w : World} {M : Nat → Prop} : ∀ (k : Nat) (l : List V) (cs : List Value), DCL nf w M l cs → DCL nf w M (l.take k) (cs.take k)
  | 0, l, cs, h => by simp [DCL]
  | k + 1, [], cs, h => by have h : cs = [] := h; subst h; simp [DCL]
  | k + 1, x :: l, cs, ⟨c, cs', e1, h1, h2⟩ => by subst e1; exact ⟨c, cs'.take k, by simp, h1, DCL.take k l cs' h2⟩

/-- A row of which a part was written. -/
theorem DCM.write {w : World} {M : Nat → Prop} {b : Nat} {r l : List V} {cs : List Value} {o off : Nat} (hM : M b) (h : DCM nf w M b r o) (hl : DCL nf w M l cs) (ho : l.all V.one = true) (hle : off + l.length ≤ r.length) :
    DCM nf (w.setCells b (o + off) cs) M b (splice r off l) o := by
  obtain ⟨c0, h1, h2, h3⟩ := h.read
  have hcl := hl.length
  have s : Stays w M (w.setCells b (o + off) cs) M := Stays.setCells hM cs _
  refine DCM.mk _ (c0.take off ++ (cs ++ c0.drop (off + l.length))) o ?_ (DCL.append _ _ _ _ (DCL.take _ _ _ (DCL.stays s _ _ h3)) (DCL.append _ _ _ _ (DCL.stays s _ _ hl) (DCL.drop _ _ _ (DCL.stays s _ _ h3)))) (splice_one h.one ho)
  intro k c hk
  by_cases k1 : k < off
  · rw [List.getElem?_append_left (by simp; omega), List.getElem?_take_of_lt k1] at hk
    rw [World.cell?_setCells_out b cs _ w _ (fun _ _ => .inl (by simp; omega))]
    exact h2 k c hk
  · rw [List.getElem?_append_right (by simp; omega)] at hk
    have e1 : (c0.take off).length = off := by simp; omega
    rw [e1] at hk
    by_cases k2 : k < off + l.length
    · rw [List.getElem?_append_left (by omega)] at hk
      have hlt : k - off < cs.length := by omega
      have := World.cell?_setCells_in b cs (o + off) w (fun j hj => by
        have hv : ∃ v, c0[off + j]? = some v := ⟨c0[off + j]'(by omega), by simp⟩
        obtain ⟨v, hv⟩ := hv
        rw [Nat.add_assoc, h2 _ v hv]; rfl) (k - off) hlt
      rw [show o + off + (k - off) = o + k by omega] at this
      rw [this]
      rw [List.getElem?_eq_getElem hlt] at hk
      exact hk
    · rw [List.getElem?_append_right (by omega), List.getElem?_drop] at hk
      rw [World.cell?_setCells_out b cs _ w _ (fun _ _ => .inr (by simp; omega))]
      refine h2 k c ?_
      rw [← hk]; congr 1; omega

theorem lendL_alive {h : Heap} : ∀ (l : List V) {r : List V × Ids}, lendL h l = some r → ∀ i ∈ r.2, Alive h i := by
  intro l r e
  exact (lend_aliveL l r e)
where
  lend_alive : ∀ (x : V) (r : V × Ids), lend h x = some r → ∀ i ∈ r.2, Alive h i
    | .int _ _, r, e => by simp only [lend, Option.some.injEq] at e; subst e; simp
    | .bool _, r, e => by simp only [lend, Option.some.injEq] at e; subst e; simp
    | .sym _ _ _ _ _ _, r, e => by simp only [lend, Option.some.injEq] at e; subst e; simp
    | .e _, r, e => by simp only [lend, Option.some.injEq] at e; subst e; simp
    | .sl _, r, e => by simp only [lend, Option.some.injEq] at e; subst e; simp
    | .iptr _ _, r, e => by simp only [lend, Option.some.injEq] at e; subst e; simp
    | .fresh _, r, e => by simp only [lend] at e; split at e <;> cases e; simp
    | .agg l, r, e => by
      simp only [lend, Option.map_eq_some_iff] at e
      obtain ⟨s, hs, rfl⟩ := e
      exact lend_aliveL l s hs
    | .tup l, r, e => by
      simp only [lend, Option.map_eq_some_iff] at e
      obtain ⟨s, hs, rfl⟩ := e
      exact lend_aliveL l s hs
    | .own d v j fr len, r, e => by
      simp only [lend] at e
      split at e
      · rename_i hb; cases e; intro i hi; obtain rfl : i = (d, v, j) := by simpa using hi
        simp [Alive, hb]
      · rename_i hb; cases e; intro i hi; obtain rfl : i = (d, v, j) := by simpa using hi
        simp [Alive, hb]
      · cases e
    | .ptr _ _ _ _ _, r, e => by cases e
    | .pbox _ _, r, e => by cases e
    | .fn _ _ _, r, e => by cases e
    | .fmap _ _, r, e => by cases e
    | .spare _, r, e => by cases e
    | .map _ _ _, r, e => by cases e
    | .any, r, e => by cases e
  lend_aliveL : ∀ (l : List V) (r : List V × Ids), lendL h l = some r → ∀ i ∈ r.2, Alive h i
    | [], r, e => by simp only [lendL, Option.some.injEq] at e; subst e; simp
    | x :: l, r, e => by
      simp only [lendL] at e
      cases hx : lend h x with
      | none => rw [hx] at e; cases e
      | some y =>
        rw [hx] at e
        simp only [Option.map_eq_some_iff] at e
        obtain ⟨s, hs, rfl⟩ := e
        intro i hi
        rcases List.mem_append.1 hi with hi | hi
        · exact lend_alive x y hx i hi
        · exact lend_aliveL l s hs i hi

theorem tells_store {B : Base} {ι : Iota} {M : Nat → Prop} {h : Heap} {a : Act} {w : World} (m : Mem nf B ι M h w) {o : Oper} {t : TypeId} {x y : Operand} (ho : o.op = .store t x y) {n : Nat} (hn : szOf P t = some n) {p v : V} {r : Res} {mk : Bool}
    (hp : DV nf ι w M p (a.eval x)) (hv : DV nf ι w M v (a.eval y)) (hr : storeV n p v h = some r) : ∃ c w' M', Tells P o a w c w' ∧ ResOK nf B ι M w mk r c w' M' := by
  unfold storeV at hr
  split at hr
  · rename_i d wv j row off
    have k := m.blk d wv j
    obtain ⟨b, o', n', tot, h1, h2⟩ := hp
    split at hr
    · rename_i rr hb
      rw [hb] at k
      obtain ⟨b', o2, k1, k2, k3, k4, k5⟩ := k
      rw [k1] at h1; cases h1
      split at hr
      · rename_i hc
        obtain ⟨hc1, hc2, rfl, hc4⟩ := hc
        cases hr
        obtain ⟨cs, e, hd⟩ := cells_of hv hc4
        have hl := hd.length
        have ow : Owns h ι d wv j b := by unfold Owns; rw [hb]; exact ⟨_, _, _, k1⟩
        simp only [Nat.zero_mul, Nat.add_zero] at h2
        have hrun := run_storeAt (P := P) (b := b) (q := o' + off) hn e (by omega) (oneCells _ _ hd hc4) (fun k hk => by have := k5.isSome (off + k) (by omega); rwa [← Nat.add_assoc] at this) k4
        have hw := DVM.write k2 k5 hd hc4 (by omega : off + v.cells.length ≤ rr.length)
        have sl := splice_length (by omega : off + v.cells.length ≤ rr.length)
        have s := Less.of ι (w.setCells b (o' + off) cs) M []
        have mL : Less ι M [] b := ⟨k2, by rintro ⟨i, hi, _⟩; cases hi⟩
        refine ⟨undef, _, M, .inr ⟨by simp [execOp, ho, h2, hrun], rfl⟩, Stays.setCells k2 cs _, m.dirty ow cs _, (fun i hi => by cases hi), fun _ => ⟨[], [b], DV.toXV _ _ DV.unit, ⟨b, o', [], [], rfl, by rw [sl]; exact k1, mL, by rw [size_setCells']; exact k3, fun x => by rw [World.frozen?_setCells]; exact k4 x, by rw [Heap.set_bl, if_pos ⟨rfl, rfl, rfl⟩], DVM.toXV _ _ (DVM.staysB s (Iota.le_refl ι) b rfl _ _ hw), rfl⟩, by simp, ?_⟩,
          fun _ => ⟨DV.unit, [b], ⟨b, o', [], rfl, by rw [sl]; exact k1, mL, by rw [size_setCells']; exact k3, fun x => by rw [World.frozen?_setCells]; exact k4 x, by rw [Heap.set_bl, if_pos ⟨rfl, rfl, rfl⟩], DVM.staysB s (Iota.le_refl ι) b rfl _ _ hw, rfl⟩, by simp, ?_⟩⟩
        all_goals
          intro x hx
          obtain rfl : x = b := by simpa using hx
          exact ⟨fun d' v' j' => dirty_not m ow d' v' j', m.mine _ _ _ _ ow⟩
      · cases hr
    · rename_i rr hb
      split at hr
      · rename_i xx cc hxx hcc
        split at hr
        · rename_i rz hz
          split at hr
          · rename_i hc
            obtain ⟨hc1, hc2, hc3⟩ := hc
            cases hr
            rw [hb] at k
            have hone : v.cells.all V.one = true := by rw [← lendL_one _ hcc]; exact hc3
            obtain ⟨cs, e, hd⟩ := cells_of hv hone
            have hl := hd.length
            have hlc : cc.1.length = v.cells.length := by have := (lendL_ok m _ _ _ _ hd hcc).length; omega
            obtain ⟨fm, fc, fo, fd⟩ := freeze_ok cc.2 M h m (fun i hi => .inl (lendL_alive _ hcc i hi))
            rcases k with ⟨k1, k2⟩ | ⟨hne, b', o2, n2, e2, N2, k1, k2, k3, k4, k5, k6⟩
            · subst k2; simp at hxx
            · rw [k1] at h1; cases h1
              have ow : Owns (freeze h cc.2) ι d wv j b := by unfold Owns; rw [hz]; exact ⟨_, _, _, k1⟩
              have mb := (fm.ownsM ow).1
              have k6' : DCR nf w (Less ι M cc.2) b n' rr o' := DCR.staysB (Less.of ι w M cc.2) b n' rfl _ _ k6
              have hrow := DCR.get _ _ _ _ k6' hxx
              have hcl := lendL_ok m _ _ _ _ hd hcc
              have hdm : DVM nf ι w (Less ι M cc.2) b xx (o' + row * n') := DCM.toDVM _ _ hrow.2
              have hrun := run_storeAt (P := P) (b := b) (q := o' + row * n' + off) hn e (by omega) (oneCells _ _ hd hone) (fun k hk => by have := hdm.isSome (off + k) (by omega); rwa [← Nat.add_assoc] at this) k3
              have hw := DCM.write mb hrow.2 hcl hc3 (by omega : off + cc.1.length ≤ xx.length)
              have sl := splice_length (by omega : off + cc.1.length ≤ xx.length)
              have s := Stays.setCells (w := w) mb cs (o' + row * n' + off)
              have hnew : DCR nf (w.setCells b (o' + row * n' + off) cs) (Less ι M cc.2) b n' (rr.set row (splice xx off cc.1)) o' := by
                refine DCR.toCells _ _ _ _ _ _ _ k6' hxx (by rw [sl, hrow.1]) ?_ hw
                intro l o3 hl3 hpos
                refine DCM.out s _ _ (fun k hk => World.cell?_setCells_out b cs _ w _ (fun _ _ => ?_)) hl3
                have e1 : o' + (row + 1) * n' = o' + row * n' + n' := by rw [Nat.add_mul]; omega
                simp only
                omega
              have md := fm.dirty ow cs (o' + row * n' + off)
              have e3 : ((freeze h cc.2).set d wv j .dead).set d wv j (.rows (rr.set row (splice xx off cc.1))) = (freeze h cc.2).set d wv j (.rows (rr.set row (splice xx off cc.1))) := by
                unfold Heap.set; simp only; congr 1; funext d' v' j'; split <;> rfl
              have mm := md.put (d := d) (v := wv) (j := j) (c := .rows (rr.set row (splice xx off cc.1))) (by rw [k1]; simp)
                (.inr ⟨by simpa using hne, b, o', n', e2, N2, by simpa using k1, mb, fun x => by rw [World.frozen?_setCells]; exact k3 x, by rw [shape_setCells]; exact k4, by simpa using k5, hnew⟩) (by
                  rintro b2 ⟨o4, n4, t4, e4⟩
                  rw [k1] at e4; cases e4
                  exact ⟨fun d2 v2 j2 _ => dirty_not fm ow d2 v2 j2, fm.mine _ _ _ _ ow⟩)
              rw [e3] at mm
              have st : Stays w M (w.setCells b (o' + row * n' + off) cs) (Less ι M cc.2) :=
                ⟨s.size, fun q hq hq2 => s.block q (fun hh => hq hh.1) hq2, fun q hq => .inl hq.1, s.shape⟩
              refine ⟨undef, _, Less ι M cc.2, .inr ⟨by simp [execOp, ho, h2, hrun], rfl⟩, st, mm, (fun i hi => by cases hi), fun _ => ⟨[], [], DV.toXV _ _ DV.unit, rfl, by simp, by simp⟩, fun _ => ⟨DV.unit, [], rfl, by simp, by simp⟩⟩
          · cases hr
        · cases hr
      · cases hr
    · cases hr
  · cases hr

end
end Fo
