/-
  What an operation leaves, laid into the frame (part 7).
-/
import Derived.Test.YtildnnhlpdcglaaFoA6
namespace Fo
open Go
set_option linter.unusedVariables false
set_option linter.unusedSimpArgs false

section
variable {nf : Nm}

theorem Owns.put {h : Heap} {ι : Iota} {d v j : Nat} {c : Bc} {d' v' j' b : Nat} (ne : ¬ (d' = d ∧ v' = v ∧ j' = j)) : Owns (h.set d v j c) ι d' v' j' b ↔ Owns h ι d' v' j' b := by
  unfold Owns; rw [Heap.set_bl, if_neg ne]
theorem Owns.putSelf {h : Heap} {ι : Iota} {d v j : Nat} {c : Bc} {b : Nat} : Owns (h.set d v j c) ι d v j b ↔ OwnsC ι d v j b c := by
  unfold Owns; rw [Heap.set_bl, if_pos ⟨rfl, rfl, rfl⟩]

/-- A block is another one. -/
theorem Mem.put {B : Base} {ι : Iota} {M : Nat → Prop} {h : Heap} {w : World} (m : Mem nf B ι M h w) {d v j : Nat} {c : Bc}
    (hι : ι d v j ≠ none) (hk : BlkOK nf ι w M d v j c)
    (hb : ∀ b, OwnsC ι d v j b c → (∀ d' v' j', ¬ (d' = d ∧ v' = v ∧ j' = j) → ¬ Owns h ι d' v' j' b) ∧ (b ∈ B.S0 ∨ B.w0.heap.size ≤ b)) :
    Mem nf B ι M (h.set d v j c) w where
  wf := m.wf
  blk := by
    intro d' v' j'
    rw [Heap.set_bl]
    split
    · rename_i e; obtain ⟨rfl, rfl, rfl⟩ := e; exact hk
    · exact m.blk d' v' j'
  inj := by
    intro d1 v1 j1 d2 v2 j2 b o1 o2
    by_cases e1 : d1 = d ∧ v1 = v ∧ j1 = j
    · obtain ⟨rfl, rfl, rfl⟩ := e1
      by_cases e2 : d2 = d1 ∧ v2 = v1 ∧ j2 = j1
      · obtain ⟨rfl, rfl, rfl⟩ := e2; exact ⟨rfl, rfl, rfl⟩
      · exact absurd ((Owns.put e2).1 o2) ((hb b (Owns.putSelf.1 o1)).1 _ _ _ e2)
    · by_cases e2 : d2 = d ∧ v2 = v ∧ j2 = j
      · obtain ⟨rfl, rfl, rfl⟩ := e2
        exact absurd ((Owns.put e1).1 o1) ((hb b (Owns.putSelf.1 o2)).1 _ _ _ e1)
      · exact m.inj _ _ _ _ _ _ b ((Owns.put e1).1 o1) ((Owns.put e2).1 o2)
  mine := by
    intro d1 v1 j1 b o1
    by_cases e1 : d1 = d ∧ v1 = v ∧ j1 = j
    · obtain ⟨rfl, rfl, rfl⟩ := e1
      exact (hb b (Owns.putSelf.1 o1)).2
    · exact m.mine _ _ _ b ((Owns.put e1).1 o1)
  fut := by
    intro d' v' j' hle
    have ne : ¬ (d' = d ∧ v' = v ∧ j' = j) := by rintro ⟨rfl, rfl, rfl⟩; exact hι (m.fut _ _ _ hle).2
    rw [Heap.set_bl, if_neg ne]
    exact m.fut d' v' j' hle
  keep := m.keep
  foreign := m.foreign
  ext := m.ext

/-- The world goes on, the frame's own is as it was. -/
theorem Mem.move {B : Base} {ι : Iota} {M M' : Nat → Prop} {h : Heap} {w w' : World} (m : Mem nf B ι M h w) (s : Stays w M w' M') (k : Kept B w')
    (hk : ∀ d v j b, Owns h ι d v j b → w'.heap[b]? = w.heap[b]? ∧ M' b) (hf : ∀ b, B.M0 b → M' b) : Mem nf B ι M' h w' where
  wf := m.wf
  blk := fun d v j => (m.blk d v j).stays s (Iota.le_refl ι) (fun b o => hk d v j b o)
  inj := m.inj
  mine := m.mine
  fut := m.fut
  keep := k
  foreign := hf
  ext := m.ext

theorem Mem.bump {B : Base} {ι : Iota} {M : Nat → Prop} {h : Heap} {w : World} (m : Mem nf B ι M h w) (d : Nat) : Mem nf B ι M { h with cnt := upd h.cnt d (h.cnt d + 1) } w where
  wf := m.wf
  blk := m.blk
  inj := m.inj
  mine := m.mine
  fut := by
    intro d' v j hle
    refine m.fut d' v j ?_
    simp only [upd] at hle
    split at hle
    · rename_i e; subst e; omega
    · exact hle
  keep := m.keep
  foreign := m.foreign
  ext := m.ext

def Alive (h : Heap) (i : Nat × Nat × Nat) : Prop :=
  match h.bl i.1 i.2.1 i.2.2 with
  | .rows _ | .frz _ | .box _ => True
  | _ => False

theorem Mem.notForeign {B : Base} {ι : Iota} {M : Nat → Prop} {h : Heap} {w : World} (m : Mem nf B ι M h w) {d v j b : Nat} (o : Owns h ι d v j b) : ¬ B.M0 b := by
  rcases m.mine _ _ _ _ o with k | k
  · exact m.wf.off b k
  · intro h; have := m.wf.low b h; omega

/-- What was lent, and is seen, is nobody's any more. -/
theorem freeze_ok {B : Base} {ι : Iota} {w : World} : ∀ (ids : Ids) (M : Nat → Prop) (h : Heap), Mem nf B ι M h w → (∀ i ∈ ids, Alive h i ∨ h.bl i.1 i.2.1 i.2.2 = .dead ∧ ∀ b, (∃ o n t, ι i.1 i.2.1 i.2.2 = some (.pl b o n t)) → ¬ M b) →
    Mem nf B ι (Less ι M ids) (freeze h ids) w ∧ (freeze h ids).cnt = h.cnt ∧ (∀ d v j b, Owns (freeze h ids) ι d v j b → Owns h ι d v j b) ∧ (∀ d v j, h.bl d v j = .dead → (freeze h ids).bl d v j = .dead)
  | [], M, h, m, _ => by
    refine ⟨m.move (Stays.sub fun _ hb => hb.1) m.keep (fun d v j b o => ⟨rfl, (m.ownsM o).1, by rintro ⟨i, hi, _⟩; cases hi⟩) (fun b hb => ⟨m.foreign b hb, by rintro ⟨i, hi, _⟩; cases hi⟩), rfl, fun _ _ _ _ o => o, fun _ _ _ e => e⟩
  | (d, v, j) :: ids, M, h, m, ha => by
    -- the first one
    have h0 := ha (d, v, j) (by simp)
    let M1 : Nat → Prop := fun b => M b ∧ ¬ ∃ o n t, ι d v j = some (.pl b o n t)
    let h1 : Heap := match h.bl d v j with
      | .rows r => h.set d v j (.frz r)
      | .box _ => h.set d v j .dead
      | _ => h
    have hsub : Stays w M w M1 := Stays.sub fun _ hb => hb.1
    have hother : ∀ d' v' j' b, ¬ (d' = d ∧ v' = v ∧ j' = j) → Owns h ι d' v' j' b → M1 b := by
      intro d' v' j' b ne o
      refine ⟨(m.ownsM o).1, ?_⟩
      rintro ⟨o', n, t, e⟩
      rcases h0 with h0 | h0
      · unfold Alive at h0
        have kb := m.blk d v j
        cases hc : h.bl d v j with
        | rows r => exact ne (m.inj _ _ _ _ _ _ b o (by unfold Owns; rw [hc]; exact ⟨_, _, _, e⟩))
        | box r => exact ne (m.inj _ _ _ _ _ _ b o (by unfold Owns; rw [hc]; exact ⟨_, _, _, e⟩))
        | frz r =>
          rw [hc] at kb
          rcases kb with ⟨k1, _⟩ | ⟨b', o2, n2, k1, k2, _⟩
          · rw [k1] at e; cases e
          · rw [k1] at e; cases e; exact k2 (m.ownsM o).1
        | dead => simp only [hc] at h0
        | mp es => simp only [hc] at h0
      · exact h0.2 b ⟨_, _, _, e⟩ (m.ownsM o).1
    have hfor : ∀ b, B.M0 b → M1 b := by
      intro b hb
      refine ⟨m.foreign b hb, ?_⟩
      rintro ⟨o', n, t, e⟩
      rcases h0 with h0 | h0
      · unfold Alive at h0
        have kb := m.blk d v j
        cases hc : h.bl d v j with
        | rows r => exact m.notForeign (d := d) (v := v) (j := j) (by unfold Owns; rw [hc]; exact ⟨_, _, _, e⟩) hb
        | box r => exact m.notForeign (d := d) (v := v) (j := j) (by unfold Owns; rw [hc]; exact ⟨_, _, _, e⟩) hb
        | frz r =>
          rw [hc] at kb
          rcases kb with ⟨k1, _⟩ | ⟨b', o2, n2, k1, k2, _⟩
          · rw [k1] at e; cases e
          · rw [k1] at e; cases e; exact k2 (m.foreign b hb)
        | dead => simp only [hc] at h0
        | mp es => simp only [hc] at h0
      · exact h0.2 b ⟨_, _, _, e⟩ (m.foreign b hb)
    have hkill : Mem nf B ι M1 (h.set d v j .dead) w := by
      refine (m.kill d v j).move hsub m.keep (fun d' v' j' b o => ?_) hfor
      by_cases e : d' = d ∧ v' = v ∧ j' = j
      · obtain ⟨rfl, rfl, rfl⟩ := e; exact (Owns.putSelf.1 o).elim
      · exact ⟨rfl, hother _ _ _ b e ((Owns.put e).1 o)⟩
    have m1 : Mem nf B ι M1 h1 w := by
      have kb := m.blk d v j
      show Mem nf B ι M1 (match h.bl d v j with | .rows r => h.set d v j (.frz r) | .box _ => h.set d v j .dead | _ => h) w
      cases hc : h.bl d v j with
      | box r => exact hkill
      | rows r =>
        rw [hc] at kb
        have e2 : (h.set d v j .dead).set d v j (.frz r) = h.set d v j (.frz r) := by
          unfold Heap.set; simp only; congr 1; funext d' v' j'; split <;> rfl
        show Mem nf B ι M1 (h.set d v j (.frz r)) w
        rw [← e2]
        refine hkill.put ?_ ?_ (fun b o => o.elim)
        · rcases kb with ⟨k1, _⟩ | ⟨hne, b', o2, n2, e', N', k1, _⟩ <;> simp [k1]
        · rcases kb with ⟨k1, k2⟩ | ⟨hne, b', o2, n2, e', N', k1, k2, k3, k4, k5, k6⟩
          · exact .inl ⟨k1, k2⟩
          · exact .inr ⟨b', o2, n2, k1, fun hm => hm.2 ⟨_, _, _, k1⟩, shape_lt k4, DCR.staysB hsub b' n2 rfl _ _ k6⟩
      | dead =>
        refine m.move hsub m.keep (fun d' v' j' b o => ?_) hfor
        by_cases e : d' = d ∧ v' = v ∧ j' = j
        · obtain ⟨rfl, rfl, rfl⟩ := e; unfold Owns at o; rw [hc] at o; exact o.elim
        · exact ⟨rfl, hother _ _ _ b e o⟩
      | frz r =>
        refine m.move hsub m.keep (fun d' v' j' b o => ?_) hfor
        by_cases e : d' = d ∧ v' = v ∧ j' = j
        · obtain ⟨rfl, rfl, rfl⟩ := e; unfold Owns at o; rw [hc] at o; exact o.elim
        · exact ⟨rfl, hother _ _ _ b e o⟩
      | mp es =>
        rcases h0 with h0 | h0
        · unfold Alive at h0; simp only [hc] at h0
        · simp only [hc] at h0; cases h0.1
    have hbl : ∀ d' v' j', ¬ (d' = d ∧ v' = v ∧ j' = j) → h1.bl d' v' j' = h.bl d' v' j' := by
      intro d' v' j' ne
      show (match h.bl d v j with | .rows r => h.set d v j (.frz r) | .box _ => h.set d v j .dead | _ => h).bl d' v' j' = _
      split <;> first | rfl | (rw [Heap.set_bl, if_neg ne])
    have hown : ∀ d' v' j' b, Owns h1 ι d' v' j' b → Owns h ι d' v' j' b := by
      intro d' v' j' b o
      by_cases e : d' = d ∧ v' = v ∧ j' = j
      · obtain ⟨rfl, rfl, rfl⟩ := e
        have o : Owns (match h.bl d' v' j' with | .rows r => h.set d' v' j' (.frz r) | .box _ => h.set d' v' j' .dead | _ => h) ι d' v' j' b := o
        split at o
        · exact (Owns.putSelf.1 o).elim
        · exact (Owns.putSelf.1 o).elim
        · exact o
      · unfold Owns at o ⊢; rw [hbl _ _ _ e] at o; exact o
    have hcnt : h1.cnt = h.cnt := by
      show (match h.bl d v j with | .rows r => h.set d v j (.frz r) | .box _ => h.set d v j .dead | _ => h).cnt = _
      split <;> rfl
    have hdead : ∀ d' v' j', h.bl d' v' j' = .dead → h1.bl d' v' j' = .dead := by
      intro d' v' j' e
      by_cases e' : d' = d ∧ v' = v ∧ j' = j
      · obtain ⟨rfl, rfl, rfl⟩ := e'
        show (match h.bl d' v' j' with | .rows r => h.set d' v' j' (.frz r) | .box _ => h.set d' v' j' .dead | _ => h).bl d' v' j' = _
        rw [e]; exact e
      · rw [hbl _ _ _ e']; exact e
    have ha1 : ∀ i ∈ ids, Alive h1 i ∨ h1.bl i.1 i.2.1 i.2.2 = .dead ∧ ∀ b, (∃ o n t, ι i.1 i.2.1 i.2.2 = some (.pl b o n t)) → ¬ M1 b := by
      intro i hi
      rcases ha i (by simp [hi]) with h' | h'
      · by_cases e : i.1 = d ∧ i.2.1 = v ∧ i.2.2 = j
        · obtain ⟨i1, i2, i3⟩ := i
          obtain ⟨rfl, rfl, rfl⟩ := e
          show (match h1.bl i1 i2 i3 with | .rows _ | .frz _ | .box _ => True | _ => False) ∨ _
          unfold Alive at h'
          cases hc : h.bl i1 i2 i3 with
          | rows r =>
            left
            have : h1.bl i1 i2 i3 = .frz r := by
              show (match h.bl i1 i2 i3 with | .rows r => h.set i1 i2 i3 (.frz r) | .box _ => h.set i1 i2 i3 .dead | _ => h).bl i1 i2 i3 = _
              rw [hc]; simp [Heap.set_bl]
            rw [this]; trivial
          | frz r =>
            left
            have : h1.bl i1 i2 i3 = .frz r := by
              show (match h.bl i1 i2 i3 with | .rows r => h.set i1 i2 i3 (.frz r) | .box _ => h.set i1 i2 i3 .dead | _ => h).bl i1 i2 i3 = _
              rw [hc]; exact hc
            rw [this]; trivial
          | box r =>
            right
            have : h1.bl i1 i2 i3 = .dead := by
              show (match h.bl i1 i2 i3 with | .rows r => h.set i1 i2 i3 (.frz r) | .box _ => h.set i1 i2 i3 .dead | _ => h).bl i1 i2 i3 = _
              rw [hc]; simp [Heap.set_bl]
            exact ⟨this, fun b e hm => hm.2 e⟩
          | dead => simp only [hc] at h'
          | mp es => simp only [hc] at h'
        · left; unfold Alive at h' ⊢; rw [hbl _ _ _ e]; exact h'
      · right
        exact ⟨hdead _ _ _ h'.1, fun b e hm => h'.2 b e hm.1⟩
    obtain ⟨r1, r2, r3, r4⟩ := freeze_ok ids M1 h1 m1 ha1
    have hM : ∀ b, Less ι M1 ids b ↔ Less ι M ((d, v, j) :: ids) b := by
      intro b
      constructor
      · rintro ⟨⟨q1, q2⟩, q3⟩
        refine ⟨q1, ?_⟩
        rintro ⟨i, hi, e⟩
        rcases List.mem_cons.1 hi with rfl | hi
        · exact q2 e
        · exact q3 ⟨i, hi, e⟩
      · rintro ⟨q1, q2⟩
        exact ⟨⟨q1, fun e => q2 ⟨(d, v, j), by simp, e⟩⟩, fun ⟨i, hi, e⟩ => q2 ⟨i, by simp [hi], e⟩⟩
    have hMe : Less ι M1 ids = Less ι M ((d, v, j) :: ids) := funext fun b => propext (hM b)
    rw [← hMe]
    exact ⟨r1, r2.trans hcnt, fun d' v' j' b o => hown _ _ _ _ (r3 _ _ _ _ o), fun d' v' j' e => r4 _ _ _ (hdead _ _ _ e)⟩

end
end Fo
