/-
  What an operation leaves, laid into the frame: the frame's state (part 8).
-/
import Derived.Test.YtildnnhlpdcglaaFoA7
namespace Fo
open Go
set_option linter.unusedVariables false
set_option linter.unusedSimpArgs false

section
variable (nf : Nm)

/-- Boxes that come back. -/
def BXL (ι : Iota) (w : World) (M : Nat → Prop) (h : Heap) : List ((Nat × Nat × Nat) × List V) → List Nat → Prop
  | [], O => O = []
  | ((d, v, j), row) :: l, O => ∃ b o O1 O2, O = (b :: O1) ++ O2 ∧ ι d v j = some (.pl b o row.length 1) ∧ M b ∧ b < w.heap.size ∧ NF w b ∧ h.bl d v j = .dead ∧ XVM nf ι w M b row o O1 ∧ BXL ι w M h l O2

/-- The same without anything new. -/
def BDL (ι : Iota) (w : World) (M : Nat → Prop) (h : Heap) : List ((Nat × Nat × Nat) × List V) → List Nat → Prop
  | [], O => O = []
  | ((d, v, j), row) :: l, O => ∃ b o O2, O = b :: O2 ∧ ι d v j = some (.pl b o row.length 1) ∧ M b ∧ b < w.heap.size ∧ NF w b ∧ h.bl d v j = .dead ∧ DVM nf ι w M b row o ∧ BDL ι w M h l O2

/-- What an operation leaves: r, and c for its value. -/
structure ResOK (B : Base) (ι : Iota) (M : Nat → Prop) (w : World) (mk : Bool) (r : Res) (c : Value) (w' : World) (M' : Nat → Prop) : Prop where
  stays : Stays w M w' M'
  mem : Mem nf B ι M' r.h w'
  lent : ∀ i ∈ r.fz, Alive r.h i ∨ r.h.bl i.1 i.2.1 i.2.2 = .dead ∧ ∀ b, (∃ o n t, ι i.1 i.2.1 i.2.2 = some (.pl b o n t)) → ¬ M' b
  new : mk = true → ∃ O Os, XV nf ι w' (Less ι M' r.fz) r.v c O ∧ BXL nf ι w' (Less ι M' r.fz) r.h r.bx Os ∧ (O ++ Os).Nodup ∧
    ∀ b ∈ O ++ Os, (∀ d v j, ¬ Owns r.h ι d v j b) ∧ (b ∈ B.S0 ∨ B.w0.heap.size ≤ b)
  old : mk = false → DV nf ι w' (Less ι M' r.fz) r.v c ∧ ∃ Os, BDL nf ι w' (Less ι M' r.fz) r.h r.bx Os ∧ Os.Nodup ∧
    ∀ b ∈ Os, (∀ d v j, ¬ Owns r.h ι d v j b) ∧ (b ∈ B.S0 ∨ B.w0.heap.size ≤ b)

structure RelS (B : Base) (N : Nat) (ι : Iota) (M : Nat → Prop) (σ : St) (a : Act) (w : World) : Prop where
  mem : Mem nf B ι M σ.h w
  env : ∀ t, DV nf ι w M (σ.env t) (a.tmps.getD t undef)
  size : a.tmps.size = N
  defers : a.defers = []

variable {nf}

theorem restore_ok {B : Base} {w : World} {M : Nat → Prop} {d ver : Nat} : ∀ (l : List ((Nat × Nat × Nat) × List V)) (O : List Nat) (j : Nat) (h : Heap) (ι : Iota),
    Mem nf B ι M h w → BXL nf ι w M h l O → O.Nodup → (∀ b ∈ O, ∀ d' v' j', ¬ Owns h ι d' v' j' b) → (∀ b ∈ O, b ∈ B.S0 ∨ B.w0.heap.size ≤ b) →
    Free h ι d ver j → ver < h.cnt d →
    ∃ ι', Iota.le ι ι' ∧ Mem nf B ι' M (restore d ver l j h) w ∧ (restore d ver l j h).cnt = h.cnt
  | [], O, j, h, ι, m, _, _, _, _, _, _ => ⟨ι, Iota.le_refl ι, m, rfl⟩
  | ((d', v', j'), row) :: l, O, j, h, ι, m, hx, hn, hd, hm, f, hc => by
    obtain ⟨b, o, O1, O2, rfl, h1, h2, h3, h4, h5, h6, h7⟩ := hx
    have hn1 := List.nodup_append.1 hn
    have hn2 := List.nodup_cons.1 hn1.1
    obtain ⟨ι1, t1, v1⟩ := thawM_ok (d := d) (ver := ver) row b o O1 j h ι m h6 hn2.2 (fun x hx => hd x (by simp [hx])) (fun x hx => hm x (by simp [hx])) f hc
    have hlen : (thawL d ver row j h).1.length = row.length := thawL_length row j h
    -- the box itself
    have hfree : ¬ (d' = d ∧ v' = ver ∧ j ≤ j') := by
      rintro ⟨rfl, rfl, hj⟩
      have := (f j' hj).2
      rw [h1] at this; cases this
    have hrest := t1.rest d' v' j' hfree
    have hb1 : ∀ d2 v2 j2, ¬ Owns (thawL d ver row j h).2.2 ι1 d2 v2 j2 b := by
      intro d2 v2 j2 o2
      rcases t1.owns _ _ _ _ o2 with o2 | o2
      · exact hd b (by simp) _ _ _ o2
      · exact hn2.1 o2
    have m2 : Mem nf B ι1 M ((thawL d ver row j h).2.2.set d' v' j' (.box (thawL d ver row j h).1)) w := by
      refine t1.mem.put ?_ ⟨b, o, by rw [hlen]; exact t1.le _ _ _ _ h1, h2, h3, h4, v1⟩ ?_
      · rw [t1.le _ _ _ _ h1]; simp
      · rintro b' ⟨o', n', t', e⟩
        rw [t1.le _ _ _ _ h1] at e; cases e
        exact ⟨fun d2 v2 j2 _ => hb1 d2 v2 j2, hm b (by simp)⟩
    have hown2 : ∀ x d2 v2 j2, Owns ((thawL d ver row j h).2.2.set d' v' j' (.box (thawL d ver row j h).1)) ι1 d2 v2 j2 x → Owns h ι d2 v2 j2 x ∨ x ∈ b :: O1 := by
      intro x d2 v2 j2 o2
      by_cases e : d2 = d' ∧ v2 = v' ∧ j2 = j'
      · obtain ⟨rfl, rfl, rfl⟩ := e
        obtain ⟨o', n', t', e⟩ := Owns.putSelf.1 o2
        rw [t1.le _ _ _ _ h1] at e; cases e; exact .inr (by simp)
      · rcases t1.owns _ _ _ _ ((Owns.put e).1 o2) with o2 | o2
        · exact .inl o2
        · exact .inr (by simp [o2])
    have hbx : BXL nf ι1 w M ((thawL d ver row j h).2.2.set d' v' j' (.box (thawL d ver row j h).1)) l O2 := by
      refine bxl_next t1 l O2 h7 ?_ ?_
      · intro i hi e
        have : ∃ x ∈ O2, ∃ o n, ι i.1 i.2.1 i.2.2 = some (.pl x o n 1) := bxl_mem l O2 h7 i hi
        obtain ⟨x, hx, o', n', e'⟩ := this
        obtain ⟨rfl, rfl, rfl⟩ := e
        rw [h1] at e'; cases e'
        exact hn1.2.2 b (by simp) b hx rfl
      · intro i hi ⟨e1, e2, e3⟩
        obtain ⟨x, hx, o', n', e'⟩ := bxl_mem l O2 h7 i hi
        have := (f i.2.2 e3).2
        rw [← e1, ← e2, e'] at this; cases this
    have f2 : Free ((thawL d ver row j h).2.2.set d' v' j' (.box (thawL d ver row j h).1)) ι1 d ver (thawL d ver row j h).2.1 := by
      intro j2 hj2
      have ne : ¬ (d = d' ∧ ver = v' ∧ j2 = j') := by
        rintro ⟨rfl, rfl, rfl⟩
        exact hfree ⟨rfl, rfl, Nat.le_trans t1.jle hj2⟩
      rw [Heap.set_bl, if_neg ne]
      exact t1.free j2 hj2
    obtain ⟨ι2, le2, mm, cc⟩ := restore_ok l O2 (thawL d ver row j h).2.1 _ ι1 m2 hbx hn1.2.1
      (fun x hx d2 v2 j2 o2 => by
        rcases hown2 _ _ _ _ o2 with o2 | o2
        · exact hd x (by simp [hx]) _ _ _ o2
        · exact hn1.2.2 x o2 x hx rfl) (fun x hx => hm x (by simp [hx])) f2 (by rw [Heap.set_cnt, t1.cnt]; exact hc)
    exact ⟨ι2, Iota.le_trans t1.le le2, mm, cc.trans t1.cnt⟩
where
  bxl_mem {ι : Iota} {w : World} {M : Nat → Prop} {h : Heap} : ∀ (l : List ((Nat × Nat × Nat) × List V)) (O : List Nat), BXL nf ι w M h l O → ∀ i ∈ l.map (·.1), ∃ x ∈ O, ∃ o n, ι i.1 i.2.1 i.2.2 = some (.pl x o n 1)
    | [], _, _, i, hi => by simp at hi
    | ((d, v, j), row) :: l, O, ⟨b, o, O1, O2, e, h1, _, _, _, _, _, h7⟩, i, hi => by
      subst e
      rw [List.map_cons] at hi
      rcases List.mem_cons.1 hi with rfl | hi
      · exact ⟨b, by simp, o, _, h1⟩
      · obtain ⟨x, hx, r⟩ := bxl_mem l O2 h7 i hi
        exact ⟨x, by simp [hx], r⟩
  bxl_next {B : Base} {w : World} {M : Nat → Prop} {d ver j j' : Nat} {O1 : List Nat} {h h' : Heap} {ι ι' : Iota} {d1 v1 j1 : Nat} {c : Bc} (t : Thawed (nf := nf) B w M d ver O1 j h ι j' h' ι') :
      ∀ (l : List ((Nat × Nat × Nat) × List V)) (O : List Nat), BXL nf ι w M h l O → (∀ i ∈ l.map (·.1), ¬ (i.1 = d1 ∧ i.2.1 = v1 ∧ i.2.2 = j1)) → (∀ i ∈ l.map (·.1), ¬ (i.1 = d ∧ i.2.1 = ver ∧ j ≤ i.2.2)) →
      BXL nf ι' w M (h'.set d1 v1 j1 c) l O
    | [], _, e, _, _ => e
    | ((d2, v2, j2), row) :: l, O, ⟨b, o, O1', O2, e, h1, h2, h3, h4, h5, h6, h7⟩, k1, k2 => by
      have q1 := k1 (d2, v2, j2) (by simp)
      have q2 := k2 (d2, v2, j2) (by simp)
      refine ⟨b, o, O1', O2, e, t.le _ _ _ _ h1, h2, h3, h4, ?_, XVM.stays (Stays.refl w M) t.le b rfl row o O1' (fun x hx => ⟨rfl, XVM.inM b row o O1' h6 x hx⟩) h6,
        bxl_next t l O2 h7 (fun i hi => k1 i (by simp at hi ⊢; exact .inr hi)) (fun i hi => k2 i (by simp at hi ⊢; exact .inr hi))⟩
      rw [Heap.set_bl, if_neg q1]
      exact (t.rest d2 v2 j2 q2).1.trans h5

theorem backbox_ok {B : Base} {w : World} {M : Nat → Prop} {ι : Iota} : ∀ (l : List ((Nat × Nat × Nat) × List V)) (O : List Nat) (h : Heap),
    Mem nf B ι M h w → BDL nf ι w M h l O → O.Nodup → (∀ b ∈ O, ∀ d' v' j', ¬ Owns h ι d' v' j' b) → (∀ b ∈ O, b ∈ B.S0 ∨ B.w0.heap.size ≤ b) →
    Mem nf B ι M (l.foldl (fun h b => h.set b.1.1 b.1.2.1 b.1.2.2 (.box b.2)) h) w
  | [], O, h, m, _, _, _, _ => m
  | ((d', v', j'), row) :: l, O, h, m, hx, hn, hd, hm => by
    obtain ⟨b, o, O2, rfl, h1, h2, h3, h4, h5, h6, h7⟩ := hx
    have hn1 := List.nodup_cons.1 hn
    refine backbox_ok l O2 _ (m.put (by rw [h1]; simp) ⟨b, o, h1, h2, h3, h4, h6⟩ ?_) (bdl_next l O2 h7 ?_) hn1.2 ?_ (fun x hx => hm x (by simp [hx]))
    · rintro b' ⟨o', n', t', e⟩
      rw [h1] at e; cases e
      exact ⟨fun d2 v2 j2 _ => hd b (by simp) d2 v2 j2, hm b (by simp)⟩
    · intro i hi e
      obtain ⟨x, hx, o', n', e'⟩ := bdl_mem l O2 h7 i hi
      obtain ⟨rfl, rfl, rfl⟩ := e
      rw [h1] at e'; cases e'
      exact hn1.1 hx
    · intro x hx d2 v2 j2 o2
      by_cases e : d2 = d' ∧ v2 = v' ∧ j2 = j'
      · obtain ⟨rfl, rfl, rfl⟩ := e
        obtain ⟨o', n', t', e⟩ := Owns.putSelf.1 o2
        rw [h1] at e; cases e; exact hn1.1 hx
      · exact hd x (by simp [hx]) _ _ _ ((Owns.put e).1 o2)
where
  bdl_mem {ι : Iota} {w : World} {M : Nat → Prop} {h : Heap} : ∀ (l : List ((Nat × Nat × Nat) × List V)) (O : List Nat), BDL nf ι w M h l O → ∀ i ∈ l.map (·.1), ∃ x ∈ O, ∃ o n, ι i.1 i.2.1 i.2.2 = some (.pl x o n 1)
    | [], _, _, i, hi => by simp at hi
    | ((d, v, j), row) :: l, O, ⟨b, o, O2, e, h1, _, _, _, _, _, h7⟩, i, hi => by
      subst e
      rw [List.map_cons] at hi
      rcases List.mem_cons.1 hi with rfl | hi
      · exact ⟨b, by simp, o, _, h1⟩
      · obtain ⟨x, hx, r⟩ := bdl_mem l O2 h7 i hi
        exact ⟨x, by simp [hx], r⟩
  bdl_next {w : World} {M : Nat → Prop} {h : Heap} {ι : Iota} {d1 v1 j1 : Nat} {c : Bc} :
      ∀ (l : List ((Nat × Nat × Nat) × List V)) (O : List Nat), BDL nf ι w M h l O → (∀ i ∈ l.map (·.1), ¬ (i.1 = d1 ∧ i.2.1 = v1 ∧ i.2.2 = j1)) → BDL nf ι w M (h.set d1 v1 j1 c) l O
    | [], _, e, _ => e
    | ((d2, v2, j2), row) :: l, O, ⟨b, o, O2, e, h1, h2, h3, h4, h5, h6, h7⟩, k1 => by
      have q1 := k1 (d2, v2, j2) (by simp)
      refine ⟨b, o, O2, e, h1, h2, h3, h4, by rw [Heap.set_bl, if_neg q1]; exact h5, h6, bdl_next l O2 h7 (fun i hi => k1 i (by simp at hi ⊢; exact .inr hi))⟩

theorem bxl_dead {ι : Iota} {w : World} {M : Nat → Prop} {h h' : Heap} (k : ∀ d v j, h.bl d v j = .dead → h'.bl d v j = .dead) : ∀ (l : List ((Nat × Nat × Nat) × List V)) (O : List Nat), BXL nf ι w M h l O → BXL nf ι w M h' l O
  | [], _, e => e
  | ((d, v, j), row) :: l, O, ⟨b, o, O1, O2, e, h1, h2, h3, h4, h5, h6, h7⟩ => ⟨b, o, O1, O2, e, h1, h2, h3, h4, k _ _ _ h5, h6, bxl_dead k l O2 h7⟩
theorem bdl_dead {ι : Iota} {w : World} {M : Nat → Prop} {h h' : Heap} (k : ∀ d v j, h.bl d v j = .dead → h'.bl d v j = .dead) : ∀ (l : List ((Nat × Nat × Nat) × List V)) (O : List Nat), BDL nf ι w M h l O → BDL nf ι w M h' l O
  | [], _, e => e
  | ((d, v, j), row) :: l, O, ⟨b, o, O2, e, h1, h2, h3, h4, h5, h6, h7⟩ => ⟨b, o, O2, e, h1, h2, h3, h4, k _ _ _ h5, h6, bdl_dead k l O2 h7⟩
theorem bxl_le {ι ι' : Iota} {w : World} {M : Nat → Prop} {h : Heap} (le : Iota.le ι ι') : ∀ (l : List ((Nat × Nat × Nat) × List V)) (O : List Nat), BXL nf ι w M h l O → BXL nf ι' w M h l O
  | [], _, e => e
  | ((d, v, j), row) :: l, O, ⟨b, o, O1, O2, e, h1, h2, h3, h4, h5, h6, h7⟩ =>
    ⟨b, o, O1, O2, e, le _ _ _ _ h1, h2, h3, h4, h5, XVM.stays (Stays.refl w M) le b rfl row o O1 (fun x hx => ⟨rfl, XVM.inM b row o O1 h6 x hx⟩) h6, bxl_le le l O2 h7⟩

theorem setEnv_rel {ι : Iota} {w : World} {M : Nat → Prop} {env : Env} {a : Act} {N : Nat} (he : ∀ t, DV nf ι w M (env t) (a.tmps.getD t undef)) (hs : a.tmps.size = N)
    {wr : Bool} {d : Nat} {v : V} {c : Value} (hv : wr = true → DV nf ι w M v c ∧ d < N) (t : Nat) :
    DV nf ι w M (setEnv env wr d v t) ((a.put (if wr then some d else none) c).tmps.getD t undef) := by
  cases wr with
  | false => simpa [setEnv, Act.put] using he t
  | true =>
    obtain ⟨h1, h2⟩ := hv rfl
    simp only [setEnv, if_true, Act.put, upd, Array.getD_eq_getD_getElem?]
    by_cases e : t = d
    · subst e; simp only [if_true]; rw [Array.getElem?_setIfInBounds_self_of_lt (by omega)]; exact h1
    · simp only [e, if_false]; rw [Array.getElem?_setIfInBounds_ne (by omega)]; have := he t; rwa [Array.getD_eq_getD_getElem?] at this

theorem put_size (a : Act) (x : Option Nat) (c : Value) : (a.put x c).tmps.size = a.tmps.size := by cases x <;> simp [Act.put]
theorem put_defers (a : Act) (x : Option Nat) (c : Value) : (a.put x c).defers = a.defers := by cases x <;> simp [Act.put]

/-- What an operation leaves, laid in. -/
theorem apply_ok {B : Base} {N : Nat} {ι : Iota} {M : Nat → Prop} {σ : St} {a : Act} {w : World} (rel : RelS nf B N ι M σ a w) {o : AOp} {r : Res} {c : Value} {w' : World} {M' : Nat → Prop}
    (hr : ResOK nf B ι M w o.k.makes r c w' M') (hd : o.w = true → o.d < N) :
    ∃ ι' M'', RelS nf B N ι' M'' (apply σ o r) (a.put (if o.w then some o.d else none) c) w' := by
  obtain ⟨fm, fc, fo, fd⟩ := freeze_ok r.fz M' r.h hr.mem hr.lent
  have s2 : Stays w M w' (Less ι M' r.fz) := ⟨hr.stays.size, hr.stays.block, fun b hb => hr.stays.less b hb.1, hr.stays.shape⟩
  cases hm : o.k.makes with
  | true =>
    obtain ⟨O, Os, hx, hbx, hn, hb⟩ := hr.new hm
    have hn1 := List.nodup_append.1 hn
    let h1 : Heap := { freeze r.h r.fz with cnt := upd (freeze r.h r.fz).cnt o.d ((freeze r.h r.fz).cnt o.d + 1) }
    have m1 : Mem nf B ι (Less ι M' r.fz) h1 w' := fm.bump o.d
    have f1 : Free h1 ι o.d ((freeze r.h r.fz).cnt o.d) 0 := fun j' _ => fm.fut o.d _ j' (Nat.le_refl _)
    have c1 : (freeze r.h r.fz).cnt o.d < h1.cnt o.d := by show _ < upd _ _ _ _; simp
    obtain ⟨ι1, t1, v1⟩ := thaw_ok (d := o.d) (ver := (freeze r.h r.fz).cnt o.d) r.v c O 0 h1 ι m1 hx hn1.1
      (fun b hb' d v j o' => (hb b (by simp [hb'])).1 d v j (fo _ _ _ _ o')) (fun b hb' => (hb b (by simp [hb'])).2) f1 c1
    have hbx1 : BXL nf ι w' (Less ι M' r.fz) h1 r.bx Os := bxl_dead (h' := h1) (fun d v j e => fd d v j e) _ _ hbx
    have hbx2 : BXL nf ι1 w' (Less ι M' r.fz) (thaw o.d ((freeze r.h r.fz).cnt o.d) r.v 0 h1).2.2 r.bx Os := by
      have e := bxl_le t1.le _ _ hbx1
      refine bxl_same t1 f1 _ _ hbx1 e
    obtain ⟨ι2, le2, m2, c2⟩ := restore_ok (d := o.d) (ver := (freeze r.h r.fz).cnt o.d) r.bx Os (thaw o.d ((freeze r.h r.fz).cnt o.d) r.v 0 h1).2.1 (thaw o.d ((freeze r.h r.fz).cnt o.d) r.v 0 h1).2.2 ι1
      t1.mem hbx2 hn1.2.1 (fun b hb' d v j o' => by
        rcases t1.owns _ _ _ _ o' with o' | o'
        · exact (hb b (by simp [hb'])).1 d v j (fo _ _ _ _ o')
        · exact hn1.2.2 b o' b hb' rfl) (fun b hb' => (hb b (by simp [hb'])).2) t1.free (by rw [t1.cnt]; exact c1)
    have le3 := Iota.le_trans t1.le le2
    have e : apply σ o r = ⟨setEnv σ.env o.w o.d (thaw o.d ((freeze r.h r.fz).cnt o.d) r.v 0 h1).1, restore o.d ((freeze r.h r.fz).cnt o.d) r.bx (thaw o.d ((freeze r.h r.fz).cnt o.d) r.v 0 h1).2.1 (thaw o.d ((freeze r.h r.fz).cnt o.d) r.v 0 h1).2.2⟩ := by
      unfold apply; rw [if_pos hm]
    rw [e]
    exact ⟨ι2, Less ι M' r.fz, m2, setEnv_rel (fun t => DV.stays s2 le3 _ _ (rel.env t)) rel.size (fun hw => ⟨DV.stays (Stays.refl _ _) le2 _ _ v1, hd hw⟩), by rw [put_size]; exact rel.size, by rw [put_defers]; exact rel.defers⟩
  | false =>
    obtain ⟨hv, Os, hbx, hn, hb⟩ := hr.old hm
    have e : apply σ o r = ⟨setEnv σ.env o.w o.d r.v, r.bx.foldl (fun h b => h.set b.1.1 b.1.2.1 b.1.2.2 (.box b.2)) (freeze r.h r.fz)⟩ := by
      unfold apply; rw [if_neg (by simp [hm])]
    rw [e]
    exact ⟨ι, Less ι M' r.fz, backbox_ok r.bx Os _ fm (bdl_dead (fun d v j e => fd d v j e) _ _ hbx) hn (fun b hb' d v j o' => (hb b hb').1 d v j (fo _ _ _ _ o')) (fun b hb' => (hb b hb').2),
      setEnv_rel (fun t => DV.stays s2 (Iota.le_refl ι) _ _ (rel.env t)) rel.size (fun hw => ⟨hv, hd hw⟩), by rw [put_size]; exact rel.size, by rw [put_defers]; exact rel.defers⟩
where
  bxl_same {B : Base} {w : World} {M : Nat → Prop} {d ver j' : Nat} {O1 : List Nat} {h h' : Heap} {ι ι' : Iota} (t : Thawed (nf := nf) B w M d ver O1 0 h ι j' h' ι') (f : Free h ι d ver 0) :
      ∀ (l : List ((Nat × Nat × Nat) × List V)) (O : List Nat), BXL nf ι w M h l O → BXL nf ι' w M h l O → BXL nf ι' w M h' l O
    | [], _, e, _ => e
    | ((d2, v2, j2), row) :: l, O, ⟨b, o, O1', O2, e, h1, h2, h3, h4, h5, h6, h7⟩, k => by
      subst e
      have q : ¬ (d2 = d ∧ v2 = ver ∧ 0 ≤ j2) := by
        rintro ⟨rfl, rfl, _⟩; have := (f j2 (Nat.zero_le _)).2; rw [h1] at this; cases this
      refine ⟨b, o, O1', O2, rfl, t.le _ _ _ _ h1, h2, h3, h4, (t.rest _ _ _ q).1.trans h5, XVM.stays (Stays.refl w M) t.le b rfl row o O1' (fun x hx => ⟨rfl, XVM.inM b row o O1' h6 x hx⟩) h6, bxl_same t f l O2 h7 (bxl_le t.le _ _ h7)⟩

end
end Fo
