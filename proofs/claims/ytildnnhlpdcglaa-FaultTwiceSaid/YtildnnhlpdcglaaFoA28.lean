/-
  Operations that are not ordered may change places (part 28).
-/
import Derived.Test.YtildnnhlpdcglaaFoA26
namespace Fo
open Go
set_option linter.unusedVariables false
set_option linter.unusedSimpArgs false

/-- What is laid in is laid in at its own class; what it is named there does not hang on what is there. -/
structure TL (d : Nat) (h h' g g' : Heap) : Prop where
  cnt : g.cnt = h.cnt
  cnt' : g'.cnt = h'.cnt
  out : ∀ c, c ≠ d → ∀ v j, g.bl c v j = h.bl c v j
  out' : ∀ c, c ≠ d → ∀ v j, g'.bl c v j = h'.bl c v j
  same : (∀ v j, h'.bl d v j = h.bl d v j) → ∀ v j, g'.bl d v j = g.bl d v j

theorem TL.refl (d : Nat) (h h' : Heap) : TL d h h' h h' := ⟨rfl, rfl, fun _ _ _ _ => rfl, fun _ _ _ _ => rfl, fun k => k⟩
theorem TL.trans {d : Nat} {h h' g g' f f' : Heap} (a : TL d h h' g g') (b : TL d g g' f f') : TL d h h' f f' :=
  ⟨b.cnt.trans a.cnt, b.cnt'.trans a.cnt', fun c hc v j => (b.out c hc v j).trans (a.out c hc v j), fun c hc v j => (b.out' c hc v j).trans (a.out' c hc v j), fun k => b.same (a.same k)⟩
theorem TL.one (d v j : Nat) (h h' : Heap) (c : Bc) : TL d h h' (h.set d v j c) (h'.set d v j c) := by
  refine ⟨rfl, rfl, fun e he v' j' => ?_, fun e he v' j' => ?_, fun k v' j' => ?_⟩
  · rw [Heap.set_bl, if_neg (by rintro ⟨rfl, _⟩; exact he rfl)]
  · rw [Heap.set_bl, if_neg (by rintro ⟨rfl, _⟩; exact he rfl)]
  · simp only [Heap.set_bl]; split
    · rfl
    · exact k v' j'

mutual
theorem thaw_loc (d ver : Nat) : ∀ (x : V) (j : Nat) (h h' : Heap),
    (thaw d ver x j h').1 = (thaw d ver x j h).1 ∧ (thaw d ver x j h').2.1 = (thaw d ver x j h).2.1 ∧ TL d h h' (thaw d ver x j h).2.2 (thaw d ver x j h').2.2
  | .int _ _, j, h, h' | .bool _, j, h, h' | .sym _ _ _ _ _ _, j, h, h' | .e _, j, h, h' | .sl _, j, h, h' | .iptr _ _, j, h, h' | .fn _ _ _, j, h, h' | .own _ _ _ _ _, j, h, h' | .ptr _ _ _ _ _, j, h, h' | .map _ _ _, j, h, h' | .any, j, h, h' => ⟨rfl, rfl, TL.refl _ _ _⟩
  | .fresh rows, j, h, h' => ⟨rfl, rfl, TL.one _ _ _ _ _ _⟩
  | .fmap _ _, j, h, h' => ⟨rfl, rfl, TL.one _ _ _ _ _ _⟩
  | .spare _, j, h, h' => ⟨rfl, rfl, TL.one _ _ _ _ _ _⟩
  | .agg l, j, h, h' => by
    obtain ⟨a, b, c⟩ := thawL_loc d ver l j h h'
    exact ⟨by simp only [thaw, a], by simp only [thaw, b], c⟩
  | .tup l, j, h, h' => by
    obtain ⟨a, b, c⟩ := thawL_loc d ver l j h h'
    exact ⟨by simp only [thaw, a], by simp only [thaw, b], c⟩
  | .pbox row off, j, h, h' => by
    obtain ⟨a, b, c⟩ := thawL_loc d ver row (j + 1) h h'
    refine ⟨rfl, by simp only [thaw, b], ?_⟩
    simp only [thaw, a]
    exact c.trans (TL.one _ _ _ _ _ _)
theorem thawL_loc (d ver : Nat) : ∀ (l : List V) (j : Nat) (h h' : Heap),
    (thawL d ver l j h').1 = (thawL d ver l j h).1 ∧ (thawL d ver l j h').2.1 = (thawL d ver l j h).2.1 ∧ TL d h h' (thawL d ver l j h).2.2 (thawL d ver l j h').2.2
  | [], j, h, h' => ⟨rfl, rfl, TL.refl _ _ _⟩
  | x :: l, j, h, h' => by
    obtain ⟨a, b, c⟩ := thaw_loc d ver x j h h'
    obtain ⟨a2, b2, c2⟩ := thawL_loc d ver l (thaw d ver x j h).2.1 (thaw d ver x j h).2.2 (thaw d ver x j h').2.2
    refine ⟨?_, ?_, ?_⟩
    · simp only [thawL, a, b, a2]
    · simp only [thawL, b, b2]
    · simp only [thawL, b]; exact c.trans c2
end

/-- The like, of more classes. -/
structure TLs (t : List Nat) (h h' g g' : Heap) : Prop where
  cnt : g.cnt = h.cnt
  cnt' : g'.cnt = h'.cnt
  out : Out t h g
  out' : Out t h' g'
  same : Agree t h h' → Agree t g g'

theorem TLs.refl (t : List Nat) (h h' : Heap) : TLs t h h' h h' := ⟨rfl, rfl, Out.refl _ _, Out.refl _ _, fun k => k⟩
theorem TLs.trans {t : List Nat} {h h' g g' f f' : Heap} (a : TLs t h h' g g') (b : TLs t g g' f f') : TLs t h h' f f' :=
  ⟨b.cnt.trans a.cnt, b.cnt'.trans a.cnt', a.out.trans b.out, a.out'.trans b.out', fun k => b.same (a.same k)⟩
theorem TL.more {d : Nat} {t : List Nat} {h h' g g' : Heap} (a : TL d h h' g g') (hd : d ∈ t) : TLs t h h' g g' :=
  ⟨a.cnt, a.cnt', fun c hc v j => a.out c (fun e => hc (e ▸ hd)) v j, fun c hc v j => a.out' c (fun e => hc (e ▸ hd)) v j, fun k c hc v j => by
    by_cases e : c = d
    · subst e; exact a.same (fun v j => k c hc v j) v j
    · rw [a.out c e v j, a.out' c e v j]; exact k c hc v j⟩
theorem TLs.one {d : Nat} {t : List Nat} (hd : d ∈ t) (v j : Nat) (h h' : Heap) (c : Bc) : TLs t h h' (h.set d v j c) (h'.set d v j c) := (TL.one d v j h h' c).more hd

theorem restore_loc (d ver : Nat) {t : List Nat} (hd : d ∈ t) : ∀ (l : List ((Nat × Nat × Nat) × List V)) (j : Nat) (h h' : Heap), (∀ b ∈ l, b.1.1 ∈ t) → TLs t h h' (restore d ver l j h) (restore d ver l j h')
  | [], j, h, h', _ => TLs.refl _ _ _
  | ((a, b, c), row) :: l, j, h, h', hb => by
    obtain ⟨e1, e2, e3⟩ := thawL_loc d ver row j h h'
    simp only [restore, e1, e2]
    have ha : a ∈ t := hb ((a, b, c), row) (by simp)
    exact ((e3.more hd).trans (TLs.one ha b c _ _ _)).trans (restore_loc d ver hd l _ _ _ (fun x hx => hb x (by simp [hx])))

theorem freeze_loc {t : List Nat} : ∀ (ids : Ids) (h h' : Heap), Agree t h h' → (∀ i ∈ ids, i.1 ∈ t) → TLs t h h' (freeze h ids) (freeze h' ids)
  | [], h, h', _, _ => TLs.refl _ _ _
  | (d, v, j) :: l, h, h', k, hi => by
    have hd : d ∈ t := hi (d, v, j) (by simp)
    have hl := fun x hx => hi x (List.mem_cons_of_mem _ hx)
    simp only [freeze, k d hd v j]
    split
    · rename_i _ rr _
      have s := TLs.one hd v j h h' (.frz rr)
      exact s.trans (freeze_loc l _ _ (s.same k) hl)
    · have s := TLs.one hd v j h h' .dead
      exact s.trans (freeze_loc l _ _ (s.same k) hl)
    · exact freeze_loc l h h' k hl

theorem boxes_loc {t : List Nat} : ∀ (l : List ((Nat × Nat × Nat) × List V)) (h h' : Heap), (∀ b ∈ l, b.1.1 ∈ t) →
    TLs t h h' (l.foldl (fun h b => h.set b.1.1 b.1.2.1 b.1.2.2 (.box b.2)) h) (l.foldl (fun h b => h.set b.1.1 b.1.2.1 b.1.2.2 (.box b.2)) h')
  | [], h, h', _ => TLs.refl _ _ _
  | b :: l, h, h', k => by
    simp only [List.foldl_cons]
    exact (TLs.one (k b (by simp)) _ _ _ _ _).trans (boxes_loc l _ _ (fun x hx => k x (by simp [hx])))

def cntf (m : Bool) (d : Nat) (c : Nat → Nat) : Nat → Nat := if m then upd c d (c d + 1) else c

theorem apply_loc {t : List Nat} {o : AOp} {σ σ' : St} {r r' : Res} (hd : o.d ∈ t) (hv : r'.v = r.v) (hbx : r'.bx = r.bx) (hfz : r'.fz = r.fz) (ag : Agree t r.h r'.h) (hc : r'.h.cnt o.d = r.h.cnt o.d)
    (hb : ∀ b ∈ r.bx, b.1.1 ∈ t) (hf : ∀ i ∈ r.fz, i.1 ∈ t) :
    Agree t (apply σ o r).h (apply σ' o r').h ∧ Out t r.h (apply σ o r).h ∧ Out t r'.h (apply σ' o r').h ∧
    (apply σ o r).h.cnt = cntf o.k.makes o.d r.h.cnt ∧ (apply σ' o r').h.cnt = cntf o.k.makes o.d r'.h.cnt ∧
    ∃ u, (apply σ o r).env = setEnv σ.env o.w o.d u ∧ (apply σ' o r').env = setEnv σ'.env o.w o.d u := by
  obtain ⟨v, h, bx, fz⟩ := r
  obtain ⟨v', h', bx', fz'⟩ := r'
  simp only at hv hbx hfz ag hc hb hf
  subst hv hbx hfz
  have fl := freeze_loc fz' h h' ag hf
  have fag := fl.same ag
  cases hm : o.k.makes with
  | false =>
    have bl := boxes_loc bx' (freeze h fz') (freeze h' fz') hb
    have tot := fl.trans bl
    simp only [apply, hm, Bool.false_eq_true, if_false, cntf]
    exact ⟨tot.same ag, tot.out, tot.out', tot.cnt, tot.cnt', v', rfl, rfl⟩
  | true =>
    let g : Heap := { freeze h fz' with cnt := upd (freeze h fz').cnt o.d ((freeze h fz').cnt o.d + 1) }
    let g' : Heap := { freeze h' fz' with cnt := upd (freeze h' fz').cnt o.d ((freeze h' fz').cnt o.d + 1) }
    have ec : (freeze h' fz').cnt o.d = (freeze h fz').cnt o.d := by rw [fl.cnt, fl.cnt']; exact hc
    have gag : Agree t g g' := fag
    obtain ⟨e1, e2, e3⟩ := thaw_loc o.d ((freeze h fz').cnt o.d) v' 0 g g'
    have rl := restore_loc o.d ((freeze h fz').cnt o.d) hd bx' (thaw o.d ((freeze h fz').cnt o.d) v' 0 g).2.1 (thaw o.d ((freeze h fz').cnt o.d) v' 0 g).2.2 (thaw o.d ((freeze h fz').cnt o.d) v' 0 g').2.2 hb
    have tot := (e3.more hd).trans rl
    have E : apply σ o ⟨v', h, bx', fz'⟩ = ⟨setEnv σ.env o.w o.d (thaw o.d ((freeze h fz').cnt o.d) v' 0 g).1, restore o.d ((freeze h fz').cnt o.d) bx' (thaw o.d ((freeze h fz').cnt o.d) v' 0 g).2.1 (thaw o.d ((freeze h fz').cnt o.d) v' 0 g).2.2⟩ := by
      unfold apply; rw [if_pos hm]
    have E' : apply σ' o ⟨v', h', bx', fz'⟩ = ⟨setEnv σ'.env o.w o.d (thaw o.d ((freeze h fz').cnt o.d) v' 0 g).1, restore o.d ((freeze h fz').cnt o.d) bx' (thaw o.d ((freeze h fz').cnt o.d) v' 0 g).2.1 (thaw o.d ((freeze h fz').cnt o.d) v' 0 g').2.2⟩ := by
      unfold apply; rw [if_pos hm]
      show (⟨setEnv σ'.env o.w o.d (thaw o.d ((freeze h' fz').cnt o.d) v' 0 g').1, restore o.d ((freeze h' fz').cnt o.d) bx' (thaw o.d ((freeze h' fz').cnt o.d) v' 0 g').2.1 (thaw o.d ((freeze h' fz').cnt o.d) v' 0 g').2.2⟩ : St) = _
      rw [ec, e1, e2]
    rw [E, E']
    refine ⟨tot.same gag, ?_, ?_, ?_, ?_, _, rfl, rfl⟩
    · exact fl.out.trans tot.out
    · exact fl.out'.trans tot.out'
    · show _ = cntf true o.d h.cnt
      rw [tot.cnt]; show upd _ _ _ = _; rw [fl.cnt]; rfl
    · show _ = cntf true o.d h'.cnt
      rw [tot.cnt']; show upd _ _ _ = _; rw [fl.cnt']; rfl


theorem store_loc {t : List Nat} {n : Nat} {p v : V} {h : Heap} {r : Res} (hr : storeV n p v h = some r) (sp : ∀ d ∈ idsV p, d ∈ t) (sv : ∀ d ∈ idsV v, d ∈ t) :
    Local t h r (fun h' r' => storeV n p v h' = some r') := by
  have sc : ∀ d ∈ idsL v.cells, d ∈ t := by
    intro d hd
    refine sv d ?_
    cases v <;> simp only [V.cells, idsL, List.append_nil] at hd <;> exact hd
  unfold storeV at hr
  split at hr
  · rename_i d w j row off
    have hd : d ∈ t := sp d (by simp [idsV])
    split at hr
    · rename_i rr hb
      split at hr
      · rename_i hc
        cases hr
        refine ⟨(Out.refl _ _).set hd, rfl, by simpa using hd, by simp, fun h' ag => ⟨h'.set d w j .dead, ?_, ag.set, (Out.refl _ _).set hd, rfl⟩⟩
        simp only [storeV, ag d hd w j, hb, if_pos hc]
      · cases hr
    · rename_i rr hb
      split at hr
      · rename_i x c hx hcl
        split at hr
        · rename_i r0 hfz
          split at hr
          · rename_i hc
            cases hr
            have ids : ∀ i ∈ c.2, i.1 ∈ t := fun i hi => sc _ (lendL_ids _ _ hcl i hi)
            have f0 := freeze_loc c.2 h h (Agree.refl t h) ids
            refine ⟨f0.out.set hd, f0.cnt, by simp, by simp, fun h' ag => ?_⟩
            have f1 := freeze_loc c.2 h h' ag ids
            refine ⟨(freeze h' c.2).set d w j (.rows (rr.set row (splice x off c.1))), ?_, (f1.same ag).set, f1.out'.set hd, f1.cnt'⟩
            simp only [storeV, ag d hd w j, hb, lendL_loc ag _ sc, hx, hcl, (f1.same ag) d hd w j, hfz, if_pos hc]
          · cases hr
        · cases hr
      · cases hr
    · cases hr
  · cases hr

theorem store_loc_box {t : List Nat} {n : Nat} {p v : V} {h : Heap} {r : Res} (hr : storeV n p v h = some r) (sp : ∀ d ∈ idsV p, d ∈ t) (hbx : isBoxed h p = true) :
    Local t h r (fun h' r' => storeV n p v h' = some r') := by
  unfold storeV at hr
  split at hr
  · rename_i d w j row off
    have hd : d ∈ t := sp d (by simp [idsV])
    split at hr
    · rename_i rr hb
      split at hr
      · rename_i hc
        cases hr
        refine ⟨(Out.refl _ _).set hd, rfl, by simpa using hd, by simp, fun h' ag => ⟨h'.set d w j .dead, ?_, ag.set, (Out.refl _ _).set hd, rfl⟩⟩
        simp only [storeV, ag d hd w j, hb, if_pos hc]
      · cases hr
    · rename_i rr hb
      simp [isBoxed, hb] at hbx
    · cases hr
  · cases hr

theorem fillR_ids {h : Heap} {n : Nat} : ∀ (l : List (Nat × V)) (rows : List (List V)) (q : List (List V) × Ids), fillR h n rows l = some q → ∀ i ∈ q.2, i.1 ∈ idsL (l.map (·.2))
  | [], rows, q, e => by simp only [fillR, Option.some.injEq] at e; subst e; simp
  | (k, v) :: rest, rows, q, e => by
    simp only [fillR] at e
    split at e
    · cases e
    · rename_i y hy
      split at e
      · simp only [Option.map_eq_some_iff] at e
        obtain ⟨z, hz, rfl⟩ := e
        intro i hi
        simp only [List.map_cons, idsL, List.mem_append] at hi ⊢
        rcases hi with hi | hi
        · left
          have := lendL_ids _ _ hy i hi
          cases v <;> simp only [V.cells, idsL, List.append_nil] at this <;> exact this
        · exact .inr (fillR_ids rest _ z hz i hi)
      · cases e

theorem buildSl_loc {t : List Nat} {n len : Nat} {z : List V} {p : List Nat} {xs : List V} {h : Heap} {r : Res} (hr : comp (.buildSl n z len p) xs h = some r) (s : ∀ d ∈ idsL xs, d ∈ t) :
    Local t h r (fun h' r' => comp (.buildSl n z len p) xs h' = some r') := by
  have L := comp_loc (t := t) (k := .buildSl n z len p) rfl xs h s
  obtain ⟨e1, e2⟩ := L.1 r hr
  refine ⟨by rw [e1]; exact Out.refl _ _, by rw [e1], by rw [e2]; simp, ?_, fun h' ag => ⟨h', ?_, by rw [e1]; exact ag, Out.refl _ _, rfl⟩⟩
  · simp only [comp] at hr
    split at hr
    · rename_i hc
      simp only [Option.map_eq_some_iff] at hr
      obtain ⟨q, hq, rfl⟩ := hr
      intro i hi
      have := fillR_ids _ _ _ hq i hi
      rw [idsL_zip hc.1] at this
      exact s _ this
    · cases hr
  · rw [L.2 h' ag, hr, e2]; rfl

section
variable {abi : Abi} {Γ : Nat → List V → V → List (List V) → Prop}
theorem comp_fz {k : K} (hk : k.r0 = true) {xs : List V} {h : Heap} {r : Res} (hr : comp k xs h = some r) : ∀ i ∈ r.fz, i.1 ∈ touch k xs h := by
  by_cases hb : ∃ n z len p, k = .buildSl n z len p
  · obtain ⟨n, z, len, p, rfl⟩ := hb
    exact (buildSl_loc (t := idsL xs) hr (fun d hd => hd)).fz
  · have : r.fz = [] := by
      cases k <;> simp only [K.r0, Bool.false_eq_true] at hk <;> try (exact absurd ⟨_, _, _, _, rfl⟩ hb)
      all_goals (unfold comp at hr; (repeat' split at hr) <;> first | (cases hr; done) | (cases hr; rfl) | (simp only [Option.map_eq_some_iff] at hr; obtain ⟨a, _, e⟩ := hr; subst e; rfl) | skip)
      all_goals first | contradiction | (unfold mksliceV at hr; (repeat' split at hr) <;> first | (cases hr; done) | (cases hr; rfl))
    rw [this]; intro i hi; cases hi

theorem r0_loc {t : List Nat} {k : K} (hk : k.r0 = true) {xs : List V} {h : Heap} {r : Res} (hr : Comes abi Γ k xs h r) (s : ∀ d ∈ touch k xs h, d ∈ t) : Local t h r (Comes abi Γ k xs) := by
  have hc : ∀ h r, Comes abi Γ k xs h r ↔ comp k xs h = some r := by
    intro h r; cases k <;> simp only [K.r0, Bool.false_eq_true] at hk <;> exact Iff.rfl
  have L := comp_loc (t := t) (k := k) hk xs h s
  have hr' := (hc _ _).1 hr
  obtain ⟨e1, e2⟩ := L.1 r hr'
  refine ⟨by rw [e1]; exact Out.refl _ _, by rw [e1], by rw [e2]; simp, fun i hi => s _ (comp_fz hk hr' i hi), fun h' ag => ⟨h', (hc _ _).2 ?_, by rw [e1]; exact ag, Out.refl _ _, rfl⟩⟩
  rw [L.2 h' ag, hr', e2]; rfl

/-- What does what it does to what it touches. -/
theorem l_loc {t tw : List Nat} {k : K} (hk : K.l abi k = true) {xs : List V} {h : Heap} {r : Res} (hr : Comes abi Γ k xs h r) (st : ∀ d ∈ touch k xs h, d ∈ t) (s : ∀ d ∈ touchW k xs h, d ∈ tw) (hs : ∀ d ∈ tw, d ∈ t) :
    Local2 t tw h r (Comes abi Γ k xs) := by
    by_cases h0 : k.r0 = true
    · exact Local.two (hs := hs) <| r0_loc (t := tw) h0 hr (fun d hd => s d (by cases k <;> simp only [K.r0, Bool.false_eq_true] at h0 <;> exact hd))
    cases k <;> simp only [K.l, K.r, Bool.false_eq_true] at hk <;> try exact absurd rfl h0
    case app n bytes zero =>
      rcases xs with _ | ⟨x, _ | ⟨y, _ | ⟨z, ys⟩⟩⟩
      · cases hr
      · cases hr
      · have L := app_loc (t := t) (tw := tw) (show appV n bytes zero x y h = some r from hr) (fun d hd => s d (by simp [touchW, hd])) hs (fun d hd => st d (by simp [touch, K.n, idsL, hd]))
        exact L
      · cases hr
    case store n =>
      rcases xs with _ | ⟨x, _ | ⟨y, _ | ⟨z, ys⟩⟩⟩
      · cases hr
      · cases hr
      · simp only [touchW] at s
        cases hbx : isBoxed h x with
        | true =>
          rw [hbx] at s
          exact Local.two (hs := hs) <| store_loc_box (t := tw) (show storeV n x y h = some r from hr) (fun d hd => s d (by simpa using hd)) hbx
        | false =>
          rw [hbx] at s
          simp only [Bool.false_eq_true, if_false] at s
          exact Local.two (hs := hs) <| store_loc (t := tw) (show storeV n x y h = some r from hr) (fun d hd => s d (by simp [idsL, hd])) (fun d hd => s d (by simp [idsL, hd]))
      · cases hr
    case storeL n =>
      rcases xs with _ | ⟨x, _ | ⟨y, _ | ⟨z, ys⟩⟩⟩
      · cases hr
      · cases hr
      · exact Local.two (hs := hs) <| store_loc (t := tw) (show storeV n x y h = some r from hr) (fun d hd => s d (by simp [touchW, touch, K.n, idsL, hd])) (fun d hd => s d (by simp [touchW, touch, K.n, idsL, hd]))
      · cases hr
    case buildSlL n z len p =>
      exact Local.two (hs := hs) <| buildSl_loc (t := tw) (show comp (.buildSl n z len p) xs h = some r from hr) (fun d hd => s d (by simpa [touchW, touch, K.n] using hd))
    case call f =>
      simp only [touchW, touch, List.mem_append] at s
      exact Local.two (hs := hs) <| called_loc hr (fun d hd => s d (.inl hd)) (fun d hd => s d (.inr hd))
    case callv =>
      rcases xs with _ | ⟨x, ys⟩
      · exact hr.elim
      · cases x <;> try exact hr.elim
        rename_i f first caps
        have hc : Called abi Γ f (first ++ (ys ++ caps)) h r := hr
        simp only [touchW, touch, List.mem_append] at s
        exact Local.two (hs := hs) <| called_loc hc (fun d hd => s d (.inl hd)) (fun d hd => s d (.inr hd))

end

section
variable (abi : Abi) (Γ : Nat → List V → V → List (List V) → Prop)

/-- One operation of a region whose order is drawn. -/
inductive Step (o : AOp) (σ : St) : St → Prop where
  | skip (hg : guarded σ.env o.g = some false) : Step o σ ⟨setEnv σ.env o.w o.d unit, σ.h⟩
  | cons (r : Res) (hg : guarded σ.env o.g = some true) (hr : Comes abi Γ o.k (o.xs.map (ev σ.env)) σ.h r) (ht : ∀ x ∈ touch o.k (o.xs.map (ev σ.env)) σ.h, x ∈ o.u) (hw : rOf abi o = false → ∀ x ∈ touchW o.k (o.xs.map (ev σ.env)) σ.h, x ∈ o.uw) (hf : rOf abi o = true → r.fz = []) : Step o σ (apply σ o r)

variable {abi Γ}
theorem DOps.step {o : AOp} {l : List AOp} {σ σ' : St} (h : DOps abi Γ (o :: l) σ σ') : ∃ σ1, Step abi Γ o σ σ1 ∧ DOps abi Γ l σ1 σ' := by
  cases h with
  | skip hg h => exact ⟨_, .skip hg, h⟩
  | cons r hg hr ht hw hf h => exact ⟨_, .cons r hg hr ht hw hf, h⟩
theorem Step.ops {o : AOp} {l : List AOp} {σ σ1 σ' : St} (h : Step abi Γ o σ σ1) (k : DOps abi Γ l σ1 σ') : DOps abi Γ (o :: l) σ σ' := by
  cases h with
  | skip hg => exact .skip hg k
  | cons r hg hr ht hw hf => exact .cons r hg hr ht hw hf k

def slotOf : AOpd → List Nat
  | .s t => [t]
  | .c _ => []
/-- The slots that it reads. -/
def AOp.reads (o : AOp) : List Nat := (match o.g with | some (t, _) => [t] | none => []) ++ o.xs.flatMap slotOf

def Same (l : List Nat) (e e' : Env) : Prop := ∀ t ∈ l, e' t = e t

theorem Same.xs {o : AOp} {e e' : Env} (h : Same o.reads e e') : o.xs.map (ev e') = o.xs.map (ev e) := by
  apply List.map_congr_left
  intro x hx
  cases x with
  | c v => rfl
  | s t => exact h t (by simp only [AOp.reads, List.mem_append, List.mem_flatMap]; exact .inr ⟨_, hx, by simp [slotOf]⟩)
theorem Same.g {o : AOp} {e e' : Env} (h : Same o.reads e e') : guarded e' o.g = guarded e o.g := by
  cases hg : o.g with
  | none => rfl
  | some x =>
    obtain ⟨t, b⟩ := x
    simp only [guarded]
    rw [h t (by simp [AOp.reads, hg])]
theorem Same.set {l : List Nat} {e : Env} {w : Bool} {d : Nat} {v : V} (h : w = true → d ∉ l) : Same l (setEnv e w d v) e := by
  intro t ht
  cases w with
  | false => rfl
  | true => simp only [setEnv, if_true]; rw [upd_ne]; rintro rfl; exact h rfl ht
theorem Same.set' {l : List Nat} {e : Env} {w : Bool} {d : Nat} {v : V} (h : w = true → d ∉ l) : Same l e (setEnv e w d v) := fun t ht => ((Same.set h) t ht).symm

theorem setEnv_comm {e : Env} {w w' : Bool} {d d' : Nat} {u u' : V} (h : d ≠ d') : setEnv (setEnv e w d u) w' d' u' = setEnv (setEnv e w' d' u') w d u := by
  cases w <;> cases w' <;> simp only [setEnv, if_true, Bool.false_eq_true, if_false]
  funext t
  simp only [upd]
  by_cases h1 : t = d
  · subst h1; simp [h]
  · simp [h1]

theorem apply_env {o : AOp} {σ : St} {e' : Env} {r : Res} : ∃ u, (apply σ o r).env = setEnv σ.env o.w o.d u ∧ apply ⟨e', σ.h⟩ o r = ⟨setEnv e' o.w o.d u, (apply σ o r).h⟩ := by
  unfold apply
  split
  · exact ⟨_, rfl, rfl⟩
  · exact ⟨_, rfl, rfl⟩

/-- Where what it reads is the same it does the same. -/
theorem Step.env {o : AOp} {σ σ1 : St} (h : Step abi Γ o σ σ1) {e' : Env} (s : Same o.reads σ.env e') : ∃ u, σ1 = ⟨setEnv σ.env o.w o.d u, σ1.h⟩ ∧ Step abi Γ o ⟨e', σ.h⟩ ⟨setEnv e' o.w o.d u, σ1.h⟩ := by
  cases h with
  | skip hg => exact ⟨unit, rfl, .skip (by rw [s.g]; exact hg)⟩
  | cons r hg hr ht hw hf =>
    obtain ⟨u, h1, h2⟩ := apply_env (o := o) (σ := σ) (e' := e') (r := r)
    refine ⟨u, by rw [← h1], ?_⟩
    rw [← h2]
    exact .cons r (by rw [s.g]; exact hg) (by rw [s.xs]; exact hr) (by rw [s.xs]; exact ht) (by rw [s.xs]; exact hw) hf

/-- It changes no memory, and looks at none. -/
def Quiet (o : AOp) (σ σ1 : St) (u : V) : Prop :=
  σ1 = ⟨setEnv σ.env o.w o.d u, σ.h⟩ ∧ ∀ e' h', Same o.reads σ.env e' → Step abi Γ o ⟨e', h'⟩ ⟨setEnv e' o.w o.d u, h'⟩

theorem n_loc {k : K} (hk : k.n = true) {xs : List V} {h : Heap} {r : Res} (hr : comp k xs h = some r) : r.h = h ∧ r.bx = [] ∧ r.fz = [] ∧ ∀ h', comp k xs h' = some ⟨r.v, h', [], []⟩ := by
  unfold comp at hr
  split at hr
  all_goals try (simp [K.n] at hk; done)
  all_goals (repeat' split at hr)
  all_goals first
    | (cases hr; done)
    | (cases hr; exact ⟨rfl, rfl, rfl, fun _ => by simp_all [comp]⟩)
    | (simp only [Option.map_eq_some_iff] at hr; obtain ⟨a, ha, e⟩ := hr; subst e; exact ⟨rfl, rfl, rfl, fun _ => by simp_all [comp]⟩)

theorem n_comes {k : K} (hk : k.n = true) {xs : List V} {h : Heap} {r : Res} (hr : Comes abi Γ k xs h r) : r.h = h ∧ r.bx = [] ∧ r.fz = [] ∧ ∀ h', Comes abi Γ k xs h' ⟨r.v, h', [], []⟩ := by
  by_cases hb : ∃ op, k = .bin op
  · obtain ⟨op, rfl⟩ := hb
    rcases hr with hr | hr
    · obtain ⟨e1, e2, e3, e4⟩ := n_loc hk hr
      exact ⟨e1, e2, e3, fun h' => .inl (e4 h')⟩
    · unfold factRes at hr
      split at hr
      · simp only [Option.map_eq_some_iff] at hr
        obtain ⟨v, hv, rfl⟩ := hr
        exact ⟨rfl, rfl, rfl, fun h' => .inr (by simp only [factRes, hv, Option.map_some])⟩
      · cases hr
  · have hc : ∀ h r, Comes abi Γ k xs h r ↔ comp k xs h = some r := by
      intro h r; cases k <;> first | exact Iff.rfl | exact absurd ⟨_, rfl⟩ hb | simp [K.n] at hk
    obtain ⟨e1, e2, e3, e4⟩ := n_loc hk ((hc _ _).1 hr)
    exact ⟨e1, e2, e3, fun h' => (hc _ _).2 (e4 h')⟩

theorem quiet_n {o : AOp} (hk : o.k.n = true) {σ σ1 : St} (h : Step abi Γ o σ σ1) : ∃ u, Quiet (abi := abi) (Γ := Γ) o σ σ1 u := by
  have hmk : o.k.makes = false := by cases hq : o.k <;> rw [hq] at hk <;> simp_all [K.n, K.makes]
  cases h with
  | skip hg => exact ⟨unit, rfl, fun e' h' s => .skip (by rw [s.g]; exact hg)⟩
  | cons r hg hr ht hw hf =>
    obtain ⟨e1, e2, e3, e4⟩ := n_comes hk hr
    obtain ⟨v, h0, bx, fz⟩ := r
    have e1' : h0 = σ.h := e1
    have e2' : bx = [] := e2
    have e3' : fz = [] := e3
    subst e1' e2' e3'
    have ap : ∀ (σ' : St), apply σ' o ⟨v, σ'.h, [], []⟩ = ⟨setEnv σ'.env o.w o.d v, σ'.h⟩ := by
      intro σ'; simp [apply, hmk, freeze]
    refine ⟨v, ap σ, fun e' h' s => ?_⟩
    rw [← ap ⟨e', h'⟩]
    refine .cons _ (by rw [s.g]; exact hg) ?_ ?_ ?_ (fun _ => rfl)
    · rw [s.xs]
      exact e4 h'
    · intro x hx
      have : touch o.k (o.xs.map (ev e')) h' = [] := by cases hq : o.k <;> rw [hq] at hk <;> first | rfl | simp [K.n] at hk
      rw [this] at hx; cases hx
    · intro _ x hx
      have : touchW o.k (o.xs.map (ev e')) h' = [] := by cases hq : o.k <;> rw [hq] at hk <;> first | rfl | simp [K.n] at hk
      rw [this] at hx; cases hx

/-- It touches what it may touch alone. -/
structure EStep (o : AOp) (wr : List Nat) (σ σ1 : St) (u : V) : Prop where
  env : σ1.env = setEnv σ.env o.w o.d u
  out : Out (o.d :: wr) σ.h σ1.h
  cnt : σ1.h.cnt = cntf o.k.makes o.d σ.h.cnt
  too : ∀ e' h', Same o.reads σ.env e' → Agree (o.d :: o.u) σ.h h' → h'.cnt o.d = σ.h.cnt o.d → ∃ h1', Step abi Γ o ⟨e', h'⟩ ⟨setEnv e' o.w o.d u, h1'⟩ ∧ Agree (o.d :: wr) σ1.h h1' ∧ Out (o.d :: wr) h' h1' ∧ h1'.cnt = cntf o.k.makes o.d h'.cnt

def wrOf (abi : Abi) (o : AOp) : List Nat := if rOf abi o then [] else o.uw

theorem boxIds1_loc {t : List Nat} {h h' : Heap} (ag : Agree t h h') (x : V) (s : ∀ d ∈ idsV x, d ∈ t) : boxIds1 h' x = boxIds1 h x := by
  cases x <;> simp only [boxIds1]
  rename_i d v j _ _
  rw [ag d (s d (by simp [idsV])) v j]
theorem boxIdsL_loc {t : List Nat} {h h' : Heap} (ag : Agree t h h') : ∀ (l : List V), (∀ d ∈ idsL l, d ∈ t) → boxIdsL h' l = boxIdsL h l
  | [], _ => rfl
  | x :: l, s => by
    simp only [boxIdsL]
    rw [boxIds1_loc ag x (fun d hd => s d (by simp [idsL, hd])), boxIdsL_loc ag l (fun d hd => s d (by simp [idsL, hd]))]
theorem boxIds_loc {t : List Nat} {h h' : Heap} (ag : Agree t h h') (x : V) (s : ∀ d ∈ idsV x, d ∈ t) : boxIds h' x = boxIds h x := by
  cases x <;> simp only [boxIds] <;> try exact boxIds1_loc ag _ s
  rw [boxIdsL_loc ag _ (fun d hd => s d (by simp [idsV, hd])), boxIdsL_loc ag _ (fun d hd => s d (by simp [idsV, hd]))]
theorem boxIdsA_loc {t : List Nat} {h h' : Heap} (ag : Agree t h h') : ∀ (l : List V), (∀ d ∈ idsL l, d ∈ t) → boxIdsA h' l = boxIdsA h l
  | [], _ => rfl
  | x :: l, s => by
    simp only [boxIdsA]
    rw [boxIds_loc ag x (fun d hd => s d (by simp [idsL, hd])), boxIdsA_loc ag l (fun d hd => s d (by simp [idsL, hd]))]

theorem touch_loc {t : List Nat} {k : K} {xs : List V} {h h' : Heap} (ag : Agree t h h') (s : ∀ d ∈ touch k xs h, d ∈ t) : touch k xs h' = touch k xs h := by
  cases k <;> simp only [touch] at s ⊢
  case call f =>
    simp only [List.mem_append] at s
    rw [boxIdsA_loc ag xs (fun d hd => s d (.inl hd))]
  case callv =>
    split at s
    · simp only [List.mem_append] at s
      rw [boxIdsA_loc ag _ (fun d hd => s d (.inl hd))]
    · rfl

theorem touchW_loc {t : List Nat} {k : K} {xs : List V} {h h' : Heap} (ag : Agree t h h') (s : ∀ d ∈ touch k xs h, d ∈ t) : touchW k xs h' = touchW k xs h := by
  have := touch_loc ag s
  cases k
  case store n =>
    simp only [touchW]
    cases xs with
    | nil => rfl
    | cons p rest =>
      have e : isBoxed h' p = isBoxed h p := by
        cases p <;> simp only [isBoxed]
        rename_i d v j _ _
        rw [ag d (s d (by simp [touch, K.n, idsL, idsV])) v j]
      simp only [e]
  all_goals simp only [touchW]; try exact this

theorem estep {o : AOp} (hk : K.l abi o.k = true) {σ : St} {r : Res} (hg : guarded σ.env o.g = some true) (hr : Comes abi Γ o.k (o.xs.map (ev σ.env)) σ.h r)
    (ht : ∀ x ∈ touch o.k (o.xs.map (ev σ.env)) σ.h, x ∈ o.u) (htw : rOf abi o = false → ∀ x ∈ touchW o.k (o.xs.map (ev σ.env)) σ.h, x ∈ o.uw) (hs : ∀ x ∈ o.uw, x ∈ o.u) (hf : rOf abi o = true → r.fz = []) : ∃ u, EStep (abi := abi) (Γ := Γ) o (wrOf abi o) σ (apply σ o r) u := by
  by_cases hR : rOf abi o = true
  · have hR0 : K.r abi o.k = true := by unfold rOf at hR; exact (Bool.and_eq_true_iff.1 hR).1
    obtain ⟨e1, e2, e3⟩ := r_loc hR0 hr ht
    have e4 := hf hR
    obtain ⟨v, h0, bx, fz⟩ := r
    have e1' : h0 = σ.h := e1
    have e2' : bx = [] := e2
    have e4' : fz = [] := e4
    subst e1' e2' e4'
    have hw : wrOf abi o = [] := by simp [wrOf, hR]
    have A := fun (σ' : St) (ag : Agree [o.d] σ.h σ'.h) (hc : σ'.h.cnt o.d = σ.h.cnt o.d) =>
      apply_loc (t := [o.d]) (o := o) (σ := σ) (σ' := σ') (r := ⟨v, σ.h, [], []⟩) (r' := ⟨v, σ'.h, [], []⟩) (by simp) rfl rfl rfl ag hc (by simp) (by simp)
    obtain ⟨_, o1, _, c1, _, u, u1, _⟩ := A σ (Agree.refl _ _) rfl
    rw [hw]
    refine ⟨u, u1, o1, c1, fun e' h' s ag hc => ?_⟩
    obtain ⟨a2, _, o2, _, c2, u', u2, u3⟩ := A ⟨e', h'⟩ (ag.sub (by simp)) hc
    refine ⟨(apply ⟨e', h'⟩ o ⟨v, h', [], []⟩).h, ?_, a2, o2, c2⟩
    have ho := e3 h' (ag.sub (by simp +contextual))
    have st : Step abi Γ o ⟨e', h'⟩ (apply ⟨e', h'⟩ o ⟨v, h', [], []⟩) :=
      .cons _ (by rw [s.g]; exact hg) (by rw [s.xs]; exact ho) (by rw [s.xs, touch_loc (ag.sub (fun d hd => by simp [hd]) : Agree o.u σ.h h') ht]; exact ht) (fun hn => by rw [hR] at hn; cases hn) (fun _ => rfl)
    have hu : setEnv e' o.w o.d u' = setEnv e' o.w o.d u := by
      cases hw2 : o.w with
      | false => rfl
      | true =>
        have := u1.symm.trans u2
        rw [hw2] at this
        have := congrFun this o.d
        simp only [setEnv, if_true, upd_eq] at this ⊢
        rw [this]
    have : apply ⟨e', h'⟩ o ⟨v, h', [], []⟩ = ⟨setEnv e' o.w o.d u, (apply ⟨e', h'⟩ o ⟨v, h', [], []⟩).h⟩ := by
      rw [← hu]; rw [← u3]
    rw [this] at st
    exact st
  · have L := l_loc hk hr ht (htw (by simpa using hR)) hs
    have hw : wrOf abi o = o.uw := by simp [wrOf, hR]
    have A := fun (σ' : St) (h2 : Heap) (ag : Agree (o.d :: o.uw) r.h h2) (hc : h2.cnt o.d = r.h.cnt o.d) =>
      apply_loc (t := o.d :: o.uw) (o := o) (σ := σ) (σ' := σ') (r := r) (r' := ⟨r.v, h2, r.bx, r.fz⟩) (by simp) rfl rfl rfl ag hc (fun b hb => by simp [L.bx b hb]) (fun b hb => by simp [L.fz b hb])
    have up : ∀ {a b : Heap}, Out o.uw a b → Out (o.d :: o.uw) a b := fun k d hd => k d (by simp only [List.mem_cons, not_or] at hd; exact hd.2)
    obtain ⟨_, o1, _, c1, _, u, u1, _⟩ := A σ r.h (Agree.refl _ _) rfl
    rw [hw]
    refine ⟨u, u1, (up L.out).trans o1, by rw [c1, L.cnt], fun e' h' s ag hc => ?_⟩
    obtain ⟨h2, q1, q2, q3, q4⟩ := L.too h' (ag.sub (fun d hd => by simp [hd]))
    have ag2 : Agree (o.d :: o.uw) r.h h2 := by
      intro d hd v j
      by_cases hin : d ∈ o.uw
      · exact q2 d hin v j
      · rw [L.out d hin v j, q3 d hin v j]; exact ag d (by rcases List.mem_cons.1 hd with e | e; (simp [e]); (simp [hs d e])) v j
    obtain ⟨a2, _, o2, _, c2, u', u2, u3⟩ := A ⟨e', h'⟩ h2 ag2 (by rw [q4, L.cnt]; exact hc)
    refine ⟨(apply ⟨e', h'⟩ o ⟨r.v, h2, r.bx, r.fz⟩).h, ?_, a2, (up q3).trans o2, by rw [c2, q4]⟩
    have st : Step abi Γ o ⟨e', h'⟩ (apply ⟨e', h'⟩ o ⟨r.v, h2, r.bx, r.fz⟩) :=
      .cons _ (by rw [s.g]; exact hg) (by rw [s.xs]; exact q1) (by rw [s.xs, touch_loc (ag.sub (fun d hd => by simp [hd]) : Agree o.u σ.h h') ht]; exact ht) (by rw [s.xs, touchW_loc (ag.sub (fun d hd => by simp [hd]) : Agree o.u σ.h h') ht]; exact htw) hf
    have hu : setEnv e' o.w o.d u' = setEnv e' o.w o.d u := by
      cases hw2 : o.w with
      | false => rfl
      | true =>
        have := u1.symm.trans u2
        rw [hw2] at this
        have := congrFun this o.d
        simp only [setEnv, if_true, upd_eq] at this ⊢
        rw [this]
    have : apply ⟨e', h'⟩ o ⟨r.v, h2, r.bx, r.fz⟩ = ⟨setEnv e' o.w o.d u, (apply ⟨e', h'⟩ o ⟨r.v, h2, r.bx, r.fz⟩).h⟩ := by
      rw [← hu]; rw [← u3]
    rw [this] at st
    exact st

end
end Fo
