/-
  What an operation does it does to what it touches alone (part 25).
-/
import Derived.Test.YtildnnhlpdcglaaFoA21
namespace Fo
open Go
set_option linter.unusedVariables false
set_option linter.unusedSimpArgs false

/-- The same in these classes. -/
def Agree (t : List Nat) (h h' : Heap) : Prop := ∀ d ∈ t, ∀ v j, h'.bl d v j = h.bl d v j
/-- The same out of these classes. -/
def Out (t : List Nat) (h h' : Heap) : Prop := ∀ d, d ∉ t → ∀ v j, h'.bl d v j = h.bl d v j

theorem Agree.refl (t : List Nat) (h : Heap) : Agree t h h := fun _ _ _ _ => rfl
theorem Out.refl (t : List Nat) (h : Heap) : Out t h h := fun _ _ _ _ => rfl
theorem Agree.sub {t u : List Nat} {h h' : Heap} (k : Agree t h h') (s : ∀ d ∈ u, d ∈ t) : Agree u h h' := fun d hd => k d (s d hd)
theorem Out.trans {t : List Nat} {a b c : Heap} (h : Out t a b) (k : Out t b c) : Out t a c := fun d hd v j => (k d hd v j).trans (h d hd v j)

theorem Heap.ext' {a b : Heap} (h1 : a.cnt = b.cnt) (h2 : ∀ d v j, a.bl d v j = b.bl d v j) : a = b := by
  cases a; cases b
  simp only at h1 h2
  subst h1
  congr
  funext d v j
  exact h2 d v j

theorem Agree.set {t : List Nat} {h h' : Heap} (k : Agree t h h') {d v j : Nat} {c : Bc} : Agree t (h.set d v j c) (h'.set d v j c) := by
  intro d' hd v' j'
  simp only [Heap.set_bl]
  split
  · rfl
  · exact k d' hd v' j'
theorem Out.set {t : List Nat} {h h' : Heap} (k : Out t h h') {d v j : Nat} {c : Bc} (hd : d ∈ t) : Out t h (h'.set d v j c) := by
  intro d' hd' v' j'
  rw [Heap.set_bl, if_neg (by rintro ⟨rfl, _⟩; exact hd' hd)]
  exact k d' hd' v' j'

section
variable {t : List Nat} {h h' : Heap}

mutual
theorem lend_loc (k : Agree t h h') : ∀ (x : V), (∀ d ∈ idsV x, d ∈ t) → lend h' x = lend h x
  | .int _ _, _ | .bool _, _ | .sym _ _ _ _ _ _, _ | .sl _, _ | .iptr _ _, _ | .ptr _ _ _ _ _, _ | .pbox _ _, _ | .fn _ _ _, _ | .fmap _ _, _ | .spare _, _ | .map _ _ _, _ | .any, _ | .e _, _ | .fresh _, _ => rfl
  | .agg l, s => by simp only [lend]; rw [lendL_loc k l s]
  | .tup l, s => by simp only [lend]; rw [lendL_loc k l s]
  | .own d v j fr len, s => by simp only [lend]; rw [k d (s d (by simp [idsV])) v j]
theorem lendL_loc (k : Agree t h h') : ∀ (l : List V), (∀ d ∈ idsL l, d ∈ t) → lendL h' l = lendL h l
  | [], _ => rfl
  | x :: l, s => by
    simp only [lendL]
    rw [lend_loc k x (fun d hd => s d (by simp [idsL, hd])), lendL_loc k l (fun d hd => s d (by simp [idsL, hd]))]
end

theorem lendCap_loc (k : Agree t h h') (x : V) (s : ∀ d ∈ idsV x, d ∈ t) (s2 : ∀ d ∈ boxIds1 h x, d ∈ t) : lendCap h' x = lendCap h x := by
  unfold lendCap
  split
  · rename_i d v j off
    rw [k d (s d (by simp [idsV])) v j]
    split
    · rename_i row hb
      rw [lendL_loc k row (fun d' hd => s2 d' (by simp [boxIds1, hb, hd]))]
    · rfl
  · exact lend_loc k x s

theorem lendCaps_loc (k : Agree t h h') : ∀ (l : List V), (∀ d ∈ idsL l, d ∈ t) → (∀ d ∈ boxIdsL h l, d ∈ t) → lendCaps h' l = lendCaps h l
  | [], _, _ => rfl
  | x :: l, s, s2 => by
    simp only [lendCaps]
    rw [lendCap_loc k x (fun d hd => s d (by simp [idsL, hd])) (fun d hd => s2 d (by simp [boxIdsL, hd])), lendCaps_loc k l (fun d hd => s d (by simp [idsL, hd])) (fun d hd => s2 d (by simp [boxIdsL, hd]))]

theorem lendArg_loc (k : Agree t h h') (x : V) (s : ∀ d ∈ idsV x, d ∈ t) (s2 : ∀ d ∈ boxIds h x, d ∈ t) : lendArg h' x = lendArg h x := by
  unfold lendArg
  split
  · rename_i f a b
    rw [lendCaps_loc k a (fun d hd => s d (by simp [idsV, hd])) (fun d hd => s2 d (by simp [boxIds, hd])), lendCaps_loc k b (fun d hd => s d (by simp [idsV, hd])) (fun d hd => s2 d (by simp [boxIds, hd]))]
  · exact lend_loc k x s
end

mutual
theorem lend_ids {h : Heap} : ∀ (x : V) (r : V × Ids), lend h x = some r → ∀ i ∈ r.2, i.1 ∈ idsV x
  | .int _ _, r, e => by simp only [lend, Option.some.injEq] at e; subst e; simp
  | .bool _, r, e => by simp only [lend, Option.some.injEq] at e; subst e; simp
  | .sym _ _ _ _ _ _, r, e => by simp only [lend, Option.some.injEq] at e; subst e; simp
  | .e _, r, e => by simp only [lend, Option.some.injEq] at e; subst e; simp
  | .sl _, r, e => by simp only [lend, Option.some.injEq] at e; subst e; simp
  | .iptr _ _, r, e => by simp only [lend, Option.some.injEq] at e; subst e; simp
  | .fresh _, r, e => by
    simp only [lend] at e
    split at e
    · cases e; simp
    · cases e
  | .agg l, r, e => by
    simp only [lend, Option.map_eq_some_iff] at e
    obtain ⟨a, ha, rfl⟩ := e
    exact lendL_ids l a ha
  | .tup l, r, e => by
    simp only [lend, Option.map_eq_some_iff] at e
    obtain ⟨a, ha, rfl⟩ := e
    exact lendL_ids l a ha
  | .own d v j fr len, r, e => by
    simp only [lend] at e
    split at e
    · cases e; simp [idsV]
    · cases e; simp [idsV]
    · cases e
  | .ptr _ _ _ _ _, _, e | .pbox _ _, _, e | .fn _ _ _, _, e | .fmap _ _, _, e | .spare _, _, e | .map _ _ _, _, e | .any, _, e => by cases e
theorem lendL_ids {h : Heap} : ∀ (l : List V) (r : List V × Ids), lendL h l = some r → ∀ i ∈ r.2, i.1 ∈ idsL l
  | [], r, e => by simp only [lendL, Option.some.injEq] at e; subst e; simp
  | x :: l, r, e => by
    simp only [lendL] at e
    cases hx : lend h x with
    | none => rw [hx] at e; cases e
    | some y =>
      rw [hx] at e
      simp only [Option.map_eq_some_iff] at e
      obtain ⟨s, hs, rfl⟩ := e
      intro i hi
      simp only [List.mem_append] at hi
      rcases hi with hi | hi
      · simp [idsL, lend_ids x y hx i hi]
      · simp [idsL, lendL_ids l s hs i hi]
end

theorem lendCap_ids {h : Heap} (x : V) (r : V × Ids) (e : lendCap h x = some r) : ∀ i ∈ r.2, i.1 ∈ idsV x ∨ i.1 ∈ boxIds1 h x := by
  unfold lendCap at e
  split at e
  · rename_i d v j off
    split at e
    · rename_i row hb
      simp only [Option.map_eq_some_iff] at e
      obtain ⟨s, hs, rfl⟩ := e
      intro i hi
      rcases List.mem_cons.1 hi with rfl | hi
      · left; simp [idsV]
      · right; simp [boxIds1, hb, lendL_ids row s hs i hi]
    · cases e
  · exact fun i hi => .inl (lend_ids x r e i hi)
theorem lendCaps_ids {h : Heap} : ∀ (l : List V) (r : List V × Ids), lendCaps h l = some r → ∀ i ∈ r.2, i.1 ∈ idsL l ∨ i.1 ∈ boxIdsL h l
  | [], r, e => by simp only [lendCaps, Option.some.injEq] at e; subst e; simp
  | x :: l, r, e => by
    simp only [lendCaps] at e
    cases hx : lendCap h x with
    | none => rw [hx] at e; cases e
    | some y =>
      rw [hx] at e
      simp only [Option.map_eq_some_iff] at e
      obtain ⟨s, hs, rfl⟩ := e
      intro i hi
      simp only [List.mem_append] at hi
      rcases hi with hi | hi
      · rcases lendCap_ids x y hx i hi with k | k
        · left; simp [idsL, k]
        · right; simp [boxIdsL, k]
      · rcases lendCaps_ids l s hs i hi with k | k
        · left; simp [idsL, k]
        · right; simp [boxIdsL, k]
theorem lendArg_ids {h : Heap} (x : V) (r : V × Ids) (e : lendArg h x = some r) : ∀ i ∈ r.2, i.1 ∈ idsV x ∨ i.1 ∈ boxIds h x := by
  unfold lendArg at e
  split at e
  · split at e
    · rename_i f a b ra rb ha hb
      cases e
      intro i hi
      simp only [List.mem_append] at hi
      rcases hi with hi | hi
      · rcases lendCaps_ids _ _ ha i hi with k | k
        · left; simp [idsV, k]
        · right; simp [boxIds, k]
      · rcases lendCaps_ids _ _ hb i hi with k | k
        · left; simp [idsV, k]
        · right; simp [boxIds, k]
    · cases e
  · exact fun i hi => .inl (lend_ids x r e i hi)

/- What is given. -/
mutual
theorem give_loc {t : List Nat} : ∀ (x : V) (h h' : Heap) (r : V × Heap), Agree t h h' → (∀ d ∈ idsV x, d ∈ t) → give h x = some r →
    Out t h r.2 ∧ r.2.cnt = h.cnt ∧ ∃ h2, give h' x = some (r.1, h2) ∧ Agree t r.2 h2 ∧ Out t h' h2 ∧ h2.cnt = h'.cnt
  | .int _ _, h, h', r, k, s, e => by simp only [give, Option.some.injEq] at e; subst e; exact ⟨Out.refl _ _, rfl, h', rfl, k, Out.refl _ _, rfl⟩
  | .bool _, h, h', r, k, s, e => by simp only [give, Option.some.injEq] at e; subst e; exact ⟨Out.refl _ _, rfl, h', rfl, k, Out.refl _ _, rfl⟩
  | .sym _ _ _ _ _ _, h, h', r, k, s, e => by simp only [give, Option.some.injEq] at e; subst e; exact ⟨Out.refl _ _, rfl, h', rfl, k, Out.refl _ _, rfl⟩
  | .e _, h, h', r, k, s, e => by simp only [give, Option.some.injEq] at e; subst e; exact ⟨Out.refl _ _, rfl, h', rfl, k, Out.refl _ _, rfl⟩
  | .sl _, h, h', r, k, s, e => by simp only [give, Option.some.injEq] at e; subst e; exact ⟨Out.refl _ _, rfl, h', rfl, k, Out.refl _ _, rfl⟩
  | .iptr _ _, h, h', r, k, s, e => by simp only [give, Option.some.injEq] at e; subst e; exact ⟨Out.refl _ _, rfl, h', rfl, k, Out.refl _ _, rfl⟩
  | .fresh rows, h, h', r, k, s, e => by
    simp only [give] at e
    split at e
    · cases e; exact ⟨Out.refl _ _, rfl, h', rfl, k, Out.refl _ _, rfl⟩
    · cases e
  | .agg l, h, h', r, k, s, e => by
    simp only [give, Option.map_eq_some_iff] at e
    obtain ⟨a, ha, rfl⟩ := e
    obtain ⟨h1, h2, h3, h4, h5⟩ := giveL_loc l h h' a k s ha
    exact ⟨h1, h2, h3, by simp only [give, h4, Option.map_some], h5⟩
  | .tup l, h, h', r, k, s, e => by
    simp only [give, Option.map_eq_some_iff] at e
    obtain ⟨a, ha, rfl⟩ := e
    obtain ⟨h1, h2, h3, h4, h5⟩ := giveL_loc l h h' a k s ha
    exact ⟨h1, h2, h3, by simp only [give, h4, Option.map_some], h5⟩
  | .own d v j fr len, h, h', r, k, s, e => by
    have hd : d ∈ t := s d (by simp [idsV])
    have hk := k d hd v j
    simp only [give] at e ⊢
    rw [hk]
    split at e
    · rename_i rr hb
      split at e
      · rename_i hc
        split at e
        · cases e
        · rename_i hdr
          cases e
          exact ⟨(Out.refl t h).set hd, rfl, h'.set d v j .dead, by simp only [hb]; rw [if_pos hc, if_neg hdr], k.set, (Out.refl _ _).set hd, rfl⟩
      · rename_i hc
        cases e
        cases hie : rr.isEmpty with
        | true =>
          refine ⟨by simpa [hie] using Out.refl t h, by simp [hie], h', ?_, by simpa [hie] using k, Out.refl _ _, rfl⟩
          simp [hb]
        | false =>
          refine ⟨by simpa [hie] using (Out.refl t h).set hd, by simp [hie], h'.set d v j .dead, ?_, by simpa [hie] using k.set, (Out.refl _ _).set hd, rfl⟩
          have hc' : len ≠ 0 := fun e => hc ⟨e, hie⟩
          simp [hb, hc']
    · rename_i rr hb
      cases e
      exact ⟨Out.refl _ _, rfl, h', by simp only [hb], k, Out.refl _ _, rfl⟩
    · cases e
  | .ptr _ _ _ _ _, _, _, _, _, _, e | .pbox _ _, _, _, _, _, _, e | .fn _ _ _, _, _, _, _, _, e | .fmap _ _, _, _, _, _, _, e | .spare _, _, _, _, _, _, e | .any, _, _, _, _, _, e => by cases e
  | .map d v j, h, h', r, k, s, e => by
    have hd : d ∈ t := s d (by simp [idsV])
    have hk := k d hd v j
    simp only [give] at e ⊢
    rw [hk]
    split at e
    · rename_i es hb
      split at e
      · rename_i hc
        cases e
        exact ⟨(Out.refl t h).set hd, rfl, h'.set d v j .dead, by simp only [hb, hc, if_true], k.set, (Out.refl _ _).set hd, rfl⟩
      · cases e
    · cases e
theorem giveL_loc {t : List Nat} : ∀ (l : List V) (h h' : Heap) (r : List V × Heap), Agree t h h' → (∀ d ∈ idsL l, d ∈ t) → giveL h l = some r →
    Out t h r.2 ∧ r.2.cnt = h.cnt ∧ ∃ h2, giveL h' l = some (r.1, h2) ∧ Agree t r.2 h2 ∧ Out t h' h2 ∧ h2.cnt = h'.cnt
  | [], h, h', r, k, s, e => by simp only [giveL, Option.some.injEq] at e; subst e; exact ⟨Out.refl _ _, rfl, h', rfl, k, Out.refl _ _, rfl⟩
  | x :: l, h, h', r, k, s, e => by
    simp only [giveL] at e
    cases hx : give h x with
    | none => rw [hx] at e; cases e
    | some y =>
      rw [hx] at e
      simp only [Option.map_eq_some_iff] at e
      obtain ⟨z, hz, rfl⟩ := e
      obtain ⟨a1, a2, h2, a3, a4, a5, a6⟩ := give_loc x h h' y k (fun d hd => s d (by simp [idsL, hd])) hx
      obtain ⟨b1, b2, h3, b3, b4, b5, b6⟩ := giveL_loc l y.2 h2 z a4 (fun d hd => s d (by simp [idsL, hd])) hz
      exact ⟨a1.trans b1, b2.trans a2, h3, by simp only [giveL, a3, b3, Option.map_some], b4, a5.trans b5, b6.trans a6⟩
end

/- The boxes that are touched stay as they are, or die. -/
def Worn (h h' : Heap) : Prop := ∀ d v j, h'.bl d v j = h.bl d v j ∨ h'.bl d v j = .dead
theorem Worn.refl (h : Heap) : Worn h h := fun _ _ _ => .inl rfl
theorem Worn.trans {a b c : Heap} (h : Worn a b) (k : Worn b c) : Worn a c := fun d v j => by
  rcases k d v j with e | e
  · rw [e]; exact h d v j
  · exact .inr e
theorem Worn.set {h h' : Heap} (k : Worn h h') (d v j : Nat) : Worn h (h'.set d v j .dead) := fun d' v' j' => by
  rw [Heap.set_bl]
  split
  · exact .inr rfl
  · exact k d' v' j'
mutual
theorem give_worn : ∀ (x : V) (h : Heap) (r : V × Heap), give h x = some r → Worn h r.2
  | .int _ _, h, r, e | .bool _, h, r, e | .sym _ _ _ _ _ _, h, r, e | .e _, h, r, e | .sl _, h, r, e | .iptr _ _, h, r, e => by simp only [give, Option.some.injEq] at e; subst e; exact Worn.refl _
  | .fresh rows, h, r, e => by
    simp only [give] at e
    split at e
    · cases e; exact Worn.refl _
    · cases e
  | .agg l, h, r, e => by
    simp only [give, Option.map_eq_some_iff] at e
    obtain ⟨a, ha, rfl⟩ := e
    exact giveL_worn l h a ha
  | .tup l, h, r, e => by
    simp only [give, Option.map_eq_some_iff] at e
    obtain ⟨a, ha, rfl⟩ := e
    exact giveL_worn l h a ha
  | .own d v j fr len, h, r, e => by
    simp only [give] at e
    split at e
    · split at e
      · split at e
        · cases e
        · cases e; exact (Worn.refl _).set _ _ _
      · cases e
        simp only
        split
        · exact Worn.refl _
        · exact (Worn.refl _).set _ _ _
    · cases e; exact Worn.refl _
    · cases e
  | .ptr _ _ _ _ _, _, _, e | .pbox _ _, _, _, e | .fn _ _ _, _, _, e | .fmap _ _, _, _, e | .spare _, _, _, e | .any, _, _, e => by cases e
  | .map d v j, h, r, e => by
    simp only [give] at e
    split at e
    · split at e
      · cases e; exact (Worn.refl _).set _ _ _
      · cases e
    · cases e
theorem giveL_worn : ∀ (l : List V) (h : Heap) (r : List V × Heap), giveL h l = some r → Worn h r.2
  | [], h, r, e => by simp only [giveL, Option.some.injEq] at e; subst e; exact Worn.refl _
  | x :: l, h, r, e => by
    simp only [giveL] at e
    cases hx : give h x with
    | none => rw [hx] at e; cases e
    | some y =>
      rw [hx] at e
      simp only [Option.map_eq_some_iff] at e
      obtain ⟨z, hz, rfl⟩ := e
      exact (give_worn x h y hx).trans (giveL_worn l y.2 z hz)
end
theorem Worn.boxIds1 {h h' : Heap} (k : Worn h h') (x : V) {d : Nat} (hd : d ∈ boxIds1 h' x) : d ∈ Fo.boxIds1 h x := by
  cases x <;> simp only [Fo.boxIds1] at hd ⊢ <;> try exact hd
  rename_i a b c _ _
  rcases k a b c with e | e
  · rw [e] at hd; exact hd
  · rw [e] at hd; cases hd
theorem Worn.boxIdsL {h h' : Heap} (k : Worn h h') : ∀ (l : List V) {d : Nat}, d ∈ boxIdsL h' l → d ∈ Fo.boxIdsL h l
  | [], d, hd => hd
  | x :: l, d, hd => by
    simp only [Fo.boxIdsL, List.mem_append] at hd ⊢
    exact hd.imp (k.boxIds1 x) (k.boxIdsL l)
theorem Worn.boxIds {h h' : Heap} (k : Worn h h') (x : V) {d : Nat} (hd : d ∈ boxIds h' x) : d ∈ Fo.boxIds h x := by
  cases x <;> simp only [Fo.boxIds] at hd ⊢ <;> try exact k.boxIds1 _ hd
  simp only [List.mem_append] at hd ⊢
  exact hd.imp (k.boxIdsL _) (k.boxIdsL _)

theorem pass1_loc {t : List Nat} : ∀ (ms : List Mode) (xs : List V) (h h' : Heap) (r : List V × Heap × Ids), Agree t h h' → (∀ d ∈ idsL xs, d ∈ t) → (∀ d ∈ boxIdsA h xs, d ∈ t) → pass1 ms xs h = some r →
    Out t h r.2.1 ∧ r.2.1.cnt = h.cnt ∧ Worn h r.2.1 ∧ (∀ i ∈ r.2.2, i.1 ∈ t) ∧ (∃ h2, pass1 ms xs h' = some (r.1, h2, r.2.2) ∧ Agree t r.2.1 h2 ∧ Out t h' h2 ∧ h2.cnt = h'.cnt)
  | ms, [], h, h', r, k, s, s2, e => by
    simp only [pass1, Option.some.injEq] at e; subst e
    exact ⟨Out.refl _ _, rfl, Worn.refl _, by simp, h', rfl, k, Out.refl _ _, rfl⟩
  | ms, x :: xs, h, h', r, k, s, s2, e => by
    have sx : ∀ d ∈ idsV x, d ∈ t := fun d hd => s d (by simp [idsL, hd])
    have sl : ∀ d ∈ idsL xs, d ∈ t := fun d hd => s d (by simp [idsL, hd])
    have sb : ∀ d ∈ boxIdsA h xs, d ∈ t := fun d hd => s2 d (by simp [boxIdsA, hd])
    have sc : ∀ d ∈ boxIds h x, d ∈ t := fun d hd => s2 d (by simp [boxIdsA, hd])
    have wornA : ∀ {a b : Heap}, Worn a b → ∀ (l : List V) (d : Nat), d ∈ boxIdsA b l → d ∈ boxIdsA a l := by
      intro a b w l
      induction l with
      | nil => intro d hd; exact hd
      | cons y l ih =>
        intro d hd
        simp only [boxIdsA, List.mem_append] at hd ⊢
        exact hd.imp (w.boxIds y) (ih d)
    simp only [pass1] at e
    split at e
    · rename_i hm
      simp only [Option.map_eq_some_iff] at e
      obtain ⟨z, hz, rfl⟩ := e
      obtain ⟨b1, b2, b0, b7, h3, b3, b4, b5, b6⟩ := pass1_loc ms.tail xs h h' z k sl sb hz
      exact ⟨b1, b2, b0, b7, h3, by simp only [pass1, hm, b3, Option.map_some], b4, b5, b6⟩
    · rename_i hm
      split at e
      · cases e
      · rename_i y hy
        simp only [Option.map_eq_some_iff] at e
        obtain ⟨z, hz, rfl⟩ := e
        obtain ⟨a1, a2, h2, a3, a4, a5, a6⟩ := give_loc x h h' y k sx hy
        have w0 := give_worn x h y hy
        obtain ⟨b1, b2, b0, b7, h3, b3, b4, b5, b6⟩ := pass1_loc ms.tail xs y.2 h2 z a4 sl (fun d hd => sb d (wornA w0 xs d hd)) hz
        exact ⟨a1.trans b1, b2.trans a2, w0.trans b0, b7, h3, by simp only [pass1, hm, a3, b3, Option.map_some], b4, a5.trans b5, b6.trans a6⟩
    · rename_i hm
      split at e
      · rename_i d v j off
        have hd : d ∈ t := sx d (by simp [idsV])
        split at e
        · rename_i row hb
          split at e
          · cases e
          · rename_i y hy
            simp only [Option.map_eq_some_iff] at e
            obtain ⟨z, hz, rfl⟩ := e
            obtain ⟨a1, a2, h2, a3, a4, a5, a6⟩ := giveL_loc row (h.set d v j .dead) (h'.set d v j .dead) y k.set (fun d' hd' => sc d' (by simp [boxIds, boxIds1, hb, hd'])) hy
            have w0 : Worn h y.2 := ((Worn.refl h).set d v j).trans (giveL_worn row _ y hy)
            obtain ⟨b1, b2, b0, b7, h3, b3, b4, b5, b6⟩ := pass1_loc ms.tail xs y.2 h2 z a4 sl (fun d hd => sb d (wornA w0 xs d hd)) hz
            refine ⟨(((Out.refl t h).set hd).trans a1).trans b1, b2.trans a2, w0.trans b0, ?_, h3, ?_, b4, (((Out.refl t h').set hd).trans a5).trans b5, b6.trans a6⟩
            · intro i hi
              rcases List.mem_cons.1 hi with rfl | hi
              · exact hd
              · exact b7 i hi
            · simp only [pass1, hm, k d hd v j, hb, a3, b3, Option.map_some]
        · cases e
      · cases e

theorem pass2_loc {t : List Nat} {h h' : Heap} (k : Agree t h h') : ∀ (ms : List Mode) (xs : List V), (∀ d ∈ idsL xs, d ∈ t) → (∀ d ∈ boxIdsA h xs, d ∈ t) → pass2 h' ms xs = pass2 h ms xs
  | ms, [], _, _ => rfl
  | ms, x :: xs, s, s2 => by
    have ih := pass2_loc k ms.tail xs (fun d hd => s d (by simp [idsL, hd])) (fun d hd => s2 d (by simp [boxIdsA, hd]))
    simp only [pass2]
    split
    · rw [lendArg_loc k x (fun d hd => s d (by simp [idsL, hd])) (fun d hd => s2 d (by simp [boxIdsA, hd])), ih]
    · rw [ih]
theorem pass2_ids {h : Heap} : ∀ (ms : List Mode) (xs : List V) (r : List V × Ids), pass2 h ms xs = some r → ∀ i ∈ r.2, i.1 ∈ idsL xs ∨ i.1 ∈ boxIdsA h xs
  | ms, [], r, e => by simp only [pass2, Option.some.injEq] at e; subst e; simp
  | ms, x :: xs, r, e => by
    simp only [pass2] at e
    split at e
    · split at e
      · cases e
      · rename_i y hy
        simp only [Option.map_eq_some_iff] at e
        obtain ⟨s, hs, rfl⟩ := e
        intro i hi
        simp only [List.mem_append] at hi
        rcases hi with hi | hi
        · rcases lendArg_ids x y hy i hi with q | q
          · left; simp [idsL, q]
          · right; simp [boxIdsA, q]
        · rcases pass2_ids ms.tail xs s hs i hi with q | q
          · left; simp [idsL, q]
          · right; simp [boxIdsA, q]
    · simp only [Option.map_eq_some_iff] at e
      obtain ⟨s, hs, rfl⟩ := e
      intro i hi
      rcases pass2_ids ms.tail xs s hs i hi with q | q
      · left; simp [idsL, q]
      · right; simp [boxIdsA, q]

end Fo
