/-
  What is lent, and what is given away (part 5).
-/
import Derived.Test.YtildnnhlpdcglaaFoA4
namespace Fo
open Go
set_option linter.unusedVariables false

def ι00 : Iota := fun _ _ _ => none
theorem ι00_le (ι : Iota) : Iota.le ι00 ι := fun _ _ _ _ h => by cases h

/-- Blocks that were lent. -/
def Lent (ι : Iota) (ids : Ids) (b : Nat) : Prop := ∃ i ∈ ids, ∃ o n t, ι i.1 i.2.1 i.2.2 = some (.pl b o n t)
/-- Of M, but for what was lent. -/
def Less (ι : Iota) (M : Nat → Prop) (ids : Ids) : Nat → Prop := fun b => M b ∧ ¬ Lent ι ids b

theorem Lent.mono {ι : Iota} {ids ids' : Ids} {b : Nat} (h : Lent ι ids b) (k : ∀ i ∈ ids, i ∈ ids') : Lent ι ids' b :=
  let ⟨i, hi, r⟩ := h; ⟨i, k i hi, r⟩

/-- A set is made less, nothing else. -/
theorem Stays.sub {w : World} {M M' : Nat → Prop} (h : ∀ b, M' b → M b) : Stays w M w M' := ⟨Nat.le_refl _, fun _ _ _ => rfl, fun b hb => .inl (h b hb), fun _ _ => rfl⟩

section
variable {nf : Nm}

theorem Less.sub {ι : Iota} {w : World} {M : Nat → Prop} {ids ids' : Ids} (k : ∀ i ∈ ids, i ∈ ids') : Stays w (Less ι M ids) w (Less ι M ids') :=
  Stays.sub fun _ hb => ⟨hb.1, fun hl => hb.2 (hl.mono k)⟩
theorem Less.of (ι : Iota) (w : World) (M : Nat → Prop) (ids : Ids) : Stays w M w (Less ι M ids) := Stays.sub fun _ hb => hb.1

theorem DCR.drop {w : World} {M : Nat → Prop} {b n : Nat} : ∀ (k : Nat) (r : List (List V)) (o : Nat), DCR nf w M b n r o → DCR nf w M b n (r.drop k) (o + k * n)
  | 0, r, o, h => by simpa using h
  | k + 1, [], o, h => by simp [DCR]
  | k + 1, x :: r, o, h => by
    have := DCR.drop k r (o + n) h.2.2
    rw [List.drop_succ_cons, show o + (k + 1) * n = o + n + k * n by rw [Nat.add_mul]; omega]; exact this
theorem DCR.take {w : World} {M : Nat → Prop} {b n : Nat} : ∀ (k : Nat) (r : List (List V)) (o : Nat), DCR nf w M b n r o → DCR nf w M b n (r.take k) o
  | 0, r, o, h => by simp [DCR]
  | k + 1, [], o, h => by simp [DCR]
  | k + 1, x :: r, o, h => ⟨h.1, h.2.1, DCR.take k r (o + n) h.2.2⟩

/-- Rows of the frame's own, as others see them. -/
theorem lend_rows {w : World} {M : Nat → Prop} {b o n fr len cap tot : Nat} {r : List (List V)} {a : Option Addr} (hb : b < w.heap.size) (hm : ¬ M b) (hr : DCR nf w M b n r o)
    (ht : tot = r.length) (h1 : len ≤ cap) (h2 : fr + len ≤ tot) (h3 : a = some ⟨b, o + fr * n, none⟩ ∨ cap = 0) : DC nf w M (.sl ((r.drop fr).take len)) (.slice a len cap) := by
  subst ht
  have hl : ((r.drop fr).take len).length = len := by rw [List.length_take, List.length_drop]; omega
  refine ⟨a, cap, by rw [hl], by rw [hl]; exact h1, (fun e => h3.elim (fun h => by rw [e] at h; cases h) id), ?_⟩
  rcases h3 with h3 | h3
  · exact .inr ⟨b, o + fr * n, n, h3, hm, hb, DCR.take _ _ _ (DCR.drop _ _ _ hr)⟩
  · left
    have : len = 0 := by omega
    subst this; simp

theorem lend_one {h : Heap} {x : V} {r : V × Ids} (e : lend h x = some r) : r.1.one = x.one := by
  cases x <;> simp only [lend, Option.map_eq_some_iff, Option.some.injEq, reduceCtorEq] at e
  case int => subst e; rfl
  case bool => subst e; rfl
  case sym => subst e; rfl
  case e => subst e; rfl
  case sl => subst e; rfl
  case iptr => subst e; rfl
  case agg => obtain ⟨a, _, rfl⟩ := e; rfl
  case tup => obtain ⟨a, _, rfl⟩ := e; rfl
  case fresh => split at e <;> first | (cases e; rfl) | cases e
  case own => split at e <;> first | (cases e; rfl) | cases e
theorem lendL_one {h : Heap} : ∀ (l : List V) {r : List V × Ids}, lendL h l = some r → r.1.all V.one = l.all V.one
  | [], r, e => by simp only [lendL, Option.some.injEq] at e; subst e; rfl
  | x :: l, r, e => by
    simp only [lendL] at e
    cases hx : lend h x with
    | none => rw [hx] at e; cases e
    | some y =>
      rw [hx] at e
      simp only [Option.map_eq_some_iff] at e
      obtain ⟨s, hs, rfl⟩ := e
      simp [lend_one hx, lendL_one l hs]
theorem give_one {h : Heap} {x : V} {r : V × Heap} (e : give h x = some r) : r.1.one = x.one := by
  cases x <;> simp only [give, Option.map_eq_some_iff, Option.some.injEq, reduceCtorEq] at e
  case int => subst e; rfl
  case bool => subst e; rfl
  case sym => subst e; rfl
  case e n => subst e; cases n <;> rfl
  case sl => subst e; rfl
  case iptr => subst e; rfl
  case agg => obtain ⟨a, _, rfl⟩ := e; rfl
  case tup => obtain ⟨a, _, rfl⟩ := e; rfl
  case fresh => split at e <;> first | (cases e; rfl) | cases e
  case own => (repeat' split at e) <;> first | (cases e; rfl) | cases e
  case map => (repeat' split at e) <;> first | (cases e; rfl) | cases e
theorem giveL_one : ∀ (l : List V) {h : Heap} {r : List V × Heap}, giveL h l = some r → r.1.all V.one = l.all V.one
  | [], h, r, e => by simp only [giveL, Option.some.injEq] at e; subst e; rfl
  | x :: l, h, r, e => by
    simp only [giveL] at e
    cases hx : give h x with
    | none => rw [hx] at e; cases e
    | some y =>
      rw [hx] at e
      simp only [Option.map_eq_some_iff] at e
      obtain ⟨s, hs, rfl⟩ := e
      simp [give_one hx, giveL_one l hs]

mutual
theorem lend_ok {B : Base} {ι : Iota} {M : Nat → Prop} {h : Heap} {w : World} (m : Mem nf B ι M h w) : ∀ (v : V) (c : Value) (v' : V) (ids : Ids),
    DV nf ι w M v c → lend h v = some (v', ids) → DC nf w (Less ι M ids) v' c
  | .int k n, c, v', ids, hv, hl => by simp only [lend, Option.some.injEq, Prod.mk.injEq] at hl; obtain ⟨rfl, rfl⟩ := hl; exact hv
  | .e n, c, v', ids, hv, hl => by
    simp only [lend, Option.some.injEq, Prod.mk.injEq] at hl; obtain ⟨rfl, rfl⟩ := hl
    cases n with
    | true => exact ⟨none, 0, hv, Nat.le_refl _, (fun _ => rfl), .inl rfl⟩
    | false => obtain ⟨a, cap, hv⟩ := hv; exact ⟨some a, cap, hv, Nat.zero_le _, (fun h => by cases h), .inl rfl⟩
  | .bool b, c, v', ids, hv, hl => by simp only [lend, Option.some.injEq, Prod.mk.injEq] at hl; obtain ⟨rfl, rfl⟩ := hl; exact hv
  | .sym _ _ _ _ _ _, c, v', ids, hv, hl => by simp only [lend, Option.some.injEq, Prod.mk.injEq] at hl; obtain ⟨rfl, rfl⟩ := hl; exact hv
  | .sl r, c, v', ids, hv, hl => by
    simp only [lend, Option.some.injEq, Prod.mk.injEq] at hl; obtain ⟨rfl, rfl⟩ := hl; exact DC.stays (Less.of ι w M []) _ _ hv
  | .iptr r o, c, v', ids, hv, hl => by
    simp only [lend, Option.some.injEq, Prod.mk.injEq] at hl; obtain ⟨rfl, rfl⟩ := hl; exact DC.stays (Less.of ι w M []) _ _ hv
  | .fresh r, c, v', ids, hv, hl => by
    obtain ⟨rfl, a, ha⟩ := hv
    simp only [lend, Option.some.injEq, Prod.mk.injEq] at hl; obtain ⟨rfl, rfl⟩ := hl
    exact ⟨a, 0, ha, Nat.le_refl _, (fun _ => rfl), .inl rfl⟩
  | .agg l, c, v', ids, hv, hl => by
    obtain ⟨ho, cs, hc, hv⟩ := hv
    simp only [lend, Option.map_eq_some_iff] at hl
    obtain ⟨r, hr, e⟩ := hl
    simp only [Prod.mk.injEq] at e; obtain ⟨rfl, rfl⟩ := e
    exact ⟨by rw [lendL_one l hr]; exact ho, cs, hc, lendL_ok m l cs r.1 r.2 hv hr⟩
  | .tup l, c, v', ids, hv, hl => by
    obtain ⟨cs, hc, hv⟩ := hv
    simp only [lend, Option.map_eq_some_iff] at hl
    obtain ⟨r, hr, e⟩ := hl
    simp only [Prod.mk.injEq] at e; obtain ⟨rfl, rfl⟩ := e
    exact ⟨cs, hc, lendL_ok m l cs r.1 r.2 hv hr⟩
  | .own d v j fr len, c, v', ids, hv, hl => by
    have k := m.blk d v j
    simp only [lend] at hl
    cases hb : h.bl d v j with
    | dead => rw [hb] at hl; cases hl
    | box r => rw [hb] at hl; cases hl
    | mp r => rw [hb] at hl; cases hl
    | rows r =>
      rw [hb] at hl k
      simp only [Option.some.injEq, Prod.mk.injEq] at hl; obtain ⟨rfl, rfl⟩ := hl
      rcases hv with ⟨h1, rfl, rfl, a, h2⟩ | ⟨b, o, n, tot, a, cap, e, N, h1, h2, h3, h4, h5, h6, h7, h8⟩
      · exact ⟨a, 0, by simpa using h2, by simp, (fun _ => rfl), .inl (by simp)⟩
      · subst h2
        rcases k with ⟨k1, k2⟩ | ⟨hne, b', o', n', e', N', k1, k2, k3, k4, k5, k6⟩
        · rw [k1] at h1; cases h1
        · rw [k1] at h1; cases h1
          have hl : Lent ι [(d, v, j)] b := ⟨(d, v, j), by simp, _, _, _, k1⟩
          exact lend_rows (shape_lt k4) (fun hm => hm.2 hl) (DCR.staysB (Less.of ι w M _) b n rfl _ _ k6) rfl h3 h4 h6
    | frz r =>
      rw [hb] at hl k
      simp only [Option.some.injEq, Prod.mk.injEq] at hl; obtain ⟨rfl, rfl⟩ := hl
      rcases hv with ⟨h1, rfl, rfl, a, h2⟩ | ⟨b, o, n, tot, a, cap, e, N, h1, h2, h3, h4, h5, h6, h7, h8⟩
      · exact ⟨a, 0, by simpa using h2, by simp, (fun _ => rfl), .inl (by simp)⟩
      · subst h2
        rcases k with ⟨k1, k2⟩ | ⟨b', o', n', k1, k2, k3, k6⟩
        · rw [k1] at h1; cases h1
        · rw [k1] at h1; cases h1
          exact lend_rows k3 (fun hm => k2 hm.1) (DCR.staysB (Less.of ι w M _) b n rfl _ _ k6) rfl h3 h4 h6
  | .ptr _ _ _ _ _, _, _, _, _, hl => by cases hl
  | .pbox _ _, _, _, _, _, hl => by cases hl
  | .fn _ _ _, _, _, _, _, hl => by cases hl
  | .fmap _ _, _, _, _, _, hl => by cases hl
  | .spare _, _, _, _, _, hl => by cases hl
  | .map _ _ _, _, _, _, _, hl => by cases hl
  | .any, _, _, _, _, hl => by cases hl
theorem lendL_ok {B : Base} {ι : Iota} {M : Nat → Prop} {h : Heap} {w : World} (m : Mem nf B ι M h w) : ∀ (l : List V) (cs : List Value) (l' : List V) (ids : Ids),
    DVL nf ι w M l cs → lendL h l = some (l', ids) → DCL nf w (Less ι M ids) l' cs
  | [], cs, l', ids, hv, hl => by simp only [lendL, Option.some.injEq, Prod.mk.injEq] at hl; obtain ⟨rfl, rfl⟩ := hl; exact hv
  | x :: l, cs, l', ids, hv, hl => by
    obtain ⟨c, cs', hcs, h1, h2⟩ := hv
    simp only [lendL] at hl
    cases hx : lend h x with
    | none => rw [hx] at hl; cases hl
    | some r =>
      rw [hx] at hl
      simp only [Option.map_eq_some_iff] at hl
      obtain ⟨s, hs, e⟩ := hl
      simp only [Prod.mk.injEq] at e; obtain ⟨rfl, rfl⟩ := e
      exact ⟨c, cs', hcs, DC.stays (Less.sub (by simp +contextual)) _ _ (lend_ok m x c r.1 r.2 h1 hx), DCL.stays (Less.sub (by simp +contextual)) _ _ (lendL_ok m l cs' s.1 s.2 h2 hs)⟩
end

theorem lendM_ok {B : Base} {ι : Iota} {M : Nat → Prop} {h : Heap} {w : World} (m : Mem nf B ι M h w) {b : Nat} : ∀ (l : List V) (o : Nat) (l' : List V) (ids : Ids),
    DVM nf ι w M b l o → lendL h l = some (l', ids) → DCM nf w (Less ι M ids) b l' o
  | [], o, l', ids, hv, hl => by simp only [lendL, Option.some.injEq, Prod.mk.injEq] at hl; obtain ⟨rfl, rfl⟩ := hl; trivial
  | x :: l, o, l', ids, hv, hl => by
    obtain ⟨ho, ⟨c, hcs, h1⟩, h2⟩ := hv
    simp only [lendL] at hl
    cases hx : lend h x with
    | none => rw [hx] at hl; cases hl
    | some r =>
      rw [hx] at hl
      simp only [Option.map_eq_some_iff] at hl
      obtain ⟨s, hs, e⟩ := hl
      simp only [Prod.mk.injEq] at e; obtain ⟨rfl, rfl⟩ := e
      exact ⟨by rw [lend_one hx]; exact ho, ⟨c, hcs, DC.stays (Less.sub (by simp +contextual)) _ _ (lend_ok m x c r.1 r.2 h1 hx)⟩, DCM.staysB (Less.sub (by simp +contextual)) b rfl _ _ (lendM_ok m l (o + 1) s.1 s.2 h2 hs)⟩

theorem lendCap_ok {B : Base} {ι : Iota} {M : Nat → Prop} {h : Heap} {w : World} (m : Mem nf B ι M h w) (v : V) (c : Value) (v' : V) (ids : Ids)
    (hv : DV nf ι w M v c) (hl : lendCap h v = some (v', ids)) : DC nf w (Less ι M ids) v' c := by
  unfold lendCap at hl
  split at hl
  · rename_i d v j off
    have k := m.blk d v j
    split at hl
    · rename_i row hb
      rw [hb] at k
      simp only [Option.map_eq_some_iff] at hl
      obtain ⟨r, hr, e⟩ := hl
      simp only [Prod.mk.injEq] at e; obtain ⟨rfl, rfl⟩ := e
      obtain ⟨b, o, n, tot, h1, h2⟩ := hv
      obtain ⟨b', o', k1, k2, k3, k4, k5⟩ := k
      rw [k1] at h1; cases h1
      have hl : Lent ι ((d, v, j) :: r.2) b := ⟨(d, v, j), by simp, _, _, _, k1⟩
      refine ⟨b, o, by rw [h2]; simp, fun hm => hm.2 hl, k3, ?_⟩
      exact DCM.staysB (Less.sub (by simp +contextual)) b rfl _ _ (lendM_ok m row o r.1 r.2 k5 hr)
    · cases hl
  · exact lend_ok m v c v' ids hv hl

theorem lendCaps_ok {B : Base} {ι : Iota} {M : Nat → Prop} {h : Heap} {w : World} (m : Mem nf B ι M h w) : ∀ (l : List V) (cs : List Value) (l' : List V) (ids : Ids),
    DVL nf ι w M l cs → lendCaps h l = some (l', ids) → DCL nf w (Less ι M ids) l' cs
  | [], cs, l', ids, hv, hl => by simp only [lendCaps, Option.some.injEq, Prod.mk.injEq] at hl; obtain ⟨rfl, rfl⟩ := hl; exact hv
  | x :: l, cs, l', ids, hv, hl => by
    obtain ⟨c, cs', hcs, h1, h2⟩ := hv
    simp only [lendCaps] at hl
    cases hx : lendCap h x with
    | none => rw [hx] at hl; cases hl
    | some r =>
      rw [hx] at hl
      simp only [Option.map_eq_some_iff] at hl
      obtain ⟨s, hs, e⟩ := hl
      simp only [Prod.mk.injEq] at e; obtain ⟨rfl, rfl⟩ := e
      exact ⟨c, cs', hcs, DC.stays (Less.sub (by simp +contextual)) _ _ (lendCap_ok m x c r.1 r.2 h1 hx), DCL.stays (Less.sub (by simp +contextual)) _ _ (lendCaps_ok m l cs' s.1 s.2 h2 hs)⟩

theorem lendArg_ok {B : Base} {ι : Iota} {M : Nat → Prop} {h : Heap} {w : World} (m : Mem nf B ι M h w) (v : V) (c : Value) (v' : V) (ids : Ids)
    (hv : DV nf ι w M v c) (hl : lendArg h v = some (v', ids)) : DC nf w (Less ι M ids) v' c := by
  unfold lendArg at hl
  split at hl
  · rename_i f first caps
    split at hl
    · rename_i a b ha hb
      simp only [Option.some.injEq, Prod.mk.injEq] at hl; obtain ⟨rfl, rfl⟩ := hl
      obtain ⟨g, fs, cs, hg, e, h1, h2⟩ := hv
      exact ⟨g, fs, cs, hg, e, DCL.stays (Less.sub (by simp +contextual)) _ _ (lendCaps_ok m first fs a.1 a.2 h1 ha), DCL.stays (Less.sub (by simp +contextual)) _ _ (lendCaps_ok m caps cs b.1 b.2 h2 hb)⟩
    · cases hl
  · exact lend_ok m v c v' ids hv hl

mutual
theorem DC.toXV {ι : Iota} {w : World} {M : Nat → Prop} : ∀ (v : V) (c : Value), DC nf w M v c → XV nf ι w M v c []
  | .int _ _, _, h => ⟨rfl, h⟩
  | .bool _, _, h => ⟨rfl, h⟩
  | .sym _ _ _ _ _ _, _, h => ⟨rfl, h⟩
  | .e _, _, h => ⟨rfl, h⟩
  | .agg l, c, ⟨ho, cs, e, h⟩ => ⟨ho, cs, e, DCL.toXV l cs h⟩
  | .tup l, c, ⟨cs, e, h⟩ => ⟨cs, e, DCL.toXV l cs h⟩
  | .sl _, _, h => ⟨rfl, h⟩
  | .iptr _ _, _, h => ⟨rfl, h⟩
  | .fn f first caps, c, h => ⟨rfl, DC.toDV _ _ h⟩
  | .fresh _, _, h => h.elim
  | .own _ _ _ _ _, _, h => h.elim
  | .ptr _ _ _ _ _, _, h => h.elim
  | .pbox _ _, _, h => h.elim
  | .fmap _ _, _, h => h.elim
  | .spare _, _, h => h.elim
  | .map _ _ _, _, h => h.elim
  | .any, _, h => h.elim
theorem DCL.toXV {ι : Iota} {w : World} {M : Nat → Prop} : ∀ (l : List V) (cs : List Value), DCL nf w M l cs → XVL nf ι w M l cs []
  | [], _, h => ⟨h, rfl⟩
  | v :: l, _, ⟨c, cs', e, h1, h2⟩ => ⟨c, cs', [], [], e, rfl, DC.toXV v c h1, DCL.toXV l cs' h2⟩
end
mutual
theorem DV.toXV {ι : Iota} {w : World} {M : Nat → Prop} : ∀ (v : V) (c : Value), DV nf ι w M v c → XV nf ι w M v c []
  | .int _ _, _, h => ⟨rfl, h⟩
  | .bool _, _, h => ⟨rfl, h⟩
  | .sym _ _ _ _ _ _, _, h => ⟨rfl, h⟩
  | .e _, _, h => ⟨rfl, h⟩
  | .agg l, c, ⟨ho, cs, e, h⟩ => ⟨ho, cs, e, DVL.toXV l cs h⟩
  | .tup l, c, ⟨cs, e, h⟩ => ⟨cs, e, DVL.toXV l cs h⟩
  | .sl _, _, h => ⟨rfl, h⟩
  | .iptr _ _, _, h => ⟨rfl, h⟩
  | .fn f first caps, c, h => ⟨rfl, h⟩
  | .fresh _, _, h => .inl ⟨h.1, rfl, h.2⟩
  | .own _ _ _ _ _, _, h => ⟨rfl, h⟩
  | .ptr _ _ _ _ _, _, h => ⟨rfl, h⟩
  | .pbox _ _, _, h => h.elim
  | .fmap _ _, _, h => h.elim
  | .spare _, _, h => h.elim
  | .map _ _ _, _, h => ⟨rfl, h⟩
  | .any, _, h => rfl
theorem DVL.toXV {ι : Iota} {w : World} {M : Nat → Prop} : ∀ (l : List V) (cs : List Value), DVL nf ι w M l cs → XVL nf ι w M l cs []
  | [], _, h => ⟨h, rfl⟩
  | v :: l, _, ⟨c, cs', e, h1, h2⟩ => ⟨c, cs', [], [], e, rfl, DV.toXV v c h1, DVL.toXV l cs' h2⟩
end
theorem DVM.toXV {ι : Iota} {w : World} {M : Nat → Prop} {b : Nat} : ∀ (l : List V) (o : Nat), DVM nf ι w M b l o → XVM nf ι w M b l o []
  | [], _, _ => rfl
  | v :: l, o, ⟨ho, ⟨c, hc, h1⟩, h2⟩ => ⟨ho, [], [], rfl, ⟨c, hc, DV.toXV v c h1⟩, DVM.toXV l (o + 1) h2⟩

/-- What giving leaves: O was owned, and is no more. -/
structure Given (B : Base) (ι : Iota) (M : Nat → Prop) (w : World) (O : List Nat) (h h' : Heap) : Prop where
  mem : Mem nf B ι M h' w
  cnt : h'.cnt = h.cnt
  nodup : O.Nodup
  was : ∀ b ∈ O, ∃ d v j, Owns h ι d v j b
  isnt : ∀ b ∈ O, ∀ d v j, ¬ Owns h' ι d v j b
  owns : ∀ d v j b, Owns h' ι d v j b → Owns h ι d v j b
  less : ∀ d v j, h'.bl d v j = .dead ∨ h'.bl d v j = h.bl d v j

theorem Given.refl {B : Base} {ι : Iota} {M : Nat → Prop} {w : World} {h : Heap} (m : Mem nf B ι M h w) : Given (nf := nf) B ι M w [] h h :=
  ⟨m, rfl, List.nodup_nil, by simp, by simp, fun _ _ _ _ o => o, fun _ _ _ => .inr rfl⟩

theorem Given.trans {B : Base} {ι : Iota} {M : Nat → Prop} {w : World} {O1 O2 : List Nat} {h1 h2 h3 : Heap} (a : Given (nf := nf) B ι M w O1 h1 h2) (b : Given (nf := nf) B ι M w O2 h2 h3) :
    Given (nf := nf) B ι M w (O1 ++ O2) h1 h3 where
  mem := b.mem
  cnt := b.cnt.trans a.cnt
  nodup := List.nodup_append.2 ⟨a.nodup, b.nodup, fun x hx y hy e => by
    subst e; obtain ⟨d, v, j, o⟩ := b.was x hy; exact a.isnt x hx d v j o⟩
  was := by
    intro x hx
    rcases List.mem_append.1 hx with hx | hx
    · exact a.was x hx
    · obtain ⟨d, v, j, o⟩ := b.was x hx; exact ⟨d, v, j, a.owns _ _ _ _ o⟩
  isnt := by
    intro x hx d v j o
    rcases List.mem_append.1 hx with hx | hx
    · exact a.isnt x hx _ _ _ (b.owns _ _ _ _ o)
    · exact b.isnt x hx _ _ _ o
  owns := fun d v j x o => a.owns _ _ _ _ (b.owns _ _ _ _ o)
  less := by
    intro d v j
    rcases b.less d v j with e | e
    · exact .inl e
    · rcases a.less d v j with e' | e'
      · exact .inl (e.trans e')
      · exact .inr (e.trans e')

/-- A block is let go. -/
theorem Mem.kill {B : Base} {ι : Iota} {M : Nat → Prop} {h : Heap} {w : World} (m : Mem nf B ι M h w) (d v j : Nat) : Mem nf B ι M (h.set d v j .dead) w := by
  have ho : ∀ d' v' j' b, Owns (h.set d v j .dead) ι d' v' j' b → Owns h ι d' v' j' b := by
    intro d' v' j' b o
    unfold Owns at o ⊢
    rw [Heap.set_bl] at o
    split at o
    · exact o.elim
    · exact o
  refine ⟨m.wf, ?_, fun _ _ _ _ _ _ b o1 o2 => m.inj _ _ _ _ _ _ b (ho _ _ _ _ o1) (ho _ _ _ _ o2), fun _ _ _ b o => m.mine _ _ _ b (ho _ _ _ _ o), ?_, m.keep, m.foreign, m.ext⟩
  · intro d' v' j'
    rw [Heap.set_bl]
    split
    · trivial
    · exact m.blk d' v' j'
  · intro d' v' j' hle
    rw [Heap.set_bl]
    split
    · exact ⟨rfl, (m.fut d' v' j' hle).2⟩
    · exact m.fut d' v' j' hle

theorem Given.one {B : Base} {ι : Iota} {M : Nat → Prop} {h : Heap} {w : World} (m : Mem nf B ι M h w) (d v j : Nat) {O : List Nat} (hO : O = [] ∨ ∃ b, O = [b] ∧ Owns h ι d v j b) :
    Given (nf := nf) B ι M w O h (h.set d v j .dead) := by
  have ho : ∀ d' v' j' b, Owns (h.set d v j .dead) ι d' v' j' b → Owns h ι d' v' j' b ∧ ¬ (d' = d ∧ v' = v ∧ j' = j) := by
    intro d' v' j' b o
    unfold Owns at o ⊢
    rw [Heap.set_bl] at o
    split at o
    · exact o.elim
    · rename_i ne; exact ⟨o, ne⟩
  refine ⟨m.kill d v j, rfl, ?_, ?_, ?_, fun _ _ _ _ o => (ho _ _ _ _ o).1, ?_⟩
  · rcases hO with rfl | ⟨b, rfl, _⟩ <;> simp
  · rcases hO with rfl | ⟨b, rfl, o⟩
    · simp
    · intro x hx; obtain rfl : x = b := by simpa using hx
      exact ⟨d, v, j, o⟩
  · rcases hO with rfl | ⟨b, rfl, o⟩
    · simp
    · intro x hx d' v' j' o'; obtain rfl : x = b := by simpa using hx
      exact (ho _ _ _ _ o').2 (m.inj _ _ _ _ _ _ _ (ho _ _ _ _ o').1 o)
  · intro d' v' j'
    rw [Heap.set_bl]
    split
    · exact .inl rfl
    · exact .inr rfl

theorem DVE.parts {ι : Iota} {w : World} {M : Nat → Prop} : ∀ (es : List (V × V)) (l : List MapEntry), es.all (fun e => plainV e.2) = true → DVE nf ι w M es l →
    DCL nf w M (es.map (·.1)) (l.map (·.key)) ∧ DCL nf w M (es.map (·.2)) (l.map (·.val))
  | [], l, _, h => by have h : l = [] := h; subst h; exact ⟨rfl, rfl⟩
  | (k, v) :: es, l, hp, ⟨e, es', h, h1, h2, h3⟩ => by
    subst h
    simp only [List.all_cons, Bool.and_eq_true] at hp
    obtain ⟨a, b⟩ := DVE.parts es es' hp.2 h3
    refine ⟨⟨_, _, rfl, h1, a⟩, ⟨_, _, rfl, ?_, b⟩⟩
    cases v <;> first | exact h2 | (exact absurd hp.1 (by simp [plainV]))

mutual
theorem give_ok {B : Base} {ι : Iota} {M : Nat → Prop} {w : World} : ∀ (v : V) (c : Value) (h : Heap) (v' : V) (h' : Heap),
    Mem nf B ι M h w → DV nf ι w M v c → give h v = some (v', h') → ∃ O, Given (nf := nf) B ι M w O h h' ∧ XV nf ι00 w M v' c O
  | .int k n, c, h, v', h', m, hv, hl => by simp only [give, Option.some.injEq, Prod.mk.injEq] at hl; obtain ⟨rfl, rfl⟩ := hl; exact ⟨[], Given.refl m, rfl, hv⟩
  | .e n, c, h, v', h', m, hv, hl => by
    simp only [give, Option.some.injEq, Prod.mk.injEq] at hl; obtain ⟨rfl, rfl⟩ := hl
    cases n with
    | true => exact ⟨[], Given.refl m, .inl ⟨rfl, rfl, none, hv⟩⟩
    | false => obtain ⟨a, cap, hv⟩ := hv; exact ⟨[], Given.refl m, rfl, some a, cap, hv, Nat.zero_le _, (fun h => by cases h), .inl rfl⟩
  | .bool b, c, h, v', h', m, hv, hl => by simp only [give, Option.some.injEq, Prod.mk.injEq] at hl; obtain ⟨rfl, rfl⟩ := hl; exact ⟨[], Given.refl m, rfl, hv⟩
  | .sym _ _ _ _ _ _, c, h, v', h', m, hv, hl => by simp only [give, Option.some.injEq, Prod.mk.injEq] at hl; obtain ⟨rfl, rfl⟩ := hl; exact ⟨[], Given.refl m, rfl, hv⟩
  | .sl r, c, h, v', h', m, hv, hl => by simp only [give, Option.some.injEq, Prod.mk.injEq] at hl; obtain ⟨rfl, rfl⟩ := hl; exact ⟨[], Given.refl m, rfl, hv⟩
  | .iptr r o, c, h, v', h', m, hv, hl => by simp only [give, Option.some.injEq, Prod.mk.injEq] at hl; obtain ⟨rfl, rfl⟩ := hl; exact ⟨[], Given.refl m, rfl, hv⟩
  | .fresh r, c, h, v', h', m, hv, hl => by
    obtain ⟨rfl, a, ha⟩ := hv
    simp only [give, Option.some.injEq, Prod.mk.injEq] at hl; obtain ⟨rfl, rfl⟩ := hl
    exact ⟨[], Given.refl m, .inl ⟨rfl, rfl, a, ha⟩⟩
  | .agg l, c, h, v', h', m, hv, hl => by
    obtain ⟨ho, cs, hc, hv⟩ := hv
    simp only [give, Option.map_eq_some_iff] at hl
    obtain ⟨r, hr, e⟩ := hl
    simp only [Prod.mk.injEq] at e; obtain ⟨rfl, rfl⟩ := e
    obtain ⟨O, g, x⟩ := giveL_ok l cs h r.1 r.2 m hv hr
    exact ⟨O, g, by rw [giveL_one l hr]; exact ho, cs, hc, x⟩
  | .tup l, c, h, v', h', m, hv, hl => by
    obtain ⟨cs, hc, hv⟩ := hv
    simp only [give, Option.map_eq_some_iff] at hl
    obtain ⟨r, hr, e⟩ := hl
    simp only [Prod.mk.injEq] at e; obtain ⟨rfl, rfl⟩ := e
    obtain ⟨O, g, x⟩ := giveL_ok l cs h r.1 r.2 m hv hr
    exact ⟨O, g, cs, hc, x⟩
  | .own d v j fr len, c, h, v', h', m, hv, hl => by
    have k := m.blk d v j
    simp only [give] at hl
    cases hb : h.bl d v j with
    | dead => rw [hb] at hl; cases hl
    | box r => rw [hb] at hl; cases hl
    | mp r => rw [hb] at hl; cases hl
    | rows r =>
      rw [hb] at hl k
      simp only at hl
      split at hl
      · rename_i hgl
        split at hl
        · cases hl
        · rename_i hdr
          simp only [Option.some.injEq, Prod.mk.injEq] at hl; obtain ⟨rfl, rfl⟩ := hl
          have hdl : fr < r.length := by
            rcases Nat.lt_or_ge fr r.length with h0 | h0
            · exact h0
            · exact absurd (by rw [List.drop_eq_nil_iff.2 h0]; rfl) hdr
          rcases k with ⟨k1, k2⟩ | ⟨hne, b', o', n', e', N', k1, k2, k3, k4, k5, k6⟩
          · subst k2; simp at hdl
          · rcases hv with ⟨h1, _⟩ | ⟨b, o, n, tot, a, cap, e, N, h1, h2, h3, h4, h5, h6, h7, h8⟩
            · rw [k1] at h1; cases h1
            · rw [k1] at h1; cases h1
              rcases h6 with h6 | h6
              · have ow : Owns h ι d v j b' := by unfold Owns; rw [hb]; exact ⟨_, _, _, k1⟩
                refine ⟨[b'], Given.one m d v j (.inr ⟨b', rfl, ow⟩), by intro h0; rw [h0] at hdr; exact hdr rfl, b', o' + fr * n', n', cap, e', N', ?_, by rw [List.length_drop]; omega, rfl, k2, k3, k4, ?_, DCR.drop _ _ _ k6⟩
                · rw [h2, h6, hgl.1]
                · rw [k4] at h7; cases h7
                  have : (fr + cap) * n' = fr * n' + cap * n' := Nat.add_mul ..
                  omega
              · omega
      · rename_i hgl
        simp only [Option.some.injEq, Prod.mk.injEq] at hl; obtain ⟨rfl, rfl⟩ := hl
        rcases hv with ⟨h1, rfl, rfl, a, h2⟩ | ⟨b, o, n, tot, a, cap, e, N, h1, h2, h3, h4, h5, h6, h7, h8⟩
        · have hr0 : r = [] := by
            rcases k with ⟨_, k2⟩ | ⟨_, b', o', n', e', N', k1, _⟩
            · exact k2
            · rw [k1] at h1; cases h1
          subst hr0
          exact ⟨[], Given.refl m, .inl ⟨by simp, rfl, a, h2⟩⟩
        · rcases k with ⟨k1, k2⟩ | ⟨hne, b', o', n', e', N', k1, k2, k3, k4, k5, k6⟩
          · rw [k1] at h1; cases h1
          · rw [k1] at h1; cases h1
            have hlen : ((r.drop fr).take len).length = len := by rw [List.length_take, List.length_drop]; omega
            have hl0 : len ≠ 0 := by
              intro h0
              apply hgl
              refine ⟨h0, ?_⟩
              cases r with
              | nil => exact absurd rfl hne
              | cons => rfl
            rcases h6 with h6 | h6
            · have ow : Owns h ι d v j b := by unfold Owns; rw [hb]; exact ⟨_, _, _, k1⟩
              have hie : r.isEmpty = false := by cases r with | nil => exact absurd rfl hne | cons => rfl
              rw [hie]
              refine ⟨[b], Given.one m d v j (.inr ⟨b, rfl, ow⟩), .inr ⟨by intro h0; rw [h0] at hlen; simp at hlen; omega, b, o + fr * n, n, cap, e', N', ?_, by rw [hlen]; exact h3, rfl, k2, k3, k4, ?_, DCR.take _ _ _ (DCR.drop _ _ _ k6)⟩⟩
              · rw [hlen, h2, h6]
              · rw [k4] at h7; cases h7
                have : (fr + cap) * n = fr * n + cap * n := Nat.add_mul ..
                omega
            · omega
    | frz r =>
      rw [hb] at hl k
      simp only [Option.some.injEq, Prod.mk.injEq] at hl; obtain ⟨rfl, rfl⟩ := hl
      rcases hv with ⟨h1, rfl, rfl, a, h2⟩ | ⟨b, o, n, tot, a, cap, e, N, h1, h2, h3, h4, h5, h6, h7, h8⟩
      · exact ⟨[], Given.refl m, rfl, a, 0, by simpa using h2, by simp, (fun _ => rfl), .inl (by simp)⟩
      · subst h2
        rcases k with ⟨k1, k2⟩ | ⟨b2, o2, n2, k1, k2, k3, k6⟩
        · rw [k1] at h1; cases h1
        · rw [k1] at h1; cases h1
          exact ⟨[], Given.refl m, rfl, lend_rows k3 k2 k6 rfl h3 h4 h6⟩
  | .ptr _ _ _ _ _, _, _, _, _, _, _, hl => by cases hl
  | .pbox _ _, _, _, _, _, _, _, hl => by cases hl
  | .fn _ _ _, _, _, _, _, _, _, hl => by cases hl
  | .fmap _ _, _, _, _, _, _, _, hl => by cases hl
  | .spare _, _, _, _, _, _, _, hl => by cases hl
  | .map d v j, c, h, v', h', m, hv, hl => by
    obtain ⟨b, h1, h2⟩ := hv
    have k := m.blk d v j
    simp only [give] at hl
    cases hb : h.bl d v j with
    | dead => rw [hb] at hl; cases hl
    | box r => rw [hb] at hl; cases hl
    | rows r => rw [hb] at hl; cases hl
    | frz r => rw [hb] at hl; cases hl
    | mp es =>
      rw [hb] at hl k
      simp only at hl
      split at hl
      · rename_i hp
        simp only [Option.some.injEq, Prod.mk.injEq] at hl; obtain ⟨rfl, rfl⟩ := hl
        obtain ⟨b', es', clk, k1, k2, k3, k4⟩ := k
        rw [k1] at h1; cases h1
        have ow : Owns h ι d v j b := by unfold Owns; rw [hb]; exact k1
        have kk := DVE.parts es es'.toList hp k4
        exact ⟨[b], Given.one m d v j (.inr ⟨b, rfl, ow⟩), b, es', clk, h2, rfl, k2, k3, kk.1, kk.2⟩
      · cases hl
  | .any, _, _, _, _, _, _, hl => by cases hl
theorem giveL_ok {B : Base} {ι : Iota} {M : Nat → Prop} {w : World} : ∀ (l : List V) (cs : List Value) (h : Heap) (l' : List V) (h' : Heap),
    Mem nf B ι M h w → DVL nf ι w M l cs → giveL h l = some (l', h') → ∃ O, Given (nf := nf) B ι M w O h h' ∧ XVL nf ι00 w M l' cs O
  | [], cs, h, l', h', m, hv, hl => by simp only [giveL, Option.some.injEq, Prod.mk.injEq] at hl; obtain ⟨rfl, rfl⟩ := hl; exact ⟨[], Given.refl m, hv, rfl⟩
  | x :: l, cs, h, l', h', m, hv, hl => by
    obtain ⟨c, cs', hcs, h1, h2⟩ := hv
    simp only [giveL] at hl
    cases hx : give h x with
    | none => rw [hx] at hl; cases hl
    | some r =>
      rw [hx] at hl
      simp only [Option.map_eq_some_iff] at hl
      obtain ⟨s, hs, e⟩ := hl
      simp only [Prod.mk.injEq] at e; obtain ⟨rfl, rfl⟩ := e
      obtain ⟨O1, g1, x1⟩ := give_ok x c h r.1 r.2 m h1 hx
      obtain ⟨O2, g2, x2⟩ := giveL_ok l cs' r.2 s.1 s.2 g1.mem h2 hs
      exact ⟨O1 ++ O2, g1.trans g2, c, cs', O1, O2, hcs, rfl, x1, x2⟩
end

theorem giveM_ok {B : Base} {ι : Iota} {M : Nat → Prop} {w : World} {b : Nat} : ∀ (l : List V) (o : Nat) (h : Heap) (l' : List V) (h' : Heap),
    Mem nf B ι M h w → DVM nf ι w M b l o → giveL h l = some (l', h') → ∃ O, Given (nf := nf) B ι M w O h h' ∧ XVM nf ι00 w M b l' o O
  | [], o, h, l', h', m, hv, hl => by simp only [giveL, Option.some.injEq, Prod.mk.injEq] at hl; obtain ⟨rfl, rfl⟩ := hl; exact ⟨[], Given.refl m, rfl⟩
  | x :: l, o, h, l', h', m, hv, hl => by
    obtain ⟨ho, ⟨c, hc, h1⟩, h2⟩ := hv
    simp only [giveL] at hl
    cases hx : give h x with
    | none => rw [hx] at hl; cases hl
    | some r =>
      rw [hx] at hl
      simp only [Option.map_eq_some_iff] at hl
      obtain ⟨s, hs, e⟩ := hl
      simp only [Prod.mk.injEq] at e; obtain ⟨rfl, rfl⟩ := e
      obtain ⟨O1, g1, x1⟩ := give_ok x c h r.1 r.2 m h1 hx
      obtain ⟨O2, g2, x2⟩ := giveM_ok l (o + 1) r.2 s.1 s.2 g1.mem h2 hs
      exact ⟨O1 ++ O2, g1.trans g2, by rw [give_one hx]; exact ho, O1, O2, rfl, ⟨c, hc, x1⟩, x2⟩

end
end Fo
