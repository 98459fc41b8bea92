/-
  Calls (part 19).
-/
import Derived.Test.YtildnnhlpdcglaaFoA18
namespace Fo
open Go
set_option linter.unusedVariables false
set_option linter.unusedSimpArgs false

def ptrs : List V → List Value → List Value
  | .pbox _ _ :: xs, c :: cs => c :: ptrs xs cs
  | _ :: xs, _ :: cs => ptrs xs cs
  | _, _ => []

/-- What stays of memory behind a call that owned S. -/
structure CallKeeps (w w' : World) (S : List Nat) : Prop where
  os : w'.os = w.os
  tape : w'.tape = w.tape
  output : w'.output = w.output
  size : w.heap.size ≤ w'.heap.size
  block : ∀ b, b < w.heap.size → b ∉ S → w'.heap[b]? = w.heap[b]?
  shape : ∀ b, b < w.heap.size → w'.shape? b = w.shape? b

/-- A function of the program, called with args, tells v; what it borrowed comes back as outs. -/
def CallsOK (P : Program) (nf : Nm) (f : Nat) (args : List V) (v : V) (outs : List (List V)) : Prop :=
  ∀ g, nf f = some g → ∀ (w : World) (M0 : Nat → Prop) (vals : List Value) (S : List Nat),
    (∀ b, M0 b → b < w.heap.size) → (∀ b ∈ S, ¬ M0 b) → S.Nodup → XVL nf ι00 w (fun b => M0 b ∨ b ∈ S) args vals S →
    Calls P g vals.toArray w (fun e w' => ∃ c S', e = .returned c ∧ S'.Nodup ∧ (∀ b ∈ S', b ∈ S ∨ w.heap.size ≤ b) ∧ CallKeeps w w' S ∧
      XVL nf ι00 w' (fun b => M0 b ∨ b ∈ S') (v :: rebox args outs) (c :: ptrs args vals) S')

section
variable {nf : Nm} {P : Program}

/- What shows nothing stands whatever is owned. -/
mutual
theorem DC.noshow {w : World} {M M' : Nat → Prop} : ∀ (v : V) (c : Value), shows v = false → DC nf w M v c → DC nf w M' v c
  | .int _ _, _, _, h => h
  | .bool _, _, _, h => h
  | .sym _ _ _ _ _ _, _, _, h => h
  | .e _, _, _, h => h
  | .agg l, c, s, ⟨ho, cs, e, h⟩ => ⟨ho, cs, e, DCL.noshow l cs (by simpa [shows] using s) h⟩
  | .tup l, c, s, ⟨cs, e, h⟩ => ⟨cs, e, DCL.noshow l cs (by simpa [shows] using s) h⟩
  | .sl _, _, s, _ => by simp [shows] at s
  | .iptr _ _, _, s, _ => by simp [shows] at s
  | .fn _ _ _, _, s, _ => by simp [shows] at s
  | .fresh _, _, _, h => h.elim
  | .own _ _ _ _ _, _, _, h => h.elim
  | .ptr _ _ _ _ _, _, _, h => h.elim
  | .pbox _ _, _, _, h => h.elim
  | .fmap _ _, _, _, h => h.elim
  | .spare _, _, _, h => h.elim
  | .map _ _ _, _, _, h => h.elim
  | .any, _, _, h => h.elim
theorem DCL.noshow {w : World} {M M' : Nat → Prop} : ∀ (l : List V) (cs : List Value), showsL l = false → DCL nf w M l cs → DCL nf w M' l cs
  | [], _, _, h => h
  | v :: l, _, s, ⟨c, cs', e, h1, h2⟩ => by
    simp only [showsL, Bool.or_eq_false_iff] at s
    exact ⟨c, cs', e, DC.noshow v c s.1 h1, DCL.noshow l cs' s.2 h2⟩
end
theorem DCM.noshow {w : World} {M M' : Nat → Prop} {b : Nat} : ∀ (l : List V) (o : Nat), showsL l = false → DCM nf w M b l o → DCM nf w M' b l o
  | [], _, _, _ => trivial
  | v :: l, o, s, ⟨ho, ⟨c, hc, h1⟩, h2⟩ => by
    simp only [showsL, Bool.or_eq_false_iff] at s
    exact ⟨ho, ⟨c, hc, DC.noshow v c s.1 h1⟩, DCM.noshow l (o + 1) s.2 h2⟩
theorem DCR.noshow {w : World} {M M' : Nat → Prop} {b n : Nat} : ∀ (r : List (List V)) (o : Nat), showsR r = false → DCR nf w M b n r o → DCR nf w M' b n r o
  | [], _, _, _ => trivial
  | x :: r, o, s, ⟨h1, h2, h3⟩ => by
    simp only [showsR, Bool.or_eq_false_iff] at s
    exact ⟨h1, DCM.noshow x o s.1 h2, DCR.noshow r (o + n) s.2 h3⟩

mutual
theorem XV.noshow {w : World} {M M' : Nat → Prop} : ∀ (v : V) (c : Value) (O : List Nat), shows v = false → (∀ b ∈ O, M' b) → XV nf ι00 w M v c O → XV nf ι00 w M' v c O
  | .int _ _, _, _, _, _, h => h
  | .bool _, _, _, _, _, h => h
  | .sym _ _ _ _ _ _, _, _, _, _, h => h
  | .e _, _, _, _, _, h => h
  | .agg l, c, O, s, k, ⟨ho, cs, e, h⟩ => ⟨ho, cs, e, XVL.noshow l cs O (by simpa [shows] using s) k h⟩
  | .tup l, c, O, s, k, ⟨cs, e, h⟩ => ⟨cs, e, XVL.noshow l cs O (by simpa [shows] using s) k h⟩
  | .sl _, _, _, s, _, _ => by simp [shows] at s
  | .iptr _ _, _, _, s, _, _ => by simp [shows] at s
  | .fn _ _ _, _, _, s, _, _ => by simp [shows] at s
  | .own _ _ _ _ _, _, _, s, _, _ => by simp [shows] at s
  | .ptr _ _ _ _ _, _, _, s, _, _ => by simp [shows] at s
  | .pbox _ _, _, _, s, _, _ => by simp [shows] at s
  | .fmap _ _, _, _, s, _, _ => by simp [shows] at s
  | .spare _, _, _, s, _, _ => by simp [shows] at s
  | .map _ _ _, _, _, s, _, _ => by simp [shows] at s
  | .any, _, _, _, _, h => h
  | .fresh rows, c, O, s, k, h => by
    rcases h with h | ⟨hne, b, o, n, cap, e, N, h1, h2, rfl, h4, h5, h6, h7, h8⟩
    · exact .inl h
    · exact .inr ⟨hne, b, o, n, cap, e, N, h1, h2, rfl, k b (by simp), h5, h6, h7, DCR.noshow rows o (by simpa [shows] using s) h8⟩
theorem XVL.noshow {w : World} {M M' : Nat → Prop} : ∀ (l : List V) (cs : List Value) (O : List Nat), showsL l = false → (∀ b ∈ O, M' b) → XVL nf ι00 w M l cs O → XVL nf ι00 w M' l cs O
  | [], _, _, _, _, h => h
  | v :: l, _, _, s, k, ⟨c, cs', O1, O2, e, e2, h1, h2⟩ => by
    subst e2
    simp only [showsL, Bool.or_eq_false_iff] at s
    exact ⟨c, cs', O1, O2, e, rfl, XV.noshow v c O1 s.1 (fun b hb => k b (by simp [hb])) h1, XVL.noshow l cs' O2 s.2 (fun b hb => k b (by simp [hb])) h2⟩
theorem XVM.noshow {w : World} {M M' : Nat → Prop} {b : Nat} : ∀ (l : List V) (o : Nat) (O : List Nat), showsL l = false → (∀ b ∈ O, M' b) → XVM nf ι00 w M b l o O → XVM nf ι00 w M' b l o O
  | [], _, _, _, _, h => h
  | v :: l, o, _, s, k, ⟨ho, O1, O2, e2, ⟨c, hc, h1⟩, h2⟩ => by
    subst e2
    simp only [showsL, Bool.or_eq_false_iff] at s
    exact ⟨ho, O1, O2, rfl, ⟨c, hc, XV.noshow v c O1 s.1 (fun b hb => k b (by simp [hb])) h1⟩, XVM.noshow l (o + 1) O2 s.2 (fun b hb => k b (by simp [hb])) h2⟩
end

/-- Arguments behind the first pass. -/
def P1 (ι : Iota) (w : World) (M : Nat → Prop) : List Mode → List V → List Value → List Nat → Ids → Prop
  | _, [], cs, O, bs => cs = [] ∧ O = [] ∧ bs = []
  | ms, x :: xs, cs, O, bs => ∃ c cs', cs = c :: cs' ∧
    ((ms.headD .lend = .lend ∧ DV nf ι w M x c ∧ P1 ι w M ms.tail xs cs' O bs) ∨
     (ms.headD .lend = .give ∧ isPb x = false ∧ ∃ O1 O2, O = O1 ++ O2 ∧ XV nf ι00 w M x c O1 ∧ P1 ι w M ms.tail xs cs' O2 bs) ∨
     (ms.headD .lend = .bor ∧ ∃ row off b o O1 O2 d v j bs', x = .pbox row off ∧ O = (b :: O1) ++ O2 ∧ c = .pointer (some ⟨b, o + off, none⟩) ∧ M b ∧ b < w.heap.size ∧ NF w b ∧ XVM nf ι00 w M b row o O1 ∧
        bs = (d, v, j) :: bs' ∧ ι d v j = some (.pl b o row.length 1) ∧ P1 ι w M ms.tail xs cs' O2 bs'))

theorem give_nopb {h : Heap} {x : V} {r : V × Heap} (e : give h x = some r) : isPb r.1 = false := by
  cases x <;> simp only [give, Option.map_eq_some_iff, Option.some.injEq, reduceCtorEq] at e
  case int => subst e; rfl
  case bool => subst e; rfl
  case sym => subst e; rfl
  case e n => subst e; cases n <;> rfl
  case sl => subst e; rfl
  case iptr => subst e; rfl
  case agg => obtain ⟨a, _, rfl⟩ := e; rfl
  case tup => obtain ⟨a, _, rfl⟩ := e; rfl
  case fresh => split at e <;> first | (cases e; rfl) | cases e
  case own => (repeat' split at e) <;> first | (cases e; rfl) | cases e
  case map => (repeat' split at e) <;> first | (cases e; rfl) | cases e

theorem bs_dead {ι : Iota} {w : World} {M : Nat → Prop} : ∀ (ms : List Mode) (xs : List V) (cs : List Value) (O : List Nat) (bs : Ids), P1 (nf := nf) ι w M ms xs cs O bs → ∀ i ∈ bs, ∃ b ∈ O, ∃ o n, ι i.1 i.2.1 i.2.2 = some (.pl b o n 1)
  | _, [], cs, O, bs, ⟨_, _, e⟩, i, hi => by subst e; cases hi
  | ms, x :: xs, cs, O, bs, ⟨c, cs', _, h⟩, i, hi => by
    rcases h with ⟨_, _, h⟩ | ⟨_, _, O1, O2, e, _, h⟩ | ⟨_, row, off, b, o, O1, O2, d, v, j, bs', _, e, _, _, _, _, _, e2, e3, h⟩
    · exact bs_dead ms.tail xs cs' O bs h i hi
    · obtain ⟨b, hb, r⟩ := bs_dead ms.tail xs cs' O2 bs h i hi
      exact ⟨b, by rw [e]; simp [hb], r⟩
    · subst e2
      rcases List.mem_cons.1 hi with rfl | hi
      · exact ⟨b, by rw [e]; simp, o, _, e3⟩
      · obtain ⟨b, hb, r⟩ := bs_dead ms.tail xs cs' O2 bs' h i hi
        exact ⟨b, by rw [e]; simp [hb], r⟩

theorem pass1_ok {B : Base} {ι : Iota} {M : Nat → Prop} {w : World} : ∀ (ms : List Mode) (xs : List V) (cs : List Value) (h : Heap) (a1 : List V) (h1 : Heap) (bs : Ids),
    Mem nf B ι M h w → DVL nf ι w M xs cs → pass1 ms xs h = some (a1, h1, bs) → ∃ O, Given (nf := nf) B ι M w O h h1 ∧ P1 (nf := nf) ι w M ms a1 cs O bs ∧ (∀ i ∈ bs, h1.bl i.1 i.2.1 i.2.2 = .dead)
  | ms, [], cs, h, a1, h1, bs, m, hv, hp => by
    simp only [pass1, Option.some.injEq, Prod.mk.injEq] at hp
    obtain ⟨rfl, rfl, rfl⟩ := hp
    have hv : cs = [] := hv
    exact ⟨[], Given.refl m, ⟨hv, rfl, rfl⟩, by simp⟩
  | ms, x :: xs, cs, h, a1, h1, bs, m, ⟨c, cs', e, hx, hxs⟩, hp => by
    subst e
    simp only [pass1] at hp
    split at hp
    · rename_i hm
      simp only [Option.map_eq_some_iff, Prod.mk.injEq] at hp
      obtain ⟨⟨r1, r2, r3⟩, hr, rfl, e2⟩ := hp
      obtain ⟨rfl, rfl⟩ := Prod.mk.inj e2
      obtain ⟨O, g, p, k⟩ := pass1_ok ms.tail xs cs' h r1 r2 r3 m hxs hr
      exact ⟨O, g, ⟨c, cs', rfl, .inl ⟨hm, hx, p⟩⟩, k⟩
    · rename_i hm
      split at hp
      · cases hp
      · rename_i y hy
        simp only [Option.map_eq_some_iff, Prod.mk.injEq] at hp
        obtain ⟨⟨r1, r2, r3⟩, hr, rfl, e2⟩ := hp
        obtain ⟨rfl, rfl⟩ := Prod.mk.inj e2
        obtain ⟨O1, g1, x1⟩ := give_ok x c h y.1 y.2 m hx hy
        obtain ⟨O2, g2, p, k⟩ := pass1_ok ms.tail xs cs' y.2 r1 r2 r3 g1.mem hxs hr
        exact ⟨O1 ++ O2, g1.trans g2, ⟨c, cs', rfl, .inr (.inl ⟨hm, give_nopb hy, O1, O2, rfl, x1, p⟩)⟩, k⟩
    · rename_i hm
      split at hp
      · rename_i d v j off
        split at hp
        · rename_i row hb
          split at hp
          · cases hp
          · rename_i y hy
            simp only [Option.map_eq_some_iff, Prod.mk.injEq] at hp
            obtain ⟨⟨r1, r2, r3⟩, hr, rfl, rfl, rfl⟩ := hp
            have kb := m.blk d v j
            rw [hb] at kb
            obtain ⟨b, o, k1, k2, k3, k4, k5⟩ := kb
            obtain ⟨b', o', n', tot, e1, e2⟩ := hx
            rw [k1] at e1; cases e1
            have ow : Owns h ι d v j b := by unfold Owns; rw [hb]; exact ⟨_, _, _, k1⟩
            have g0 := Given.one (nf := nf) m d v j (.inr ⟨b, rfl, ow⟩)
            obtain ⟨O1, g1, x1⟩ := giveM_ok row o _ y.1 y.2 g0.mem k5 hy
            obtain ⟨O2, g2, p, k⟩ := pass1_ok ms.tail xs cs' y.2 r1 r2 r3 g1.mem hxs hr
            have hlen : y.1.length = row.length := giveL_length row hy
            refine ⟨([b] ++ O1) ++ O2, (g0.trans g1).trans g2, ⟨c, cs', rfl, .inr (.inr ⟨hm, y.1, off, b, o, O1, O2, d, v, j, r3, rfl, by simp, by rw [e2]; simp, k2, k3, k4, x1, rfl, by rw [hlen]; exact k1, p⟩)⟩, ?_⟩
            intro i hi
            rcases List.mem_cons.1 hi with rfl | hi
            · have hd0 : (h.set d v j .dead).bl d v j = .dead := by rw [Heap.set_bl, if_pos ⟨rfl, rfl, rfl⟩]
              rcases (g1.trans g2).less d v j with e | e
              · exact e
              · exact e.trans hd0
            · exact k i hi
        · cases hp
      · cases hp
where
  giveL_length : ∀ (l : List V) {h : Heap} {r : List V × Heap}, giveL h l = some r → r.1.length = l.length
    | [], h, r, e => by simp only [giveL, Option.some.injEq] at e; subst e; rfl
    | x :: l, h, r, e => by
      simp only [giveL] at e
      cases hx : give h x with
      | none => rw [hx] at e; cases e
      | some y =>
        rw [hx] at e
        simp only [Option.map_eq_some_iff] at e
        obtain ⟨s, hs, rfl⟩ := e
        simp [giveL_length l hs]

theorem lendArg_alive {h : Heap} {x : V} {r : V × Ids} (e : lendArg h x = some r) : (∀ i ∈ r.2, Alive h i) ∧ isPb r.1 = false := by
  have capA : ∀ (x : V) (r : V × Ids), lendCap h x = some r → ∀ i ∈ r.2, Alive h i := by
    intro x r e
    unfold lendCap at e
    split at e
    · split at e
      · rename_i row hb
        simp only [Option.map_eq_some_iff] at e
        obtain ⟨s, hs, rfl⟩ := e
        intro i hi
        rcases List.mem_cons.1 hi with rfl | hi
        · simp [Alive, hb]
        · exact lendL_alive _ hs i hi
      · cases e
    · exact lendL_alive.lend_alive x r e
  have capsA : ∀ (l : List V) (r : List V × Ids), lendCaps h l = some r → ∀ i ∈ r.2, Alive h i := by
    intro l
    induction l with
    | nil => intro r e; simp only [lendCaps, Option.some.injEq] at e; subst e; simp
    | cons x l ih =>
      intro r e
      simp only [lendCaps] at e
      cases hx : lendCap h x with
      | none => rw [hx] at e; cases e
      | some y =>
        rw [hx] at e
        simp only [Option.map_eq_some_iff] at e
        obtain ⟨s, hs, rfl⟩ := e
        intro i hi
        rcases List.mem_append.1 hi with hi | hi
        · exact capA x y hx i hi
        · exact ih s hs i hi
  unfold lendArg at e
  split at e
  · split at e
    · rename_i a b ha hb
      cases e
      refine ⟨fun i hi => ?_, rfl⟩
      rcases List.mem_append.1 hi with hi | hi
      · exact capsA _ _ ha i hi
      · exact capsA _ _ hb i hi
    · cases e
  · refine ⟨lendL_alive.lend_alive x r e, ?_⟩
    cases x <;> simp only [lend, Option.map_eq_some_iff, Option.some.injEq, reduceCtorEq] at e
    case int => subst e; rfl
    case bool => subst e; rfl
    case sym => subst e; rfl
    case e => subst e; rfl
    case sl => subst e; rfl
    case iptr => subst e; rfl
    case agg => obtain ⟨a, _, rfl⟩ := e; rfl
    case tup => obtain ⟨a, _, rfl⟩ := e; rfl
    case fresh => split at e <;> first | (cases e; rfl) | cases e
    case own => split at e <;> first | (cases e; rfl) | cases e

/-- Behind both passes; what was borrowed is told by its boxes. -/
theorem pass2_ok {B : Base} {ι : Iota} {M : Nat → Prop} {w : World} {h1 : Heap} (m : Mem nf B ι M h1 w) : ∀ (ms : List Mode) (xs : List V) (cs : List Value) (O : List Nat) (bs : Ids) (a2 : List V) (ids : Ids),
    P1 (nf := nf) ι w M ms xs cs O bs → pass2 h1 ms xs = some (a2, ids) → (∀ b ∈ O, ∀ d v j, ¬ Owns h1 ι d v j b) →
    XVL nf ι00 w (Less ι M ids) a2 cs O ∧ (∀ i ∈ ids, Alive h1 i)
  | ms, [], cs, O, bs, a2, ids, ⟨e1, e2, e3⟩, hp, _ => by
    simp only [pass2, Option.some.injEq, Prod.mk.injEq] at hp
    obtain ⟨rfl, rfl⟩ := hp
    exact ⟨⟨e1, e2⟩, by simp⟩
  | ms, x :: xs, cs, O, bs, a2, ids, ⟨c, cs', e, hh⟩, hp, hO => by
    subst e
    simp only [pass2] at hp
    have notLent : ∀ (ids : Ids) (b : Nat), (∀ i ∈ ids, Alive h1 i) → M b → (∀ d v j, ¬ Owns h1 ι d v j b) → ¬ Lent ι ids b := by
      intro ids b ha hM hno hl
      obtain ⟨i, hi, o, n, t, e⟩ := hl
      have k := ha i hi
      have kb := m.blk i.1 i.2.1 i.2.2
      unfold Alive at k
      cases hc : h1.bl i.1 i.2.1 i.2.2 with
      | dead => simp only [hc] at k
      | mp es => simp only [hc] at k
      | rows r => exact hno i.1 i.2.1 i.2.2 (by unfold Owns; rw [hc]; exact ⟨_, _, _, e⟩)
      | box r => exact hno i.1 i.2.1 i.2.2 (by unfold Owns; rw [hc]; exact ⟨_, _, _, e⟩)
      | frz r =>
        rw [hc] at kb
        rcases kb with ⟨k1, _⟩ | ⟨b', o2, n2, k1, k2, _⟩
        · rw [k1] at e; cases e
        · rw [k1] at e; cases e; exact k2 hM
    split at hp
    · rename_i hm
      split at hp
      · cases hp
      · rename_i y hy
        simp only [Option.map_eq_some_iff, Prod.mk.injEq] at hp
        obtain ⟨⟨r1, r2⟩, hr, rfl, rfl⟩ := hp
        rcases hh with ⟨_, hx, p⟩ | ⟨hm2, _⟩ | ⟨hm2, _⟩
        · obtain ⟨x2, al⟩ := pass2_ok m ms.tail xs cs' O bs r1 r2 p hr hO
          have ya := (lendArg_alive hy).1
          have all : ∀ i ∈ y.2 ++ r2, Alive h1 i := by
            intro i hi
            rcases List.mem_append.1 hi with hi | hi
            · exact ya i hi
            · exact al i hi
          have hd := lendArg_ok m x c y.1 y.2 hx hy
          refine ⟨⟨c, cs', [], O, rfl, rfl, DC.toXV _ _ (DC.stays (Less.sub (by simp +contextual)) _ _ hd), XVL.stays (Less.sub (by simp +contextual)) (Iota.le_refl _) _ _ _ (fun b hb => ⟨rfl, (XVL.inM _ _ _ x2 b hb).1, notLent _ b all (XVL.inM _ _ _ x2 b hb).1 (hO b hb)⟩) x2⟩, all⟩
        · rw [hm] at hm2; cases hm2
        · rw [hm] at hm2; cases hm2
    · rename_i hm
      simp only [Option.map_eq_some_iff, Prod.mk.injEq] at hp
      obtain ⟨⟨r1, r2⟩, hr, rfl, rfl⟩ := hp
      rcases hh with ⟨hm2, _⟩ | ⟨_, _, O1, O2, rfl, hx, p⟩ | ⟨_, row, off, b, o, O1, O2, d, v, j, bs', rfl, rfl, hc, hMb, hb, hnf, hx, _, _, p⟩
      · exact absurd hm2 hm
      · obtain ⟨x2, al⟩ := pass2_ok m ms.tail xs cs' O2 bs r1 r2 p hr (fun b hb => hO b (by simp [hb]))
        exact ⟨⟨c, cs', O1, O2, rfl, rfl, XV.stays (Less.of ι w M r2) (Iota.le_refl _) _ _ _ (fun b hb => ⟨rfl, XV.inM _ _ _ hx b hb, notLent _ b al (XV.inM _ _ _ hx b hb) (hO b (by simp [hb]))⟩) hx, x2⟩, al⟩
      · obtain ⟨x2, al⟩ := pass2_ok m ms.tail xs cs' O2 bs' r1 r2 p hr (fun b hb => hO b (by simp [hb]))
        have mb : Less ι M r2 b := ⟨hMb, notLent _ b al hMb (hO b (by simp))⟩
        exact ⟨⟨c, cs', b :: O1, O2, rfl, rfl, ⟨b, o, O1, hc, rfl, mb, hb, hnf, XVM.stays (Less.of ι w M r2) (Iota.le_refl _) b rfl _ _ _ (fun b' hb' => ⟨rfl, XVM.inM _ _ _ _ hx b' hb', notLent _ b' al (XVM.inM _ _ _ _ hx b' hb') (hO b' (by simp [hb']))⟩) hx⟩, x2⟩, al⟩

end
end Fo
