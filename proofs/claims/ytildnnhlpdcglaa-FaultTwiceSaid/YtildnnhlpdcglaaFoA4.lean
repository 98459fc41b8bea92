/-
  The frame's own memory against the model's: what is laid in, lent, given (part 4).
-/
import Derived.Test.YtildnnhlpdcglaaFoA3
namespace Fo
open Go
set_option linter.unusedVariables false

structure Base where
  w0 : World
  M0 : Nat → Prop
  S0 : List Nat
  ι0 : Iota

structure Base.WF (B : Base) : Prop where
  low : ∀ b, B.M0 b → b < B.w0.heap.size
  off : ∀ b ∈ B.S0, ¬ B.M0 b

/-- What is kept from the call's begin on. -/
structure Kept (B : Base) (w : World) : Prop where
  os : w.os = B.w0.os
  tape : w.tape = B.w0.tape
  output : w.output = B.w0.output
  size : B.w0.heap.size ≤ w.heap.size
  block : ∀ b, b < B.w0.heap.size → b ∉ B.S0 → w.heap[b]? = B.w0.heap[b]?
  shape : ∀ b, b < B.w0.heap.size → w.shape? b = B.w0.shape? b

def OwnsC (ι : Iota) (d v j b : Nat) : Bc → Prop
  | .rows _ => ∃ o n t, ι d v j = some (.pl b o n t)
  | .box _ => ∃ o n t, ι d v j = some (.pl b o n t)
  | .mp _ => ι d v j = some (.mp b)
  | _ => False

def Owns (h : Heap) (ι : Iota) (d v j b : Nat) : Prop := OwnsC ι d v j b (h.bl d v j)

section
variable (nf : Nm)

def BlkOK (ι : Iota) (w : World) (M : Nat → Prop) (d v j : Nat) : Bc → Prop
  | .dead => True
  | .rows r => (ι d v j = some .nil ∧ r = []) ∨ r ≠ [] ∧ ∃ b o n e N, ι d v j = some (.pl b o n r.length) ∧ M b ∧ NF w b ∧ w.shape? b = some (e, N) ∧ o + r.length * n ≤ N ∧ DCR nf w M b n r o
  | .box r => ∃ b o, ι d v j = some (.pl b o r.length 1) ∧ M b ∧ b < w.heap.size ∧ NF w b ∧ DVM nf ι w M b r o
  | .frz r => (ι d v j = some .nil ∧ r = []) ∨ ∃ b o n, ι d v j = some (.pl b o n r.length) ∧ ¬ M b ∧ b < w.heap.size ∧ DCR nf w M b n r o
  | .mp es => ∃ b es' clk, ι d v j = some (.mp b) ∧ M b ∧ w.heap[b]? = some (.map es' clk) ∧ DVE nf ι w M es es'.toList

structure Mem (B : Base) (ι : Iota) (M : Nat → Prop) (h : Heap) (w : World) : Prop where
  wf : B.WF
  blk : ∀ d v j, BlkOK nf ι w M d v j (h.bl d v j)
  inj : ∀ d v j d' v' j' b, Owns h ι d v j b → Owns h ι d' v' j' b → d = d' ∧ v = v' ∧ j = j'
  mine : ∀ d v j b, Owns h ι d v j b → b ∈ B.S0 ∨ B.w0.heap.size ≤ b
  fut : ∀ d v j, h.cnt d ≤ v → h.bl d v j = .dead ∧ ι d v j = none
  keep : Kept B w
  foreign : ∀ b, B.M0 b → M b
  ext : Iota.le B.ι0 ι

variable {nf}

theorem lt_of_getElem? {α : Type} {a : Array α} {i : Nat} {x : α} (h : a[i]? = some x) : i < a.size := by
  rcases Nat.lt_or_ge i a.size with hb | hb
  · exact hb
  · rw [Array.getElem?_eq_none hb] at h; cases h

/-- A block that is owned is of M, and is there. -/
theorem Mem.ownsM {B : Base} {ι : Iota} {M : Nat → Prop} {h : Heap} {w : World} (m : Mem nf B ι M h w) {d v j b : Nat} (o : Owns h ι d v j b) : M b ∧ b < w.heap.size := by
  have k := m.blk d v j
  unfold Owns at o
  cases hc : h.bl d v j with
  | dead => rw [hc] at o; exact o.elim
  | frz r => rw [hc] at o; exact o.elim
  | rows r =>
    rw [hc] at o k
    obtain ⟨o', n, t, ho⟩ := o
    rcases k with ⟨h1, _⟩ | ⟨hne, b', o2, n2, e, N, h1, h2, h3, h4, _⟩
    · rw [h1] at ho; cases ho
    · rw [h1] at ho; cases ho; exact ⟨h2, shape_lt h4⟩
  | box r =>
    rw [hc] at o k
    obtain ⟨o', n, t, ho⟩ := o
    obtain ⟨b', o2, h1, h2, h3, _⟩ := k
    rw [h1] at ho; cases ho; exact ⟨h2, h3⟩
  | mp es =>
    rw [hc] at o k
    obtain ⟨b', es', clk, h1, h2, h3, _⟩ := k
    have o' : ι d v j = some (.mp b) := o
    rw [h1] at o'; cases o'; exact ⟨h2, lt_of_getElem? h3⟩

theorem BlkOK.stays {ι ι' : Iota} {w w' : World} {M M' : Nat → Prop} (s : Stays w M w' M') (hι : Iota.le ι ι') {d v j : Nat} {c : Bc}
    (k : ∀ b, OwnsC ι d v j b c → w'.heap[b]? = w.heap[b]? ∧ M' b) (h : BlkOK nf ι w M d v j c) : BlkOK nf ι' w' M' d v j c := by
  cases c with
  | dead => trivial
  | rows r =>
    rcases h with ⟨h1, h2⟩ | ⟨hne, b, o, n, e, N, h1, h2, h3, h4, h5, h6⟩
    · exact .inl ⟨hι _ _ _ _ h1, h2⟩
    · have kb := k b ⟨_, _, _, h1⟩
      exact .inr ⟨hne, b, o, n, e, N, hι _ _ _ _ h1, kb.2, h3.of kb.1, by rw [shape_of kb.1]; exact h4, h5, DCR.staysB s b n kb.1 r o h6⟩
  | box r =>
    obtain ⟨b, o, h1, h2, h3, h4, h5⟩ := h
    have kb := k b ⟨_, _, _, h1⟩
    exact ⟨b, o, hι _ _ _ _ h1, kb.2, Nat.lt_of_lt_of_le h3 s.size, h4.of kb.1, DVM.staysB s hι b kb.1 r o h5⟩
  | frz r =>
    rcases h with ⟨h1, h2⟩ | ⟨b, o, n, h1, h2, h3, h4⟩
    · exact .inl ⟨hι _ _ _ _ h1, h2⟩
    · exact .inr ⟨b, o, n, hι _ _ _ _ h1, fun hm' => (s.less b hm').elim h2 (fun h => by omega), Nat.lt_of_lt_of_le h3 s.size, DCR.stays s b n h2 h3 r o h4⟩
  | mp es =>
    obtain ⟨b, es', clk, h1, h2, h3, h4⟩ := h
    have kb := k b h1
    exact ⟨b, es', clk, hι _ _ _ _ h1, kb.2, by rw [kb.1]; exact h3, DVE.stays s hι es _ h4⟩

def iset (ι : Iota) (d v j : Nat) (l : Loc) : Iota := fun d' v' j' => if d' = d ∧ v' = v ∧ j' = j then some l else ι d' v' j'
theorem iset_le {ι : Iota} {d v j : Nat} {l : Loc} (h : ι d v j = none) : Iota.le ι (iset ι d v j l) := by
  intro d' v' j' l' e
  unfold iset
  split
  · rename_i hh; obtain ⟨rfl, rfl, rfl⟩ := hh; rw [h] at e; cases e
  · exact e
theorem iset_eq (ι : Iota) (d v j : Nat) (l : Loc) : iset ι d v j l d v j = some l := by simp [iset]

theorem Owns.set {h : Heap} {ι : Iota} {d v j : Nat} {c : Bc} {l : Loc} {d' v' j' b : Nat} (ne : ¬ (d' = d ∧ v' = v ∧ j' = j)) :
    Owns (h.set d v j c) (iset ι d v j l) d' v' j' b ↔ Owns h ι d' v' j' b := by
  unfold Owns
  rw [Heap.set_bl, if_neg ne]
  cases h.bl d' v' j' <;> simp [OwnsC, iset, ne]

/-- A new block. -/
theorem Mem.add {B : Base} {ι : Iota} {M : Nat → Prop} {h : Heap} {w : World} (m : Mem nf B ι M h w) {d v j : Nat} {c : Bc} {l : Loc}
    (hd : h.bl d v j = .dead) (hn : ι d v j = none) (hc : v < h.cnt d) (hk : BlkOK nf (iset ι d v j l) w M d v j c)
    (hb : ∀ b, OwnsC (iset ι d v j l) d v j b c → (∀ d' v' j', ¬ Owns h ι d' v' j' b) ∧ (b ∈ B.S0 ∨ B.w0.heap.size ≤ b)) :
    Mem nf B (iset ι d v j l) M (h.set d v j c) w where
  wf := m.wf
  blk := by
    intro d' v' j'
    rw [Heap.set_bl]
    split
    · rename_i e; obtain ⟨rfl, rfl, rfl⟩ := e; exact hk
    · refine (m.blk d' v' j').stays (Stays.refl w M) (iset_le hn) (fun b o => ⟨rfl, (m.ownsM o).1⟩)
  inj := by
    intro d1 v1 j1 d2 v2 j2 b o1 o2
    by_cases e1 : d1 = d ∧ v1 = v ∧ j1 = j
    · obtain ⟨rfl, rfl, rfl⟩ := e1
      by_cases e2 : d2 = d1 ∧ v2 = v1 ∧ j2 = j1
      · obtain ⟨rfl, rfl, rfl⟩ := e2; exact ⟨rfl, rfl, rfl⟩
      · have o1' : OwnsC (iset ι d1 v1 j1 l) d1 v1 j1 b c := by unfold Owns at o1; rw [Heap.set_bl, if_pos ⟨rfl, rfl, rfl⟩] at o1; exact o1
        exact absurd ((Owns.set e2).1 o2) ((hb b o1').1 _ _ _)
    · by_cases e2 : d2 = d ∧ v2 = v ∧ j2 = j
      · obtain ⟨rfl, rfl, rfl⟩ := e2
        have o2' : OwnsC (iset ι d2 v2 j2 l) d2 v2 j2 b c := by unfold Owns at o2; rw [Heap.set_bl, if_pos ⟨rfl, rfl, rfl⟩] at o2; exact o2
        exact absurd ((Owns.set e1).1 o1) ((hb b o2').1 _ _ _)
      · exact m.inj _ _ _ _ _ _ b ((Owns.set e1).1 o1) ((Owns.set e2).1 o2)
  mine := by
    intro d1 v1 j1 b o1
    by_cases e1 : d1 = d ∧ v1 = v ∧ j1 = j
    · obtain ⟨rfl, rfl, rfl⟩ := e1
      have o1' : OwnsC (iset ι d1 v1 j1 l) d1 v1 j1 b c := by unfold Owns at o1; rw [Heap.set_bl, if_pos ⟨rfl, rfl, rfl⟩] at o1; exact o1
      exact (hb b o1').2
    · exact m.mine _ _ _ b ((Owns.set e1).1 o1)
  fut := by
    intro d' v' j' hle
    have ne : ¬ (d' = d ∧ v' = v ∧ j' = j) := by rintro ⟨rfl, rfl, rfl⟩; simp at hle; omega
    rw [Heap.set_bl, if_neg ne]
    unfold iset; rw [if_neg ne]
    exact m.fut d' v' j' hle
  keep := m.keep
  foreign := m.foreign
  ext := Iota.le_trans m.ext (iset_le hn)

def Free (h : Heap) (ι : Iota) (d v j : Nat) : Prop := ∀ j', j ≤ j' → h.bl d v j' = .dead ∧ ι d v j' = none

/-- What thawing leaves. -/
structure Thawed (B : Base) (w : World) (M : Nat → Prop) (d ver : Nat) (O : List Nat) (j : Nat) (h : Heap) (ι : Iota) (j' : Nat) (h' : Heap) (ι' : Iota) : Prop where
  le : Iota.le ι ι'
  mem : Mem nf B ι' M h' w
  free : Free h' ι' d ver j'
  cnt : h'.cnt = h.cnt
  jle : j ≤ j'
  owns : ∀ d' v' j'' b, Owns h' ι' d' v' j'' b → Owns h ι d' v' j'' b ∨ b ∈ O
  rest : ∀ d' v' j'', ¬ (d' = d ∧ v' = ver ∧ j ≤ j'') → h'.bl d' v' j'' = h.bl d' v' j'' ∧ ι' d' v' j'' = ι d' v' j''

theorem Thawed.same {B : Base} {w : World} {M : Nat → Prop} {d ver : Nat} {j : Nat} {h : Heap} {ι : Iota} (m : Mem nf B ι M h w) (f : Free h ι d ver j) :
    Thawed (nf := nf) B w M d ver [] j h ι j h ι :=
  ⟨Iota.le_refl ι, m, f, rfl, Nat.le_refl _, fun _ _ _ _ o => .inl o, fun _ _ _ _ => ⟨rfl, rfl⟩⟩

theorem Free.next {h : Heap} {ι : Iota} {d v j : Nat} {c : Bc} {l : Loc} (f : Free h ι d v j) : Free (h.set d v j c) (iset ι d v j l) d v (j + 1) := by
  intro j' hj
  have ne : ¬ (d = d ∧ v = v ∧ j' = j) := by omega
  rw [Heap.set_bl, if_neg ne]; unfold iset; rw [if_neg ne]
  exact f j' (by omega)

theorem owns_set_self {h : Heap} {ι : Iota} {d v j : Nat} {c : Bc} {l : Loc} {b : Nat} (o : Owns (h.set d v j c) (iset ι d v j l) d v j b) : OwnsC (iset ι d v j l) d v j b c := by
  unfold Owns at o; rw [Heap.set_bl, if_pos ⟨rfl, rfl, rfl⟩] at o; exact o

/-- One block more is thawed. -/
theorem Thawed.one {B : Base} {w : World} {M : Nat → Prop} {d ver : Nat} {j : Nat} {h : Heap} {ι : Iota} {O : List Nat} {c : Bc} {l : Loc} (m : Mem nf B ι M h w) (f : Free h ι d ver j) (hc : ver < h.cnt d)
    (hk : BlkOK nf (iset ι d ver j l) w M d ver j c)
    (hO : ∀ b, OwnsC (iset ι d ver j l) d ver j b c → b ∈ O)
    (hdis : ∀ b ∈ O, ∀ d' v' j', ¬ Owns h ι d' v' j' b) (hmine : ∀ b ∈ O, b ∈ B.S0 ∨ B.w0.heap.size ≤ b) :
    Thawed (nf := nf) B w M d ver O j h ι (j + 1) (h.set d ver j c) (iset ι d ver j l) where
  le := iset_le (f j (Nat.le_refl _)).2
  mem := m.add (f j (Nat.le_refl _)).1 (f j (Nat.le_refl _)).2 hc hk (fun b o => ⟨hdis b (hO b o), hmine b (hO b o)⟩)
  free := f.next
  cnt := rfl
  jle := by omega
  owns := by
    intro d' v' j'' b o
    by_cases e : d' = d ∧ v' = ver ∧ j'' = j
    · obtain ⟨rfl, rfl, rfl⟩ := e; exact .inr (hO b (owns_set_self o))
    · exact .inl ((Owns.set e).1 o)
  rest := by
    intro d' v' j'' ne
    have ne' : ¬ (d' = d ∧ v' = ver ∧ j'' = j) := by rintro ⟨rfl, rfl, rfl⟩; exact ne ⟨rfl, rfl, Nat.le_refl _⟩
    rw [Heap.set_bl, if_neg ne']; unfold iset; rw [if_neg ne']; exact ⟨rfl, rfl⟩

theorem Thawed.trans {B : Base} {w : World} {M : Nat → Prop} {d ver : Nat} {O1 O2 : List Nat} {j1 j2 j3 : Nat} {h1 h2 h3 : Heap} {ι1 ι2 ι3 : Iota}
    (a : Thawed (nf := nf) B w M d ver O1 j1 h1 ι1 j2 h2 ι2) (b : Thawed (nf := nf) B w M d ver O2 j2 h2 ι2 j3 h3 ι3) : Thawed (nf := nf) B w M d ver (O1 ++ O2) j1 h1 ι1 j3 h3 ι3 where
  le := Iota.le_trans a.le b.le
  mem := b.mem
  free := b.free
  cnt := b.cnt.trans a.cnt
  jle := Nat.le_trans a.jle b.jle
  owns := by
    intro d' v' j'' x o
    rcases b.owns _ _ _ _ o with o | o
    · rcases a.owns _ _ _ _ o with o | o
      · exact .inl o
      · exact .inr (by simp [o])
    · exact .inr (by simp [o])
  rest := by
    intro d' v' j'' ne
    have r2 := b.rest d' v' j'' (by rintro ⟨e1, e2, e3⟩; exact ne ⟨e1, e2, Nat.le_trans a.jle e3⟩)
    have r1 := a.rest d' v' j'' ne
    exact ⟨r2.1.trans r1.1, r2.2.trans r1.2⟩

mutual
theorem XV.inM {ι : Iota} {w : World} {M : Nat → Prop} : ∀ (v : V) (c : Value) (O : List Nat), XV nf ι w M v c O → ∀ b ∈ O, M b
  | .int _ _, _, _, ⟨e, _⟩ => by subst e; simp
  | .bool _, _, _, ⟨e, _⟩ => by subst e; simp
  | .sym _ _ _ _ _ _, _, _, ⟨e, _⟩ => by subst e; simp
  | .e _, _, _, ⟨e, _⟩ => by subst e; simp
  | .agg l, _, O, ⟨_, cs, _, h⟩ => XVL.inM l cs O h
  | .tup l, _, O, ⟨cs, _, h⟩ => XVL.inM l cs O h
  | .fn _ _ _, _, _, ⟨e, _⟩ => by subst e; simp
  | .sl _, _, _, ⟨e, _⟩ => by subst e; simp
  | .iptr _ _, _, _, ⟨e, _⟩ => by subst e; simp
  | .own _ _ _ _ _, _, _, ⟨e, _⟩ => by subst e; simp
  | .ptr _ _ _ _ _, _, _, ⟨e, _⟩ => by subst e; simp
  | .map _ _ _, _, _, ⟨e, _⟩ => by subst e; simp
  | .fresh rows, _, O, h => by
    rcases h with ⟨_, e, _⟩ | ⟨hne, b, o, n, cap, e, N, h1, h2, h3, h4, _⟩
    · subst e; simp
    · subst h3; simpa using h4
  | .pbox row off, _, O, ⟨b, o, O', h1, h2, h3, h4, h5, h6⟩ => by
    subst h2
    intro x hx
    rcases List.mem_cons.1 hx with rfl | hx
    · exact h3
    · exact XVM.inM b row o O' h6 x hx
  | .spare rows, _, O, h => by
    obtain ⟨hne, b, o, n, cap, e, N, h1, h2, h3, h4, _⟩ := h
    subst h3; simpa using h4
  | .fmap _ _, _, O, ⟨b, es, clk, h1, h2, h3, h4⟩ => by subst h2; simpa using h3
  | .any, _, _, h => by have h : _ = [] := h; subst h; simp
theorem XVL.inM {ι : Iota} {w : World} {M : Nat → Prop} : ∀ (l : List V) (cs : List Value) (O : List Nat), XVL nf ι w M l cs O → ∀ b ∈ O, M b
  | [], _, _, ⟨_, e⟩ => by subst e; simp
  | v :: l, _, _, ⟨c, cs', O1, O2, e, e2, h1, h2⟩ => by
    subst e2
    intro x hx
    rcases List.mem_append.1 hx with hx | hx
    · exact XV.inM v c O1 h1 x hx
    · exact XVL.inM l cs' O2 h2 x hx
theorem XVM.inM {ι : Iota} {w : World} {M : Nat → Prop} (b : Nat) : ∀ (l : List V) (o : Nat) (O : List Nat), XVM nf ι w M b l o O → ∀ b ∈ O, M b
  | [], _, _, e => by have e : _ = [] := e; subst e; simp
  | v :: l, o, _, ⟨_, O1, O2, e2, ⟨c, hc, h1⟩, h2⟩ => by
    subst e2
    intro x hx
    rcases List.mem_append.1 hx with hx | hx
    · exact XV.inM v c O1 h1 x hx
    · exact XVM.inM b l (o + 1) O2 h2 x hx
end

theorem thawL_length {d ver : Nat} : ∀ (l : List V) (j : Nat) (h : Heap), (thawL d ver l j h).1.length = l.length
  | [], _, _ => rfl
  | x :: l, j, h => by simp [thawL, thawL_length l]

theorem thaw_one {d ver : Nat} (x : V) (j : Nat) (h : Heap) : (thaw d ver x j h).1.one = x.one := by cases x <;> simp [thaw, V.one]
theorem thawL_one {d ver : Nat} : ∀ (l : List V) (j : Nat) (h : Heap), (thawL d ver l j h).1.all V.one = l.all V.one
  | [], _, _ => rfl
  | x :: l, j, h => by simp [thawL, thawL_one l, thaw_one]

/- What is closed goes over every border. -/
mutual
theorem DC.toDV {ι : Iota} {w : World} {M : Nat → Prop} : ∀ (v : V) (c : Value), DC nf w M v c → DV nf ι w M v c
  | .int _ _, _, h => h
  | .bool _, _, h => h
  | .sym _ _ _ _ _ _, _, h => h
  | .e _, _, h => h
  | .agg l, c, ⟨ho, cs, e, h⟩ => ⟨ho, cs, e, DCL.toDV l cs h⟩
  | .tup l, c, ⟨cs, e, h⟩ => ⟨cs, e, DCL.toDV l cs h⟩
  | .sl _, _, h => h
  | .iptr _ _, _, h => h
  | .fn f first caps, c, ⟨g, fs, cs, hg, e, h1, h2⟩ => ⟨g, fs, cs, hg, e, DCL.toDV first fs h1, DCL.toDV caps cs h2⟩
  | .fresh _, _, h => h.elim
  | .own _ _ _ _ _, _, h => h.elim
  | .ptr _ _ _ _ _, _, h => h.elim
  | .pbox _ _, _, h => h.elim
  | .fmap _ _, _, h => h.elim
  | .spare _, _, h => h.elim
  | .map _ _ _, _, h => h.elim
  | .any, _, h => h.elim
theorem DCL.toDV {ι : Iota} {w : World} {M : Nat → Prop} : ∀ (l : List V) (cs : List Value), DCL nf w M l cs → DVL nf ι w M l cs
  | [], _, h => h
  | v :: l, _, ⟨c, cs', e, h1, h2⟩ => ⟨c, cs', e, DC.toDV v c h1, DCL.toDV l cs' h2⟩
end

theorem DVE.zip {ι : Iota} {w : World} {M : Nat → Prop} : ∀ (ks vs : List V) (es : List MapEntry), DCL nf w M ks (es.map (·.key)) → DCL nf w M vs (es.map (·.val)) → DVE nf ι w M (ks.zip vs) es
  | [], vs, es, h, _ => by
    have h : es.map (·.key) = [] := h
    have := List.map_eq_nil_iff.1 h
    subst this
    rfl
  | k :: ks, vs, es, ⟨c, cs, e, h1, h2⟩, h => by
    cases es with
    | nil => cases e
    | cons x es =>
      simp only [List.map_cons, List.cons.injEq] at e
      obtain ⟨rfl, rfl⟩ := e
      cases vs with
      | nil => cases h
      | cons v vs =>
        obtain ⟨c', cs', e', h3, h4⟩ := h
        simp only [List.map_cons, List.cons.injEq] at e'
        obtain ⟨rfl, rfl⟩ := e'
        exact ⟨x, es, rfl, h1, DC.toDV v _ h3, DVE.zip ks vs es h2 h4⟩

mutual
theorem thaw_ok {B : Base} {w : World} {M : Nat → Prop} {d ver : Nat} : ∀ (x : V) (c : Value) (O : List Nat) (j : Nat) (h : Heap) (ι : Iota),
    Mem nf B ι M h w → XV nf ι w M x c O → O.Nodup → (∀ b ∈ O, ∀ d' v' j', ¬ Owns h ι d' v' j' b) → (∀ b ∈ O, b ∈ B.S0 ∨ B.w0.heap.size ≤ b) →
    Free h ι d ver j → ver < h.cnt d →
    ∃ ι', Thawed (nf := nf) B w M d ver O j h ι (thaw d ver x j h).2.1 (thaw d ver x j h).2.2 ι' ∧ DV nf ι' w M (thaw d ver x j h).1 c
  | .int k n, c, O, j, h, ι, m, ⟨e, hx⟩, _, _, _, f, _ => by subst e; exact ⟨ι, Thawed.same m f, hx⟩
  | .bool b, c, O, j, h, ι, m, ⟨e, hx⟩, _, _, _, f, _ => by subst e; exact ⟨ι, Thawed.same m f, hx⟩
  | .sym _ _ _ _ _ _, c, O, j, h, ι, m, ⟨e, hx⟩, _, _, _, f, _ => by subst e; exact ⟨ι, Thawed.same m f, hx⟩
  | .e b, c, O, j, h, ι, m, ⟨e, hx⟩, _, _, _, f, _ => by subst e; exact ⟨ι, Thawed.same m f, hx⟩
  | .sl r, c, O, j, h, ι, m, ⟨e, hx⟩, _, _, _, f, _ => by subst e; exact ⟨ι, Thawed.same m f, hx⟩
  | .iptr r o, c, O, j, h, ι, m, ⟨e, hx⟩, _, _, _, f, _ => by subst e; exact ⟨ι, Thawed.same m f, hx⟩
  | .fn a b s, c, O, j, h, ι, m, ⟨e, hx⟩, _, _, _, f, _ => by subst e; exact ⟨ι, Thawed.same m f, hx⟩
  | .own a b s t u, c, O, j, h, ι, m, ⟨e, hx⟩, _, _, _, f, _ => by subst e; exact ⟨ι, Thawed.same m f, hx⟩
  | .ptr a b s t u, c, O, j, h, ι, m, ⟨e, hx⟩, _, _, _, f, _ => by subst e; exact ⟨ι, Thawed.same m f, hx⟩
  | .map a b s, c, O, j, h, ι, m, ⟨e, hx⟩, _, _, _, f, _ => by subst e; exact ⟨ι, Thawed.same m f, hx⟩
  | .any, c, O, j, h, ι, m, hx, _, _, _, f, _ => by have hx : O = [] := hx; subst hx; exact ⟨ι, Thawed.same m f, trivial⟩
  | .agg l, c, O, j, h, ι, m, ⟨ho, cs, e, hx⟩, hn, hd, hm, f, hc => by
    obtain ⟨ι', t, hv⟩ := thawL_ok l cs O j h ι m hx hn hd hm f hc
    exact ⟨ι', t, by rw [thawL_one]; exact ho, cs, e, hv⟩
  | .tup l, c, O, j, h, ι, m, ⟨cs, e, hx⟩, hn, hd, hm, f, hc => by
    obtain ⟨ι', t, hv⟩ := thawL_ok l cs O j h ι m hx hn hd hm f hc
    exact ⟨ι', t, cs, e, hv⟩
  | .fresh rows, c, O, j, h, ι, m, hx, hn, hd, hm, f, hc => by
    rcases hx with ⟨h1, h2, a, h3⟩ | ⟨hne, b, o, n, cap, e, N, h1, h2, h3, h4, h5, h6, h7, h8⟩
    · subst h1 h2
      refine ⟨iset ι d ver j .nil, Thawed.one m f hc (.inl ⟨iset_eq .., rfl⟩) ?_ hd hm, .inl ⟨iset_eq .., rfl, rfl, a, h3⟩⟩
      rintro b ⟨o, n, t, e⟩; rw [iset_eq] at e; cases e
    · subst h3
      have hmul : rows.length * n ≤ cap * n := Nat.mul_le_mul_right n h2
      refine ⟨iset ι d ver j (.pl b o n rows.length), Thawed.one m f hc (.inr ⟨hne, b, o, n, e, N, iset_eq .., h4, h5, h6, by omega, h8⟩) ?_ hd hm,
        .inr ⟨b, o, n, rows.length, _, cap, e, N, iset_eq .., h1, h2, by omega, by omega, .inl (by simp), h6, by rw [Nat.zero_add]; exact h7⟩⟩
      rintro b' ⟨o', n', t, e⟩; rw [iset_eq] at e; cases e; simp
  | .spare rows, c, O, j, h, ι, m, hx, hn, hd, hm, f, hc => by
    obtain ⟨hne, b, o, n, cap, e, N, h1, h2, h3, h4, h5, h6, h7, h8⟩ := hx
    subst h3
    have hmul : rows.length * n ≤ cap * n := Nat.mul_le_mul_right n h2
    refine ⟨iset ι d ver j (.pl b o n rows.length), Thawed.one m f hc (.inr ⟨hne, b, o, n, e, N, iset_eq .., h4, h5, h6, by omega, h8⟩) ?_ hd hm,
      .inr ⟨b, o, n, rows.length, _, cap, e, N, iset_eq .., h1, Nat.zero_le _, by omega, by omega, .inl (by simp), h6, by rw [Nat.zero_add]; exact h7⟩⟩
    rintro b' ⟨o', n', t, e⟩; rw [iset_eq] at e; cases e; simp
  | .fmap ks vs, c, O, j, h, ι, m, hx, hn, hd, hm, f, hc => by
    obtain ⟨b, es, clk, h1, h2, h3, h4, h5, h6⟩ := hx
    subst h2
    refine ⟨iset ι d ver j (.mp b), Thawed.one m f hc ⟨b, _, clk, iset_eq .., h3, h4, DVE.zip ks vs es.toList h5 h6⟩ ?_ hd hm, b, iset_eq .., h1⟩
    intro b' e; have e : iset ι d ver j (.mp b) d ver j = some (.mp b') := e; rw [iset_eq] at e; cases e; simp
  | .pbox row off, c, O, j, h, ι, m, hx, hn, hd, hm, f, hc => by
    obtain ⟨b, o, O', h1, h2, h3, h4, h5, h6⟩ := hx
    subst h2
    have hn' := List.nodup_cons.1 hn
    obtain ⟨ι1, t1, hv1⟩ := thawM_ok row b o O' (j + 1) h ι m h6 hn'.2 (fun x hx => hd x (by simp [hx])) (fun x hx => hm x (by simp [hx])) (fun j' hj => f j' (by omega)) hc
    have hlen : (thawL d ver row (j + 1) h).1.length = row.length := thawL_length row (j + 1) h
    have hfree : (thawL d ver row (j + 1) h).2.2.bl d ver j = .dead ∧ ι1 d ver j = none := by
      have r := t1.rest d ver j (by omega)
      have fj := f j (Nat.le_refl _)
      exact ⟨r.1.trans fj.1, r.2.trans fj.2⟩
    have hno : ∀ d' v' j', ¬ Owns (thawL d ver row (j + 1) h).2.2 ι1 d' v' j' b := by
      intro d' v' j' o'
      rcases t1.owns _ _ _ _ o' with o' | o'
      · exact hd b (by simp) _ _ _ o'
      · exact hn'.1 o'
    have hle := iset_le (l := .pl b o row.length 1) hfree.2
    refine ⟨iset ι1 d ver j (.pl b o row.length 1), ⟨Iota.le_trans t1.le hle, ?_, ?_, t1.cnt, ?_, ?_, ?_⟩, b, o, row.length, 1, iset_eq .., by rw [h1]; simp⟩
    · refine t1.mem.add hfree.1 hfree.2 (by rw [t1.cnt]; exact hc) ⟨b, o, by rw [iset_eq, hlen], h3, h4, h5, DVM.staysB (Stays.refl w M) hle b rfl _ _ hv1⟩ ?_
      rintro b' ⟨o', n', t, e⟩; rw [iset_eq] at e; cases e
      exact ⟨hno, hm b (by simp)⟩
    · intro j' hj
      have hj2 : (thawL d ver row (j + 1) h).2.1 ≤ j' := hj
      have := t1.jle
      have ne : ¬ (d = d ∧ ver = ver ∧ j' = j) := by omega
      show ((thawL d ver row (j + 1) h).2.2.set d ver j _).bl d ver j' = _ ∧ _
      rw [Heap.set_bl, if_neg ne]; unfold iset; rw [if_neg ne]
      exact t1.free j' hj2
    · have := t1.jle; show j ≤ (thawL d ver row (j + 1) h).2.1; omega
    · intro d' v' j'' x o'
      by_cases e : d' = d ∧ v' = ver ∧ j'' = j
      · obtain ⟨rfl, rfl, rfl⟩ := e
        obtain ⟨o2, n2, t2, e⟩ := owns_set_self o'
        rw [iset_eq] at e; cases e; exact .inr (by simp)
      · rcases t1.owns _ _ _ _ ((Owns.set e).1 o') with o' | o'
        · exact .inl o'
        · exact .inr (by simp [o'])
    · intro d' v' j'' ne
      have ne' : ¬ (d' = d ∧ v' = ver ∧ j'' = j) := by rintro ⟨rfl, rfl, rfl⟩; exact ne ⟨rfl, rfl, Nat.le_refl _⟩
      have r := t1.rest d' v' j'' (by rintro ⟨e1, e2, e3⟩; exact ne ⟨e1, e2, by omega⟩)
      show ((thawL d ver row (j + 1) h).2.2.set d ver j _).bl d' v' j'' = _ ∧ _
      rw [Heap.set_bl, if_neg ne']; unfold iset; rw [if_neg ne']
      exact r
theorem thawL_ok {B : Base} {w : World} {M : Nat → Prop} {d ver : Nat} : ∀ (x : List V) (cs : List Value) (O : List Nat) (j : Nat) (h : Heap) (ι : Iota),
    Mem nf B ι M h w → XVL nf ι w M x cs O → O.Nodup → (∀ b ∈ O, ∀ d' v' j', ¬ Owns h ι d' v' j' b) → (∀ b ∈ O, b ∈ B.S0 ∨ B.w0.heap.size ≤ b) →
    Free h ι d ver j → ver < h.cnt d →
    ∃ ι', Thawed (nf := nf) B w M d ver O j h ι (thawL d ver x j h).2.1 (thawL d ver x j h).2.2 ι' ∧ DVL nf ι' w M (thawL d ver x j h).1 cs
  | [], cs, O, j, h, ι, m, ⟨h1, h2⟩, _, _, _, f, _ => by subst h2; exact ⟨ι, Thawed.same m f, h1⟩
  | x :: l, cs, O, j, h, ι, m, hx, hn, hd, hm, f, hc => by
    obtain ⟨c, cs', O1, O2, e, e2, h1, h2⟩ := hx
    subst e2
    have hn' := List.nodup_append.1 hn
    obtain ⟨ι1, t1, v1⟩ := thaw_ok x c O1 j h ι m h1 hn'.1 (fun b hb => hd b (by simp [hb])) (fun b hb => hm b (by simp [hb])) f hc
    have h2' : XVL nf ι1 w M l cs' O2 := XVL.stays (Stays.refl w M) t1.le l cs' O2 (fun b hb => ⟨rfl, XVL.inM l cs' O2 h2 b hb⟩) h2
    obtain ⟨ι2, t2, v2⟩ := thawL_ok l cs' O2 (thaw d ver x j h).2.1 (thaw d ver x j h).2.2 ι1 t1.mem h2' hn'.2.1
      (fun b hb d' v' j' o => by
        rcases t1.owns _ _ _ _ o with o | o
        · exact hd b (by simp [hb]) _ _ _ o
        · exact hn'.2.2 b o b hb rfl) (fun b hb => hm b (by simp [hb])) t1.free (by rw [t1.cnt]; exact hc)
    exact ⟨ι2, t1.trans t2, c, cs', e, DV.stays (Stays.refl w M) t2.le _ _ v1, v2⟩
theorem thawM_ok {B : Base} {w : World} {M : Nat → Prop} {d ver : Nat} : ∀ (x : List V) (b o : Nat) (O : List Nat) (j : Nat) (h : Heap) (ι : Iota),
    Mem nf B ι M h w → XVM nf ι w M b x o O → O.Nodup → (∀ b ∈ O, ∀ d' v' j', ¬ Owns h ι d' v' j' b) → (∀ b ∈ O, b ∈ B.S0 ∨ B.w0.heap.size ≤ b) →
    Free h ι d ver j → ver < h.cnt d →
    ∃ ι', Thawed (nf := nf) B w M d ver O j h ι (thawL d ver x j h).2.1 (thawL d ver x j h).2.2 ι' ∧ DVM nf ι' w M b (thawL d ver x j h).1 o
  | [], b, o, O, j, h, ι, m, hx, _, _, _, f, _ => by have hx : O = [] := hx; subst hx; exact ⟨ι, Thawed.same m f, trivial⟩
  | x :: l, b, o, O, j, h, ι, m, hx, hn, hd, hm, f, hc => by
    obtain ⟨ho, O1, O2, e2, ⟨c, hcell, h1⟩, h2⟩ := hx
    subst e2
    have hn' := List.nodup_append.1 hn
    obtain ⟨ι1, t1, v1⟩ := thaw_ok x c O1 j h ι m h1 hn'.1 (fun b hb => hd b (by simp [hb])) (fun b hb => hm b (by simp [hb])) f hc
    have h2' : XVM nf ι1 w M b l (o + 1) O2 := XVM.stays (Stays.refl w M) t1.le b rfl l (o + 1) O2 (fun b' hb => ⟨rfl, XVM.inM b l (o + 1) O2 h2 b' hb⟩) h2
    obtain ⟨ι2, t2, v2⟩ := thawM_ok l b (o + 1) O2 (thaw d ver x j h).2.1 (thaw d ver x j h).2.2 ι1 t1.mem h2' hn'.2.1
      (fun b hb d' v' j' o => by
        rcases t1.owns _ _ _ _ o with o | o
        · exact hd b (by simp [hb]) _ _ _ o
        · exact hn'.2.2 b o b hb rfl) (fun b hb => hm b (by simp [hb])) t1.free (by rw [t1.cnt]; exact hc)
    exact ⟨ι2, t1.trans t2, by rw [thaw_one]; exact ho, ⟨c, hcell, DV.stays (Stays.refl w M) t2.le _ _ v1⟩, v2⟩
end

end
end Fo
