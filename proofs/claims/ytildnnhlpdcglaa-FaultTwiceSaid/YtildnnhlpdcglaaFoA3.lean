/-
  What a value without memory stands for in the model's memory (part 3).
-/
import Derived.Test.YtildnnhlpdcglaaFoA2
import Derived.Below
namespace Fo
open Go
set_option linter.unusedVariables false

inductive Loc where
  | nil
  | pl (b o n tot : Nat)
  | mp (b : Nat)

abbrev Iota := Nat → Nat → Nat → Option Loc

/-- No cell of a block is frozen. -/
def NF (w : World) (b : Nat) : Prop := ∀ o, w.frozen? ⟨b, o, none⟩ = false

/-- A slice of nothing: nil, or not. -/
def EV : Bool → Value → Prop
  | true, c => c = .slice none 0 0
  | false, c => ∃ a cap, c = .slice (some a) 0 cap

/-- A number that is not told. -/
def SymV (nf : Nm) (k : IntKind) (e : SE) (lo hi m r : Int) (c : Value) : Prop := c = .int k (evalE nf e) ∧ lo ≤ evalE nf e ∧ evalE nf e ≤ hi ∧ evalE nf e % m = r

section
variable (nf : Nm)

mutual
def DC (w : World) (M : Nat → Prop) : V → Value → Prop
  | .int k n, c => c = .int k n
  | .e n, c => EV n c
  | .bool b, c => c = .bool b
  | .sym k e lo hi m r, c => SymV nf k e lo hi m r c
  | .agg l, c => l.all V.one = true ∧ ∃ cs : List Value, c = .agg cs.toArray ∧ DCL w M l cs
  | .tup l, c => ∃ cs : List Value, c = .tuple cs.toArray ∧ DCL w M l cs
  | .sl rows, c => ∃ a cap, c = .slice a rows.length cap ∧ rows.length ≤ cap ∧ (a = none → cap = 0) ∧
      (rows = [] ∨ ∃ b o n, a = some ⟨b, o, none⟩ ∧ ¬ M b ∧ b < w.heap.size ∧ DCR w M b n rows o)
  | .iptr row off, c => ∃ b o, c = .pointer (some ⟨b, o + off, none⟩) ∧ ¬ M b ∧ b < w.heap.size ∧ DCM w M b row o
  | .fn f first caps, c => ∃ g fs cs, nf f = some g ∧ c = .func (.func g) (List.toArray fs) (List.toArray cs) ∧ DCL w M first fs ∧ DCL w M caps cs
  | _, _ => False
def DCL (w : World) (M : Nat → Prop) : List V → List Value → Prop
  | [], cs => cs = []
  | v :: l, cs => ∃ c cs', cs = c :: cs' ∧ DC w M v c ∧ DCL w M l cs'
def DCM (w : World) (M : Nat → Prop) (b : Nat) : List V → Nat → Prop
  | [], _ => True
  | v :: l, o => v.one = true ∧ (∃ c, w.cell? ⟨b, o, none⟩ = some c ∧ DC w M v c) ∧ DCM w M b l (o + 1)
def DCR (w : World) (M : Nat → Prop) (b n : Nat) : List (List V) → Nat → Prop
  | [], _ => True
  | r :: rows, o => r.length = n ∧ DCM w M b r o ∧ DCR w M b n rows (o + n)
end

mutual
def DV (ι : Iota) (w : World) (M : Nat → Prop) : V → Value → Prop
  | .agg l, c => l.all V.one = true ∧ ∃ cs : List Value, c = .agg cs.toArray ∧ DVL ι w M l cs
  | .tup l, c => ∃ cs : List Value, c = .tuple cs.toArray ∧ DVL ι w M l cs
  | .fn f first caps, c => ∃ g fs cs, nf f = some g ∧ c = .func (.func g) (List.toArray fs) (List.toArray cs) ∧ DVL ι w M first fs ∧ DVL ι w M caps cs
  | .own d v j fr len, c =>
    (ι d v j = some .nil ∧ fr = 0 ∧ len = 0 ∧ ∃ a, c = .slice a 0 0) ∨
    ∃ b o n tot a cap e N, ι d v j = some (.pl b o n tot) ∧ c = .slice a len cap ∧ len ≤ cap ∧ fr + len ≤ tot ∧ tot ≤ fr + cap ∧ (a = some ⟨b, o + fr * n, none⟩ ∨ cap = 0) ∧
      w.shape? b = some (e, N) ∧ o + (fr + cap) * n ≤ N
  | .ptr d v j row off, c => ∃ b o n tot, ι d v j = some (.pl b o n tot) ∧ c = .pointer (some ⟨b, o + row * n + off, none⟩)
  | .map d v j, c => ∃ b, ι d v j = some (.mp b) ∧ c = .map (some b)
  | .int k n, c => c = .int k n
  | .e n, c => EV n c
  | .bool b, c => c = .bool b
  | .sym k e lo hi m r, c => SymV nf k e lo hi m r c
  | .sl rows, c => DC nf w M (.sl rows) c
  | .iptr row off, c => DC nf w M (.iptr row off) c
  | .fresh rows, c => rows = [] ∧ ∃ a, c = .slice a 0 0
  | .any, _ => True
  | _, _ => False
def DVL (ι : Iota) (w : World) (M : Nat → Prop) : List V → List Value → Prop
  | [], cs => cs = []
  | v :: l, cs => ∃ c cs', cs = c :: cs' ∧ DV ι w M v c ∧ DVL ι w M l cs'
end

def DVM (ι : Iota) (w : World) (M : Nat → Prop) (b : Nat) : List V → Nat → Prop
  | [], _ => True
  | v :: l, o => v.one = true ∧ (∃ c, w.cell? ⟨b, o, none⟩ = some c ∧ DV nf ι w M v c) ∧ DVM ι w M b l (o + 1)

def DVE (ι : Iota) (w : World) (M : Nat → Prop) : List (V × V) → List MapEntry → Prop
  | [], es => es = []
  | (k, v) :: l, es => ∃ e es', es = e :: es' ∧ DC nf w M k e.key ∧ DV nf ι w M v e.val ∧ DVE ι w M l es'

/- What is new, or goes over a call's border (there ι says nothing): O: the blocks that go with it. -/
mutual
def XV (ι : Iota) (w : World) (M : Nat → Prop) : V → Value → List Nat → Prop
  | .agg l, c, O => l.all V.one = true ∧ ∃ cs : List Value, c = .agg cs.toArray ∧ XVL ι w M l cs O
  | .tup l, c, O => ∃ cs : List Value, c = .tuple cs.toArray ∧ XVL ι w M l cs O
  | .fresh rows, c, O =>
    (rows = [] ∧ O = [] ∧ ∃ a, c = .slice a 0 0) ∨
    rows ≠ [] ∧ ∃ b o n cap e N, c = .slice (some ⟨b, o, none⟩) rows.length cap ∧ rows.length ≤ cap ∧ O = [b] ∧ M b ∧ NF w b ∧
      w.shape? b = some (e, N) ∧ o + cap * n ≤ N ∧ DCR nf w M b n rows o
  | .pbox row off, c, O => ∃ b o O', c = .pointer (some ⟨b, o + off, none⟩) ∧ O = b :: O' ∧ M b ∧ b < w.heap.size ∧ NF w b ∧ XVM ι w M b row o O'
  | .spare rows, c, O => rows ≠ [] ∧ ∃ b o n cap e N, c = .slice (some ⟨b, o, none⟩) 0 cap ∧ rows.length ≤ cap ∧ O = [b] ∧ M b ∧ NF w b ∧
      w.shape? b = some (e, N) ∧ o + cap * n ≤ N ∧ DCR nf w M b n rows o
  | .fmap ks vs, c, O => ∃ b es clk, c = .map (some b) ∧ O = [b] ∧ M b ∧ w.heap[b]? = some (.map es clk) ∧ DCL nf w M ks (es.toList.map (·.key)) ∧ DCL nf w M vs (es.toList.map (·.val))
  | .int k n, c, O => O = [] ∧ c = .int k n
  | .bool b, c, O => O = [] ∧ c = .bool b
  | .sym k e lo hi m r, c, O => O = [] ∧ SymV nf k e lo hi m r c
  | .e n, c, O => O = [] ∧ EV n c
  | .sl rows, c, O => O = [] ∧ DC nf w M (.sl rows) c
  | .iptr row off, c, O => O = [] ∧ DC nf w M (.iptr row off) c
  | .fn f first caps, c, O => O = [] ∧ DV nf ι w M (.fn f first caps) c
  | .own d v j fr len, c, O => O = [] ∧ DV nf ι w M (.own d v j fr len) c
  | .ptr d v j row off, c, O => O = [] ∧ DV nf ι w M (.ptr d v j row off) c
  | .map d v j, c, O => O = [] ∧ DV nf ι w M (.map d v j) c
  | .any, _, O => O = []
def XVL (ι : Iota) (w : World) (M : Nat → Prop) : List V → List Value → List Nat → Prop
  | [], cs, O => cs = [] ∧ O = []
  | v :: l, cs, O => ∃ c cs' O1 O2, cs = c :: cs' ∧ O = O1 ++ O2 ∧ XV ι w M v c O1 ∧ XVL ι w M l cs' O2
def XVM (ι : Iota) (w : World) (M : Nat → Prop) (b : Nat) : List V → Nat → List Nat → Prop
  | [], _, O => O = []
  | v :: l, o, O => v.one = true ∧ ∃ O1 O2, O = O1 ++ O2 ∧ (∃ c, w.cell? ⟨b, o, none⟩ = some c ∧ XV ι w M v c O1) ∧ XVM ι w M b l (o + 1) O2
end

/-- What others see stays: blocks that are not of M are as they were; what is of M' was of M, or is new. -/
structure Stays (w : World) (M : Nat → Prop) (w' : World) (M' : Nat → Prop) : Prop where
  size : w.heap.size ≤ w'.heap.size
  block : ∀ b, ¬ M b → b < w.heap.size → w'.heap[b]? = w.heap[b]?
  less : ∀ b, M' b → M b ∨ w.heap.size ≤ b
  shape : ∀ b, b < w.heap.size → w'.shape? b = w.shape? b

theorem Stays.refl (w : World) (M : Nat → Prop) : Stays w M w M := ⟨Nat.le_refl _, fun _ _ _ => rfl, fun _ h => .inl h, fun _ _ => rfl⟩

variable {nf}
theorem cell_stays {w w' : World} {b : Nat} (h : w'.heap[b]? = w.heap[b]?) (o : Nat) : w'.cell? ⟨b, o, none⟩ = w.cell? ⟨b, o, none⟩ :=
  World.cell?_of_block (w := w) (a := ⟨b, o, none⟩) h

mutual
theorem DC.stays {w w' : World} {M M' : Nat → Prop} (s : Stays w M w' M') : ∀ (v : V) (c : Value), DC nf w M v c → DC nf w' M' v c
  | .int _ _, _, h => h
  | .bool _, _, h => h
  | .sym _ _ _ _ _ _, _, h => h
  | .e _, _, h => h
  | .agg l, c, ⟨ho, cs, e, h⟩ => ⟨ho, cs, e, DCL.stays s l cs h⟩
  | .tup l, c, ⟨cs, e, h⟩ => ⟨cs, e, DCL.stays s l cs h⟩
  | .sl rows, c, ⟨a, cap, e, hl, hz, h⟩ => ⟨a, cap, e, hl, hz, h.imp id fun ⟨b, o, n, ha, hm, hb, hr⟩ =>
      ⟨b, o, n, ha, fun hm' => (s.less b hm').elim hm (fun h => by omega), Nat.lt_of_lt_of_le hb s.size, DCR.stays s b n hm hb rows o hr⟩⟩
  | .iptr row off, c, ⟨b, o, e, hm, hb, hr⟩ => ⟨b, o, e, fun hm' => (s.less b hm').elim hm (fun h => by omega), Nat.lt_of_lt_of_le hb s.size, DCM.stays s b hm hb row o hr⟩
  | .fn f first caps, c, ⟨g, fs, cs, hg, e, h1, h2⟩ => ⟨g, fs, cs, hg, e, DCL.stays s first fs h1, DCL.stays s caps cs h2⟩
  | .fresh _, _, h => h.elim
  | .own _ _ _ _ _, _, h => h.elim
  | .ptr _ _ _ _ _, _, h => h.elim
  | .pbox _ _, _, h => h.elim
  | .fmap _ _, _, h => h.elim
  | .spare _, _, h => h.elim
  | .map _ _ _, _, h => h.elim
  | .any, _, h => h.elim
theorem DCL.stays {w w' : World} {M M' : Nat → Prop} (s : Stays w M w' M') : ∀ (l : List V) (cs : List Value), DCL nf w M l cs → DCL nf w' M' l cs
  | [], _, h => h
  | v :: l, _, ⟨c, cs', e, h1, h2⟩ => ⟨c, cs', e, DC.stays s v c h1, DCL.stays s l cs' h2⟩
theorem DCM.stays {w w' : World} {M M' : Nat → Prop} (s : Stays w M w' M') (b : Nat) (hm : ¬ M b) (hb : b < w.heap.size) :
    ∀ (l : List V) (o : Nat), DCM nf w M b l o → DCM nf w' M' b l o
  | [], _, _ => trivial
  | v :: l, o, ⟨ho, ⟨c, hc, h1⟩, h2⟩ => ⟨ho, ⟨c, by rw [cell_stays (s.block b hm hb)]; exact hc, DC.stays s v c h1⟩, DCM.stays s b hm hb l (o + 1) h2⟩
theorem DCR.stays {w w' : World} {M M' : Nat → Prop} (s : Stays w M w' M') (b n : Nat) (hm : ¬ M b) (hb : b < w.heap.size) :
    ∀ (rows : List (List V)) (o : Nat), DCR nf w M b n rows o → DCR nf w' M' b n rows o
  | [], _, _ => trivial
  | r :: rows, o, ⟨h1, h2, h3⟩ => ⟨h1, DCM.stays s b hm hb r o h2, DCR.stays s b n hm hb rows (o + n) h3⟩
end

/- The same of memory that is the frame's own: the block itself is as it was. -/
theorem DCM.staysB {w w' : World} {M M' : Nat → Prop} (s : Stays w M w' M') (b : Nat) (hb : w'.heap[b]? = w.heap[b]?) :
    ∀ (l : List V) (o : Nat), DCM nf w M b l o → DCM nf w' M' b l o
  | [], _, _ => trivial
  | v :: l, o, ⟨ho, ⟨c, hc, h1⟩, h2⟩ => ⟨ho, ⟨c, by rw [cell_stays hb]; exact hc, DC.stays s v c h1⟩, DCM.staysB s b hb l (o + 1) h2⟩
theorem DCR.staysB {w w' : World} {M M' : Nat → Prop} (s : Stays w M w' M') (b n : Nat) (hb : w'.heap[b]? = w.heap[b]?) :
    ∀ (rows : List (List V)) (o : Nat), DCR nf w M b n rows o → DCR nf w' M' b n rows o
  | [], _, _ => trivial
  | r :: rows, o, ⟨h1, h2, h3⟩ => ⟨h1, DCM.staysB s b hb r o h2, DCR.staysB s b n hb rows (o + n) h3⟩

def Iota.le (ι ι' : Iota) : Prop := ∀ d v j l, ι d v j = some l → ι' d v j = some l
theorem Iota.le_refl (ι : Iota) : Iota.le ι ι := fun _ _ _ _ h => h
theorem Iota.le_trans {a b c : Iota} (h : Iota.le a b) (k : Iota.le b c) : Iota.le a c := fun d v j l e => k d v j l (h d v j l e)

theorem shape_lt {w : World} {b : Nat} {x : TypeId × Nat} (h : w.shape? b = some x) : b < w.heap.size := by
  unfold World.shape? at h
  rcases Nat.lt_or_ge b w.heap.size with hb | hb
  · exact hb
  · rw [Array.getElem?_eq_none hb] at h; cases h

mutual
theorem DV.stays {ι ι' : Iota} {w w' : World} {M M' : Nat → Prop} (s : Stays w M w' M') (hι : Iota.le ι ι') : ∀ (v : V) (c : Value), DV nf ι w M v c → DV nf ι' w' M' v c
  | .int _ _, _, h => h
  | .bool _, _, h => h
  | .sym _ _ _ _ _ _, _, h => h
  | .e _, _, h => h
  | .agg l, c, ⟨ho, cs, e, h⟩ => ⟨ho, cs, e, DVL.stays s hι l cs h⟩
  | .tup l, c, ⟨cs, e, h⟩ => ⟨cs, e, DVL.stays s hι l cs h⟩
  | .fn f first caps, c, ⟨g, fs, cs, hg, e, h1, h2⟩ => ⟨g, fs, cs, hg, e, DVL.stays s hι first fs h1, DVL.stays s hι caps cs h2⟩
  | .sl rows, c, h => DC.stays s (.sl rows) c h
  | .iptr row off, c, h => DC.stays s (.iptr row off) c h
  | .own d v j fr len, c, h => by
    rcases h with ⟨h1, h2⟩ | ⟨b, o, n, tot, a, cap, e, N, h1, h2, h3, h4, h5, h6, h7, h8⟩
    · exact .inl ⟨hι _ _ _ _ h1, h2⟩
    · exact .inr ⟨b, o, n, tot, a, cap, e, N, hι _ _ _ _ h1, h2, h3, h4, h5, h6, by rw [s.shape b (shape_lt h7)]; exact h7, h8⟩
  | .ptr d v j row off, c, ⟨b, o, n, tot, h1, h2⟩ => ⟨b, o, n, tot, hι _ _ _ _ h1, h2⟩
  | .map d v j, c, ⟨b, h1, h2⟩ => ⟨b, hι _ _ _ _ h1, h2⟩
  | .fresh _, _, h => h
  | .pbox _ _, _, h => h.elim
  | .fmap _ _, _, h => h.elim
  | .spare _, _, h => h.elim
  | .any, _, h => h
theorem DVL.stays {ι ι' : Iota} {w w' : World} {M M' : Nat → Prop} (s : Stays w M w' M') (hι : Iota.le ι ι') : ∀ (l : List V) (cs : List Value), DVL nf ι w M l cs → DVL nf ι' w' M' l cs
  | [], _, h => h
  | v :: l, _, ⟨c, cs', e, h1, h2⟩ => ⟨c, cs', e, DV.stays s hι v c h1, DVL.stays s hι l cs' h2⟩
end

theorem DVM.staysB {ι ι' : Iota} {w w' : World} {M M' : Nat → Prop} (s : Stays w M w' M') (hι : Iota.le ι ι') (b : Nat) (hb : w'.heap[b]? = w.heap[b]?) :
    ∀ (l : List V) (o : Nat), DVM nf ι w M b l o → DVM nf ι' w' M' b l o
  | [], _, _ => trivial
  | v :: l, o, ⟨ho, ⟨c, hc, h1⟩, h2⟩ => ⟨ho, ⟨c, by rw [cell_stays hb]; exact hc, DV.stays s hι v c h1⟩, DVM.staysB s hι b hb l (o + 1) h2⟩

theorem DVE.stays {ι ι' : Iota} {w w' : World} {M M' : Nat → Prop} (s : Stays w M w' M') (hι : Iota.le ι ι') :
    ∀ (l : List (V × V)) (es : List MapEntry), DVE nf ι w M l es → DVE nf ι' w' M' l es
  | [], _, h => h
  | (k, v) :: l, _, ⟨e, es', h, h1, h2, h3⟩ => ⟨e, es', h, DC.stays s k _ h1, DV.stays s hι v _ h2, DVE.stays s hι l es' h3⟩

theorem NF.of {w w' : World} {b : Nat} (h : w'.heap[b]? = w.heap[b]?) (n : NF w b) : NF w' b := fun o => by
  rw [World.frozen?_of_block (w := w) (a := ⟨b, o, none⟩) h]; exact n o
theorem shape_of {w w' : World} {b : Nat} (h : w'.heap[b]? = w.heap[b]?) : w'.shape? b = w.shape? b := by
  unfold World.shape?; rw [h]

mutual
theorem XV.stays {ι ι' : Iota} {w w' : World} {M M' : Nat → Prop} (s : Stays w M w' M') (hι : Iota.le ι ι') :
    ∀ (v : V) (c : Value) (O : List Nat), (∀ b ∈ O, w'.heap[b]? = w.heap[b]? ∧ M' b) → XV nf ι w M v c O → XV nf ι' w' M' v c O
  | .int _ _, _, _, _, h => h
  | .bool _, _, _, _, h => h
  | .sym _ _ _ _ _ _, _, _, _, h => h
  | .e _, _, _, _, h => h
  | .agg l, c, O, k, ⟨ho, cs, e, h⟩ => ⟨ho, cs, e, XVL.stays s hι l cs O k h⟩
  | .tup l, c, O, k, ⟨cs, e, h⟩ => ⟨cs, e, XVL.stays s hι l cs O k h⟩
  | .fn f first caps, c, O, k, ⟨h, h'⟩ => ⟨h, DV.stays s hι _ _ h'⟩
  | .sl rows, c, O, k, ⟨h, h'⟩ => ⟨h, DC.stays s (.sl rows) c h'⟩
  | .iptr row off, c, O, k, ⟨h, h'⟩ => ⟨h, DC.stays s (.iptr row off) c h'⟩
  | .own d v j fr len, c, O, k, ⟨h, h'⟩ => ⟨h, DV.stays s hι _ _ h'⟩
  | .ptr d v j row off, c, O, k, ⟨h, h'⟩ => ⟨h, DV.stays s hι _ _ h'⟩
  | .map d v j, c, O, k, ⟨h, h'⟩ => ⟨h, DV.stays s hι _ _ h'⟩
  | .fresh rows, c, O, k, h => by
    rcases h with h | ⟨hne, b, o, n, cap, e, N, h1, h2, rfl, h4, h5, h6, h7, h8⟩
    · exact .inl h
    · have kb := k b (by simp)
      exact .inr ⟨hne, b, o, n, cap, e, N, h1, h2, rfl, kb.2, h5.of kb.1, by rw [shape_of kb.1]; exact h6, h7, DCR.staysB s b n kb.1 rows o h8⟩
  | .pbox row off, c, O, k, ⟨b, o, O', h1, h2, h3, h4, h5, h6⟩ => by
    subst h2
    have kb := k b (by simp)
    exact ⟨b, o, O', h1, rfl, kb.2, Nat.lt_of_lt_of_le h4 s.size, h5.of kb.1, XVM.stays s hι b kb.1 row o O' (fun x hx => k x (by simp [hx])) h6⟩
  | .spare rows, c, O, k, h => by
    obtain ⟨hne, b, o, n, cap, e, N, h1, h2, rfl, h4, h5, h6, h7, h8⟩ := h
    have kb := k b (by simp)
    exact ⟨hne, b, o, n, cap, e, N, h1, h2, rfl, kb.2, h5.of kb.1, by rw [shape_of kb.1]; exact h6, h7, DCR.staysB s b n kb.1 rows o h8⟩
  | .fmap ks vs, c, O, k, ⟨b, es, clk, h1, h2, h3, h4, h5, h6⟩ => by
    subst h2
    have kb := k b (by simp)
    exact ⟨b, es, clk, h1, rfl, kb.2, by rw [kb.1]; exact h4, DCL.stays s _ _ h5, DCL.stays s _ _ h6⟩
  | .any, _, _, _, h => h
theorem XVL.stays {ι ι' : Iota} {w w' : World} {M M' : Nat → Prop} (s : Stays w M w' M') (hι : Iota.le ι ι') :
    ∀ (l : List V) (cs : List Value) (O : List Nat), (∀ b ∈ O, w'.heap[b]? = w.heap[b]? ∧ M' b) → XVL nf ι w M l cs O → XVL nf ι' w' M' l cs O
  | [], _, _, _, h => h
  | v :: l, _, _, k, ⟨c, cs', O1, O2, e, h0, h1, h2⟩ => by
    subst h0
    exact ⟨c, cs', O1, O2, e, rfl, XV.stays s hι v c O1 (fun b hb => k b (by simp [hb])) h1, XVL.stays s hι l cs' O2 (fun b hb => k b (by simp [hb])) h2⟩
theorem XVM.stays {ι ι' : Iota} {w w' : World} {M M' : Nat → Prop} (s : Stays w M w' M') (hι : Iota.le ι ι') (b : Nat) (hb : w'.heap[b]? = w.heap[b]?) :
    ∀ (l : List V) (o : Nat) (O : List Nat), (∀ b ∈ O, w'.heap[b]? = w.heap[b]? ∧ M' b) → XVM nf ι w M b l o O → XVM nf ι' w' M' b l o O
  | [], _, _, _, h => h
  | v :: l, o, _, k, ⟨ho, O1, O2, h0, ⟨c, hc, h1⟩, h2⟩ => by
    subst h0
    exact ⟨ho, O1, O2, rfl, ⟨c, by rw [cell_stays hb]; exact hc, XV.stays s hι v c O1 (fun b hb => k b (by simp [hb])) h1⟩,
      XVM.stays s hι b hb l (o + 1) O2 (fun b hb => k b (by simp [hb])) h2⟩
end

end
end Fo
