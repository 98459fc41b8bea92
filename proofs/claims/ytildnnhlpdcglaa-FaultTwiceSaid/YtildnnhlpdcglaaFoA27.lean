/-
  Code (part 27).
-/
import Derived.Test.YtildnnhlpdcglaaFoA29
namespace Fo
open Go
set_option linter.unusedVariables false
set_option linter.unusedSimpArgs false

section
variable {P : Program} {nf : Nm} {abi : Abi} {N : Nat}

variable (P nf abi N)
/-- The machine's code is the model's. -/
inductive CodeFit : AC → Code → Prop where
  | skip : CodeFit .skip .skip
  | label (l : Nat) : CodeFit .skip (.label l)
  | reg {la : List AOp} {id : Nat} {ops : Array Oper} (h : OpsFit P nf abi N ops (List.range ops.size) la) : CodeFit (.reg la) (.region id ops false)
  | drw {la : List AOp} {id : Nat} {ops : Array Oper} (hm : P.follows .mixedOrders = true) (h : OpsFit P nf abi N ops (List.range ops.size) la) (ok : okDraw abi ops.toList la = true) : CodeFit (.drw la) (.region id ops true)
  | seq {a b : AC} {x y : Code} (h : CodeFit a x) (k : CodeFit b y) : CodeFit (.seq a b) (.seq x y)
  | cond {c : AOpd} {o : Operand} {a b : AC} {x y : Code} (hc : ∀ (B : Base) (ι : Iota) (M : Nat → Prop) (σ : St) (ac : Act) (w : World), RelS nf B N ι M σ ac w → DV nf ι w M (ev σ.env c) (ac.eval o)) (h : CodeFit a x) (k : CodeFit b y) : CodeFit (.cond c a b) (.cond o x y)
  | block {i : Nat} {a : AC} {x : Code} (h : CodeFit a x) : CodeFit (.block i a) (.block i x)
  | loop {a : AC} {x : Code} (h : CodeFit a x) : CodeFit (.loop a) (.loop x)
  | exit (i : Nat) : CodeFit (.exit i) (.exit i)
  | ret : CodeFit .ret .ret
variable {P nf abi N}

def AE.is : AE → Exit → Prop
  | .normal, .normal => True
  | .exit i, .exit j => i = j
  | .ret, .ret => True
  | _, _ => False

theorem AE.is_exit {e : AE} {i : Nat} (h : e.is (.exit i)) : e = .exit i := by
  cases e <;> simp only [AE.is] at h
  rw [h]

theorem AE.is_norm {e : AE} (h : e.is .normal) : e = .normal := by
  cases e <;> simp only [AE.is] at h
  rfl

def Post (B : Base) (e : AE) (σ' : St) : Exit → Act → World → Prop := fun x a w => e.is x ∧ ∃ ι M, RelS nf B N ι M σ' a w

/-- Within a loop. -/
def LW (P : Program) (c : Code) (Q : Exit → Act → World → Prop) (a : Act) (w : World) : Prop :=
  ∀ (b : Frame) (k : List Item) (cs : List Frame), ∃ e a' w', Q e a' w' ∧ Arrives P (lone (b.at a (.code c :: .inLoop c :: k)) cs w) b k cs e a' w'

theorem LW.wp {c : Code} {Q : Exit → Act → World → Prop} {a : Act} {w : World} (h : LW P c Q a w) : (Code.loop c).wp P Q a w :=
  fun b k cs => let ⟨e, a', w', q, r⟩ := h b k cs; ⟨e, a', w', q, .of_steps (.one step_loop) r⟩

theorem LW.of {c : Code} {Q : Exit → Act → World → Prop} {a : Act} {w : World} (h : c.wp P (Exit.then (LW P c Q) Q) a w) : LW P c Q a w := by
  intro b k cs
  obtain ⟨e, a₁, w₁, hq, harr⟩ := h b (.inLoop c :: k) cs
  cases e with
  | normal =>
    obtain ⟨e₂, a₂, w₂, hq₂, harr₂⟩ := hq b k cs
    exact ⟨e₂, a₂, w₂, hq₂, .of_steps (Steps.trans harr (.one step_inLoop)) harr₂⟩
  | exit id => exact ⟨_, a₁, w₁, hq, .pass (x := .inLoop c) rfl (fun _ _ => .inl (by simp)) harr⟩
  | goto l => exact ⟨_, a₁, w₁, hq, .pass (x := .inLoop c) rfl (fun _ _ => .inl (by simp)) harr⟩
  | ret => exact ⟨_, a₁, w₁, hq, .pass (x := .inLoop c) rfl (fun _ _ => .inl (by simp)) harr⟩
  | panic ch => exact ⟨_, a₁, w₁, hq, .pass (x := .inLoop c) rfl (fun _ _ => .inl (by simp)) harr⟩
  | outgrown => exact ⟨_, a₁, w₁, hq, .pass (x := .inLoop c) rfl (fun _ _ => .inl (by simp)) harr⟩

theorem code_ok {B : Base} {ac : AC} {σ σ' : St} {e : AE} (h : Ex abi (CallsOK P nf) ac σ e σ') :
    (∀ (c : Code) (ι : Iota) (M : Nat → Prop) (a : Act) (w : World), CodeFit P nf abi N ac c → RelS nf B N ι M σ a w → c.wp P (Post (nf := nf) (N := N) B e σ') a w) ∧
    (∀ (x : AC), ac = .loop x → ∀ (c : Code) (ι : Iota) (M : Nat → Prop) (a : Act) (w : World), CodeFit P nf abi N x c → RelS nf B N ι M σ a w → LW P c (Post (nf := nf) (N := N) B e σ') a w) := by
  induction h with
  | skip σ =>
    refine ⟨fun c ι M a w hf rel => ?_, fun x hx => by cases hx⟩
    cases hf
    · exact wp_skip ⟨trivial, ι, M, rel⟩
    · exact wp_label ⟨trivial, ι, M, rel⟩
  | reg ho =>
    refine ⟨fun c ι M a w hf rel => ?_, fun x hx => by cases hx⟩
    cases hf with
    | reg hfit => exact wp_region (ops_ok ho _ _ _ _ _ hfit rel (fun ι' M' a' w' r' => ⟨trivial, ι', M', r'⟩))
  | drw ho =>
    refine ⟨fun c ι M a w hf rel => ?_, fun x hx => by cases hx⟩
    cases hf with
    | drw hm hfit ok => exact draw_ok hm hfit ok (fun ι' M' a' w' r' => ⟨trivial, ι', M', r'⟩) ho rel
  | seq h k ih ik =>
    refine ⟨fun c ι M a w hf rel => ?_, fun x hx => by cases hx⟩
    cases hf with
    | seq hf hk =>
      refine wp_seq (wp_mono (ih.1 _ _ _ _ _ hf rel) ?_)
      rintro x a' w' ⟨hx, ι', M', rel'⟩
      cases x <;> simp only [AE.is] at hx
      exact ik.1 _ _ _ _ _ hk rel'
  | seqX h ne ih =>
    refine ⟨fun c ι M a w hf rel => ?_, fun x hx => by cases hx⟩
    cases hf with
    | seq hf hk =>
      refine wp_seq (wp_mono (ih.1 _ _ _ _ _ hf rel) ?_)
      rintro x a' w' hp
      have hx := hp.1
      cases x <;> first | exact hp | (rename_i e _; cases e <;> simp_all [AE.is])
  | cond t hc h ih =>
    refine ⟨fun c ι M a w hf rel => ?_, fun x hx => by cases hx⟩
    cases hf with
    | cond hcf hf hk =>
      have hd := hcf B ι M _ a w rel
      rw [hc] at hd
      refine wp_cond (t := t) hd ?_
      cases t
      · exact ih.1 _ _ _ _ _ hk rel
      · exact ih.1 _ _ _ _ _ hf rel
  | block h ne ih =>
    refine ⟨fun c ι M a w hf rel => ?_, fun x hx => by cases hx⟩
    cases hf with
    | block hf =>
      refine wp_block (wp_mono (ih.1 _ _ _ _ _ hf rel) ?_)
      rintro x a' w' hp
      have hx := hp.1
      cases x <;> try exact hp
      simp only [Exit.inBlock]
      split
      · rename_i hid
        subst hid
        exact absurd (AE.is_exit hx) ne
      · exact hp
  | blockX h ih =>
    refine ⟨fun c ι M a w hf rel => ?_, fun x hx => by cases hx⟩
    cases hf with
    | block hf =>
      refine wp_block (wp_mono (ih.1 _ _ _ _ _ hf rel) ?_)
      rintro x a' w' ⟨hx, r⟩
      cases x <;> simp only [AE.is] at hx
      subst hx
      simp only [Exit.inBlock, if_true]
      exact ⟨trivial, r⟩
  | @loop a0 s0 s1 s2 e0 h k ih ik =>
    have key : ∀ (x : AC), AC.loop a0 = .loop x → ∀ (c : Code) (ι : Iota) (M : Nat → Prop) (a : Act) (w : World), CodeFit P nf abi N x c → RelS nf B N ι M s0 a w → LW P c (Post (nf := nf) (N := N) B e0 s2) a w := by
      intro x hx c ι M a w hf rel
      cases hx
      refine LW.of (wp_mono (ih.1 _ _ _ _ _ hf rel) ?_)
      rintro y a' w' ⟨hy, ι', M', rel'⟩
      cases y <;> simp only [AE.is] at hy
      exact ik.2 _ rfl _ _ _ _ _ hf rel'
    refine ⟨fun c ι M a w hf rel => ?_, key⟩
    cases hf with
    | loop hf => exact (key _ rfl _ _ _ _ _ hf rel).wp
  | @loopX a0 s0 s1 e0 h ne ih =>
    have key : ∀ (x : AC), AC.loop a0 = .loop x → ∀ (c : Code) (ι : Iota) (M : Nat → Prop) (a : Act) (w : World), CodeFit P nf abi N x c → RelS nf B N ι M s0 a w → LW P c (Post (nf := nf) (N := N) B e0 s1) a w := by
      intro x hx c ι M a w hf rel
      cases hx
      refine LW.of (wp_mono (ih.1 _ _ _ _ _ hf rel) ?_)
      rintro y a' w' hp
      have hy := hp.1
      cases y <;> first | exact hp | (exact absurd (AE.is_norm hy) ne) | (cases e0 <;> simp_all [AE.is])
    refine ⟨fun c ι M a w hf rel => ?_, key⟩
    cases hf with
    | loop hf => exact (key _ rfl _ _ _ _ _ hf rel).wp
  | exit i σ =>
    refine ⟨fun c ι M a w hf rel => ?_, fun x hx => by cases hx⟩
    cases hf
    exact wp_exit ⟨rfl, ι, M, rel⟩
  | ret σ =>
    refine ⟨fun c ι M a w hf rel => ?_, fun x hx => by cases hx⟩
    cases hf
    exact wp_ret ⟨trivial, ι, M, rel⟩

end
end Fo
