/-
  Regions whose order is drawn (part 29).
-/
import Derived.Test.YtildnnhlpdcglaaFoA28
import Derived.Orders
namespace Fo
open Go
set_option linter.unusedVariables false
set_option linter.unusedSimpArgs false

def disj (a b : List Nat) : Bool := a.all fun x => !b.contains x

/-- They may change places. -/
def cf (abi : Abi) (a b : AOp) : Bool :=
  a.uw.all (fun x => a.u.contains x) && b.uw.all (fun x => b.u.contains x) && a.d != b.d && !(a.w && b.reads.contains a.d) && !(b.w && a.reads.contains b.d) &&
  (a.k.n || b.k.n || (K.l abi a.k && K.l abi b.k && !(b.u.contains a.d) && !(a.u.contains b.d) && disj (wrOf abi a) b.u && disj (wrOf abi b) a.u))

section
variable {abi : Abi} {Γ : Nat → List V → V → List (List V) → Prop}

theorem swap_quiet1 {a b : AOp} {σ σ1 σ2 : St} {u : V} (q : Quiet (abi := abi) (Γ := Γ) a σ σ1 u) (h2 : Step abi Γ b σ1 σ2) (hd : a.d ≠ b.d) (ha : a.w = true → a.d ∉ b.reads) (hb : b.w = true → b.d ∉ a.reads) :
    ∃ σ', Step abi Γ b σ σ' ∧ Step abi Γ a σ' σ2 := by
  obtain ⟨e1, q⟩ := q
  have s : Same b.reads σ1.env σ.env := by rw [e1]; intro t ht; exact ((Same.set (v := u) (e := σ.env) ha) t ht)
  obtain ⟨u2, e2, st⟩ := h2.env s
  have hh : σ1.h = σ.h := by rw [e1]
  rw [hh] at st
  refine ⟨_, st, ?_⟩
  have := q (setEnv σ.env b.w b.d u2) σ2.h (Same.set' hb)
  rw [e2, e1]
  simp only
  rw [setEnv_comm hd]
  exact this

theorem swap_quiet2 {a b : AOp} {σ σ1 σ2 : St} {u : V} (h1 : Step abi Γ a σ σ1) (q : Quiet (abi := abi) (Γ := Γ) b σ1 σ2 u) (hd : a.d ≠ b.d) (ha : a.w = true → a.d ∉ b.reads) (hb : b.w = true → b.d ∉ a.reads) :
    ∃ σ', Step abi Γ b σ σ' ∧ Step abi Γ a σ' σ2 := by
  obtain ⟨e2, q⟩ := q
  obtain ⟨u1, e1, st⟩ := h1.env (e' := setEnv σ.env b.w b.d u) (Same.set' hb)
  have s : Same b.reads σ1.env σ.env := by
    rw [e1]; intro t ht; exact ((Same.set (v := u1) (e := σ.env) ha) t ht)
  refine ⟨⟨setEnv σ.env b.w b.d u, σ.h⟩, q σ.env σ.h s, ?_⟩
  rw [e2, e1]
  simp only
  rw [setEnv_comm hd]
  exact st

theorem wr_sub {o : AOp} {d : Nat} (hs : ∀ x ∈ o.uw, x ∈ o.u) (h : d ∈ wrOf abi o) : d ∈ o.u := by
  unfold wrOf at h; split at h
  · cases h
  · exact hs d h

theorem swap_local {a b : AOp} {σ σ1 σ2 : St} {u1 u2 : V} (E1 : EStep (abi := abi) (Γ := Γ) a (wrOf abi a) σ σ1 u1) (E2 : EStep (abi := abi) (Γ := Γ) b (wrOf abi b) σ1 σ2 u2)
    (sa : ∀ x ∈ a.uw, x ∈ a.u) (sb : ∀ x ∈ b.uw, x ∈ b.u) (hd : a.d ≠ b.d) (ha : a.w = true → a.d ∉ b.reads) (hb : b.w = true → b.d ∉ a.reads) (h1 : a.d ∉ b.u) (h2 : b.d ∉ a.u) (h3 : ∀ d ∈ wrOf abi a, d ∉ b.u) (h4 : ∀ d ∈ wrOf abi b, d ∉ a.u) :
    ∃ σ', Step abi Γ b σ σ' ∧ Step abi Γ a σ' σ2 := by
  have cx : ∀ (m : Bool) (d e : Nat) (c : Nat → Nat), d ≠ e → cntf m d c e = c e := by
    intro m d e c h; cases m <;> simp [cntf, upd, Ne.symm h]
  have s : Same b.reads σ1.env σ.env := by
    rw [E1.env]; intro t ht; exact ((Same.set (v := u1) (e := σ.env) ha) t ht)
  have ag1 : Agree (b.d :: b.u) σ1.h σ.h := by
    intro d hd' v j
    refine (E1.out d ?_ v j).symm
    simp only [List.mem_cons, not_or]
    rcases List.mem_cons.1 hd' with rfl | hd'
    · exact ⟨fun e => hd e.symm, fun hw => h2 (wr_sub sa hw)⟩
    · exact ⟨fun e => h1 (e ▸ hd'), fun hw => h3 d hw hd'⟩
  obtain ⟨g1, s1, a1, o1, c1⟩ := E2.too σ.env σ.h s ag1 (by rw [E1.cnt, cx _ _ _ _ hd])
  have ag2 : Agree (a.d :: a.u) σ.h g1 := by
    intro d hd' v j
    refine o1 d ?_ v j
    simp only [List.mem_cons, not_or]
    rcases List.mem_cons.1 hd' with rfl | hd'
    · exact ⟨hd, fun hw => h1 (wr_sub sb hw)⟩
    · exact ⟨fun e => h2 (e ▸ hd'), fun hw => h4 d hw hd'⟩
  obtain ⟨g2, s2, a2, o2, c2⟩ := E1.too (setEnv σ.env b.w b.d u2) g1 (Same.set' hb) ag2 (by rw [c1, cx _ _ _ _ (Ne.symm hd)])
  refine ⟨_, s1, ?_⟩
  have hh : g2 = σ2.h := by
    refine Heap.ext' ?_ (fun d v j => ?_)
    · rw [c2, c1, E2.cnt, E1.cnt]
      cases a.k.makes <;> cases b.k.makes <;> simp only [cntf, if_true, Bool.false_eq_true, if_false]
      funext e
      simp only [upd]
      by_cases x : e = a.d
      · subst x; simp [hd]
      · by_cases y : e = b.d
        · subst y; simp [x, Ne.symm hd]
        · simp [x, y]
    · by_cases hin : d ∈ a.d :: wrOf abi a
      · rw [a2 d hin v j]
        refine (E2.out d ?_ v j).symm
        simp only [List.mem_cons, not_or]
        rcases List.mem_cons.1 hin with rfl | hin
        · exact ⟨hd, fun hw => h1 (wr_sub sb hw)⟩
        · exact ⟨fun e => h2 (e ▸ wr_sub sa hin), fun hw => h4 d hw (wr_sub sa hin)⟩
      · rw [o2 d hin v j]
        by_cases hin2 : d ∈ b.d :: wrOf abi b
        · exact a1 d hin2 v j
        · rw [o1 d hin2 v j, E2.out d hin2 v j, E1.out d hin v j]
  have he : σ2 = ⟨setEnv (setEnv σ.env b.w b.d u2) a.w a.d u1, σ2.h⟩ := by
    have : σ2 = ⟨σ2.env, σ2.h⟩ := rfl
    rw [this, E2.env, E1.env, setEnv_comm hd]
  rw [he, ← hh]
  exact s2

theorem swap {a b : AOp} {σ σ1 σ2 : St} (h1 : Step abi Γ a σ σ1) (h2 : Step abi Γ b σ1 σ2) (c : cf abi a b = true) : ∃ σ', Step abi Γ b σ σ' ∧ Step abi Γ a σ' σ2 := by
  simp only [cf, Bool.and_eq_true, Bool.or_eq_true, bne_iff_ne, ne_eq, Bool.not_eq_true', Bool.and_eq_false_imp, List.contains_eq_mem, decide_eq_false_iff_not] at c
  obtain ⟨⟨⟨⟨⟨sa, sb⟩, hd⟩, ha⟩, hb⟩, c⟩ := c
  have sa : ∀ x ∈ a.uw, x ∈ a.u := by simpa using sa
  have sb : ∀ x ∈ b.uw, x ∈ b.u := by simpa using sb
  have quietSkip : ∀ {o : AOp} {s : St}, guarded s.env o.g = some false → Quiet (abi := abi) (Γ := Γ) o s ⟨setEnv s.env o.w o.d unit, s.h⟩ unit :=
    fun hg => ⟨rfl, fun e' h' s => .skip (by rw [s.g]; exact hg)⟩
  by_cases na : a.k.n = true
  · obtain ⟨u, q⟩ := quiet_n na h1
    exact swap_quiet1 q h2 hd ha hb
  by_cases nb : b.k.n = true
  · obtain ⟨u, q⟩ := quiet_n nb h2
    exact swap_quiet2 h1 q hd ha hb
  rcases c with (c | c) | ⟨⟨⟨⟨⟨la, lb⟩, c1⟩, c2⟩, c3⟩, c4⟩
  · exact absurd c na
  · exact absurd c nb
  · have dj : ∀ {x y : List Nat}, disj x y = true → ∀ d ∈ x, d ∉ y := by
      intro x y h d hx hy
      simp only [disj, List.all_eq_true, Bool.not_eq_true', List.contains_eq_mem, decide_eq_false_iff_not] at h
      exact h d hx hy
    cases h1 with
    | skip hg => exact swap_quiet1 (quietSkip hg) h2 hd ha hb
    | cons r hg hr ht hw hf =>
      cases h2 with
      | skip hg2 => exact swap_quiet2 (.cons r hg hr ht hw hf) (quietSkip hg2) hd ha hb
      | cons r2 hg2 hr2 ht2 hw2 hf2 =>
        obtain ⟨u1, E1⟩ := estep la hg hr ht hw sa hf
        obtain ⟨u2, E2⟩ := estep lb hg2 hr2 ht2 hw2 sb hf2
        exact swap_local E1 E2 sa sb hd ha hb c1 c2 (dj c3) (dj c4)

/-- One that may change places with all ahead of it may come first. -/
theorem front {b : AOp} {l2 : List AOp} : ∀ {l1 : List AOp} {σ σ' : St}, (∀ x ∈ l1, cf abi x b = true) → DOps abi Γ (l1 ++ b :: l2) σ σ' → DOps abi Γ (b :: (l1 ++ l2)) σ σ'
  | [], σ, σ', _, h => h
  | a :: l1, σ, σ', c, h => by
    obtain ⟨σ1, s1, h1⟩ := h.step
    obtain ⟨σ2, s2, h2⟩ := (front (l1 := l1) (fun x hx => c x (by simp [hx])) h1).step
    obtain ⟨σ3, s3, s4⟩ := swap s1 s2 (c a (by simp))
    exact s3.ops (s4.ops h2)

end

/-- Who must come ahead of each. -/
def addAll (l : List Nat) : List Nat → List Nat
  | [] => l
  | x :: xs => addAll (if l.contains x then l else x :: l) xs
def ancOf (acc : List (List Nat)) : List Edge → List Nat → List Nat
  | [], l => l
  | e :: es, l => ancOf acc es (if Region.binds .any e then addAll l (e.on :: acc.getD e.on []) else l)
def ancs : List Oper → List (List Nat) → List (List Nat)
  | [], acc => acc
  | o :: rest, acc => ancs rest (acc ++ [ancOf acc o.after.toList []])

theorem mem_addAll {x : Nat} : ∀ (xs l : List Nat), x ∈ addAll l xs → x ∈ l ∨ x ∈ xs
  | [], l, h => .inl h
  | y :: ys, l, h => by
    rcases mem_addAll ys _ h with h | h
    · split at h
      · exact .inl h
      · rcases List.mem_cons.1 h with rfl | h
        · exact .inr (by simp)
        · exact .inl h
    · exact .inr (by simp [h])
theorem mem_ancOf {x : Nat} {acc : List (List Nat)} : ∀ (es : List Edge) (l : List Nat), x ∈ ancOf acc es l → x ∈ l ∨ ∃ e ∈ es, Region.binds .any e = true ∧ (e.on = x ∨ x ∈ acc.getD e.on [])
  | [], l, h => .inl h
  | e :: es, l, h => by
    rcases mem_ancOf es _ h with h | ⟨e', he, hb⟩
    · split at h
      · rename_i hb
        rcases mem_addAll _ _ h with h | h
        · exact .inl h
        · rcases List.mem_cons.1 h with h | h
          · exact .inr ⟨e, by simp, hb, .inl h.symm⟩
          · exact .inr ⟨e, by simp, hb, .inr h⟩
      · exact .inl h
    · exact .inr ⟨e', by simp [he], hb⟩

def Good (ops : List Oper) (A : List (List Nat)) (i : Nat) : Prop := ∀ j ∈ A.getD i [], ∃ o, ops[i]? = some o ∧ ∃ e ∈ o.after.toList, Region.binds .any e = true ∧ (e.on = j ∨ j ∈ A.getD e.on [])

theorem getD_app {A : List (List Nat)} {m : List Nat} {i : Nat} {j : Nat} (h : j ∈ A.getD i []) : (A ++ [m]).getD i [] = A.getD i [] := by
  have : i < A.length := by
    rcases Nat.lt_or_ge i A.length with k | k
    · exact k
    · rw [List.getD_eq_getElem?_getD, List.getElem?_eq_none k] at h; cases h
  simp only [List.getD_eq_getElem?_getD, List.getElem?_append_left this]

theorem ancs_good (ops : List Oper) : ∀ (rest done : List Oper) (acc : List (List Nat)), ops = done ++ rest → acc.length = done.length → (∀ i, Good ops acc i) → ∀ i, Good ops (ancs rest acc) i
  | [], _, acc, _, _, h => h
  | o :: rest, done, acc, e, hl, h => by
    refine ancs_good ops rest (done ++ [o]) _ (by simp [e]) (by simp [hl]) ?_
    intro i j hj
    by_cases hi : i < acc.length
    · have e0 : (acc ++ [ancOf acc o.after.toList []]).getD i [] = acc.getD i [] := by simp only [List.getD_eq_getElem?_getD, List.getElem?_append_left hi]
      rw [e0] at hj
      obtain ⟨o', h1, e', h2, h3, h4⟩ := h i j hj
      exact ⟨o', h1, e', h2, h3, h4.imp id (fun k => by rw [getD_app k]; exact k)⟩
    · by_cases he : i = acc.length
      · subst he
        have e0 : (acc ++ [ancOf acc o.after.toList []]).getD acc.length [] = ancOf acc o.after.toList [] := by simp [List.getD_eq_getElem?_getD]
        rw [e0] at hj
        rcases mem_ancOf _ _ hj with k | ⟨e', h2, h3, h4⟩
        · cases k
        · exact ⟨o, by rw [e, hl]; simp, e', h2, h3, h4.imp id (fun k => by rw [getD_app k]; exact k)⟩
      · rw [List.getD_eq_getElem?_getD, List.getElem?_eq_none (by simp; omega)] at hj; cases hj

/-- Each may change places with who is ahead of it, or must come behind it. -/
def okPair (abi : Abi) (anc : List Nat) (b : AOp) : List AOp → Nat → Bool
  | [], _ => true
  | a :: l, i => (cf abi a b || anc.contains i) && okPair abi anc b l (i + 1)
def okPairs (abi : Abi) : List AOp → List (List Nat) → List AOp → Bool
  | _, _, [] => true
  | done, A, b :: l => okPair abi (A.headD []) b done 0 && okPairs abi (done ++ [b]) A.tail l
def backward : List Oper → Nat → Bool
  | [], _ => true
  | o :: l, i => o.after.toList.all (fun e => !(Region.binds .any e) || Nat.blt e.on i) && backward l (i + 1)
/-- A region may be drawn. -/
def okDraw (abi : Abi) (ops : List Oper) (la : List AOp) : Bool := backward ops 0 && okPairs abi [] (ancs ops []) la

theorem backward_ok : ∀ (l : List Oper) (i : Nat), backward l i = true → ∀ k o, l[k]? = some o → ∀ e ∈ o.after.toList, Region.binds .any e = true → e.on < i + k
  | [], i, _, k, o, h => by simp at h
  | x :: l, i, h, k, o, ho => by
    simp only [backward, Bool.and_eq_true, List.all_eq_true, Bool.or_eq_true, Bool.not_eq_true'] at h
    cases k with
    | zero =>
      simp only [List.getElem?_cons_zero, Option.some.injEq] at ho
      subst ho
      intro e he hb
      rcases h.1 e he with h' | h'
      · rw [hb] at h'; cases h'
      · simpa using h'
    | succ k =>
      intro e he hb
      have := backward_ok l (i + 1) h.2 k o (by simpa using ho) e he hb
      omega

theorem okPair_ok {abi : Abi} {anc : List Nat} {b : AOp} : ∀ (l : List AOp) (i : Nat), okPair abi anc b l i = true → ∀ k a, l[k]? = some a → cf abi a b = true ∨ i + k ∈ anc
  | [], i, _, k, a, h => by simp at h
  | x :: l, i, h, k, a, ha => by
    simp only [okPair, Bool.and_eq_true, Bool.or_eq_true, List.contains_eq_mem, decide_eq_true_eq] at h
    cases k with
    | zero => simp only [List.getElem?_cons_zero, Option.some.injEq] at ha; subst ha; simpa using h.1
    | succ k =>
      have := okPair_ok l (i + 1) h.2 k a (by simpa using ha)
      rwa [show i + 1 + k = i + (k + 1) by omega] at this

theorem okPairs_ok {abi : Abi} : ∀ (l done : List AOp) (A : List (List Nat)), okPairs abi done A l = true → ∀ i b, l[i]? = some b → ∀ k a, (done ++ l)[k]? = some a → k < done.length + i → cf abi a b = true ∨ k ∈ A.getD i []
  | [], done, A, _, i, b, hb, k, a, ha, hk => by simp at hb
  | x :: l, done, A, h, i, b, hb, k, a, ha, hk => by
    simp only [okPairs, Bool.and_eq_true] at h
    cases i with
    | zero =>
      simp only [List.getElem?_cons_zero, Option.some.injEq] at hb
      subst hb
      rw [List.getElem?_append_left (by omega)] at ha
      have := okPair_ok done 0 h.1 k a ha
      cases A <;> simpa using this
    | succ i =>
      have := okPairs_ok l (done ++ [x]) A.tail h.2 i b (by simpa using hb) k a (by simpa using ha) (by simp; omega)
      cases A <;> simpa using this

section
variable {P : Program} {nf : Nm} {abi : Abi} {N : Nat}

structure Rest (P : Program) (nf : Nm) (abi : Abi) (N : Nat) (ops : Array Oper) (A : List (List Nat)) (listed : Array Bool) (rem : List (Nat × AOp)) : Prop where
  size : listed.size = ops.size
  is : ∀ i, i < ops.size → (listed.getD i true = false ↔ ∃ ao, (i, ao) ∈ rem)
  fit : ∀ i ao, (i, ao) ∈ rem → i < ops.size ∧ ∃ o, ops[i]? = some o ∧ OpFit P nf abi N ops o ao
  pair : rem.Pairwise (fun x y => x.1 < y.1 ∧ (cf abi x.2 y.2 = true ∨ x.1 ∈ A.getD y.1 []))
  down : ∀ i, i < ops.size → listed.getD i true = true → ∀ j ∈ A.getD i [], listed.getD j true = true

theorem any_ok {B : Base} {ops : Array Oper} {A : List (List Nat)} {Q : Exit → Act → World → Prop} {σ' : St} (hA : ∀ i, Good ops.toList A i) (hback : backward ops.toList 0 = true)
    (hQ : ∀ ι M a w, RelS nf B N ι M σ' a w → Q .normal a w) : ∀ (fuel : Nat) (rem : List (Nat × AOp)) (listed : Array Bool) (σ : St) (ι : Iota) (M : Nat → Prop) (a : Act) (w : World),
    rem.length = fuel → Rest P nf abi N ops A listed rem → DOps abi (CallsOK P nf) (rem.map (·.2)) σ σ' → RelS nf B N ι M σ a w → wpAny P .any ops Q fuel listed a w := by
  have ready_spec : ∀ (listed : Array Bool) (i : Nat), i ∈ Region.ready .any ops listed ↔ i < ops.size ∧ listed.getD i true = false ∧ ∃ o, ops[i]? = some o ∧ ∀ e ∈ o.after.toList, Region.binds .any e = true → listed.getD e.on false = true := by
    intro listed i
    unfold Region.ready
    simp only [List.mem_filter, List.mem_range, Bool.and_eq_true, Bool.not_eq_true']
    refine and_congr_right fun hi => and_congr_right fun _ => ?_
    rw [Array.getElem?_eq_getElem hi]
    simp only [Option.map_some, Option.getD_some, Option.some.injEq, exists_eq_left']
    rw [← Array.all_toList]
    simp only [List.all_eq_true, Bool.or_eq_true, Bool.not_eq_true']
    constructor
    · intro h e he hb
      rcases h e he with k | k
      · rw [hb] at k; cases k
      · exact k
    · intro h e he
      cases hb : Region.binds .any e with
      | false => exact .inl rfl
      | true => exact .inr (h e he hb)
  have none_left : ∀ (rem : List (Nat × AOp)) (listed : Array Bool), Rest P nf abi N ops A listed rem → (Region.ready .any ops listed = [] → rem = []) := by
    intro rem listed R hr
    cases rem with
    | nil => rfl
    | cons x rem =>
      exfalso
      obtain ⟨i, ao⟩ := x
      obtain ⟨hi, o, ho, hf⟩ := R.fit i ao (by simp)
      have : i ∈ Region.ready .any ops listed := by
        refine (ready_spec listed i).2 ⟨hi, (R.is i hi).2 ⟨ao, by simp⟩, o, ho, fun e he hb => ?_⟩
        have hlt : e.on < i := by
          have := backward_ok ops.toList 0 hback i o (by simpa using ho) e he hb
          omega
        have h1 : listed.getD e.on true = true := by
          cases hq : listed.getD e.on true with
          | true => rfl
          | false =>
            obtain ⟨ao', hm⟩ := (R.is e.on (by omega)).1 hq
            rcases List.mem_cons.1 hm with hm | hm
            · cases hm; omega
            · have := (List.pairwise_cons.1 R.pair).1 _ hm; simp only at this; omega
        have : e.on < listed.size := by rw [R.size]; omega
        simpa [Array.getD_eq_getD_getElem?, this] using h1
      rw [hr] at this; cases this
  intro fuel
  induction fuel with
  | zero =>
    intro rem listed σ ι M a w hl R hops rel
    obtain rfl := List.length_eq_zero_iff.1 hl
    cases hops
    refine ⟨?_, hQ _ _ _ _ rel⟩
    apply List.eq_nil_iff_forall_not_mem.2
    intro i hi
    obtain ⟨h1, h2, _⟩ := (ready_spec listed i).1 hi
    obtain ⟨ao, hm⟩ := (R.is i h1).1 h2
    cases hm
  | succ fuel ih =>
    intro rem listed σ ι M a w hl R hops rel
    refine ⟨fun hr => ?_, fun i hi => ?_⟩
    · rw [none_left rem listed R hr] at hl; simp at hl
    · obtain ⟨h1, h2, o, ho, hready⟩ := (ready_spec listed i).1 hi
      obtain ⟨ao, hm⟩ := (R.is i h1).1 h2
      obtain ⟨l1, l2, rfl⟩ := List.append_of_mem hm
      have hpw := List.pairwise_append.1 R.pair
      have hcf : ∀ x ∈ l1, cf abi x.2 ao = true := by
        intro x hx
        obtain ⟨hlt, hc | hc⟩ := hpw.2.2 x hx (i, ao) (by simp)
        · exact hc
        · exfalso
          have hx2 := (R.is x.1 (by simp only at hlt; omega)).2 ⟨x.2, by simp [hx]⟩
          obtain ⟨o', ho', e, he, hb, hor⟩ := hA i x.1 hc
          have ho2 : ops[i]? = some o' := by simpa using ho'
          rw [ho] at ho2; cases ho2
          have hle := hready e he hb
          have hls : e.on < listed.size := by
            rcases Nat.lt_or_ge e.on listed.size with k | k
            · exact k
            · rw [Array.getD_eq_getD_getElem?, Array.getElem?_eq_none k] at hle; cases hle
          have hlt2 : listed.getD e.on true = true := by
            have := hle
            simpa [Array.getD_eq_getD_getElem?, hls] using this
          rcases hor with hor | hor
          · rw [hor, hx2] at hlt2; cases hlt2
          · have := R.down e.on (by rw [← R.size]; exact hls) hlt2 x.1 hor
            rw [this] at hx2; cases hx2
      have hops2 : DOps abi (CallsOK P nf) (ao :: (l1 ++ l2).map (·.2)) σ σ' := by
        have := front (b := ao) (l1 := l1.map (·.2)) (l2 := l2.map (·.2)) (σ := σ) (σ' := σ') (Γ := CallsOK P nf) (abi := abi) (by simpa using fun y x h => hcf (x, y) h) (by simpa using hops)
        simpa using this
      obtain ⟨hi', o', ho', hf⟩ := R.fit i ao hm
      rw [ho] at ho'; cases ho'
      have hget : ∀ j, (listed.setIfInBounds i true).getD j true = if j = i then true else listed.getD j true := by
        intro j
        simp only [Array.getD_eq_getD_getElem?, Array.getElem?_setIfInBounds]
        by_cases e : i = j
        · subst e; simp [R.size, h1]
        · simp [e, Ne.symm e]
      have R2 : Rest P nf abi N ops A (listed.setIfInBounds i true) (l1 ++ l2) := by
        refine ⟨by simpa using R.size, fun j hj => ?_, fun j bo hj => R.fit j bo ?_, ?_, fun j hj hjl k hk => ?_⟩
        · rw [hget]
          by_cases e : j = i
          · subst e
            simp only [if_true, Bool.true_eq_false, false_iff, not_exists]
            intro bo hb
            rcases List.mem_append.1 hb with hb | hb
            · have := (hpw.2.2 _ hb (j, ao) (by simp)).1; simp at this
            · have := ((List.pairwise_cons.1 hpw.2.1).1 _ hb).1; simp at this
          · rw [if_neg e, R.is j hj]
            constructor
            · rintro ⟨bo, hb⟩
              refine ⟨bo, ?_⟩
              rcases List.mem_append.1 hb with hb | hb
              · simp [hb]
              · rcases List.mem_cons.1 hb with hb | hb
                · cases hb; exact absurd rfl e
                · simp [hb]
            · rintro ⟨bo, hb⟩
              refine ⟨bo, ?_⟩
              rcases List.mem_append.1 hb with hb | hb <;> simp [hb]
        · rcases List.mem_append.1 hj with hb | hb <;> simp [hb]
        · exact R.pair.sublist (by simp)
        · rw [hget] at hjl ⊢
          by_cases e2 : k = i
          · simp [e2]
          · rw [if_neg e2]
            by_cases e : j = i
            · subst e
              obtain ⟨o', ho', e, he, hb, hor⟩ := hA j k hk
              have ho2 : ops[j]? = some o' := by simpa using ho'
              rw [ho] at ho2; cases ho2
              have hle := hready e he hb
              have hls : e.on < listed.size := by
                rcases Nat.lt_or_ge e.on listed.size with k | k
                · exact k
                · rw [Array.getD_eq_getD_getElem?, Array.getElem?_eq_none k] at hle; cases hle
              have hlt2 : listed.getD e.on true = true := by
                have := hle
                simpa [Array.getD_eq_getD_getElem?, hls] using this
              rcases hor with rfl | hor
              · exact hlt2
              · exact R.down e.on (by rw [← R.size]; exact hls) hlt2 k hor
            · rw [if_neg e] at hjl
              exact R.down j hj hjl k hk
      have hl2 : (l1 ++ l2).length = fuel := by simp at hl ⊢; omega
      unfold wpOp
      simp only [ho]
      cases hops2 with
      | skip hg hrest =>
        have hw := guard_ok rel hf hg
        simp only [hw, Bool.false_eq_true, if_false]
        refine ih (l1 ++ l2) _ _ ι M _ _ hl2 R2 hrest ?_
        rw [hf.dst]
        exact skip_rel rel hf.lt
      | cons r hg hr ht hw hfz hrest =>
        have hw := guard_ok rel hf hg
        simp only [hw, if_true]
        exact .inl (hf.sound B ι M _ a w rel r hr _ _ (fun ι' M' a' w' rel' => ih (l1 ++ l2) _ _ ι' M' _ _ hl2 R2 hrest rel'))

theorem OpsFit.get {ops : Array Oper} : ∀ {l : List Nat} {la : List AOp}, OpsFit P nf abi N ops l la → la.length = l.length ∧ ∀ (k i : Nat) (ao : AOp), l[k]? = some i → la[k]? = some ao → ∃ o, ops[i]? = some o ∧ OpFit P nf abi N ops o ao
  | _, _, .nil => ⟨rfl, fun k i ao h => by simp at h⟩
  | _, _, .cons ho h hl => by
    obtain ⟨e, g⟩ := hl.get
    refine ⟨by simp [e], fun k i ao hk ha => ?_⟩
    cases k with
    | zero => simp only [List.getElem?_cons_zero, Option.some.injEq] at hk ha; subst hk ha; exact ⟨_, ho, h⟩
    | succ k => exact g k i ao (by simpa using hk) (by simpa using ha)

/-- A region whose order is drawn. -/
theorem draw_ok {B : Base} {ops : Array Oper} {la : List AOp} {id : Nat} {Q : Exit → Act → World → Prop} {σ σ' : St} (hm : P.follows .mixedOrders = true) (hfit : OpsFit P nf abi N ops (List.range ops.size) la)
    (ok : okDraw abi ops.toList la = true) (hQ : ∀ ι M a w, RelS nf B N ι M σ' a w → Q .normal a w) (h : DOps abi (CallsOK P nf) la σ σ') {ι : Iota} {M : Nat → Prop} {a : Act} {w : World} (rel : RelS nf B N ι M σ a w) :
    (Code.region id ops true).wp P Q a w := by
  simp only [okDraw, Bool.and_eq_true] at ok
  obtain ⟨hback, hpairs⟩ := ok
  obtain ⟨hlen, hget⟩ := hfit.get
  have hlen : la.length = ops.size := by simpa using hlen
  have hA := ancs_good ops.toList ops.toList [] [] rfl rfl (fun i j hj => by simp at hj)
  have rel' : RelS nf B N ι M σ a (drawn1 w) :=
    ⟨rel.mem.drawn1, fun t => DV.stays (w := w) (w' := drawn1 w) (M := M) ⟨Nat.le_refl _, fun _ _ _ => rfl, fun _ h => .inl h, fun _ _ => rfl⟩ (Iota.le_refl ι) _ _ (rel.env t), rel.size, rel.defers⟩
  let rem : List (Nat × AOp) := (List.range ops.size).zip la
  have hrem : ∀ i ao, (i, ao) ∈ rem ↔ i < ops.size ∧ la[i]? = some ao := by
    intro i ao
    simp only [rem, List.mem_iff_getElem?, List.getElem?_zip_eq_some]
    constructor
    · rintro ⟨k, h1, h2⟩
      have := List.getElem?_eq_some_iff.1 h1
      obtain ⟨hk, e⟩ := this
      simp only [List.length_range, List.getElem_range] at hk e
      subst e
      exact ⟨hk, h2⟩
    · rintro ⟨h1, h2⟩
      exact ⟨i, by simp [h1], h2⟩
  refine wp_region_any hm (any_ok (abi := abi) hA hback hQ ops.size rem _ σ ι M a _ (by simp [rem, hlen]) ?_ ?_ rel')
  · refine ⟨by simp, fun i hi => ?_, fun i ao hm => ?_, ?_, fun i hi hl => ?_⟩
    · have : (Array.replicate ops.size false).getD i true = false := by simp [Array.getD_eq_getD_getElem?, Array.getElem?_replicate, hi]
      rw [this]
      simp only [true_iff]
      have hi2 : i < la.length := by omega
      exact ⟨la[i], (hrem _ _).2 ⟨hi, by simp [hi2]⟩⟩
    · obtain ⟨h1, h2⟩ := (hrem _ _).1 hm
      exact ⟨h1, hget i i ao (by simp [h1]) h2⟩
    · rw [List.pairwise_iff_getElem]
      intro i j hi hj hij
      simp only [rem, List.getElem_zip, List.getElem_range]
      refine ⟨hij, ?_⟩
      simp only [rem, List.length_zip, List.length_range] at hi hj
      have := okPairs_ok la [] _ hpairs j la[j] (by simp) i la[i] (by simp) (by simpa using hij)
      exact this
    · simp [Array.getD_eq_getD_getElem?, Array.getElem?_replicate, hi] at hl
  · have : rem.map (·.2) = la := by
      simp only [rem]
      rw [List.map_snd_zip]
      simp [hlen]
    rw [this]
    exact h

end
end Fo
