/-
  The model's operations against the machine's, looked at by a program (part 24).
-/
import Derived.Test.YtildnnhlpdcglaaFoA41
namespace Fo
open Go
set_option linter.unusedVariables false
set_option linter.unusedSimpArgs false

section
variable (P : Program) (nf : Nm)

def okN (t : TypeId) : Option Nat → Bool
  | some k => aggOf P t == some true && szOf P t == some k
  | none => aggOf P t == some false

def chkZeroV (t : TypeId) (cells : List V) : Bool := match (P.info? t).bind (·.zero) with | some z => checkVL cells z.cells.toList | none => false

def chkFld (s : TypeId) (f off : Nat) : Bool :=
  match P.underlying s with
  | some (.struct fs) => match fs[f]? with | some fd => (match szOf P fd.type with | some sz => sz != 0 | none => false) && fd.offset == off | none => false
  | _ => false
def chkField (s : TypeId) (f off : Nat) (n : Option Nat) : Bool :=
  match P.underlying s with
  | some (.struct fs) => match fs[f]? with | some fd => okN P fd.type n && fd.offset == off | none => false
  | _ => false
def chkSl (t : TypeId) (n : Nat) : Bool := match P.underlying t with | some (.slice e) => szOf P e == some n | _ => false
def chkArr (t : TypeId) (len n : Nat) : Bool := match P.underlying t with | some (.array l e) => l == len && szOf P e == some n | _ => false
def chkIx (t : TypeId) (len size : Nat) (n : Option Nat) : Bool := match P.underlying t with | some (.array l e) => l == len && szOf P e == some size && okN P e n | _ => false
def isInt (t : TypeId) : Option IntKind := match P.underlying t with | some (.int k) => some k | _ => none
def isSl (t : TypeId) : Bool := match P.underlying t with | some (.slice _) => true | _ => false
def chkBuild (t : TypeId) (zero : List V) (ix : List Nat) (places : List (Nat × Nat)) : Bool :=
  chkZeroV P t zero && aggOf P t == some true && ix.map (placeOf P t) == places.map some &&
  (match P.underlying t with | some (.struct fs) => fs.all (fun f => (szOf P f.type).isSome) | some (.array _ e) => (szOf P e).isSome | _ => true)
def chkApp (t t2 : TypeId) (n bytes : Nat) : Bool :=
  match P.underlying t with
  | some (.slice e) =>
    (match P.info? e with | some i => i.size == n && i.bytes == bytes && (match i.zero with | some z => z.cells.size == n | none => false) | none => false) && Nat.ble bytes 4096 &&
    (match P.underlying t2 with | some (.int _) => false | some _ => true | none => false)
  | _ => false
def chkClear (t : TypeId) (zero : List V) : Bool :=
  match P.underlying t with
  | some (.slice e) => (match (P.info? e).bind (·.zero) with | some z => checkCL zero z.cells.toList && zero.all V.one | none => false)
  | _ => false
def chkEqv (t : TypeId) (agg : Bool) (s : List (Option IntKind)) : Bool :=
  sigT P 8 t == some s && aggOf P t == some agg && (if agg then !(P.eqGuardType P.depth t) else s == [none])

def chkOpt (lo : Option Operand) (b : Bool) : Bool := lo.isSome == b

def chkCall (c : Call) (k : K) (xs : List AOpd) : Bool :=
  match c.callee, k, xs with
  | .value (.func g), .call f, xs => nf f == some g && chkXs nf xs c.args.toList
  | .value (.tmp t), .callv, y :: xs => checkOpd nf y (.tmp t) && chkXs nf xs c.args.toList
  | .builtin .len, .len, [y] => (match c.args.toList, c.argTypes.toList with | [x], [t] => isSl P t && checkOpd nf y x | _, _ => false)
  | .builtin .len, .lenA n, [y] => (match c.args.toList, c.argTypes.toList with | [x], [t] => (match P.underlying t with | some (.array l _) => l == n | _ => false) && checkOpd nf y x | _, _ => false)
  | .builtin .append, .app n bytes zero, [y, z] => (match c.args.toList, c.argTypes.toList with | [a, b], [t, t2] => chkApp P t t2 n bytes && checkOpd nf y a && checkOpd nf z b | _, _ => false)
  | .builtin .clear, .clear zero, [y] => (match c.args.toList, c.argTypes.toList with | [x], [t] => chkClear P t zero && checkOpd nf y x | _, _ => false)
  | _, _, _ => false

def chk (o : Oper) (ao : AOp) : Bool :=
  match o.op, ao.k, ao.xs with
  | .move x, .mv, [y] => checkOpd nf y x
  | .move x, .lit, [y] => checkOpd nf y x
  | .assign x, .mv, [y] => checkOpd nf y x
  | .assign x, .lit, [y] => checkOpd nf y x
  | .pick c a b, .pick, [z, x, y] => checkOpd nf z c && checkOpd nf x a && checkOpd nf y b
  | .box _ x, .box _, [y] => checkOpd nf y x
  | .alloc t, .zero cells, [] => chkZeroV P t cells
  | .nilCheck x, .nilck, [y] => checkOpd nf y x
  | .load t x, .load n, [y] => okN P t n && checkOpd nf y x
  | .store t x v, .store n, [y, z] => szOf P t == some n && checkOpd nf y x && checkOpd nf z v
  | .store t x v, .storeL n, [y, z] => szOf P t == some n && checkOpd nf y x && checkOpd nf z v
  | .fieldAddr s x f, .faddr off, [y] => chkFld P s f off && checkOpd nf y x
  | .indexAddr t x i, .iaddr n, [y, z] => chkSl P t n && checkOpd nf y x && checkOpd nf z i
  | .indexAddr t x i, .iaddrA len n, [y, z] => chkArr P t len n && checkOpd nf y x && checkOpd nf z i
  | .field t x f, .field off n, [y] => chkField P t f off n && checkOpd nf y x
  | .index t x i, .index len size n, [y, z] => chkIx P t len size n && checkOpd nf y x && checkOpd nf z i
  | .extract x k, .extract k', [y] => k == k' && checkOpd nf y x
  | .binOp op _ x y _, .bin op', [a, b] => decide (op = op') && checkOpd nf a x && checkOpd nf b y
  | .binOp op t x y _, .eqv agg s neg, [a, b] => decide (op = if neg then .neq else .eql) && chkEqv P t agg s && checkOpd nf a x && checkOpd nf b y
  | .binOp op t x (.const (.slice none 0 0)) _, .eqnil neg, [a] => decide (op = if neg then .neq else .eql) && isSl P t && checkOpd nf a x
  | .unOp op _ x, .un op', [y] => decide (op = op') && checkOpd nf y x
  | .convert s t x, .conv k, [y] => (isInt P s).isSome && isInt P t == some k && checkOpd nf y x
  | .makeFunc (.func g) first caps, .mkfn f n, xs => nf f == some g && n == first.size && chkXs nf xs (first.toList ++ caps.toList)
  | .build t parts, .build zero places, xs => chkBuild P t zero (parts.toList.map (·.1)) places && chkXs nf xs (parts.toList.map (·.2))
  | .buildSlice t len parts, .buildSl n zero len' places, xs => len == len' && places == parts.toList.map (·.1) && chkBuildSl P t n zero len && chkXs nf xs (parts.toList.map (·.2))
  | .slice t x none none none, .slice n false false, [y] => chkSl P t n && checkOpd nf y x
  | .slice t x (some a) none none, .slice n true false, [y, z] => chkSl P t n && checkOpd nf y x && checkOpd nf z a
  | .slice t x none (some b) none, .slice n false true, [y, z] => chkSl P t n && checkOpd nf y x && checkOpd nf z b
  | .slice t x (some a) (some b) none, .slice n true true, [y, z, u] => chkSl P t n && checkOpd nf y x && checkOpd nf z a && checkOpd nf u b
  | .call c, k, xs => chkCall P nf c k xs || chkMore P nf o ao
  | _, _, _ => chkMore P nf o ao
end

section
variable {P : Program} {nf : Nm} {abi : Abi} {N : Nat}

/-- What a program, its names and what is known must be. -/
structure Ent (P : Program) (nf : Nm) (abi : Abi) : Prop where
  enters : ∀ f g, nf f = some g → enters P g = true
  facts : FactsOK nf abi.fx

theorem okN_ok {t : TypeId} {n : Option Nat} : okN P t n = true → match n with | some k => aggOf P t = some true ∧ szOf P t = some k | none => aggOf P t = some false := by
  intro h
  cases n <;> simpa [okN] using h

theorem DVL.split {ι : Iota} {w : World} {M : Nat → Prop} : ∀ {cs ds : List Value} {l : List V}, DVL nf ι w M l (cs ++ ds) → ∃ l1 l2, l = l1 ++ l2 ∧ DVL nf ι w M l1 cs ∧ DVL nf ι w M l2 ds
  | [], _, l, h => ⟨[], l, rfl, rfl, h⟩
  | c :: cs, ds, l, h => by
    match l, h with
    | [], h => exact absurd h (by intro h; cases h)
    | v :: l, ⟨c', cs', e, h1, h2⟩ =>
      obtain ⟨rfl, rfl⟩ := List.cons.inj e
      obtain ⟨l1, l2, rfl, h3, h4⟩ := DVL.split h2
      exact ⟨v :: l1, l2, rfl, ⟨_, _, rfl, h1, h3⟩, h4⟩

theorem chkApp_ok {t t2 : TypeId} {n bytes : Nat} (h : chkApp P t t2 n bytes = true) : ∃ e z, ElemOK P e n bytes z ∧ P.underlying t = some (.slice e) ∧ (∀ k, P.underlying t2 ≠ some (.int k)) ∧ (P.underlying t2).isSome = true := by
  unfold chkApp at h
  split at h
  · rename_i e he
    simp only [Bool.and_eq_true] at h
    obtain ⟨⟨h1, h2⟩, h3⟩ := h
    split at h1
    · rename_i i hi
      simp only [Bool.and_eq_true, beq_iff_eq] at h1
      obtain ⟨⟨h4, h5⟩, h6⟩ := h1
      split at h6
      · rename_i z hz
        simp only [beq_iff_eq] at h6
        refine ⟨e, z, ⟨⟨i, hi, h4, h5, hz⟩, Nat.le_of_ble_eq_true h2, h6⟩, he, ?_, ?_⟩
        · intro k hk; rw [hk] at h3; cases h3
        · split at h3
          · cases h3
          · rename_i hk; rw [hk]; rfl
          · cases h3
      · cases h6
    · cases h1
  · cases h

theorem chkCall_ok (hE : Ent P nf abi) {o : Oper} {ao : AOp} {c : Call} (ho : o.op = .call c) (h : chkCall P nf c ao.k ao.xs = true) : OpTells P nf abi N o ao := by
  obtain ⟨callee, ⟨args⟩, ⟨ats⟩⟩ := c
  intro B ι M σ a w rel r hr
  unfold chkCall at h
  split at h
  · rename_i g f h1 h2
    simp only [Bool.and_eq_true, beq_iff_eq] at h
    obtain ⟨hg, hx⟩ := h
    simp only at h1; subst h1
    rw [h2] at hr ⊢
    have hv := xs_ok rel hx
    right
    refine ⟨g, (args.map a.eval).toArray, ?_, ?_⟩
    · have := run_enters (hE.enters _ _ hg) (args.map a.eval).toArray w
      simp only [execOp, ho, resolve, Deferred.ofValue, Act.eval, Sem.run_bind, Sem.run_pure, Result.andThen_ok, invoke]
      simpa using this
    · exact called_ok rel.mem hv hg hr
  · rename_i t y xs h1 h2 h3
    simp only [Bool.and_eq_true] at h
    obtain ⟨hy, hx⟩ := h
    simp only at h1; subst h1
    rw [h2, h3] at hr
    rw [h2]
    have hv := xs_ok rel hx
    have hy := opd_ok rel hy
    simp only [List.map_cons, Comes] at hr
    split at hr
    · rename_i f first caps aa e
      obtain ⟨e1, rfl⟩ := List.cons.inj e
      rw [e1] at hy
      obtain ⟨g, fs, cs, hg, e2, d1, d2⟩ := hy
      right
      refine ⟨g, (fs ++ (args.map a.eval ++ cs)).toArray, ?_, ?_⟩
      · have := run_enters (hE.enters _ _ hg) (fs ++ (args.map a.eval ++ cs)).toArray w
        simp only [execOp, ho, resolve, Deferred.ofValue, e2, Sem.run_bind, Sem.run_pure, Result.andThen_ok, invoke]
        simpa using this
      · exact called_ok rel.mem (DVL.append _ _ _ _ d1 (DVL.append _ _ _ _ hv d2)) hg hr
    · exact hr.elim
  · rename_i y h1 h2 h3
    simp only at h1; subst h1
    rw [h2, h3] at hr
    rw [h2]
    left
    split at h
    · rename_i x t e1 e2
      simp only at e1 e2; subst e1 e2
      simp only [Bool.and_eq_true] at h
      unfold isSl at h
      obtain ⟨h4, h5⟩ := h
      split at h4
      · rename_i e he
        exact tells_len (rest := #[]) rel.mem ho he (opd_ok rel h5) hr
      · cases h4
    · cases h
  · rename_i n y h1 h2 h3
    simp only at h1; subst h1
    rw [h2, h3] at hr
    rw [h2]
    left
    split at h
    · rename_i x t e1 e2
      simp only at e1 e2; subst e1 e2
      simp only [Bool.and_eq_true] at h
      obtain ⟨h4, h5⟩ := h
      split at h4
      · rename_i l e he
        simp only [beq_iff_eq] at h4; subst h4
        exact tells_lenA rel.mem ho he hr
      · cases h4
    · cases h
  · rename_i n bytes zero y z h1 h2 h3
    simp only at h1; subst h1
    rw [h2, h3] at hr
    rw [h2]
    left
    split at h
    · rename_i u v t t2 e1 e2
      simp only at e1 e2; subst e1 e2
      simp only [Bool.and_eq_true] at h
      obtain ⟨⟨h4, h5⟩, h6⟩ := h
      obtain ⟨e, zz, he, ht, ht2, ht3⟩ := chkApp_ok h4
      exact tells_app rel.mem ho he ht ht2 ht3 (opd_ok rel h5) (opd_ok rel h6) hr
    · cases h
  · rename_i zero y h1 h2 h3
    simp only at h1; subst h1
    rw [h2, h3] at hr
    rw [h2]
    left
    split at h
    · rename_i x t e1 e2
      simp only at e1 e2; subst e1 e2
      simp only [Bool.and_eq_true] at h
      obtain ⟨h4, h5⟩ := h
      unfold chkClear at h4
      split at h4
      · rename_i e he
        split at h4
        · rename_i z hz
          simp only [Bool.and_eq_true] at h4
          exact tells_clear (n := 0) rel.mem ho he hz (checkCL_ok _ _ h4.1) h4.2 (opd_ok rel h5) hr
        · cases h4
      · cases h4
    · cases h
  · cases h

theorem chk_ok (hE : Ent P nf abi) {o : Oper} {ao : AOp} (h : chk P nf o ao = true) : OpTells P nf abi N o ao := by
  unfold chk at h
  split at h
  case h_30 ho =>
    simp only [Bool.or_eq_true] at h
    rcases h with h | h
    · exact chkCall_ok hE ho h
    · exact chkMore_ok h
  case h_31 => exact chkMore_ok h
  all_goals intro B ι M σ a w rel r hr
  all_goals left
  · rename_i x y ho hk hx; rw [hk, hx] at hr; rw [hk]; exact tells_mv rel.mem (.inl ho) (opd_ok rel h) hr
  · rename_i x y ho hk hx; rw [hk, hx] at hr; rw [hk]; exact tells_mv rel.mem (.inl ho) (opd_ok rel h) hr
  · rename_i x y ho hk hx; rw [hk, hx] at hr; rw [hk]; exact tells_mv rel.mem (.inr ho) (opd_ok rel h) hr
  · rename_i x y ho hk hx; rw [hk, hx] at hr; rw [hk]; exact tells_mv rel.mem (.inr ho) (opd_ok rel h) hr
  · rename_i c x y z u v ho hk hx; rw [hk, hx] at hr; rw [hk]; simp only [Bool.and_eq_true] at h
    exact tells_pick rel.mem ho (opd_ok rel h.1.1) (opd_ok rel h.1.2) (opd_ok rel h.2) hr
  · rename_i t x n y ho hk hx; rw [hk, hx] at hr; rw [hk]; exact tells_box rel.mem ho (opd_ok rel h) hr
  · rename_i t cells ho hk hx; rw [hk, hx] at hr; rw [hk]
    unfold chkZeroV at h
    split at h
    · rename_i z hz; exact tells_zero rel.mem ho hz (checkVL_ok _ _ h) hr
    · cases h
  · rename_i x y ho hk hx; rw [hk, hx] at hr; rw [hk]; exact tells_nilck rel.mem ho (opd_ok rel h) hr
  · rename_i t x n y ho hk hx; rw [hk, hx] at hr; rw [hk]; simp only [Bool.and_eq_true] at h
    exact tells_load rel.mem ho (okN_ok h.1) (opd_ok rel h.2) hr
  · rename_i t x v n y z ho hk hx; rw [hk, hx] at hr; rw [hk]; simp only [Bool.and_eq_true, beq_iff_eq] at h
    exact tells_store rel.mem ho h.1.1 (opd_ok rel h.1.2) (opd_ok rel h.2) hr
  · rename_i t x v n y z ho hk hx; rw [hk, hx] at hr; rw [hk]; simp only [Bool.and_eq_true, beq_iff_eq] at h
    exact tells_store rel.mem ho h.1.1 (opd_ok rel h.1.2) (opd_ok rel h.2) hr
  · rename_i s x f off y ho hk hx; rw [hk, hx] at hr; rw [hk]; simp only [Bool.and_eq_true] at h
    obtain ⟨h1, h2⟩ := h
    unfold chkFld at h1
    split at h1
    · rename_i fs hs
      split at h1
      · rename_i fd hf
        simp only [Bool.and_eq_true, beq_iff_eq] at h1
        obtain ⟨h3, h4⟩ := h1
        split at h3
        · rename_i sz hsz
          exact tells_faddr rel.mem ho hs hf hsz (by simpa using h3) h4 (opd_ok rel h2) hr
        · cases h3
      · cases h1
    · cases h1
  · rename_i t x i n y z ho hk hx; rw [hk, hx] at hr; rw [hk]; simp only [Bool.and_eq_true] at h
    obtain ⟨⟨h1, h2⟩, h3⟩ := h
    unfold chkSl at h1
    split at h1
    · rename_i e he; simp only [beq_iff_eq] at h1
      exact tells_iaddr rel.mem ho he h1 (opd_ok rel h2) (opd_ok rel h3) hr
    · cases h1
  · rename_i t x i len n y z ho hk hx; rw [hk, hx] at hr; rw [hk]; simp only [Bool.and_eq_true] at h
    obtain ⟨⟨h1, h2⟩, h3⟩ := h
    unfold chkArr at h1
    split at h1
    · rename_i l e he; simp only [Bool.and_eq_true, beq_iff_eq] at h1
      obtain ⟨rfl, h1⟩ := h1
      exact tells_iaddrA rel.mem ho he h1 (opd_ok rel h2) (opd_ok rel h3) hr
    · cases h1
  · rename_i t x f off n y ho hk hx; rw [hk, hx] at hr; rw [hk]; simp only [Bool.and_eq_true] at h
    obtain ⟨h1, h2⟩ := h
    unfold chkField at h1
    split at h1
    · rename_i fs hs
      split at h1
      · rename_i fd hf
        simp only [Bool.and_eq_true, beq_iff_eq] at h1
        exact tells_field rel.mem ho hs hf h1.2 (okN_ok h1.1) (opd_ok rel h2) hr
      · cases h1
    · cases h1
  · rename_i t x i len size n y z ho hk hx; rw [hk, hx] at hr; rw [hk]; simp only [Bool.and_eq_true] at h
    obtain ⟨⟨h1, h2⟩, h3⟩ := h
    unfold chkIx at h1
    split at h1
    · rename_i l e he; simp only [Bool.and_eq_true, beq_iff_eq] at h1
      obtain ⟨⟨rfl, h1⟩, h4⟩ := h1
      exact tells_index rel.mem ho he h1 (okN_ok h4) (opd_ok rel h2) (opd_ok rel h3) hr
    · cases h1
  · rename_i x k k' y ho hk hx; rw [hk, hx] at hr; rw [hk]; simp only [Bool.and_eq_true, beq_iff_eq] at h
    obtain ⟨rfl, h⟩ := h
    exact tells_extract rel.mem ho (opd_ok rel h) hr
  · rename_i op xt x y yt op' u v ho hk hx; rw [hk, hx] at hr; rw [hk]; simp only [Bool.and_eq_true, decide_eq_true_eq] at h
    obtain ⟨⟨rfl, h1⟩, h2⟩ := h
    rcases hr with hr | hr
    · exact tells_bin rel.mem ho (opd_ok rel h1) (opd_ok rel h2) hr
    · simp only [List.map_cons, List.map_nil, factRes, Option.map_eq_some_iff] at hr
      obtain ⟨q, hq, rfl⟩ := hr
      exact tells_refines rel.mem ho (factBin_ok hE.facts hq (opd_ok rel h1) (opd_ok rel h2))
  · rename_i op xt x y yt agg s neg u v ho hk hx; rw [hk, hx] at hr; rw [hk]; simp only [Bool.and_eq_true, decide_eq_true_eq] at h
    obtain ⟨⟨⟨h0, h3⟩, h1⟩, h2⟩ := h
    unfold chkEqv at h3
    simp only [Bool.and_eq_true, beq_iff_eq] at h3
    obtain ⟨⟨h4, h5⟩, h6⟩ := h3
    refine tells_eqv rel.mem h0 ho (d := 8) (by decide) h4 h5 (fun e => by subst e; simpa using h6) (fun e => by subst e; simpa using h6) (opd_ok rel h1) (opd_ok rel h2) hr
  · rename_i op t x yt neg u ho hk hx; rw [hk, hx] at hr; rw [hk]; simp only [Bool.and_eq_true, decide_eq_true_eq] at h
    obtain ⟨⟨rfl, h1⟩, h2⟩ := h
    unfold isSl at h1
    split at h1
    · rename_i e he
      exact tells_eqnil rel.mem ho he (opd_ok rel h2) hr
    · cases h1
  · rename_i op xt x op' y ho hk hx; rw [hk, hx] at hr; rw [hk]; simp only [Bool.and_eq_true, decide_eq_true_eq] at h
    obtain ⟨rfl, h1⟩ := h
    exact tells_un rel.mem ho (opd_ok rel h1) hr
  · rename_i s t x k y ho hk hx; rw [hk, hx] at hr; rw [hk]; simp only [Bool.and_eq_true, beq_iff_eq] at h
    obtain ⟨⟨h1, h2⟩, h3⟩ := h
    obtain ⟨ks, hs⟩ := Option.isSome_iff_exists.1 h1
    have key : ∀ (t : TypeId) (k : IntKind), isInt P t = some k → P.underlying t = some (.int k) := by
      intro t k e
      unfold isInt at e
      split at e
      · rename_i e'; cases e; exact e'
      · cases e
    exact tells_conv rel.mem ho (key _ _ hs) (key _ _ h2) (opd_ok rel h3) hr
  · rename_i g first caps f n ho hk; rw [hk] at hr ⊢; simp only [Bool.and_eq_true, beq_iff_eq] at h
    obtain ⟨⟨h1, rfl⟩, h2⟩ := h
    have hv := xs_ok rel h2
    rw [List.map_append] at hv
    obtain ⟨l1, l2, e, h3, h4⟩ := DVL.split hv
    rw [e] at hr
    exact tells_mkfn rel.mem ho h1 (by simpa using h3) (by simpa using h4) hr
  · rename_i t parts zero places ho hk; rw [hk] at hr ⊢; simp only [Bool.and_eq_true] at h
    obtain ⟨h1, h2⟩ := h
    unfold chkBuild at h1
    simp only [Bool.and_eq_true, beq_iff_eq] at h1
    obtain ⟨⟨⟨h3, h4⟩, h5⟩, h6⟩ := h1
    unfold chkZeroV at h3
    split at h3
    · rename_i z hz
      have hv := xs_ok rel h2
      rw [List.map_map] at hv h5
      refine tells_build rel.mem ho hz (checkVL_ok _ _ h3) h4 h5 ?_ ?_ hv hr
      · intro fs hfs; rw [hfs] at h6; exact h6
      · intro n e he; rw [he] at h6; exact h6
    · cases h3
  · rename_i t len parts n zero len' places ho hk; rw [hk] at hr ⊢; simp only [Bool.and_eq_true, beq_iff_eq] at h
    obtain ⟨⟨⟨rfl, rfl⟩, h1⟩, h2⟩ := h
    unfold chkBuildSl at h1
    split at h1
    · rename_i e he
      simp only [Bool.and_eq_true, beq_iff_eq] at h1
      obtain ⟨⟨h3, h4⟩, h5⟩ := h1
      split at h4
      · rename_i z hz
        simp only [Bool.and_eq_true, beq_iff_eq] at h4
        have hv := xs_ok rel h2
        rw [List.map_map] at hv
        exact tells_buildSl rel.mem ho he h3 hz h4.1 (checkCL_ok _ _ h4.2) (by have := Nat.le_of_ble_eq_true h5; omega) hv hr
      · cases h4
    · cases h1
  · rename_i t x n y ho hk hx; rw [hk, hx] at hr; rw [hk]; simp only [Bool.and_eq_true] at h
    obtain ⟨e, he, hn⟩ := sl h.1
    exact tells_slice (vl := none) (vh := none) rel.mem ho he hn (opd_ok rel h.2) trivial trivial hr
  · rename_i t x a1 n y z ho hk hx; rw [hk, hx] at hr; rw [hk]; simp only [Bool.and_eq_true] at h
    obtain ⟨e, he, hn⟩ := sl h.1.1
    exact tells_slice (vl := some _) (vh := none) rel.mem ho he hn (opd_ok rel h.1.2) (opd_ok rel h.2) trivial hr
  · rename_i t x b1 n y z ho hk hx; rw [hk, hx] at hr; rw [hk]; simp only [Bool.and_eq_true] at h
    obtain ⟨e, he, hn⟩ := sl h.1.1
    exact tells_slice (vl := none) (vh := some _) rel.mem ho he hn (opd_ok rel h.1.2) trivial (opd_ok rel h.2) hr
  · rename_i t x a1 b1 n y z u ho hk hx; rw [hk, hx] at hr; rw [hk]; simp only [Bool.and_eq_true] at h
    obtain ⟨e, he, hn⟩ := sl h.1.1.1
    exact tells_slice (vl := some _) (vh := some _) rel.mem ho he hn (opd_ok rel h.1.1.2) (opd_ok rel h.1.2) (opd_ok rel h.2) hr
where
  sl {t : TypeId} {n : Nat} (h : chkSl P t n = true) : ∃ e, P.underlying t = some (.slice e) ∧ szOf P e = some n := by
    unfold chkSl at h
    split at h
    · rename_i e he; exact ⟨e, he, by simpa using h⟩
    · cases h

end
end Fo
