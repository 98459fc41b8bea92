/-
  seal.Sum, of numbers that are told or not (part 44).
-/
import Derived.Test.YtildnnhlpdcglaaFoA43
namespace Fo
open Go
set_option linter.unusedVariables false
set_option linter.unusedSimpArgs false

def sealIn : AC := (.seq (.seq (.reg [
  ⟨16, true, .mv, [.s 7], none, [], []⟩,
  ⟨17, true, .bin .lss, [.s 16, .c (.int .i64 8)], none, [], []⟩])
 (.cond (.s 17) .skip
 (.exit 2)))
 (.seq (.block 3 (.seq (.reg [
  ⟨20, true, .mv, [.s 3], none, [], []⟩,
  ⟨21, true, .bin .shl, [.s 20, .c (.int .u64 5)], none, [], []⟩,
  ⟨22, true, .mv, [.s 3], none, [], []⟩,
  ⟨23, true, .bin .shr, [.s 22, .c (.int .u64 27)], none, [], []⟩,
  ⟨24, true, .bin .or, [.s 21, .s 23], none, [], []⟩,
  ⟨3, true, .mv, [.s 24], none, [], []⟩])
 (.seq (.reg [
  ⟨25, true, .mv, [.s 3], none, [], []⟩,
  ⟨26, true, .mv, [.s 6], none, [], []⟩,
  ⟨27, true, .conv .u8, [.s 26], none, [], []⟩,
  ⟨28, true, .conv .u32, [.s 27], none, [], []⟩,
  ⟨29, true, .bin .xor, [.s 25, .s 28], none, [], []⟩,
  ⟨3, true, .mv, [.s 29], none, [], []⟩])
 (.reg [
  ⟨30, true, .mv, [.s 6], none, [], []⟩,
  ⟨31, true, .bin .shr, [.s 30, .c (.int .u64 8)], none, [], []⟩,
  ⟨6, true, .mv, [.s 31], none, [], []⟩]))))
 (.reg [
  ⟨18, true, .mv, [.s 7], none, [], []⟩,
  ⟨19, true, .bin .add, [.s 18, .c (.int .i64 1)], none, [], []⟩,
  ⟨7, true, .mv, [.s 19], none, [], []⟩])))
def sealOut : AC := (.seq (.reg [
  ⟨11, true, .bin .lss, [.s 10, .s 9], none, [], []⟩])
 (.seq (.cond (.s 11) .skip
 (.exit 0))
 (.seq (.block 1 (.seq (.reg [
  ⟨12, true, .iaddr 1, [.s 8, .s 10], none, [], []⟩,
  ⟨13, true, .load none, [.s 12], none, [], []⟩,
  ⟨5, true, .mv, [.s 13], none, [], []⟩])
 (.seq (.reg [
  ⟨14, true, .mv, [.s 5], none, [], []⟩,
  ⟨15, true, .conv .u64, [.s 14], none, [], []⟩,
  ⟨6, true, .mv, [.s 15], none, [], []⟩,
  ⟨7, true, .mv, [.c (.int .i64 0)], none, [], []⟩])
 (.block 2 (.loop sealIn)))))
 (.reg [
  ⟨32, true, .bin .add, [.s 10, .c (.int .i64 1)], none, [], []⟩,
  ⟨10, true, .mv, [.s 32], none, [], []⟩]))))
/-- seal.Sum. -/
def sealF : AFun where
  n := 34
  res := [.tmp 2]
  code := (.seq (.reg [
  ⟨2, true, .mv, [.c (.int .u32 0)], none, [], []⟩])
 (.seq (.reg [
  ⟨3, true, .mv, [.c (.int .u32 2166136261)], none, [], []⟩])
 (.seq (.seq (.reg [
  ⟨8, true, .mv, [.s 0], none, [], []⟩,
  ⟨9, true, .len, [.s 8], none, [], []⟩,
  ⟨10, true, .mv, [.c (.int .i64 0)], none, [], []⟩])
 (.block 0 (.loop sealOut)))
 (.seq (.reg [
  ⟨33, true, .mv, [.s 3], none, [], []⟩,
  ⟨2, true, .mv, [.s 33], none, [], []⟩])
 .ret))))

section
variable {abi : Abi} {Γ : Nat → List V → V → List (List V) → Prop}

theorem setEnv_true (e : Env) (d : Nat) (v : V) : setEnv e true d v = upd e d v := rfl
theorem upd_at (e : Env) (d t : Nat) (v : V) : upd e d v t = if t = d then v else e t := rfl

theorem ex_of {c : AC} {σ σ' : St} {e : AE} (n : Nat) (h : runC abi (fun _ _ => none) n c σ = some (e, σ')) : Ex abi Γ c σ e σ' :=
  runC_ok (fun _ _ _ _ h => by cases h) n c σ e σ' h

theorem sealIn_ok : ∀ (n : Nat) (i x u : Int) (σ : St), i = 8 - n → n ≤ 8 → 0 ≤ x → x ≤ 4294967295 → σ.env 7 = .int .i64 i → σ.env 3 = .int .u32 x → σ.env 6 = .int .u64 u →
    ∃ σ' x', Ex abi Γ (.loop sealIn) σ (.exit 2) σ' ∧ σ'.h = σ.h ∧ 0 ≤ x' ∧ x' ≤ 4294967295 ∧ σ'.env 3 = .int .u32 x' ∧ σ'.env 8 = σ.env 8 ∧ σ'.env 9 = σ.env 9 ∧ σ'.env 10 = σ.env 10
  | 0, i, x, u, σ, hi, hn, h0, h1, e7, e3, e6 => by
    have hi : i = 8 := by omega
    subst hi
    refine ⟨_, x, .loopX (ex_of 20 (by simp [sealIn, runC, runOps, guarded, comesF, comp, ev, setEnv_true, upd_at, apply, K.makes, freeze, e7, binV, binInt]; rfl)) (by simp), ?_⟩
    simp [upd_at, e3, h0, h1]
  | n + 1, i, x, u, σ, hi, hn, h0, h1, e7, e3, e6 => by
    have hlt : i < 8 := by omega
    have step : ∃ σ1, runC abi (fun _ _ => none) 30 sealIn σ = some (.normal, σ1) ∧ σ1.h = σ.h ∧ (∃ y, σ1.env 3 = .int .u32 (IntKind.u32.wrap y)) ∧ (∃ u1, σ1.env 6 = .int .u64 u1) ∧ σ1.env 7 = .int .i64 (IntKind.i64.wrap (i + 1)) ∧ σ1.env 8 = σ.env 8 ∧ σ1.env 9 = σ.env 9 ∧ σ1.env 10 = σ.env 10 := by
      refine ⟨_, by simp [sealIn, runC, runOps, guarded, comesF, comp, ev, setEnv_true, upd_at, apply, K.makes, freeze, e7, e3, e6, binV, convV, binInt, hlt]; rfl, ?_⟩
      exact ⟨rfl, ⟨_, rfl⟩, ⟨_, rfl⟩, rfl, rfl, rfl, rfl⟩
    obtain ⟨σ1, r1, r2, ⟨y, r5⟩, ⟨u1, r6⟩, r7, r8, r9, r10⟩ := step
    have hy := wrap_range .u32 y
    have m0 : IntKind.u32.min = 0 := rfl
    have m1 : IntKind.u32.max = 4294967295 := rfl
    rw [m0, m1] at hy
    have hw : IntKind.i64.wrap (i + 1) = i + 1 := by rw [IntKind.wrap_i64]; omega
    rw [hw] at r7
    obtain ⟨σ', x', q1, q2, q3, q4, q5, q6, q7, q8⟩ := sealIn_ok n (i + 1) (IntKind.u32.wrap y) u1 σ1 (by omega) (by omega) hy.1 hy.2 r7 r5 r6
    exact ⟨σ', x', .loop (ex_of 30 r1) q1, by rw [q2, r2], q3, q4, q5, by rw [q6, r8], by rw [q7, r9], by rw [q8, r10]⟩

def intRows (ns : List Int) : List (List V) := ns.map fun n => [.int .i64 n]

theorem intRows_get (ns : List Int) (k : Nat) (n : Int) (h : ns[k]? = some n) : (intRows ns)[k]? = some [.int .i64 n] := by simp [intRows, h]

theorem sealOut_ok (ns : List Int) (hlen : ns.length ≤ 9223372036854775806) : ∀ (m k : Nat) (x : Int) (σ : St), k + m = ns.length → 0 ≤ x → x ≤ 4294967295 → σ.env 3 = .int .u32 x → σ.env 8 = .sl (intRows ns) → σ.env 9 = .int .i64 ns.length → σ.env 10 = .int .i64 k →
    ∃ σ' x', Ex abi Γ (.loop sealOut) σ (.exit 0) σ' ∧ σ'.h = σ.h ∧ 0 ≤ x' ∧ x' ≤ 4294967295 ∧ σ'.env 3 = .int .u32 x'
  | 0, k, x, σ, hk, h0, h1, e3, e8, e9, e10 => by
    have hlt : ¬ ((k : Int) < (ns.length : Int)) := by omega
    refine ⟨_, x, .loopX (ex_of 20 (by simp [sealOut, runC, runOps, guarded, comesF, comp, ev, setEnv_true, upd_at, apply, K.makes, freeze, e9, e10, binV, binInt, hlt]; rfl)) (by simp), ?_⟩
    simp [upd_at, e3, h0, h1]
  | m + 1, k, x, σ, hk, h0, h1, e3, e8, e9, e10 => by
    have hlt : (k : Int) < (ns.length : Int) := by omega
    have hkn : k < ns.length := by omega
    obtain ⟨n, hn⟩ : ∃ n, ns[k]? = some n := ⟨ns[k], by simp [hkn]⟩
    have hrow := intRows_get ns k n hn
    have hlr : ((intRows ns).length : Int) = ns.length := by simp [intRows]
    have step : ∃ σ1, Ex abi Γ (.reg [⟨11, true, .bin .lss, [.s 10, .s 9], none, [], []⟩]) σ .normal σ1 ∧ σ1.h = σ.h ∧ σ1.env 11 = .bool true ∧ σ1.env 3 = σ.env 3 ∧ σ1.env 8 = σ.env 8 ∧ σ1.env 9 = σ.env 9 ∧ σ1.env 10 = σ.env 10 := by
      refine ⟨_, ex_of 20 (by simp [runC, runOps, guarded, comesF, comp, ev, setEnv_true, upd_at, apply, K.makes, freeze, e9, e10, binV, binInt, hlt]; rfl), ?_⟩
      exact ⟨rfl, rfl, rfl, rfl, rfl, rfl⟩
    obtain ⟨σ1, r1, r2, r3, r4, r5, r6, r7⟩ := step
    have step2 : ∃ σ2, Ex abi Γ (.seq (.reg [
  ⟨12, true, .iaddr 1, [.s 8, .s 10], none, [], []⟩,
  ⟨13, true, .load none, [.s 12], none, [], []⟩,
  ⟨5, true, .mv, [.s 13], none, [], []⟩])
 (.reg [
  ⟨14, true, .mv, [.s 5], none, [], []⟩,
  ⟨15, true, .conv .u64, [.s 14], none, [], []⟩,
  ⟨6, true, .mv, [.s 15], none, [], []⟩,
  ⟨7, true, .mv, [.c (.int .i64 0)], none, [], []⟩])) σ1 .normal σ2 ∧ σ2.h = σ.h ∧ σ2.env 3 = .int .u32 x ∧ (∃ u, σ2.env 6 = .int .u64 u) ∧ σ2.env 7 = .int .i64 0 ∧ σ2.env 8 = σ.env 8 ∧ σ2.env 9 = σ.env 9 ∧ σ2.env 10 = σ.env 10 := by
      rw [e8] at r5; rw [e10] at r7
      refine ⟨_, ex_of 20 (by simp [runC, runOps, guarded, comesF, comp, ev, setEnv_true, upd_at, apply, K.makes, freeze, r5, r7, hlr, hkn, hrow, rowAt, partV, convV]; rfl), ?_⟩
      exact ⟨r2, r4.trans e3, ⟨_, rfl⟩, rfl, r5.trans e8.symm, r6, r7.trans e10.symm⟩
    obtain ⟨σ2, s1, s2, s3, ⟨u, s4⟩, s5, s6, s7, s8⟩ := step2
    obtain ⟨σ3, x3, t1, t2, t3, t4, t5, t6, t7, t8⟩ := sealIn_ok (abi := abi) (Γ := Γ) 8 0 x u σ2 rfl (by omega) h0 h1 s5 s3 s4
    have step4 : ∃ σ4, Ex abi Γ (.reg [
  ⟨32, true, .bin .add, [.s 10, .c (.int .i64 1)], none, [], []⟩,
  ⟨10, true, .mv, [.s 32], none, [], []⟩]) σ3 .normal σ4 ∧ σ4.h = σ.h ∧ σ4.env 3 = .int .u32 x3 ∧ σ4.env 8 = σ.env 8 ∧ σ4.env 9 = σ.env 9 ∧ σ4.env 10 = .int .i64 (k + 1 : Nat) := by
      have e := t8.trans (s8.trans e10)
      have hw : IntKind.i64.wrap ((k : Int) + 1) = (k + 1 : Nat) := by rw [IntKind.wrap_i64]; omega
      refine ⟨_, ex_of 20 (by simp [runC, runOps, guarded, comesF, comp, ev, setEnv_true, upd_at, apply, K.makes, freeze, e, binV, binInt, hw]; rfl), ?_⟩
      exact ⟨t2.trans s2, t5, t6.trans s6, t7.trans s7, rfl⟩
    obtain ⟨σ4, v1, v2, v3, v4, v5, v6⟩ := step4
    obtain ⟨σ', x', q1, q2, q3, q4, q5⟩ := sealOut_ok ns hlen m (k + 1) x3 σ4 (by omega) t3 t4 v3 (v4.trans e8) (v5.trans e9) v6
    refine ⟨σ', x', .loop (.seq r1 (.seq (.cond true r3 (.skip _)) (.seq (.block ?_ (by simp)) v1))) q1, q2.trans v2, q3, q4, q5⟩
    cases s1 with
    | seq a b => exact .seq a (.seq b (.blockX t1))
    | seqX _ ne => exact absurd rfl ne

/-- It tells a number, whatever it is given. -/
theorem seal_ok (ns : List Int) (hlen : ns.length ≤ 9223372036854775806) : ∃ x, 0 ≤ x ∧ x ≤ 4294967295 ∧ Runs abi Γ sealF true [.sl (intRows ns)] (.int .u32 x) [] := by
  have hlr : ((intRows ns).length : Int) = ns.length := by simp [intRows]
  have step : ∃ σ1, runC abi (fun _ _ => none) 20 (.seq (.reg [⟨2, true, .mv, [.c (.int .u32 0)], none, [], []⟩]) (.seq (.reg [⟨3, true, .mv, [.c (.int .u32 2166136261)], none, [], []⟩]) (.reg [
  ⟨8, true, .mv, [.s 0], none, [], []⟩,
  ⟨9, true, .len, [.s 8], none, [], []⟩,
  ⟨10, true, .mv, [.c (.int .i64 0)], none, [], []⟩]))) (enter [.sl (intRows ns)]) = some (.normal, σ1) ∧ σ1.h = (enter [.sl (intRows ns)]).h ∧ σ1.env 3 = .int .u32 2166136261 ∧ σ1.env 8 = .sl (intRows ns) ∧ σ1.env 9 = .int .i64 ns.length ∧ σ1.env 10 = .int .i64 (0 : Nat) := by
    refine ⟨_, by simp [enter, enterL, thaw, runC, runOps, guarded, comesF, comp, ev, setEnv_true, upd_at, apply, K.makes, freeze]; rfl, ?_⟩
    exact ⟨rfl, rfl, rfl, by show V.int .i64 _ = _; rw [hlr], rfl⟩
  obtain ⟨σ1, r1, r2, r3, r4, r5, r6⟩ := step
  obtain ⟨σ', x', q1, q2, q3, q4, q5⟩ := sealOut_ok (abi := abi) (Γ := Γ) ns hlen ns.length 0 2166136261 σ1 (by omega) (by omega) (by omega) r3 r4 r5 r6
  have last : ∃ σ5, Ex abi Γ (.reg [
  ⟨33, true, .mv, [.s 3], none, [], []⟩,
  ⟨2, true, .mv, [.s 33], none, [], []⟩]) σ' .normal σ5 ∧ σ5.h = σ'.h ∧ σ5.env 2 = .int .u32 x' := by
    refine ⟨_, ex_of 20 (by simp [runC, runOps, guarded, comesF, comp, ev, setEnv_true, upd_at, apply, K.makes, freeze, q5]; rfl), ?_⟩
    exact ⟨rfl, rfl⟩
  obtain ⟨σ5, u1, u2, u3⟩ := last
  have whole : Ex abi Γ sealF.code (enter [.sl (intRows ns)]) .ret σ5 := by
    have e1 := ex_of (abi := abi) (Γ := Γ) 20 r1
    cases e1 with
    | seqX _ ne => exact absurd rfl ne
    | seq a b =>
      cases b with
      | seqX _ ne => exact absurd rfl ne
      | seq b c => exact .seq a (.seq b (.seq (.seq c (.blockX q1)) (.seq u1 (.ret _))))
  refine ⟨x', q3, q4, .ret, σ5, [.int .u32 x'], σ5.h, by simp [sealF], whole, .inr rfl, ?_, rfl, rfl⟩
  simp [sealF, readAll, readRes, u3]
end
end Fo
