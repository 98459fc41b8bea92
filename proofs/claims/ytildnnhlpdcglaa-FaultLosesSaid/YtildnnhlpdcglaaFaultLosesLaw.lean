/-
  FaultLoses: whatever numbers it is given, it returns true. No condition.
-/
import Derived.Test.YtildnnhlpdcglaaFaultLosesFuns
import Derived.Test.YtildnnhlpdcglaaFoA47
import Derived.Test.YtildnnhlpdcglaaRows
import Derived.KernelRfl
set_option maxRecDepth 100000
namespace Fo.Try
open Go Go.Proofs
def funs : Nat → Option (AFun × Bool)
  | 60 => some (F60, true)
  | 63 => some (F63, true)
  | 114 => some (F114, true)
  | 144 => some (F144, true)
  | 155 => some (F155, true)
  | 170 => some (F170, true)
  | 216 => some (F216, true)
  | 218 => some (F218, true)
  | 219 => some (F219, true)
  | 220 => some (F220, true)
  | 228 => some (F228, true)
  | 239 => some (F239, true)
  | 271 => some (F271, true)
  | 274 => some (F274, true)
  | 281 => some (F281, true)
  | 284 => some (F284, true)
  | 286 => some (F286, true)
  | 288 => some (F288, true)
  | 1002 => some (F1002, true)
  | 1004 => some (F1004, true)
  | _ => none
def clones : Nat → Option (Nat × Nat × List V)
  | 136 => some (3, 24, [(.int .i64 0), (.int .i64 0), (.int .i64 0)])
  | 137 => some (1, 8, [(.int .i64 0)])
  | 270 => some (2, 16, [(.int .i64 0), (.int .i64 0)])
  | _ => none
theorem enters_tbl : ∀ f g, tbl f = some g → enters Try.prog g = true := by
  have h : (tblL.all fun p => enters Try.prog p.2) = true := by kernel_rfl
  intro f g hf
  exact lookup_all h hf
theorem enters_all (ρ : Nat → Int) : ∀ f g, (nf ρ) f = some g → enters Try.prog g = true := enters_tbl
theorem ent (ρ : Nat → Int) {fx : List Fact} (hF : FactsOK (nf ρ) fx) : Ent Try.prog (nf ρ) (abi fx) := ⟨enters_all ρ, hF⟩
set_option maxHeartbeats 4000000 in
theorem funs_ok (ρ : Nat → Int) (fx : List Fact) : ∀ f F gv, funs f = some (F, gv) → ∃ g fn, (nf ρ) f = some g ∧ Try.prog.funcs[g]? = some fn ∧ chkFun Try.prog (nf ρ) (abi fx) fn F = true := by
  intro f F gv h
  unfold funs at h
  split at h
  · cases h; exact ⟨_, _, rfl, Try.func14, k60 ρ fx⟩
  · cases h; exact ⟨_, _, rfl, Try.func26, k63 ρ fx⟩
  · cases h; exact ⟨_, _, rfl, Try.func25, k114 ρ fx⟩
  · cases h; exact ⟨_, _, rfl, Try.func15, k144 ρ fx⟩
  · cases h; exact ⟨_, _, rfl, Try.func30, k155 ρ fx⟩
  · cases h; exact ⟨_, _, rfl, Try.func8, k170 ρ fx⟩
  · cases h; exact ⟨_, _, rfl, Try.func19, k216 ρ fx⟩
  · cases h; exact ⟨_, _, rfl, Try.func20, k218 ρ fx⟩
  · cases h; exact ⟨_, _, rfl, Try.func27, k219 ρ fx⟩
  · cases h; exact ⟨_, _, rfl, Try.func28, k220 ρ fx⟩
  · cases h; exact ⟨_, _, rfl, Try.func9, k228 ρ fx⟩
  · cases h; exact ⟨_, _, rfl, Try.func17, k239 ρ fx⟩
  · cases h; exact ⟨_, _, rfl, Try.func33, k271 ρ fx⟩
  · cases h; exact ⟨_, _, rfl, Try.func40, k274 ρ fx⟩
  · cases h; exact ⟨_, _, rfl, Try.func29, k281 ρ fx⟩
  · cases h; exact ⟨_, _, rfl, Try.func31, k284 ρ fx⟩
  · cases h; exact ⟨_, _, rfl, Try.func41, k286 ρ fx⟩
  · cases h; exact ⟨_, _, rfl, Try.func18, k288 ρ fx⟩
  · cases h; exact ⟨_, _, rfl, Try.func5, k1002 ρ fx⟩
  · cases h; exact ⟨_, _, rfl, Try.func7, k1004 ρ fx⟩
  · cases h
theorem clones_ok (ρ : Nat → Int) (fx : List Fact) : ∀ f n b z, clones f = some (n, b, z) → ∃ g fn, (nf ρ) f = some g ∧ Try.prog.funcs[g]? = some fn ∧ chkFun Try.prog (nf ρ) (abi fx) fn (cloneOf n b z) = true := by
  intro f n b z h
  unfold clones at h
  split at h
  · cases h; exact ⟨_, _, rfl, Try.func34, k136 ρ fx⟩
  · cases h; exact ⟨_, _, rfl, Try.func35, k137 ρ fx⟩
  · cases h; exact ⟨_, _, rfl, Try.func32, k270 ρ fx⟩
  · cases h
def prims : CallF := cloneP clones
theorem prims_ok (ρ : Nat → Int) : ∀ f args v outs, prims f args = some (v, outs) → CallsOK Try.prog (nf ρ) f args v outs := cloneP_ok (abi := abi []) (ent ρ FactsOK.nil) (by kernel_rfl) (clones_ok ρ [])
abbrev i (n : Int) : V := .int .i64 n
abbrev b0 : V := .bool false
abbrev b1 : V := .bool true
abbrev s0 : V := .sl []
abbrev f0 : V := .fresh []
abbrev x (i : Nat) : SE := .var i
def Holds (ρ : Nat → Int) (e : Entry) : Prop := CallsOK Try.prog (nf ρ) e.1 e.2.1 e.2.2.1 e.2.2.2
theorem holds_of {ρ : Nat → Int} {fx : List Fact} {tbl : List Entry} {e : Entry} (hF : FactsOK (nf ρ) fx) (k : Known Try.prog (nf ρ) tbl) (h : runF (abi fx) funs (orP prims (memoP tbl)) 100000 60 e.1 e.2.1 = some e.2.2) : Holds ρ e :=
  runF_ok (ent ρ hF) (by kernel_rfl) (orP_ok (prims_ok ρ) (memoP_ok tbl k)) (funs_ok ρ fx) 60 e.1 e.2.1 _ _ h
def m0 : Entry := (1004, [], b1, [])
def fx0 : List Fact := []
theorem r0 : runF (abi fx0) funs (orP prims (memoP [])) 100000 60 1004 m0.2.1 = some m0.2.2 := by kernel_rfl
theorem w0 (ρ : Nat → Int) (hF : FactsOK (nf ρ) fx0) : Holds ρ m0 := holds_of (tbl := []) hF trivial r0
def m1 : Entry := (1002, [s0,V.sym .u8 (x 0) (0) (255) (1) (0)], b1, [])
def fx1 : List Fact := []
theorem r1 : runF (abi fx1) funs (orP prims (memoP [m0])) 100000 60 1002 m1.2.1 = some m1.2.2 := by kernel_rfl
theorem w1 (ρ : Nat → Int) (hF : FactsOK (nf ρ) fx1) : Holds ρ m1 := holds_of (tbl := [m0]) hF ⟨w0 ρ (FactsOK.sub hF (by kernel_rfl)), trivial⟩ r1
def m2 : Entry := (1002, [V.sl [[V.sym .u8 (x 1) (0) (255) (1) (0)]],V.sym .u8 (x 0) (0) (255) (1) (0)], b1, [])
def fx2 : List Fact := [(false, (.bin .rem .u8 (x 1) ((.con (4)))), (.bin .rem .u8 (x 0) ((.con (4)))), true)]
theorem r2 : runF (abi fx2) funs (orP prims (memoP [m0])) 100000 60 1002 m2.2.1 = some m2.2.2 := by kernel_rfl
theorem w2 (ρ : Nat → Int) (hF : FactsOK (nf ρ) fx2) : Holds ρ m2 := holds_of (tbl := [m0]) hF ⟨w0 ρ (FactsOK.sub hF (by kernel_rfl)), trivial⟩ r2
def m3 : Entry := (1002, [V.sl [[V.sym .u8 (x 1) (0) (255) (1) (0)]],V.sym .u8 (x 0) (0) (255) (1) (0)], b1, [])
def fx3 : List Fact := [(false, (.bin .rem .u8 (x 1) ((.con (4)))), (.bin .rem .u8 (x 0) ((.con (4)))), false)]
theorem r3 : runF (abi fx3) funs (orP prims (memoP [m0])) 100000 60 1002 m3.2.1 = some m3.2.2 := by kernel_rfl
theorem w3 (ρ : Nat → Int) (hF : FactsOK (nf ρ) fx3) : Holds ρ m3 := holds_of (tbl := [m0]) hF ⟨w0 ρ (FactsOK.sub hF (by kernel_rfl)), trivial⟩ r3
def m4 : Entry := (1002, [V.sl [[V.sym .u8 (x 1) (0) (255) (1) (0)],[V.sym .u8 (x 2) (0) (255) (1) (0)]],V.sym .u8 (x 0) (0) (255) (1) (0)], b1, [])
def fx4 : List Fact := [(false, (.bin .rem .u8 (x 1) ((.con (4)))), (.bin .rem .u8 (x 0) ((.con (4)))), true), (false, (.bin .rem .u8 (x 2) ((.con (4)))), (.bin .rem .u8 (x 0) ((.con (4)))), true)]
theorem r4 : runF (abi fx4) funs (orP prims (memoP [m0])) 100000 60 1002 m4.2.1 = some m4.2.2 := by kernel_rfl
theorem w4 (ρ : Nat → Int) (hF : FactsOK (nf ρ) fx4) : Holds ρ m4 := holds_of (tbl := [m0]) hF ⟨w0 ρ (FactsOK.sub hF (by kernel_rfl)), trivial⟩ r4
def m5 : Entry := (1002, [V.sl [[V.sym .u8 (x 1) (0) (255) (1) (0)],[V.sym .u8 (x 2) (0) (255) (1) (0)]],V.sym .u8 (x 0) (0) (255) (1) (0)], b1, [])
def fx5 : List Fact := [(false, (.bin .rem .u8 (x 1) ((.con (4)))), (.bin .rem .u8 (x 0) ((.con (4)))), true), (false, (.bin .rem .u8 (x 2) ((.con (4)))), (.bin .rem .u8 (x 0) ((.con (4)))), false)]
theorem r5 : runF (abi fx5) funs (orP prims (memoP [m0])) 100000 60 1002 m5.2.1 = some m5.2.2 := by kernel_rfl
theorem w5 (ρ : Nat → Int) (hF : FactsOK (nf ρ) fx5) : Holds ρ m5 := holds_of (tbl := [m0]) hF ⟨w0 ρ (FactsOK.sub hF (by kernel_rfl)), trivial⟩ r5
def m6 : Entry := (1002, [V.sl [[V.sym .u8 (x 1) (0) (255) (1) (0)],[V.sym .u8 (x 2) (0) (255) (1) (0)]],V.sym .u8 (x 0) (0) (255) (1) (0)], b1, [])
def fx6 : List Fact := [(false, (.bin .rem .u8 (x 1) ((.con (4)))), (.bin .rem .u8 (x 0) ((.con (4)))), false), (false, (.bin .rem .u8 (x 2) ((.con (4)))), (.bin .rem .u8 (x 0) ((.con (4)))), true)]
theorem r6 : runF (abi fx6) funs (orP prims (memoP [m0])) 100000 60 1002 m6.2.1 = some m6.2.2 := by kernel_rfl
theorem w6 (ρ : Nat → Int) (hF : FactsOK (nf ρ) fx6) : Holds ρ m6 := holds_of (tbl := [m0]) hF ⟨w0 ρ (FactsOK.sub hF (by kernel_rfl)), trivial⟩ r6
def m7 : Entry := (1002, [V.sl [[V.sym .u8 (x 1) (0) (255) (1) (0)],[V.sym .u8 (x 2) (0) (255) (1) (0)]],V.sym .u8 (x 0) (0) (255) (1) (0)], b1, [])
def fx7 : List Fact := [(false, (.bin .rem .u8 (x 1) ((.con (4)))), (.bin .rem .u8 (x 0) ((.con (4)))), false), (false, (.bin .rem .u8 (x 2) ((.con (4)))), (.bin .rem .u8 (x 0) ((.con (4)))), false)]
theorem r7 : runF (abi fx7) funs (orP prims (memoP [m0])) 100000 60 1002 m7.2.1 = some m7.2.2 := by kernel_rfl
theorem w7 (ρ : Nat → Int) (hF : FactsOK (nf ρ) fx7) : Holds ρ m7 := holds_of (tbl := [m0]) hF ⟨w0 ρ (FactsOK.sub hF (by kernel_rfl)), trivial⟩ r7
def m8 : Entry := (1002, [V.sl [[V.sym .u8 (x 1) (0) (255) (1) (0)],[V.sym .u8 (x 2) (0) (255) (1) (0)],[V.sym .u8 (x 3) (0) (255) (1) (0)]],V.sym .u8 (x 0) (0) (255) (1) (0)], b1, [])
def fx8 : List Fact := [(false, (.bin .rem .u8 (x 1) ((.con (4)))), (.bin .rem .u8 (x 0) ((.con (4)))), true), (false, (.bin .rem .u8 (x 2) ((.con (4)))), (.bin .rem .u8 (x 0) ((.con (4)))), true), (false, (.bin .rem .u8 (x 3) ((.con (4)))), (.bin .rem .u8 (x 0) ((.con (4)))), true)]
theorem r8 : runF (abi fx8) funs (orP prims (memoP [m0])) 100000 60 1002 m8.2.1 = some m8.2.2 := by kernel_rfl
theorem w8 (ρ : Nat → Int) (hF : FactsOK (nf ρ) fx8) : Holds ρ m8 := holds_of (tbl := [m0]) hF ⟨w0 ρ (FactsOK.sub hF (by kernel_rfl)), trivial⟩ r8
def m9 : Entry := (1002, [V.sl [[V.sym .u8 (x 1) (0) (255) (1) (0)],[V.sym .u8 (x 2) (0) (255) (1) (0)],[V.sym .u8 (x 3) (0) (255) (1) (0)]],V.sym .u8 (x 0) (0) (255) (1) (0)], b1, [])
def fx9 : List Fact := [(false, (.bin .rem .u8 (x 1) ((.con (4)))), (.bin .rem .u8 (x 0) ((.con (4)))), true), (false, (.bin .rem .u8 (x 2) ((.con (4)))), (.bin .rem .u8 (x 0) ((.con (4)))), true), (false, (.bin .rem .u8 (x 3) ((.con (4)))), (.bin .rem .u8 (x 0) ((.con (4)))), false)]
theorem r9 : runF (abi fx9) funs (orP prims (memoP [m0])) 100000 60 1002 m9.2.1 = some m9.2.2 := by kernel_rfl
theorem w9 (ρ : Nat → Int) (hF : FactsOK (nf ρ) fx9) : Holds ρ m9 := holds_of (tbl := [m0]) hF ⟨w0 ρ (FactsOK.sub hF (by kernel_rfl)), trivial⟩ r9
def m10 : Entry := (1002, [V.sl [[V.sym .u8 (x 1) (0) (255) (1) (0)],[V.sym .u8 (x 2) (0) (255) (1) (0)],[V.sym .u8 (x 3) (0) (255) (1) (0)]],V.sym .u8 (x 0) (0) (255) (1) (0)], b1, [])
def fx10 : List Fact := [(false, (.bin .rem .u8 (x 1) ((.con (4)))), (.bin .rem .u8 (x 0) ((.con (4)))), true), (false, (.bin .rem .u8 (x 2) ((.con (4)))), (.bin .rem .u8 (x 0) ((.con (4)))), false), (false, (.bin .rem .u8 (x 3) ((.con (4)))), (.bin .rem .u8 (x 0) ((.con (4)))), true)]
theorem r10 : runF (abi fx10) funs (orP prims (memoP [m0])) 100000 60 1002 m10.2.1 = some m10.2.2 := by kernel_rfl
theorem w10 (ρ : Nat → Int) (hF : FactsOK (nf ρ) fx10) : Holds ρ m10 := holds_of (tbl := [m0]) hF ⟨w0 ρ (FactsOK.sub hF (by kernel_rfl)), trivial⟩ r10
def m11 : Entry := (1002, [V.sl [[V.sym .u8 (x 1) (0) (255) (1) (0)],[V.sym .u8 (x 2) (0) (255) (1) (0)],[V.sym .u8 (x 3) (0) (255) (1) (0)]],V.sym .u8 (x 0) (0) (255) (1) (0)], b1, [])
def fx11 : List Fact := [(false, (.bin .rem .u8 (x 1) ((.con (4)))), (.bin .rem .u8 (x 0) ((.con (4)))), true), (false, (.bin .rem .u8 (x 2) ((.con (4)))), (.bin .rem .u8 (x 0) ((.con (4)))), false), (false, (.bin .rem .u8 (x 3) ((.con (4)))), (.bin .rem .u8 (x 0) ((.con (4)))), false)]
theorem r11 : runF (abi fx11) funs (orP prims (memoP [m0])) 100000 60 1002 m11.2.1 = some m11.2.2 := by kernel_rfl
theorem w11 (ρ : Nat → Int) (hF : FactsOK (nf ρ) fx11) : Holds ρ m11 := holds_of (tbl := [m0]) hF ⟨w0 ρ (FactsOK.sub hF (by kernel_rfl)), trivial⟩ r11
def m12 : Entry := (1002, [V.sl [[V.sym .u8 (x 1) (0) (255) (1) (0)],[V.sym .u8 (x 2) (0) (255) (1) (0)],[V.sym .u8 (x 3) (0) (255) (1) (0)]],V.sym .u8 (x 0) (0) (255) (1) (0)], b1, [])
def fx12 : List Fact := [(false, (.bin .rem .u8 (x 1) ((.con (4)))), (.bin .rem .u8 (x 0) ((.con (4)))), false), (false, (.bin .rem .u8 (x 2) ((.con (4)))), (.bin .rem .u8 (x 0) ((.con (4)))), true), (false, (.bin .rem .u8 (x 3) ((.con (4)))), (.bin .rem .u8 (x 0) ((.con (4)))), true)]
theorem r12 : runF (abi fx12) funs (orP prims (memoP [m0])) 100000 60 1002 m12.2.1 = some m12.2.2 := by kernel_rfl
theorem w12 (ρ : Nat → Int) (hF : FactsOK (nf ρ) fx12) : Holds ρ m12 := holds_of (tbl := [m0]) hF ⟨w0 ρ (FactsOK.sub hF (by kernel_rfl)), trivial⟩ r12
def m13 : Entry := (1002, [V.sl [[V.sym .u8 (x 1) (0) (255) (1) (0)],[V.sym .u8 (x 2) (0) (255) (1) (0)],[V.sym .u8 (x 3) (0) (255) (1) (0)]],V.sym .u8 (x 0) (0) (255) (1) (0)], b1, [])
def fx13 : List Fact := [(false, (.bin .rem .u8 (x 1) ((.con (4)))), (.bin .rem .u8 (x 0) ((.con (4)))), false), (false, (.bin .rem .u8 (x 2) ((.con (4)))), (.bin .rem .u8 (x 0) ((.con (4)))), true), (false, (.bin .rem .u8 (x 3) ((.con (4)))), (.bin .rem .u8 (x 0) ((.con (4)))), false)]
theorem r13 : runF (abi fx13) funs (orP prims (memoP [m0])) 100000 60 1002 m13.2.1 = some m13.2.2 := by kernel_rfl
theorem w13 (ρ : Nat → Int) (hF : FactsOK (nf ρ) fx13) : Holds ρ m13 := holds_of (tbl := [m0]) hF ⟨w0 ρ (FactsOK.sub hF (by kernel_rfl)), trivial⟩ r13
def m14 : Entry := (1002, [V.sl [[V.sym .u8 (x 1) (0) (255) (1) (0)],[V.sym .u8 (x 2) (0) (255) (1) (0)],[V.sym .u8 (x 3) (0) (255) (1) (0)]],V.sym .u8 (x 0) (0) (255) (1) (0)], b1, [])
def fx14 : List Fact := [(false, (.bin .rem .u8 (x 1) ((.con (4)))), (.bin .rem .u8 (x 0) ((.con (4)))), false), (false, (.bin .rem .u8 (x 2) ((.con (4)))), (.bin .rem .u8 (x 0) ((.con (4)))), false), (false, (.bin .rem .u8 (x 3) ((.con (4)))), (.bin .rem .u8 (x 0) ((.con (4)))), true)]
theorem r14 : runF (abi fx14) funs (orP prims (memoP [m0])) 100000 60 1002 m14.2.1 = some m14.2.2 := by kernel_rfl
theorem w14 (ρ : Nat → Int) (hF : FactsOK (nf ρ) fx14) : Holds ρ m14 := holds_of (tbl := [m0]) hF ⟨w0 ρ (FactsOK.sub hF (by kernel_rfl)), trivial⟩ r14
def m15 : Entry := (1002, [V.sl [[V.sym .u8 (x 1) (0) (255) (1) (0)],[V.sym .u8 (x 2) (0) (255) (1) (0)],[V.sym .u8 (x 3) (0) (255) (1) (0)]],V.sym .u8 (x 0) (0) (255) (1) (0)], b1, [])
def fx15 : List Fact := [(false, (.bin .rem .u8 (x 1) ((.con (4)))), (.bin .rem .u8 (x 0) ((.con (4)))), false), (false, (.bin .rem .u8 (x 2) ((.con (4)))), (.bin .rem .u8 (x 0) ((.con (4)))), false), (false, (.bin .rem .u8 (x 3) ((.con (4)))), (.bin .rem .u8 (x 0) ((.con (4)))), false)]
theorem r15 : runF (abi fx15) funs (orP prims (memoP [m0])) 100000 60 1002 m15.2.1 = some m15.2.2 := by kernel_rfl
theorem w15 (ρ : Nat → Int) (hF : FactsOK (nf ρ) fx15) : Holds ρ m15 := holds_of (tbl := [m0]) hF ⟨w0 ρ (FactsOK.sub hF (by kernel_rfl)), trivial⟩ r15
def m16 : Entry := (1002, [V.sl [[V.sym .u8 (x 1) (0) (255) (1) (0)],[V.sym .u8 (x 2) (0) (255) (1) (0)],[V.sym .u8 (x 3) (0) (255) (1) (0)],[V.sym .u8 (x 4) (0) (255) (1) (0)]],V.sym .u8 (x 0) (0) (255) (1) (0)], b1, [])
def fx16 : List Fact := [(false, (.bin .rem .u8 (x 1) ((.con (4)))), (.bin .rem .u8 (x 0) ((.con (4)))), true), (false, (.bin .rem .u8 (x 2) ((.con (4)))), (.bin .rem .u8 (x 0) ((.con (4)))), true), (false, (.bin .rem .u8 (x 3) ((.con (4)))), (.bin .rem .u8 (x 0) ((.con (4)))), true), (false, (.bin .rem .u8 (x 4) ((.con (4)))), (.bin .rem .u8 (x 0) ((.con (4)))), true)]
theorem r16 : runF (abi fx16) funs (orP prims (memoP [m0])) 100000 60 1002 m16.2.1 = some m16.2.2 := by kernel_rfl
theorem w16 (ρ : Nat → Int) (hF : FactsOK (nf ρ) fx16) : Holds ρ m16 := holds_of (tbl := [m0]) hF ⟨w0 ρ (FactsOK.sub hF (by kernel_rfl)), trivial⟩ r16
def m17 : Entry := (1002, [V.sl [[V.sym .u8 (x 1) (0) (255) (1) (0)],[V.sym .u8 (x 2) (0) (255) (1) (0)],[V.sym .u8 (x 3) (0) (255) (1) (0)],[V.sym .u8 (x 4) (0) (255) (1) (0)]],V.sym .u8 (x 0) (0) (255) (1) (0)], b1, [])
def fx17 : List Fact := [(false, (.bin .rem .u8 (x 1) ((.con (4)))), (.bin .rem .u8 (x 0) ((.con (4)))), true), (false, (.bin .rem .u8 (x 2) ((.con (4)))), (.bin .rem .u8 (x 0) ((.con (4)))), true), (false, (.bin .rem .u8 (x 3) ((.con (4)))), (.bin .rem .u8 (x 0) ((.con (4)))), true), (false, (.bin .rem .u8 (x 4) ((.con (4)))), (.bin .rem .u8 (x 0) ((.con (4)))), false)]
theorem r17 : runF (abi fx17) funs (orP prims (memoP [m0])) 100000 60 1002 m17.2.1 = some m17.2.2 := by kernel_rfl
theorem w17 (ρ : Nat → Int) (hF : FactsOK (nf ρ) fx17) : Holds ρ m17 := holds_of (tbl := [m0]) hF ⟨w0 ρ (FactsOK.sub hF (by kernel_rfl)), trivial⟩ r17
def m18 : Entry := (1002, [V.sl [[V.sym .u8 (x 1) (0) (255) (1) (0)],[V.sym .u8 (x 2) (0) (255) (1) (0)],[V.sym .u8 (x 3) (0) (255) (1) (0)],[V.sym .u8 (x 4) (0) (255) (1) (0)]],V.sym .u8 (x 0) (0) (255) (1) (0)], b1, [])
def fx18 : List Fact := [(false, (.bin .rem .u8 (x 1) ((.con (4)))), (.bin .rem .u8 (x 0) ((.con (4)))), true), (false, (.bin .rem .u8 (x 2) ((.con (4)))), (.bin .rem .u8 (x 0) ((.con (4)))), true), (false, (.bin .rem .u8 (x 3) ((.con (4)))), (.bin .rem .u8 (x 0) ((.con (4)))), false), (false, (.bin .rem .u8 (x 4) ((.con (4)))), (.bin .rem .u8 (x 0) ((.con (4)))), true)]
theorem r18 : runF (abi fx18) funs (orP prims (memoP [m0])) 100000 60 1002 m18.2.1 = some m18.2.2 := by kernel_rfl
theorem w18 (ρ : Nat → Int) (hF : FactsOK (nf ρ) fx18) : Holds ρ m18 := holds_of (tbl := [m0]) hF ⟨w0 ρ (FactsOK.sub hF (by kernel_rfl)), trivial⟩ r18
def m19 : Entry := (1002, [V.sl [[V.sym .u8 (x 1) (0) (255) (1) (0)],[V.sym .u8 (x 2) (0) (255) (1) (0)],[V.sym .u8 (x 3) (0) (255) (1) (0)],[V.sym .u8 (x 4) (0) (255) (1) (0)]],V.sym .u8 (x 0) (0) (255) (1) (0)], b1, [])
def fx19 : List Fact := [(false, (.bin .rem .u8 (x 1) ((.con (4)))), (.bin .rem .u8 (x 0) ((.con (4)))), true), (false, (.bin .rem .u8 (x 2) ((.con (4)))), (.bin .rem .u8 (x 0) ((.con (4)))), true), (false, (.bin .rem .u8 (x 3) ((.con (4)))), (.bin .rem .u8 (x 0) ((.con (4)))), false), (false, (.bin .rem .u8 (x 4) ((.con (4)))), (.bin .rem .u8 (x 0) ((.con (4)))), false)]
theorem r19 : runF (abi fx19) funs (orP prims (memoP [m0])) 100000 60 1002 m19.2.1 = some m19.2.2 := by kernel_rfl
theorem w19 (ρ : Nat → Int) (hF : FactsOK (nf ρ) fx19) : Holds ρ m19 := holds_of (tbl := [m0]) hF ⟨w0 ρ (FactsOK.sub hF (by kernel_rfl)), trivial⟩ r19
def m20 : Entry := (1002, [V.sl [[V.sym .u8 (x 1) (0) (255) (1) (0)],[V.sym .u8 (x 2) (0) (255) (1) (0)],[V.sym .u8 (x 3) (0) (255) (1) (0)],[V.sym .u8 (x 4) (0) (255) (1) (0)]],V.sym .u8 (x 0) (0) (255) (1) (0)], b1, [])
def fx20 : List Fact := [(false, (.bin .rem .u8 (x 1) ((.con (4)))), (.bin .rem .u8 (x 0) ((.con (4)))), true), (false, (.bin .rem .u8 (x 2) ((.con (4)))), (.bin .rem .u8 (x 0) ((.con (4)))), false), (false, (.bin .rem .u8 (x 3) ((.con (4)))), (.bin .rem .u8 (x 0) ((.con (4)))), true), (false, (.bin .rem .u8 (x 4) ((.con (4)))), (.bin .rem .u8 (x 0) ((.con (4)))), true)]
theorem r20 : runF (abi fx20) funs (orP prims (memoP [m0])) 100000 60 1002 m20.2.1 = some m20.2.2 := by kernel_rfl
theorem w20 (ρ : Nat → Int) (hF : FactsOK (nf ρ) fx20) : Holds ρ m20 := holds_of (tbl := [m0]) hF ⟨w0 ρ (FactsOK.sub hF (by kernel_rfl)), trivial⟩ r20
def m21 : Entry := (1002, [V.sl [[V.sym .u8 (x 1) (0) (255) (1) (0)],[V.sym .u8 (x 2) (0) (255) (1) (0)],[V.sym .u8 (x 3) (0) (255) (1) (0)],[V.sym .u8 (x 4) (0) (255) (1) (0)]],V.sym .u8 (x 0) (0) (255) (1) (0)], b1, [])
def fx21 : List Fact := [(false, (.bin .rem .u8 (x 1) ((.con (4)))), (.bin .rem .u8 (x 0) ((.con (4)))), true), (false, (.bin .rem .u8 (x 2) ((.con (4)))), (.bin .rem .u8 (x 0) ((.con (4)))), false), (false, (.bin .rem .u8 (x 3) ((.con (4)))), (.bin .rem .u8 (x 0) ((.con (4)))), true), (false, (.bin .rem .u8 (x 4) ((.con (4)))), (.bin .rem .u8 (x 0) ((.con (4)))), false)]
theorem r21 : runF (abi fx21) funs (orP prims (memoP [m0])) 100000 60 1002 m21.2.1 = some m21.2.2 := by kernel_rfl
theorem w21 (ρ : Nat → Int) (hF : FactsOK (nf ρ) fx21) : Holds ρ m21 := holds_of (tbl := [m0]) hF ⟨w0 ρ (FactsOK.sub hF (by kernel_rfl)), trivial⟩ r21
def m22 : Entry := (1002, [V.sl [[V.sym .u8 (x 1) (0) (255) (1) (0)],[V.sym .u8 (x 2) (0) (255) (1) (0)],[V.sym .u8 (x 3) (0) (255) (1) (0)],[V.sym .u8 (x 4) (0) (255) (1) (0)]],V.sym .u8 (x 0) (0) (255) (1) (0)], b1, [])
def fx22 : List Fact := [(false, (.bin .rem .u8 (x 1) ((.con (4)))), (.bin .rem .u8 (x 0) ((.con (4)))), true), (false, (.bin .rem .u8 (x 2) ((.con (4)))), (.bin .rem .u8 (x 0) ((.con (4)))), false), (false, (.bin .rem .u8 (x 3) ((.con (4)))), (.bin .rem .u8 (x 0) ((.con (4)))), false), (false, (.bin .rem .u8 (x 4) ((.con (4)))), (.bin .rem .u8 (x 0) ((.con (4)))), true)]
theorem r22 : runF (abi fx22) funs (orP prims (memoP [m0])) 100000 60 1002 m22.2.1 = some m22.2.2 := by kernel_rfl
theorem w22 (ρ : Nat → Int) (hF : FactsOK (nf ρ) fx22) : Holds ρ m22 := holds_of (tbl := [m0]) hF ⟨w0 ρ (FactsOK.sub hF (by kernel_rfl)), trivial⟩ r22
def m23 : Entry := (1002, [V.sl [[V.sym .u8 (x 1) (0) (255) (1) (0)],[V.sym .u8 (x 2) (0) (255) (1) (0)],[V.sym .u8 (x 3) (0) (255) (1) (0)],[V.sym .u8 (x 4) (0) (255) (1) (0)]],V.sym .u8 (x 0) (0) (255) (1) (0)], b1, [])
def fx23 : List Fact := [(false, (.bin .rem .u8 (x 1) ((.con (4)))), (.bin .rem .u8 (x 0) ((.con (4)))), true), (false, (.bin .rem .u8 (x 2) ((.con (4)))), (.bin .rem .u8 (x 0) ((.con (4)))), false), (false, (.bin .rem .u8 (x 3) ((.con (4)))), (.bin .rem .u8 (x 0) ((.con (4)))), false), (false, (.bin .rem .u8 (x 4) ((.con (4)))), (.bin .rem .u8 (x 0) ((.con (4)))), false)]
theorem r23 : runF (abi fx23) funs (orP prims (memoP [m0])) 100000 60 1002 m23.2.1 = some m23.2.2 := by kernel_rfl
theorem w23 (ρ : Nat → Int) (hF : FactsOK (nf ρ) fx23) : Holds ρ m23 := holds_of (tbl := [m0]) hF ⟨w0 ρ (FactsOK.sub hF (by kernel_rfl)), trivial⟩ r23
def m24 : Entry := (1002, [V.sl [[V.sym .u8 (x 1) (0) (255) (1) (0)],[V.sym .u8 (x 2) (0) (255) (1) (0)],[V.sym .u8 (x 3) (0) (255) (1) (0)],[V.sym .u8 (x 4) (0) (255) (1) (0)]],V.sym .u8 (x 0) (0) (255) (1) (0)], b1, [])
def fx24 : List Fact := [(false, (.bin .rem .u8 (x 1) ((.con (4)))), (.bin .rem .u8 (x 0) ((.con (4)))), false), (false, (.bin .rem .u8 (x 2) ((.con (4)))), (.bin .rem .u8 (x 0) ((.con (4)))), true), (false, (.bin .rem .u8 (x 3) ((.con (4)))), (.bin .rem .u8 (x 0) ((.con (4)))), true), (false, (.bin .rem .u8 (x 4) ((.con (4)))), (.bin .rem .u8 (x 0) ((.con (4)))), true)]
theorem r24 : runF (abi fx24) funs (orP prims (memoP [m0])) 100000 60 1002 m24.2.1 = some m24.2.2 := by kernel_rfl
theorem w24 (ρ : Nat → Int) (hF : FactsOK (nf ρ) fx24) : Holds ρ m24 := holds_of (tbl := [m0]) hF ⟨w0 ρ (FactsOK.sub hF (by kernel_rfl)), trivial⟩ r24
def m25 : Entry := (1002, [V.sl [[V.sym .u8 (x 1) (0) (255) (1) (0)],[V.sym .u8 (x 2) (0) (255) (1) (0)],[V.sym .u8 (x 3) (0) (255) (1) (0)],[V.sym .u8 (x 4) (0) (255) (1) (0)]],V.sym .u8 (x 0) (0) (255) (1) (0)], b1, [])
def fx25 : List Fact := [(false, (.bin .rem .u8 (x 1) ((.con (4)))), (.bin .rem .u8 (x 0) ((.con (4)))), false), (false, (.bin .rem .u8 (x 2) ((.con (4)))), (.bin .rem .u8 (x 0) ((.con (4)))), true), (false, (.bin .rem .u8 (x 3) ((.con (4)))), (.bin .rem .u8 (x 0) ((.con (4)))), true), (false, (.bin .rem .u8 (x 4) ((.con (4)))), (.bin .rem .u8 (x 0) ((.con (4)))), false)]
theorem r25 : runF (abi fx25) funs (orP prims (memoP [m0])) 100000 60 1002 m25.2.1 = some m25.2.2 := by kernel_rfl
theorem w25 (ρ : Nat → Int) (hF : FactsOK (nf ρ) fx25) : Holds ρ m25 := holds_of (tbl := [m0]) hF ⟨w0 ρ (FactsOK.sub hF (by kernel_rfl)), trivial⟩ r25
def m26 : Entry := (1002, [V.sl [[V.sym .u8 (x 1) (0) (255) (1) (0)],[V.sym .u8 (x 2) (0) (255) (1) (0)],[V.sym .u8 (x 3) (0) (255) (1) (0)],[V.sym .u8 (x 4) (0) (255) (1) (0)]],V.sym .u8 (x 0) (0) (255) (1) (0)], b1, [])
def fx26 : List Fact := [(false, (.bin .rem .u8 (x 1) ((.con (4)))), (.bin .rem .u8 (x 0) ((.con (4)))), false), (false, (.bin .rem .u8 (x 2) ((.con (4)))), (.bin .rem .u8 (x 0) ((.con (4)))), true), (false, (.bin .rem .u8 (x 3) ((.con (4)))), (.bin .rem .u8 (x 0) ((.con (4)))), false), (false, (.bin .rem .u8 (x 4) ((.con (4)))), (.bin .rem .u8 (x 0) ((.con (4)))), true)]
theorem r26 : runF (abi fx26) funs (orP prims (memoP [m0])) 100000 60 1002 m26.2.1 = some m26.2.2 := by kernel_rfl
theorem w26 (ρ : Nat → Int) (hF : FactsOK (nf ρ) fx26) : Holds ρ m26 := holds_of (tbl := [m0]) hF ⟨w0 ρ (FactsOK.sub hF (by kernel_rfl)), trivial⟩ r26
def m27 : Entry := (1002, [V.sl [[V.sym .u8 (x 1) (0) (255) (1) (0)],[V.sym .u8 (x 2) (0) (255) (1) (0)],[V.sym .u8 (x 3) (0) (255) (1) (0)],[V.sym .u8 (x 4) (0) (255) (1) (0)]],V.sym .u8 (x 0) (0) (255) (1) (0)], b1, [])
def fx27 : List Fact := [(false, (.bin .rem .u8 (x 1) ((.con (4)))), (.bin .rem .u8 (x 0) ((.con (4)))), false), (false, (.bin .rem .u8 (x 2) ((.con (4)))), (.bin .rem .u8 (x 0) ((.con (4)))), true), (false, (.bin .rem .u8 (x 3) ((.con (4)))), (.bin .rem .u8 (x 0) ((.con (4)))), false), (false, (.bin .rem .u8 (x 4) ((.con (4)))), (.bin .rem .u8 (x 0) ((.con (4)))), false)]
theorem r27 : runF (abi fx27) funs (orP prims (memoP [m0])) 100000 60 1002 m27.2.1 = some m27.2.2 := by kernel_rfl
theorem w27 (ρ : Nat → Int) (hF : FactsOK (nf ρ) fx27) : Holds ρ m27 := holds_of (tbl := [m0]) hF ⟨w0 ρ (FactsOK.sub hF (by kernel_rfl)), trivial⟩ r27
def m28 : Entry := (1002, [V.sl [[V.sym .u8 (x 1) (0) (255) (1) (0)],[V.sym .u8 (x 2) (0) (255) (1) (0)],[V.sym .u8 (x 3) (0) (255) (1) (0)],[V.sym .u8 (x 4) (0) (255) (1) (0)]],V.sym .u8 (x 0) (0) (255) (1) (0)], b1, [])
def fx28 : List Fact := [(false, (.bin .rem .u8 (x 1) ((.con (4)))), (.bin .rem .u8 (x 0) ((.con (4)))), false), (false, (.bin .rem .u8 (x 2) ((.con (4)))), (.bin .rem .u8 (x 0) ((.con (4)))), false), (false, (.bin .rem .u8 (x 3) ((.con (4)))), (.bin .rem .u8 (x 0) ((.con (4)))), true), (false, (.bin .rem .u8 (x 4) ((.con (4)))), (.bin .rem .u8 (x 0) ((.con (4)))), true)]
theorem r28 : runF (abi fx28) funs (orP prims (memoP [m0])) 100000 60 1002 m28.2.1 = some m28.2.2 := by kernel_rfl
theorem w28 (ρ : Nat → Int) (hF : FactsOK (nf ρ) fx28) : Holds ρ m28 := holds_of (tbl := [m0]) hF ⟨w0 ρ (FactsOK.sub hF (by kernel_rfl)), trivial⟩ r28
def m29 : Entry := (1002, [V.sl [[V.sym .u8 (x 1) (0) (255) (1) (0)],[V.sym .u8 (x 2) (0) (255) (1) (0)],[V.sym .u8 (x 3) (0) (255) (1) (0)],[V.sym .u8 (x 4) (0) (255) (1) (0)]],V.sym .u8 (x 0) (0) (255) (1) (0)], b1, [])
def fx29 : List Fact := [(false, (.bin .rem .u8 (x 1) ((.con (4)))), (.bin .rem .u8 (x 0) ((.con (4)))), false), (false, (.bin .rem .u8 (x 2) ((.con (4)))), (.bin .rem .u8 (x 0) ((.con (4)))), false), (false, (.bin .rem .u8 (x 3) ((.con (4)))), (.bin .rem .u8 (x 0) ((.con (4)))), true), (false, (.bin .rem .u8 (x 4) ((.con (4)))), (.bin .rem .u8 (x 0) ((.con (4)))), false)]
theorem r29 : runF (abi fx29) funs (orP prims (memoP [m0])) 100000 60 1002 m29.2.1 = some m29.2.2 := by kernel_rfl
theorem w29 (ρ : Nat → Int) (hF : FactsOK (nf ρ) fx29) : Holds ρ m29 := holds_of (tbl := [m0]) hF ⟨w0 ρ (FactsOK.sub hF (by kernel_rfl)), trivial⟩ r29
def m30 : Entry := (1002, [V.sl [[V.sym .u8 (x 1) (0) (255) (1) (0)],[V.sym .u8 (x 2) (0) (255) (1) (0)],[V.sym .u8 (x 3) (0) (255) (1) (0)],[V.sym .u8 (x 4) (0) (255) (1) (0)]],V.sym .u8 (x 0) (0) (255) (1) (0)], b1, [])
def fx30 : List Fact := [(false, (.bin .rem .u8 (x 1) ((.con (4)))), (.bin .rem .u8 (x 0) ((.con (4)))), false), (false, (.bin .rem .u8 (x 2) ((.con (4)))), (.bin .rem .u8 (x 0) ((.con (4)))), false), (false, (.bin .rem .u8 (x 3) ((.con (4)))), (.bin .rem .u8 (x 0) ((.con (4)))), false), (false, (.bin .rem .u8 (x 4) ((.con (4)))), (.bin .rem .u8 (x 0) ((.con (4)))), true)]
theorem r30 : runF (abi fx30) funs (orP prims (memoP [m0])) 100000 60 1002 m30.2.1 = some m30.2.2 := by kernel_rfl
theorem w30 (ρ : Nat → Int) (hF : FactsOK (nf ρ) fx30) : Holds ρ m30 := holds_of (tbl := [m0]) hF ⟨w0 ρ (FactsOK.sub hF (by kernel_rfl)), trivial⟩ r30
def m31 : Entry := (1002, [V.sl [[V.sym .u8 (x 1) (0) (255) (1) (0)],[V.sym .u8 (x 2) (0) (255) (1) (0)],[V.sym .u8 (x 3) (0) (255) (1) (0)],[V.sym .u8 (x 4) (0) (255) (1) (0)]],V.sym .u8 (x 0) (0) (255) (1) (0)], b1, [])
def fx31 : List Fact := [(false, (.bin .rem .u8 (x 1) ((.con (4)))), (.bin .rem .u8 (x 0) ((.con (4)))), false), (false, (.bin .rem .u8 (x 2) ((.con (4)))), (.bin .rem .u8 (x 0) ((.con (4)))), false), (false, (.bin .rem .u8 (x 3) ((.con (4)))), (.bin .rem .u8 (x 0) ((.con (4)))), false), (false, (.bin .rem .u8 (x 4) ((.con (4)))), (.bin .rem .u8 (x 0) ((.con (4)))), false)]
theorem r31 : runF (abi fx31) funs (orP prims (memoP [m0])) 100000 60 1002 m31.2.1 = some m31.2.2 := by kernel_rfl
theorem w31 (ρ : Nat → Int) (hF : FactsOK (nf ρ) fx31) : Holds ρ m31 := holds_of (tbl := [m0]) hF ⟨w0 ρ (FactsOK.sub hF (by kernel_rfl)), trivial⟩ r31
def m32 : Entry := (1002, [V.sl [[V.sym .u8 (x 1) (0) (255) (1) (0)],[V.sym .u8 (x 2) (0) (255) (1) (0)],[V.sym .u8 (x 3) (0) (255) (1) (0)],[V.sym .u8 (x 4) (0) (255) (1) (0)],[V.sym .u8 (x 5) (0) (255) (1) (0)]],V.sym .u8 (x 0) (0) (255) (1) (0)], b1, [])
def fx32 : List Fact := [(false, (.bin .rem .u8 (x 1) ((.con (4)))), (.bin .rem .u8 (x 0) ((.con (4)))), true), (false, (.bin .rem .u8 (x 2) ((.con (4)))), (.bin .rem .u8 (x 0) ((.con (4)))), true), (false, (.bin .rem .u8 (x 3) ((.con (4)))), (.bin .rem .u8 (x 0) ((.con (4)))), true), (false, (.bin .rem .u8 (x 4) ((.con (4)))), (.bin .rem .u8 (x 0) ((.con (4)))), true), (false, (.bin .rem .u8 (x 5) ((.con (4)))), (.bin .rem .u8 (x 0) ((.con (4)))), true)]
theorem r32 : runF (abi fx32) funs (orP prims (memoP [m0])) 100000 60 1002 m32.2.1 = some m32.2.2 := by kernel_rfl
theorem w32 (ρ : Nat → Int) (hF : FactsOK (nf ρ) fx32) : Holds ρ m32 := holds_of (tbl := [m0]) hF ⟨w0 ρ (FactsOK.sub hF (by kernel_rfl)), trivial⟩ r32
def m33 : Entry := (1002, [V.sl [[V.sym .u8 (x 1) (0) (255) (1) (0)],[V.sym .u8 (x 2) (0) (255) (1) (0)],[V.sym .u8 (x 3) (0) (255) (1) (0)],[V.sym .u8 (x 4) (0) (255) (1) (0)],[V.sym .u8 (x 5) (0) (255) (1) (0)]],V.sym .u8 (x 0) (0) (255) (1) (0)], b1, [])
def fx33 : List Fact := [(false, (.bin .rem .u8 (x 1) ((.con (4)))), (.bin .rem .u8 (x 0) ((.con (4)))), true), (false, (.bin .rem .u8 (x 2) ((.con (4)))), (.bin .rem .u8 (x 0) ((.con (4)))), true), (false, (.bin .rem .u8 (x 3) ((.con (4)))), (.bin .rem .u8 (x 0) ((.con (4)))), true), (false, (.bin .rem .u8 (x 4) ((.con (4)))), (.bin .rem .u8 (x 0) ((.con (4)))), true), (false, (.bin .rem .u8 (x 5) ((.con (4)))), (.bin .rem .u8 (x 0) ((.con (4)))), false)]
theorem r33 : runF (abi fx33) funs (orP prims (memoP [m0])) 100000 60 1002 m33.2.1 = some m33.2.2 := by kernel_rfl
theorem w33 (ρ : Nat → Int) (hF : FactsOK (nf ρ) fx33) : Holds ρ m33 := holds_of (tbl := [m0]) hF ⟨w0 ρ (FactsOK.sub hF (by kernel_rfl)), trivial⟩ r33
def m34 : Entry := (1002, [V.sl [[V.sym .u8 (x 1) (0) (255) (1) (0)],[V.sym .u8 (x 2) (0) (255) (1) (0)],[V.sym .u8 (x 3) (0) (255) (1) (0)],[V.sym .u8 (x 4) (0) (255) (1) (0)],[V.sym .u8 (x 5) (0) (255) (1) (0)]],V.sym .u8 (x 0) (0) (255) (1) (0)], b1, [])
def fx34 : List Fact := [(false, (.bin .rem .u8 (x 1) ((.con (4)))), (.bin .rem .u8 (x 0) ((.con (4)))), true), (false, (.bin .rem .u8 (x 2) ((.con (4)))), (.bin .rem .u8 (x 0) ((.con (4)))), true), (false, (.bin .rem .u8 (x 3) ((.con (4)))), (.bin .rem .u8 (x 0) ((.con (4)))), true), (false, (.bin .rem .u8 (x 4) ((.con (4)))), (.bin .rem .u8 (x 0) ((.con (4)))), false), (false, (.bin .rem .u8 (x 5) ((.con (4)))), (.bin .rem .u8 (x 0) ((.con (4)))), true)]
theorem r34 : runF (abi fx34) funs (orP prims (memoP [m0])) 100000 60 1002 m34.2.1 = some m34.2.2 := by kernel_rfl
theorem w34 (ρ : Nat → Int) (hF : FactsOK (nf ρ) fx34) : Holds ρ m34 := holds_of (tbl := [m0]) hF ⟨w0 ρ (FactsOK.sub hF (by kernel_rfl)), trivial⟩ r34
def m35 : Entry := (1002, [V.sl [[V.sym .u8 (x 1) (0) (255) (1) (0)],[V.sym .u8 (x 2) (0) (255) (1) (0)],[V.sym .u8 (x 3) (0) (255) (1) (0)],[V.sym .u8 (x 4) (0) (255) (1) (0)],[V.sym .u8 (x 5) (0) (255) (1) (0)]],V.sym .u8 (x 0) (0) (255) (1) (0)], b1, [])
def fx35 : List Fact := [(false, (.bin .rem .u8 (x 1) ((.con (4)))), (.bin .rem .u8 (x 0) ((.con (4)))), true), (false, (.bin .rem .u8 (x 2) ((.con (4)))), (.bin .rem .u8 (x 0) ((.con (4)))), true), (false, (.bin .rem .u8 (x 3) ((.con (4)))), (.bin .rem .u8 (x 0) ((.con (4)))), true), (false, (.bin .rem .u8 (x 4) ((.con (4)))), (.bin .rem .u8 (x 0) ((.con (4)))), false), (false, (.bin .rem .u8 (x 5) ((.con (4)))), (.bin .rem .u8 (x 0) ((.con (4)))), false)]
theorem r35 : runF (abi fx35) funs (orP prims (memoP [m0])) 100000 60 1002 m35.2.1 = some m35.2.2 := by kernel_rfl
theorem w35 (ρ : Nat → Int) (hF : FactsOK (nf ρ) fx35) : Holds ρ m35 := holds_of (tbl := [m0]) hF ⟨w0 ρ (FactsOK.sub hF (by kernel_rfl)), trivial⟩ r35
def m36 : Entry := (1002, [V.sl [[V.sym .u8 (x 1) (0) (255) (1) (0)],[V.sym .u8 (x 2) (0) (255) (1) (0)],[V.sym .u8 (x 3) (0) (255) (1) (0)],[V.sym .u8 (x 4) (0) (255) (1) (0)],[V.sym .u8 (x 5) (0) (255) (1) (0)]],V.sym .u8 (x 0) (0) (255) (1) (0)], b1, [])
def fx36 : List Fact := [(false, (.bin .rem .u8 (x 1) ((.con (4)))), (.bin .rem .u8 (x 0) ((.con (4)))), true), (false, (.bin .rem .u8 (x 2) ((.con (4)))), (.bin .rem .u8 (x 0) ((.con (4)))), true), (false, (.bin .rem .u8 (x 3) ((.con (4)))), (.bin .rem .u8 (x 0) ((.con (4)))), false), (false, (.bin .rem .u8 (x 4) ((.con (4)))), (.bin .rem .u8 (x 0) ((.con (4)))), true), (false, (.bin .rem .u8 (x 5) ((.con (4)))), (.bin .rem .u8 (x 0) ((.con (4)))), true)]
theorem r36 : runF (abi fx36) funs (orP prims (memoP [m0])) 100000 60 1002 m36.2.1 = some m36.2.2 := by kernel_rfl
theorem w36 (ρ : Nat → Int) (hF : FactsOK (nf ρ) fx36) : Holds ρ m36 := holds_of (tbl := [m0]) hF ⟨w0 ρ (FactsOK.sub hF (by kernel_rfl)), trivial⟩ r36
def m37 : Entry := (1002, [V.sl [[V.sym .u8 (x 1) (0) (255) (1) (0)],[V.sym .u8 (x 2) (0) (255) (1) (0)],[V.sym .u8 (x 3) (0) (255) (1) (0)],[V.sym .u8 (x 4) (0) (255) (1) (0)],[V.sym .u8 (x 5) (0) (255) (1) (0)]],V.sym .u8 (x 0) (0) (255) (1) (0)], b1, [])
def fx37 : List Fact := [(false, (.bin .rem .u8 (x 1) ((.con (4)))), (.bin .rem .u8 (x 0) ((.con (4)))), true), (false, (.bin .rem .u8 (x 2) ((.con (4)))), (.bin .rem .u8 (x 0) ((.con (4)))), true), (false, (.bin .rem .u8 (x 3) ((.con (4)))), (.bin .rem .u8 (x 0) ((.con (4)))), false), (false, (.bin .rem .u8 (x 4) ((.con (4)))), (.bin .rem .u8 (x 0) ((.con (4)))), true), (false, (.bin .rem .u8 (x 5) ((.con (4)))), (.bin .rem .u8 (x 0) ((.con (4)))), false)]
theorem r37 : runF (abi fx37) funs (orP prims (memoP [m0])) 100000 60 1002 m37.2.1 = some m37.2.2 := by kernel_rfl
theorem w37 (ρ : Nat → Int) (hF : FactsOK (nf ρ) fx37) : Holds ρ m37 := holds_of (tbl := [m0]) hF ⟨w0 ρ (FactsOK.sub hF (by kernel_rfl)), trivial⟩ r37
def m38 : Entry := (1002, [V.sl [[V.sym .u8 (x 1) (0) (255) (1) (0)],[V.sym .u8 (x 2) (0) (255) (1) (0)],[V.sym .u8 (x 3) (0) (255) (1) (0)],[V.sym .u8 (x 4) (0) (255) (1) (0)],[V.sym .u8 (x 5) (0) (255) (1) (0)]],V.sym .u8 (x 0) (0) (255) (1) (0)], b1, [])
def fx38 : List Fact := [(false, (.bin .rem .u8 (x 1) ((.con (4)))), (.bin .rem .u8 (x 0) ((.con (4)))), true), (false, (.bin .rem .u8 (x 2) ((.con (4)))), (.bin .rem .u8 (x 0) ((.con (4)))), true), (false, (.bin .rem .u8 (x 3) ((.con (4)))), (.bin .rem .u8 (x 0) ((.con (4)))), false), (false, (.bin .rem .u8 (x 4) ((.con (4)))), (.bin .rem .u8 (x 0) ((.con (4)))), false), (false, (.bin .rem .u8 (x 5) ((.con (4)))), (.bin .rem .u8 (x 0) ((.con (4)))), true)]
theorem r38 : runF (abi fx38) funs (orP prims (memoP [m0])) 100000 60 1002 m38.2.1 = some m38.2.2 := by kernel_rfl
theorem w38 (ρ : Nat → Int) (hF : FactsOK (nf ρ) fx38) : Holds ρ m38 := holds_of (tbl := [m0]) hF ⟨w0 ρ (FactsOK.sub hF (by kernel_rfl)), trivial⟩ r38
def m39 : Entry := (1002, [V.sl [[V.sym .u8 (x 1) (0) (255) (1) (0)],[V.sym .u8 (x 2) (0) (255) (1) (0)],[V.sym .u8 (x 3) (0) (255) (1) (0)],[V.sym .u8 (x 4) (0) (255) (1) (0)],[V.sym .u8 (x 5) (0) (255) (1) (0)]],V.sym .u8 (x 0) (0) (255) (1) (0)], b1, [])
def fx39 : List Fact := [(false, (.bin .rem .u8 (x 1) ((.con (4)))), (.bin .rem .u8 (x 0) ((.con (4)))), true), (false, (.bin .rem .u8 (x 2) ((.con (4)))), (.bin .rem .u8 (x 0) ((.con (4)))), true), (false, (.bin .rem .u8 (x 3) ((.con (4)))), (.bin .rem .u8 (x 0) ((.con (4)))), false), (false, (.bin .rem .u8 (x 4) ((.con (4)))), (.bin .rem .u8 (x 0) ((.con (4)))), false), (false, (.bin .rem .u8 (x 5) ((.con (4)))), (.bin .rem .u8 (x 0) ((.con (4)))), false)]
theorem r39 : runF (abi fx39) funs (orP prims (memoP [m0])) 100000 60 1002 m39.2.1 = some m39.2.2 := by kernel_rfl
theorem w39 (ρ : Nat → Int) (hF : FactsOK (nf ρ) fx39) : Holds ρ m39 := holds_of (tbl := [m0]) hF ⟨w0 ρ (FactsOK.sub hF (by kernel_rfl)), trivial⟩ r39
def m40 : Entry := (1002, [V.sl [[V.sym .u8 (x 1) (0) (255) (1) (0)],[V.sym .u8 (x 2) (0) (255) (1) (0)],[V.sym .u8 (x 3) (0) (255) (1) (0)],[V.sym .u8 (x 4) (0) (255) (1) (0)],[V.sym .u8 (x 5) (0) (255) (1) (0)]],V.sym .u8 (x 0) (0) (255) (1) (0)], b1, [])
def fx40 : List Fact := [(false, (.bin .rem .u8 (x 1) ((.con (4)))), (.bin .rem .u8 (x 0) ((.con (4)))), true), (false, (.bin .rem .u8 (x 2) ((.con (4)))), (.bin .rem .u8 (x 0) ((.con (4)))), false), (false, (.bin .rem .u8 (x 3) ((.con (4)))), (.bin .rem .u8 (x 0) ((.con (4)))), true), (false, (.bin .rem .u8 (x 4) ((.con (4)))), (.bin .rem .u8 (x 0) ((.con (4)))), true), (false, (.bin .rem .u8 (x 5) ((.con (4)))), (.bin .rem .u8 (x 0) ((.con (4)))), true)]
theorem r40 : runF (abi fx40) funs (orP prims (memoP [m0])) 100000 60 1002 m40.2.1 = some m40.2.2 := by kernel_rfl
theorem w40 (ρ : Nat → Int) (hF : FactsOK (nf ρ) fx40) : Holds ρ m40 := holds_of (tbl := [m0]) hF ⟨w0 ρ (FactsOK.sub hF (by kernel_rfl)), trivial⟩ r40
def m41 : Entry := (1002, [V.sl [[V.sym .u8 (x 1) (0) (255) (1) (0)],[V.sym .u8 (x 2) (0) (255) (1) (0)],[V.sym .u8 (x 3) (0) (255) (1) (0)],[V.sym .u8 (x 4) (0) (255) (1) (0)],[V.sym .u8 (x 5) (0) (255) (1) (0)]],V.sym .u8 (x 0) (0) (255) (1) (0)], b1, [])
def fx41 : List Fact := [(false, (.bin .rem .u8 (x 1) ((.con (4)))), (.bin .rem .u8 (x 0) ((.con (4)))), true), (false, (.bin .rem .u8 (x 2) ((.con (4)))), (.bin .rem .u8 (x 0) ((.con (4)))), false), (false, (.bin .rem .u8 (x 3) ((.con (4)))), (.bin .rem .u8 (x 0) ((.con (4)))), true), (false, (.bin .rem .u8 (x 4) ((.con (4)))), (.bin .rem .u8 (x 0) ((.con (4)))), true), (false, (.bin .rem .u8 (x 5) ((.con (4)))), (.bin .rem .u8 (x 0) ((.con (4)))), false)]
theorem r41 : runF (abi fx41) funs (orP prims (memoP [m0])) 100000 60 1002 m41.2.1 = some m41.2.2 := by kernel_rfl
theorem w41 (ρ : Nat → Int) (hF : FactsOK (nf ρ) fx41) : Holds ρ m41 := holds_of (tbl := [m0]) hF ⟨w0 ρ (FactsOK.sub hF (by kernel_rfl)), trivial⟩ r41
def m42 : Entry := (1002, [V.sl [[V.sym .u8 (x 1) (0) (255) (1) (0)],[V.sym .u8 (x 2) (0) (255) (1) (0)],[V.sym .u8 (x 3) (0) (255) (1) (0)],[V.sym .u8 (x 4) (0) (255) (1) (0)],[V.sym .u8 (x 5) (0) (255) (1) (0)]],V.sym .u8 (x 0) (0) (255) (1) (0)], b1, [])
def fx42 : List Fact := [(false, (.bin .rem .u8 (x 1) ((.con (4)))), (.bin .rem .u8 (x 0) ((.con (4)))), true), (false, (.bin .rem .u8 (x 2) ((.con (4)))), (.bin .rem .u8 (x 0) ((.con (4)))), false), (false, (.bin .rem .u8 (x 3) ((.con (4)))), (.bin .rem .u8 (x 0) ((.con (4)))), true), (false, (.bin .rem .u8 (x 4) ((.con (4)))), (.bin .rem .u8 (x 0) ((.con (4)))), false), (false, (.bin .rem .u8 (x 5) ((.con (4)))), (.bin .rem .u8 (x 0) ((.con (4)))), true)]
theorem r42 : runF (abi fx42) funs (orP prims (memoP [m0])) 100000 60 1002 m42.2.1 = some m42.2.2 := by kernel_rfl
theorem w42 (ρ : Nat → Int) (hF : FactsOK (nf ρ) fx42) : Holds ρ m42 := holds_of (tbl := [m0]) hF ⟨w0 ρ (FactsOK.sub hF (by kernel_rfl)), trivial⟩ r42
def m43 : Entry := (1002, [V.sl [[V.sym .u8 (x 1) (0) (255) (1) (0)],[V.sym .u8 (x 2) (0) (255) (1) (0)],[V.sym .u8 (x 3) (0) (255) (1) (0)],[V.sym .u8 (x 4) (0) (255) (1) (0)],[V.sym .u8 (x 5) (0) (255) (1) (0)]],V.sym .u8 (x 0) (0) (255) (1) (0)], b1, [])
def fx43 : List Fact := [(false, (.bin .rem .u8 (x 1) ((.con (4)))), (.bin .rem .u8 (x 0) ((.con (4)))), true), (false, (.bin .rem .u8 (x 2) ((.con (4)))), (.bin .rem .u8 (x 0) ((.con (4)))), false), (false, (.bin .rem .u8 (x 3) ((.con (4)))), (.bin .rem .u8 (x 0) ((.con (4)))), true), (false, (.bin .rem .u8 (x 4) ((.con (4)))), (.bin .rem .u8 (x 0) ((.con (4)))), false), (false, (.bin .rem .u8 (x 5) ((.con (4)))), (.bin .rem .u8 (x 0) ((.con (4)))), false)]
theorem r43 : runF (abi fx43) funs (orP prims (memoP [m0])) 100000 60 1002 m43.2.1 = some m43.2.2 := by kernel_rfl
theorem w43 (ρ : Nat → Int) (hF : FactsOK (nf ρ) fx43) : Holds ρ m43 := holds_of (tbl := [m0]) hF ⟨w0 ρ (FactsOK.sub hF (by kernel_rfl)), trivial⟩ r43
def m44 : Entry := (1002, [V.sl [[V.sym .u8 (x 1) (0) (255) (1) (0)],[V.sym .u8 (x 2) (0) (255) (1) (0)],[V.sym .u8 (x 3) (0) (255) (1) (0)],[V.sym .u8 (x 4) (0) (255) (1) (0)],[V.sym .u8 (x 5) (0) (255) (1) (0)]],V.sym .u8 (x 0) (0) (255) (1) (0)], b1, [])
def fx44 : List Fact := [(false, (.bin .rem .u8 (x 1) ((.con (4)))), (.bin .rem .u8 (x 0) ((.con (4)))), true), (false, (.bin .rem .u8 (x 2) ((.con (4)))), (.bin .rem .u8 (x 0) ((.con (4)))), false), (false, (.bin .rem .u8 (x 3) ((.con (4)))), (.bin .rem .u8 (x 0) ((.con (4)))), false), (false, (.bin .rem .u8 (x 4) ((.con (4)))), (.bin .rem .u8 (x 0) ((.con (4)))), true), (false, (.bin .rem .u8 (x 5) ((.con (4)))), (.bin .rem .u8 (x 0) ((.con (4)))), true)]
theorem r44 : runF (abi fx44) funs (orP prims (memoP [m0])) 100000 60 1002 m44.2.1 = some m44.2.2 := by kernel_rfl
theorem w44 (ρ : Nat → Int) (hF : FactsOK (nf ρ) fx44) : Holds ρ m44 := holds_of (tbl := [m0]) hF ⟨w0 ρ (FactsOK.sub hF (by kernel_rfl)), trivial⟩ r44
def m45 : Entry := (1002, [V.sl [[V.sym .u8 (x 1) (0) (255) (1) (0)],[V.sym .u8 (x 2) (0) (255) (1) (0)],[V.sym .u8 (x 3) (0) (255) (1) (0)],[V.sym .u8 (x 4) (0) (255) (1) (0)],[V.sym .u8 (x 5) (0) (255) (1) (0)]],V.sym .u8 (x 0) (0) (255) (1) (0)], b1, [])
def fx45 : List Fact := [(false, (.bin .rem .u8 (x 1) ((.con (4)))), (.bin .rem .u8 (x 0) ((.con (4)))), true), (false, (.bin .rem .u8 (x 2) ((.con (4)))), (.bin .rem .u8 (x 0) ((.con (4)))), false), (false, (.bin .rem .u8 (x 3) ((.con (4)))), (.bin .rem .u8 (x 0) ((.con (4)))), false), (false, (.bin .rem .u8 (x 4) ((.con (4)))), (.bin .rem .u8 (x 0) ((.con (4)))), true), (false, (.bin .rem .u8 (x 5) ((.con (4)))), (.bin .rem .u8 (x 0) ((.con (4)))), false)]
theorem r45 : runF (abi fx45) funs (orP prims (memoP [m0])) 100000 60 1002 m45.2.1 = some m45.2.2 := by kernel_rfl
theorem w45 (ρ : Nat → Int) (hF : FactsOK (nf ρ) fx45) : Holds ρ m45 := holds_of (tbl := [m0]) hF ⟨w0 ρ (FactsOK.sub hF (by kernel_rfl)), trivial⟩ r45
def m46 : Entry := (1002, [V.sl [[V.sym .u8 (x 1) (0) (255) (1) (0)],[V.sym .u8 (x 2) (0) (255) (1) (0)],[V.sym .u8 (x 3) (0) (255) (1) (0)],[V.sym .u8 (x 4) (0) (255) (1) (0)],[V.sym .u8 (x 5) (0) (255) (1) (0)]],V.sym .u8 (x 0) (0) (255) (1) (0)], b1, [])
def fx46 : List Fact := [(false, (.bin .rem .u8 (x 1) ((.con (4)))), (.bin .rem .u8 (x 0) ((.con (4)))), true), (false, (.bin .rem .u8 (x 2) ((.con (4)))), (.bin .rem .u8 (x 0) ((.con (4)))), false), (false, (.bin .rem .u8 (x 3) ((.con (4)))), (.bin .rem .u8 (x 0) ((.con (4)))), false), (false, (.bin .rem .u8 (x 4) ((.con (4)))), (.bin .rem .u8 (x 0) ((.con (4)))), false), (false, (.bin .rem .u8 (x 5) ((.con (4)))), (.bin .rem .u8 (x 0) ((.con (4)))), true)]
theorem r46 : runF (abi fx46) funs (orP prims (memoP [m0])) 100000 60 1002 m46.2.1 = some m46.2.2 := by kernel_rfl
theorem w46 (ρ : Nat → Int) (hF : FactsOK (nf ρ) fx46) : Holds ρ m46 := holds_of (tbl := [m0]) hF ⟨w0 ρ (FactsOK.sub hF (by kernel_rfl)), trivial⟩ r46
def m47 : Entry := (1002, [V.sl [[V.sym .u8 (x 1) (0) (255) (1) (0)],[V.sym .u8 (x 2) (0) (255) (1) (0)],[V.sym .u8 (x 3) (0) (255) (1) (0)],[V.sym .u8 (x 4) (0) (255) (1) (0)],[V.sym .u8 (x 5) (0) (255) (1) (0)]],V.sym .u8 (x 0) (0) (255) (1) (0)], b1, [])
def fx47 : List Fact := [(false, (.bin .rem .u8 (x 1) ((.con (4)))), (.bin .rem .u8 (x 0) ((.con (4)))), true), (false, (.bin .rem .u8 (x 2) ((.con (4)))), (.bin .rem .u8 (x 0) ((.con (4)))), false), (false, (.bin .rem .u8 (x 3) ((.con (4)))), (.bin .rem .u8 (x 0) ((.con (4)))), false), (false, (.bin .rem .u8 (x 4) ((.con (4)))), (.bin .rem .u8 (x 0) ((.con (4)))), false), (false, (.bin .rem .u8 (x 5) ((.con (4)))), (.bin .rem .u8 (x 0) ((.con (4)))), false)]
theorem r47 : runF (abi fx47) funs (orP prims (memoP [m0])) 100000 60 1002 m47.2.1 = some m47.2.2 := by kernel_rfl
theorem w47 (ρ : Nat → Int) (hF : FactsOK (nf ρ) fx47) : Holds ρ m47 := holds_of (tbl := [m0]) hF ⟨w0 ρ (FactsOK.sub hF (by kernel_rfl)), trivial⟩ r47
def m48 : Entry := (1002, [V.sl [[V.sym .u8 (x 1) (0) (255) (1) (0)],[V.sym .u8 (x 2) (0) (255) (1) (0)],[V.sym .u8 (x 3) (0) (255) (1) (0)],[V.sym .u8 (x 4) (0) (255) (1) (0)],[V.sym .u8 (x 5) (0) (255) (1) (0)]],V.sym .u8 (x 0) (0) (255) (1) (0)], b1, [])
def fx48 : List Fact := [(false, (.bin .rem .u8 (x 1) ((.con (4)))), (.bin .rem .u8 (x 0) ((.con (4)))), false), (false, (.bin .rem .u8 (x 2) ((.con (4)))), (.bin .rem .u8 (x 0) ((.con (4)))), true), (false, (.bin .rem .u8 (x 3) ((.con (4)))), (.bin .rem .u8 (x 0) ((.con (4)))), true), (false, (.bin .rem .u8 (x 4) ((.con (4)))), (.bin .rem .u8 (x 0) ((.con (4)))), true), (false, (.bin .rem .u8 (x 5) ((.con (4)))), (.bin .rem .u8 (x 0) ((.con (4)))), true)]
theorem r48 : runF (abi fx48) funs (orP prims (memoP [m0])) 100000 60 1002 m48.2.1 = some m48.2.2 := by kernel_rfl
theorem w48 (ρ : Nat → Int) (hF : FactsOK (nf ρ) fx48) : Holds ρ m48 := holds_of (tbl := [m0]) hF ⟨w0 ρ (FactsOK.sub hF (by kernel_rfl)), trivial⟩ r48
def m49 : Entry := (1002, [V.sl [[V.sym .u8 (x 1) (0) (255) (1) (0)],[V.sym .u8 (x 2) (0) (255) (1) (0)],[V.sym .u8 (x 3) (0) (255) (1) (0)],[V.sym .u8 (x 4) (0) (255) (1) (0)],[V.sym .u8 (x 5) (0) (255) (1) (0)]],V.sym .u8 (x 0) (0) (255) (1) (0)], b1, [])
def fx49 : List Fact := [(false, (.bin .rem .u8 (x 1) ((.con (4)))), (.bin .rem .u8 (x 0) ((.con (4)))), false), (false, (.bin .rem .u8 (x 2) ((.con (4)))), (.bin .rem .u8 (x 0) ((.con (4)))), true), (false, (.bin .rem .u8 (x 3) ((.con (4)))), (.bin .rem .u8 (x 0) ((.con (4)))), true), (false, (.bin .rem .u8 (x 4) ((.con (4)))), (.bin .rem .u8 (x 0) ((.con (4)))), true), (false, (.bin .rem .u8 (x 5) ((.con (4)))), (.bin .rem .u8 (x 0) ((.con (4)))), false)]
theorem r49 : runF (abi fx49) funs (orP prims (memoP [m0])) 100000 60 1002 m49.2.1 = some m49.2.2 := by kernel_rfl
theorem w49 (ρ : Nat → Int) (hF : FactsOK (nf ρ) fx49) : Holds ρ m49 := holds_of (tbl := [m0]) hF ⟨w0 ρ (FactsOK.sub hF (by kernel_rfl)), trivial⟩ r49
def m50 : Entry := (1002, [V.sl [[V.sym .u8 (x 1) (0) (255) (1) (0)],[V.sym .u8 (x 2) (0) (255) (1) (0)],[V.sym .u8 (x 3) (0) (255) (1) (0)],[V.sym .u8 (x 4) (0) (255) (1) (0)],[V.sym .u8 (x 5) (0) (255) (1) (0)]],V.sym .u8 (x 0) (0) (255) (1) (0)], b1, [])
def fx50 : List Fact := [(false, (.bin .rem .u8 (x 1) ((.con (4)))), (.bin .rem .u8 (x 0) ((.con (4)))), false), (false, (.bin .rem .u8 (x 2) ((.con (4)))), (.bin .rem .u8 (x 0) ((.con (4)))), true), (false, (.bin .rem .u8 (x 3) ((.con (4)))), (.bin .rem .u8 (x 0) ((.con (4)))), true), (false, (.bin .rem .u8 (x 4) ((.con (4)))), (.bin .rem .u8 (x 0) ((.con (4)))), false), (false, (.bin .rem .u8 (x 5) ((.con (4)))), (.bin .rem .u8 (x 0) ((.con (4)))), true)]
theorem r50 : runF (abi fx50) funs (orP prims (memoP [m0])) 100000 60 1002 m50.2.1 = some m50.2.2 := by kernel_rfl
theorem w50 (ρ : Nat → Int) (hF : FactsOK (nf ρ) fx50) : Holds ρ m50 := holds_of (tbl := [m0]) hF ⟨w0 ρ (FactsOK.sub hF (by kernel_rfl)), trivial⟩ r50
def m51 : Entry := (1002, [V.sl [[V.sym .u8 (x 1) (0) (255) (1) (0)],[V.sym .u8 (x 2) (0) (255) (1) (0)],[V.sym .u8 (x 3) (0) (255) (1) (0)],[V.sym .u8 (x 4) (0) (255) (1) (0)],[V.sym .u8 (x 5) (0) (255) (1) (0)]],V.sym .u8 (x 0) (0) (255) (1) (0)], b1, [])
def fx51 : List Fact := [(false, (.bin .rem .u8 (x 1) ((.con (4)))), (.bin .rem .u8 (x 0) ((.con (4)))), false), (false, (.bin .rem .u8 (x 2) ((.con (4)))), (.bin .rem .u8 (x 0) ((.con (4)))), true), (false, (.bin .rem .u8 (x 3) ((.con (4)))), (.bin .rem .u8 (x 0) ((.con (4)))), true), (false, (.bin .rem .u8 (x 4) ((.con (4)))), (.bin .rem .u8 (x 0) ((.con (4)))), false), (false, (.bin .rem .u8 (x 5) ((.con (4)))), (.bin .rem .u8 (x 0) ((.con (4)))), false)]
theorem r51 : runF (abi fx51) funs (orP prims (memoP [m0])) 100000 60 1002 m51.2.1 = some m51.2.2 := by kernel_rfl
theorem w51 (ρ : Nat → Int) (hF : FactsOK (nf ρ) fx51) : Holds ρ m51 := holds_of (tbl := [m0]) hF ⟨w0 ρ (FactsOK.sub hF (by kernel_rfl)), trivial⟩ r51
def m52 : Entry := (1002, [V.sl [[V.sym .u8 (x 1) (0) (255) (1) (0)],[V.sym .u8 (x 2) (0) (255) (1) (0)],[V.sym .u8 (x 3) (0) (255) (1) (0)],[V.sym .u8 (x 4) (0) (255) (1) (0)],[V.sym .u8 (x 5) (0) (255) (1) (0)]],V.sym .u8 (x 0) (0) (255) (1) (0)], b1, [])
def fx52 : List Fact := [(false, (.bin .rem .u8 (x 1) ((.con (4)))), (.bin .rem .u8 (x 0) ((.con (4)))), false), (false, (.bin .rem .u8 (x 2) ((.con (4)))), (.bin .rem .u8 (x 0) ((.con (4)))), true), (false, (.bin .rem .u8 (x 3) ((.con (4)))), (.bin .rem .u8 (x 0) ((.con (4)))), false), (false, (.bin .rem .u8 (x 4) ((.con (4)))), (.bin .rem .u8 (x 0) ((.con (4)))), true), (false, (.bin .rem .u8 (x 5) ((.con (4)))), (.bin .rem .u8 (x 0) ((.con (4)))), true)]
theorem r52 : runF (abi fx52) funs (orP prims (memoP [m0])) 100000 60 1002 m52.2.1 = some m52.2.2 := by kernel_rfl
theorem w52 (ρ : Nat → Int) (hF : FactsOK (nf ρ) fx52) : Holds ρ m52 := holds_of (tbl := [m0]) hF ⟨w0 ρ (FactsOK.sub hF (by kernel_rfl)), trivial⟩ r52
def m53 : Entry := (1002, [V.sl [[V.sym .u8 (x 1) (0) (255) (1) (0)],[V.sym .u8 (x 2) (0) (255) (1) (0)],[V.sym .u8 (x 3) (0) (255) (1) (0)],[V.sym .u8 (x 4) (0) (255) (1) (0)],[V.sym .u8 (x 5) (0) (255) (1) (0)]],V.sym .u8 (x 0) (0) (255) (1) (0)], b1, [])
def fx53 : List Fact := [(false, (.bin .rem .u8 (x 1) ((.con (4)))), (.bin .rem .u8 (x 0) ((.con (4)))), false), (false, (.bin .rem .u8 (x 2) ((.con (4)))), (.bin .rem .u8 (x 0) ((.con (4)))), true), (false, (.bin .rem .u8 (x 3) ((.con (4)))), (.bin .rem .u8 (x 0) ((.con (4)))), false), (false, (.bin .rem .u8 (x 4) ((.con (4)))), (.bin .rem .u8 (x 0) ((.con (4)))), true), (false, (.bin .rem .u8 (x 5) ((.con (4)))), (.bin .rem .u8 (x 0) ((.con (4)))), false)]
theorem r53 : runF (abi fx53) funs (orP prims (memoP [m0])) 100000 60 1002 m53.2.1 = some m53.2.2 := by kernel_rfl
theorem w53 (ρ : Nat → Int) (hF : FactsOK (nf ρ) fx53) : Holds ρ m53 := holds_of (tbl := [m0]) hF ⟨w0 ρ (FactsOK.sub hF (by kernel_rfl)), trivial⟩ r53
def m54 : Entry := (1002, [V.sl [[V.sym .u8 (x 1) (0) (255) (1) (0)],[V.sym .u8 (x 2) (0) (255) (1) (0)],[V.sym .u8 (x 3) (0) (255) (1) (0)],[V.sym .u8 (x 4) (0) (255) (1) (0)],[V.sym .u8 (x 5) (0) (255) (1) (0)]],V.sym .u8 (x 0) (0) (255) (1) (0)], b1, [])
def fx54 : List Fact := [(false, (.bin .rem .u8 (x 1) ((.con (4)))), (.bin .rem .u8 (x 0) ((.con (4)))), false), (false, (.bin .rem .u8 (x 2) ((.con (4)))), (.bin .rem .u8 (x 0) ((.con (4)))), true), (false, (.bin .rem .u8 (x 3) ((.con (4)))), (.bin .rem .u8 (x 0) ((.con (4)))), false), (false, (.bin .rem .u8 (x 4) ((.con (4)))), (.bin .rem .u8 (x 0) ((.con (4)))), false), (false, (.bin .rem .u8 (x 5) ((.con (4)))), (.bin .rem .u8 (x 0) ((.con (4)))), true)]
theorem r54 : runF (abi fx54) funs (orP prims (memoP [m0])) 100000 60 1002 m54.2.1 = some m54.2.2 := by kernel_rfl
theorem w54 (ρ : Nat → Int) (hF : FactsOK (nf ρ) fx54) : Holds ρ m54 := holds_of (tbl := [m0]) hF ⟨w0 ρ (FactsOK.sub hF (by kernel_rfl)), trivial⟩ r54
def m55 : Entry := (1002, [V.sl [[V.sym .u8 (x 1) (0) (255) (1) (0)],[V.sym .u8 (x 2) (0) (255) (1) (0)],[V.sym .u8 (x 3) (0) (255) (1) (0)],[V.sym .u8 (x 4) (0) (255) (1) (0)],[V.sym .u8 (x 5) (0) (255) (1) (0)]],V.sym .u8 (x 0) (0) (255) (1) (0)], b1, [])
def fx55 : List Fact := [(false, (.bin .rem .u8 (x 1) ((.con (4)))), (.bin .rem .u8 (x 0) ((.con (4)))), false), (false, (.bin .rem .u8 (x 2) ((.con (4)))), (.bin .rem .u8 (x 0) ((.con (4)))), true), (false, (.bin .rem .u8 (x 3) ((.con (4)))), (.bin .rem .u8 (x 0) ((.con (4)))), false), (false, (.bin .rem .u8 (x 4) ((.con (4)))), (.bin .rem .u8 (x 0) ((.con (4)))), false), (false, (.bin .rem .u8 (x 5) ((.con (4)))), (.bin .rem .u8 (x 0) ((.con (4)))), false)]
theorem r55 : runF (abi fx55) funs (orP prims (memoP [m0])) 100000 60 1002 m55.2.1 = some m55.2.2 := by kernel_rfl
theorem w55 (ρ : Nat → Int) (hF : FactsOK (nf ρ) fx55) : Holds ρ m55 := holds_of (tbl := [m0]) hF ⟨w0 ρ (FactsOK.sub hF (by kernel_rfl)), trivial⟩ r55
def m56 : Entry := (1002, [V.sl [[V.sym .u8 (x 1) (0) (255) (1) (0)],[V.sym .u8 (x 2) (0) (255) (1) (0)],[V.sym .u8 (x 3) (0) (255) (1) (0)],[V.sym .u8 (x 4) (0) (255) (1) (0)],[V.sym .u8 (x 5) (0) (255) (1) (0)]],V.sym .u8 (x 0) (0) (255) (1) (0)], b1, [])
def fx56 : List Fact := [(false, (.bin .rem .u8 (x 1) ((.con (4)))), (.bin .rem .u8 (x 0) ((.con (4)))), false), (false, (.bin .rem .u8 (x 2) ((.con (4)))), (.bin .rem .u8 (x 0) ((.con (4)))), false), (false, (.bin .rem .u8 (x 3) ((.con (4)))), (.bin .rem .u8 (x 0) ((.con (4)))), true), (false, (.bin .rem .u8 (x 4) ((.con (4)))), (.bin .rem .u8 (x 0) ((.con (4)))), true), (false, (.bin .rem .u8 (x 5) ((.con (4)))), (.bin .rem .u8 (x 0) ((.con (4)))), true)]
theorem r56 : runF (abi fx56) funs (orP prims (memoP [m0])) 100000 60 1002 m56.2.1 = some m56.2.2 := by kernel_rfl
theorem w56 (ρ : Nat → Int) (hF : FactsOK (nf ρ) fx56) : Holds ρ m56 := holds_of (tbl := [m0]) hF ⟨w0 ρ (FactsOK.sub hF (by kernel_rfl)), trivial⟩ r56
def m57 : Entry := (1002, [V.sl [[V.sym .u8 (x 1) (0) (255) (1) (0)],[V.sym .u8 (x 2) (0) (255) (1) (0)],[V.sym .u8 (x 3) (0) (255) (1) (0)],[V.sym .u8 (x 4) (0) (255) (1) (0)],[V.sym .u8 (x 5) (0) (255) (1) (0)]],V.sym .u8 (x 0) (0) (255) (1) (0)], b1, [])
def fx57 : List Fact := [(false, (.bin .rem .u8 (x 1) ((.con (4)))), (.bin .rem .u8 (x 0) ((.con (4)))), false), (false, (.bin .rem .u8 (x 2) ((.con (4)))), (.bin .rem .u8 (x 0) ((.con (4)))), false), (false, (.bin .rem .u8 (x 3) ((.con (4)))), (.bin .rem .u8 (x 0) ((.con (4)))), true), (false, (.bin .rem .u8 (x 4) ((.con (4)))), (.bin .rem .u8 (x 0) ((.con (4)))), true), (false, (.bin .rem .u8 (x 5) ((.con (4)))), (.bin .rem .u8 (x 0) ((.con (4)))), false)]
theorem r57 : runF (abi fx57) funs (orP prims (memoP [m0])) 100000 60 1002 m57.2.1 = some m57.2.2 := by kernel_rfl
theorem w57 (ρ : Nat → Int) (hF : FactsOK (nf ρ) fx57) : Holds ρ m57 := holds_of (tbl := [m0]) hF ⟨w0 ρ (FactsOK.sub hF (by kernel_rfl)), trivial⟩ r57
def m58 : Entry := (1002, [V.sl [[V.sym .u8 (x 1) (0) (255) (1) (0)],[V.sym .u8 (x 2) (0) (255) (1) (0)],[V.sym .u8 (x 3) (0) (255) (1) (0)],[V.sym .u8 (x 4) (0) (255) (1) (0)],[V.sym .u8 (x 5) (0) (255) (1) (0)]],V.sym .u8 (x 0) (0) (255) (1) (0)], b1, [])
def fx58 : List Fact := [(false, (.bin .rem .u8 (x 1) ((.con (4)))), (.bin .rem .u8 (x 0) ((.con (4)))), false), (false, (.bin .rem .u8 (x 2) ((.con (4)))), (.bin .rem .u8 (x 0) ((.con (4)))), false), (false, (.bin .rem .u8 (x 3) ((.con (4)))), (.bin .rem .u8 (x 0) ((.con (4)))), true), (false, (.bin .rem .u8 (x 4) ((.con (4)))), (.bin .rem .u8 (x 0) ((.con (4)))), false), (false, (.bin .rem .u8 (x 5) ((.con (4)))), (.bin .rem .u8 (x 0) ((.con (4)))), true)]
theorem r58 : runF (abi fx58) funs (orP prims (memoP [m0])) 100000 60 1002 m58.2.1 = some m58.2.2 := by kernel_rfl
theorem w58 (ρ : Nat → Int) (hF : FactsOK (nf ρ) fx58) : Holds ρ m58 := holds_of (tbl := [m0]) hF ⟨w0 ρ (FactsOK.sub hF (by kernel_rfl)), trivial⟩ r58
def m59 : Entry := (1002, [V.sl [[V.sym .u8 (x 1) (0) (255) (1) (0)],[V.sym .u8 (x 2) (0) (255) (1) (0)],[V.sym .u8 (x 3) (0) (255) (1) (0)],[V.sym .u8 (x 4) (0) (255) (1) (0)],[V.sym .u8 (x 5) (0) (255) (1) (0)]],V.sym .u8 (x 0) (0) (255) (1) (0)], b1, [])
def fx59 : List Fact := [(false, (.bin .rem .u8 (x 1) ((.con (4)))), (.bin .rem .u8 (x 0) ((.con (4)))), false), (false, (.bin .rem .u8 (x 2) ((.con (4)))), (.bin .rem .u8 (x 0) ((.con (4)))), false), (false, (.bin .rem .u8 (x 3) ((.con (4)))), (.bin .rem .u8 (x 0) ((.con (4)))), true), (false, (.bin .rem .u8 (x 4) ((.con (4)))), (.bin .rem .u8 (x 0) ((.con (4)))), false), (false, (.bin .rem .u8 (x 5) ((.con (4)))), (.bin .rem .u8 (x 0) ((.con (4)))), false)]
theorem r59 : runF (abi fx59) funs (orP prims (memoP [m0])) 100000 60 1002 m59.2.1 = some m59.2.2 := by kernel_rfl
theorem w59 (ρ : Nat → Int) (hF : FactsOK (nf ρ) fx59) : Holds ρ m59 := holds_of (tbl := [m0]) hF ⟨w0 ρ (FactsOK.sub hF (by kernel_rfl)), trivial⟩ r59
def m60 : Entry := (1002, [V.sl [[V.sym .u8 (x 1) (0) (255) (1) (0)],[V.sym .u8 (x 2) (0) (255) (1) (0)],[V.sym .u8 (x 3) (0) (255) (1) (0)],[V.sym .u8 (x 4) (0) (255) (1) (0)],[V.sym .u8 (x 5) (0) (255) (1) (0)]],V.sym .u8 (x 0) (0) (255) (1) (0)], b1, [])
def fx60 : List Fact := [(false, (.bin .rem .u8 (x 1) ((.con (4)))), (.bin .rem .u8 (x 0) ((.con (4)))), false), (false, (.bin .rem .u8 (x 2) ((.con (4)))), (.bin .rem .u8 (x 0) ((.con (4)))), false), (false, (.bin .rem .u8 (x 3) ((.con (4)))), (.bin .rem .u8 (x 0) ((.con (4)))), false), (false, (.bin .rem .u8 (x 4) ((.con (4)))), (.bin .rem .u8 (x 0) ((.con (4)))), true), (false, (.bin .rem .u8 (x 5) ((.con (4)))), (.bin .rem .u8 (x 0) ((.con (4)))), true)]
theorem r60 : runF (abi fx60) funs (orP prims (memoP [m0])) 100000 60 1002 m60.2.1 = some m60.2.2 := by kernel_rfl
theorem w60 (ρ : Nat → Int) (hF : FactsOK (nf ρ) fx60) : Holds ρ m60 := holds_of (tbl := [m0]) hF ⟨w0 ρ (FactsOK.sub hF (by kernel_rfl)), trivial⟩ r60
def m61 : Entry := (1002, [V.sl [[V.sym .u8 (x 1) (0) (255) (1) (0)],[V.sym .u8 (x 2) (0) (255) (1) (0)],[V.sym .u8 (x 3) (0) (255) (1) (0)],[V.sym .u8 (x 4) (0) (255) (1) (0)],[V.sym .u8 (x 5) (0) (255) (1) (0)]],V.sym .u8 (x 0) (0) (255) (1) (0)], b1, [])
def fx61 : List Fact := [(false, (.bin .rem .u8 (x 1) ((.con (4)))), (.bin .rem .u8 (x 0) ((.con (4)))), false), (false, (.bin .rem .u8 (x 2) ((.con (4)))), (.bin .rem .u8 (x 0) ((.con (4)))), false), (false, (.bin .rem .u8 (x 3) ((.con (4)))), (.bin .rem .u8 (x 0) ((.con (4)))), false), (false, (.bin .rem .u8 (x 4) ((.con (4)))), (.bin .rem .u8 (x 0) ((.con (4)))), true), (false, (.bin .rem .u8 (x 5) ((.con (4)))), (.bin .rem .u8 (x 0) ((.con (4)))), false)]
theorem r61 : runF (abi fx61) funs (orP prims (memoP [m0])) 100000 60 1002 m61.2.1 = some m61.2.2 := by kernel_rfl
theorem w61 (ρ : Nat → Int) (hF : FactsOK (nf ρ) fx61) : Holds ρ m61 := holds_of (tbl := [m0]) hF ⟨w0 ρ (FactsOK.sub hF (by kernel_rfl)), trivial⟩ r61
def m62 : Entry := (1002, [V.sl [[V.sym .u8 (x 1) (0) (255) (1) (0)],[V.sym .u8 (x 2) (0) (255) (1) (0)],[V.sym .u8 (x 3) (0) (255) (1) (0)],[V.sym .u8 (x 4) (0) (255) (1) (0)],[V.sym .u8 (x 5) (0) (255) (1) (0)]],V.sym .u8 (x 0) (0) (255) (1) (0)], b1, [])
def fx62 : List Fact := [(false, (.bin .rem .u8 (x 1) ((.con (4)))), (.bin .rem .u8 (x 0) ((.con (4)))), false), (false, (.bin .rem .u8 (x 2) ((.con (4)))), (.bin .rem .u8 (x 0) ((.con (4)))), false), (false, (.bin .rem .u8 (x 3) ((.con (4)))), (.bin .rem .u8 (x 0) ((.con (4)))), false), (false, (.bin .rem .u8 (x 4) ((.con (4)))), (.bin .rem .u8 (x 0) ((.con (4)))), false), (false, (.bin .rem .u8 (x 5) ((.con (4)))), (.bin .rem .u8 (x 0) ((.con (4)))), true)]
theorem r62 : runF (abi fx62) funs (orP prims (memoP [m0])) 100000 60 1002 m62.2.1 = some m62.2.2 := by kernel_rfl
theorem w62 (ρ : Nat → Int) (hF : FactsOK (nf ρ) fx62) : Holds ρ m62 := holds_of (tbl := [m0]) hF ⟨w0 ρ (FactsOK.sub hF (by kernel_rfl)), trivial⟩ r62
def m63 : Entry := (1002, [V.sl [[V.sym .u8 (x 1) (0) (255) (1) (0)],[V.sym .u8 (x 2) (0) (255) (1) (0)],[V.sym .u8 (x 3) (0) (255) (1) (0)],[V.sym .u8 (x 4) (0) (255) (1) (0)],[V.sym .u8 (x 5) (0) (255) (1) (0)]],V.sym .u8 (x 0) (0) (255) (1) (0)], b1, [])
def fx63 : List Fact := [(false, (.bin .rem .u8 (x 1) ((.con (4)))), (.bin .rem .u8 (x 0) ((.con (4)))), false), (false, (.bin .rem .u8 (x 2) ((.con (4)))), (.bin .rem .u8 (x 0) ((.con (4)))), false), (false, (.bin .rem .u8 (x 3) ((.con (4)))), (.bin .rem .u8 (x 0) ((.con (4)))), false), (false, (.bin .rem .u8 (x 4) ((.con (4)))), (.bin .rem .u8 (x 0) ((.con (4)))), false), (false, (.bin .rem .u8 (x 5) ((.con (4)))), (.bin .rem .u8 (x 0) ((.con (4)))), false)]
theorem r63 : runF (abi fx63) funs (orP prims (memoP [m0])) 100000 60 1002 m63.2.1 = some m63.2.2 := by kernel_rfl
theorem w63 (ρ : Nat → Int) (hF : FactsOK (nf ρ) fx63) : Holds ρ m63 := holds_of (tbl := [m0]) hF ⟨w0 ρ (FactsOK.sub hF (by kernel_rfl)), trivial⟩ r63
def m64 : Entry := (1002, [V.sl [[V.sym .u8 (x 1) (0) (255) (1) (0)],[V.sym .u8 (x 2) (0) (255) (1) (0)],[V.sym .u8 (x 3) (0) (255) (1) (0)],[V.sym .u8 (x 4) (0) (255) (1) (0)],[V.sym .u8 (x 5) (0) (255) (1) (0)],[V.sym .u8 (x 6) (0) (255) (1) (0)]],V.sym .u8 (x 0) (0) (255) (1) (0)], b1, [])
def fx64 : List Fact := [(false, (.bin .rem .u8 (x 1) ((.con (4)))), (.bin .rem .u8 (x 0) ((.con (4)))), true), (false, (.bin .rem .u8 (x 2) ((.con (4)))), (.bin .rem .u8 (x 0) ((.con (4)))), true), (false, (.bin .rem .u8 (x 3) ((.con (4)))), (.bin .rem .u8 (x 0) ((.con (4)))), true), (false, (.bin .rem .u8 (x 4) ((.con (4)))), (.bin .rem .u8 (x 0) ((.con (4)))), true), (false, (.bin .rem .u8 (x 5) ((.con (4)))), (.bin .rem .u8 (x 0) ((.con (4)))), true), (false, (.bin .rem .u8 (x 6) ((.con (4)))), (.bin .rem .u8 (x 0) ((.con (4)))), true)]
theorem r64 : runF (abi fx64) funs (orP prims (memoP [m0])) 100000 60 1002 m64.2.1 = some m64.2.2 := by kernel_rfl
theorem w64 (ρ : Nat → Int) (hF : FactsOK (nf ρ) fx64) : Holds ρ m64 := holds_of (tbl := [m0]) hF ⟨w0 ρ (FactsOK.sub hF (by kernel_rfl)), trivial⟩ r64
def m65 : Entry := (1002, [V.sl [[V.sym .u8 (x 1) (0) (255) (1) (0)],[V.sym .u8 (x 2) (0) (255) (1) (0)],[V.sym .u8 (x 3) (0) (255) (1) (0)],[V.sym .u8 (x 4) (0) (255) (1) (0)],[V.sym .u8 (x 5) (0) (255) (1) (0)],[V.sym .u8 (x 6) (0) (255) (1) (0)]],V.sym .u8 (x 0) (0) (255) (1) (0)], b1, [])
def fx65 : List Fact := [(false, (.bin .rem .u8 (x 1) ((.con (4)))), (.bin .rem .u8 (x 0) ((.con (4)))), true), (false, (.bin .rem .u8 (x 2) ((.con (4)))), (.bin .rem .u8 (x 0) ((.con (4)))), true), (false, (.bin .rem .u8 (x 3) ((.con (4)))), (.bin .rem .u8 (x 0) ((.con (4)))), true), (false, (.bin .rem .u8 (x 4) ((.con (4)))), (.bin .rem .u8 (x 0) ((.con (4)))), true), (false, (.bin .rem .u8 (x 5) ((.con (4)))), (.bin .rem .u8 (x 0) ((.con (4)))), true), (false, (.bin .rem .u8 (x 6) ((.con (4)))), (.bin .rem .u8 (x 0) ((.con (4)))), false)]
theorem r65 : runF (abi fx65) funs (orP prims (memoP [m0])) 100000 60 1002 m65.2.1 = some m65.2.2 := by kernel_rfl
theorem w65 (ρ : Nat → Int) (hF : FactsOK (nf ρ) fx65) : Holds ρ m65 := holds_of (tbl := [m0]) hF ⟨w0 ρ (FactsOK.sub hF (by kernel_rfl)), trivial⟩ r65
def m66 : Entry := (1002, [V.sl [[V.sym .u8 (x 1) (0) (255) (1) (0)],[V.sym .u8 (x 2) (0) (255) (1) (0)],[V.sym .u8 (x 3) (0) (255) (1) (0)],[V.sym .u8 (x 4) (0) (255) (1) (0)],[V.sym .u8 (x 5) (0) (255) (1) (0)],[V.sym .u8 (x 6) (0) (255) (1) (0)]],V.sym .u8 (x 0) (0) (255) (1) (0)], b1, [])
def fx66 : List Fact := [(false, (.bin .rem .u8 (x 1) ((.con (4)))), (.bin .rem .u8 (x 0) ((.con (4)))), true), (false, (.bin .rem .u8 (x 2) ((.con (4)))), (.bin .rem .u8 (x 0) ((.con (4)))), true), (false, (.bin .rem .u8 (x 3) ((.con (4)))), (.bin .rem .u8 (x 0) ((.con (4)))), true), (false, (.bin .rem .u8 (x 4) ((.con (4)))), (.bin .rem .u8 (x 0) ((.con (4)))), true), (false, (.bin .rem .u8 (x 5) ((.con (4)))), (.bin .rem .u8 (x 0) ((.con (4)))), false), (false, (.bin .rem .u8 (x 6) ((.con (4)))), (.bin .rem .u8 (x 0) ((.con (4)))), true)]
theorem r66 : runF (abi fx66) funs (orP prims (memoP [m0])) 100000 60 1002 m66.2.1 = some m66.2.2 := by kernel_rfl
theorem w66 (ρ : Nat → Int) (hF : FactsOK (nf ρ) fx66) : Holds ρ m66 := holds_of (tbl := [m0]) hF ⟨w0 ρ (FactsOK.sub hF (by kernel_rfl)), trivial⟩ r66
def m67 : Entry := (1002, [V.sl [[V.sym .u8 (x 1) (0) (255) (1) (0)],[V.sym .u8 (x 2) (0) (255) (1) (0)],[V.sym .u8 (x 3) (0) (255) (1) (0)],[V.sym .u8 (x 4) (0) (255) (1) (0)],[V.sym .u8 (x 5) (0) (255) (1) (0)],[V.sym .u8 (x 6) (0) (255) (1) (0)]],V.sym .u8 (x 0) (0) (255) (1) (0)], b1, [])
def fx67 : List Fact := [(false, (.bin .rem .u8 (x 1) ((.con (4)))), (.bin .rem .u8 (x 0) ((.con (4)))), true), (false, (.bin .rem .u8 (x 2) ((.con (4)))), (.bin .rem .u8 (x 0) ((.con (4)))), true), (false, (.bin .rem .u8 (x 3) ((.con (4)))), (.bin .rem .u8 (x 0) ((.con (4)))), true), (false, (.bin .rem .u8 (x 4) ((.con (4)))), (.bin .rem .u8 (x 0) ((.con (4)))), true), (false, (.bin .rem .u8 (x 5) ((.con (4)))), (.bin .rem .u8 (x 0) ((.con (4)))), false), (false, (.bin .rem .u8 (x 6) ((.con (4)))), (.bin .rem .u8 (x 0) ((.con (4)))), false)]
theorem r67 : runF (abi fx67) funs (orP prims (memoP [m0])) 100000 60 1002 m67.2.1 = some m67.2.2 := by kernel_rfl
theorem w67 (ρ : Nat → Int) (hF : FactsOK (nf ρ) fx67) : Holds ρ m67 := holds_of (tbl := [m0]) hF ⟨w0 ρ (FactsOK.sub hF (by kernel_rfl)), trivial⟩ r67
def m68 : Entry := (1002, [V.sl [[V.sym .u8 (x 1) (0) (255) (1) (0)],[V.sym .u8 (x 2) (0) (255) (1) (0)],[V.sym .u8 (x 3) (0) (255) (1) (0)],[V.sym .u8 (x 4) (0) (255) (1) (0)],[V.sym .u8 (x 5) (0) (255) (1) (0)],[V.sym .u8 (x 6) (0) (255) (1) (0)]],V.sym .u8 (x 0) (0) (255) (1) (0)], b1, [])
def fx68 : List Fact := [(false, (.bin .rem .u8 (x 1) ((.con (4)))), (.bin .rem .u8 (x 0) ((.con (4)))), true), (false, (.bin .rem .u8 (x 2) ((.con (4)))), (.bin .rem .u8 (x 0) ((.con (4)))), true), (false, (.bin .rem .u8 (x 3) ((.con (4)))), (.bin .rem .u8 (x 0) ((.con (4)))), true), (false, (.bin .rem .u8 (x 4) ((.con (4)))), (.bin .rem .u8 (x 0) ((.con (4)))), false), (false, (.bin .rem .u8 (x 5) ((.con (4)))), (.bin .rem .u8 (x 0) ((.con (4)))), true), (false, (.bin .rem .u8 (x 6) ((.con (4)))), (.bin .rem .u8 (x 0) ((.con (4)))), true)]
theorem r68 : runF (abi fx68) funs (orP prims (memoP [m0])) 100000 60 1002 m68.2.1 = some m68.2.2 := by kernel_rfl
theorem w68 (ρ : Nat → Int) (hF : FactsOK (nf ρ) fx68) : Holds ρ m68 := holds_of (tbl := [m0]) hF ⟨w0 ρ (FactsOK.sub hF (by kernel_rfl)), trivial⟩ r68
def m69 : Entry := (1002, [V.sl [[V.sym .u8 (x 1) (0) (255) (1) (0)],[V.sym .u8 (x 2) (0) (255) (1) (0)],[V.sym .u8 (x 3) (0) (255) (1) (0)],[V.sym .u8 (x 4) (0) (255) (1) (0)],[V.sym .u8 (x 5) (0) (255) (1) (0)],[V.sym .u8 (x 6) (0) (255) (1) (0)]],V.sym .u8 (x 0) (0) (255) (1) (0)], b1, [])
def fx69 : List Fact := [(false, (.bin .rem .u8 (x 1) ((.con (4)))), (.bin .rem .u8 (x 0) ((.con (4)))), true), (false, (.bin .rem .u8 (x 2) ((.con (4)))), (.bin .rem .u8 (x 0) ((.con (4)))), true), (false, (.bin .rem .u8 (x 3) ((.con (4)))), (.bin .rem .u8 (x 0) ((.con (4)))), true), (false, (.bin .rem .u8 (x 4) ((.con (4)))), (.bin .rem .u8 (x 0) ((.con (4)))), false), (false, (.bin .rem .u8 (x 5) ((.con (4)))), (.bin .rem .u8 (x 0) ((.con (4)))), true), (false, (.bin .rem .u8 (x 6) ((.con (4)))), (.bin .rem .u8 (x 0) ((.con (4)))), false)]
theorem r69 : runF (abi fx69) funs (orP prims (memoP [m0])) 100000 60 1002 m69.2.1 = some m69.2.2 := by kernel_rfl
theorem w69 (ρ : Nat → Int) (hF : FactsOK (nf ρ) fx69) : Holds ρ m69 := holds_of (tbl := [m0]) hF ⟨w0 ρ (FactsOK.sub hF (by kernel_rfl)), trivial⟩ r69
def m70 : Entry := (1002, [V.sl [[V.sym .u8 (x 1) (0) (255) (1) (0)],[V.sym .u8 (x 2) (0) (255) (1) (0)],[V.sym .u8 (x 3) (0) (255) (1) (0)],[V.sym .u8 (x 4) (0) (255) (1) (0)],[V.sym .u8 (x 5) (0) (255) (1) (0)],[V.sym .u8 (x 6) (0) (255) (1) (0)]],V.sym .u8 (x 0) (0) (255) (1) (0)], b1, [])
def fx70 : List Fact := [(false, (.bin .rem .u8 (x 1) ((.con (4)))), (.bin .rem .u8 (x 0) ((.con (4)))), true), (false, (.bin .rem .u8 (x 2) ((.con (4)))), (.bin .rem .u8 (x 0) ((.con (4)))), true), (false, (.bin .rem .u8 (x 3) ((.con (4)))), (.bin .rem .u8 (x 0) ((.con (4)))), true), (false, (.bin .rem .u8 (x 4) ((.con (4)))), (.bin .rem .u8 (x 0) ((.con (4)))), false), (false, (.bin .rem .u8 (x 5) ((.con (4)))), (.bin .rem .u8 (x 0) ((.con (4)))), false), (false, (.bin .rem .u8 (x 6) ((.con (4)))), (.bin .rem .u8 (x 0) ((.con (4)))), true)]
theorem r70 : runF (abi fx70) funs (orP prims (memoP [m0])) 100000 60 1002 m70.2.1 = some m70.2.2 := by kernel_rfl
theorem w70 (ρ : Nat → Int) (hF : FactsOK (nf ρ) fx70) : Holds ρ m70 := holds_of (tbl := [m0]) hF ⟨w0 ρ (FactsOK.sub hF (by kernel_rfl)), trivial⟩ r70
def m71 : Entry := (1002, [V.sl [[V.sym .u8 (x 1) (0) (255) (1) (0)],[V.sym .u8 (x 2) (0) (255) (1) (0)],[V.sym .u8 (x 3) (0) (255) (1) (0)],[V.sym .u8 (x 4) (0) (255) (1) (0)],[V.sym .u8 (x 5) (0) (255) (1) (0)],[V.sym .u8 (x 6) (0) (255) (1) (0)]],V.sym .u8 (x 0) (0) (255) (1) (0)], b1, [])
def fx71 : List Fact := [(false, (.bin .rem .u8 (x 1) ((.con (4)))), (.bin .rem .u8 (x 0) ((.con (4)))), true), (false, (.bin .rem .u8 (x 2) ((.con (4)))), (.bin .rem .u8 (x 0) ((.con (4)))), true), (false, (.bin .rem .u8 (x 3) ((.con (4)))), (.bin .rem .u8 (x 0) ((.con (4)))), true), (false, (.bin .rem .u8 (x 4) ((.con (4)))), (.bin .rem .u8 (x 0) ((.con (4)))), false), (false, (.bin .rem .u8 (x 5) ((.con (4)))), (.bin .rem .u8 (x 0) ((.con (4)))), false), (false, (.bin .rem .u8 (x 6) ((.con (4)))), (.bin .rem .u8 (x 0) ((.con (4)))), false)]
theorem r71 : runF (abi fx71) funs (orP prims (memoP [m0])) 100000 60 1002 m71.2.1 = some m71.2.2 := by kernel_rfl
theorem w71 (ρ : Nat → Int) (hF : FactsOK (nf ρ) fx71) : Holds ρ m71 := holds_of (tbl := [m0]) hF ⟨w0 ρ (FactsOK.sub hF (by kernel_rfl)), trivial⟩ r71
def m72 : Entry := (1002, [V.sl [[V.sym .u8 (x 1) (0) (255) (1) (0)],[V.sym .u8 (x 2) (0) (255) (1) (0)],[V.sym .u8 (x 3) (0) (255) (1) (0)],[V.sym .u8 (x 4) (0) (255) (1) (0)],[V.sym .u8 (x 5) (0) (255) (1) (0)],[V.sym .u8 (x 6) (0) (255) (1) (0)]],V.sym .u8 (x 0) (0) (255) (1) (0)], b1, [])
def fx72 : List Fact := [(false, (.bin .rem .u8 (x 1) ((.con (4)))), (.bin .rem .u8 (x 0) ((.con (4)))), true), (false, (.bin .rem .u8 (x 2) ((.con (4)))), (.bin .rem .u8 (x 0) ((.con (4)))), true), (false, (.bin .rem .u8 (x 3) ((.con (4)))), (.bin .rem .u8 (x 0) ((.con (4)))), false), (false, (.bin .rem .u8 (x 4) ((.con (4)))), (.bin .rem .u8 (x 0) ((.con (4)))), true), (false, (.bin .rem .u8 (x 5) ((.con (4)))), (.bin .rem .u8 (x 0) ((.con (4)))), true), (false, (.bin .rem .u8 (x 6) ((.con (4)))), (.bin .rem .u8 (x 0) ((.con (4)))), true)]
theorem r72 : runF (abi fx72) funs (orP prims (memoP [m0])) 100000 60 1002 m72.2.1 = some m72.2.2 := by kernel_rfl
theorem w72 (ρ : Nat → Int) (hF : FactsOK (nf ρ) fx72) : Holds ρ m72 := holds_of (tbl := [m0]) hF ⟨w0 ρ (FactsOK.sub hF (by kernel_rfl)), trivial⟩ r72
def m73 : Entry := (1002, [V.sl [[V.sym .u8 (x 1) (0) (255) (1) (0)],[V.sym .u8 (x 2) (0) (255) (1) (0)],[V.sym .u8 (x 3) (0) (255) (1) (0)],[V.sym .u8 (x 4) (0) (255) (1) (0)],[V.sym .u8 (x 5) (0) (255) (1) (0)],[V.sym .u8 (x 6) (0) (255) (1) (0)]],V.sym .u8 (x 0) (0) (255) (1) (0)], b1, [])
def fx73 : List Fact := [(false, (.bin .rem .u8 (x 1) ((.con (4)))), (.bin .rem .u8 (x 0) ((.con (4)))), true), (false, (.bin .rem .u8 (x 2) ((.con (4)))), (.bin .rem .u8 (x 0) ((.con (4)))), true), (false, (.bin .rem .u8 (x 3) ((.con (4)))), (.bin .rem .u8 (x 0) ((.con (4)))), false), (false, (.bin .rem .u8 (x 4) ((.con (4)))), (.bin .rem .u8 (x 0) ((.con (4)))), true), (false, (.bin .rem .u8 (x 5) ((.con (4)))), (.bin .rem .u8 (x 0) ((.con (4)))), true), (false, (.bin .rem .u8 (x 6) ((.con (4)))), (.bin .rem .u8 (x 0) ((.con (4)))), false)]
theorem r73 : runF (abi fx73) funs (orP prims (memoP [m0])) 100000 60 1002 m73.2.1 = some m73.2.2 := by kernel_rfl
theorem w73 (ρ : Nat → Int) (hF : FactsOK (nf ρ) fx73) : Holds ρ m73 := holds_of (tbl := [m0]) hF ⟨w0 ρ (FactsOK.sub hF (by kernel_rfl)), trivial⟩ r73
def m74 : Entry := (1002, [V.sl [[V.sym .u8 (x 1) (0) (255) (1) (0)],[V.sym .u8 (x 2) (0) (255) (1) (0)],[V.sym .u8 (x 3) (0) (255) (1) (0)],[V.sym .u8 (x 4) (0) (255) (1) (0)],[V.sym .u8 (x 5) (0) (255) (1) (0)],[V.sym .u8 (x 6) (0) (255) (1) (0)]],V.sym .u8 (x 0) (0) (255) (1) (0)], b1, [])
def fx74 : List Fact := [(false, (.bin .rem .u8 (x 1) ((.con (4)))), (.bin .rem .u8 (x 0) ((.con (4)))), true), (false, (.bin .rem .u8 (x 2) ((.con (4)))), (.bin .rem .u8 (x 0) ((.con (4)))), true), (false, (.bin .rem .u8 (x 3) ((.con (4)))), (.bin .rem .u8 (x 0) ((.con (4)))), false), (false, (.bin .rem .u8 (x 4) ((.con (4)))), (.bin .rem .u8 (x 0) ((.con (4)))), true), (false, (.bin .rem .u8 (x 5) ((.con (4)))), (.bin .rem .u8 (x 0) ((.con (4)))), false), (false, (.bin .rem .u8 (x 6) ((.con (4)))), (.bin .rem .u8 (x 0) ((.con (4)))), true)]
theorem r74 : runF (abi fx74) funs (orP prims (memoP [m0])) 100000 60 1002 m74.2.1 = some m74.2.2 := by kernel_rfl
theorem w74 (ρ : Nat → Int) (hF : FactsOK (nf ρ) fx74) : Holds ρ m74 := holds_of (tbl := [m0]) hF ⟨w0 ρ (FactsOK.sub hF (by kernel_rfl)), trivial⟩ r74
def m75 : Entry := (1002, [V.sl [[V.sym .u8 (x 1) (0) (255) (1) (0)],[V.sym .u8 (x 2) (0) (255) (1) (0)],[V.sym .u8 (x 3) (0) (255) (1) (0)],[V.sym .u8 (x 4) (0) (255) (1) (0)],[V.sym .u8 (x 5) (0) (255) (1) (0)],[V.sym .u8 (x 6) (0) (255) (1) (0)]],V.sym .u8 (x 0) (0) (255) (1) (0)], b1, [])
def fx75 : List Fact := [(false, (.bin .rem .u8 (x 1) ((.con (4)))), (.bin .rem .u8 (x 0) ((.con (4)))), true), (false, (.bin .rem .u8 (x 2) ((.con (4)))), (.bin .rem .u8 (x 0) ((.con (4)))), true), (false, (.bin .rem .u8 (x 3) ((.con (4)))), (.bin .rem .u8 (x 0) ((.con (4)))), false), (false, (.bin .rem .u8 (x 4) ((.con (4)))), (.bin .rem .u8 (x 0) ((.con (4)))), true), (false, (.bin .rem .u8 (x 5) ((.con (4)))), (.bin .rem .u8 (x 0) ((.con (4)))), false), (false, (.bin .rem .u8 (x 6) ((.con (4)))), (.bin .rem .u8 (x 0) ((.con (4)))), false)]
theorem r75 : runF (abi fx75) funs (orP prims (memoP [m0])) 100000 60 1002 m75.2.1 = some m75.2.2 := by kernel_rfl
theorem w75 (ρ : Nat → Int) (hF : FactsOK (nf ρ) fx75) : Holds ρ m75 := holds_of (tbl := [m0]) hF ⟨w0 ρ (FactsOK.sub hF (by kernel_rfl)), trivial⟩ r75
def m76 : Entry := (1002, [V.sl [[V.sym .u8 (x 1) (0) (255) (1) (0)],[V.sym .u8 (x 2) (0) (255) (1) (0)],[V.sym .u8 (x 3) (0) (255) (1) (0)],[V.sym .u8 (x 4) (0) (255) (1) (0)],[V.sym .u8 (x 5) (0) (255) (1) (0)],[V.sym .u8 (x 6) (0) (255) (1) (0)]],V.sym .u8 (x 0) (0) (255) (1) (0)], b1, [])
def fx76 : List Fact := [(false, (.bin .rem .u8 (x 1) ((.con (4)))), (.bin .rem .u8 (x 0) ((.con (4)))), true), (false, (.bin .rem .u8 (x 2) ((.con (4)))), (.bin .rem .u8 (x 0) ((.con (4)))), true), (false, (.bin .rem .u8 (x 3) ((.con (4)))), (.bin .rem .u8 (x 0) ((.con (4)))), false), (false, (.bin .rem .u8 (x 4) ((.con (4)))), (.bin .rem .u8 (x 0) ((.con (4)))), false), (false, (.bin .rem .u8 (x 5) ((.con (4)))), (.bin .rem .u8 (x 0) ((.con (4)))), true), (false, (.bin .rem .u8 (x 6) ((.con (4)))), (.bin .rem .u8 (x 0) ((.con (4)))), true)]
theorem r76 : runF (abi fx76) funs (orP prims (memoP [m0])) 100000 60 1002 m76.2.1 = some m76.2.2 := by kernel_rfl
theorem w76 (ρ : Nat → Int) (hF : FactsOK (nf ρ) fx76) : Holds ρ m76 := holds_of (tbl := [m0]) hF ⟨w0 ρ (FactsOK.sub hF (by kernel_rfl)), trivial⟩ r76
def m77 : Entry := (1002, [V.sl [[V.sym .u8 (x 1) (0) (255) (1) (0)],[V.sym .u8 (x 2) (0) (255) (1) (0)],[V.sym .u8 (x 3) (0) (255) (1) (0)],[V.sym .u8 (x 4) (0) (255) (1) (0)],[V.sym .u8 (x 5) (0) (255) (1) (0)],[V.sym .u8 (x 6) (0) (255) (1) (0)]],V.sym .u8 (x 0) (0) (255) (1) (0)], b1, [])
def fx77 : List Fact := [(false, (.bin .rem .u8 (x 1) ((.con (4)))), (.bin .rem .u8 (x 0) ((.con (4)))), true), (false, (.bin .rem .u8 (x 2) ((.con (4)))), (.bin .rem .u8 (x 0) ((.con (4)))), true), (false, (.bin .rem .u8 (x 3) ((.con (4)))), (.bin .rem .u8 (x 0) ((.con (4)))), false), (false, (.bin .rem .u8 (x 4) ((.con (4)))), (.bin .rem .u8 (x 0) ((.con (4)))), false), (false, (.bin .rem .u8 (x 5) ((.con (4)))), (.bin .rem .u8 (x 0) ((.con (4)))), true), (false, (.bin .rem .u8 (x 6) ((.con (4)))), (.bin .rem .u8 (x 0) ((.con (4)))), false)]
theorem r77 : runF (abi fx77) funs (orP prims (memoP [m0])) 100000 60 1002 m77.2.1 = some m77.2.2 := by kernel_rfl
theorem w77 (ρ : Nat → Int) (hF : FactsOK (nf ρ) fx77) : Holds ρ m77 := holds_of (tbl := [m0]) hF ⟨w0 ρ (FactsOK.sub hF (by kernel_rfl)), trivial⟩ r77
def m78 : Entry := (1002, [V.sl [[V.sym .u8 (x 1) (0) (255) (1) (0)],[V.sym .u8 (x 2) (0) (255) (1) (0)],[V.sym .u8 (x 3) (0) (255) (1) (0)],[V.sym .u8 (x 4) (0) (255) (1) (0)],[V.sym .u8 (x 5) (0) (255) (1) (0)],[V.sym .u8 (x 6) (0) (255) (1) (0)]],V.sym .u8 (x 0) (0) (255) (1) (0)], b1, [])
def fx78 : List Fact := [(false, (.bin .rem .u8 (x 1) ((.con (4)))), (.bin .rem .u8 (x 0) ((.con (4)))), true), (false, (.bin .rem .u8 (x 2) ((.con (4)))), (.bin .rem .u8 (x 0) ((.con (4)))), true), (false, (.bin .rem .u8 (x 3) ((.con (4)))), (.bin .rem .u8 (x 0) ((.con (4)))), false), (false, (.bin .rem .u8 (x 4) ((.con (4)))), (.bin .rem .u8 (x 0) ((.con (4)))), false), (false, (.bin .rem .u8 (x 5) ((.con (4)))), (.bin .rem .u8 (x 0) ((.con (4)))), false), (false, (.bin .rem .u8 (x 6) ((.con (4)))), (.bin .rem .u8 (x 0) ((.con (4)))), true)]
theorem r78 : runF (abi fx78) funs (orP prims (memoP [m0])) 100000 60 1002 m78.2.1 = some m78.2.2 := by kernel_rfl
theorem w78 (ρ : Nat → Int) (hF : FactsOK (nf ρ) fx78) : Holds ρ m78 := holds_of (tbl := [m0]) hF ⟨w0 ρ (FactsOK.sub hF (by kernel_rfl)), trivial⟩ r78
def m79 : Entry := (1002, [V.sl [[V.sym .u8 (x 1) (0) (255) (1) (0)],[V.sym .u8 (x 2) (0) (255) (1) (0)],[V.sym .u8 (x 3) (0) (255) (1) (0)],[V.sym .u8 (x 4) (0) (255) (1) (0)],[V.sym .u8 (x 5) (0) (255) (1) (0)],[V.sym .u8 (x 6) (0) (255) (1) (0)]],V.sym .u8 (x 0) (0) (255) (1) (0)], b1, [])
def fx79 : List Fact := [(false, (.bin .rem .u8 (x 1) ((.con (4)))), (.bin .rem .u8 (x 0) ((.con (4)))), true), (false, (.bin .rem .u8 (x 2) ((.con (4)))), (.bin .rem .u8 (x 0) ((.con (4)))), true), (false, (.bin .rem .u8 (x 3) ((.con (4)))), (.bin .rem .u8 (x 0) ((.con (4)))), false), (false, (.bin .rem .u8 (x 4) ((.con (4)))), (.bin .rem .u8 (x 0) ((.con (4)))), false), (false, (.bin .rem .u8 (x 5) ((.con (4)))), (.bin .rem .u8 (x 0) ((.con (4)))), false), (false, (.bin .rem .u8 (x 6) ((.con (4)))), (.bin .rem .u8 (x 0) ((.con (4)))), false)]
theorem r79 : runF (abi fx79) funs (orP prims (memoP [m0])) 100000 60 1002 m79.2.1 = some m79.2.2 := by kernel_rfl
theorem w79 (ρ : Nat → Int) (hF : FactsOK (nf ρ) fx79) : Holds ρ m79 := holds_of (tbl := [m0]) hF ⟨w0 ρ (FactsOK.sub hF (by kernel_rfl)), trivial⟩ r79
def m80 : Entry := (1002, [V.sl [[V.sym .u8 (x 1) (0) (255) (1) (0)],[V.sym .u8 (x 2) (0) (255) (1) (0)],[V.sym .u8 (x 3) (0) (255) (1) (0)],[V.sym .u8 (x 4) (0) (255) (1) (0)],[V.sym .u8 (x 5) (0) (255) (1) (0)],[V.sym .u8 (x 6) (0) (255) (1) (0)]],V.sym .u8 (x 0) (0) (255) (1) (0)], b1, [])
def fx80 : List Fact := [(false, (.bin .rem .u8 (x 1) ((.con (4)))), (.bin .rem .u8 (x 0) ((.con (4)))), true), (false, (.bin .rem .u8 (x 2) ((.con (4)))), (.bin .rem .u8 (x 0) ((.con (4)))), false), (false, (.bin .rem .u8 (x 3) ((.con (4)))), (.bin .rem .u8 (x 0) ((.con (4)))), true), (false, (.bin .rem .u8 (x 4) ((.con (4)))), (.bin .rem .u8 (x 0) ((.con (4)))), true), (false, (.bin .rem .u8 (x 5) ((.con (4)))), (.bin .rem .u8 (x 0) ((.con (4)))), true), (false, (.bin .rem .u8 (x 6) ((.con (4)))), (.bin .rem .u8 (x 0) ((.con (4)))), true)]
theorem r80 : runF (abi fx80) funs (orP prims (memoP [m0])) 100000 60 1002 m80.2.1 = some m80.2.2 := by kernel_rfl
theorem w80 (ρ : Nat → Int) (hF : FactsOK (nf ρ) fx80) : Holds ρ m80 := holds_of (tbl := [m0]) hF ⟨w0 ρ (FactsOK.sub hF (by kernel_rfl)), trivial⟩ r80
def m81 : Entry := (1002, [V.sl [[V.sym .u8 (x 1) (0) (255) (1) (0)],[V.sym .u8 (x 2) (0) (255) (1) (0)],[V.sym .u8 (x 3) (0) (255) (1) (0)],[V.sym .u8 (x 4) (0) (255) (1) (0)],[V.sym .u8 (x 5) (0) (255) (1) (0)],[V.sym .u8 (x 6) (0) (255) (1) (0)]],V.sym .u8 (x 0) (0) (255) (1) (0)], b1, [])
def fx81 : List Fact := [(false, (.bin .rem .u8 (x 1) ((.con (4)))), (.bin .rem .u8 (x 0) ((.con (4)))), true), (false, (.bin .rem .u8 (x 2) ((.con (4)))), (.bin .rem .u8 (x 0) ((.con (4)))), false), (false, (.bin .rem .u8 (x 3) ((.con (4)))), (.bin .rem .u8 (x 0) ((.con (4)))), true), (false, (.bin .rem .u8 (x 4) ((.con (4)))), (.bin .rem .u8 (x 0) ((.con (4)))), true), (false, (.bin .rem .u8 (x 5) ((.con (4)))), (.bin .rem .u8 (x 0) ((.con (4)))), true), (false, (.bin .rem .u8 (x 6) ((.con (4)))), (.bin .rem .u8 (x 0) ((.con (4)))), false)]
theorem r81 : runF (abi fx81) funs (orP prims (memoP [m0])) 100000 60 1002 m81.2.1 = some m81.2.2 := by kernel_rfl
theorem w81 (ρ : Nat → Int) (hF : FactsOK (nf ρ) fx81) : Holds ρ m81 := holds_of (tbl := [m0]) hF ⟨w0 ρ (FactsOK.sub hF (by kernel_rfl)), trivial⟩ r81
def m82 : Entry := (1002, [V.sl [[V.sym .u8 (x 1) (0) (255) (1) (0)],[V.sym .u8 (x 2) (0) (255) (1) (0)],[V.sym .u8 (x 3) (0) (255) (1) (0)],[V.sym .u8 (x 4) (0) (255) (1) (0)],[V.sym .u8 (x 5) (0) (255) (1) (0)],[V.sym .u8 (x 6) (0) (255) (1) (0)]],V.sym .u8 (x 0) (0) (255) (1) (0)], b1, [])
def fx82 : List Fact := [(false, (.bin .rem .u8 (x 1) ((.con (4)))), (.bin .rem .u8 (x 0) ((.con (4)))), true), (false, (.bin .rem .u8 (x 2) ((.con (4)))), (.bin .rem .u8 (x 0) ((.con (4)))), false), (false, (.bin .rem .u8 (x 3) ((.con (4)))), (.bin .rem .u8 (x 0) ((.con (4)))), true), (false, (.bin .rem .u8 (x 4) ((.con (4)))), (.bin .rem .u8 (x 0) ((.con (4)))), true), (false, (.bin .rem .u8 (x 5) ((.con (4)))), (.bin .rem .u8 (x 0) ((.con (4)))), false), (false, (.bin .rem .u8 (x 6) ((.con (4)))), (.bin .rem .u8 (x 0) ((.con (4)))), true)]
theorem r82 : runF (abi fx82) funs (orP prims (memoP [m0])) 100000 60 1002 m82.2.1 = some m82.2.2 := by kernel_rfl
theorem w82 (ρ : Nat → Int) (hF : FactsOK (nf ρ) fx82) : Holds ρ m82 := holds_of (tbl := [m0]) hF ⟨w0 ρ (FactsOK.sub hF (by kernel_rfl)), trivial⟩ r82
def m83 : Entry := (1002, [V.sl [[V.sym .u8 (x 1) (0) (255) (1) (0)],[V.sym .u8 (x 2) (0) (255) (1) (0)],[V.sym .u8 (x 3) (0) (255) (1) (0)],[V.sym .u8 (x 4) (0) (255) (1) (0)],[V.sym .u8 (x 5) (0) (255) (1) (0)],[V.sym .u8 (x 6) (0) (255) (1) (0)]],V.sym .u8 (x 0) (0) (255) (1) (0)], b1, [])
def fx83 : List Fact := [(false, (.bin .rem .u8 (x 1) ((.con (4)))), (.bin .rem .u8 (x 0) ((.con (4)))), true), (false, (.bin .rem .u8 (x 2) ((.con (4)))), (.bin .rem .u8 (x 0) ((.con (4)))), false), (false, (.bin .rem .u8 (x 3) ((.con (4)))), (.bin .rem .u8 (x 0) ((.con (4)))), true), (false, (.bin .rem .u8 (x 4) ((.con (4)))), (.bin .rem .u8 (x 0) ((.con (4)))), true), (false, (.bin .rem .u8 (x 5) ((.con (4)))), (.bin .rem .u8 (x 0) ((.con (4)))), false), (false, (.bin .rem .u8 (x 6) ((.con (4)))), (.bin .rem .u8 (x 0) ((.con (4)))), false)]
theorem r83 : runF (abi fx83) funs (orP prims (memoP [m0])) 100000 60 1002 m83.2.1 = some m83.2.2 := by kernel_rfl
theorem w83 (ρ : Nat → Int) (hF : FactsOK (nf ρ) fx83) : Holds ρ m83 := holds_of (tbl := [m0]) hF ⟨w0 ρ (FactsOK.sub hF (by kernel_rfl)), trivial⟩ r83
def m84 : Entry := (1002, [V.sl [[V.sym .u8 (x 1) (0) (255) (1) (0)],[V.sym .u8 (x 2) (0) (255) (1) (0)],[V.sym .u8 (x 3) (0) (255) (1) (0)],[V.sym .u8 (x 4) (0) (255) (1) (0)],[V.sym .u8 (x 5) (0) (255) (1) (0)],[V.sym .u8 (x 6) (0) (255) (1) (0)]],V.sym .u8 (x 0) (0) (255) (1) (0)], b1, [])
def fx84 : List Fact := [(false, (.bin .rem .u8 (x 1) ((.con (4)))), (.bin .rem .u8 (x 0) ((.con (4)))), true), (false, (.bin .rem .u8 (x 2) ((.con (4)))), (.bin .rem .u8 (x 0) ((.con (4)))), false), (false, (.bin .rem .u8 (x 3) ((.con (4)))), (.bin .rem .u8 (x 0) ((.con (4)))), true), (false, (.bin .rem .u8 (x 4) ((.con (4)))), (.bin .rem .u8 (x 0) ((.con (4)))), false), (false, (.bin .rem .u8 (x 5) ((.con (4)))), (.bin .rem .u8 (x 0) ((.con (4)))), true), (false, (.bin .rem .u8 (x 6) ((.con (4)))), (.bin .rem .u8 (x 0) ((.con (4)))), true)]
theorem r84 : runF (abi fx84) funs (orP prims (memoP [m0])) 100000 60 1002 m84.2.1 = some m84.2.2 := by kernel_rfl
theorem w84 (ρ : Nat → Int) (hF : FactsOK (nf ρ) fx84) : Holds ρ m84 := holds_of (tbl := [m0]) hF ⟨w0 ρ (FactsOK.sub hF (by kernel_rfl)), trivial⟩ r84
def m85 : Entry := (1002, [V.sl [[V.sym .u8 (x 1) (0) (255) (1) (0)],[V.sym .u8 (x 2) (0) (255) (1) (0)],[V.sym .u8 (x 3) (0) (255) (1) (0)],[V.sym .u8 (x 4) (0) (255) (1) (0)],[V.sym .u8 (x 5) (0) (255) (1) (0)],[V.sym .u8 (x 6) (0) (255) (1) (0)]],V.sym .u8 (x 0) (0) (255) (1) (0)], b1, [])
def fx85 : List Fact := [(false, (.bin .rem .u8 (x 1) ((.con (4)))), (.bin .rem .u8 (x 0) ((.con (4)))), true), (false, (.bin .rem .u8 (x 2) ((.con (4)))), (.bin .rem .u8 (x 0) ((.con (4)))), false), (false, (.bin .rem .u8 (x 3) ((.con (4)))), (.bin .rem .u8 (x 0) ((.con (4)))), true), (false, (.bin .rem .u8 (x 4) ((.con (4)))), (.bin .rem .u8 (x 0) ((.con (4)))), false), (false, (.bin .rem .u8 (x 5) ((.con (4)))), (.bin .rem .u8 (x 0) ((.con (4)))), true), (false, (.bin .rem .u8 (x 6) ((.con (4)))), (.bin .rem .u8 (x 0) ((.con (4)))), false)]
theorem r85 : runF (abi fx85) funs (orP prims (memoP [m0])) 100000 60 1002 m85.2.1 = some m85.2.2 := by kernel_rfl
theorem w85 (ρ : Nat → Int) (hF : FactsOK (nf ρ) fx85) : Holds ρ m85 := holds_of (tbl := [m0]) hF ⟨w0 ρ (FactsOK.sub hF (by kernel_rfl)), trivial⟩ r85
def m86 : Entry := (1002, [V.sl [[V.sym .u8 (x 1) (0) (255) (1) (0)],[V.sym .u8 (x 2) (0) (255) (1) (0)],[V.sym .u8 (x 3) (0) (255) (1) (0)],[V.sym .u8 (x 4) (0) (255) (1) (0)],[V.sym .u8 (x 5) (0) (255) (1) (0)],[V.sym .u8 (x 6) (0) (255) (1) (0)]],V.sym .u8 (x 0) (0) (255) (1) (0)], b1, [])
def fx86 : List Fact := [(false, (.bin .rem .u8 (x 1) ((.con (4)))), (.bin .rem .u8 (x 0) ((.con (4)))), true), (false, (.bin .rem .u8 (x 2) ((.con (4)))), (.bin .rem .u8 (x 0) ((.con (4)))), false), (false, (.bin .rem .u8 (x 3) ((.con (4)))), (.bin .rem .u8 (x 0) ((.con (4)))), true), (false, (.bin .rem .u8 (x 4) ((.con (4)))), (.bin .rem .u8 (x 0) ((.con (4)))), false), (false, (.bin .rem .u8 (x 5) ((.con (4)))), (.bin .rem .u8 (x 0) ((.con (4)))), false), (false, (.bin .rem .u8 (x 6) ((.con (4)))), (.bin .rem .u8 (x 0) ((.con (4)))), true)]
theorem r86 : runF (abi fx86) funs (orP prims (memoP [m0])) 100000 60 1002 m86.2.1 = some m86.2.2 := by kernel_rfl
theorem w86 (ρ : Nat → Int) (hF : FactsOK (nf ρ) fx86) : Holds ρ m86 := holds_of (tbl := [m0]) hF ⟨w0 ρ (FactsOK.sub hF (by kernel_rfl)), trivial⟩ r86
def m87 : Entry := (1002, [V.sl [[V.sym .u8 (x 1) (0) (255) (1) (0)],[V.sym .u8 (x 2) (0) (255) (1) (0)],[V.sym .u8 (x 3) (0) (255) (1) (0)],[V.sym .u8 (x 4) (0) (255) (1) (0)],[V.sym .u8 (x 5) (0) (255) (1) (0)],[V.sym .u8 (x 6) (0) (255) (1) (0)]],V.sym .u8 (x 0) (0) (255) (1) (0)], b1, [])
def fx87 : List Fact := [(false, (.bin .rem .u8 (x 1) ((.con (4)))), (.bin .rem .u8 (x 0) ((.con (4)))), true), (false, (.bin .rem .u8 (x 2) ((.con (4)))), (.bin .rem .u8 (x 0) ((.con (4)))), false), (false, (.bin .rem .u8 (x 3) ((.con (4)))), (.bin .rem .u8 (x 0) ((.con (4)))), true), (false, (.bin .rem .u8 (x 4) ((.con (4)))), (.bin .rem .u8 (x 0) ((.con (4)))), false), (false, (.bin .rem .u8 (x 5) ((.con (4)))), (.bin .rem .u8 (x 0) ((.con (4)))), false), (false, (.bin .rem .u8 (x 6) ((.con (4)))), (.bin .rem .u8 (x 0) ((.con (4)))), false)]
theorem r87 : runF (abi fx87) funs (orP prims (memoP [m0])) 100000 60 1002 m87.2.1 = some m87.2.2 := by kernel_rfl
theorem w87 (ρ : Nat → Int) (hF : FactsOK (nf ρ) fx87) : Holds ρ m87 := holds_of (tbl := [m0]) hF ⟨w0 ρ (FactsOK.sub hF (by kernel_rfl)), trivial⟩ r87
def m88 : Entry := (1002, [V.sl [[V.sym .u8 (x 1) (0) (255) (1) (0)],[V.sym .u8 (x 2) (0) (255) (1) (0)],[V.sym .u8 (x 3) (0) (255) (1) (0)],[V.sym .u8 (x 4) (0) (255) (1) (0)],[V.sym .u8 (x 5) (0) (255) (1) (0)],[V.sym .u8 (x 6) (0) (255) (1) (0)]],V.sym .u8 (x 0) (0) (255) (1) (0)], b1, [])
def fx88 : List Fact := [(false, (.bin .rem .u8 (x 1) ((.con (4)))), (.bin .rem .u8 (x 0) ((.con (4)))), true), (false, (.bin .rem .u8 (x 2) ((.con (4)))), (.bin .rem .u8 (x 0) ((.con (4)))), false), (false, (.bin .rem .u8 (x 3) ((.con (4)))), (.bin .rem .u8 (x 0) ((.con (4)))), false), (false, (.bin .rem .u8 (x 4) ((.con (4)))), (.bin .rem .u8 (x 0) ((.con (4)))), true), (false, (.bin .rem .u8 (x 5) ((.con (4)))), (.bin .rem .u8 (x 0) ((.con (4)))), true), (false, (.bin .rem .u8 (x 6) ((.con (4)))), (.bin .rem .u8 (x 0) ((.con (4)))), true)]
theorem r88 : runF (abi fx88) funs (orP prims (memoP [m0])) 100000 60 1002 m88.2.1 = some m88.2.2 := by kernel_rfl
theorem w88 (ρ : Nat → Int) (hF : FactsOK (nf ρ) fx88) : Holds ρ m88 := holds_of (tbl := [m0]) hF ⟨w0 ρ (FactsOK.sub hF (by kernel_rfl)), trivial⟩ r88
def m89 : Entry := (1002, [V.sl [[V.sym .u8 (x 1) (0) (255) (1) (0)],[V.sym .u8 (x 2) (0) (255) (1) (0)],[V.sym .u8 (x 3) (0) (255) (1) (0)],[V.sym .u8 (x 4) (0) (255) (1) (0)],[V.sym .u8 (x 5) (0) (255) (1) (0)],[V.sym .u8 (x 6) (0) (255) (1) (0)]],V.sym .u8 (x 0) (0) (255) (1) (0)], b1, [])
def fx89 : List Fact := [(false, (.bin .rem .u8 (x 1) ((.con (4)))), (.bin .rem .u8 (x 0) ((.con (4)))), true), (false, (.bin .rem .u8 (x 2) ((.con (4)))), (.bin .rem .u8 (x 0) ((.con (4)))), false), (false, (.bin .rem .u8 (x 3) ((.con (4)))), (.bin .rem .u8 (x 0) ((.con (4)))), false), (false, (.bin .rem .u8 (x 4) ((.con (4)))), (.bin .rem .u8 (x 0) ((.con (4)))), true), (false, (.bin .rem .u8 (x 5) ((.con (4)))), (.bin .rem .u8 (x 0) ((.con (4)))), true), (false, (.bin .rem .u8 (x 6) ((.con (4)))), (.bin .rem .u8 (x 0) ((.con (4)))), false)]
theorem r89 : runF (abi fx89) funs (orP prims (memoP [m0])) 100000 60 1002 m89.2.1 = some m89.2.2 := by kernel_rfl
theorem w89 (ρ : Nat → Int) (hF : FactsOK (nf ρ) fx89) : Holds ρ m89 := holds_of (tbl := [m0]) hF ⟨w0 ρ (FactsOK.sub hF (by kernel_rfl)), trivial⟩ r89
def m90 : Entry := (1002, [V.sl [[V.sym .u8 (x 1) (0) (255) (1) (0)],[V.sym .u8 (x 2) (0) (255) (1) (0)],[V.sym .u8 (x 3) (0) (255) (1) (0)],[V.sym .u8 (x 4) (0) (255) (1) (0)],[V.sym .u8 (x 5) (0) (255) (1) (0)],[V.sym .u8 (x 6) (0) (255) (1) (0)]],V.sym .u8 (x 0) (0) (255) (1) (0)], b1, [])
def fx90 : List Fact := [(false, (.bin .rem .u8 (x 1) ((.con (4)))), (.bin .rem .u8 (x 0) ((.con (4)))), true), (false, (.bin .rem .u8 (x 2) ((.con (4)))), (.bin .rem .u8 (x 0) ((.con (4)))), false), (false, (.bin .rem .u8 (x 3) ((.con (4)))), (.bin .rem .u8 (x 0) ((.con (4)))), false), (false, (.bin .rem .u8 (x 4) ((.con (4)))), (.bin .rem .u8 (x 0) ((.con (4)))), true), (false, (.bin .rem .u8 (x 5) ((.con (4)))), (.bin .rem .u8 (x 0) ((.con (4)))), false), (false, (.bin .rem .u8 (x 6) ((.con (4)))), (.bin .rem .u8 (x 0) ((.con (4)))), true)]
theorem r90 : runF (abi fx90) funs (orP prims (memoP [m0])) 100000 60 1002 m90.2.1 = some m90.2.2 := by kernel_rfl
theorem w90 (ρ : Nat → Int) (hF : FactsOK (nf ρ) fx90) : Holds ρ m90 := holds_of (tbl := [m0]) hF ⟨w0 ρ (FactsOK.sub hF (by kernel_rfl)), trivial⟩ r90
def m91 : Entry := (1002, [V.sl [[V.sym .u8 (x 1) (0) (255) (1) (0)],[V.sym .u8 (x 2) (0) (255) (1) (0)],[V.sym .u8 (x 3) (0) (255) (1) (0)],[V.sym .u8 (x 4) (0) (255) (1) (0)],[V.sym .u8 (x 5) (0) (255) (1) (0)],[V.sym .u8 (x 6) (0) (255) (1) (0)]],V.sym .u8 (x 0) (0) (255) (1) (0)], b1, [])
def fx91 : List Fact := [(false, (.bin .rem .u8 (x 1) ((.con (4)))), (.bin .rem .u8 (x 0) ((.con (4)))), true), (false, (.bin .rem .u8 (x 2) ((.con (4)))), (.bin .rem .u8 (x 0) ((.con (4)))), false), (false, (.bin .rem .u8 (x 3) ((.con (4)))), (.bin .rem .u8 (x 0) ((.con (4)))), false), (false, (.bin .rem .u8 (x 4) ((.con (4)))), (.bin .rem .u8 (x 0) ((.con (4)))), true), (false, (.bin .rem .u8 (x 5) ((.con (4)))), (.bin .rem .u8 (x 0) ((.con (4)))), false), (false, (.bin .rem .u8 (x 6) ((.con (4)))), (.bin .rem .u8 (x 0) ((.con (4)))), false)]
theorem r91 : runF (abi fx91) funs (orP prims (memoP [m0])) 100000 60 1002 m91.2.1 = some m91.2.2 := by kernel_rfl
theorem w91 (ρ : Nat → Int) (hF : FactsOK (nf ρ) fx91) : Holds ρ m91 := holds_of (tbl := [m0]) hF ⟨w0 ρ (FactsOK.sub hF (by kernel_rfl)), trivial⟩ r91
def m92 : Entry := (1002, [V.sl [[V.sym .u8 (x 1) (0) (255) (1) (0)],[V.sym .u8 (x 2) (0) (255) (1) (0)],[V.sym .u8 (x 3) (0) (255) (1) (0)],[V.sym .u8 (x 4) (0) (255) (1) (0)],[V.sym .u8 (x 5) (0) (255) (1) (0)],[V.sym .u8 (x 6) (0) (255) (1) (0)]],V.sym .u8 (x 0) (0) (255) (1) (0)], b1, [])
def fx92 : List Fact := [(false, (.bin .rem .u8 (x 1) ((.con (4)))), (.bin .rem .u8 (x 0) ((.con (4)))), true), (false, (.bin .rem .u8 (x 2) ((.con (4)))), (.bin .rem .u8 (x 0) ((.con (4)))), false), (false, (.bin .rem .u8 (x 3) ((.con (4)))), (.bin .rem .u8 (x 0) ((.con (4)))), false), (false, (.bin .rem .u8 (x 4) ((.con (4)))), (.bin .rem .u8 (x 0) ((.con (4)))), false), (false, (.bin .rem .u8 (x 5) ((.con (4)))), (.bin .rem .u8 (x 0) ((.con (4)))), true), (false, (.bin .rem .u8 (x 6) ((.con (4)))), (.bin .rem .u8 (x 0) ((.con (4)))), true)]
theorem r92 : runF (abi fx92) funs (orP prims (memoP [m0])) 100000 60 1002 m92.2.1 = some m92.2.2 := by kernel_rfl
theorem w92 (ρ : Nat → Int) (hF : FactsOK (nf ρ) fx92) : Holds ρ m92 := holds_of (tbl := [m0]) hF ⟨w0 ρ (FactsOK.sub hF (by kernel_rfl)), trivial⟩ r92
def m93 : Entry := (1002, [V.sl [[V.sym .u8 (x 1) (0) (255) (1) (0)],[V.sym .u8 (x 2) (0) (255) (1) (0)],[V.sym .u8 (x 3) (0) (255) (1) (0)],[V.sym .u8 (x 4) (0) (255) (1) (0)],[V.sym .u8 (x 5) (0) (255) (1) (0)],[V.sym .u8 (x 6) (0) (255) (1) (0)]],V.sym .u8 (x 0) (0) (255) (1) (0)], b1, [])
def fx93 : List Fact := [(false, (.bin .rem .u8 (x 1) ((.con (4)))), (.bin .rem .u8 (x 0) ((.con (4)))), true), (false, (.bin .rem .u8 (x 2) ((.con (4)))), (.bin .rem .u8 (x 0) ((.con (4)))), false), (false, (.bin .rem .u8 (x 3) ((.con (4)))), (.bin .rem .u8 (x 0) ((.con (4)))), false), (false, (.bin .rem .u8 (x 4) ((.con (4)))), (.bin .rem .u8 (x 0) ((.con (4)))), false), (false, (.bin .rem .u8 (x 5) ((.con (4)))), (.bin .rem .u8 (x 0) ((.con (4)))), true), (false, (.bin .rem .u8 (x 6) ((.con (4)))), (.bin .rem .u8 (x 0) ((.con (4)))), false)]
theorem r93 : runF (abi fx93) funs (orP prims (memoP [m0])) 100000 60 1002 m93.2.1 = some m93.2.2 := by kernel_rfl
theorem w93 (ρ : Nat → Int) (hF : FactsOK (nf ρ) fx93) : Holds ρ m93 := holds_of (tbl := [m0]) hF ⟨w0 ρ (FactsOK.sub hF (by kernel_rfl)), trivial⟩ r93
def m94 : Entry := (1002, [V.sl [[V.sym .u8 (x 1) (0) (255) (1) (0)],[V.sym .u8 (x 2) (0) (255) (1) (0)],[V.sym .u8 (x 3) (0) (255) (1) (0)],[V.sym .u8 (x 4) (0) (255) (1) (0)],[V.sym .u8 (x 5) (0) (255) (1) (0)],[V.sym .u8 (x 6) (0) (255) (1) (0)]],V.sym .u8 (x 0) (0) (255) (1) (0)], b1, [])
def fx94 : List Fact := [(false, (.bin .rem .u8 (x 1) ((.con (4)))), (.bin .rem .u8 (x 0) ((.con (4)))), true), (false, (.bin .rem .u8 (x 2) ((.con (4)))), (.bin .rem .u8 (x 0) ((.con (4)))), false), (false, (.bin .rem .u8 (x 3) ((.con (4)))), (.bin .rem .u8 (x 0) ((.con (4)))), false), (false, (.bin .rem .u8 (x 4) ((.con (4)))), (.bin .rem .u8 (x 0) ((.con (4)))), false), (false, (.bin .rem .u8 (x 5) ((.con (4)))), (.bin .rem .u8 (x 0) ((.con (4)))), false), (false, (.bin .rem .u8 (x 6) ((.con (4)))), (.bin .rem .u8 (x 0) ((.con (4)))), true)]
theorem r94 : runF (abi fx94) funs (orP prims (memoP [m0])) 100000 60 1002 m94.2.1 = some m94.2.2 := by kernel_rfl
theorem w94 (ρ : Nat → Int) (hF : FactsOK (nf ρ) fx94) : Holds ρ m94 := holds_of (tbl := [m0]) hF ⟨w0 ρ (FactsOK.sub hF (by kernel_rfl)), trivial⟩ r94
def m95 : Entry := (1002, [V.sl [[V.sym .u8 (x 1) (0) (255) (1) (0)],[V.sym .u8 (x 2) (0) (255) (1) (0)],[V.sym .u8 (x 3) (0) (255) (1) (0)],[V.sym .u8 (x 4) (0) (255) (1) (0)],[V.sym .u8 (x 5) (0) (255) (1) (0)],[V.sym .u8 (x 6) (0) (255) (1) (0)]],V.sym .u8 (x 0) (0) (255) (1) (0)], b1, [])
def fx95 : List Fact := [(false, (.bin .rem .u8 (x 1) ((.con (4)))), (.bin .rem .u8 (x 0) ((.con (4)))), true), (false, (.bin .rem .u8 (x 2) ((.con (4)))), (.bin .rem .u8 (x 0) ((.con (4)))), false), (false, (.bin .rem .u8 (x 3) ((.con (4)))), (.bin .rem .u8 (x 0) ((.con (4)))), false), (false, (.bin .rem .u8 (x 4) ((.con (4)))), (.bin .rem .u8 (x 0) ((.con (4)))), false), (false, (.bin .rem .u8 (x 5) ((.con (4)))), (.bin .rem .u8 (x 0) ((.con (4)))), false), (false, (.bin .rem .u8 (x 6) ((.con (4)))), (.bin .rem .u8 (x 0) ((.con (4)))), false)]
theorem r95 : runF (abi fx95) funs (orP prims (memoP [m0])) 100000 60 1002 m95.2.1 = some m95.2.2 := by kernel_rfl
theorem w95 (ρ : Nat → Int) (hF : FactsOK (nf ρ) fx95) : Holds ρ m95 := holds_of (tbl := [m0]) hF ⟨w0 ρ (FactsOK.sub hF (by kernel_rfl)), trivial⟩ r95
def m96 : Entry := (1002, [V.sl [[V.sym .u8 (x 1) (0) (255) (1) (0)],[V.sym .u8 (x 2) (0) (255) (1) (0)],[V.sym .u8 (x 3) (0) (255) (1) (0)],[V.sym .u8 (x 4) (0) (255) (1) (0)],[V.sym .u8 (x 5) (0) (255) (1) (0)],[V.sym .u8 (x 6) (0) (255) (1) (0)]],V.sym .u8 (x 0) (0) (255) (1) (0)], b1, [])
def fx96 : List Fact := [(false, (.bin .rem .u8 (x 1) ((.con (4)))), (.bin .rem .u8 (x 0) ((.con (4)))), false), (false, (.bin .rem .u8 (x 2) ((.con (4)))), (.bin .rem .u8 (x 0) ((.con (4)))), true), (false, (.bin .rem .u8 (x 3) ((.con (4)))), (.bin .rem .u8 (x 0) ((.con (4)))), true), (false, (.bin .rem .u8 (x 4) ((.con (4)))), (.bin .rem .u8 (x 0) ((.con (4)))), true), (false, (.bin .rem .u8 (x 5) ((.con (4)))), (.bin .rem .u8 (x 0) ((.con (4)))), true), (false, (.bin .rem .u8 (x 6) ((.con (4)))), (.bin .rem .u8 (x 0) ((.con (4)))), true)]
theorem r96 : runF (abi fx96) funs (orP prims (memoP [m0])) 100000 60 1002 m96.2.1 = some m96.2.2 := by kernel_rfl
theorem w96 (ρ : Nat → Int) (hF : FactsOK (nf ρ) fx96) : Holds ρ m96 := holds_of (tbl := [m0]) hF ⟨w0 ρ (FactsOK.sub hF (by kernel_rfl)), trivial⟩ r96
def m97 : Entry := (1002, [V.sl [[V.sym .u8 (x 1) (0) (255) (1) (0)],[V.sym .u8 (x 2) (0) (255) (1) (0)],[V.sym .u8 (x 3) (0) (255) (1) (0)],[V.sym .u8 (x 4) (0) (255) (1) (0)],[V.sym .u8 (x 5) (0) (255) (1) (0)],[V.sym .u8 (x 6) (0) (255) (1) (0)]],V.sym .u8 (x 0) (0) (255) (1) (0)], b1, [])
def fx97 : List Fact := [(false, (.bin .rem .u8 (x 1) ((.con (4)))), (.bin .rem .u8 (x 0) ((.con (4)))), false), (false, (.bin .rem .u8 (x 2) ((.con (4)))), (.bin .rem .u8 (x 0) ((.con (4)))), true), (false, (.bin .rem .u8 (x 3) ((.con (4)))), (.bin .rem .u8 (x 0) ((.con (4)))), true), (false, (.bin .rem .u8 (x 4) ((.con (4)))), (.bin .rem .u8 (x 0) ((.con (4)))), true), (false, (.bin .rem .u8 (x 5) ((.con (4)))), (.bin .rem .u8 (x 0) ((.con (4)))), true), (false, (.bin .rem .u8 (x 6) ((.con (4)))), (.bin .rem .u8 (x 0) ((.con (4)))), false)]
theorem r97 : runF (abi fx97) funs (orP prims (memoP [m0])) 100000 60 1002 m97.2.1 = some m97.2.2 := by kernel_rfl
theorem w97 (ρ : Nat → Int) (hF : FactsOK (nf ρ) fx97) : Holds ρ m97 := holds_of (tbl := [m0]) hF ⟨w0 ρ (FactsOK.sub hF (by kernel_rfl)), trivial⟩ r97
def m98 : Entry := (1002, [V.sl [[V.sym .u8 (x 1) (0) (255) (1) (0)],[V.sym .u8 (x 2) (0) (255) (1) (0)],[V.sym .u8 (x 3) (0) (255) (1) (0)],[V.sym .u8 (x 4) (0) (255) (1) (0)],[V.sym .u8 (x 5) (0) (255) (1) (0)],[V.sym .u8 (x 6) (0) (255) (1) (0)]],V.sym .u8 (x 0) (0) (255) (1) (0)], b1, [])
def fx98 : List Fact := [(false, (.bin .rem .u8 (x 1) ((.con (4)))), (.bin .rem .u8 (x 0) ((.con (4)))), false), (false, (.bin .rem .u8 (x 2) ((.con (4)))), (.bin .rem .u8 (x 0) ((.con (4)))), true), (false, (.bin .rem .u8 (x 3) ((.con (4)))), (.bin .rem .u8 (x 0) ((.con (4)))), true), (false, (.bin .rem .u8 (x 4) ((.con (4)))), (.bin .rem .u8 (x 0) ((.con (4)))), true), (false, (.bin .rem .u8 (x 5) ((.con (4)))), (.bin .rem .u8 (x 0) ((.con (4)))), false), (false, (.bin .rem .u8 (x 6) ((.con (4)))), (.bin .rem .u8 (x 0) ((.con (4)))), true)]
theorem r98 : runF (abi fx98) funs (orP prims (memoP [m0])) 100000 60 1002 m98.2.1 = some m98.2.2 := by kernel_rfl
theorem w98 (ρ : Nat → Int) (hF : FactsOK (nf ρ) fx98) : Holds ρ m98 := holds_of (tbl := [m0]) hF ⟨w0 ρ (FactsOK.sub hF (by kernel_rfl)), trivial⟩ r98
def m99 : Entry := (1002, [V.sl [[V.sym .u8 (x 1) (0) (255) (1) (0)],[V.sym .u8 (x 2) (0) (255) (1) (0)],[V.sym .u8 (x 3) (0) (255) (1) (0)],[V.sym .u8 (x 4) (0) (255) (1) (0)],[V.sym .u8 (x 5) (0) (255) (1) (0)],[V.sym .u8 (x 6) (0) (255) (1) (0)]],V.sym .u8 (x 0) (0) (255) (1) (0)], b1, [])
def fx99 : List Fact := [(false, (.bin .rem .u8 (x 1) ((.con (4)))), (.bin .rem .u8 (x 0) ((.con (4)))), false), (false, (.bin .rem .u8 (x 2) ((.con (4)))), (.bin .rem .u8 (x 0) ((.con (4)))), true), (false, (.bin .rem .u8 (x 3) ((.con (4)))), (.bin .rem .u8 (x 0) ((.con (4)))), true), (false, (.bin .rem .u8 (x 4) ((.con (4)))), (.bin .rem .u8 (x 0) ((.con (4)))), true), (false, (.bin .rem .u8 (x 5) ((.con (4)))), (.bin .rem .u8 (x 0) ((.con (4)))), false), (false, (.bin .rem .u8 (x 6) ((.con (4)))), (.bin .rem .u8 (x 0) ((.con (4)))), false)]
theorem r99 : runF (abi fx99) funs (orP prims (memoP [m0])) 100000 60 1002 m99.2.1 = some m99.2.2 := by kernel_rfl
theorem w99 (ρ : Nat → Int) (hF : FactsOK (nf ρ) fx99) : Holds ρ m99 := holds_of (tbl := [m0]) hF ⟨w0 ρ (FactsOK.sub hF (by kernel_rfl)), trivial⟩ r99
def m100 : Entry := (1002, [V.sl [[V.sym .u8 (x 1) (0) (255) (1) (0)],[V.sym .u8 (x 2) (0) (255) (1) (0)],[V.sym .u8 (x 3) (0) (255) (1) (0)],[V.sym .u8 (x 4) (0) (255) (1) (0)],[V.sym .u8 (x 5) (0) (255) (1) (0)],[V.sym .u8 (x 6) (0) (255) (1) (0)]],V.sym .u8 (x 0) (0) (255) (1) (0)], b1, [])
def fx100 : List Fact := [(false, (.bin .rem .u8 (x 1) ((.con (4)))), (.bin .rem .u8 (x 0) ((.con (4)))), false), (false, (.bin .rem .u8 (x 2) ((.con (4)))), (.bin .rem .u8 (x 0) ((.con (4)))), true), (false, (.bin .rem .u8 (x 3) ((.con (4)))), (.bin .rem .u8 (x 0) ((.con (4)))), true), (false, (.bin .rem .u8 (x 4) ((.con (4)))), (.bin .rem .u8 (x 0) ((.con (4)))), false), (false, (.bin .rem .u8 (x 5) ((.con (4)))), (.bin .rem .u8 (x 0) ((.con (4)))), true), (false, (.bin .rem .u8 (x 6) ((.con (4)))), (.bin .rem .u8 (x 0) ((.con (4)))), true)]
theorem r100 : runF (abi fx100) funs (orP prims (memoP [m0])) 100000 60 1002 m100.2.1 = some m100.2.2 := by kernel_rfl
theorem w100 (ρ : Nat → Int) (hF : FactsOK (nf ρ) fx100) : Holds ρ m100 := holds_of (tbl := [m0]) hF ⟨w0 ρ (FactsOK.sub hF (by kernel_rfl)), trivial⟩ r100
def m101 : Entry := (1002, [V.sl [[V.sym .u8 (x 1) (0) (255) (1) (0)],[V.sym .u8 (x 2) (0) (255) (1) (0)],[V.sym .u8 (x 3) (0) (255) (1) (0)],[V.sym .u8 (x 4) (0) (255) (1) (0)],[V.sym .u8 (x 5) (0) (255) (1) (0)],[V.sym .u8 (x 6) (0) (255) (1) (0)]],V.sym .u8 (x 0) (0) (255) (1) (0)], b1, [])
def fx101 : List Fact := [(false, (.bin .rem .u8 (x 1) ((.con (4)))), (.bin .rem .u8 (x 0) ((.con (4)))), false), (false, (.bin .rem .u8 (x 2) ((.con (4)))), (.bin .rem .u8 (x 0) ((.con (4)))), true), (false, (.bin .rem .u8 (x 3) ((.con (4)))), (.bin .rem .u8 (x 0) ((.con (4)))), true), (false, (.bin .rem .u8 (x 4) ((.con (4)))), (.bin .rem .u8 (x 0) ((.con (4)))), false), (false, (.bin .rem .u8 (x 5) ((.con (4)))), (.bin .rem .u8 (x 0) ((.con (4)))), true), (false, (.bin .rem .u8 (x 6) ((.con (4)))), (.bin .rem .u8 (x 0) ((.con (4)))), false)]
theorem r101 : runF (abi fx101) funs (orP prims (memoP [m0])) 100000 60 1002 m101.2.1 = some m101.2.2 := by kernel_rfl
theorem w101 (ρ : Nat → Int) (hF : FactsOK (nf ρ) fx101) : Holds ρ m101 := holds_of (tbl := [m0]) hF ⟨w0 ρ (FactsOK.sub hF (by kernel_rfl)), trivial⟩ r101
def m102 : Entry := (1002, [V.sl [[V.sym .u8 (x 1) (0) (255) (1) (0)],[V.sym .u8 (x 2) (0) (255) (1) (0)],[V.sym .u8 (x 3) (0) (255) (1) (0)],[V.sym .u8 (x 4) (0) (255) (1) (0)],[V.sym .u8 (x 5) (0) (255) (1) (0)],[V.sym .u8 (x 6) (0) (255) (1) (0)]],V.sym .u8 (x 0) (0) (255) (1) (0)], b1, [])
def fx102 : List Fact := [(false, (.bin .rem .u8 (x 1) ((.con (4)))), (.bin .rem .u8 (x 0) ((.con (4)))), false), (false, (.bin .rem .u8 (x 2) ((.con (4)))), (.bin .rem .u8 (x 0) ((.con (4)))), true), (false, (.bin .rem .u8 (x 3) ((.con (4)))), (.bin .rem .u8 (x 0) ((.con (4)))), true), (false, (.bin .rem .u8 (x 4) ((.con (4)))), (.bin .rem .u8 (x 0) ((.con (4)))), false), (false, (.bin .rem .u8 (x 5) ((.con (4)))), (.bin .rem .u8 (x 0) ((.con (4)))), false), (false, (.bin .rem .u8 (x 6) ((.con (4)))), (.bin .rem .u8 (x 0) ((.con (4)))), true)]
theorem r102 : runF (abi fx102) funs (orP prims (memoP [m0])) 100000 60 1002 m102.2.1 = some m102.2.2 := by kernel_rfl
theorem w102 (ρ : Nat → Int) (hF : FactsOK (nf ρ) fx102) : Holds ρ m102 := holds_of (tbl := [m0]) hF ⟨w0 ρ (FactsOK.sub hF (by kernel_rfl)), trivial⟩ r102
def m103 : Entry := (1002, [V.sl [[V.sym .u8 (x 1) (0) (255) (1) (0)],[V.sym .u8 (x 2) (0) (255) (1) (0)],[V.sym .u8 (x 3) (0) (255) (1) (0)],[V.sym .u8 (x 4) (0) (255) (1) (0)],[V.sym .u8 (x 5) (0) (255) (1) (0)],[V.sym .u8 (x 6) (0) (255) (1) (0)]],V.sym .u8 (x 0) (0) (255) (1) (0)], b1, [])
def fx103 : List Fact := [(false, (.bin .rem .u8 (x 1) ((.con (4)))), (.bin .rem .u8 (x 0) ((.con (4)))), false), (false, (.bin .rem .u8 (x 2) ((.con (4)))), (.bin .rem .u8 (x 0) ((.con (4)))), true), (false, (.bin .rem .u8 (x 3) ((.con (4)))), (.bin .rem .u8 (x 0) ((.con (4)))), true), (false, (.bin .rem .u8 (x 4) ((.con (4)))), (.bin .rem .u8 (x 0) ((.con (4)))), false), (false, (.bin .rem .u8 (x 5) ((.con (4)))), (.bin .rem .u8 (x 0) ((.con (4)))), false), (false, (.bin .rem .u8 (x 6) ((.con (4)))), (.bin .rem .u8 (x 0) ((.con (4)))), false)]
theorem r103 : runF (abi fx103) funs (orP prims (memoP [m0])) 100000 60 1002 m103.2.1 = some m103.2.2 := by kernel_rfl
theorem w103 (ρ : Nat → Int) (hF : FactsOK (nf ρ) fx103) : Holds ρ m103 := holds_of (tbl := [m0]) hF ⟨w0 ρ (FactsOK.sub hF (by kernel_rfl)), trivial⟩ r103
def m104 : Entry := (1002, [V.sl [[V.sym .u8 (x 1) (0) (255) (1) (0)],[V.sym .u8 (x 2) (0) (255) (1) (0)],[V.sym .u8 (x 3) (0) (255) (1) (0)],[V.sym .u8 (x 4) (0) (255) (1) (0)],[V.sym .u8 (x 5) (0) (255) (1) (0)],[V.sym .u8 (x 6) (0) (255) (1) (0)]],V.sym .u8 (x 0) (0) (255) (1) (0)], b1, [])
def fx104 : List Fact := [(false, (.bin .rem .u8 (x 1) ((.con (4)))), (.bin .rem .u8 (x 0) ((.con (4)))), false), (false, (.bin .rem .u8 (x 2) ((.con (4)))), (.bin .rem .u8 (x 0) ((.con (4)))), true), (false, (.bin .rem .u8 (x 3) ((.con (4)))), (.bin .rem .u8 (x 0) ((.con (4)))), false), (false, (.bin .rem .u8 (x 4) ((.con (4)))), (.bin .rem .u8 (x 0) ((.con (4)))), true), (false, (.bin .rem .u8 (x 5) ((.con (4)))), (.bin .rem .u8 (x 0) ((.con (4)))), true), (false, (.bin .rem .u8 (x 6) ((.con (4)))), (.bin .rem .u8 (x 0) ((.con (4)))), true)]
theorem r104 : runF (abi fx104) funs (orP prims (memoP [m0])) 100000 60 1002 m104.2.1 = some m104.2.2 := by kernel_rfl
theorem w104 (ρ : Nat → Int) (hF : FactsOK (nf ρ) fx104) : Holds ρ m104 := holds_of (tbl := [m0]) hF ⟨w0 ρ (FactsOK.sub hF (by kernel_rfl)), trivial⟩ r104
def m105 : Entry := (1002, [V.sl [[V.sym .u8 (x 1) (0) (255) (1) (0)],[V.sym .u8 (x 2) (0) (255) (1) (0)],[V.sym .u8 (x 3) (0) (255) (1) (0)],[V.sym .u8 (x 4) (0) (255) (1) (0)],[V.sym .u8 (x 5) (0) (255) (1) (0)],[V.sym .u8 (x 6) (0) (255) (1) (0)]],V.sym .u8 (x 0) (0) (255) (1) (0)], b1, [])
def fx105 : List Fact := [(false, (.bin .rem .u8 (x 1) ((.con (4)))), (.bin .rem .u8 (x 0) ((.con (4)))), false), (false, (.bin .rem .u8 (x 2) ((.con (4)))), (.bin .rem .u8 (x 0) ((.con (4)))), true), (false, (.bin .rem .u8 (x 3) ((.con (4)))), (.bin .rem .u8 (x 0) ((.con (4)))), false), (false, (.bin .rem .u8 (x 4) ((.con (4)))), (.bin .rem .u8 (x 0) ((.con (4)))), true), (false, (.bin .rem .u8 (x 5) ((.con (4)))), (.bin .rem .u8 (x 0) ((.con (4)))), true), (false, (.bin .rem .u8 (x 6) ((.con (4)))), (.bin .rem .u8 (x 0) ((.con (4)))), false)]
theorem r105 : runF (abi fx105) funs (orP prims (memoP [m0])) 100000 60 1002 m105.2.1 = some m105.2.2 := by kernel_rfl
theorem w105 (ρ : Nat → Int) (hF : FactsOK (nf ρ) fx105) : Holds ρ m105 := holds_of (tbl := [m0]) hF ⟨w0 ρ (FactsOK.sub hF (by kernel_rfl)), trivial⟩ r105
def m106 : Entry := (1002, [V.sl [[V.sym .u8 (x 1) (0) (255) (1) (0)],[V.sym .u8 (x 2) (0) (255) (1) (0)],[V.sym .u8 (x 3) (0) (255) (1) (0)],[V.sym .u8 (x 4) (0) (255) (1) (0)],[V.sym .u8 (x 5) (0) (255) (1) (0)],[V.sym .u8 (x 6) (0) (255) (1) (0)]],V.sym .u8 (x 0) (0) (255) (1) (0)], b1, [])
def fx106 : List Fact := [(false, (.bin .rem .u8 (x 1) ((.con (4)))), (.bin .rem .u8 (x 0) ((.con (4)))), false), (false, (.bin .rem .u8 (x 2) ((.con (4)))), (.bin .rem .u8 (x 0) ((.con (4)))), true), (false, (.bin .rem .u8 (x 3) ((.con (4)))), (.bin .rem .u8 (x 0) ((.con (4)))), false), (false, (.bin .rem .u8 (x 4) ((.con (4)))), (.bin .rem .u8 (x 0) ((.con (4)))), true), (false, (.bin .rem .u8 (x 5) ((.con (4)))), (.bin .rem .u8 (x 0) ((.con (4)))), false), (false, (.bin .rem .u8 (x 6) ((.con (4)))), (.bin .rem .u8 (x 0) ((.con (4)))), true)]
theorem r106 : runF (abi fx106) funs (orP prims (memoP [m0])) 100000 60 1002 m106.2.1 = some m106.2.2 := by kernel_rfl
theorem w106 (ρ : Nat → Int) (hF : FactsOK (nf ρ) fx106) : Holds ρ m106 := holds_of (tbl := [m0]) hF ⟨w0 ρ (FactsOK.sub hF (by kernel_rfl)), trivial⟩ r106
def m107 : Entry := (1002, [V.sl [[V.sym .u8 (x 1) (0) (255) (1) (0)],[V.sym .u8 (x 2) (0) (255) (1) (0)],[V.sym .u8 (x 3) (0) (255) (1) (0)],[V.sym .u8 (x 4) (0) (255) (1) (0)],[V.sym .u8 (x 5) (0) (255) (1) (0)],[V.sym .u8 (x 6) (0) (255) (1) (0)]],V.sym .u8 (x 0) (0) (255) (1) (0)], b1, [])
def fx107 : List Fact := [(false, (.bin .rem .u8 (x 1) ((.con (4)))), (.bin .rem .u8 (x 0) ((.con (4)))), false), (false, (.bin .rem .u8 (x 2) ((.con (4)))), (.bin .rem .u8 (x 0) ((.con (4)))), true), (false, (.bin .rem .u8 (x 3) ((.con (4)))), (.bin .rem .u8 (x 0) ((.con (4)))), false), (false, (.bin .rem .u8 (x 4) ((.con (4)))), (.bin .rem .u8 (x 0) ((.con (4)))), true), (false, (.bin .rem .u8 (x 5) ((.con (4)))), (.bin .rem .u8 (x 0) ((.con (4)))), false), (false, (.bin .rem .u8 (x 6) ((.con (4)))), (.bin .rem .u8 (x 0) ((.con (4)))), false)]
theorem r107 : runF (abi fx107) funs (orP prims (memoP [m0])) 100000 60 1002 m107.2.1 = some m107.2.2 := by kernel_rfl
theorem w107 (ρ : Nat → Int) (hF : FactsOK (nf ρ) fx107) : Holds ρ m107 := holds_of (tbl := [m0]) hF ⟨w0 ρ (FactsOK.sub hF (by kernel_rfl)), trivial⟩ r107
def m108 : Entry := (1002, [V.sl [[V.sym .u8 (x 1) (0) (255) (1) (0)],[V.sym .u8 (x 2) (0) (255) (1) (0)],[V.sym .u8 (x 3) (0) (255) (1) (0)],[V.sym .u8 (x 4) (0) (255) (1) (0)],[V.sym .u8 (x 5) (0) (255) (1) (0)],[V.sym .u8 (x 6) (0) (255) (1) (0)]],V.sym .u8 (x 0) (0) (255) (1) (0)], b1, [])
def fx108 : List Fact := [(false, (.bin .rem .u8 (x 1) ((.con (4)))), (.bin .rem .u8 (x 0) ((.con (4)))), false), (false, (.bin .rem .u8 (x 2) ((.con (4)))), (.bin .rem .u8 (x 0) ((.con (4)))), true), (false, (.bin .rem .u8 (x 3) ((.con (4)))), (.bin .rem .u8 (x 0) ((.con (4)))), false), (false, (.bin .rem .u8 (x 4) ((.con (4)))), (.bin .rem .u8 (x 0) ((.con (4)))), false), (false, (.bin .rem .u8 (x 5) ((.con (4)))), (.bin .rem .u8 (x 0) ((.con (4)))), true), (false, (.bin .rem .u8 (x 6) ((.con (4)))), (.bin .rem .u8 (x 0) ((.con (4)))), true)]
theorem r108 : runF (abi fx108) funs (orP prims (memoP [m0])) 100000 60 1002 m108.2.1 = some m108.2.2 := by kernel_rfl
theorem w108 (ρ : Nat → Int) (hF : FactsOK (nf ρ) fx108) : Holds ρ m108 := holds_of (tbl := [m0]) hF ⟨w0 ρ (FactsOK.sub hF (by kernel_rfl)), trivial⟩ r108
def m109 : Entry := (1002, [V.sl [[V.sym .u8 (x 1) (0) (255) (1) (0)],[V.sym .u8 (x 2) (0) (255) (1) (0)],[V.sym .u8 (x 3) (0) (255) (1) (0)],[V.sym .u8 (x 4) (0) (255) (1) (0)],[V.sym .u8 (x 5) (0) (255) (1) (0)],[V.sym .u8 (x 6) (0) (255) (1) (0)]],V.sym .u8 (x 0) (0) (255) (1) (0)], b1, [])
def fx109 : List Fact := [(false, (.bin .rem .u8 (x 1) ((.con (4)))), (.bin .rem .u8 (x 0) ((.con (4)))), false), (false, (.bin .rem .u8 (x 2) ((.con (4)))), (.bin .rem .u8 (x 0) ((.con (4)))), true), (false, (.bin .rem .u8 (x 3) ((.con (4)))), (.bin .rem .u8 (x 0) ((.con (4)))), false), (false, (.bin .rem .u8 (x 4) ((.con (4)))), (.bin .rem .u8 (x 0) ((.con (4)))), false), (false, (.bin .rem .u8 (x 5) ((.con (4)))), (.bin .rem .u8 (x 0) ((.con (4)))), true), (false, (.bin .rem .u8 (x 6) ((.con (4)))), (.bin .rem .u8 (x 0) ((.con (4)))), false)]
theorem r109 : runF (abi fx109) funs (orP prims (memoP [m0])) 100000 60 1002 m109.2.1 = some m109.2.2 := by kernel_rfl
theorem w109 (ρ : Nat → Int) (hF : FactsOK (nf ρ) fx109) : Holds ρ m109 := holds_of (tbl := [m0]) hF ⟨w0 ρ (FactsOK.sub hF (by kernel_rfl)), trivial⟩ r109
def m110 : Entry := (1002, [V.sl [[V.sym .u8 (x 1) (0) (255) (1) (0)],[V.sym .u8 (x 2) (0) (255) (1) (0)],[V.sym .u8 (x 3) (0) (255) (1) (0)],[V.sym .u8 (x 4) (0) (255) (1) (0)],[V.sym .u8 (x 5) (0) (255) (1) (0)],[V.sym .u8 (x 6) (0) (255) (1) (0)]],V.sym .u8 (x 0) (0) (255) (1) (0)], b1, [])
def fx110 : List Fact := [(false, (.bin .rem .u8 (x 1) ((.con (4)))), (.bin .rem .u8 (x 0) ((.con (4)))), false), (false, (.bin .rem .u8 (x 2) ((.con (4)))), (.bin .rem .u8 (x 0) ((.con (4)))), true), (false, (.bin .rem .u8 (x 3) ((.con (4)))), (.bin .rem .u8 (x 0) ((.con (4)))), false), (false, (.bin .rem .u8 (x 4) ((.con (4)))), (.bin .rem .u8 (x 0) ((.con (4)))), false), (false, (.bin .rem .u8 (x 5) ((.con (4)))), (.bin .rem .u8 (x 0) ((.con (4)))), false), (false, (.bin .rem .u8 (x 6) ((.con (4)))), (.bin .rem .u8 (x 0) ((.con (4)))), true)]
theorem r110 : runF (abi fx110) funs (orP prims (memoP [m0])) 100000 60 1002 m110.2.1 = some m110.2.2 := by kernel_rfl
theorem w110 (ρ : Nat → Int) (hF : FactsOK (nf ρ) fx110) : Holds ρ m110 := holds_of (tbl := [m0]) hF ⟨w0 ρ (FactsOK.sub hF (by kernel_rfl)), trivial⟩ r110
def m111 : Entry := (1002, [V.sl [[V.sym .u8 (x 1) (0) (255) (1) (0)],[V.sym .u8 (x 2) (0) (255) (1) (0)],[V.sym .u8 (x 3) (0) (255) (1) (0)],[V.sym .u8 (x 4) (0) (255) (1) (0)],[V.sym .u8 (x 5) (0) (255) (1) (0)],[V.sym .u8 (x 6) (0) (255) (1) (0)]],V.sym .u8 (x 0) (0) (255) (1) (0)], b1, [])
def fx111 : List Fact := [(false, (.bin .rem .u8 (x 1) ((.con (4)))), (.bin .rem .u8 (x 0) ((.con (4)))), false), (false, (.bin .rem .u8 (x 2) ((.con (4)))), (.bin .rem .u8 (x 0) ((.con (4)))), true), (false, (.bin .rem .u8 (x 3) ((.con (4)))), (.bin .rem .u8 (x 0) ((.con (4)))), false), (false, (.bin .rem .u8 (x 4) ((.con (4)))), (.bin .rem .u8 (x 0) ((.con (4)))), false), (false, (.bin .rem .u8 (x 5) ((.con (4)))), (.bin .rem .u8 (x 0) ((.con (4)))), false), (false, (.bin .rem .u8 (x 6) ((.con (4)))), (.bin .rem .u8 (x 0) ((.con (4)))), false)]
theorem r111 : runF (abi fx111) funs (orP prims (memoP [m0])) 100000 60 1002 m111.2.1 = some m111.2.2 := by kernel_rfl
theorem w111 (ρ : Nat → Int) (hF : FactsOK (nf ρ) fx111) : Holds ρ m111 := holds_of (tbl := [m0]) hF ⟨w0 ρ (FactsOK.sub hF (by kernel_rfl)), trivial⟩ r111
def m112 : Entry := (1002, [V.sl [[V.sym .u8 (x 1) (0) (255) (1) (0)],[V.sym .u8 (x 2) (0) (255) (1) (0)],[V.sym .u8 (x 3) (0) (255) (1) (0)],[V.sym .u8 (x 4) (0) (255) (1) (0)],[V.sym .u8 (x 5) (0) (255) (1) (0)],[V.sym .u8 (x 6) (0) (255) (1) (0)]],V.sym .u8 (x 0) (0) (255) (1) (0)], b1, [])
def fx112 : List Fact := [(false, (.bin .rem .u8 (x 1) ((.con (4)))), (.bin .rem .u8 (x 0) ((.con (4)))), false), (false, (.bin .rem .u8 (x 2) ((.con (4)))), (.bin .rem .u8 (x 0) ((.con (4)))), false), (false, (.bin .rem .u8 (x 3) ((.con (4)))), (.bin .rem .u8 (x 0) ((.con (4)))), true), (false, (.bin .rem .u8 (x 4) ((.con (4)))), (.bin .rem .u8 (x 0) ((.con (4)))), true), (false, (.bin .rem .u8 (x 5) ((.con (4)))), (.bin .rem .u8 (x 0) ((.con (4)))), true), (false, (.bin .rem .u8 (x 6) ((.con (4)))), (.bin .rem .u8 (x 0) ((.con (4)))), true)]
theorem r112 : runF (abi fx112) funs (orP prims (memoP [m0])) 100000 60 1002 m112.2.1 = some m112.2.2 := by kernel_rfl
theorem w112 (ρ : Nat → Int) (hF : FactsOK (nf ρ) fx112) : Holds ρ m112 := holds_of (tbl := [m0]) hF ⟨w0 ρ (FactsOK.sub hF (by kernel_rfl)), trivial⟩ r112
def m113 : Entry := (1002, [V.sl [[V.sym .u8 (x 1) (0) (255) (1) (0)],[V.sym .u8 (x 2) (0) (255) (1) (0)],[V.sym .u8 (x 3) (0) (255) (1) (0)],[V.sym .u8 (x 4) (0) (255) (1) (0)],[V.sym .u8 (x 5) (0) (255) (1) (0)],[V.sym .u8 (x 6) (0) (255) (1) (0)]],V.sym .u8 (x 0) (0) (255) (1) (0)], b1, [])
def fx113 : List Fact := [(false, (.bin .rem .u8 (x 1) ((.con (4)))), (.bin .rem .u8 (x 0) ((.con (4)))), false), (false, (.bin .rem .u8 (x 2) ((.con (4)))), (.bin .rem .u8 (x 0) ((.con (4)))), false), (false, (.bin .rem .u8 (x 3) ((.con (4)))), (.bin .rem .u8 (x 0) ((.con (4)))), true), (false, (.bin .rem .u8 (x 4) ((.con (4)))), (.bin .rem .u8 (x 0) ((.con (4)))), true), (false, (.bin .rem .u8 (x 5) ((.con (4)))), (.bin .rem .u8 (x 0) ((.con (4)))), true), (false, (.bin .rem .u8 (x 6) ((.con (4)))), (.bin .rem .u8 (x 0) ((.con (4)))), false)]
theorem r113 : runF (abi fx113) funs (orP prims (memoP [m0])) 100000 60 1002 m113.2.1 = some m113.2.2 := by kernel_rfl
theorem w113 (ρ : Nat → Int) (hF : FactsOK (nf ρ) fx113) : Holds ρ m113 := holds_of (tbl := [m0]) hF ⟨w0 ρ (FactsOK.sub hF (by kernel_rfl)), trivial⟩ r113
def m114 : Entry := (1002, [V.sl [[V.sym .u8 (x 1) (0) (255) (1) (0)],[V.sym .u8 (x 2) (0) (255) (1) (0)],[V.sym .u8 (x 3) (0) (255) (1) (0)],[V.sym .u8 (x 4) (0) (255) (1) (0)],[V.sym .u8 (x 5) (0) (255) (1) (0)],[V.sym .u8 (x 6) (0) (255) (1) (0)]],V.sym .u8 (x 0) (0) (255) (1) (0)], b1, [])
def fx114 : List Fact := [(false, (.bin .rem .u8 (x 1) ((.con (4)))), (.bin .rem .u8 (x 0) ((.con (4)))), false), (false, (.bin .rem .u8 (x 2) ((.con (4)))), (.bin .rem .u8 (x 0) ((.con (4)))), false), (false, (.bin .rem .u8 (x 3) ((.con (4)))), (.bin .rem .u8 (x 0) ((.con (4)))), true), (false, (.bin .rem .u8 (x 4) ((.con (4)))), (.bin .rem .u8 (x 0) ((.con (4)))), true), (false, (.bin .rem .u8 (x 5) ((.con (4)))), (.bin .rem .u8 (x 0) ((.con (4)))), false), (false, (.bin .rem .u8 (x 6) ((.con (4)))), (.bin .rem .u8 (x 0) ((.con (4)))), true)]
theorem r114 : runF (abi fx114) funs (orP prims (memoP [m0])) 100000 60 1002 m114.2.1 = some m114.2.2 := by kernel_rfl
theorem w114 (ρ : Nat → Int) (hF : FactsOK (nf ρ) fx114) : Holds ρ m114 := holds_of (tbl := [m0]) hF ⟨w0 ρ (FactsOK.sub hF (by kernel_rfl)), trivial⟩ r114
def m115 : Entry := (1002, [V.sl [[V.sym .u8 (x 1) (0) (255) (1) (0)],[V.sym .u8 (x 2) (0) (255) (1) (0)],[V.sym .u8 (x 3) (0) (255) (1) (0)],[V.sym .u8 (x 4) (0) (255) (1) (0)],[V.sym .u8 (x 5) (0) (255) (1) (0)],[V.sym .u8 (x 6) (0) (255) (1) (0)]],V.sym .u8 (x 0) (0) (255) (1) (0)], b1, [])
def fx115 : List Fact := [(false, (.bin .rem .u8 (x 1) ((.con (4)))), (.bin .rem .u8 (x 0) ((.con (4)))), false), (false, (.bin .rem .u8 (x 2) ((.con (4)))), (.bin .rem .u8 (x 0) ((.con (4)))), false), (false, (.bin .rem .u8 (x 3) ((.con (4)))), (.bin .rem .u8 (x 0) ((.con (4)))), true), (false, (.bin .rem .u8 (x 4) ((.con (4)))), (.bin .rem .u8 (x 0) ((.con (4)))), true), (false, (.bin .rem .u8 (x 5) ((.con (4)))), (.bin .rem .u8 (x 0) ((.con (4)))), false), (false, (.bin .rem .u8 (x 6) ((.con (4)))), (.bin .rem .u8 (x 0) ((.con (4)))), false)]
theorem r115 : runF (abi fx115) funs (orP prims (memoP [m0])) 100000 60 1002 m115.2.1 = some m115.2.2 := by kernel_rfl
theorem w115 (ρ : Nat → Int) (hF : FactsOK (nf ρ) fx115) : Holds ρ m115 := holds_of (tbl := [m0]) hF ⟨w0 ρ (FactsOK.sub hF (by kernel_rfl)), trivial⟩ r115
def m116 : Entry := (1002, [V.sl [[V.sym .u8 (x 1) (0) (255) (1) (0)],[V.sym .u8 (x 2) (0) (255) (1) (0)],[V.sym .u8 (x 3) (0) (255) (1) (0)],[V.sym .u8 (x 4) (0) (255) (1) (0)],[V.sym .u8 (x 5) (0) (255) (1) (0)],[V.sym .u8 (x 6) (0) (255) (1) (0)]],V.sym .u8 (x 0) (0) (255) (1) (0)], b1, [])
def fx116 : List Fact := [(false, (.bin .rem .u8 (x 1) ((.con (4)))), (.bin .rem .u8 (x 0) ((.con (4)))), false), (false, (.bin .rem .u8 (x 2) ((.con (4)))), (.bin .rem .u8 (x 0) ((.con (4)))), false), (false, (.bin .rem .u8 (x 3) ((.con (4)))), (.bin .rem .u8 (x 0) ((.con (4)))), true), (false, (.bin .rem .u8 (x 4) ((.con (4)))), (.bin .rem .u8 (x 0) ((.con (4)))), false), (false, (.bin .rem .u8 (x 5) ((.con (4)))), (.bin .rem .u8 (x 0) ((.con (4)))), true), (false, (.bin .rem .u8 (x 6) ((.con (4)))), (.bin .rem .u8 (x 0) ((.con (4)))), true)]
theorem r116 : runF (abi fx116) funs (orP prims (memoP [m0])) 100000 60 1002 m116.2.1 = some m116.2.2 := by kernel_rfl
theorem w116 (ρ : Nat → Int) (hF : FactsOK (nf ρ) fx116) : Holds ρ m116 := holds_of (tbl := [m0]) hF ⟨w0 ρ (FactsOK.sub hF (by kernel_rfl)), trivial⟩ r116
def m117 : Entry := (1002, [V.sl [[V.sym .u8 (x 1) (0) (255) (1) (0)],[V.sym .u8 (x 2) (0) (255) (1) (0)],[V.sym .u8 (x 3) (0) (255) (1) (0)],[V.sym .u8 (x 4) (0) (255) (1) (0)],[V.sym .u8 (x 5) (0) (255) (1) (0)],[V.sym .u8 (x 6) (0) (255) (1) (0)]],V.sym .u8 (x 0) (0) (255) (1) (0)], b1, [])
def fx117 : List Fact := [(false, (.bin .rem .u8 (x 1) ((.con (4)))), (.bin .rem .u8 (x 0) ((.con (4)))), false), (false, (.bin .rem .u8 (x 2) ((.con (4)))), (.bin .rem .u8 (x 0) ((.con (4)))), false), (false, (.bin .rem .u8 (x 3) ((.con (4)))), (.bin .rem .u8 (x 0) ((.con (4)))), true), (false, (.bin .rem .u8 (x 4) ((.con (4)))), (.bin .rem .u8 (x 0) ((.con (4)))), false), (false, (.bin .rem .u8 (x 5) ((.con (4)))), (.bin .rem .u8 (x 0) ((.con (4)))), true), (false, (.bin .rem .u8 (x 6) ((.con (4)))), (.bin .rem .u8 (x 0) ((.con (4)))), false)]
theorem r117 : runF (abi fx117) funs (orP prims (memoP [m0])) 100000 60 1002 m117.2.1 = some m117.2.2 := by kernel_rfl
theorem w117 (ρ : Nat → Int) (hF : FactsOK (nf ρ) fx117) : Holds ρ m117 := holds_of (tbl := [m0]) hF ⟨w0 ρ (FactsOK.sub hF (by kernel_rfl)), trivial⟩ r117
def m118 : Entry := (1002, [V.sl [[V.sym .u8 (x 1) (0) (255) (1) (0)],[V.sym .u8 (x 2) (0) (255) (1) (0)],[V.sym .u8 (x 3) (0) (255) (1) (0)],[V.sym .u8 (x 4) (0) (255) (1) (0)],[V.sym .u8 (x 5) (0) (255) (1) (0)],[V.sym .u8 (x 6) (0) (255) (1) (0)]],V.sym .u8 (x 0) (0) (255) (1) (0)], b1, [])
def fx118 : List Fact := [(false, (.bin .rem .u8 (x 1) ((.con (4)))), (.bin .rem .u8 (x 0) ((.con (4)))), false), (false, (.bin .rem .u8 (x 2) ((.con (4)))), (.bin .rem .u8 (x 0) ((.con (4)))), false), (false, (.bin .rem .u8 (x 3) ((.con (4)))), (.bin .rem .u8 (x 0) ((.con (4)))), true), (false, (.bin .rem .u8 (x 4) ((.con (4)))), (.bin .rem .u8 (x 0) ((.con (4)))), false), (false, (.bin .rem .u8 (x 5) ((.con (4)))), (.bin .rem .u8 (x 0) ((.con (4)))), false), (false, (.bin .rem .u8 (x 6) ((.con (4)))), (.bin .rem .u8 (x 0) ((.con (4)))), true)]
theorem r118 : runF (abi fx118) funs (orP prims (memoP [m0])) 100000 60 1002 m118.2.1 = some m118.2.2 := by kernel_rfl
theorem w118 (ρ : Nat → Int) (hF : FactsOK (nf ρ) fx118) : Holds ρ m118 := holds_of (tbl := [m0]) hF ⟨w0 ρ (FactsOK.sub hF (by kernel_rfl)), trivial⟩ r118
def m119 : Entry := (1002, [V.sl [[V.sym .u8 (x 1) (0) (255) (1) (0)],[V.sym .u8 (x 2) (0) (255) (1) (0)],[V.sym .u8 (x 3) (0) (255) (1) (0)],[V.sym .u8 (x 4) (0) (255) (1) (0)],[V.sym .u8 (x 5) (0) (255) (1) (0)],[V.sym .u8 (x 6) (0) (255) (1) (0)]],V.sym .u8 (x 0) (0) (255) (1) (0)], b1, [])
def fx119 : List Fact := [(false, (.bin .rem .u8 (x 1) ((.con (4)))), (.bin .rem .u8 (x 0) ((.con (4)))), false), (false, (.bin .rem .u8 (x 2) ((.con (4)))), (.bin .rem .u8 (x 0) ((.con (4)))), false), (false, (.bin .rem .u8 (x 3) ((.con (4)))), (.bin .rem .u8 (x 0) ((.con (4)))), true), (false, (.bin .rem .u8 (x 4) ((.con (4)))), (.bin .rem .u8 (x 0) ((.con (4)))), false), (false, (.bin .rem .u8 (x 5) ((.con (4)))), (.bin .rem .u8 (x 0) ((.con (4)))), false), (false, (.bin .rem .u8 (x 6) ((.con (4)))), (.bin .rem .u8 (x 0) ((.con (4)))), false)]
theorem r119 : runF (abi fx119) funs (orP prims (memoP [m0])) 100000 60 1002 m119.2.1 = some m119.2.2 := by kernel_rfl
theorem w119 (ρ : Nat → Int) (hF : FactsOK (nf ρ) fx119) : Holds ρ m119 := holds_of (tbl := [m0]) hF ⟨w0 ρ (FactsOK.sub hF (by kernel_rfl)), trivial⟩ r119
def m120 : Entry := (1002, [V.sl [[V.sym .u8 (x 1) (0) (255) (1) (0)],[V.sym .u8 (x 2) (0) (255) (1) (0)],[V.sym .u8 (x 3) (0) (255) (1) (0)],[V.sym .u8 (x 4) (0) (255) (1) (0)],[V.sym .u8 (x 5) (0) (255) (1) (0)],[V.sym .u8 (x 6) (0) (255) (1) (0)]],V.sym .u8 (x 0) (0) (255) (1) (0)], b1, [])
def fx120 : List Fact := [(false, (.bin .rem .u8 (x 1) ((.con (4)))), (.bin .rem .u8 (x 0) ((.con (4)))), false), (false, (.bin .rem .u8 (x 2) ((.con (4)))), (.bin .rem .u8 (x 0) ((.con (4)))), false), (false, (.bin .rem .u8 (x 3) ((.con (4)))), (.bin .rem .u8 (x 0) ((.con (4)))), false), (false, (.bin .rem .u8 (x 4) ((.con (4)))), (.bin .rem .u8 (x 0) ((.con (4)))), true), (false, (.bin .rem .u8 (x 5) ((.con (4)))), (.bin .rem .u8 (x 0) ((.con (4)))), true), (false, (.bin .rem .u8 (x 6) ((.con (4)))), (.bin .rem .u8 (x 0) ((.con (4)))), true)]
theorem r120 : runF (abi fx120) funs (orP prims (memoP [m0])) 100000 60 1002 m120.2.1 = some m120.2.2 := by kernel_rfl
theorem w120 (ρ : Nat → Int) (hF : FactsOK (nf ρ) fx120) : Holds ρ m120 := holds_of (tbl := [m0]) hF ⟨w0 ρ (FactsOK.sub hF (by kernel_rfl)), trivial⟩ r120
def m121 : Entry := (1002, [V.sl [[V.sym .u8 (x 1) (0) (255) (1) (0)],[V.sym .u8 (x 2) (0) (255) (1) (0)],[V.sym .u8 (x 3) (0) (255) (1) (0)],[V.sym .u8 (x 4) (0) (255) (1) (0)],[V.sym .u8 (x 5) (0) (255) (1) (0)],[V.sym .u8 (x 6) (0) (255) (1) (0)]],V.sym .u8 (x 0) (0) (255) (1) (0)], b1, [])
def fx121 : List Fact := [(false, (.bin .rem .u8 (x 1) ((.con (4)))), (.bin .rem .u8 (x 0) ((.con (4)))), false), (false, (.bin .rem .u8 (x 2) ((.con (4)))), (.bin .rem .u8 (x 0) ((.con (4)))), false), (false, (.bin .rem .u8 (x 3) ((.con (4)))), (.bin .rem .u8 (x 0) ((.con (4)))), false), (false, (.bin .rem .u8 (x 4) ((.con (4)))), (.bin .rem .u8 (x 0) ((.con (4)))), true), (false, (.bin .rem .u8 (x 5) ((.con (4)))), (.bin .rem .u8 (x 0) ((.con (4)))), true), (false, (.bin .rem .u8 (x 6) ((.con (4)))), (.bin .rem .u8 (x 0) ((.con (4)))), false)]
theorem r121 : runF (abi fx121) funs (orP prims (memoP [m0])) 100000 60 1002 m121.2.1 = some m121.2.2 := by kernel_rfl
theorem w121 (ρ : Nat → Int) (hF : FactsOK (nf ρ) fx121) : Holds ρ m121 := holds_of (tbl := [m0]) hF ⟨w0 ρ (FactsOK.sub hF (by kernel_rfl)), trivial⟩ r121
def m122 : Entry := (1002, [V.sl [[V.sym .u8 (x 1) (0) (255) (1) (0)],[V.sym .u8 (x 2) (0) (255) (1) (0)],[V.sym .u8 (x 3) (0) (255) (1) (0)],[V.sym .u8 (x 4) (0) (255) (1) (0)],[V.sym .u8 (x 5) (0) (255) (1) (0)],[V.sym .u8 (x 6) (0) (255) (1) (0)]],V.sym .u8 (x 0) (0) (255) (1) (0)], b1, [])
def fx122 : List Fact := [(false, (.bin .rem .u8 (x 1) ((.con (4)))), (.bin .rem .u8 (x 0) ((.con (4)))), false), (false, (.bin .rem .u8 (x 2) ((.con (4)))), (.bin .rem .u8 (x 0) ((.con (4)))), false), (false, (.bin .rem .u8 (x 3) ((.con (4)))), (.bin .rem .u8 (x 0) ((.con (4)))), false), (false, (.bin .rem .u8 (x 4) ((.con (4)))), (.bin .rem .u8 (x 0) ((.con (4)))), true), (false, (.bin .rem .u8 (x 5) ((.con (4)))), (.bin .rem .u8 (x 0) ((.con (4)))), false), (false, (.bin .rem .u8 (x 6) ((.con (4)))), (.bin .rem .u8 (x 0) ((.con (4)))), true)]
theorem r122 : runF (abi fx122) funs (orP prims (memoP [m0])) 100000 60 1002 m122.2.1 = some m122.2.2 := by kernel_rfl
theorem w122 (ρ : Nat → Int) (hF : FactsOK (nf ρ) fx122) : Holds ρ m122 := holds_of (tbl := [m0]) hF ⟨w0 ρ (FactsOK.sub hF (by kernel_rfl)), trivial⟩ r122
def m123 : Entry := (1002, [V.sl [[V.sym .u8 (x 1) (0) (255) (1) (0)],[V.sym .u8 (x 2) (0) (255) (1) (0)],[V.sym .u8 (x 3) (0) (255) (1) (0)],[V.sym .u8 (x 4) (0) (255) (1) (0)],[V.sym .u8 (x 5) (0) (255) (1) (0)],[V.sym .u8 (x 6) (0) (255) (1) (0)]],V.sym .u8 (x 0) (0) (255) (1) (0)], b1, [])
def fx123 : List Fact := [(false, (.bin .rem .u8 (x 1) ((.con (4)))), (.bin .rem .u8 (x 0) ((.con (4)))), false), (false, (.bin .rem .u8 (x 2) ((.con (4)))), (.bin .rem .u8 (x 0) ((.con (4)))), false), (false, (.bin .rem .u8 (x 3) ((.con (4)))), (.bin .rem .u8 (x 0) ((.con (4)))), false), (false, (.bin .rem .u8 (x 4) ((.con (4)))), (.bin .rem .u8 (x 0) ((.con (4)))), true), (false, (.bin .rem .u8 (x 5) ((.con (4)))), (.bin .rem .u8 (x 0) ((.con (4)))), false), (false, (.bin .rem .u8 (x 6) ((.con (4)))), (.bin .rem .u8 (x 0) ((.con (4)))), false)]
theorem r123 : runF (abi fx123) funs (orP prims (memoP [m0])) 100000 60 1002 m123.2.1 = some m123.2.2 := by kernel_rfl
theorem w123 (ρ : Nat → Int) (hF : FactsOK (nf ρ) fx123) : Holds ρ m123 := holds_of (tbl := [m0]) hF ⟨w0 ρ (FactsOK.sub hF (by kernel_rfl)), trivial⟩ r123
def m124 : Entry := (1002, [V.sl [[V.sym .u8 (x 1) (0) (255) (1) (0)],[V.sym .u8 (x 2) (0) (255) (1) (0)],[V.sym .u8 (x 3) (0) (255) (1) (0)],[V.sym .u8 (x 4) (0) (255) (1) (0)],[V.sym .u8 (x 5) (0) (255) (1) (0)],[V.sym .u8 (x 6) (0) (255) (1) (0)]],V.sym .u8 (x 0) (0) (255) (1) (0)], b1, [])
def fx124 : List Fact := [(false, (.bin .rem .u8 (x 1) ((.con (4)))), (.bin .rem .u8 (x 0) ((.con (4)))), false), (false, (.bin .rem .u8 (x 2) ((.con (4)))), (.bin .rem .u8 (x 0) ((.con (4)))), false), (false, (.bin .rem .u8 (x 3) ((.con (4)))), (.bin .rem .u8 (x 0) ((.con (4)))), false), (false, (.bin .rem .u8 (x 4) ((.con (4)))), (.bin .rem .u8 (x 0) ((.con (4)))), false), (false, (.bin .rem .u8 (x 5) ((.con (4)))), (.bin .rem .u8 (x 0) ((.con (4)))), true), (false, (.bin .rem .u8 (x 6) ((.con (4)))), (.bin .rem .u8 (x 0) ((.con (4)))), true)]
theorem r124 : runF (abi fx124) funs (orP prims (memoP [m0])) 100000 60 1002 m124.2.1 = some m124.2.2 := by kernel_rfl
theorem w124 (ρ : Nat → Int) (hF : FactsOK (nf ρ) fx124) : Holds ρ m124 := holds_of (tbl := [m0]) hF ⟨w0 ρ (FactsOK.sub hF (by kernel_rfl)), trivial⟩ r124
def m125 : Entry := (1002, [V.sl [[V.sym .u8 (x 1) (0) (255) (1) (0)],[V.sym .u8 (x 2) (0) (255) (1) (0)],[V.sym .u8 (x 3) (0) (255) (1) (0)],[V.sym .u8 (x 4) (0) (255) (1) (0)],[V.sym .u8 (x 5) (0) (255) (1) (0)],[V.sym .u8 (x 6) (0) (255) (1) (0)]],V.sym .u8 (x 0) (0) (255) (1) (0)], b1, [])
def fx125 : List Fact := [(false, (.bin .rem .u8 (x 1) ((.con (4)))), (.bin .rem .u8 (x 0) ((.con (4)))), false), (false, (.bin .rem .u8 (x 2) ((.con (4)))), (.bin .rem .u8 (x 0) ((.con (4)))), false), (false, (.bin .rem .u8 (x 3) ((.con (4)))), (.bin .rem .u8 (x 0) ((.con (4)))), false), (false, (.bin .rem .u8 (x 4) ((.con (4)))), (.bin .rem .u8 (x 0) ((.con (4)))), false), (false, (.bin .rem .u8 (x 5) ((.con (4)))), (.bin .rem .u8 (x 0) ((.con (4)))), true), (false, (.bin .rem .u8 (x 6) ((.con (4)))), (.bin .rem .u8 (x 0) ((.con (4)))), false)]
theorem r125 : runF (abi fx125) funs (orP prims (memoP [m0])) 100000 60 1002 m125.2.1 = some m125.2.2 := by kernel_rfl
theorem w125 (ρ : Nat → Int) (hF : FactsOK (nf ρ) fx125) : Holds ρ m125 := holds_of (tbl := [m0]) hF ⟨w0 ρ (FactsOK.sub hF (by kernel_rfl)), trivial⟩ r125
def m126 : Entry := (1002, [V.sl [[V.sym .u8 (x 1) (0) (255) (1) (0)],[V.sym .u8 (x 2) (0) (255) (1) (0)],[V.sym .u8 (x 3) (0) (255) (1) (0)],[V.sym .u8 (x 4) (0) (255) (1) (0)],[V.sym .u8 (x 5) (0) (255) (1) (0)],[V.sym .u8 (x 6) (0) (255) (1) (0)]],V.sym .u8 (x 0) (0) (255) (1) (0)], b1, [])
def fx126 : List Fact := [(false, (.bin .rem .u8 (x 1) ((.con (4)))), (.bin .rem .u8 (x 0) ((.con (4)))), false), (false, (.bin .rem .u8 (x 2) ((.con (4)))), (.bin .rem .u8 (x 0) ((.con (4)))), false), (false, (.bin .rem .u8 (x 3) ((.con (4)))), (.bin .rem .u8 (x 0) ((.con (4)))), false), (false, (.bin .rem .u8 (x 4) ((.con (4)))), (.bin .rem .u8 (x 0) ((.con (4)))), false), (false, (.bin .rem .u8 (x 5) ((.con (4)))), (.bin .rem .u8 (x 0) ((.con (4)))), false), (false, (.bin .rem .u8 (x 6) ((.con (4)))), (.bin .rem .u8 (x 0) ((.con (4)))), true)]
theorem r126 : runF (abi fx126) funs (orP prims (memoP [m0])) 100000 60 1002 m126.2.1 = some m126.2.2 := by kernel_rfl
theorem w126 (ρ : Nat → Int) (hF : FactsOK (nf ρ) fx126) : Holds ρ m126 := holds_of (tbl := [m0]) hF ⟨w0 ρ (FactsOK.sub hF (by kernel_rfl)), trivial⟩ r126
def m127 : Entry := (1002, [V.sl [[V.sym .u8 (x 1) (0) (255) (1) (0)],[V.sym .u8 (x 2) (0) (255) (1) (0)],[V.sym .u8 (x 3) (0) (255) (1) (0)],[V.sym .u8 (x 4) (0) (255) (1) (0)],[V.sym .u8 (x 5) (0) (255) (1) (0)],[V.sym .u8 (x 6) (0) (255) (1) (0)]],V.sym .u8 (x 0) (0) (255) (1) (0)], b1, [])
def fx127 : List Fact := [(false, (.bin .rem .u8 (x 1) ((.con (4)))), (.bin .rem .u8 (x 0) ((.con (4)))), false), (false, (.bin .rem .u8 (x 2) ((.con (4)))), (.bin .rem .u8 (x 0) ((.con (4)))), false), (false, (.bin .rem .u8 (x 3) ((.con (4)))), (.bin .rem .u8 (x 0) ((.con (4)))), false), (false, (.bin .rem .u8 (x 4) ((.con (4)))), (.bin .rem .u8 (x 0) ((.con (4)))), false), (false, (.bin .rem .u8 (x 5) ((.con (4)))), (.bin .rem .u8 (x 0) ((.con (4)))), false), (false, (.bin .rem .u8 (x 6) ((.con (4)))), (.bin .rem .u8 (x 0) ((.con (4)))), false)]
theorem r127 : runF (abi fx127) funs (orP prims (memoP [m0])) 100000 60 1002 m127.2.1 = some m127.2.2 := by kernel_rfl
theorem w127 (ρ : Nat → Int) (hF : FactsOK (nf ρ) fx127) : Holds ρ m127 := holds_of (tbl := [m0]) hF ⟨w0 ρ (FactsOK.sub hF (by kernel_rfl)), trivial⟩ r127

theorem many_run (call : CallF) (hcall : call 1004 [] = some (.bool true, [])) (rows : List (List V)) (s : Int) (h : 6 < rows.length) : runBody (abi []) call 40 F1002 false [.sl rows, .int .u8 s] = some (.bool true, []) := by
  have hgt : ((6 : Int) < (rows.length : Int)) := by omega
  simp [runBody, F1002, p, enter, enterL, runC, runOps, guarded, comesF, calledF, pass1, pass2, lensEq, hcall, comp, binV, binInt, ev, setEnv_true, upd_at, apply, K.makes, freeze, thaw, restore, hgt, readAll, readRes, outsOf, letGo, told, lend]

/-- More than six: it returns at once. -/
theorem many (ρ : Nat → Int) (rows : List (List V)) (s : Int) (h : 6 < rows.length) : CallsOK Try.prog (nf ρ) 1002 [.sl rows, .int .u8 s] (.bool true) [] := by
  have hb : runF (abi []) funs (orP prims (memoP [])) 100000 60 1004 [] = some (.bool true, []) := by kernel_rfl
  obtain ⟨gv, hr⟩ := runBody_ok (Γ := CallsOK Try.prog (nf ρ)) (fun f args v outs hh => runF_ok (ent ρ FactsOK.nil) (by kernel_rfl) (orP_ok (prims_ok ρ) (memoP_ok [] trivial)) (funs_ok ρ []) 60 f args v outs hh) (many_run _ hb rows s h)
  exact call_ok (ent ρ FactsOK.nil) (by kernel_rfl) (show (nf ρ) 1002 = some 5 from rfl) Try.func5 (k1002 ρ []) hr

theorem told_true (ns : List Int) (hns : ∀ n ∈ ns, (Lit.int .u8 n).wf = true) (s : Int) (ws : (Lit.int .u8 s).wf = true) (w : World) (v : Value) (hv : ∀ nf : Nm, DC nf w (fun b => False ∨ b ∈ ([] : List Nat)) (.sl (rowsOfInts .u8 ns)) v) :
    Calls Try.prog 5 #[v, .int .u8 s] w fun e w' => e = .returned (.bool true) ∧ CallKeeps w w' [] := by
  have k0 : IntKind.min .u8 = 0 := rfl
  have k1 : IntKind.max .u8 = 255 := rfl
  have hs : 0 ≤ s ∧ s ≤ 255 := by have := ws; simp only [Lit.wf, Bool.and_eq_true, decide_eq_true_eq] at this; rw [k0, k1] at this; exact this
  have hb : ∀ n ∈ ns, 0 ≤ n ∧ n ≤ 255 := fun n hn => by have := hns n hn; simp only [Lit.wf, Bool.and_eq_true, decide_eq_true_eq] at this; rw [k0, k1] at this; exact this
  let ρ : Nat → Int := fun k => if k = 0 then s else ns.getD (k - 1) 0
  have go : ∀ (x y : V), DC (nf ρ) w (fun b => False ∨ b ∈ ([] : List Nat)) x v → DC (nf ρ) w (fun b => False ∨ b ∈ ([] : List Nat)) y (.int .u8 s) → ptrs [x, y] [v, .int .u8 s] = [] → rebox [x, y] [] = [] → CallsOK Try.prog (nf ρ) 1002 [x, y] (.bool true) [] →
      Calls Try.prog 5 #[v, .int .u8 s] w fun e w' => e = .returned (.bool true) ∧ CallKeeps w w' [] := by
    intro x y hx hy hp hr hc
    refine (hc 5 rfl w (fun _ => False) [v, .int .u8 s] [] (fun _ h => h.elim) (fun _ h => by cases h) List.nodup_nil (DCL.toXV [x, y] _ ⟨_, _, rfl, hx, _, _, rfl, hy, rfl⟩)).mono fun e w' ⟨c, S', he, _, _, hk, hx⟩ => ?_
    obtain ⟨c', cs, O1, O2, e1, e2, ⟨_, hv⟩, _⟩ := hx
    cases e1
    exact ⟨by rw [he, hv], hk⟩
  have sy : DC (nf ρ) w (fun b => False ∨ b ∈ ([] : List Nat)) (.sym .u8 (.var 0) 0 255 1 0) (.int .u8 s) := ⟨rfl, hs.1, hs.2, Int.emod_one _⟩
  have rows : DC (nf ρ) w (fun b => False ∨ b ∈ ([] : List Nat)) (.sl (symRowsFrom .u8 0 255 1 ns.length)) v := sl_sym (fun i _ => by show (if 1 + i = 0 then s else ns.getD (1 + i - 1) 0) = _; rw [if_neg (by omega)]; congr 1; omega) hb (hv (nf ρ))
  have f0 : FactsOK (nf ρ) [] := FactsOK.nil
  by_cases hlen : 6 < ns.length
  · exact go _ _ (hv (nf ρ)) (show DC (nf ρ) w _ (.int .u8 s) (.int .u8 s) from rfl) rfl rfl (many ρ _ s (by simpa [rowsOfInts] using hlen))
  have cases : ns.length = 0 ∨ ns.length = 1 ∨ ns.length = 2 ∨ ns.length = 3 ∨ ns.length = 4 ∨ ns.length = 5 ∨ ns.length = 6 := by omega
  rcases cases with hl | hl | hl | hl | hl | hl | hl
  · rw [hl] at rows
    exact go _ _ rows sy rfl rfl (w1 ρ (FactsOK.sub f0 (by kernel_rfl)))
  · rw [hl] at rows
    by_cases h0 : evalE (nf ρ) ((.bin .rem .u8 (x 1) ((.con (4))))) = evalE (nf ρ) ((.bin .rem .u8 (x 0) ((.con (4)))))
    · have f1 := FactsOK.eqT h0 f0
      exact go _ _ rows sy rfl rfl (w2 ρ (FactsOK.sub f1 (by kernel_rfl)))
    · have f1 := FactsOK.eqF h0 f0
      exact go _ _ rows sy rfl rfl (w3 ρ (FactsOK.sub f1 (by kernel_rfl)))
  · rw [hl] at rows
    by_cases h0 : evalE (nf ρ) ((.bin .rem .u8 (x 1) ((.con (4))))) = evalE (nf ρ) ((.bin .rem .u8 (x 0) ((.con (4)))))
    · have f1 := FactsOK.eqT h0 f0
      by_cases h1 : evalE (nf ρ) ((.bin .rem .u8 (x 2) ((.con (4))))) = evalE (nf ρ) ((.bin .rem .u8 (x 0) ((.con (4)))))
      · have f2 := FactsOK.eqT h1 f1
        exact go _ _ rows sy rfl rfl (w4 ρ (FactsOK.sub f2 (by kernel_rfl)))
      · have f2 := FactsOK.eqF h1 f1
        exact go _ _ rows sy rfl rfl (w5 ρ (FactsOK.sub f2 (by kernel_rfl)))
    · have f1 := FactsOK.eqF h0 f0
      by_cases h1 : evalE (nf ρ) ((.bin .rem .u8 (x 2) ((.con (4))))) = evalE (nf ρ) ((.bin .rem .u8 (x 0) ((.con (4)))))
      · have f2 := FactsOK.eqT h1 f1
        exact go _ _ rows sy rfl rfl (w6 ρ (FactsOK.sub f2 (by kernel_rfl)))
      · have f2 := FactsOK.eqF h1 f1
        exact go _ _ rows sy rfl rfl (w7 ρ (FactsOK.sub f2 (by kernel_rfl)))
  · rw [hl] at rows
    by_cases h0 : evalE (nf ρ) ((.bin .rem .u8 (x 1) ((.con (4))))) = evalE (nf ρ) ((.bin .rem .u8 (x 0) ((.con (4)))))
    · have f1 := FactsOK.eqT h0 f0
      by_cases h1 : evalE (nf ρ) ((.bin .rem .u8 (x 2) ((.con (4))))) = evalE (nf ρ) ((.bin .rem .u8 (x 0) ((.con (4)))))
      · have f2 := FactsOK.eqT h1 f1
        by_cases h2 : evalE (nf ρ) ((.bin .rem .u8 (x 3) ((.con (4))))) = evalE (nf ρ) ((.bin .rem .u8 (x 0) ((.con (4)))))
        · have f3 := FactsOK.eqT h2 f2
          exact go _ _ rows sy rfl rfl (w8 ρ (FactsOK.sub f3 (by kernel_rfl)))
        · have f3 := FactsOK.eqF h2 f2
          exact go _ _ rows sy rfl rfl (w9 ρ (FactsOK.sub f3 (by kernel_rfl)))
      · have f2 := FactsOK.eqF h1 f1
        by_cases h2 : evalE (nf ρ) ((.bin .rem .u8 (x 3) ((.con (4))))) = evalE (nf ρ) ((.bin .rem .u8 (x 0) ((.con (4)))))
        · have f3 := FactsOK.eqT h2 f2
          exact go _ _ rows sy rfl rfl (w10 ρ (FactsOK.sub f3 (by kernel_rfl)))
        · have f3 := FactsOK.eqF h2 f2
          exact go _ _ rows sy rfl rfl (w11 ρ (FactsOK.sub f3 (by kernel_rfl)))
    · have f1 := FactsOK.eqF h0 f0
      by_cases h1 : evalE (nf ρ) ((.bin .rem .u8 (x 2) ((.con (4))))) = evalE (nf ρ) ((.bin .rem .u8 (x 0) ((.con (4)))))
      · have f2 := FactsOK.eqT h1 f1
        by_cases h2 : evalE (nf ρ) ((.bin .rem .u8 (x 3) ((.con (4))))) = evalE (nf ρ) ((.bin .rem .u8 (x 0) ((.con (4)))))
        · have f3 := FactsOK.eqT h2 f2
          exact go _ _ rows sy rfl rfl (w12 ρ (FactsOK.sub f3 (by kernel_rfl)))
        · have f3 := FactsOK.eqF h2 f2
          exact go _ _ rows sy rfl rfl (w13 ρ (FactsOK.sub f3 (by kernel_rfl)))
      · have f2 := FactsOK.eqF h1 f1
        by_cases h2 : evalE (nf ρ) ((.bin .rem .u8 (x 3) ((.con (4))))) = evalE (nf ρ) ((.bin .rem .u8 (x 0) ((.con (4)))))
        · have f3 := FactsOK.eqT h2 f2
          exact go _ _ rows sy rfl rfl (w14 ρ (FactsOK.sub f3 (by kernel_rfl)))
        · have f3 := FactsOK.eqF h2 f2
          exact go _ _ rows sy rfl rfl (w15 ρ (FactsOK.sub f3 (by kernel_rfl)))
  · rw [hl] at rows
    by_cases h0 : evalE (nf ρ) ((.bin .rem .u8 (x 1) ((.con (4))))) = evalE (nf ρ) ((.bin .rem .u8 (x 0) ((.con (4)))))
    · have f1 := FactsOK.eqT h0 f0
      by_cases h1 : evalE (nf ρ) ((.bin .rem .u8 (x 2) ((.con (4))))) = evalE (nf ρ) ((.bin .rem .u8 (x 0) ((.con (4)))))
      · have f2 := FactsOK.eqT h1 f1
        by_cases h2 : evalE (nf ρ) ((.bin .rem .u8 (x 3) ((.con (4))))) = evalE (nf ρ) ((.bin .rem .u8 (x 0) ((.con (4)))))
        · have f3 := FactsOK.eqT h2 f2
          by_cases h3 : evalE (nf ρ) ((.bin .rem .u8 (x 4) ((.con (4))))) = evalE (nf ρ) ((.bin .rem .u8 (x 0) ((.con (4)))))
          · have f4 := FactsOK.eqT h3 f3
            exact go _ _ rows sy rfl rfl (w16 ρ (FactsOK.sub f4 (by kernel_rfl)))
          · have f4 := FactsOK.eqF h3 f3
            exact go _ _ rows sy rfl rfl (w17 ρ (FactsOK.sub f4 (by kernel_rfl)))
        · have f3 := FactsOK.eqF h2 f2
          by_cases h3 : evalE (nf ρ) ((.bin .rem .u8 (x 4) ((.con (4))))) = evalE (nf ρ) ((.bin .rem .u8 (x 0) ((.con (4)))))
          · have f4 := FactsOK.eqT h3 f3
            exact go _ _ rows sy rfl rfl (w18 ρ (FactsOK.sub f4 (by kernel_rfl)))
          · have f4 := FactsOK.eqF h3 f3
            exact go _ _ rows sy rfl rfl (w19 ρ (FactsOK.sub f4 (by kernel_rfl)))
      · have f2 := FactsOK.eqF h1 f1
        by_cases h2 : evalE (nf ρ) ((.bin .rem .u8 (x 3) ((.con (4))))) = evalE (nf ρ) ((.bin .rem .u8 (x 0) ((.con (4)))))
        · have f3 := FactsOK.eqT h2 f2
          by_cases h3 : evalE (nf ρ) ((.bin .rem .u8 (x 4) ((.con (4))))) = evalE (nf ρ) ((.bin .rem .u8 (x 0) ((.con (4)))))
          · have f4 := FactsOK.eqT h3 f3
            exact go _ _ rows sy rfl rfl (w20 ρ (FactsOK.sub f4 (by kernel_rfl)))
          · have f4 := FactsOK.eqF h3 f3
            exact go _ _ rows sy rfl rfl (w21 ρ (FactsOK.sub f4 (by kernel_rfl)))
        · have f3 := FactsOK.eqF h2 f2
          by_cases h3 : evalE (nf ρ) ((.bin .rem .u8 (x 4) ((.con (4))))) = evalE (nf ρ) ((.bin .rem .u8 (x 0) ((.con (4)))))
          · have f4 := FactsOK.eqT h3 f3
            exact go _ _ rows sy rfl rfl (w22 ρ (FactsOK.sub f4 (by kernel_rfl)))
          · have f4 := FactsOK.eqF h3 f3
            exact go _ _ rows sy rfl rfl (w23 ρ (FactsOK.sub f4 (by kernel_rfl)))
    · have f1 := FactsOK.eqF h0 f0
      by_cases h1 : evalE (nf ρ) ((.bin .rem .u8 (x 2) ((.con (4))))) = evalE (nf ρ) ((.bin .rem .u8 (x 0) ((.con (4)))))
      · have f2 := FactsOK.eqT h1 f1
        by_cases h2 : evalE (nf ρ) ((.bin .rem .u8 (x 3) ((.con (4))))) = evalE (nf ρ) ((.bin .rem .u8 (x 0) ((.con (4)))))
        · have f3 := FactsOK.eqT h2 f2
          by_cases h3 : evalE (nf ρ) ((.bin .rem .u8 (x 4) ((.con (4))))) = evalE (nf ρ) ((.bin .rem .u8 (x 0) ((.con (4)))))
          · have f4 := FactsOK.eqT h3 f3
            exact go _ _ rows sy rfl rfl (w24 ρ (FactsOK.sub f4 (by kernel_rfl)))
          · have f4 := FactsOK.eqF h3 f3
            exact go _ _ rows sy rfl rfl (w25 ρ (FactsOK.sub f4 (by kernel_rfl)))
        · have f3 := FactsOK.eqF h2 f2
          by_cases h3 : evalE (nf ρ) ((.bin .rem .u8 (x 4) ((.con (4))))) = evalE (nf ρ) ((.bin .rem .u8 (x 0) ((.con (4)))))
          · have f4 := FactsOK.eqT h3 f3
            exact go _ _ rows sy rfl rfl (w26 ρ (FactsOK.sub f4 (by kernel_rfl)))
          · have f4 := FactsOK.eqF h3 f3
            exact go _ _ rows sy rfl rfl (w27 ρ (FactsOK.sub f4 (by kernel_rfl)))
      · have f2 := FactsOK.eqF h1 f1
        by_cases h2 : evalE (nf ρ) ((.bin .rem .u8 (x 3) ((.con (4))))) = evalE (nf ρ) ((.bin .rem .u8 (x 0) ((.con (4)))))
        · have f3 := FactsOK.eqT h2 f2
          by_cases h3 : evalE (nf ρ) ((.bin .rem .u8 (x 4) ((.con (4))))) = evalE (nf ρ) ((.bin .rem .u8 (x 0) ((.con (4)))))
          · have f4 := FactsOK.eqT h3 f3
            exact go _ _ rows sy rfl rfl (w28 ρ (FactsOK.sub f4 (by kernel_rfl)))
          · have f4 := FactsOK.eqF h3 f3
            exact go _ _ rows sy rfl rfl (w29 ρ (FactsOK.sub f4 (by kernel_rfl)))
        · have f3 := FactsOK.eqF h2 f2
          by_cases h3 : evalE (nf ρ) ((.bin .rem .u8 (x 4) ((.con (4))))) = evalE (nf ρ) ((.bin .rem .u8 (x 0) ((.con (4)))))
          · have f4 := FactsOK.eqT h3 f3
            exact go _ _ rows sy rfl rfl (w30 ρ (FactsOK.sub f4 (by kernel_rfl)))
          · have f4 := FactsOK.eqF h3 f3
            exact go _ _ rows sy rfl rfl (w31 ρ (FactsOK.sub f4 (by kernel_rfl)))
  · rw [hl] at rows
    by_cases h0 : evalE (nf ρ) ((.bin .rem .u8 (x 1) ((.con (4))))) = evalE (nf ρ) ((.bin .rem .u8 (x 0) ((.con (4)))))
    · have f1 := FactsOK.eqT h0 f0
      by_cases h1 : evalE (nf ρ) ((.bin .rem .u8 (x 2) ((.con (4))))) = evalE (nf ρ) ((.bin .rem .u8 (x 0) ((.con (4)))))
      · have f2 := FactsOK.eqT h1 f1
        by_cases h2 : evalE (nf ρ) ((.bin .rem .u8 (x 3) ((.con (4))))) = evalE (nf ρ) ((.bin .rem .u8 (x 0) ((.con (4)))))
        · have f3 := FactsOK.eqT h2 f2
          by_cases h3 : evalE (nf ρ) ((.bin .rem .u8 (x 4) ((.con (4))))) = evalE (nf ρ) ((.bin .rem .u8 (x 0) ((.con (4)))))
          · have f4 := FactsOK.eqT h3 f3
            by_cases h4 : evalE (nf ρ) ((.bin .rem .u8 (x 5) ((.con (4))))) = evalE (nf ρ) ((.bin .rem .u8 (x 0) ((.con (4)))))
            · have f5 := FactsOK.eqT h4 f4
              exact go _ _ rows sy rfl rfl (w32 ρ (FactsOK.sub f5 (by kernel_rfl)))
            · have f5 := FactsOK.eqF h4 f4
              exact go _ _ rows sy rfl rfl (w33 ρ (FactsOK.sub f5 (by kernel_rfl)))
          · have f4 := FactsOK.eqF h3 f3
            by_cases h4 : evalE (nf ρ) ((.bin .rem .u8 (x 5) ((.con (4))))) = evalE (nf ρ) ((.bin .rem .u8 (x 0) ((.con (4)))))
            · have f5 := FactsOK.eqT h4 f4
              exact go _ _ rows sy rfl rfl (w34 ρ (FactsOK.sub f5 (by kernel_rfl)))
            · have f5 := FactsOK.eqF h4 f4
              exact go _ _ rows sy rfl rfl (w35 ρ (FactsOK.sub f5 (by kernel_rfl)))
        · have f3 := FactsOK.eqF h2 f2
          by_cases h3 : evalE (nf ρ) ((.bin .rem .u8 (x 4) ((.con (4))))) = evalE (nf ρ) ((.bin .rem .u8 (x 0) ((.con (4)))))
          · have f4 := FactsOK.eqT h3 f3
            by_cases h4 : evalE (nf ρ) ((.bin .rem .u8 (x 5) ((.con (4))))) = evalE (nf ρ) ((.bin .rem .u8 (x 0) ((.con (4)))))
            · have f5 := FactsOK.eqT h4 f4
              exact go _ _ rows sy rfl rfl (w36 ρ (FactsOK.sub f5 (by kernel_rfl)))
            · have f5 := FactsOK.eqF h4 f4
              exact go _ _ rows sy rfl rfl (w37 ρ (FactsOK.sub f5 (by kernel_rfl)))
          · have f4 := FactsOK.eqF h3 f3
            by_cases h4 : evalE (nf ρ) ((.bin .rem .u8 (x 5) ((.con (4))))) = evalE (nf ρ) ((.bin .rem .u8 (x 0) ((.con (4)))))
            · have f5 := FactsOK.eqT h4 f4
              exact go _ _ rows sy rfl rfl (w38 ρ (FactsOK.sub f5 (by kernel_rfl)))
            · have f5 := FactsOK.eqF h4 f4
              exact go _ _ rows sy rfl rfl (w39 ρ (FactsOK.sub f5 (by kernel_rfl)))
      · have f2 := FactsOK.eqF h1 f1
        by_cases h2 : evalE (nf ρ) ((.bin .rem .u8 (x 3) ((.con (4))))) = evalE (nf ρ) ((.bin .rem .u8 (x 0) ((.con (4)))))
        · have f3 := FactsOK.eqT h2 f2
          by_cases h3 : evalE (nf ρ) ((.bin .rem .u8 (x 4) ((.con (4))))) = evalE (nf ρ) ((.bin .rem .u8 (x 0) ((.con (4)))))
          · have f4 := FactsOK.eqT h3 f3
            by_cases h4 : evalE (nf ρ) ((.bin .rem .u8 (x 5) ((.con (4))))) = evalE (nf ρ) ((.bin .rem .u8 (x 0) ((.con (4)))))
            · have f5 := FactsOK.eqT h4 f4
              exact go _ _ rows sy rfl rfl (w40 ρ (FactsOK.sub f5 (by kernel_rfl)))
            · have f5 := FactsOK.eqF h4 f4
              exact go _ _ rows sy rfl rfl (w41 ρ (FactsOK.sub f5 (by kernel_rfl)))
          · have f4 := FactsOK.eqF h3 f3
            by_cases h4 : evalE (nf ρ) ((.bin .rem .u8 (x 5) ((.con (4))))) = evalE (nf ρ) ((.bin .rem .u8 (x 0) ((.con (4)))))
            · have f5 := FactsOK.eqT h4 f4
              exact go _ _ rows sy rfl rfl (w42 ρ (FactsOK.sub f5 (by kernel_rfl)))
            · have f5 := FactsOK.eqF h4 f4
              exact go _ _ rows sy rfl rfl (w43 ρ (FactsOK.sub f5 (by kernel_rfl)))
        · have f3 := FactsOK.eqF h2 f2
          by_cases h3 : evalE (nf ρ) ((.bin .rem .u8 (x 4) ((.con (4))))) = evalE (nf ρ) ((.bin .rem .u8 (x 0) ((.con (4)))))
          · have f4 := FactsOK.eqT h3 f3
            by_cases h4 : evalE (nf ρ) ((.bin .rem .u8 (x 5) ((.con (4))))) = evalE (nf ρ) ((.bin .rem .u8 (x 0) ((.con (4)))))
            · have f5 := FactsOK.eqT h4 f4
              exact go _ _ rows sy rfl rfl (w44 ρ (FactsOK.sub f5 (by kernel_rfl)))
            · have f5 := FactsOK.eqF h4 f4
              exact go _ _ rows sy rfl rfl (w45 ρ (FactsOK.sub f5 (by kernel_rfl)))
          · have f4 := FactsOK.eqF h3 f3
            by_cases h4 : evalE (nf ρ) ((.bin .rem .u8 (x 5) ((.con (4))))) = evalE (nf ρ) ((.bin .rem .u8 (x 0) ((.con (4)))))
            · have f5 := FactsOK.eqT h4 f4
              exact go _ _ rows sy rfl rfl (w46 ρ (FactsOK.sub f5 (by kernel_rfl)))
            · have f5 := FactsOK.eqF h4 f4
              exact go _ _ rows sy rfl rfl (w47 ρ (FactsOK.sub f5 (by kernel_rfl)))
    · have f1 := FactsOK.eqF h0 f0
      by_cases h1 : evalE (nf ρ) ((.bin .rem .u8 (x 2) ((.con (4))))) = evalE (nf ρ) ((.bin .rem .u8 (x 0) ((.con (4)))))
      · have f2 := FactsOK.eqT h1 f1
        by_cases h2 : evalE (nf ρ) ((.bin .rem .u8 (x 3) ((.con (4))))) = evalE (nf ρ) ((.bin .rem .u8 (x 0) ((.con (4)))))
        · have f3 := FactsOK.eqT h2 f2
          by_cases h3 : evalE (nf ρ) ((.bin .rem .u8 (x 4) ((.con (4))))) = evalE (nf ρ) ((.bin .rem .u8 (x 0) ((.con (4)))))
          · have f4 := FactsOK.eqT h3 f3
            by_cases h4 : evalE (nf ρ) ((.bin .rem .u8 (x 5) ((.con (4))))) = evalE (nf ρ) ((.bin .rem .u8 (x 0) ((.con (4)))))
            · have f5 := FactsOK.eqT h4 f4
              exact go _ _ rows sy rfl rfl (w48 ρ (FactsOK.sub f5 (by kernel_rfl)))
            · have f5 := FactsOK.eqF h4 f4
              exact go _ _ rows sy rfl rfl (w49 ρ (FactsOK.sub f5 (by kernel_rfl)))
          · have f4 := FactsOK.eqF h3 f3
            by_cases h4 : evalE (nf ρ) ((.bin .rem .u8 (x 5) ((.con (4))))) = evalE (nf ρ) ((.bin .rem .u8 (x 0) ((.con (4)))))
            · have f5 := FactsOK.eqT h4 f4
              exact go _ _ rows sy rfl rfl (w50 ρ (FactsOK.sub f5 (by kernel_rfl)))
            · have f5 := FactsOK.eqF h4 f4
              exact go _ _ rows sy rfl rfl (w51 ρ (FactsOK.sub f5 (by kernel_rfl)))
        · have f3 := FactsOK.eqF h2 f2
          by_cases h3 : evalE (nf ρ) ((.bin .rem .u8 (x 4) ((.con (4))))) = evalE (nf ρ) ((.bin .rem .u8 (x 0) ((.con (4)))))
          · have f4 := FactsOK.eqT h3 f3
            by_cases h4 : evalE (nf ρ) ((.bin .rem .u8 (x 5) ((.con (4))))) = evalE (nf ρ) ((.bin .rem .u8 (x 0) ((.con (4)))))
            · have f5 := FactsOK.eqT h4 f4
              exact go _ _ rows sy rfl rfl (w52 ρ (FactsOK.sub f5 (by kernel_rfl)))
            · have f5 := FactsOK.eqF h4 f4
              exact go _ _ rows sy rfl rfl (w53 ρ (FactsOK.sub f5 (by kernel_rfl)))
          · have f4 := FactsOK.eqF h3 f3
            by_cases h4 : evalE (nf ρ) ((.bin .rem .u8 (x 5) ((.con (4))))) = evalE (nf ρ) ((.bin .rem .u8 (x 0) ((.con (4)))))
            · have f5 := FactsOK.eqT h4 f4
              exact go _ _ rows sy rfl rfl (w54 ρ (FactsOK.sub f5 (by kernel_rfl)))
            · have f5 := FactsOK.eqF h4 f4
              exact go _ _ rows sy rfl rfl (w55 ρ (FactsOK.sub f5 (by kernel_rfl)))
      · have f2 := FactsOK.eqF h1 f1
        by_cases h2 : evalE (nf ρ) ((.bin .rem .u8 (x 3) ((.con (4))))) = evalE (nf ρ) ((.bin .rem .u8 (x 0) ((.con (4)))))
        · have f3 := FactsOK.eqT h2 f2
          by_cases h3 : evalE (nf ρ) ((.bin .rem .u8 (x 4) ((.con (4))))) = evalE (nf ρ) ((.bin .rem .u8 (x 0) ((.con (4)))))
          · have f4 := FactsOK.eqT h3 f3
            by_cases h4 : evalE (nf ρ) ((.bin .rem .u8 (x 5) ((.con (4))))) = evalE (nf ρ) ((.bin .rem .u8 (x 0) ((.con (4)))))
            · have f5 := FactsOK.eqT h4 f4
              exact go _ _ rows sy rfl rfl (w56 ρ (FactsOK.sub f5 (by kernel_rfl)))
            · have f5 := FactsOK.eqF h4 f4
              exact go _ _ rows sy rfl rfl (w57 ρ (FactsOK.sub f5 (by kernel_rfl)))
          · have f4 := FactsOK.eqF h3 f3
            by_cases h4 : evalE (nf ρ) ((.bin .rem .u8 (x 5) ((.con (4))))) = evalE (nf ρ) ((.bin .rem .u8 (x 0) ((.con (4)))))
            · have f5 := FactsOK.eqT h4 f4
              exact go _ _ rows sy rfl rfl (w58 ρ (FactsOK.sub f5 (by kernel_rfl)))
            · have f5 := FactsOK.eqF h4 f4
              exact go _ _ rows sy rfl rfl (w59 ρ (FactsOK.sub f5 (by kernel_rfl)))
        · have f3 := FactsOK.eqF h2 f2
          by_cases h3 : evalE (nf ρ) ((.bin .rem .u8 (x 4) ((.con (4))))) = evalE (nf ρ) ((.bin .rem .u8 (x 0) ((.con (4)))))
          · have f4 := FactsOK.eqT h3 f3
            by_cases h4 : evalE (nf ρ) ((.bin .rem .u8 (x 5) ((.con (4))))) = evalE (nf ρ) ((.bin .rem .u8 (x 0) ((.con (4)))))
            · have f5 := FactsOK.eqT h4 f4
              exact go _ _ rows sy rfl rfl (w60 ρ (FactsOK.sub f5 (by kernel_rfl)))
            · have f5 := FactsOK.eqF h4 f4
              exact go _ _ rows sy rfl rfl (w61 ρ (FactsOK.sub f5 (by kernel_rfl)))
          · have f4 := FactsOK.eqF h3 f3
            by_cases h4 : evalE (nf ρ) ((.bin .rem .u8 (x 5) ((.con (4))))) = evalE (nf ρ) ((.bin .rem .u8 (x 0) ((.con (4)))))
            · have f5 := FactsOK.eqT h4 f4
              exact go _ _ rows sy rfl rfl (w62 ρ (FactsOK.sub f5 (by kernel_rfl)))
            · have f5 := FactsOK.eqF h4 f4
              exact go _ _ rows sy rfl rfl (w63 ρ (FactsOK.sub f5 (by kernel_rfl)))
  · rw [hl] at rows
    by_cases h0 : evalE (nf ρ) ((.bin .rem .u8 (x 1) ((.con (4))))) = evalE (nf ρ) ((.bin .rem .u8 (x 0) ((.con (4)))))
    · have f1 := FactsOK.eqT h0 f0
      by_cases h1 : evalE (nf ρ) ((.bin .rem .u8 (x 2) ((.con (4))))) = evalE (nf ρ) ((.bin .rem .u8 (x 0) ((.con (4)))))
      · have f2 := FactsOK.eqT h1 f1
        by_cases h2 : evalE (nf ρ) ((.bin .rem .u8 (x 3) ((.con (4))))) = evalE (nf ρ) ((.bin .rem .u8 (x 0) ((.con (4)))))
        · have f3 := FactsOK.eqT h2 f2
          by_cases h3 : evalE (nf ρ) ((.bin .rem .u8 (x 4) ((.con (4))))) = evalE (nf ρ) ((.bin .rem .u8 (x 0) ((.con (4)))))
          · have f4 := FactsOK.eqT h3 f3
            by_cases h4 : evalE (nf ρ) ((.bin .rem .u8 (x 5) ((.con (4))))) = evalE (nf ρ) ((.bin .rem .u8 (x 0) ((.con (4)))))
            · have f5 := FactsOK.eqT h4 f4
              by_cases h5 : evalE (nf ρ) ((.bin .rem .u8 (x 6) ((.con (4))))) = evalE (nf ρ) ((.bin .rem .u8 (x 0) ((.con (4)))))
              · have f6 := FactsOK.eqT h5 f5
                exact go _ _ rows sy rfl rfl (w64 ρ (FactsOK.sub f6 (by kernel_rfl)))
              · have f6 := FactsOK.eqF h5 f5
                exact go _ _ rows sy rfl rfl (w65 ρ (FactsOK.sub f6 (by kernel_rfl)))
            · have f5 := FactsOK.eqF h4 f4
              by_cases h5 : evalE (nf ρ) ((.bin .rem .u8 (x 6) ((.con (4))))) = evalE (nf ρ) ((.bin .rem .u8 (x 0) ((.con (4)))))
              · have f6 := FactsOK.eqT h5 f5
                exact go _ _ rows sy rfl rfl (w66 ρ (FactsOK.sub f6 (by kernel_rfl)))
              · have f6 := FactsOK.eqF h5 f5
                exact go _ _ rows sy rfl rfl (w67 ρ (FactsOK.sub f6 (by kernel_rfl)))
          · have f4 := FactsOK.eqF h3 f3
            by_cases h4 : evalE (nf ρ) ((.bin .rem .u8 (x 5) ((.con (4))))) = evalE (nf ρ) ((.bin .rem .u8 (x 0) ((.con (4)))))
            · have f5 := FactsOK.eqT h4 f4
              by_cases h5 : evalE (nf ρ) ((.bin .rem .u8 (x 6) ((.con (4))))) = evalE (nf ρ) ((.bin .rem .u8 (x 0) ((.con (4)))))
              · have f6 := FactsOK.eqT h5 f5
                exact go _ _ rows sy rfl rfl (w68 ρ (FactsOK.sub f6 (by kernel_rfl)))
              · have f6 := FactsOK.eqF h5 f5
                exact go _ _ rows sy rfl rfl (w69 ρ (FactsOK.sub f6 (by kernel_rfl)))
            · have f5 := FactsOK.eqF h4 f4
              by_cases h5 : evalE (nf ρ) ((.bin .rem .u8 (x 6) ((.con (4))))) = evalE (nf ρ) ((.bin .rem .u8 (x 0) ((.con (4)))))
              · have f6 := FactsOK.eqT h5 f5
                exact go _ _ rows sy rfl rfl (w70 ρ (FactsOK.sub f6 (by kernel_rfl)))
              · have f6 := FactsOK.eqF h5 f5
                exact go _ _ rows sy rfl rfl (w71 ρ (FactsOK.sub f6 (by kernel_rfl)))
        · have f3 := FactsOK.eqF h2 f2
          by_cases h3 : evalE (nf ρ) ((.bin .rem .u8 (x 4) ((.con (4))))) = evalE (nf ρ) ((.bin .rem .u8 (x 0) ((.con (4)))))
          · have f4 := FactsOK.eqT h3 f3
            by_cases h4 : evalE (nf ρ) ((.bin .rem .u8 (x 5) ((.con (4))))) = evalE (nf ρ) ((.bin .rem .u8 (x 0) ((.con (4)))))
            · have f5 := FactsOK.eqT h4 f4
              by_cases h5 : evalE (nf ρ) ((.bin .rem .u8 (x 6) ((.con (4))))) = evalE (nf ρ) ((.bin .rem .u8 (x 0) ((.con (4)))))
              · have f6 := FactsOK.eqT h5 f5
                exact go _ _ rows sy rfl rfl (w72 ρ (FactsOK.sub f6 (by kernel_rfl)))
              · have f6 := FactsOK.eqF h5 f5
                exact go _ _ rows sy rfl rfl (w73 ρ (FactsOK.sub f6 (by kernel_rfl)))
            · have f5 := FactsOK.eqF h4 f4
              by_cases h5 : evalE (nf ρ) ((.bin .rem .u8 (x 6) ((.con (4))))) = evalE (nf ρ) ((.bin .rem .u8 (x 0) ((.con (4)))))
              · have f6 := FactsOK.eqT h5 f5
                exact go _ _ rows sy rfl rfl (w74 ρ (FactsOK.sub f6 (by kernel_rfl)))
              · have f6 := FactsOK.eqF h5 f5
                exact go _ _ rows sy rfl rfl (w75 ρ (FactsOK.sub f6 (by kernel_rfl)))
          · have f4 := FactsOK.eqF h3 f3
            by_cases h4 : evalE (nf ρ) ((.bin .rem .u8 (x 5) ((.con (4))))) = evalE (nf ρ) ((.bin .rem .u8 (x 0) ((.con (4)))))
            · have f5 := FactsOK.eqT h4 f4
              by_cases h5 : evalE (nf ρ) ((.bin .rem .u8 (x 6) ((.con (4))))) = evalE (nf ρ) ((.bin .rem .u8 (x 0) ((.con (4)))))
              · have f6 := FactsOK.eqT h5 f5
                exact go _ _ rows sy rfl rfl (w76 ρ (FactsOK.sub f6 (by kernel_rfl)))
              · have f6 := FactsOK.eqF h5 f5
                exact go _ _ rows sy rfl rfl (w77 ρ (FactsOK.sub f6 (by kernel_rfl)))
            · have f5 := FactsOK.eqF h4 f4
              by_cases h5 : evalE (nf ρ) ((.bin .rem .u8 (x 6) ((.con (4))))) = evalE (nf ρ) ((.bin .rem .u8 (x 0) ((.con (4)))))
              · have f6 := FactsOK.eqT h5 f5
                exact go _ _ rows sy rfl rfl (w78 ρ (FactsOK.sub f6 (by kernel_rfl)))
              · have f6 := FactsOK.eqF h5 f5
                exact go _ _ rows sy rfl rfl (w79 ρ (FactsOK.sub f6 (by kernel_rfl)))
      · have f2 := FactsOK.eqF h1 f1
        by_cases h2 : evalE (nf ρ) ((.bin .rem .u8 (x 3) ((.con (4))))) = evalE (nf ρ) ((.bin .rem .u8 (x 0) ((.con (4)))))
        · have f3 := FactsOK.eqT h2 f2
          by_cases h3 : evalE (nf ρ) ((.bin .rem .u8 (x 4) ((.con (4))))) = evalE (nf ρ) ((.bin .rem .u8 (x 0) ((.con (4)))))
          · have f4 := FactsOK.eqT h3 f3
            by_cases h4 : evalE (nf ρ) ((.bin .rem .u8 (x 5) ((.con (4))))) = evalE (nf ρ) ((.bin .rem .u8 (x 0) ((.con (4)))))
            · have f5 := FactsOK.eqT h4 f4
              by_cases h5 : evalE (nf ρ) ((.bin .rem .u8 (x 6) ((.con (4))))) = evalE (nf ρ) ((.bin .rem .u8 (x 0) ((.con (4)))))
              · have f6 := FactsOK.eqT h5 f5
                exact go _ _ rows sy rfl rfl (w80 ρ (FactsOK.sub f6 (by kernel_rfl)))
              · have f6 := FactsOK.eqF h5 f5
                exact go _ _ rows sy rfl rfl (w81 ρ (FactsOK.sub f6 (by kernel_rfl)))
            · have f5 := FactsOK.eqF h4 f4
              by_cases h5 : evalE (nf ρ) ((.bin .rem .u8 (x 6) ((.con (4))))) = evalE (nf ρ) ((.bin .rem .u8 (x 0) ((.con (4)))))
              · have f6 := FactsOK.eqT h5 f5
                exact go _ _ rows sy rfl rfl (w82 ρ (FactsOK.sub f6 (by kernel_rfl)))
              · have f6 := FactsOK.eqF h5 f5
                exact go _ _ rows sy rfl rfl (w83 ρ (FactsOK.sub f6 (by kernel_rfl)))
          · have f4 := FactsOK.eqF h3 f3
            by_cases h4 : evalE (nf ρ) ((.bin .rem .u8 (x 5) ((.con (4))))) = evalE (nf ρ) ((.bin .rem .u8 (x 0) ((.con (4)))))
            · have f5 := FactsOK.eqT h4 f4
              by_cases h5 : evalE (nf ρ) ((.bin .rem .u8 (x 6) ((.con (4))))) = evalE (nf ρ) ((.bin .rem .u8 (x 0) ((.con (4)))))
              · have f6 := FactsOK.eqT h5 f5
                exact go _ _ rows sy rfl rfl (w84 ρ (FactsOK.sub f6 (by kernel_rfl)))
              · have f6 := FactsOK.eqF h5 f5
                exact go _ _ rows sy rfl rfl (w85 ρ (FactsOK.sub f6 (by kernel_rfl)))
            · have f5 := FactsOK.eqF h4 f4
              by_cases h5 : evalE (nf ρ) ((.bin .rem .u8 (x 6) ((.con (4))))) = evalE (nf ρ) ((.bin .rem .u8 (x 0) ((.con (4)))))
              · have f6 := FactsOK.eqT h5 f5
                exact go _ _ rows sy rfl rfl (w86 ρ (FactsOK.sub f6 (by kernel_rfl)))
              · have f6 := FactsOK.eqF h5 f5
                exact go _ _ rows sy rfl rfl (w87 ρ (FactsOK.sub f6 (by kernel_rfl)))
        · have f3 := FactsOK.eqF h2 f2
          by_cases h3 : evalE (nf ρ) ((.bin .rem .u8 (x 4) ((.con (4))))) = evalE (nf ρ) ((.bin .rem .u8 (x 0) ((.con (4)))))
          · have f4 := FactsOK.eqT h3 f3
            by_cases h4 : evalE (nf ρ) ((.bin .rem .u8 (x 5) ((.con (4))))) = evalE (nf ρ) ((.bin .rem .u8 (x 0) ((.con (4)))))
            · have f5 := FactsOK.eqT h4 f4
              by_cases h5 : evalE (nf ρ) ((.bin .rem .u8 (x 6) ((.con (4))))) = evalE (nf ρ) ((.bin .rem .u8 (x 0) ((.con (4)))))
              · have f6 := FactsOK.eqT h5 f5
                exact go _ _ rows sy rfl rfl (w88 ρ (FactsOK.sub f6 (by kernel_rfl)))
              · have f6 := FactsOK.eqF h5 f5
                exact go _ _ rows sy rfl rfl (w89 ρ (FactsOK.sub f6 (by kernel_rfl)))
            · have f5 := FactsOK.eqF h4 f4
              by_cases h5 : evalE (nf ρ) ((.bin .rem .u8 (x 6) ((.con (4))))) = evalE (nf ρ) ((.bin .rem .u8 (x 0) ((.con (4)))))
              · have f6 := FactsOK.eqT h5 f5
                exact go _ _ rows sy rfl rfl (w90 ρ (FactsOK.sub f6 (by kernel_rfl)))
              · have f6 := FactsOK.eqF h5 f5
                exact go _ _ rows sy rfl rfl (w91 ρ (FactsOK.sub f6 (by kernel_rfl)))
          · have f4 := FactsOK.eqF h3 f3
            by_cases h4 : evalE (nf ρ) ((.bin .rem .u8 (x 5) ((.con (4))))) = evalE (nf ρ) ((.bin .rem .u8 (x 0) ((.con (4)))))
            · have f5 := FactsOK.eqT h4 f4
              by_cases h5 : evalE (nf ρ) ((.bin .rem .u8 (x 6) ((.con (4))))) = evalE (nf ρ) ((.bin .rem .u8 (x 0) ((.con (4)))))
              · have f6 := FactsOK.eqT h5 f5
                exact go _ _ rows sy rfl rfl (w92 ρ (FactsOK.sub f6 (by kernel_rfl)))
              · have f6 := FactsOK.eqF h5 f5
                exact go _ _ rows sy rfl rfl (w93 ρ (FactsOK.sub f6 (by kernel_rfl)))
            · have f5 := FactsOK.eqF h4 f4
              by_cases h5 : evalE (nf ρ) ((.bin .rem .u8 (x 6) ((.con (4))))) = evalE (nf ρ) ((.bin .rem .u8 (x 0) ((.con (4)))))
              · have f6 := FactsOK.eqT h5 f5
                exact go _ _ rows sy rfl rfl (w94 ρ (FactsOK.sub f6 (by kernel_rfl)))
              · have f6 := FactsOK.eqF h5 f5
                exact go _ _ rows sy rfl rfl (w95 ρ (FactsOK.sub f6 (by kernel_rfl)))
    · have f1 := FactsOK.eqF h0 f0
      by_cases h1 : evalE (nf ρ) ((.bin .rem .u8 (x 2) ((.con (4))))) = evalE (nf ρ) ((.bin .rem .u8 (x 0) ((.con (4)))))
      · have f2 := FactsOK.eqT h1 f1
        by_cases h2 : evalE (nf ρ) ((.bin .rem .u8 (x 3) ((.con (4))))) = evalE (nf ρ) ((.bin .rem .u8 (x 0) ((.con (4)))))
        · have f3 := FactsOK.eqT h2 f2
          by_cases h3 : evalE (nf ρ) ((.bin .rem .u8 (x 4) ((.con (4))))) = evalE (nf ρ) ((.bin .rem .u8 (x 0) ((.con (4)))))
          · have f4 := FactsOK.eqT h3 f3
            by_cases h4 : evalE (nf ρ) ((.bin .rem .u8 (x 5) ((.con (4))))) = evalE (nf ρ) ((.bin .rem .u8 (x 0) ((.con (4)))))
            · have f5 := FactsOK.eqT h4 f4
              by_cases h5 : evalE (nf ρ) ((.bin .rem .u8 (x 6) ((.con (4))))) = evalE (nf ρ) ((.bin .rem .u8 (x 0) ((.con (4)))))
              · have f6 := FactsOK.eqT h5 f5
                exact go _ _ rows sy rfl rfl (w96 ρ (FactsOK.sub f6 (by kernel_rfl)))
              · have f6 := FactsOK.eqF h5 f5
                exact go _ _ rows sy rfl rfl (w97 ρ (FactsOK.sub f6 (by kernel_rfl)))
            · have f5 := FactsOK.eqF h4 f4
              by_cases h5 : evalE (nf ρ) ((.bin .rem .u8 (x 6) ((.con (4))))) = evalE (nf ρ) ((.bin .rem .u8 (x 0) ((.con (4)))))
              · have f6 := FactsOK.eqT h5 f5
                exact go _ _ rows sy rfl rfl (w98 ρ (FactsOK.sub f6 (by kernel_rfl)))
              · have f6 := FactsOK.eqF h5 f5
                exact go _ _ rows sy rfl rfl (w99 ρ (FactsOK.sub f6 (by kernel_rfl)))
          · have f4 := FactsOK.eqF h3 f3
            by_cases h4 : evalE (nf ρ) ((.bin .rem .u8 (x 5) ((.con (4))))) = evalE (nf ρ) ((.bin .rem .u8 (x 0) ((.con (4)))))
            · have f5 := FactsOK.eqT h4 f4
              by_cases h5 : evalE (nf ρ) ((.bin .rem .u8 (x 6) ((.con (4))))) = evalE (nf ρ) ((.bin .rem .u8 (x 0) ((.con (4)))))
              · have f6 := FactsOK.eqT h5 f5
                exact go _ _ rows sy rfl rfl (w100 ρ (FactsOK.sub f6 (by kernel_rfl)))
              · have f6 := FactsOK.eqF h5 f5
                exact go _ _ rows sy rfl rfl (w101 ρ (FactsOK.sub f6 (by kernel_rfl)))
            · have f5 := FactsOK.eqF h4 f4
              by_cases h5 : evalE (nf ρ) ((.bin .rem .u8 (x 6) ((.con (4))))) = evalE (nf ρ) ((.bin .rem .u8 (x 0) ((.con (4)))))
              · have f6 := FactsOK.eqT h5 f5
                exact go _ _ rows sy rfl rfl (w102 ρ (FactsOK.sub f6 (by kernel_rfl)))
              · have f6 := FactsOK.eqF h5 f5
                exact go _ _ rows sy rfl rfl (w103 ρ (FactsOK.sub f6 (by kernel_rfl)))
        · have f3 := FactsOK.eqF h2 f2
          by_cases h3 : evalE (nf ρ) ((.bin .rem .u8 (x 4) ((.con (4))))) = evalE (nf ρ) ((.bin .rem .u8 (x 0) ((.con (4)))))
          · have f4 := FactsOK.eqT h3 f3
            by_cases h4 : evalE (nf ρ) ((.bin .rem .u8 (x 5) ((.con (4))))) = evalE (nf ρ) ((.bin .rem .u8 (x 0) ((.con (4)))))
            · have f5 := FactsOK.eqT h4 f4
              by_cases h5 : evalE (nf ρ) ((.bin .rem .u8 (x 6) ((.con (4))))) = evalE (nf ρ) ((.bin .rem .u8 (x 0) ((.con (4)))))
              · have f6 := FactsOK.eqT h5 f5
                exact go _ _ rows sy rfl rfl (w104 ρ (FactsOK.sub f6 (by kernel_rfl)))
              · have f6 := FactsOK.eqF h5 f5
                exact go _ _ rows sy rfl rfl (w105 ρ (FactsOK.sub f6 (by kernel_rfl)))
            · have f5 := FactsOK.eqF h4 f4
              by_cases h5 : evalE (nf ρ) ((.bin .rem .u8 (x 6) ((.con (4))))) = evalE (nf ρ) ((.bin .rem .u8 (x 0) ((.con (4)))))
              · have f6 := FactsOK.eqT h5 f5
                exact go _ _ rows sy rfl rfl (w106 ρ (FactsOK.sub f6 (by kernel_rfl)))
              · have f6 := FactsOK.eqF h5 f5
                exact go _ _ rows sy rfl rfl (w107 ρ (FactsOK.sub f6 (by kernel_rfl)))
          · have f4 := FactsOK.eqF h3 f3
            by_cases h4 : evalE (nf ρ) ((.bin .rem .u8 (x 5) ((.con (4))))) = evalE (nf ρ) ((.bin .rem .u8 (x 0) ((.con (4)))))
            · have f5 := FactsOK.eqT h4 f4
              by_cases h5 : evalE (nf ρ) ((.bin .rem .u8 (x 6) ((.con (4))))) = evalE (nf ρ) ((.bin .rem .u8 (x 0) ((.con (4)))))
              · have f6 := FactsOK.eqT h5 f5
                exact go _ _ rows sy rfl rfl (w108 ρ (FactsOK.sub f6 (by kernel_rfl)))
              · have f6 := FactsOK.eqF h5 f5
                exact go _ _ rows sy rfl rfl (w109 ρ (FactsOK.sub f6 (by kernel_rfl)))
            · have f5 := FactsOK.eqF h4 f4
              by_cases h5 : evalE (nf ρ) ((.bin .rem .u8 (x 6) ((.con (4))))) = evalE (nf ρ) ((.bin .rem .u8 (x 0) ((.con (4)))))
              · have f6 := FactsOK.eqT h5 f5
                exact go _ _ rows sy rfl rfl (w110 ρ (FactsOK.sub f6 (by kernel_rfl)))
              · have f6 := FactsOK.eqF h5 f5
                exact go _ _ rows sy rfl rfl (w111 ρ (FactsOK.sub f6 (by kernel_rfl)))
      · have f2 := FactsOK.eqF h1 f1
        by_cases h2 : evalE (nf ρ) ((.bin .rem .u8 (x 3) ((.con (4))))) = evalE (nf ρ) ((.bin .rem .u8 (x 0) ((.con (4)))))
        · have f3 := FactsOK.eqT h2 f2
          by_cases h3 : evalE (nf ρ) ((.bin .rem .u8 (x 4) ((.con (4))))) = evalE (nf ρ) ((.bin .rem .u8 (x 0) ((.con (4)))))
          · have f4 := FactsOK.eqT h3 f3
            by_cases h4 : evalE (nf ρ) ((.bin .rem .u8 (x 5) ((.con (4))))) = evalE (nf ρ) ((.bin .rem .u8 (x 0) ((.con (4)))))
            · have f5 := FactsOK.eqT h4 f4
              by_cases h5 : evalE (nf ρ) ((.bin .rem .u8 (x 6) ((.con (4))))) = evalE (nf ρ) ((.bin .rem .u8 (x 0) ((.con (4)))))
              · have f6 := FactsOK.eqT h5 f5
                exact go _ _ rows sy rfl rfl (w112 ρ (FactsOK.sub f6 (by kernel_rfl)))
              · have f6 := FactsOK.eqF h5 f5
                exact go _ _ rows sy rfl rfl (w113 ρ (FactsOK.sub f6 (by kernel_rfl)))
            · have f5 := FactsOK.eqF h4 f4
              by_cases h5 : evalE (nf ρ) ((.bin .rem .u8 (x 6) ((.con (4))))) = evalE (nf ρ) ((.bin .rem .u8 (x 0) ((.con (4)))))
              · have f6 := FactsOK.eqT h5 f5
                exact go _ _ rows sy rfl rfl (w114 ρ (FactsOK.sub f6 (by kernel_rfl)))
              · have f6 := FactsOK.eqF h5 f5
                exact go _ _ rows sy rfl rfl (w115 ρ (FactsOK.sub f6 (by kernel_rfl)))
          · have f4 := FactsOK.eqF h3 f3
            by_cases h4 : evalE (nf ρ) ((.bin .rem .u8 (x 5) ((.con (4))))) = evalE (nf ρ) ((.bin .rem .u8 (x 0) ((.con (4)))))
            · have f5 := FactsOK.eqT h4 f4
              by_cases h5 : evalE (nf ρ) ((.bin .rem .u8 (x 6) ((.con (4))))) = evalE (nf ρ) ((.bin .rem .u8 (x 0) ((.con (4)))))
              · have f6 := FactsOK.eqT h5 f5
                exact go _ _ rows sy rfl rfl (w116 ρ (FactsOK.sub f6 (by kernel_rfl)))
              · have f6 := FactsOK.eqF h5 f5
                exact go _ _ rows sy rfl rfl (w117 ρ (FactsOK.sub f6 (by kernel_rfl)))
            · have f5 := FactsOK.eqF h4 f4
              by_cases h5 : evalE (nf ρ) ((.bin .rem .u8 (x 6) ((.con (4))))) = evalE (nf ρ) ((.bin .rem .u8 (x 0) ((.con (4)))))
              · have f6 := FactsOK.eqT h5 f5
                exact go _ _ rows sy rfl rfl (w118 ρ (FactsOK.sub f6 (by kernel_rfl)))
              · have f6 := FactsOK.eqF h5 f5
                exact go _ _ rows sy rfl rfl (w119 ρ (FactsOK.sub f6 (by kernel_rfl)))
        · have f3 := FactsOK.eqF h2 f2
          by_cases h3 : evalE (nf ρ) ((.bin .rem .u8 (x 4) ((.con (4))))) = evalE (nf ρ) ((.bin .rem .u8 (x 0) ((.con (4)))))
          · have f4 := FactsOK.eqT h3 f3
            by_cases h4 : evalE (nf ρ) ((.bin .rem .u8 (x 5) ((.con (4))))) = evalE (nf ρ) ((.bin .rem .u8 (x 0) ((.con (4)))))
            · have f5 := FactsOK.eqT h4 f4
              by_cases h5 : evalE (nf ρ) ((.bin .rem .u8 (x 6) ((.con (4))))) = evalE (nf ρ) ((.bin .rem .u8 (x 0) ((.con (4)))))
              · have f6 := FactsOK.eqT h5 f5
                exact go _ _ rows sy rfl rfl (w120 ρ (FactsOK.sub f6 (by kernel_rfl)))
              · have f6 := FactsOK.eqF h5 f5
                exact go _ _ rows sy rfl rfl (w121 ρ (FactsOK.sub f6 (by kernel_rfl)))
            · have f5 := FactsOK.eqF h4 f4
              by_cases h5 : evalE (nf ρ) ((.bin .rem .u8 (x 6) ((.con (4))))) = evalE (nf ρ) ((.bin .rem .u8 (x 0) ((.con (4)))))
              · have f6 := FactsOK.eqT h5 f5
                exact go _ _ rows sy rfl rfl (w122 ρ (FactsOK.sub f6 (by kernel_rfl)))
              · have f6 := FactsOK.eqF h5 f5
                exact go _ _ rows sy rfl rfl (w123 ρ (FactsOK.sub f6 (by kernel_rfl)))
          · have f4 := FactsOK.eqF h3 f3
            by_cases h4 : evalE (nf ρ) ((.bin .rem .u8 (x 5) ((.con (4))))) = evalE (nf ρ) ((.bin .rem .u8 (x 0) ((.con (4)))))
            · have f5 := FactsOK.eqT h4 f4
              by_cases h5 : evalE (nf ρ) ((.bin .rem .u8 (x 6) ((.con (4))))) = evalE (nf ρ) ((.bin .rem .u8 (x 0) ((.con (4)))))
              · have f6 := FactsOK.eqT h5 f5
                exact go _ _ rows sy rfl rfl (w124 ρ (FactsOK.sub f6 (by kernel_rfl)))
              · have f6 := FactsOK.eqF h5 f5
                exact go _ _ rows sy rfl rfl (w125 ρ (FactsOK.sub f6 (by kernel_rfl)))
            · have f5 := FactsOK.eqF h4 f4
              by_cases h5 : evalE (nf ρ) ((.bin .rem .u8 (x 6) ((.con (4))))) = evalE (nf ρ) ((.bin .rem .u8 (x 0) ((.con (4)))))
              · have f6 := FactsOK.eqT h5 f5
                exact go _ _ rows sy rfl rfl (w126 ρ (FactsOK.sub f6 (by kernel_rfl)))
              · have f6 := FactsOK.eqF h5 f5
                exact go _ _ rows sy rfl rfl (w127 ρ (FactsOK.sub f6 (by kernel_rfl)))
end Fo.Try

namespace Go.Proofs.Ytildnnhlpdcglaa.faultLoses
open Go Go.ChangeShapes Go.WideShapes Go.ChangeAt Go.RowKit
set_option linter.unusedVariables false

theorem own : ownKnob Try.prog.godebug = none := by kernel_rfl
theorem kids : Kids Try.prog (· < Try.prog.types.size) := kids_rows (by kernel_rfl) (by kernel_rfl)
theorem full : ∀ t e, t < Try.prog.types.size → Try.prog.underlying t = some (.slice e) → 0 < Try.prog.cellsOf e := slices_full_of Try.prog (by kernel_rfl)

set_option maxRecDepth 100000 in
theorem lifted (os : Os) (started : os.Started) (H : Type) (enc : TypeId × Value → H) :
    ReturnsInHanded {} Try.checked os 5 .any (Rows.faultLosesSpec.pre6 enc Try.prog Try.f5 Rows.faultLosesRow.domain false) (Rows.faultLosesSpec.post enc Try.prog Try.f5 false true false false) := by
  refine returnsInHanded_of_change (C := Try.checked) own started (by kernel_rfl) Try.func5
    (ChangeSpec.witness6 (enc := enc) (C := Try.checked) false ⟨#[], #[.slice none 0 0, .int .u8 0], []⟩ 8 (by kernel_rfl) (by kernel_rfl) (by kernel_rfl) (by kernel_rfl)) ?_
  intro W base args ds gs before hval0 hW hcnd _
  have hval : ∀ (j : Nat) t v, Try.f5.params[j]? = some t → args[j]? = some v → Value.okWide Try.prog W .any base t v := hval0
  have hW' := hW
  obtain ⟨p, q, hA0, hV, rfl, hfz, hnd⟩ := hW
  have hA : DataW.TrodAll enc Try.prog W 0 (fun _ => true) true Try.f5.params.toList args.toList ds p := hA0
  rw [Try.params5] at hA hval
  obtain ⟨v0, v1, d0, d1, p0, p1, rfl, rfl, rfl, h0, h1⟩ := trodAll_two hA
  obtain ⟨rfl, rfl⟩ := trodVars_none hV
  obtain ⟨s, rfl, rfl, rfl, ws⟩ := open_int Try.underlying5 (hval 1 5 v1 rfl rfl) h1
  obtain ⟨ns, hns, _, hdc⟩ := Fo.open_sl Try.underlying22 Try.underlying5 (by kernel_rfl) (okWide_slice Try.underlying22 (hval 0 22 v0 rfl rfl)) h0
  refine (Fo.Try.told_true ns hns s ws W v0 hdc).mono fun e W' ⟨he, hg⟩ => ?_
  subst he
  exact ⟨_, rfl, Fo.law_post kids full (by rw [Try.params5]; decide) rfl hW' rfl rfl rfl (by kernel_rfl) Try.underlying4 hg⟩

theorem over : Rows.faultLosesRow.holds Try.pinned (OpenSpec.ofChange Rows.faultLosesSpec) :=
  OpenClaim.holds_of_wide 5 Try.f5 rfl rfl rfl rfl rfl rfl rfl ⟨rfl, rfl, rfl, rfl, rfl⟩ rfl rfl rfl rfl rfl (by kernel_rfl) Try.func5 (by kernel_rfl)
    (of_decide_eq_true (by kernel_rfl)) (by unfold Func.isWrapper; first | (rw [if_pos (by decide +kernel)]; kernel_rfl) | (rw [if_neg (by decide +kernel)]; exact ⟨rfl, rfl⟩))
    (fun os started H enc _ => lifted os started H enc)

theorem proved : Rows.FaultLosesSaid := over
end Go.Proofs.Ytildnnhlpdcglaa.faultLoses
