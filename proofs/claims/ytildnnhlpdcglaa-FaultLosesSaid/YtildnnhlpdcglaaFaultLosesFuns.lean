/-
  The functions that FaultLoses reaches; each is looked at by the kernel.
-/
import Derived.Test.YtildnnhlpdcglaaFaultLosesDefs
import Derived.Test.YtildnnhlpdcglaaProg
set_option maxRecDepth 100000
namespace Fo.Try
open Go Go.Proofs
def modes : Nat → List Mode
  | 60 => [.lend, .lend]
  | 63 => [.lend, .lend]
  | 114 => [.lend, .lend]
  | 136 => [.lend]
  | 137 => [.lend]
  | 144 => [.lend, .lend]
  | 155 => [.lend]
  | 170 => [.lend, .lend, .lend]
  | 216 => [.lend, .lend]
  | 218 => [.lend]
  | 219 => [.give, .lend]
  | 220 => [.lend]
  | 228 => [.lend, .lend, .lend]
  | 239 => [.lend]
  | 270 => [.lend]
  | 271 => [.lend, .lend, .lend]
  | 274 => [.lend, .lend]
  | 281 => [.lend]
  | 284 => [.lend]
  | 286 => [.lend, .lend]
  | 288 => [.lend, .lend]
  | 1002 => [.lend, .lend]
  | 1004 => []
  | _ => []
def abi (fx : List Fact) : Abi := ⟨modes, fx⟩
def tblL : List (Nat × FuncId) := [(60, 14), (63, 26), (114, 25), (136, 34), (137, 35), (144, 15), (155, 30), (170, 8), (216, 19), (218, 20), (219, 27), (220, 28), (228, 9), (239, 17), (270, 32), (271, 33), (274, 40), (281, 29), (284, 31), (286, 41), (288, 18), (1002, 5), (1004, 7)]
def tbl (f : Nat) : Option FuncId := tblL.lookup f
noncomputable def nf (ρ : Nat → Int) : Nm := ⟨tbl, ρ, fun f ns => if f = 265 then sealN (abi []) ns else 0⟩
theorem k60 (ρ : Nat → Int) (fx : List Fact) : chkFun Try.prog (nf ρ) (abi fx) Try.f14 F60 = true := by kernel_rfl
theorem k63 (ρ : Nat → Int) (fx : List Fact) : chkFun Try.prog (nf ρ) (abi fx) Try.f26 F63 = true := by kernel_rfl
theorem k114 (ρ : Nat → Int) (fx : List Fact) : chkFun Try.prog (nf ρ) (abi fx) Try.f25 F114 = true := by kernel_rfl
theorem k136 (ρ : Nat → Int) (fx : List Fact) : chkFun Try.prog (nf ρ) (abi fx) Try.f34 F136 = true := by kernel_rfl
theorem k137 (ρ : Nat → Int) (fx : List Fact) : chkFun Try.prog (nf ρ) (abi fx) Try.f35 F137 = true := by kernel_rfl
theorem k144 (ρ : Nat → Int) (fx : List Fact) : chkFun Try.prog (nf ρ) (abi fx) Try.f15 F144 = true := by kernel_rfl
theorem k155 (ρ : Nat → Int) (fx : List Fact) : chkFun Try.prog (nf ρ) (abi fx) Try.f30 F155 = true := by kernel_rfl
theorem k170 (ρ : Nat → Int) (fx : List Fact) : chkFun Try.prog (nf ρ) (abi fx) Try.f8 F170 = true := by kernel_rfl
theorem k216 (ρ : Nat → Int) (fx : List Fact) : chkFun Try.prog (nf ρ) (abi fx) Try.f19 F216 = true := by kernel_rfl
theorem k218 (ρ : Nat → Int) (fx : List Fact) : chkFun Try.prog (nf ρ) (abi fx) Try.f20 F218 = true := by kernel_rfl
theorem k219 (ρ : Nat → Int) (fx : List Fact) : chkFun Try.prog (nf ρ) (abi fx) Try.f27 F219 = true := by kernel_rfl
theorem k220 (ρ : Nat → Int) (fx : List Fact) : chkFun Try.prog (nf ρ) (abi fx) Try.f28 F220 = true := by kernel_rfl
theorem k228 (ρ : Nat → Int) (fx : List Fact) : chkFun Try.prog (nf ρ) (abi fx) Try.f9 F228 = true := by kernel_rfl
theorem k239 (ρ : Nat → Int) (fx : List Fact) : chkFun Try.prog (nf ρ) (abi fx) Try.f17 F239 = true := by kernel_rfl
theorem k270 (ρ : Nat → Int) (fx : List Fact) : chkFun Try.prog (nf ρ) (abi fx) Try.f32 F270 = true := by kernel_rfl
theorem k271 (ρ : Nat → Int) (fx : List Fact) : chkFun Try.prog (nf ρ) (abi fx) Try.f33 F271 = true := by kernel_rfl
theorem k274 (ρ : Nat → Int) (fx : List Fact) : chkFun Try.prog (nf ρ) (abi fx) Try.f40 F274 = true := by kernel_rfl
theorem k281 (ρ : Nat → Int) (fx : List Fact) : chkFun Try.prog (nf ρ) (abi fx) Try.f29 F281 = true := by kernel_rfl
theorem k284 (ρ : Nat → Int) (fx : List Fact) : chkFun Try.prog (nf ρ) (abi fx) Try.f31 F284 = true := by kernel_rfl
theorem k286 (ρ : Nat → Int) (fx : List Fact) : chkFun Try.prog (nf ρ) (abi fx) Try.f41 F286 = true := by kernel_rfl
theorem k288 (ρ : Nat → Int) (fx : List Fact) : chkFun Try.prog (nf ρ) (abi fx) Try.f18 F288 = true := by kernel_rfl
theorem k1002 (ρ : Nat → Int) (fx : List Fact) : chkFun Try.prog (nf ρ) (abi fx) Try.f5 F1002 = true := by kernel_rfl
theorem k1004 (ρ : Nat → Int) (fx : List Fact) : chkFun Try.prog (nf ρ) (abi fx) Try.f7 F1004 = true := by kernel_rfl
end Fo.Try
