/-
  No cell of these rows narrows 'for every input' (looked for: loops, veiled, ifaces, maps, wideKeys, modest, calm, conditions, laid).
  DERIVED. THE GIVEN ROWS OF THIS SEAT. 6 by the template 'for every input the law returns true; each argument reads behind the call as it read before'; 0 by the template 'total and deterministic' (their statements: YtjpjdmbomljdcaaGreatTotals.lean).
  GIVEN WITH THE SEED: the statements are not yours to turn. If you find one false, say at which input.
  Laid BY PROGRAM, IN A SANDBOX (cutbox-rows.mjs): the forced cells as the released guide's own fill.sh prints them over the translation ded91a0ca77978b3… (all of the seat's roots in one cut). By AI agents, Wed Nov 11 2026. No macro, syntax, notation, axiom, sorry.
-/
import Derived.Test.YtjpjdmbomljdcaaGreatChecked
import GoSem.Claim
import GoSem.ClaimJoined
import GoSem.ClaimMapViews
import Derived.JoinedTies
import Derived.KernelRfl
namespace Go.Proofs.YtjpjdmbomljdcaaGreat
/- THE CELL 'sum', in the pinned program and in every row, IS THE sha256 OF THE DUMP (.gsa) THAT YtjpjdmbomljdcaaGreatProg.lean LOADS. Nothing in Lean hashes anything: it is a label: what it is worth is what the hold of that sum in a sandbox is worth. -/
noncomputable def Tryz.pinned : Pinned := { name := "ytjpjdmbomljdcaagreat", sum := "ded91a0ca77978b3b271f61fe8bca39500d444a07fd2d2c058a4d7ac627e467b", checked := Tryz.checked }
namespace Rows
def none {H : Type} : Left H := { results := [], args := [] }

/-- 'foliotlaw24.KernNone': WHATEVER THE INPUT: true; the input reads as it did. -/
def kernNoneSpec : ChangeSpec := { name := "kernNone", fn := fun _ => fun
  | [d1, d2, d3] => { results := [.lit (.bool true)], args := [d1, d2, d3] }
  | _ => none }
def kernNoneRow : OpenClaim := { program := "ytjpjdmbomljdcaagreat", sum := "ded91a0ca77978b3b271f61fe8bca39500d444a07fd2d2c058a4d7ac627e467b", func := "foliot/foliotlaw24.KernNone", spec := "kernNone", inPlace := ["slices.overlaps[foliot/api.Job]"], unfollowed := true, recurses := true, plainKeys := false, apart := false }
def KernNoneSaid : Prop := kernNoneRow.holds Tryz.pinned (OpenSpec.ofChange kernNoneSpec)

/-- ITS FALSE NEIGHBOUR: 'it returns false'. Refute it at one input. -/
def kernNoneWrong : ChangeSpec := { name := "kernNone", fn := fun _ => fun
  | [d1, d2, d3] => { results := [.lit (.bool false)], args := [d1, d2, d3] }
  | _ => none }
def KernNoneWrongFalsely : Prop := kernNoneRow.holds Tryz.pinned (OpenSpec.ofChange kernNoneWrong)

/-- 'foliotlaw24.KernMiss': WHATEVER THE INPUT: true; the input reads as it did. -/
def kernMissSpec : ChangeSpec := { name := "kernMiss", fn := fun _ => fun
  | [d1, d2, d3] => { results := [.lit (.bool true)], args := [d1, d2, d3] }
  | _ => none }
def kernMissRow : OpenClaim := { program := "ytjpjdmbomljdcaagreat", sum := "ded91a0ca77978b3b271f61fe8bca39500d444a07fd2d2c058a4d7ac627e467b", func := "foliot/foliotlaw24.KernMiss", spec := "kernMiss", inPlace := ["slices.overlaps[foliot/api.Job]"], unfollowed := true, recurses := true, plainKeys := false, apart := false }
def KernMissSaid : Prop := kernMissRow.holds Tryz.pinned (OpenSpec.ofChange kernMissSpec)

/-- ITS FALSE NEIGHBOUR: 'it returns false'. Refute it at one input. -/
def kernMissWrong : ChangeSpec := { name := "kernMiss", fn := fun _ => fun
  | [d1, d2, d3] => { results := [.lit (.bool false)], args := [d1, d2, d3] }
  | _ => none }
def KernMissWrongFalsely : Prop := kernMissRow.holds Tryz.pinned (OpenSpec.ofChange kernMissWrong)

/-- 'foliotlaw25.CallFlags': WHATEVER THE INPUT: true; the input reads as it did. -/
def callFlagsSpec : ChangeSpec := { name := "callFlags", fn := fun _ => fun
  | [d] => { results := [.lit (.bool true)], args := [d] }
  | _ => none }
def callFlagsRow : OpenClaim := { program := "ytjpjdmbomljdcaagreat", sum := "ded91a0ca77978b3b271f61fe8bca39500d444a07fd2d2c058a4d7ac627e467b", func := "foliot/foliotlaw25.CallFlags", spec := "callFlags", inPlace := ["slices.overlaps[foliot/api.Task]", "slices.overlaps[foliot/api.Job]"], unfollowed := true, recurses := true, plainKeys := false, apart := false }
def CallFlagsSaid : Prop := callFlagsRow.holds Tryz.pinned (OpenSpec.ofChange callFlagsSpec)

/-- ITS FALSE NEIGHBOUR: 'it returns false'. Refute it at one input. -/
def callFlagsWrong : ChangeSpec := { name := "callFlags", fn := fun _ => fun
  | [d] => { results := [.lit (.bool false)], args := [d] }
  | _ => none }
def CallFlagsWrongFalsely : Prop := callFlagsRow.holds Tryz.pinned (OpenSpec.ofChange callFlagsWrong)

/-- 'foliotlaw25.CallOld': WHATEVER THE INPUT: true; the input reads as it did. -/
def callOldSpec : ChangeSpec := { name := "callOld", fn := fun _ => fun
  | [d1, d2, d3] => { results := [.lit (.bool true)], args := [d1, d2, d3] }
  | _ => none }
def callOldRow : OpenClaim := { program := "ytjpjdmbomljdcaagreat", sum := "ded91a0ca77978b3b271f61fe8bca39500d444a07fd2d2c058a4d7ac627e467b", func := "foliot/foliotlaw25.CallOld", spec := "callOld", inPlace := ["slices.overlaps[foliot/api.Task]", "slices.overlaps[foliot/api.Job]"], unfollowed := true, recurses := true, plainKeys := false, apart := false }
def CallOldSaid : Prop := callOldRow.holds Tryz.pinned (OpenSpec.ofChange callOldSpec)

/-- ITS FALSE NEIGHBOUR: 'it returns false'. Refute it at one input. -/
def callOldWrong : ChangeSpec := { name := "callOld", fn := fun _ => fun
  | [d1, d2, d3] => { results := [.lit (.bool false)], args := [d1, d2, d3] }
  | _ => none }
def CallOldWrongFalsely : Prop := callOldRow.holds Tryz.pinned (OpenSpec.ofChange callOldWrong)

/-- 'foliotlaw25.CallBoxes': WHATEVER THE INPUT: true; the input reads as it did. -/
def callBoxesSpec : ChangeSpec := { name := "callBoxes", fn := fun _ => fun
  | [d] => { results := [.lit (.bool true)], args := [d] }
  | _ => none }
def callBoxesRow : OpenClaim := { program := "ytjpjdmbomljdcaagreat", sum := "ded91a0ca77978b3b271f61fe8bca39500d444a07fd2d2c058a4d7ac627e467b", func := "foliot/foliotlaw25.CallBoxes", spec := "callBoxes", inPlace := ["slices.overlaps[foliot/api.Task]", "slices.overlaps[foliot/api.Job]"], unfollowed := true, recurses := true, plainKeys := false, apart := false }
def CallBoxesSaid : Prop := callBoxesRow.holds Tryz.pinned (OpenSpec.ofChange callBoxesSpec)

/-- ITS FALSE NEIGHBOUR: 'it returns false'. Refute it at one input. -/
def callBoxesWrong : ChangeSpec := { name := "callBoxes", fn := fun _ => fun
  | [d] => { results := [.lit (.bool false)], args := [d] }
  | _ => none }
def CallBoxesWrongFalsely : Prop := callBoxesRow.holds Tryz.pinned (OpenSpec.ofChange callBoxesWrong)

/-- 'foliotlaw26.TrialTurns': WHATEVER THE INPUT: true; the input reads as it did. -/
def trialTurnsSpec : ChangeSpec := { name := "trialTurns", fn := fun _ => fun
  | [d1, d2, d3] => { results := [.lit (.bool true)], args := [d1, d2, d3] }
  | _ => none }
def trialTurnsRow : OpenClaim := { program := "ytjpjdmbomljdcaagreat", sum := "ded91a0ca77978b3b271f61fe8bca39500d444a07fd2d2c058a4d7ac627e467b", func := "foliot/foliotlaw26.TrialTurns", spec := "trialTurns", inPlace := ["slices.overlaps[foliot/api.Task]", "slices.overlaps[foliot/api.Job]"], unfollowed := true, recurses := true, plainKeys := false, apart := false }
def TrialTurnsSaid : Prop := trialTurnsRow.holds Tryz.pinned (OpenSpec.ofChange trialTurnsSpec)

/-- ITS FALSE NEIGHBOUR: 'it returns false'. Refute it at one input. -/
def trialTurnsWrong : ChangeSpec := { name := "trialTurns", fn := fun _ => fun
  | [d1, d2, d3] => { results := [.lit (.bool false)], args := [d1, d2, d3] }
  | _ => none }
def TrialTurnsWrongFalsely : Prop := trialTurnsRow.holds Tryz.pinned (OpenSpec.ofChange trialTurnsWrong)

/- THE SECOND FORM. 'bulk': how many values and letters a reading holds, each counted each time it is reached (what is shared counts as often as it is met; a slice's spare places count too). A statement '..UptoSaid' is the law's where the arguments, and the package variables that the reading takes, are together of bulk at most 1048576: NARROWER than '..Said'. Prove '..Said' where nothing that the law and all that it calls make is longer than what came in: it says more and counts as full. Else prove '..UptoSaid'. A law counts once. -/
mutual
def uptoBulk {H : Type} : DataW H → Nat
  | .lit (.string bytes) => bytes.length + 1
  | .lit _ => 1
  | .nil => 1
  | .ptr d => uptoBulk d + 1
  | .slice elems spare => uptoBulkAll elems + uptoBulkAll spare + 1
  | .agg parts => uptoBulkAll parts + 1
  | .iface _ d => uptoBulk d + 1
  | .map entries => uptoBulkEntries entries + 1
  | .held _ => 1
def uptoBulkAll {H : Type} : List (DataW H) → Nat
  | [] => 0
  | d :: r => uptoBulk d + uptoBulkAll r
def uptoBulkEntries {H : Type} : List (Lit × DataW H) → Nat
  | [] => 0
  | x :: r => uptoBulkEntry x + uptoBulkEntries r
def uptoBulkEntry {H : Type} : Lit × DataW H → Nat
  | (.string bytes, d) => bytes.length + uptoBulk d + 1
  | (_, d) => uptoBulk d + 1
 end
def uptoSmall : (H : Type) → List (DataW H) → Bool := fun _ ds => decide (uptoBulkAll ds ≤ 1048576)
def OpenSpec.upto (s : _root_.Go.ChangeSpec) : _root_.Go.OpenSpec := { _root_.Go.OpenSpec.ofChange s with cond := some uptoSmall }

/-- 'foliotlaw24.KernNone', WHERE WHAT IT READS IS OF BULK AT MOST 1048576: true; the input reads as it did. -/
def kernNoneUptoRow : OpenClaim := { program := "ytjpjdmbomljdcaagreat", sum := "ded91a0ca77978b3b271f61fe8bca39500d444a07fd2d2c058a4d7ac627e467b", func := "foliot/foliotlaw24.KernNone", spec := "kernNone", inPlace := ["slices.overlaps[foliot/api.Job]"], unfollowed := true, recurses := true, plainKeys := false, apart := false, narrowed := true }
def KernNoneUptoSaid : Prop := kernNoneUptoRow.holds Tryz.pinned (OpenSpec.upto kernNoneSpec)

/-- 'foliotlaw24.KernMiss', WHERE WHAT IT READS IS OF BULK AT MOST 1048576: true; the input reads as it did. -/
def kernMissUptoRow : OpenClaim := { program := "ytjpjdmbomljdcaagreat", sum := "ded91a0ca77978b3b271f61fe8bca39500d444a07fd2d2c058a4d7ac627e467b", func := "foliot/foliotlaw24.KernMiss", spec := "kernMiss", inPlace := ["slices.overlaps[foliot/api.Job]"], unfollowed := true, recurses := true, plainKeys := false, apart := false, narrowed := true }
def KernMissUptoSaid : Prop := kernMissUptoRow.holds Tryz.pinned (OpenSpec.upto kernMissSpec)

/-- 'foliotlaw25.CallFlags', WHERE WHAT IT READS IS OF BULK AT MOST 1048576: true; the input reads as it did. -/
def callFlagsUptoRow : OpenClaim := { program := "ytjpjdmbomljdcaagreat", sum := "ded91a0ca77978b3b271f61fe8bca39500d444a07fd2d2c058a4d7ac627e467b", func := "foliot/foliotlaw25.CallFlags", spec := "callFlags", inPlace := ["slices.overlaps[foliot/api.Task]", "slices.overlaps[foliot/api.Job]"], unfollowed := true, recurses := true, plainKeys := false, apart := false, narrowed := true }
def CallFlagsUptoSaid : Prop := callFlagsUptoRow.holds Tryz.pinned (OpenSpec.upto callFlagsSpec)

/-- 'foliotlaw25.CallOld', WHERE WHAT IT READS IS OF BULK AT MOST 1048576: true; the input reads as it did. -/
def callOldUptoRow : OpenClaim := { program := "ytjpjdmbomljdcaagreat", sum := "ded91a0ca77978b3b271f61fe8bca39500d444a07fd2d2c058a4d7ac627e467b", func := "foliot/foliotlaw25.CallOld", spec := "callOld", inPlace := ["slices.overlaps[foliot/api.Task]", "slices.overlaps[foliot/api.Job]"], unfollowed := true, recurses := true, plainKeys := false, apart := false, narrowed := true }
def CallOldUptoSaid : Prop := callOldUptoRow.holds Tryz.pinned (OpenSpec.upto callOldSpec)

/-- 'foliotlaw25.CallBoxes', WHERE WHAT IT READS IS OF BULK AT MOST 1048576: true; the input reads as it did. -/
def callBoxesUptoRow : OpenClaim := { program := "ytjpjdmbomljdcaagreat", sum := "ded91a0ca77978b3b271f61fe8bca39500d444a07fd2d2c058a4d7ac627e467b", func := "foliot/foliotlaw25.CallBoxes", spec := "callBoxes", inPlace := ["slices.overlaps[foliot/api.Task]", "slices.overlaps[foliot/api.Job]"], unfollowed := true, recurses := true, plainKeys := false, apart := false, narrowed := true }
def CallBoxesUptoSaid : Prop := callBoxesUptoRow.holds Tryz.pinned (OpenSpec.upto callBoxesSpec)

/-- 'foliotlaw26.TrialTurns', WHERE WHAT IT READS IS OF BULK AT MOST 1048576: true; the input reads as it did. -/
def trialTurnsUptoRow : OpenClaim := { program := "ytjpjdmbomljdcaagreat", sum := "ded91a0ca77978b3b271f61fe8bca39500d444a07fd2d2c058a4d7ac627e467b", func := "foliot/foliotlaw26.TrialTurns", spec := "trialTurns", inPlace := ["slices.overlaps[foliot/api.Task]", "slices.overlaps[foliot/api.Job]"], unfollowed := true, recurses := true, plainKeys := false, apart := false, narrowed := true }
def TrialTurnsUptoSaid : Prop := trialTurnsUptoRow.holds Tryz.pinned (OpenSpec.upto trialTurnsSpec)

end Rows
end Go.Proofs.YtjpjdmbomljdcaaGreat
