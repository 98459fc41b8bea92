/-
  The functions that FaultTwice reaches; each is looked at by the kernel.
-/
import Derived.Test.YtildnnhlpdcglaaFaultTwiceTab
import Derived.Test.YtildnnhlpdcglaaProg
import Derived.KernelRfl
import Derived.Test.YtildnnhlpdcglaaFoWO
set_option maxRecDepth 100000
namespace Fo.Try
open Go Go.Proofs Fo.W
def tblL : List (Nat × FuncId) := [(6, 10), (18, 22), (19, 11), (41, 21), (60, 14), (63, 26), (69, 36), (94, 37), (114, 25), (120, 42), (136, 34), (137, 35), (144, 15), (155, 30), (158, 43), (170, 8), (185, 12), (216, 19), (218, 20), (219, 27), (220, 28), (228, 9), (239, 17), (244, 23), (245, 24), (270, 32), (271, 33), (274, 40), (281, 29), (284, 31), (286, 41), (288, 18), (298, 38), (299, 39), (330, 44), (1001, 4), (1004, 7), (1005, 13)]
def tbl (f : Nat) : Option FuncId := tblL.lookup f
def nf : Nm := ⟨tbl, fun _ => 0, fun _ _ => 0⟩
theorem k6 : chkFun Try.prog nf A Try.f10 F6 = true := by kernel_rfl
theorem k18 : chkFun Try.prog nf A Try.f22 F18 = true := by kernel_rfl
theorem k19 : chkFun Try.prog nf A Try.f11 F19 = true := by kernel_rfl
theorem k41 : chkFun Try.prog nf A Try.f21 F41 = true := by kernel_rfl
theorem k60 : chkFun Try.prog nf A Try.f14 F60 = true := by kernel_rfl
theorem k63 : chkFun Try.prog nf A Try.f26 F63 = true := by kernel_rfl
theorem k69 : chkFun Try.prog nf A Try.f36 F69 = true := by kernel_rfl
theorem k94 : chkFun Try.prog nf A Try.f37 F94 = true := by kernel_rfl
theorem k114 : chkFun Try.prog nf A Try.f25 F114 = true := by kernel_rfl
theorem k120 : chkFun Try.prog nf A Try.f42 F120 = true := by kernel_rfl
theorem k136 : chkFun Try.prog nf A Try.f34 F136 = true := by kernel_rfl
theorem k137 : chkFun Try.prog nf A Try.f35 F137 = true := by kernel_rfl
theorem k144 : chkFun Try.prog nf A Try.f15 F144 = true := by kernel_rfl
theorem k155 : chkFun Try.prog nf A Try.f30 F155 = true := by kernel_rfl
theorem k158 : chkFun Try.prog nf A Try.f43 F158 = true := by kernel_rfl
theorem k170 : chkFun Try.prog nf A Try.f8 F170 = true := by kernel_rfl
theorem k185 : chkFun Try.prog nf A Try.f12 F185 = true := by kernel_rfl
theorem k216 : chkFun Try.prog nf A Try.f19 F216 = true := by kernel_rfl
theorem k218 : chkFun Try.prog nf A Try.f20 F218 = true := by kernel_rfl
theorem k219 : chkFun Try.prog nf A Try.f27 F219 = true := by kernel_rfl
theorem k220 : chkFun Try.prog nf A Try.f28 F220 = true := by kernel_rfl
theorem k228 : chkFun Try.prog nf A Try.f9 F228 = true := by kernel_rfl
theorem k239 : chkFun Try.prog nf A Try.f17 F239 = true := by kernel_rfl
theorem k244 : chkFun Try.prog nf A Try.f23 F244 = true := by kernel_rfl
theorem k245 : chkFun Try.prog nf A Try.f24 F245 = true := by kernel_rfl
theorem k270 : chkFun Try.prog nf A Try.f32 F270 = true := by kernel_rfl
theorem k271 : chkFun Try.prog nf A Try.f33 F271 = true := by kernel_rfl
theorem k274 : chkFun Try.prog nf A Try.f40 F274 = true := by kernel_rfl
theorem k281 : chkFun Try.prog nf A Try.f29 F281 = true := by kernel_rfl
theorem k284 : chkFun Try.prog nf A Try.f31 F284 = true := by kernel_rfl
theorem k286 : chkFun Try.prog nf A Try.f41 F286 = true := by kernel_rfl
theorem k288 : chkFun Try.prog nf A Try.f18 F288 = true := by kernel_rfl
theorem k298 : chkFun Try.prog nf A Try.f38 F298 = true := by kernel_rfl
theorem k299 : chkFun Try.prog nf A Try.f39 F299 = true := by kernel_rfl
theorem k330 : chkFun Try.prog nf A Try.f44 F330 = true := by kernel_rfl
theorem k1001 : chkFun Try.prog nf A Try.f4 F1001 = true := by kernel_rfl
theorem k1004 : chkFun Try.prog nf A Try.f7 F1004 = true := by kernel_rfl
theorem k1005 : chkFun Try.prog nf A Try.f13 F1005 = true := by kernel_rfl
theorem enters_tbl : ∀ f g, tbl f = some g → enters Try.prog g = true := by
  have h : (tblL.all fun p => enters Try.prog p.2) = true := by kernel_rfl
  intro f g hf
  exact lookup_all h hf
theorem ent : Ent Try.prog nf A := ⟨enters_tbl, FactsOK.nil⟩
set_option maxHeartbeats 4000000 in
theorem funs_ok : ∀ f F gv, funs f = some (F, gv) → ∃ g fn, nf f = some g ∧ Try.prog.funcs[g]? = some fn ∧ chkFun Try.prog nf A fn F = true := by
  intro f F gv h
  unfold funs at h
  split at h
  · cases h; exact ⟨_, _, rfl, Try.func10, k6⟩
  · cases h; exact ⟨_, _, rfl, Try.func22, k18⟩
  · cases h; exact ⟨_, _, rfl, Try.func11, k19⟩
  · cases h; exact ⟨_, _, rfl, Try.func21, k41⟩
  · cases h; exact ⟨_, _, rfl, Try.func14, k60⟩
  · cases h; exact ⟨_, _, rfl, Try.func26, k63⟩
  · cases h; exact ⟨_, _, rfl, Try.func36, k69⟩
  · cases h; exact ⟨_, _, rfl, Try.func37, k94⟩
  · cases h; exact ⟨_, _, rfl, Try.func25, k114⟩
  · cases h; exact ⟨_, _, rfl, Try.func42, k120⟩
  · cases h; exact ⟨_, _, rfl, Try.func15, k144⟩
  · cases h; exact ⟨_, _, rfl, Try.func30, k155⟩
  · cases h; exact ⟨_, _, rfl, Try.func43, k158⟩
  · cases h; exact ⟨_, _, rfl, Try.func8, k170⟩
  · cases h; exact ⟨_, _, rfl, Try.func12, k185⟩
  · cases h; exact ⟨_, _, rfl, Try.func19, k216⟩
  · cases h; exact ⟨_, _, rfl, Try.func20, k218⟩
  · cases h; exact ⟨_, _, rfl, Try.func27, k219⟩
  · cases h; exact ⟨_, _, rfl, Try.func28, k220⟩
  · cases h; exact ⟨_, _, rfl, Try.func9, k228⟩
  · cases h; exact ⟨_, _, rfl, Try.func17, k239⟩
  · cases h; exact ⟨_, _, rfl, Try.func23, k244⟩
  · cases h; exact ⟨_, _, rfl, Try.func24, k245⟩
  · cases h; exact ⟨_, _, rfl, Try.func33, k271⟩
  · cases h; exact ⟨_, _, rfl, Try.func40, k274⟩
  · cases h; exact ⟨_, _, rfl, Try.func29, k281⟩
  · cases h; exact ⟨_, _, rfl, Try.func31, k284⟩
  · cases h; exact ⟨_, _, rfl, Try.func41, k286⟩
  · cases h; exact ⟨_, _, rfl, Try.func18, k288⟩
  · cases h; exact ⟨_, _, rfl, Try.func38, k298⟩
  · cases h; exact ⟨_, _, rfl, Try.func39, k299⟩
  · cases h; exact ⟨_, _, rfl, Try.func44, k330⟩
  · cases h; exact ⟨_, _, rfl, Try.func4, k1001⟩
  · cases h; exact ⟨_, _, rfl, Try.func7, k1004⟩
  · cases h; exact ⟨_, _, rfl, Try.func13, k1005⟩
  · cases h
theorem clones_ok : ∀ f n b z, clones f = some (n, b, z) → ∃ g fn, nf f = some g ∧ Try.prog.funcs[g]? = some fn ∧ chkFun Try.prog nf A fn (cloneOf n b z) = true := by
  intro f n b z h
  unfold clones at h
  split at h
  · cases h; exact ⟨_, _, rfl, Try.func34, k136⟩
  · cases h; exact ⟨_, _, rfl, Try.func35, k137⟩
  · cases h; exact ⟨_, _, rfl, Try.func32, k270⟩
  · cases h
theorem prims_ok : ∀ f args v outs, prims f args = some (v, outs) → CallsOK Try.prog nf f args v outs := cloneP_ok ent (by kernel_rfl) clones_ok
/-- What the walks say, the program does. -/
theorem does {f : Nat} {args : List V} {v : V} {outs : List (List V)} (h : C f args = some (v, outs)) : CallsOK Try.prog nf f args v outs := cw_ok ent (by kernel_rfl) prims_ok funs_ok h
theorem says {o M : Nat} {vs : List V} {cs : List Value} (hM : nf o = some M) (hp : ptrs vs cs = []) (hr : rebox vs [] = []) (h : C o vs = some (.bool true, [])) {w : World} (hd : DCL nf w Nobody vs cs) :
    Calls Try.prog M cs.toArray w fun e w' => e = .returned (.bool true) ∧ CallKeeps w w' [] := by
  refine (does h M hM w (fun _ => False) cs [] (fun _ h => h.elim) (fun _ h => by cases h) List.nodup_nil (DCL.toXV vs cs hd)).mono fun e w' ⟨c, S', he, _, _, hk, hx⟩ => ?_
  rw [hp, hr] at hx
  obtain ⟨c', cs', O1, O2, e1, e2, ⟨_, hv⟩, _⟩ := hx
  cases e1
  exact ⟨by rw [he, hv], hk⟩
end Fo.Try
