/-
  Calls, whole (part 20).
-/
import Derived.Test.YtildnnhlpdcglaaFoA19
namespace Fo
open Go
set_option linter.unusedVariables false
set_option linter.unusedSimpArgs false

section
variable {nf : Nm} {P : Program}

theorem bxl_ok {ι : Iota} {M Mz : Nat → Prop} {w w' : World} {h1 : Heap} (hsize : w.heap.size ≤ w'.heap.size) : ∀ (ms : List Mode) (xs : List V) (cs : List Value) (O : List Nat) (bs : Ids) (a2 : List V) (ids : Ids) (outs : List (List V)) (Os : List Nat),
    P1 (nf := nf) ι w M ms xs cs O bs → pass2 h1 ms xs = some (a2, ids) → lensEq a2 outs = true → (∀ i ∈ bs, h1.bl i.1 i.2.1 i.2.2 = .dead) → XVL nf ι00 w' Mz (rebox a2 outs) (ptrs a2 cs) Os →
    BXL nf ι w' Mz h1 (bs.zip outs) Os
  | ms, [], cs, O, bs, a2, ids, outs, Os, ⟨e1, e2, e3⟩, hp, hl, hd, hx => by
    simp only [pass2, Option.some.injEq, Prod.mk.injEq] at hp
    obtain ⟨rfl, rfl⟩ := hp
    subst e3
    simp only [rebox] at hx
    obtain ⟨_, hx⟩ := hx
    simpa [BXL] using hx
  | ms, x :: xs, cs, O, bs, a2, ids, outs, Os, ⟨c, cs', e, hh⟩, hp, hl, hd, hx => by
    subst e
    have skip : ∀ (y : V) (r1 : List V), isPb y = false → lensEq (y :: r1) outs = lensEq r1 outs ∧ rebox (y :: r1) outs = rebox r1 outs ∧ ptrs (y :: r1) (c :: cs') = ptrs r1 cs' := by
      intro y r1 hy
      cases y <;> first | (simp [isPb] at hy; done) | exact ⟨rfl, rfl, rfl⟩
    simp only [pass2] at hp
    split at hp
    · rename_i hm
      split at hp
      · cases hp
      · rename_i y hy
        simp only [Option.map_eq_some_iff, Prod.mk.injEq] at hp
        obtain ⟨⟨r1, r2⟩, hr, rfl, rfl⟩ := hp
        obtain ⟨s1, s2, s3⟩ := skip y.1 r1 (lendArg_alive hy).2
        rw [s1] at hl; rw [s2, s3] at hx
        rcases hh with ⟨_, _, p⟩ | ⟨hm2, _⟩ | ⟨hm2, _⟩
        · exact bxl_ok hsize ms.tail xs cs' O bs r1 r2 outs Os p hr hl hd hx
        · rw [hm] at hm2; cases hm2
        · rw [hm] at hm2; cases hm2
    · rename_i hm
      simp only [Option.map_eq_some_iff, Prod.mk.injEq] at hp
      obtain ⟨⟨r1, r2⟩, hr, rfl, rfl⟩ := hp
      rcases hh with ⟨hm2, _⟩ | ⟨_, hpb, O1, O2, rfl, _, p⟩ | ⟨_, row, off, b, o, O1, O2, d, v, j, bs', rfl, rfl, hc, hMb, hb, hnf, _, rfl, hι, p⟩
      · exact absurd hm2 hm
      · obtain ⟨s1, s2, s3⟩ := skip x r1 hpb
        rw [s1] at hl; rw [s2, s3] at hx
        exact bxl_ok hsize ms.tail xs cs' O2 bs r1 r2 outs Os p hr hl hd hx
      · cases outs with
        | nil => simp [lensEq] at hl
        | cons out outs =>
          simp only [lensEq, Bool.and_eq_true, beq_iff_eq] at hl
          simp only [rebox, ptrs] at hx
          obtain ⟨c2, cs2, Oa, Ob, e, rfl, hx1, hx2⟩ := hx
          obtain ⟨rfl, rfl⟩ := List.cons.inj e
          obtain ⟨b2, o2, O', e2, rfl, q1, q2, q3, q4⟩ := hx1
          rw [hc] at e2
          simp only [Value.pointer.injEq, Option.some.injEq, Addr.mk.injEq, and_true] at e2
          obtain ⟨rfl, e3⟩ := e2
          obtain rfl : o = o2 := by omega
          refine ⟨b, o, O', Ob, rfl, by rw [← hl.1]; exact hι, q1, q2, q3, hd (d, v, j) (by simp), XVM.stays (Stays.refl _ _) (ι00_le ι) b rfl _ _ _ (fun x hx => ⟨rfl, XVM.inM _ _ _ _ q4 x hx⟩) q4, ?_⟩
          exact bxl_ok hsize ms.tail xs cs' O2 bs' r1 r2 outs Ob p hr hl.2 (fun i hi => hd i (by simp [hi])) hx2

theorem reboxL_noshow {w : World} {M M' : Nat → Prop} : ∀ (a2 : List V) (outs : List (List V)) (cs : List Value) (O : List Nat), showsR outs = false → (∀ b ∈ O, M' b) → XVL nf ι00 w M (rebox a2 outs) cs O → XVL nf ι00 w M' (rebox a2 outs) cs O
  | [], _, _, _, _, _, h => h
  | x :: xs, outs, cs, O, s, k, h => by
    by_cases hp : isPb x = true
    · cases x <;> simp [isPb] at hp
      rename_i row off
      cases outs with
      | nil => exact h
      | cons out outs =>
        simp only [showsR, Bool.or_eq_false_iff] at s
        simp only [rebox] at h ⊢
        obtain ⟨c, cs', O1, O2, e, rfl, ⟨b, o, O', e1, rfl, q1, q2, q3, q4⟩, h2⟩ := h
        refine ⟨c, cs', b :: O', O2, e, rfl, ⟨b, o, O', e1, rfl, k b (by simp), q2, q3, XVM.noshow _ _ _ s.1 (fun x hx => k x (by simp [hx])) q4⟩, reboxL_noshow xs outs cs' O2 s.2 (fun x hx => k x (by simp [hx])) h2⟩
    · have : rebox (x :: xs) outs = rebox xs outs := by cases x <;> first | rfl | (simp [isPb] at hp)
      rw [this] at h ⊢
      exact reboxL_noshow xs outs cs O s k h

theorem called_ok {B : Base} {ι : Iota} {M : Nat → Prop} {h : Heap} {w : World} (m : Mem nf B ι M h w) {abi : Abi} {f : Nat} {g : FuncId} {xs : List V} {args : List Value} {r : Res}
    (hv : DVL nf ι w M xs args) (hg : nf f = some g) (hc : Called abi (CallsOK P nf) f xs h r) :
    Calls P g args.toArray w (fun e w' => ∃ c M', e = .returned c ∧ ResOK nf B ι M w true r c w' M') := by
  obtain ⟨a1, h1, bs, a2, ids, v, outs, hp1, hp2, hΓ, hlen, rfl⟩ := hc
  obtain ⟨O, gv, p, hdead⟩ := pass1_ok (abi f) xs args h a1 h1 bs m hv hp1
  obtain ⟨hx, hal⟩ := pass2_ok gv.mem (abi f) a1 args O bs a2 ids p hp2 gv.isnt
  have hOM : ∀ b ∈ O, Less ι M ids b := XVL.inM _ _ _ hx
  let M0 : Nat → Prop := fun b => Less ι M ids b ∧ b ∉ O ∧ b < w.heap.size
  have hOlt : ∀ b ∈ O, b < w.heap.size := fun b hb => let ⟨d, vv, j, o⟩ := gv.was b hb; (m.ownsM o).2
  have hsubL : ∀ b, (M0 b ∨ b ∈ O) → Less ι M ids b := fun b hb => hb.elim (fun h => h.1) (hOM b)
  have hargs : XVL nf ι00 w (fun b => M0 b ∨ b ∈ O) a2 args O := XVL.stays (Stays.sub hsubL) (Iota.le_refl _) _ _ _ (fun b hb => ⟨rfl, .inr hb⟩) hx
  refine (hΓ g hg w M0 args O (fun b hb => hb.2.2) (fun b hb hh => hh.2.1 hb) gv.nodup hargs).mono ?_
  rintro e w' ⟨c, S', rfl, hnd, hS, kp, hres⟩
  obtain ⟨c2, cs2, O1, O2, ec, eS, hxv, hxr⟩ := hres
  obtain ⟨rfl, rfl⟩ := List.cons.inj ec
  subst eS
  have hLent : ∀ b, Lent ι ids b → b < w.heap.size := fun b hb => Lent.old gv.mem hal hb
  let M' : Nat → Prop := fun b => M0 b ∨ b ∈ O1 ++ O2 ∨ (M b ∧ Lent ι ids b)
  have hSless : ∀ b ∈ O1 ++ O2, ¬ Lent ι ids b := by
    intro b hb hl
    rcases hS b hb with h' | h'
    · exact (hOM b h').2 hl
    · have := hLent b hl; omega
  have hst : Stays w M w' M' := by
    refine ⟨kp.size, fun b hb hlt => kp.block b hlt (fun hh => hb (hOM b hh).1), fun b hb => ?_, kp.shape⟩
    rcases hb with hb | hb | hb
    · exact .inl hb.1.1
    · rcases hS b hb with h' | h'
      · exact .inl (hOM b h').1
      · exact .inr h'
    · exact .inl hb.1
  have hkept : Kept B w' := by
    have k := m.keep
    refine ⟨kp.os.trans k.os, kp.tape.trans k.tape, kp.output.trans k.output, Nat.le_trans k.size kp.size, fun b hb hs => ?_, fun b hb => (kp.shape b (Nat.lt_of_lt_of_le hb k.size)).trans (k.shape b hb)⟩
    have hno : b ∉ O := by
      intro hh
      obtain ⟨d, vv, j, o⟩ := gv.was b hh
      rcases m.mine _ _ _ _ o with q | q
      · exact hs q
      · omega
    rw [kp.block b (Nat.lt_of_lt_of_le hb k.size) hno]
    exact k.block b hb hs
  have hM'own : ∀ d vv j b, Owns h1 ι d vv j b → w'.heap[b]? = w.heap[b]? ∧ M' b := by
    intro d vv j b o
    have om := gv.mem.ownsM o
    have hno : b ∉ O := fun hh => gv.isnt b hh _ _ _ o
    refine ⟨kp.block b om.2 hno, ?_⟩
    by_cases hl : Lent ι ids b
    · exact .inr (.inr ⟨om.1, hl⟩)
    · exact .inl ⟨⟨om.1, hl⟩, hno, om.2⟩
  have hfor : ∀ b, B.M0 b → M' b := by
    intro b hb
    have hMb := m.foreign b hb
    by_cases hl : Lent ι ids b
    · exact .inr (.inr ⟨hMb, hl⟩)
    · refine .inl ⟨⟨hMb, hl⟩, fun hh => ?_, Nat.lt_of_lt_of_le (m.wf.low b hb) m.keep.size⟩
      obtain ⟨d, vv, j, o⟩ := gv.was b hh
      exact m.notForeign o hb
  have hmem : Mem nf B ι M' h1 w' := gv.mem.move hst hkept hM'own hfor
  let fz : Ids := if ids.isEmpty then [] else if shows v || showsR outs then ids else []
  have hfz : ∀ i ∈ fz, i ∈ ids := by
    intro i hi
    show i ∈ ids
    have hi : i ∈ (if ids.isEmpty then [] else if shows v || showsR outs then ids else []) := hi
    split at hi
    · cases hi
    · split at hi
      · exact hi
      · cases hi
  have hin : ∀ b ∈ O1 ++ O2, Less ι M' fz b := fun b hb => ⟨.inr (.inl hb), fun hl => hSless b hb (hl.mono hfz)⟩
  -- what is told, as the frame may have it
  have hcase : (∀ b, Less ι M' fz b → M0 b ∨ b ∈ O1 ++ O2) ∨ (shows v = false ∧ showsR outs = false) := by
    by_cases he : ids.isEmpty = true
    · left
      rintro b ⟨hb, _⟩
      rcases hb with hb | hb | hb
      · exact .inl hb
      · exact .inr hb
      · obtain ⟨i, hi, _⟩ := hb.2
        rw [List.isEmpty_iff.1 he] at hi; cases hi
    · by_cases hs : (shows v || showsR outs) = true
      · left
        have hfe : fz = ids := by show (if ids.isEmpty then [] else if shows v || showsR outs then ids else []) = ids; rw [if_neg he, if_pos hs]
        rintro b ⟨hb, hnl⟩
        rw [hfe] at hnl
        rcases hb with hb | hb | hb
        · exact .inl hb
        · exact .inr hb
        · exact absurd hb.2 hnl
      · right
        simpa using hs
  have hxv2 : XV nf ι w' (Less ι M' fz) v c O1 := by
    have : XV nf ι00 w' (Less ι M' fz) v c O1 := by
      rcases hcase with hc | ⟨hc, _⟩
      · exact XV.stays (Stays.sub hc) (Iota.le_refl _) _ _ _ (fun b hb => ⟨rfl, hin b (by simp [hb])⟩) hxv
      · exact XV.noshow _ _ _ hc (fun b hb => hin b (by simp [hb])) hxv
    exact XV.stays (Stays.refl _ _) (ι00_le ι) _ _ _ (fun b hb => ⟨rfl, hin b (by simp [hb])⟩) this
  have hxr2 : XVL nf ι00 w' (Less ι M' fz) (rebox a2 outs) (ptrs a2 args) O2 := by
    rcases hcase with hc | ⟨_, hc⟩
    · exact XVL.stays (Stays.sub hc) (Iota.le_refl _) _ _ _ (fun b hb => ⟨rfl, hin b (by simp [hb])⟩) hxr
    · exact reboxL_noshow _ _ _ _ hc (fun b hb => hin b (by simp [hb])) hxr
  refine ⟨c, M', rfl, hst, hmem, fun i hi => .inl (hal i (hfz i hi)), fun _ => ⟨O1, O2, hxv2, bxl_ok kp.size (abi f) a1 args O bs a2 ids outs O2 p hp2 hlen hdead hxr2, hnd, fun b hb => ?_⟩, fun e => by cases e⟩
  rcases hS b hb with h' | h'
  · obtain ⟨d, vv, j, o⟩ := gv.was b h'
    exact ⟨fun d2 v2 j2 => gv.isnt b h' d2 v2 j2, m.mine _ _ _ _ o⟩
  · refine ⟨fun d2 v2 j2 o => ?_, .inr (Nat.le_trans m.keep.size h')⟩
    have := (gv.mem.ownsM o).2
    omega

end
end Fo
