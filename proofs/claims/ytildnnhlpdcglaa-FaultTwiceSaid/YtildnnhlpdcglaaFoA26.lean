/-
  What an operation does it does to what it touches alone: all of them (part 26).
-/
import Derived.Test.YtildnnhlpdcglaaFoA25
namespace Fo
open Go
set_option linter.unusedVariables false
set_option linter.unusedSimpArgs false

mutual
theorem give_noids : ∀ (x : V) (h : Heap) (r : V × Heap), give h x = some r → idsV r.1 = []
  | .e n, h, r, e => by simp only [give, Option.some.injEq] at e; subst e; cases n <;> rfl
  | .int _ _, h, r, e | .bool _, h, r, e | .sym _ _ _ _ _ _, h, r, e | .sl _, h, r, e | .iptr _ _, h, r, e => by simp only [give, Option.some.injEq] at e; subst e; rfl
  | .fresh rows, h, r, e => by
    simp only [give] at e
    split at e
    · cases e; rfl
    · cases e
  | .agg l, h, r, e => by
    simp only [give, Option.map_eq_some_iff] at e
    obtain ⟨a, ha, rfl⟩ := e
    exact giveL_noids l h a ha
  | .tup l, h, r, e => by
    simp only [give, Option.map_eq_some_iff] at e
    obtain ⟨a, ha, rfl⟩ := e
    exact giveL_noids l h a ha
  | .own d v j fr len, h, r, e => by
    simp only [give] at e
    split at e
    · split at e
      · split at e
        · cases e
        · cases e; rfl
      · cases e; rfl
    · cases e; rfl
    · cases e
  | .ptr _ _ _ _ _, _, _, e | .pbox _ _, _, _, e | .fn _ _ _, _, _, e | .fmap _ _, _, _, e | .spare _, _, _, e | .any, _, _, e => by cases e
  | .map d v j, h, r, e => by
    simp only [give] at e
    split at e
    · split at e
      · cases e; rfl
      · cases e
    · cases e
theorem giveL_noids : ∀ (l : List V) (h : Heap) (r : List V × Heap), giveL h l = some r → idsL r.1 = []
  | [], h, r, e => by simp only [giveL, Option.some.injEq] at e; subst e; rfl
  | x :: l, h, r, e => by
    simp only [giveL] at e
    cases hx : give h x with
    | none => rw [hx] at e; cases e
    | some y =>
      rw [hx] at e
      simp only [Option.map_eq_some_iff] at e
      obtain ⟨z, hz, rfl⟩ := e
      simp [idsL, give_noids x h y hx, giveL_noids l y.2 z hz]
end

theorem boxIds_given {h h' : Heap} {x : V} {r : V × Heap} (e : give h x = some r) : boxIds h' r.1 = [] := by
  cases x <;> simp only [give, Option.map_eq_some_iff, Option.some.injEq, reduceCtorEq] at e
  case int => subst e; rfl
  case bool => subst e; rfl
  case sym => subst e; rfl
  case e n => subst e; cases n <;> rfl
  case sl => subst e; rfl
  case iptr => subst e; rfl
  case agg => obtain ⟨a, _, rfl⟩ := e; rfl
  case tup => obtain ⟨a, _, rfl⟩ := e; rfl
  case fresh => split at e <;> first | (cases e; rfl) | cases e
  case own => (repeat' split at e) <;> first | (cases e; rfl) | cases e
  case map => (repeat' split at e) <;> first | (cases e; rfl) | cases e

theorem pass1_ids : ∀ (ms : List Mode) (xs : List V) (h : Heap) (r : List V × Heap × Ids), pass1 ms xs h = some r → (∀ d ∈ idsL r.1, d ∈ idsL xs) ∧ ∀ h', ∀ d ∈ boxIdsA h' r.1, d ∈ boxIdsA h' xs
  | ms, [], h, r, e => by simp only [pass1, Option.some.injEq] at e; subst e; exact ⟨fun _ hd => hd, fun _ _ hd => hd⟩
  | ms, x :: xs, h, r, e => by
    simp only [pass1] at e
    split at e
    · simp only [Option.map_eq_some_iff] at e
      obtain ⟨z, hz, rfl⟩ := e
      obtain ⟨a, b⟩ := pass1_ids ms.tail xs h z hz
      exact ⟨fun d hd => by simp only [idsL, List.mem_append] at hd ⊢; exact hd.imp id (a d), fun h' d hd => by simp only [boxIdsA, List.mem_append] at hd ⊢; exact hd.imp id (b h' d)⟩
    · split at e
      · cases e
      · rename_i y hy
        simp only [Option.map_eq_some_iff] at e
        obtain ⟨z, hz, rfl⟩ := e
        obtain ⟨a, b⟩ := pass1_ids ms.tail xs y.2 z hz
        refine ⟨fun d hd => ?_, fun h' d hd => ?_⟩
        · simp only [idsL, give_noids x h y hy, List.nil_append] at hd
          simp only [idsL, List.mem_append]; exact .inr (a d hd)
        · simp only [boxIdsA, boxIds_given hy, List.nil_append] at hd
          simp only [boxIdsA, List.mem_append]; exact .inr (b h' d hd)
    · split at e
      · split at e
        · split at e
          · cases e
          · rename_i y hy
            simp only [Option.map_eq_some_iff] at e
            obtain ⟨z, hz, rfl⟩ := e
            obtain ⟨a, b⟩ := pass1_ids ms.tail xs y.2 z hz
            refine ⟨fun d hd => ?_, fun h' d hd => ?_⟩
            · simp only [idsL, idsV, List.nil_append] at hd
              simp only [idsL, List.mem_append]; exact .inr (a d hd)
            · simp only [boxIdsA, boxIds, boxIds1, List.nil_append] at hd
              simp only [boxIdsA, List.mem_append]; exact .inr (b h' d hd)
        · cases e
      · cases e

/-- What it does it does to t alone, and by what stands there alone. -/
structure Local (t : List Nat) (h : Heap) (r : Res) (C : Heap → Res → Prop) : Prop where
  out : Out t h r.h
  cnt : r.h.cnt = h.cnt
  bx : ∀ b ∈ r.bx, b.1.1 ∈ t
  fz : ∀ i ∈ r.fz, i.1 ∈ t
  too : ∀ h', Agree t h h' → ∃ h2, C h' ⟨r.v, h2, r.bx, r.fz⟩ ∧ Agree t r.h h2 ∧ Out t h' h2 ∧ h2.cnt = h'.cnt

theorem boxIdsA_worn {a b : Heap} (w : Worn a b) : ∀ (l : List V) (d : Nat), d ∈ boxIdsA b l → d ∈ boxIdsA a l
  | [], d, hd => hd
  | y :: l, d, hd => by
    simp only [boxIdsA, List.mem_append] at hd ⊢
    exact hd.imp (w.boxIds y) (boxIdsA_worn w l d)

section
variable {abi : Abi} {Γ : Nat → List V → V → List (List V) → Prop}

theorem called_loc {t : List Nat} {f : Nat} {xs : List V} {h : Heap} {r : Res} (hc : Called abi Γ f xs h r) (s : ∀ d ∈ idsL xs, d ∈ t) (s2 : ∀ d ∈ boxIdsA h xs, d ∈ t) :
    Local t h r (Called abi Γ f xs) := by
  obtain ⟨a1, h1, bs, a2, ids, v, outs, hp1, hp2, hΓ, hlen, rfl⟩ := hc
  obtain ⟨b1, b2, b0, b7, _⟩ := pass1_loc (abi f) xs h h _ (Agree.refl t h) s s2 hp1
  obtain ⟨q1, q2⟩ := pass1_ids _ _ _ _ hp1
  have sa : ∀ d ∈ idsL a1, d ∈ t := fun d hd => s d (q1 d hd)
  have sb : ∀ d ∈ boxIdsA h1 a1, d ∈ t := fun d hd => s2 d (boxIdsA_worn b0 xs d (q2 h1 d hd))
  refine ⟨b1, b2, ?_, ?_, ?_⟩
  · rintro ⟨i, row⟩ hb
    exact b7 i (List.of_mem_zip hb).1
  · intro i hi
    have hi2 : i ∈ ids := by
      show i ∈ ids
      have hi : i ∈ (if ids.isEmpty then [] else if shows v || showsR outs then ids else []) := hi
      split at hi
      · cases hi
      · split at hi
        · exact hi
        · cases hi
    rcases pass2_ids _ _ _ hp2 i hi2 with q | q
    · exact sa _ q
    · exact sb _ q
  · intro h' k
    obtain ⟨_, _, _, _, h2, p1, p2, p3, p4⟩ := pass1_loc (abi f) xs h h' _ k s s2 hp1
    refine ⟨h2, ⟨a1, h2, bs, a2, ids, v, outs, p1, ?_, hΓ, hlen, rfl⟩, p2, p3, p4⟩
    rw [pass2_loc p2 (abi f) a1 sa sb]
    exact hp2

theorem pass1_lends : ∀ (ms : List Mode) (xs : List V) (h : Heap) (r : List V × Heap × Ids), ms.all (· == .lend) = true → pass1 ms xs h = some r → r.2.1 = h ∧ r.2.2 = []
  | ms, [], h, r, _, e => by simp only [pass1, Option.some.injEq] at e; subst e; exact ⟨rfl, rfl⟩
  | ms, x :: xs, h, r, a, e => by
    have hm : ms.headD .lend = .lend := by
      cases ms with
      | nil => rfl
      | cons m ms => simp only [List.all_cons, Bool.and_eq_true, beq_iff_eq] at a; exact a.1
    have ht : ms.tail.all (· == .lend) = true := by
      cases ms with
      | nil => rfl
      | cons m ms => simp only [List.all_cons, Bool.and_eq_true] at a; exact a.2
    simp only [pass1, hm, Option.map_eq_some_iff] at e
    obtain ⟨z, hz, rfl⟩ := e
    exact pass1_lends ms.tail xs h z ht hz

theorem rowAt_loc {t : List Nat} {h h' : Heap} (k : Agree t h h') (x : V) (s : ∀ d ∈ idsV x, d ∈ t) : rowAt h' x = rowAt h x := by
  cases x <;> simp only [rowAt]
  rename_i d v j _ _
  rw [k d (s d (by simp [idsV])) v j]
theorem rowsOf_loc {t : List Nat} {h h' : Heap} (k : Agree t h h') (x : V) (s : ∀ d ∈ idsV x, d ∈ t) : rowsOf h' x = rowsOf h x := by
  cases x <;> simp only [rowsOf]
  rename_i d v j _ _
  rw [k d (s d (by simp [idsV])) v j]
theorem fillR_loc {t : List Nat} {h h' : Heap} (k : Agree t h h') (n : Nat) : ∀ (l : List (Nat × V)) (rows : List (List V)), (∀ d ∈ idsL (l.map (·.2)), d ∈ t) → fillR h' n rows l = fillR h n rows l
  | [], rows, _ => rfl
  | (i, v) :: rest, rows, s => by
    simp only [fillR]
    have sv : ∀ d ∈ idsL v.cells, d ∈ t := by
      intro d hd
      refine s d ?_
      simp only [List.map_cons, idsL, List.mem_append]
      left
      cases v <;> simp only [V.cells, idsL, List.append_nil] at hd <;> exact hd
    rw [lendL_loc k v.cells sv]
    split
    · rfl
    · rename_i y hy
      rw [fillR_loc k n rest _ (fun d hd => s d (by simp only [List.map_cons, idsL, List.mem_append]; exact .inr hd))]
theorem sliceV_loc {t : List Nat} {h h' : Heap} (k : Agree t h h') (n : Nat) (x : V) (lo hi : Option V) (s : ∀ d ∈ idsV x, d ∈ t) : sliceV n h' x lo hi = sliceV n h x lo hi := by
  have hgo : ∀ a b, sliceV.go n h' x a b = sliceV.go n h x a b := by
    intro a b
    cases x <;> simp only [sliceV.go]
    rename_i d v j _ _
    rw [k d (s d (by simp [idsV])) v j]
  unfold sliceV
  simp only [hgo]

theorem idsL_zip {places : List Nat} {xs : List V} (h : xs.length = places.length) : (places.zip xs).map (·.2) = xs := by
  rw [List.map_snd_zip]; omega

def K.r0 : K → Bool
  | .lit | .box _ | .zero _ | .build _ _ | .buildSl _ _ _ _ | .load _ | .iaddr _ | .slice _ _ _ | .mkmap | .mkslice _ _ | .lookup _ _ _ _ | .capE => true
  | _ => false


theorem comp_loc {t : List Nat} {k : K} (hk : k.r0 = true) (xs : List V) (h : Heap) (s : ∀ d ∈ touch k xs h, d ∈ t) :
    (∀ r, comp k xs h = some r → r.h = h ∧ r.bx = []) ∧ ∀ h', Agree t h h' → comp k xs h' = (comp k xs h).map (fun r => ⟨r.v, h', [], r.fz⟩) := by
  cases k <;> simp only [K.r0, Bool.false_eq_true] at hk
  case lit =>
    rcases xs with _ | ⟨x, _ | ⟨y, ys⟩⟩
    · (first | (exact ⟨(by intro r hr; cases hr), fun _ _ => rfl⟩))
    · exact ⟨by simp only [comp]; (intro r hr; (repeat' split at hr) <;> first | (cases hr; done) | (cases hr; exact ⟨rfl, rfl⟩) | (simp only [Option.map_eq_some_iff] at hr; obtain ⟨a, _, e⟩ := hr; subst e; exact ⟨rfl, rfl⟩)), fun _ _ => rfl⟩
    · (first | (exact ⟨(by intro r hr; cases hr), fun _ _ => rfl⟩))
  case mkmap =>
    rcases xs with _ | ⟨x, ys⟩
    · exact ⟨by simp only [comp]; (intro r hr; (repeat' split at hr) <;> first | (cases hr; done) | (cases hr; exact ⟨rfl, rfl⟩) | (simp only [Option.map_eq_some_iff] at hr; obtain ⟨a, _, e⟩ := hr; subst e; exact ⟨rfl, rfl⟩)), fun _ _ => rfl⟩
    · (first | (exact ⟨(by intro r hr; cases hr), fun _ _ => rfl⟩))
  case box =>
    rcases xs with _ | ⟨x, _ | ⟨y, ys⟩⟩
    · (first | (exact ⟨(by intro r hr; cases hr), fun _ _ => rfl⟩))
    · exact ⟨by simp only [comp]; (intro r hr; (repeat' split at hr) <;> first | (cases hr; done) | (cases hr; exact ⟨rfl, rfl⟩) | (simp only [Option.map_eq_some_iff] at hr; obtain ⟨a, _, e⟩ := hr; subst e; exact ⟨rfl, rfl⟩)), fun _ _ => by simp only [comp]; split <;> rfl⟩
    · (first | (exact ⟨(by intro r hr; cases hr), fun _ _ => rfl⟩))
  case zero =>
    rcases xs with _ | ⟨x, ys⟩
    · exact ⟨by simp only [comp]; (intro r hr; (repeat' split at hr) <;> first | (cases hr; done) | (cases hr; exact ⟨rfl, rfl⟩) | (simp only [Option.map_eq_some_iff] at hr; obtain ⟨a, _, e⟩ := hr; subst e; exact ⟨rfl, rfl⟩)), fun _ _ => by simp only [comp]; split <;> rfl⟩
    · (first | (exact ⟨(by intro r hr; cases hr), fun _ _ => rfl⟩))
  case build =>
    refine ⟨by simp only [comp]; (intro r hr; (repeat' split at hr) <;> first | (cases hr; done) | (cases hr; exact ⟨rfl, rfl⟩) | (simp only [Option.map_eq_some_iff] at hr; obtain ⟨a, _, e⟩ := hr; subst e; exact ⟨rfl, rfl⟩)), fun h' _ => ?_⟩
    simp only [comp]
    split
    · simp only [Option.map_map]; rfl
    · rfl
  case buildSl n z len p =>
    refine ⟨by simp only [comp]; (intro r hr; (repeat' split at hr) <;> first | (cases hr; done) | (cases hr; exact ⟨rfl, rfl⟩) | (simp only [Option.map_eq_some_iff] at hr; obtain ⟨a, _, e⟩ := hr; subst e; exact ⟨rfl, rfl⟩)), fun h' ag => ?_⟩
    simp only [comp]
    split
    · rename_i hc
      rw [fillR_loc ag _ _ _ (fun d hd => s d (by rw [idsL_zip hc.1] at hd; simpa [touch, K.n] using hd))]
      simp only [Option.map_map]
      rfl
    · rfl
  case load =>
    rcases xs with _ | ⟨x, _ | ⟨y, ys⟩⟩
    · (first | (exact ⟨(by intro r hr; cases hr), fun _ _ => rfl⟩))
    · refine ⟨by simp only [comp]; (intro r hr; (repeat' split at hr) <;> first | (cases hr; done) | (cases hr; exact ⟨rfl, rfl⟩) | (simp only [Option.map_eq_some_iff] at hr; obtain ⟨a, _, e⟩ := hr; subst e; exact ⟨rfl, rfl⟩)), fun h' ag => ?_⟩
      simp only [comp]
      rw [rowAt_loc ag x (fun d hd => s d (by simpa [touch, K.n, idsL] using hd))]
      split
      · simp only [Option.map_map]; rfl
      · rfl
    · (first | (exact ⟨(by intro r hr; cases hr), fun _ _ => rfl⟩))
  case iaddr =>
    rcases xs with _ | ⟨x, _ | ⟨y, _ | ⟨z, ys⟩⟩⟩
    · (first | (exact ⟨(by intro r hr; cases hr), fun _ _ => rfl⟩))
    · (first | (exact ⟨(by intro r hr; cases hr), fun _ _ => rfl⟩))
    · cases y
      case int ik i =>
        cases x
        case own d v j fr len =>
          refine ⟨by simp only [comp]; (intro r hr; (repeat' split at hr) <;> first | (cases hr; done) | (cases hr; exact ⟨rfl, rfl⟩) | (simp only [Option.map_eq_some_iff] at hr; obtain ⟨a, _, e⟩ := hr; subst e; exact ⟨rfl, rfl⟩)), fun h' ag => ?_⟩
          simp only [comp]
          rw [ag d (s d (by simp [touch, K.n, idsL, idsV])) v j]
          (repeat' split) <;> first | rfl | simp_all
        case sl rows =>
          refine ⟨by simp only [comp]; (intro r hr; (repeat' split at hr) <;> first | (cases hr; done) | (cases hr; exact ⟨rfl, rfl⟩) | (simp only [Option.map_eq_some_iff] at hr; obtain ⟨a, _, e⟩ := hr; subst e; exact ⟨rfl, rfl⟩)), fun h' ag => ?_⟩
          simp only [comp]
          (repeat' split) <;> first | rfl | simp_all
        all_goals (first | (exact ⟨(by intro r hr; cases hr), fun _ _ => rfl⟩))
      all_goals (first | (exact ⟨(by intro r hr; cases hr), fun _ _ => rfl⟩))
    · cases y <;> (first | (exact ⟨(by intro r hr; cases hr), fun _ _ => rfl⟩))
  case slice n lo hi =>
    cases lo <;> cases hi
    · rcases xs with _ | ⟨x, _ | ⟨y, ys⟩⟩
      · (first | (exact ⟨(by intro r hr; cases hr), fun _ _ => rfl⟩))
      · refine ⟨by simp only [comp]; (intro r hr; (repeat' split at hr) <;> first | (cases hr; done) | (cases hr; exact ⟨rfl, rfl⟩) | (simp only [Option.map_eq_some_iff] at hr; obtain ⟨a, _, e⟩ := hr; subst e; exact ⟨rfl, rfl⟩)), fun h' ag => ?_⟩
        simp only [comp]
        rw [sliceV_loc ag _ _ _ _ (fun d hd => s d (by simp [touch, K.n, idsL, hd]))]; simp only [Option.map_map]; rfl
      · (first | (exact ⟨(by intro r hr; cases hr), fun _ _ => rfl⟩))
    · rcases xs with _ | ⟨x, _ | ⟨y, _ | ⟨z, ys⟩⟩⟩
      · (first | (exact ⟨(by intro r hr; cases hr), fun _ _ => rfl⟩))
      · (first | (exact ⟨(by intro r hr; cases hr), fun _ _ => rfl⟩))
      · refine ⟨by simp only [comp]; (intro r hr; (repeat' split at hr) <;> first | (cases hr; done) | (cases hr; exact ⟨rfl, rfl⟩) | (simp only [Option.map_eq_some_iff] at hr; obtain ⟨a, _, e⟩ := hr; subst e; exact ⟨rfl, rfl⟩)), fun h' ag => ?_⟩
        simp only [comp]
        rw [sliceV_loc ag _ _ _ _ (fun d hd => s d (by simp [touch, K.n, idsL, hd]))]; simp only [Option.map_map]; rfl
      · (first | (exact ⟨(by intro r hr; cases hr), fun _ _ => rfl⟩))
    · rcases xs with _ | ⟨x, _ | ⟨y, _ | ⟨z, ys⟩⟩⟩
      · (first | (exact ⟨(by intro r hr; cases hr), fun _ _ => rfl⟩))
      · (first | (exact ⟨(by intro r hr; cases hr), fun _ _ => rfl⟩))
      · refine ⟨by simp only [comp]; (intro r hr; (repeat' split at hr) <;> first | (cases hr; done) | (cases hr; exact ⟨rfl, rfl⟩) | (simp only [Option.map_eq_some_iff] at hr; obtain ⟨a, _, e⟩ := hr; subst e; exact ⟨rfl, rfl⟩)), fun h' ag => ?_⟩
        simp only [comp]
        rw [sliceV_loc ag _ _ _ _ (fun d hd => s d (by simp [touch, K.n, idsL, hd]))]; simp only [Option.map_map]; rfl
      · (first | (exact ⟨(by intro r hr; cases hr), fun _ _ => rfl⟩))
    · rcases xs with _ | ⟨x, _ | ⟨y, _ | ⟨z, _ | ⟨u, ys⟩⟩⟩⟩
      · (first | (exact ⟨(by intro r hr; cases hr), fun _ _ => rfl⟩))
      · (first | (exact ⟨(by intro r hr; cases hr), fun _ _ => rfl⟩))
      · (first | (exact ⟨(by intro r hr; cases hr), fun _ _ => rfl⟩))
      · refine ⟨by simp only [comp]; (intro r hr; (repeat' split at hr) <;> first | (cases hr; done) | (cases hr; exact ⟨rfl, rfl⟩) | (simp only [Option.map_eq_some_iff] at hr; obtain ⟨a, _, e⟩ := hr; subst e; exact ⟨rfl, rfl⟩)), fun h' ag => ?_⟩
        simp only [comp]
        rw [sliceV_loc ag _ _ _ _ (fun d hd => s d (by simp [touch, K.n, idsL, hd]))]; simp only [Option.map_map]; rfl
      · (first | (exact ⟨(by intro r hr; cases hr), fun _ _ => rfl⟩))
  case capE =>
    rcases xs with _ | ⟨x, _ | ⟨y, ys⟩⟩
    · exact ⟨(by intro r hr; cases hr), fun _ _ => rfl⟩
    · simp only [comp]
      constructor
      · intro r hr
        split at hr
        · cases hr; exact ⟨rfl, rfl⟩
        · cases hr
      · intro h' k
        have e : noCap h' x = noCap h x := by
          cases x with
          | own d v j fr len => simp only [noCap]; rw [k d (s d (by simp [touch, K.n, idsL, idsV])) v j]
          | fresh rows => cases rows <;> rfl
          | _ => rfl
        rw [e]
        split <;> rfl
    · exact ⟨(by intro r hr; cases hr), fun _ _ => rfl⟩
  case mkslice zero bytes =>
    rcases xs with _ | ⟨x, _ | ⟨y, _ | ⟨z, zs⟩⟩⟩
    · exact ⟨(by intro r hr; cases hr), fun _ _ => rfl⟩
    · exact ⟨(by intro r hr; cases hr), fun _ _ => rfl⟩
    · simp only [comp]
      unfold mksliceV
      constructor
      · intro r hr
        split at hr
        · split at hr
          · cases hr; exact ⟨rfl, rfl⟩
          · cases hr
        · cases hr
      · intro h' _
        split
        · split <;> rfl
        · rfl
    · exact ⟨(by intro r hr; cases hr), fun _ _ => rfl⟩
  case lookup =>
    rcases xs with _ | ⟨x, _ | ⟨y, _ | ⟨z, ys⟩⟩⟩
    · (first | (exact ⟨(by intro r hr; cases hr), fun _ _ => rfl⟩))
    · cases x <;> (first | (exact ⟨(by intro r hr; cases hr), fun _ _ => rfl⟩))
    · cases x
      case map d v j =>
        refine ⟨by simp only [comp]; (intro r hr; (repeat' split at hr) <;> first | (cases hr; done) | (cases hr; exact ⟨rfl, rfl⟩) | (simp only [Option.map_eq_some_iff] at hr; obtain ⟨a, _, e⟩ := hr; subst e; exact ⟨rfl, rfl⟩)), fun h' ag => ?_⟩
        simp only [comp]
        rw [ag d (s d (by simp [touch, K.n, idsL, idsV])) v j]
        split
        · split
          · simp only [Option.map_map]; rfl
          · rfl
        · rfl
      all_goals (first | (exact ⟨(by intro r hr; cases hr), fun _ _ => rfl⟩))
    · cases x <;> (first | (exact ⟨(by intro r hr; cases hr), fun _ _ => rfl⟩))

/-- What changes nothing. -/
theorem r_loc {t : List Nat} {k : K} (hk : K.r abi k = true) {xs : List V} {h : Heap} {r : Res} (hr : Comes abi Γ k xs h r) (s : ∀ d ∈ touch k xs h, d ∈ t) :
    r.h = h ∧ r.bx = [] ∧ ∀ h', Agree t h h' → Comes abi Γ k xs h' ⟨r.v, h', [], r.fz⟩ := by
  cases k <;> simp only [K.r, Bool.false_eq_true] at hk
  case call f =>
    have hc : Called abi Γ f xs h r := hr
    simp only [touch, List.mem_append] at s
    have L := called_loc hc (t := t) (fun d hd => s d (.inl hd)) (fun d hd => s d (.inr hd))
    obtain ⟨a1, h1, bs, a2, ids, v, outs, hp1, hp2, hΓ, hlen, rfl⟩ := hc
    obtain ⟨e1, e2⟩ := pass1_lends _ _ _ _ hk hp1
    simp only at e1 e2
    subst e1 e2
    refine ⟨rfl, by simp, fun h' ag => ?_⟩
    obtain ⟨h2, c, a3, a4, a5⟩ := L.too h' ag
    have : h2 = h' := by
      refine Heap.ext' a5 (fun d v j => ?_)
      by_cases hd : d ∈ t
      · rw [a3 d hd v j, ag d hd v j]
      · exact a4 d hd v j
    subst this
    show Called abi Γ f xs h2 _
    simpa using c
  all_goals
    have e := comp_loc (t := t) rfl xs h s
    have hr' := hr
    simp only [Comes] at hr'
    refine ⟨(e.1 r hr').1, (e.1 r hr').2, fun h' ag => ?_⟩
    have e2 := e.2 h' ag
    rw [hr'] at e2
    exact e2

/-- The like, where less is written than is read. -/
structure Local2 (t tw : List Nat) (h : Heap) (r : Res) (C : Heap → Res → Prop) : Prop where
  out : Out tw h r.h
  cnt : r.h.cnt = h.cnt
  bx : ∀ b ∈ r.bx, b.1.1 ∈ tw
  fz : ∀ i ∈ r.fz, i.1 ∈ tw
  too : ∀ h', Agree t h h' → ∃ h2, C h' ⟨r.v, h2, r.bx, r.fz⟩ ∧ Agree tw r.h h2 ∧ Out tw h' h2 ∧ h2.cnt = h'.cnt

theorem Local.two {t tw : List Nat} {h : Heap} {r : Res} {C : Heap → Res → Prop} (L : Local tw h r C) (hs : ∀ d ∈ tw, d ∈ t) : Local2 t tw h r C :=
  ⟨L.out, L.cnt, L.bx, L.fz, fun h' ag => L.too h' (ag.sub hs)⟩

theorem app_loc {t tw : List Nat} {n bytes : Nat} {zero : List V} {x y : V} {h : Heap} {r : Res} (hr : appV n bytes zero x y h = some r) (sx : ∀ d ∈ idsV x, d ∈ tw) (hs : ∀ d ∈ tw, d ∈ t) (sy : ∀ d ∈ idsV y, d ∈ t) :
    Local2 t tw h r (fun h' r' => appV n bytes zero x y h' = some r') := by
  unfold appV at hr
  split at hr
  · cases hr
  · rename_i ys hys
    split at hr
    · cases hr
    · rename_i hc
      split at hr
      · split at hr
        · rename_i hl
          cases hr
          refine ⟨Out.refl _ _, rfl, by simp, by simp, fun h' ag => ⟨h', ?_, ag.sub hs, Out.refl _ _, rfl⟩⟩
          unfold appV
          rw [rowsOf_loc ag y sy, hys]
          simp only [if_neg hc, if_pos hl]
        · cases hr
      · split at hr
        · rename_i hl
          cases hr
          refine ⟨Out.refl _ _, rfl, by simp, by simp, fun h' ag => ⟨h', ?_, ag.sub hs, Out.refl _ _, rfl⟩⟩
          unfold appV
          rw [rowsOf_loc ag y sy, hys]
          simp only [if_neg hc, if_pos hl]
        · cases hr
      · rename_i d v j fr len
        have hd : d ∈ tw := sx d (by simp [idsV])
        split at hr
        · rename_i rr hb
          split at hr
          · rename_i h1
            split at hr
            · rename_i h2
              cases hr
              refine ⟨(Out.refl _ _).set hd, rfl, by simp, by simp, fun h' ag => ⟨h'.set d v j (.rows (rr.take (fr + len) ++ (ys ++ rr.drop (fr + len + ys.length)))), ?_, (ag.sub hs).set, (Out.refl _ _).set hd, rfl⟩⟩
              unfold appV
              rw [rowsOf_loc ag y sy, hys]
              simp only [if_neg hc, ag d (hs d hd) v j, hb, if_pos h1, if_pos h2]
            · rename_i h2
              split at hr
              · rename_i h3
                cases hr
                refine ⟨(Out.refl _ _).set hd, rfl, by simp, by simp, fun h' ag => ⟨h'.set d v j .dead, ?_, (ag.sub hs).set, (Out.refl _ _).set hd, rfl⟩⟩
                unfold appV
                rw [rowsOf_loc ag y sy, hys]
                simp only [if_neg hc, ag d (hs d hd) v j, hb, if_pos h1, if_neg h2, if_pos h3]
              · cases hr
          · cases hr
        · cases hr
      · cases hr

end
end Fo
