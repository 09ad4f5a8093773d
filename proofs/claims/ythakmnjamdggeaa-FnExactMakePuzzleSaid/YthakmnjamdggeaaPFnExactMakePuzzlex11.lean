/- Printed by a program of this session (wip/pp) over the kit's print, for FnExactMakePuzzle. No conditions beyond those that each theorem names. -/
import Derived.Test.YthakmnjamdggeaaPFnExactMakePuzzlex0
import Derived.Test.YthakmnjamdggeaaPFnExactMakePuzzlex1
import Derived.Test.YthakmnjamdggeaaPFnExactMakePuzzlex2
import Derived.Test.YthakmnjamdggeaaPFnExactMakePuzzlex6
import Derived.Test.YthakmnjamdggeaaPFnExactMakePuzzlex9
import Derived.Test.YthakmnjamdggeaaPFnExactMakePuzzlex10
namespace Go.Proofs.Ythakmnjamdggeaa.PFnExactMakePuzzle
open Go.RowKit Go.Proofs.YthakmnjamdggeaaW.PrintWords Go.Proofs.YthakmnjamdggeaaW.PrintLast Go.Proofs.YthakmnjamdggeaaW.PrintMore
attribute [local go_sem] max2_int min2_int max_two min_two max_three min_three max_four min_four   -- for this text's walks alone
set_option linter.unusedVariables false
set_option linter.unusedSimpArgs false

/-! ### laws_FnExactMakePuzzle: function 11 -/
mutual
def laws_FnExactMakePuzzle.j0 : Nat → Int → List (S76) → Int → Int → Bool → List (S74) → Bool → Bool → Int → Int → List (S31) → Int → Int → List (S31) → Option (Bool)
  | 0, _, _, _, _, _, _, _, _, _, _, _, _, _, _ => none
  | k + 1, x0, x1, x2, x3, x11, x12, x14, x52, x296000, x296001, x296002, x306000, x306001, x306002 => if x52 = true then (some false) else ((laws_toCallS.f k x1).bind fun t307 => ((laws_eqCallS.f k x12 t307).bind fun t310 => (if t310 = true then ((laws_markCallS.f k x12 1).bind fun bt311 => (if bt311.1 < 0 then (laws_FnExactMakePuzzle.j1 k x0 x1 x2 x3 x11 true x296000 x296001 x296002 x306000 x306001 x306002) else ((laws_eqPuzzle.f k x306000 x306001 x306002 x296000 x296001 x296002).bind fun t313 => (if t313 = true then (laws_FnExactMakePuzzle.j1 k x0 x1 x2 x3 x11 (x14 != x11) x296000 x296001 x296002 x306000 x306001 x306002) else (laws_FnExactMakePuzzle.j1 k x0 x1 x2 x3 x11 true x296000 x296001 x296002 x306000 x306001 x306002))))) else (some false))))
def laws_FnExactMakePuzzle.j1 : Nat → Int → List (S76) → Int → Int → Bool → Bool → Int → Int → List (S31) → Int → Int → List (S31) → Option (Bool)
  | 0, _, _, _, _, _, _, _, _, _, _, _, _ => none
  | k + 1, x0, x1, x2, x3, x11, x73, x296000, x296001, x296002, x306000, x306001, x306002 => if x73 = true then (some false) else ((laws_markPuzzle.f k x306000 x306001 x306002 1).bind fun bt314 => ((laws_heldPuzzle.f k x306000 x306001 bt314.2 1).bind fun t316 => (if t316 < 0 then (some false) else (if t316 = bt314.1 then ((laws_toCallS.f k x1).bind fun t317 => ((impl_MakePuzzle.f k x0 t317 x2 x3).bind fun bt320 => ((laws_eqPuzzle.f k bt320.1 bt320.2.1 bt320.2.2.1 x296000 x296001 x296002).bind fun t327 => (if t327 = true then (laws_FnExactMakePuzzle.j2 k bt314.1 (bt320.2.2.2 != x11) x306000 x306001 bt314.2) else (laws_FnExactMakePuzzle.j2 k bt314.1 true x306000 x306001 bt314.2))))) else (some false)))))
def laws_FnExactMakePuzzle.j2 : Nat → Int → Bool → Int → Int → List (S31) → Option (Bool)
  | 0, _, _, _, _, _ => none
  | k + 1, x16, x102, x306000, x306001, x306002 => if x102 = true then (some false) else ((laws_heldPuzzle.f k x306000 x306001 x306002 1).bind fun t328 => (if t328 < 0 then (some false) else (if t328 = x16 then (some true) else (some false))))
end
def laws_FnExactMakePuzzle.f (k : Nat) (a0 : Int) (l1 : List (S76)) (a2 : Int) (a3 : Int) : Option (Bool) := (laws_szCallS.f l1 1048576).bind fun t285 => (if t285 < 0 then (some true) else ((laws_toCallS.f k l1).bind fun t286 => ((spec_MakePuzzle.f k a0 t286 a2 a3).bind fun bt289 => ((laws_toCallS.f k l1).bind fun t296 => ((impl_MakePuzzle.f k a0 t296 a2 a3).bind fun bt299 => ((laws_eqPuzzle.f k bt299.1 bt299.2.1 bt299.2.2.1 bt289.1 bt289.2.1 bt289.2.2.1).bind fun t306 => (if t306 = true then (laws_FnExactMakePuzzle.j0 k a0 l1 a2 a3 bt289.2.2.2 t296 bt299.2.2.2 (bt299.2.2.2 != bt289.2.2.2) bt289.1 bt289.2.1 bt289.2.2.1 bt299.1 bt299.2.1 bt299.2.2.1) else (laws_FnExactMakePuzzle.j0 k a0 l1 a2 a3 bt289.2.2.2 t296 bt299.2.2.2 true bt289.1 bt289.2.1 bt289.2.2.1 bt299.1 bt299.2.1 bt299.2.2.1))))))))
theorem laws_FnExactMakePuzzle.mono_l : ∀ k, (∀ y0 y1 y2 y3 y4 y5 y6 y7 y8 y9 y10 y11 y12 y13, LeO (laws_FnExactMakePuzzle.j0 k y0 y1 y2 y3 y4 y5 y6 y7 y8 y9 y10 y11 y12 y13) (laws_FnExactMakePuzzle.j0 (k + 1) y0 y1 y2 y3 y4 y5 y6 y7 y8 y9 y10 y11 y12 y13)) ∧ (∀ y0 y1 y2 y3 y4 y5 y6 y7 y8 y9 y10 y11, LeO (laws_FnExactMakePuzzle.j1 k y0 y1 y2 y3 y4 y5 y6 y7 y8 y9 y10 y11) (laws_FnExactMakePuzzle.j1 (k + 1) y0 y1 y2 y3 y4 y5 y6 y7 y8 y9 y10 y11)) ∧ (∀ y0 y1 y2 y3 y4, LeO (laws_FnExactMakePuzzle.j2 k y0 y1 y2 y3 y4) (laws_FnExactMakePuzzle.j2 (k + 1) y0 y1 y2 y3 y4))
  | 0 => ⟨fun _ _ _ _ _ _ _ _ _ _ _ _ _ _ r h => by simp [laws_FnExactMakePuzzle.j0] at h, fun _ _ _ _ _ _ _ _ _ _ _ _ r h => by simp [laws_FnExactMakePuzzle.j1] at h, fun _ _ _ _ _ r h => by simp [laws_FnExactMakePuzzle.j2] at h⟩
  | k + 1 => by
    obtain ⟨ih0, ih1, ih2⟩ := laws_FnExactMakePuzzle.mono_l k
    refine ⟨?_, ?_, ?_⟩
    · intro y0 y1 y2 y3 y4 y5 y6 y7 y8 y9 y10 y11 y12 y13
      unfold laws_FnExactMakePuzzle.j0
      repeat' first
      | (with_reducible exact ih0 _ _ _ _ _ _ _ _ _ _ _ _ _ _)
      | (with_reducible exact ih1 _ _ _ _ _ _ _ _ _ _ _ _)
      | (with_reducible exact ih2 _ _ _ _ _)
      | (with_reducible exact impl_MakePuzzle.mono _ _ _ _ _)
      | (with_reducible exact laws_eqCallS.mono _ _ _)
      | (with_reducible exact laws_eqPuzzle.mono _ _ _ _ _ _ _)
      | (with_reducible exact laws_heldPuzzle.mono _ _ _ _ _)
      | (with_reducible exact laws_markCallS.mono _ _ _)
      | (with_reducible exact laws_markPuzzle.mono _ _ _ _ _)
      | (with_reducible exact laws_toCallS.mono _ _)
      | (with_reducible exact spec_MakePuzzle.mono _ _ _ _ _)
      | (with_reducible exact LeO.refl _)
      | (with_reducible exact LeO.none _)
      | (with_reducible refine LeO.ite ?_ ?_)
      | (with_reducible refine LeO.bind ?_ (fun _ => ?_))
      | exact ih0 _ _ _ _ _ _ _ _ _ _ _ _ _ _
      | exact ih1 _ _ _ _ _ _ _ _ _ _ _ _
      | exact ih2 _ _ _ _ _
      | exact impl_MakePuzzle.mono _ _ _ _ _
      | exact laws_eqCallS.mono _ _ _
      | exact laws_eqPuzzle.mono _ _ _ _ _ _ _
      | exact laws_heldPuzzle.mono _ _ _ _ _
      | exact laws_markCallS.mono _ _ _
      | exact laws_markPuzzle.mono _ _ _ _ _
      | exact laws_toCallS.mono _ _
      | exact spec_MakePuzzle.mono _ _ _ _ _
      | exact LeO.none _
      | refine LeO.ite ?_ ?_
      | refine LeO.bind ?_ (fun _ => ?_)
    · intro y0 y1 y2 y3 y4 y5 y6 y7 y8 y9 y10 y11
      unfold laws_FnExactMakePuzzle.j1
      repeat' first
      | (with_reducible exact ih0 _ _ _ _ _ _ _ _ _ _ _ _ _ _)
      | (with_reducible exact ih1 _ _ _ _ _ _ _ _ _ _ _ _)
      | (with_reducible exact ih2 _ _ _ _ _)
      | (with_reducible exact impl_MakePuzzle.mono _ _ _ _ _)
      | (with_reducible exact laws_eqCallS.mono _ _ _)
      | (with_reducible exact laws_eqPuzzle.mono _ _ _ _ _ _ _)
      | (with_reducible exact laws_heldPuzzle.mono _ _ _ _ _)
      | (with_reducible exact laws_markCallS.mono _ _ _)
      | (with_reducible exact laws_markPuzzle.mono _ _ _ _ _)
      | (with_reducible exact laws_toCallS.mono _ _)
      | (with_reducible exact spec_MakePuzzle.mono _ _ _ _ _)
      | (with_reducible exact LeO.refl _)
      | (with_reducible exact LeO.none _)
      | (with_reducible refine LeO.ite ?_ ?_)
      | (with_reducible refine LeO.bind ?_ (fun _ => ?_))
      | exact ih0 _ _ _ _ _ _ _ _ _ _ _ _ _ _
      | exact ih1 _ _ _ _ _ _ _ _ _ _ _ _
      | exact ih2 _ _ _ _ _
      | exact impl_MakePuzzle.mono _ _ _ _ _
      | exact laws_eqCallS.mono _ _ _
      | exact laws_eqPuzzle.mono _ _ _ _ _ _ _
      | exact laws_heldPuzzle.mono _ _ _ _ _
      | exact laws_markCallS.mono _ _ _
      | exact laws_markPuzzle.mono _ _ _ _ _
      | exact laws_toCallS.mono _ _
      | exact spec_MakePuzzle.mono _ _ _ _ _
      | exact LeO.none _
      | refine LeO.ite ?_ ?_
      | refine LeO.bind ?_ (fun _ => ?_)
    · intro y0 y1 y2 y3 y4
      unfold laws_FnExactMakePuzzle.j2
      repeat' first
      | (with_reducible exact ih0 _ _ _ _ _ _ _ _ _ _ _ _ _ _)
      | (with_reducible exact ih1 _ _ _ _ _ _ _ _ _ _ _ _)
      | (with_reducible exact ih2 _ _ _ _ _)
      | (with_reducible exact impl_MakePuzzle.mono _ _ _ _ _)
      | (with_reducible exact laws_eqCallS.mono _ _ _)
      | (with_reducible exact laws_eqPuzzle.mono _ _ _ _ _ _ _)
      | (with_reducible exact laws_heldPuzzle.mono _ _ _ _ _)
      | (with_reducible exact laws_markCallS.mono _ _ _)
      | (with_reducible exact laws_markPuzzle.mono _ _ _ _ _)
      | (with_reducible exact laws_toCallS.mono _ _)
      | (with_reducible exact spec_MakePuzzle.mono _ _ _ _ _)
      | (with_reducible exact LeO.refl _)
      | (with_reducible exact LeO.none _)
      | (with_reducible refine LeO.ite ?_ ?_)
      | (with_reducible refine LeO.bind ?_ (fun _ => ?_))
      | exact ih0 _ _ _ _ _ _ _ _ _ _ _ _ _ _
      | exact ih1 _ _ _ _ _ _ _ _ _ _ _ _
      | exact ih2 _ _ _ _ _
      | exact impl_MakePuzzle.mono _ _ _ _ _
      | exact laws_eqCallS.mono _ _ _
      | exact laws_eqPuzzle.mono _ _ _ _ _ _ _
      | exact laws_heldPuzzle.mono _ _ _ _ _
      | exact laws_markCallS.mono _ _ _
      | exact laws_markPuzzle.mono _ _ _ _ _
      | exact laws_toCallS.mono _ _
      | exact spec_MakePuzzle.mono _ _ _ _ _
      | exact LeO.none _
      | refine LeO.ite ?_ ?_
      | refine LeO.bind ?_ (fun _ => ?_)
theorem laws_FnExactMakePuzzle.mono : ∀ a0 a1 a2 a3 k, LeO (laws_FnExactMakePuzzle.f k a0 a1 a2 a3) (laws_FnExactMakePuzzle.f (k + 1) a0 a1 a2 a3) := by
  intro a0 a1 a2 a3 k
  obtain ⟨ih0, ih1, ih2⟩ := laws_FnExactMakePuzzle.mono_l k
  unfold laws_FnExactMakePuzzle.f
  repeat' first
      | (with_reducible exact ih0 _ _ _ _ _ _ _ _ _ _ _ _ _ _)
      | (with_reducible exact ih1 _ _ _ _ _ _ _ _ _ _ _ _)
      | (with_reducible exact ih2 _ _ _ _ _)
      | (with_reducible exact impl_MakePuzzle.mono _ _ _ _ _)
      | (with_reducible exact laws_eqCallS.mono _ _ _)
      | (with_reducible exact laws_eqPuzzle.mono _ _ _ _ _ _ _)
      | (with_reducible exact laws_heldPuzzle.mono _ _ _ _ _)
      | (with_reducible exact laws_markCallS.mono _ _ _)
      | (with_reducible exact laws_markPuzzle.mono _ _ _ _ _)
      | (with_reducible exact laws_toCallS.mono _ _)
      | (with_reducible exact spec_MakePuzzle.mono _ _ _ _ _)
      | (with_reducible exact LeO.refl _)
      | (with_reducible exact LeO.none _)
      | (with_reducible refine LeO.ite ?_ ?_)
      | (with_reducible refine LeO.bind ?_ (fun _ => ?_))
      | exact ih0 _ _ _ _ _ _ _ _ _ _ _ _ _ _
      | exact ih1 _ _ _ _ _ _ _ _ _ _ _ _
      | exact ih2 _ _ _ _ _
      | exact impl_MakePuzzle.mono _ _ _ _ _
      | exact laws_eqCallS.mono _ _ _
      | exact laws_eqPuzzle.mono _ _ _ _ _ _ _
      | exact laws_heldPuzzle.mono _ _ _ _ _
      | exact laws_markCallS.mono _ _ _
      | exact laws_markPuzzle.mono _ _ _ _ _
      | exact laws_toCallS.mono _ _
      | exact spec_MakePuzzle.mono _ _ _ _ _
      | exact LeO.none _
      | refine LeO.ite ?_ ?_
      | refine LeO.bind ?_ (fun _ => ?_)
theorem laws_FnExactMakePuzzle.j0_no (k : Nat) (y0 : _) (y1 : _) (y2 : _) (y3 : _) (y4 : _) (y5 : _) (y6 : _) (y8 : _) (y9 : _) (y10 : _) (y11 : _) (y12 : _) (y13 : _) : laws_FnExactMakePuzzle.j0 k y0 y1 y2 y3 y4 y5 y6 true y8 y9 y10 y11 y12 y13 ≠ some true := by cases k <;> simp [laws_FnExactMakePuzzle.j0]
theorem laws_FnExactMakePuzzle.j1_no (k : Nat) (y0 : _) (y1 : _) (y2 : _) (y3 : _) (y4 : _) (y6 : _) (y7 : _) (y8 : _) (y9 : _) (y10 : _) (y11 : _) : laws_FnExactMakePuzzle.j1 k y0 y1 y2 y3 y4 true y6 y7 y8 y9 y10 y11 ≠ some true := by cases k <;> simp [laws_FnExactMakePuzzle.j1]
theorem laws_FnExactMakePuzzle.j2_no (k : Nat) (y0 : _) (y2 : _) (y3 : _) (y4 : _) : laws_FnExactMakePuzzle.j2 k y0 true y2 y3 y4 ≠ some true := by cases k <;> simp [laws_FnExactMakePuzzle.j2]
set_option maxHeartbeats 8000000 in
set_option maxRecDepth 100000 in
theorem laws_FnExactMakePuzzle.calls (k : Nat) (a0 : Int) (A1 : Option Addr) (c1 : Nat) (l1 : List (S76)) (a2 : Int) (a3 : Int) (r : Bool) (w : World) (hr1 : Kd.C k76 w A1 l1.length l1) (hc1 : l1.length ≤ c1) (rT : r = true) (h : laws_FnExactMakePuzzle.f k a0 l1 a2 a3 = some r) :
    Calls Try.prog 11 #[.int .i64 a0, .slice A1 l1.length c1, .int .i64 a2, .int .i64 a3] w fun e w' => e = .returned (.bool r) ∧ Below w.heap.size w w' := by
  have hu44 := Try.underlying44
  have HR1 := Aside0.mk hr1
  have HC1 := Aside0.mk hc1
  clear hr1 hc1
  have HB := Aside0.mk (Below.refl w.heap.size w)
  have H : ((laws_szCallS.f l1 1048576).bind fun t285 => (if t285 < 0 then (some true) else ((laws_toCallS.f k l1).bind fun t286 => ((spec_MakePuzzle.f k a0 t286 a2 a3).bind fun bt289 => ((laws_toCallS.f k l1).bind fun t296 => ((impl_MakePuzzle.f k a0 t296 a2 a3).bind fun bt299 => ((laws_eqPuzzle.f k bt299.1 bt299.2.1 bt299.2.2.1 bt289.1 bt289.2.1 bt289.2.2.1).bind fun t306 => (if t306 = true then (laws_FnExactMakePuzzle.j0 k a0 l1 a2 a3 bt289.2.2.2 t296 bt299.2.2.2 (bt299.2.2.2 != bt289.2.2.2) bt289.1 bt289.2.1 bt289.2.2.1 bt299.1 bt299.2.1 bt299.2.2.1) else (laws_FnExactMakePuzzle.j0 k a0 l1 a2 a3 bt289.2.2.2 t296 bt299.2.2.2 true bt289.1 bt289.2.1 bt289.2.2.1 bt299.1 bt299.2.1 bt299.2.2.1))))))))) = some r := h
  clear h
  replace H := Option.bind_eq_some_iff.mp H
  obtain ⟨t285, A50, H⟩ := H
  replace H : (if t285 < 0 then (some true) else ((laws_toCallS.f k l1).bind fun t286 => ((spec_MakePuzzle.f k a0 t286 a2 a3).bind fun bt289 => ((laws_toCallS.f k l1).bind fun t296 => ((impl_MakePuzzle.f k a0 t296 a2 a3).bind fun bt299 => ((laws_eqPuzzle.f k bt299.1 bt299.2.1 bt299.2.2.1 bt289.1 bt289.2.1 bt289.2.2.1).bind fun t306 => (if t306 = true then (laws_FnExactMakePuzzle.j0 k a0 l1 a2 a3 bt289.2.2.2 t296 bt299.2.2.2 (bt299.2.2.2 != bt289.2.2.2) bt289.1 bt289.2.1 bt289.2.2.1 bt299.1 bt299.2.1 bt299.2.2.1) else (laws_FnExactMakePuzzle.j0 k a0 l1 a2 a3 bt289.2.2.2 t296 bt299.2.2.2 true bt289.1 bt289.2.1 bt289.2.2.1 bt299.1 bt299.2.1 bt299.2.2.1)))))))) = some r := H
  have A5 := Aside0.mk A50
  clear A50
  by_cases c6 : t285 < 0
  · rw [if_pos c6] at H
    have c6b0 : decide (t285 < 0) = true := decide_eq_true c6
    clear c6
    obtain rfl := Option.some.inj H
    go_enter Try.func11, Try.ntmps11
    go_wp2_with (first | ((with_reducible refine gate_callee (f := 14) rfl ?_); refine goesL_ (some 22) rfl rfl Try.func14 (by kernel_rfl) rfl #[.slice A1 l1.length c1, .int .i64 1048576] rfl (by (try simp only [List.map_toArray, List.map_cons, List.map_nil]); first | done | rfl | (simp only [List.length_drop, List.length_take]; rfl)) ?_; (with_reducible refine (laws_szCallS.calls _ _ l1 1048576 t285 _ ?side1 ?side2 A5.out).mono ?_); (case side1 => repeat (first | exact HR1.out | (with_reducible refine Kd.C_alloc ?_ _) | (with_reducible refine Kd.C_drewN ?_ _) | (with_reducible refine Kd.C_drew ?_))); (case side2 => exact HC1.out); rintro e w' ⟨rfl, ⟨nd, rfl⟩⟩; refine ⟨_, rfl, ?_⟩))
    go_ret
    exact ⟨by first | rfl | (simp [errW_none, errW_some] <;> rfl) | (simp [*, errW_none, errW_some] <;> rfl), by repeat (first | (with_reducible first | exact HB.out | apply below_alloc | apply pw_below_drewN | apply below_drew1) | exact HB.out)⟩
  · rw [if_neg c6] at H
    have c6b0 : decide (t285 < 0) = false := decide_eq_false c6
    clear c6
    replace H := Option.bind_eq_some_iff.mp H
    obtain ⟨t286, A70, H⟩ := H
    replace H : ((spec_MakePuzzle.f k a0 t286 a2 a3).bind fun bt289 => ((laws_toCallS.f k l1).bind fun t296 => ((impl_MakePuzzle.f k a0 t296 a2 a3).bind fun bt299 => ((laws_eqPuzzle.f k bt299.1 bt299.2.1 bt299.2.2.1 bt289.1 bt289.2.1 bt289.2.2.1).bind fun t306 => (if t306 = true then (laws_FnExactMakePuzzle.j0 k a0 l1 a2 a3 bt289.2.2.2 t296 bt299.2.2.2 (bt299.2.2.2 != bt289.2.2.2) bt289.1 bt289.2.1 bt289.2.2.1 bt299.1 bt299.2.1 bt299.2.2.1) else (laws_FnExactMakePuzzle.j0 k a0 l1 a2 a3 bt289.2.2.2 t296 bt299.2.2.2 true bt289.1 bt289.2.1 bt289.2.2.1 bt299.1 bt299.2.1 bt299.2.2.1)))))) = some r := H
    have A7 := Aside0.mk A70
    clear A70
    replace H := Option.bind_eq_some_iff.mp H
    obtain ⟨⟨t289, t290, t291, t294⟩, A80, H⟩ := H
    replace H : ((laws_toCallS.f k l1).bind fun t296 => ((impl_MakePuzzle.f k a0 t296 a2 a3).bind fun bt299 => ((laws_eqPuzzle.f k bt299.1 bt299.2.1 bt299.2.2.1 t289 t290 t291).bind fun t306 => (if t306 = true then (laws_FnExactMakePuzzle.j0 k a0 l1 a2 a3 t294 t296 bt299.2.2.2 (bt299.2.2.2 != t294) t289 t290 t291 bt299.1 bt299.2.1 bt299.2.2.1) else (laws_FnExactMakePuzzle.j0 k a0 l1 a2 a3 t294 t296 bt299.2.2.2 true t289 t290 t291 bt299.1 bt299.2.1 bt299.2.2.1))))) = some r := H
    have A8 := Aside0.mk A80
    clear A80
    replace H := Option.bind_eq_some_iff.mp H
    obtain ⟨t296, A90, H⟩ := H
    replace H : ((impl_MakePuzzle.f k a0 t296 a2 a3).bind fun bt299 => ((laws_eqPuzzle.f k bt299.1 bt299.2.1 bt299.2.2.1 t289 t290 t291).bind fun t306 => (if t306 = true then (laws_FnExactMakePuzzle.j0 k a0 l1 a2 a3 t294 t296 bt299.2.2.2 (bt299.2.2.2 != t294) t289 t290 t291 bt299.1 bt299.2.1 bt299.2.2.1) else (laws_FnExactMakePuzzle.j0 k a0 l1 a2 a3 t294 t296 bt299.2.2.2 true t289 t290 t291 bt299.1 bt299.2.1 bt299.2.2.1)))) = some r := H
    have A9 := Aside0.mk A90
    clear A90
    replace H := Option.bind_eq_some_iff.mp H
    obtain ⟨⟨t299, t300, t301, t304⟩, A100, H⟩ := H
    replace H : ((laws_eqPuzzle.f k t299 t300 t301 t289 t290 t291).bind fun t306 => (if t306 = true then (laws_FnExactMakePuzzle.j0 k a0 l1 a2 a3 t294 t296 t304 (t304 != t294) t289 t290 t291 t299 t300 t301) else (laws_FnExactMakePuzzle.j0 k a0 l1 a2 a3 t294 t296 t304 true t289 t290 t291 t299 t300 t301))) = some r := H
    have A10 := Aside0.mk A100
    clear A100
    have HC11 := Aside0.mk H
    clear H
    go_enter Try.func11, Try.ntmps11
    go_upto_region 8 with (first | ((with_reducible refine gate_callee (f := 14) rfl ?_); refine goesL_ (some 22) rfl rfl Try.func14 (by kernel_rfl) rfl #[.slice A1 l1.length c1, .int .i64 1048576] rfl (by (try simp only [List.map_toArray, List.map_cons, List.map_nil]); first | done | rfl | (simp only [List.length_drop, List.length_take]; rfl)) ?_; (with_reducible refine (laws_szCallS.calls _ _ l1 1048576 t285 _ ?side1 ?side2 A5.out).mono ?_); (case side1 => repeat (first | exact HR1.out | (with_reducible refine Kd.C_alloc ?_ _) | (with_reducible refine Kd.C_drewN ?_ _) | (with_reducible refine Kd.C_drew ?_))); (case side2 => exact HC1.out); rintro e w' ⟨rfl, ⟨nd, rfl⟩⟩; refine ⟨_, rfl, ?_⟩) | ((with_reducible refine gate_callee (f := 17) rfl ?_); refine goesL_ (some 28) rfl rfl Try.func17 (by kernel_rfl) rfl #[.slice A1 l1.length c1] rfl (by (try simp only [List.map_toArray, List.map_cons, List.map_nil]); first | done | rfl | (simp only [List.length_drop, List.length_take]; rfl)) ?_; (with_reducible refine (laws_toCallS.calls k _ _ l1 t286 _ ?side1 ?side2 A7.out).mono ?_); (case side1 => repeat (first | exact HR1.out | (with_reducible refine Kd.C_alloc ?_ _) | (with_reducible refine Kd.C_drewN ?_ _) | (with_reducible refine Kd.C_drew ?_))); (case side2 => exact HC1.out); rintro e w12 ⟨v287, rfl, ho0, hb⟩; refine ⟨_, rfl, ?_⟩; have n0_ := Aside0.mk (Kd.R_lower ho0 (below_size (by repeat (first | (with_reducible first | exact HB.out | apply below_alloc | apply pw_below_drewN | apply below_drew1) | exact HB.out)))); have n1_ := Aside0.mk (below_step (by repeat (first | (with_reducible first | exact HB.out | apply below_alloc | apply pw_below_drewN | apply below_drew1) | exact HB.out)) hb); clear HB; have HO288 := n0_; have HB := n1_; clear n0_ n1_; (try clear hb); (try clear hb2); (try clear hk); (try clear hi); (try clear ho0); obtain ⟨Ao13, co13, eo13⟩ := Kd.R_slice HO288.out; subst eo13) | ((with_reducible refine gate_callee (f := 44) rfl ?_); refine goesL_ (some 31) rfl rfl Try.func44 (by kernel_rfl) rfl #[.int .i64 a0, .slice Ao13 t286.length co13, .int .i64 a2, .int .i64 a3] rfl (by (try simp only [List.map_toArray, List.map_cons, List.map_nil]); first | done | rfl | (simp only [List.length_drop, List.length_take]; rfl)) ?_; (with_reducible refine (spec_MakePuzzle.calls k a0 _ _ t286 a2 a3 t289 t290 t291 t294 _ ?side1 ?side2 A8.out).mono ?_); (case side1 => repeat (first | exact (Kd.R_reads' HO288.out).2.2 | (with_reducible refine Kd.C_alloc ?_ _) | (with_reducible refine Kd.C_drewN ?_ _) | (with_reducible refine Kd.C_drew ?_))); (case side2 => exact (Kd.R_reads' HO288.out).2.1); rintro e w14 ⟨v292, rfl, ho0, hb⟩; refine ⟨_, rfl, ?_⟩; have n0_ := Aside0.mk (Kd.R_below (by (with_reducible repeat (first | apply Kd.R_alloc | apply Kd.R_drewN | apply Kd.R_drew)); exact HO288.out) hb); have n1_ := Aside0.mk (Kd.R_lower ho0 (below_size (by repeat (first | (with_reducible first | exact HB.out | apply below_alloc | apply pw_below_drewN | apply below_drew1) | exact HB.out)))); have n2_ := Aside0.mk (below_step (by repeat (first | (with_reducible first | exact HB.out | apply below_alloc | apply pw_below_drewN | apply below_drew1) | exact HB.out)) hb); clear HO288; clear HB; have HO288 := n0_; have HO293 := n1_; have HB := n2_; clear n0_ n1_ n2_; (try clear hb); (try clear hb2); (try clear hk); (try clear hi); (try clear ho0)) | ((with_reducible refine gate_dst (N := 10) rfl ?_); refine box_event ?hg (N := 10) ?hd (cs := #[.int .i64 0, .int .i64 0, .slice none 0 0]) (t := 44) ?hr ?_; (case hd => rfl); (case hg => rfl); (case hr => first | (go_simp; done) | (go_simp; rfl)); intro gb295 hg w15 hbox hb; have n0_ := Aside0.mk (Kd.R_below (by (with_reducible repeat (first | apply Kd.R_alloc | apply Kd.R_drewN | apply Kd.R_drew)); exact HO288.out) hb); have n1_ := Aside0.mk (Kd.R_below (by (with_reducible repeat (first | apply Kd.R_alloc | apply Kd.R_drewN | apply Kd.R_drew)); exact HO293.out) hb); have n2_ := Aside0.mk (below_step (by repeat (first | (with_reducible first | exact HB.out | apply below_alloc | apply pw_below_drewN | apply below_drew1) | exact HB.out)) hb); have n3_ := Aside0.mk (hbox); have n4_ := Aside0.mk ((by rw [hg]; exact (below_size (by repeat (first | (with_reducible first | exact HB.out | apply below_alloc | apply pw_below_drewN | apply below_drew1) | exact HB.out))) : w.heap.size ≤ gb295)); have n5_ := Aside0.mk ((by rw [hg]; exact (below_size (by repeat (first | (with_reducible first | exact HB.out | apply below_alloc | apply pw_below_drewN | apply below_drew1) | exact HB.out))) : w.heap.size ≤ gb295)); clear HO288; clear HO293; clear HB; have HO288 := n0_; have HO293 := n1_; have HB := n2_; have BK295 := n3_; have GW295 := n4_; have GE295 := n5_; clear n0_ n1_ n2_ n3_ n4_ n5_; clear hb hbox hg; have hcz16_0 : w15.cell? ⟨gb295, 0, none⟩ = some (.int .i64 0) := (blk_cell BK295.out 0).trans rfl; have hcz16_1 : w15.cell? ⟨gb295, 1, none⟩ = some (.int .i64 0) := (blk_cell BK295.out 1).trans rfl; have hcz16_2 : w15.cell? ⟨gb295, 2, none⟩ = some (.slice none 0 0) := (blk_cell BK295.out 2).trans rfl; have hfz16_0 := blk_frozen BK295.out 0; have hfz16_1 := blk_frozen BK295.out 1; have hfz16_2 := blk_frozen BK295.out 2; obtain ⟨Ao17, co17, eo17⟩ := Kd.R_slice HO293.out; subst eo17) | ((with_reducible refine gate_callee (f := 17) rfl ?_); refine goesL_ (some 35) rfl rfl Try.func17 (by kernel_rfl) rfl #[.slice A1 l1.length c1] rfl (by (try simp only [List.map_toArray, List.map_cons, List.map_nil]); first | done | rfl | (simp only [List.length_drop, List.length_take]; rfl)) ?_; (with_reducible refine (laws_toCallS.calls k _ _ l1 t296 _ ?side1 ?side2 A9.out).mono ?_); (case side1 => exact Kd.C_below HR1.out (by repeat (first | (with_reducible first | exact HB.out | apply below_alloc | apply pw_below_drewN | apply below_drew1 | refine below_set ?_ GE295.out) | exact HB.out))); (case side2 => exact HC1.out); rintro e w18 ⟨v297, rfl, ho0, hb⟩; refine ⟨_, rfl, ?_⟩; have n0_ := Aside0.mk (Kd.R_elder' (by (with_reducible repeat (first | apply Kd.R_alloc | apply Kd.R_drewN | apply Kd.R_drew)); exact (Kd.R_mono (Kd.R_far (p := ⟨gb295, 2, none⟩) (Kd.R_far (p := ⟨gb295, 1, none⟩) (Kd.R_far (p := ⟨gb295, 0, none⟩) (Kd.R_types HO288.out BK295.out (by decide)) (fun _ hk => hk.2) (.int .i64 t289)) (fun _ hk => hk.2) (.int .i64 t290)) (fun _ hk => hk.2) (.slice Ao17 t291.length co17)) (fun _ h_ => h_.1))) (Kd.R_base ho0) hb); have n1_ := Aside0.mk (Kd.R_below (by (with_reducible repeat (first | apply Kd.R_alloc | apply Kd.R_drewN | apply Kd.R_drew)); exact (Kd.R_mono (Kd.R_far (p := ⟨gb295, 2, none⟩) (Kd.R_far (p := ⟨gb295, 1, none⟩) (Kd.R_far (p := ⟨gb295, 0, none⟩) (Kd.R_types HO293.out BK295.out (by decide)) (fun _ hk => hk.2) (.int .i64 t289)) (fun _ hk => hk.2) (.int .i64 t290)) (fun _ hk => hk.2) (.slice Ao17 t291.length co17)) (fun _ h_ => h_.1))) hb); have n2_ := Aside0.mk (Kd.R_lower (Kd.R_new' ho0 (Kd.R_lt (by (with_reducible repeat (first | apply Kd.R_alloc | apply Kd.R_drewN | apply Kd.R_drew)); exact (Kd.R_mono (Kd.R_far (p := ⟨gb295, 2, none⟩) (Kd.R_far (p := ⟨gb295, 1, none⟩) (Kd.R_far (p := ⟨gb295, 0, none⟩) (Kd.R_types HO288.out BK295.out (by decide)) (fun _ hk => hk.2) (.int .i64 t289)) (fun _ hk => hk.2) (.int .i64 t290)) (fun _ hk => hk.2) (.slice Ao17 t291.length co17)) (fun _ h_ => h_.1))))) (below_size (by repeat (first | (with_reducible first | exact HB.out | apply below_alloc | apply pw_below_drewN | apply below_drew1 | refine below_set ?_ GE295.out) | exact HB.out)))); have n3_ := Aside0.mk (blk_below (g := gb295) (o := .cells #[.int .i64 t289, .int .i64 t290, .slice Ao17 t291.length co17] 44 (0, 0)) (by (with_reducible repeat (first | refine blk_drewN ?_ _ | refine blk_drew ?_ | refine blk_alloc ?_ _)); refine blk_put (cs := #[.int .i64 t289, .int .i64 t290, .slice none 0 0]) ?_ 2 _ rfl; (with_reducible repeat (first | refine blk_drewN ?_ _ | refine blk_drew ?_ | refine blk_alloc ?_ _)); refine blk_put (cs := #[.int .i64 t289, .int .i64 0, .slice none 0 0]) ?_ 1 _ rfl; (with_reducible repeat (first | refine blk_drewN ?_ _ | refine blk_drew ?_ | refine blk_alloc ?_ _)); refine blk_put (cs := #[.int .i64 0, .int .i64 0, .slice none 0 0]) ?_ 0 _ rfl; (with_reducible repeat (first | refine blk_drewN ?_ _ | refine blk_drew ?_ | refine blk_alloc ?_ _)); exact BK295.out) hb); have n4_ := Aside0.mk (below_step (by repeat (first | (with_reducible first | exact HB.out | apply below_alloc | apply pw_below_drewN | apply below_drew1 | refine below_set ?_ GE295.out) | exact HB.out)) hb); clear HO288; clear HO293; clear BK295; clear HB; have HO288 := n0_; have HO293 := n1_; have HO298 := n2_; have BK295 := n3_; have HB := n4_; clear n0_ n1_ n2_ n3_ n4_; (try clear hb); (try clear hb2); (try clear hk); (try clear hi); (try clear ho0); obtain ⟨Ao19, co19, eo19⟩ := Kd.R_slice HO298.out; subst eo19) | ((with_reducible refine gate_callee (f := 45) rfl ?_); refine goesL_ (some 41) rfl rfl Try.func45 (by kernel_rfl) rfl #[.int .i64 a0, .slice Ao19 t296.length co19, .int .i64 a2, .int .i64 a3] rfl (by (try simp only [List.map_toArray, List.map_cons, List.map_nil]); first | done | rfl | (simp only [List.length_drop, List.length_take]; rfl)) ?_; (with_reducible refine (impl_MakePuzzle.calls k a0 _ _ t296 a2 a3 t299 t300 t301 t304 _ ?side1 ?side2 A10.out).mono ?_); (case side1 => repeat (first | exact (Kd.R_reads' HO298.out).2.2 | (with_reducible refine Kd.C_alloc ?_ _) | (with_reducible refine Kd.C_drewN ?_ _) | (with_reducible refine Kd.C_drew ?_))); (case side2 => exact (Kd.R_reads' HO298.out).2.1); rintro e w20 ⟨v302, rfl, ho0, hb⟩; refine ⟨_, rfl, ?_⟩; have n0_ := Aside0.mk (Kd.R_below (by (with_reducible repeat (first | apply Kd.R_alloc | apply Kd.R_drewN | apply Kd.R_drew)); exact HO288.out) hb); have n1_ := Aside0.mk (Kd.R_elder' (by (with_reducible repeat (first | apply Kd.R_alloc | apply Kd.R_drewN | apply Kd.R_drew)); exact HO293.out) (Kd.R_base ho0) hb); have n2_ := Aside0.mk (Kd.R_below (by (with_reducible repeat (first | apply Kd.R_alloc | apply Kd.R_drewN | apply Kd.R_drew)); exact HO298.out) hb); have n3_ := Aside0.mk (Kd.R_lower (Kd.R_new' ho0 (Kd.R_lt (by (with_reducible repeat (first | apply Kd.R_alloc | apply Kd.R_drewN | apply Kd.R_drew)); exact HO293.out))) (below_size (by repeat (first | (with_reducible first | exact HB.out | apply below_alloc | apply pw_below_drewN | apply below_drew1 | refine below_set ?_ GE295.out) | exact HB.out)))); have n4_ := Aside0.mk (blk_below (g := gb295) (o := .cells #[.int .i64 t289, .int .i64 t290, .slice Ao17 t291.length co17] 44 (0, 0)) (by (with_reducible repeat (first | refine blk_drewN ?_ _ | refine blk_drew ?_ | refine blk_alloc ?_ _)); exact BK295.out) hb); have n5_ := Aside0.mk (below_step (by repeat (first | (with_reducible first | exact HB.out | apply below_alloc | apply pw_below_drewN | apply below_drew1 | refine below_set ?_ GE295.out) | exact HB.out)) hb); clear HO288; clear HO293; clear HO298; clear BK295; clear HB; have HO288 := n0_; have HO293 := n1_; have HO298 := n2_; have HO303 := n3_; have BK295 := n4_; have HB := n5_; clear n0_ n1_ n2_ n3_ n4_ n5_; (try clear hb); (try clear hb2); (try clear hk); (try clear hi); (try clear ho0)) | ((with_reducible refine gate_dst (N := 13) rfl ?_); refine box_event ?hg (N := 13) ?hd (cs := #[.int .i64 0, .int .i64 0, .slice none 0 0]) (t := 44) ?hr ?_; (case hd => rfl); (case hg => rfl); (case hr => first | (go_simp; done) | (go_simp; rfl)); intro gb305 hg w21 hbox hb; have n0_ := Aside0.mk (Kd.R_below (by (with_reducible repeat (first | apply Kd.R_alloc | apply Kd.R_drewN | apply Kd.R_drew)); exact HO288.out) hb); have n1_ := Aside0.mk (Kd.R_below (by (with_reducible repeat (first | apply Kd.R_alloc | apply Kd.R_drewN | apply Kd.R_drew)); exact HO293.out) hb); have n2_ := Aside0.mk (Kd.R_below (by (with_reducible repeat (first | apply Kd.R_alloc | apply Kd.R_drewN | apply Kd.R_drew)); exact HO298.out) hb); have n3_ := Aside0.mk (Kd.R_below (by (with_reducible repeat (first | apply Kd.R_alloc | apply Kd.R_drewN | apply Kd.R_drew)); exact HO303.out) hb); have n4_ := Aside0.mk (blk_below (g := gb295) (o := .cells #[.int .i64 t289, .int .i64 t290, .slice Ao17 t291.length co17] 44 (0, 0)) (by (with_reducible repeat (first | refine blk_drewN ?_ _ | refine blk_drew ?_ | refine blk_alloc ?_ _)); exact BK295.out) hb); have n5_ := Aside0.mk (below_step (by repeat (first | (with_reducible first | exact HB.out | apply below_alloc | apply pw_below_drewN | apply below_drew1 | refine below_set ?_ GE295.out) | exact HB.out)) hb); have n6_ := Aside0.mk (hbox); have n7_ := Aside0.mk ((by rw [hg]; exact (below_size (by repeat (first | (with_reducible first | exact HB.out | apply below_alloc | apply pw_below_drewN | apply below_drew1 | refine below_set ?_ GE295.out) | exact HB.out))) : w.heap.size ≤ gb305)); have n8_ := Aside0.mk ((by rw [hg]; exact (below_size (by repeat (first | (with_reducible first | exact HB.out | apply below_alloc | apply pw_below_drewN | apply below_drew1 | refine below_set ?_ GE295.out) | exact HB.out))) : w.heap.size ≤ gb305)); have n9_ := Aside0.mk ((by rw [hg]; exact Nat.ne_of_lt (blk_lt (g := gb295) (o := .cells #[.int .i64 t289, .int .i64 t290, .slice Ao17 t291.length co17] 44 (0, 0)) (by (with_reducible repeat (first | refine blk_drewN ?_ _ | refine blk_drew ?_ | refine blk_alloc ?_ _)); exact BK295.out)) : gb295 ≠ gb305)); have n10_ := Aside0.mk ((by rw [hg]; exact Nat.ne_of_gt (blk_lt (g := gb295) (o := .cells #[.int .i64 t289, .int .i64 t290, .slice Ao17 t291.length co17] 44 (0, 0)) (by (with_reducible repeat (first | refine blk_drewN ?_ _ | refine blk_drew ?_ | refine blk_alloc ?_ _)); exact BK295.out)) : gb305 ≠ gb295)); clear HO288; clear HO293; clear HO298; clear HO303; clear BK295; clear HB; have HO288 := n0_; have HO293 := n1_; have HO298 := n2_; have HO303 := n3_; have BK295 := n4_; have HB := n5_; have BK305 := n6_; have GW305 := n7_; have GE305 := n8_; have NB295_305 := n9_; have NB305_295 := n10_; clear n0_ n1_ n2_ n3_ n4_ n5_ n6_ n7_ n8_ n9_ n10_; clear hb hbox hg; have hnb22 := NB305_295.out; have hnc22 := NB295_305.out; have hcz23_0 : w21.cell? ⟨gb305, 0, none⟩ = some (.int .i64 0) := (blk_cell BK305.out 0).trans rfl; have hcz23_1 : w21.cell? ⟨gb305, 1, none⟩ = some (.int .i64 0) := (blk_cell BK305.out 1).trans rfl; have hcz23_2 : w21.cell? ⟨gb305, 2, none⟩ = some (.slice none 0 0) := (blk_cell BK305.out 2).trans rfl; have hfz23_0 := blk_frozen BK305.out 0; have hfz23_1 := blk_frozen BK305.out 1; have hfz23_2 := blk_frozen BK305.out 2; obtain ⟨Ao24, co24, eo24⟩ := Kd.R_slice HO303.out; subst eo24))
    (try simp only [Act.put, List.setIfInBounds_toArray, List.set_cons_zero, List.set_cons_succ])
    go_cut [52] (fun v52 wc => ∃ (kq : Nat) (x52_10 : Bool), v52 = .bool x52_10 ∧ Aside0 (laws_FnExactMakePuzzle.j0 kq a0 l1 a2 a3 t294 t296 t304 x52_10 t289 t290 t291 t299 t300 t301 = some r) ∧ Aside0 (kq ≤ k) ∧ Aside0 (Kd.R k74 74 wc w.heap.size (fun _ => True) (.slice Ao19 t296.length co19) t296) ∧ Aside0 (Kd.R k31 31 wc w.heap.size (fun k_ => some k_ ≠ ((.slice Ao24 t301.length co24) : Value).ownBlock) (.slice Ao17 t291.length co17) t291) ∧ Aside0 (Kd.R k31 31 wc w.heap.size (fun k_ => some k_ ≠ ((.slice Ao17 t291.length co17) : Value).ownBlock) (.slice Ao24 t301.length co24) t301) ∧ Aside0 (wc.heap[gb295]? = some (.cells #[.int .i64 t289, .int .i64 t290, (.slice Ao17 t291.length co17)] 44 (0, 0))) ∧ Aside0 (wc.heap[gb305]? = some (.cells #[.int .i64 t299, .int .i64 t300, (.slice Ao24 t301.length co24)] 44 (0, 0))) ∧ Aside0 (Below w.heap.size w wc))
    case first =>
      have H := HC11.out
      clear HC11
      replace H := Option.bind_eq_some_iff.mp H
      obtain ⟨t306, A250, H⟩ := H
      replace H : (if t306 = true then (laws_FnExactMakePuzzle.j0 k a0 l1 a2 a3 t294 t296 t304 (t304 != t294) t289 t290 t291 t299 t300 t301) else (laws_FnExactMakePuzzle.j0 k a0 l1 a2 a3 t294 t296 t304 true t289 t290 t291 t299 t300 t301)) = some r := H
      have A25 := Aside0.mk A250
      clear A250
      by_cases c26 : t306 = true
      · subst c26
        have H1 : (laws_FnExactMakePuzzle.j0 k a0 l1 a2 a3 t294 t296 t304 (t304 != t294) t289 t290 t291 t299 t300 t301) = some r := by rw [if_pos rfl] at H; exact H
        clear H
        have H := H1
        clear H1
        have H' := Aside0.mk H
        clear H
        have hnb27 := NB305_295.out
        have hnc27 := NB295_305.out
        have hcz28_0 : w21.cell? ⟨gb305, 0, none⟩ = some (.int .i64 0) := (blk_cell BK305.out 0).trans rfl
        have hcz28_1 : w21.cell? ⟨gb305, 1, none⟩ = some (.int .i64 0) := (blk_cell BK305.out 1).trans rfl
        have hcz28_2 : w21.cell? ⟨gb305, 2, none⟩ = some (.slice none 0 0) := (blk_cell BK305.out 2).trans rfl
        have hfz28_0 := blk_frozen BK305.out 0
        have hfz28_1 := blk_frozen BK305.out 1
        have hfz28_2 := blk_frozen BK305.out 2
        have hcz29_0 : w21.cell? ⟨gb295, 0, none⟩ = some (.int .i64 t289) := (blk_cell BK295.out 0).trans rfl
        have hcz29_1 : w21.cell? ⟨gb295, 1, none⟩ = some (.int .i64 t290) := (blk_cell BK295.out 1).trans rfl
        have hcz29_2 : w21.cell? ⟨gb295, 2, none⟩ = some (.slice Ao17 t291.length co17) := (blk_cell BK295.out 2).trans rfl
        have hfz29_0 := blk_frozen BK295.out 0
        have hfz29_1 := blk_frozen BK295.out 1
        have hfz29_2 := blk_frozen BK295.out 2
        go_wp2_with (first | ((with_reducible refine gate_callee (f := 24) rfl ?_); refine goesL_ (some 46) rfl rfl Try.func24 (by kernel_rfl) rfl #[.agg #[.int .i64 t299, .int .i64 t300, .slice Ao24 t301.length co24], .agg #[.int .i64 t289, .int .i64 t290, .slice Ao17 t291.length co17]] rfl (by (try simp only [List.map_toArray, List.map_cons, List.map_nil]); first | done | rfl | (simp only [List.length_drop, List.length_take]; rfl)) ?_; (with_reducible refine (laws_eqPuzzle.calls k t299 t300 _ _ t301 t289 t290 _ _ t291 true _ ?side1 ?side2 ?side3 ?side4 A25.out).mono ?_); (case side1 => refine (Kd.R_reads' (e := 31) (base := w.heap.size) (ok := fun k_ => (True ∧ some k_ ≠ (.slice Ao17 t291.length co17 : Value).ownBlock)) (n := t301.length) (c := co24) ?_).2.2; exact (by (with_reducible repeat (first | apply Kd.R_alloc | apply Kd.R_drewN | apply Kd.R_drew)); exact (Kd.R_mono (Kd.R_far (p := ⟨gb305, 2, none⟩) (Kd.R_far (p := ⟨gb305, 1, none⟩) (Kd.R_far (p := ⟨gb305, 0, none⟩) (Kd.R_types HO303.out BK305.out (by decide)) (fun _ hk => hk.2) (.int .i64 t299)) (fun _ hk => hk.2) (.int .i64 t300)) (fun _ hk => hk.2) (.slice Ao24 t301.length co24)) (fun _ h_ => h_.1)))); (case side2 => exact (Kd.R_reads' HO303.out).2.1); (case side3 => refine (Kd.R_reads' (e := 31) (base := w.heap.size) (ok := fun k_ => (True ∧ some k_ ≠ (.slice Ao24 t301.length co24 : Value).ownBlock)) (n := t291.length) (c := co17) ?_).2.2; exact (by (with_reducible repeat (first | apply Kd.R_alloc | apply Kd.R_drewN | apply Kd.R_drew)); exact (Kd.R_mono (Kd.R_far (p := ⟨gb305, 2, none⟩) (Kd.R_far (p := ⟨gb305, 1, none⟩) (Kd.R_far (p := ⟨gb305, 0, none⟩) (Kd.R_types HO293.out BK305.out (by decide)) (fun _ hk => hk.2) (.int .i64 t299)) (fun _ hk => hk.2) (.int .i64 t300)) (fun _ hk => hk.2) (.slice Ao24 t301.length co24)) (fun _ h_ => h_.1)))); (case side4 => exact (Kd.R_reads' HO293.out).2.1); rintro e w30 ⟨rfl, hb⟩; refine ⟨_, rfl, ?_⟩; have n0_ := Aside0.mk (Kd.R_below (by (with_reducible repeat (first | apply Kd.R_alloc | apply Kd.R_drewN | apply Kd.R_drew)); exact (Kd.R_mono (Kd.R_far (p := ⟨gb305, 2, none⟩) (Kd.R_far (p := ⟨gb305, 1, none⟩) (Kd.R_far (p := ⟨gb305, 0, none⟩) (Kd.R_types HO288.out BK305.out (by decide)) (fun _ hk => hk.2) (.int .i64 t299)) (fun _ hk => hk.2) (.int .i64 t300)) (fun _ hk => hk.2) (.slice Ao24 t301.length co24)) (fun _ h_ => h_.1))) hb); have n1_ := Aside0.mk (Kd.R_below (by (with_reducible repeat (first | apply Kd.R_alloc | apply Kd.R_drewN | apply Kd.R_drew)); exact (Kd.R_mono (Kd.R_far (p := ⟨gb305, 2, none⟩) (Kd.R_far (p := ⟨gb305, 1, none⟩) (Kd.R_far (p := ⟨gb305, 0, none⟩) (Kd.R_types HO293.out BK305.out (by decide)) (fun _ hk => hk.2) (.int .i64 t299)) (fun _ hk => hk.2) (.int .i64 t300)) (fun _ hk => hk.2) (.slice Ao24 t301.length co24)) (fun _ h_ => h_.1))) hb); have n2_ := Aside0.mk (Kd.R_below (by (with_reducible repeat (first | apply Kd.R_alloc | apply Kd.R_drewN | apply Kd.R_drew)); exact (Kd.R_mono (Kd.R_far (p := ⟨gb305, 2, none⟩) (Kd.R_far (p := ⟨gb305, 1, none⟩) (Kd.R_far (p := ⟨gb305, 0, none⟩) (Kd.R_types HO298.out BK305.out (by decide)) (fun _ hk => hk.2) (.int .i64 t299)) (fun _ hk => hk.2) (.int .i64 t300)) (fun _ hk => hk.2) (.slice Ao24 t301.length co24)) (fun _ h_ => h_.1))) hb); have n3_ := Aside0.mk (Kd.R_below (by (with_reducible repeat (first | apply Kd.R_alloc | apply Kd.R_drewN | apply Kd.R_drew)); exact (Kd.R_mono (Kd.R_far (p := ⟨gb305, 2, none⟩) (Kd.R_far (p := ⟨gb305, 1, none⟩) (Kd.R_far (p := ⟨gb305, 0, none⟩) (Kd.R_types HO303.out BK305.out (by decide)) (fun _ hk => hk.2) (.int .i64 t299)) (fun _ hk => hk.2) (.int .i64 t300)) (fun _ hk => hk.2) (.slice Ao24 t301.length co24)) (fun _ h_ => h_.1))) hb); have n4_ := Aside0.mk (blk_below (g := gb295) (o := .cells #[.int .i64 t289, .int .i64 t290, .slice Ao17 t291.length co17] 44 (0, 0)) (by (with_reducible repeat (first | refine blk_drewN ?_ _ | refine blk_drew ?_ | refine blk_alloc ?_ _)); refine blk_far ?_ NB295_305.out _; (with_reducible repeat (first | refine blk_drewN ?_ _ | refine blk_drew ?_ | refine blk_alloc ?_ _)); refine blk_far ?_ NB295_305.out _; (with_reducible repeat (first | refine blk_drewN ?_ _ | refine blk_drew ?_ | refine blk_alloc ?_ _)); refine blk_far ?_ NB295_305.out _; (with_reducible repeat (first | refine blk_drewN ?_ _ | refine blk_drew ?_ | refine blk_alloc ?_ _)); exact BK295.out) hb); have n5_ := Aside0.mk (blk_below (g := gb305) (o := .cells #[.int .i64 t299, .int .i64 t300, .slice Ao24 t301.length co24] 44 (0, 0)) (by (with_reducible repeat (first | refine blk_drewN ?_ _ | refine blk_drew ?_ | refine blk_alloc ?_ _)); refine blk_put (cs := #[.int .i64 t299, .int .i64 t300, .slice none 0 0]) ?_ 2 _ rfl; (with_reducible repeat (first | refine blk_drewN ?_ _ | refine blk_drew ?_ | refine blk_alloc ?_ _)); refine blk_put (cs := #[.int .i64 t299, .int .i64 0, .slice none 0 0]) ?_ 1 _ rfl; (with_reducible repeat (first | refine blk_drewN ?_ _ | refine blk_drew ?_ | refine blk_alloc ?_ _)); refine blk_put (cs := #[.int .i64 0, .int .i64 0, .slice none 0 0]) ?_ 0 _ rfl; (with_reducible repeat (first | refine blk_drewN ?_ _ | refine blk_drew ?_ | refine blk_alloc ?_ _)); exact BK305.out) hb); have n6_ := Aside0.mk (below_step (by repeat (first | (with_reducible first | exact HB.out | apply below_alloc | apply pw_below_drewN | apply below_drew1 | refine below_set ?_ GE295.out | refine below_set ?_ GE305.out) | exact HB.out)) hb); clear HO288; clear HO293; clear HO298; clear HO303; clear BK295; clear BK305; clear HB; have HO288 := n0_; have HO293 := n1_; have HO298 := n2_; have HO303 := n3_; have BK295 := n4_; have BK305 := n5_; have HB := n6_; clear n0_ n1_ n2_ n3_ n4_ n5_ n6_; (try clear hb); (try clear hb2); (try clear hk); (try clear hi)))
        go_meet
        case rel => exact ⟨_, ((t304 != t294)), (by first | rfl | (simp; done) | (simp [*]; done)), H', ⟨by first | omega | exact Nat.le_refl _⟩, ⟨by (with_reducible repeat (first | apply Kd.R_alloc | apply Kd.R_drewN | apply Kd.R_drew)); exact Kd.R_mono HO298.out (fun _ hk => trivial)⟩, ⟨by (with_reducible repeat (first | apply Kd.R_alloc | apply Kd.R_drewN | apply Kd.R_drew)); exact Kd.R_mono HO293.out (fun _ hk => hk.2)⟩, ⟨by (with_reducible repeat (first | apply Kd.R_alloc | apply Kd.R_drewN | apply Kd.R_drew)); exact Kd.R_mono HO303.out (fun _ hk => hk.2)⟩, ⟨by (with_reducible repeat (first | refine blk_drewN ?_ _ | refine blk_drew ?_ | refine blk_alloc ?_ _)); exact BK295.out⟩, ⟨by (with_reducible repeat (first | refine blk_drewN ?_ _ | refine blk_drew ?_ | refine blk_alloc ?_ _)); exact BK305.out⟩, ⟨by repeat (first | (with_reducible first | exact HB.out | apply below_alloc | apply pw_below_drewN | apply below_drew1 | refine below_set ?_ GE295.out | refine below_set ?_ GE305.out) | exact HB.out)⟩⟩
      · replace c26 := Bool.eq_false_iff.mpr c26
        subst c26
        have H1 : (laws_FnExactMakePuzzle.j0 k a0 l1 a2 a3 t294 t296 t304 true t289 t290 t291 t299 t300 t301) = some r := by rw [if_neg (show ¬ (false = true) by decide)] at H; exact H
        clear H
        have H := H1
        clear H1
        exact absurd (H.trans (congrArg some rT)) (laws_FnExactMakePuzzle.j0_no _ _ _ _ _ _ _ _ _ _ _ _ _ _)
    case rest =>
      clear HC11
      try clear c1
      try clear c2
      try clear p2
      try clear c4
      try clear c6
      try clear c6b0
      try clear c11
      try clear c14
      try clear c17
      try clear c22
      try clear c24
      try clear c26
      try clear c27
      try clear hcz16_0
      try clear hcz16_1
      try clear hcz16_2
      try clear hcz23_0
      try clear hcz23_1
      try clear hcz23_2
      try clear hcz28_0
      try clear hcz28_1
      try clear hcz28_2
      try clear hcz29_0
      try clear hcz29_1
      try clear hcz29_2
      try clear hfz16_0
      try clear hfz16_1
      try clear hfz16_2
      try clear hfz23_0
      try clear hfz23_1
      try clear hfz23_2
      try clear hfz28_0
      try clear hfz28_1
      try clear hfz28_2
      try clear hfz29_0
      try clear hfz29_1
      try clear hfz29_2
      obtain ⟨kq, x52_10, rfl, HA, HJ10, HO_12, HO_296002, HO_306002, BK295, BK305, HB⟩ := hcut
      cases kq with
      | zero => exact absurd HA.out (by simp [laws_FnExactMakePuzzle.j0])
      | succ kj10 =>
        have H := HA.out
        clear HA
        simp only [laws_FnExactMakePuzzle.j0] at H
        by_cases c31 : x52_10 = true
        · subst c31
          have H1 : (some false) = some r := by rw [if_pos rfl] at H; exact H
          clear H
          have H := H1
          clear H1
          exact absurd ((Option.some.inj H).trans rT) (by decide)
        · replace c31 := Bool.eq_false_iff.mpr c31
          subst c31
          have H1 : ((laws_toCallS.f kj10 l1).bind fun t307 => ((laws_eqCallS.f kj10 t296 t307).bind fun t310 => (if t310 = true then ((laws_markCallS.f kj10 t296 1).bind fun bt311 => (if bt311.1 < 0 then (laws_FnExactMakePuzzle.j1 kj10 a0 l1 a2 a3 t294 true t289 t290 t291 t299 t300 t301) else ((laws_eqPuzzle.f kj10 t299 t300 t301 t289 t290 t291).bind fun t313 => (if t313 = true then (laws_FnExactMakePuzzle.j1 kj10 a0 l1 a2 a3 t294 (t304 != t294) t289 t290 t291 t299 t300 t301) else (laws_FnExactMakePuzzle.j1 kj10 a0 l1 a2 a3 t294 true t289 t290 t291 t299 t300 t301))))) else (some false)))) = some r := by rw [if_neg (show ¬ (false = true) by decide)] at H; exact H
          clear H
          have H := H1
          clear H1
          replace H := Option.bind_eq_some_iff.mp H
          obtain ⟨t307, A320, H⟩ := H
          replace H : ((laws_eqCallS.f kj10 t296 t307).bind fun t310 => (if t310 = true then ((laws_markCallS.f kj10 t296 1).bind fun bt311 => (if bt311.1 < 0 then (laws_FnExactMakePuzzle.j1 kj10 a0 l1 a2 a3 t294 true t289 t290 t291 t299 t300 t301) else ((laws_eqPuzzle.f kj10 t299 t300 t301 t289 t290 t291).bind fun t313 => (if t313 = true then (laws_FnExactMakePuzzle.j1 kj10 a0 l1 a2 a3 t294 (t304 != t294) t289 t290 t291 t299 t300 t301) else (laws_FnExactMakePuzzle.j1 kj10 a0 l1 a2 a3 t294 true t289 t290 t291 t299 t300 t301))))) else (some false))) = some r := H
          have A32 := Aside0.mk A320
          clear A320
          replace H := Option.bind_eq_some_iff.mp H
          obtain ⟨t310, A330, H⟩ := H
          replace H : (if t310 = true then ((laws_markCallS.f kj10 t296 1).bind fun bt311 => (if bt311.1 < 0 then (laws_FnExactMakePuzzle.j1 kj10 a0 l1 a2 a3 t294 true t289 t290 t291 t299 t300 t301) else ((laws_eqPuzzle.f kj10 t299 t300 t301 t289 t290 t291).bind fun t313 => (if t313 = true then (laws_FnExactMakePuzzle.j1 kj10 a0 l1 a2 a3 t294 (t304 != t294) t289 t290 t291 t299 t300 t301) else (laws_FnExactMakePuzzle.j1 kj10 a0 l1 a2 a3 t294 true t289 t290 t291 t299 t300 t301))))) else (some false)) = some r := H
          have A33 := Aside0.mk A330
          clear A330
          by_cases c34 : t310 = true
          · subst c34
            have H1 : ((laws_markCallS.f kj10 t296 1).bind fun bt311 => (if bt311.1 < 0 then (laws_FnExactMakePuzzle.j1 kj10 a0 l1 a2 a3 t294 true t289 t290 t291 t299 t300 t301) else ((laws_eqPuzzle.f kj10 t299 t300 t301 t289 t290 t291).bind fun t313 => (if t313 = true then (laws_FnExactMakePuzzle.j1 kj10 a0 l1 a2 a3 t294 (t304 != t294) t289 t290 t291 t299 t300 t301) else (laws_FnExactMakePuzzle.j1 kj10 a0 l1 a2 a3 t294 true t289 t290 t291 t299 t300 t301))))) = some r := by rw [if_pos rfl] at H; exact H
            clear H
            have H := H1
            clear H1
            replace H := Option.bind_eq_some_iff.mp H
            obtain ⟨⟨t311, t312⟩, A350, H⟩ := H
            replace H : (if t311 < 0 then (laws_FnExactMakePuzzle.j1 kj10 a0 l1 a2 a3 t294 true t289 t290 t291 t299 t300 t301) else ((laws_eqPuzzle.f kj10 t299 t300 t301 t289 t290 t291).bind fun t313 => (if t313 = true then (laws_FnExactMakePuzzle.j1 kj10 a0 l1 a2 a3 t294 (t304 != t294) t289 t290 t291 t299 t300 t301) else (laws_FnExactMakePuzzle.j1 kj10 a0 l1 a2 a3 t294 true t289 t290 t291 t299 t300 t301)))) = some r := H
            have A35 := Aside0.mk A350
            clear A350
            have HC36 := Aside0.mk H
            clear H
            go_upto_region 14 with (first | ((with_reducible refine gate_callee (f := 17) rfl ?_); refine goesL_ (some 55) rfl rfl Try.func17 (by kernel_rfl) rfl #[.slice A1 l1.length c1] rfl (by (try simp only [List.map_toArray, List.map_cons, List.map_nil]); first | done | rfl | (simp only [List.length_drop, List.length_take]; rfl)) ?_; (with_reducible refine (laws_toCallS.calls kj10 _ _ l1 t307 _ ?side1 ?side2 A32.out).mono ?_); (case side1 => repeat (first | exact (Kd.C_below HR1.out HB.out) | (with_reducible refine Kd.C_alloc ?_ _) | (with_reducible refine Kd.C_drewN ?_ _) | (with_reducible refine Kd.C_drew ?_))); (case side2 => exact HC1.out); rintro e w37 ⟨v308, rfl, ho0, hb⟩; refine ⟨_, rfl, ?_⟩; have n0_ := Aside0.mk (Kd.R_elder' (by (with_reducible repeat (first | apply Kd.R_alloc | apply Kd.R_drewN | apply Kd.R_drew)); exact HO_12.out) (Kd.R_base ho0) hb); have n1_ := Aside0.mk (Kd.R_below (by (with_reducible repeat (first | apply Kd.R_alloc | apply Kd.R_drewN | apply Kd.R_drew)); exact HO_296002.out) hb); have n2_ := Aside0.mk (Kd.R_below (by (with_reducible repeat (first | apply Kd.R_alloc | apply Kd.R_drewN | apply Kd.R_drew)); exact HO_306002.out) hb); have n3_ := Aside0.mk (Kd.R_lower (Kd.R_new' ho0 (Kd.R_lt (by (with_reducible repeat (first | apply Kd.R_alloc | apply Kd.R_drewN | apply Kd.R_drew)); exact HO_12.out))) (below_size (by repeat (first | (with_reducible first | exact HB.out | apply below_alloc | apply pw_below_drewN | apply below_drew1 | refine below_set ?_ GE295.out | refine below_set ?_ GE305.out) | exact HB.out)))); have n4_ := Aside0.mk (blk_below (g := gb295) (o := .cells #[.int .i64 t289, .int .i64 t290, .slice Ao17 t291.length co17] 44 (0, 0)) (by (with_reducible repeat (first | refine blk_drewN ?_ _ | refine blk_drew ?_ | refine blk_alloc ?_ _)); exact BK295.out) hb); have n5_ := Aside0.mk (blk_below (g := gb305) (o := .cells #[.int .i64 t299, .int .i64 t300, .slice Ao24 t301.length co24] 44 (0, 0)) (by (with_reducible repeat (first | refine blk_drewN ?_ _ | refine blk_drew ?_ | refine blk_alloc ?_ _)); exact BK305.out) hb); have n6_ := Aside0.mk (below_step (by repeat (first | (with_reducible first | exact HB.out | apply below_alloc | apply pw_below_drewN | apply below_drew1 | refine below_set ?_ GE295.out | refine below_set ?_ GE305.out) | exact HB.out)) hb); clear HO_12; clear HO_296002; clear HO_306002; clear BK295; clear BK305; clear HB; have HO_12 := n0_; have HO_296002 := n1_; have HO_306002 := n2_; have HO309 := n3_; have BK295 := n4_; have BK305 := n5_; have HB := n6_; clear n0_ n1_ n2_ n3_ n4_ n5_ n6_; (try clear hb); (try clear hb2); (try clear hk); (try clear hi); (try clear ho0); obtain ⟨Ao38, co38, eo38⟩ := Kd.R_slice HO309.out; subst eo38) | ((with_reducible refine gate_callee (f := 19) rfl ?_); refine goesL_ (some 56) rfl rfl Try.func19 (by kernel_rfl) rfl #[.slice Ao19 t296.length co19, .slice Ao38 t307.length co38] rfl (by (try simp only [List.map_toArray, List.map_cons, List.map_nil]); first | done | rfl | (simp only [List.length_drop, List.length_take]; rfl)) ?_; (with_reducible refine (laws_eqCallS.calls kj10 _ _ t296 _ _ t307 true _ ?side1 ?side2 ?side3 ?side4 A33.out).mono ?_); (case side1 => repeat (first | exact (Kd.R_reads' HO_12.out).2.2 | (with_reducible refine Kd.C_alloc ?_ _) | (with_reducible refine Kd.C_drewN ?_ _) | (with_reducible refine Kd.C_drew ?_))); (case side2 => exact (Kd.R_reads' HO_12.out).2.1); (case side3 => repeat (first | exact (Kd.R_reads' HO309.out).2.2 | (with_reducible refine Kd.C_alloc ?_ _) | (with_reducible refine Kd.C_drewN ?_ _) | (with_reducible refine Kd.C_drew ?_))); (case side4 => exact (Kd.R_reads' HO309.out).2.1); rintro e w39 ⟨rfl, hb⟩; refine ⟨_, rfl, ?_⟩; have n0_ := Aside0.mk (Kd.R_below (by (with_reducible repeat (first | apply Kd.R_alloc | apply Kd.R_drewN | apply Kd.R_drew)); exact HO_12.out) hb); have n1_ := Aside0.mk (Kd.R_below (by (with_reducible repeat (first | apply Kd.R_alloc | apply Kd.R_drewN | apply Kd.R_drew)); exact HO_296002.out) hb); have n2_ := Aside0.mk (Kd.R_below (by (with_reducible repeat (first | apply Kd.R_alloc | apply Kd.R_drewN | apply Kd.R_drew)); exact HO_306002.out) hb); have n3_ := Aside0.mk (Kd.R_below (by (with_reducible repeat (first | apply Kd.R_alloc | apply Kd.R_drewN | apply Kd.R_drew)); exact HO309.out) hb); have n4_ := Aside0.mk (blk_below (g := gb295) (o := .cells #[.int .i64 t289, .int .i64 t290, .slice Ao17 t291.length co17] 44 (0, 0)) (by (with_reducible repeat (first | refine blk_drewN ?_ _ | refine blk_drew ?_ | refine blk_alloc ?_ _)); exact BK295.out) hb); have n5_ := Aside0.mk (blk_below (g := gb305) (o := .cells #[.int .i64 t299, .int .i64 t300, .slice Ao24 t301.length co24] 44 (0, 0)) (by (with_reducible repeat (first | refine blk_drewN ?_ _ | refine blk_drew ?_ | refine blk_alloc ?_ _)); exact BK305.out) hb); have n6_ := Aside0.mk (below_step (by repeat (first | (with_reducible first | exact HB.out | apply below_alloc | apply pw_below_drewN | apply below_drew1 | refine below_set ?_ GE295.out | refine below_set ?_ GE305.out) | exact HB.out)) hb); clear HO_12; clear HO_296002; clear HO_306002; clear HO309; clear BK295; clear BK305; clear HB; have HO_12 := n0_; have HO_296002 := n1_; have HO_306002 := n2_; have HO309 := n3_; have BK295 := n4_; have BK305 := n5_; have HB := n6_; clear n0_ n1_ n2_ n3_ n4_ n5_ n6_; (try clear hb); (try clear hb2); (try clear hk); (try clear hi)) | ((with_reducible refine gate_callee (f := 35) rfl ?_); refine goesL_ (some 60) rfl rfl Try.func35 (by kernel_rfl) rfl #[.slice Ao19 t296.length co19, .int .i64 1] rfl (by (try simp only [List.map_toArray, List.map_cons, List.map_nil]); first | done | rfl | (simp only [List.length_drop, List.length_take]; rfl)) ?_; (with_reducible refine (laws_markCallS.calls kj10 (fun k_ => some k_ = (.slice Ao19 t296.length co19 : Value).ownBlock) (.slice Ao19 t296.length co19) t296 1 t311 t312 w _ ?side1 ?side2 A35.out).mono ?_); (case side1 => repeat (first | (with_reducible first | exact HB.out | apply below_alloc | apply pw_below_drewN | apply below_drew1 | refine below_set ?_ GE295.out | refine below_set ?_ GE305.out) | exact HB.out)); (case side2 => exact Kd.R_tight rfl HO_12.out); rintro e w40 ⟨rfl, hy0, hb, hkp⟩; refine ⟨_, rfl, ?_⟩; have n0_ := Aside0.mk (Kd.R_reok rfl hy0 (fun k_ e_ => HO_12.out.1 k_ e_)); have n1_ := Aside0.mk (Kd.R_mono (ok' := fun k_ => some k_ ≠ (.slice Ao24 t301.length co24 : Value).ownBlock) (Kd.R_keptB ((Kd.R_apart' HO_296002.out (Kd.R_typed HO_12.out) (by decide))) hkp (fun k_ hk_ hs_ => (hk_.2) hs_)) (fun k_ hk_ => hk_.1.1)); have n2_ := Aside0.mk (Kd.R_mono (ok' := fun k_ => some k_ ≠ (.slice Ao17 t291.length co17 : Value).ownBlock) (Kd.R_keptB ((Kd.R_apart' HO_306002.out (Kd.R_typed HO_12.out) (by decide))) hkp (fun k_ hk_ hs_ => (hk_.2) hs_)) (fun k_ hk_ => hk_.1.1)); have n3_ := Aside0.mk (blk_kept (by (with_reducible repeat (first | refine blk_drewN ?_ _ | refine blk_drew ?_ | refine blk_alloc ?_ _)); exact BK295.out) hkp (fun hs_ => (fun e_ => (Kd.R_ne HO_12.out BK295.out (by decide)) e_) hs_)); have n4_ := Aside0.mk (blk_kept (by (with_reducible repeat (first | refine blk_drewN ?_ _ | refine blk_drew ?_ | refine blk_alloc ?_ _)); exact BK305.out) hkp (fun hs_ => (fun e_ => (Kd.R_ne HO_12.out BK305.out (by decide)) e_) hs_)); have n5_ := Aside0.mk (Kd.R_mono (ok' := fun k_ => some k_ ≠ (.slice Ao19 t296.length co19 : Value).ownBlock) (Kd.R_keptB (HO309.out) hkp (fun k_ hk_ hs_ => (hk_.2) hs_)) (fun k_ hk_ => hk_.1.2)); have n6_ := Aside0.mk (hb); clear HO_12; clear HO_296002; clear HO_306002; clear BK295; clear BK305; clear HO309; clear HB; have HO_12 := n0_; have HO_296002 := n1_; have HO_306002 := n2_; have BK295 := n3_; have BK305 := n4_; have HO309 := n5_; have HB := n6_; clear n0_ n1_ n2_ n3_ n4_ n5_ n6_; (try clear hb); (try clear hkp); (try clear hy0)))
            (try simp only [Act.put, List.setIfInBounds_toArray, List.set_cons_zero, List.set_cons_succ])
            go_cut [73] (fun v73 wc => ∃ (kq : Nat) (x73_35 : Bool), v73 = .bool x73_35 ∧ Aside0 (laws_FnExactMakePuzzle.j1 kq a0 l1 a2 a3 t294 x73_35 t289 t290 t291 t299 t300 t301 = some r) ∧ Aside0 (kq ≤ kj10) ∧ Aside0 (Kd.R k31 31 wc w.heap.size (fun k_ => some k_ ≠ ((.slice Ao24 t301.length co24) : Value).ownBlock) (.slice Ao17 t291.length co17) t291) ∧ Aside0 (Kd.R k31 31 wc w.heap.size (fun k_ => some k_ ≠ ((.slice Ao17 t291.length co17) : Value).ownBlock) (.slice Ao24 t301.length co24) t301) ∧ Aside0 (wc.heap[gb295]? = some (.cells #[.int .i64 t289, .int .i64 t290, (.slice Ao17 t291.length co17)] 44 (0, 0))) ∧ Aside0 (wc.heap[gb305]? = some (.cells #[.int .i64 t299, .int .i64 t300, (.slice Ao24 t301.length co24)] 44 (0, 0))) ∧ Aside0 (Below w.heap.size w wc))
            case first =>
              have H := HC36.out
              clear HC36
              by_cases c41 : t311 < 0
              · rw [if_pos c41] at H
                have c41b0 : decide (t311 < 0) = true := decide_eq_true c41
                clear c41
                (first | rw [c41b0] | (simp only [i64_w, i32_w]; rw [c41b0]) | skip)
                exact absurd (H.trans (congrArg some rT)) (laws_FnExactMakePuzzle.j1_no _ _ _ _ _ _ _ _ _ _ _ _)
              · rw [if_neg c41] at H
                have c41b0 : decide (t311 < 0) = false := decide_eq_false c41
                clear c41
                (first | rw [c41b0] | (simp only [i64_w, i32_w]; rw [c41b0]) | skip)
                replace H := Option.bind_eq_some_iff.mp H
                obtain ⟨t313, A420, H⟩ := H
                replace H : (if t313 = true then (laws_FnExactMakePuzzle.j1 kj10 a0 l1 a2 a3 t294 (t304 != t294) t289 t290 t291 t299 t300 t301) else (laws_FnExactMakePuzzle.j1 kj10 a0 l1 a2 a3 t294 true t289 t290 t291 t299 t300 t301)) = some r := H
                have A42 := Aside0.mk A420
                clear A420
                by_cases c43 : t313 = true
                · subst c43
                  have H1 : (laws_FnExactMakePuzzle.j1 kj10 a0 l1 a2 a3 t294 (t304 != t294) t289 t290 t291 t299 t300 t301) = some r := by rw [if_pos rfl] at H; exact H
                  clear H
                  have H := H1
                  clear H1
                  have H' := Aside0.mk H
                  clear H
                  have hnb44 := NB305_295.out
                  have hnc44 := NB295_305.out
                  have hcz45_0 : w40.cell? ⟨gb305, 0, none⟩ = some (.int .i64 t299) := (blk_cell BK305.out 0).trans rfl
                  have hcz45_1 : w40.cell? ⟨gb305, 1, none⟩ = some (.int .i64 t300) := (blk_cell BK305.out 1).trans rfl
                  have hcz45_2 : w40.cell? ⟨gb305, 2, none⟩ = some (.slice Ao24 t301.length co24) := (blk_cell BK305.out 2).trans rfl
                  have hfz45_0 := blk_frozen BK305.out 0
                  have hfz45_1 := blk_frozen BK305.out 1
                  have hfz45_2 := blk_frozen BK305.out 2
                  have hcz46_0 : w40.cell? ⟨gb295, 0, none⟩ = some (.int .i64 t289) := (blk_cell BK295.out 0).trans rfl
                  have hcz46_1 : w40.cell? ⟨gb295, 1, none⟩ = some (.int .i64 t290) := (blk_cell BK295.out 1).trans rfl
                  have hcz46_2 : w40.cell? ⟨gb295, 2, none⟩ = some (.slice Ao17 t291.length co17) := (blk_cell BK295.out 2).trans rfl
                  have hfz46_0 := blk_frozen BK295.out 0
                  have hfz46_1 := blk_frozen BK295.out 1
                  have hfz46_2 := blk_frozen BK295.out 2
                  go_wp2_with (first | (go_at_call 24; (with_reducible refine (laws_eqPuzzle.calls kj10 t299 t300 _ _ t301 t289 t290 _ _ t291 true _ ?side1 ?side2 ?side3 ?side4 A42.out).mono ?_); (case side1 => repeat (first | exact (Kd.R_reads' HO_306002.out).2.2 | (with_reducible refine Kd.C_alloc ?_ _) | (with_reducible refine Kd.C_drewN ?_ _) | (with_reducible refine Kd.C_drew ?_))); (case side2 => exact (Kd.R_reads' HO_306002.out).2.1); (case side3 => repeat (first | exact (Kd.R_reads' HO_296002.out).2.2 | (with_reducible refine Kd.C_alloc ?_ _) | (with_reducible refine Kd.C_drewN ?_ _) | (with_reducible refine Kd.C_drew ?_))); (case side4 => exact (Kd.R_reads' HO_296002.out).2.1); rintro e w47 ⟨rfl, hb⟩; have n0_ := Aside0.mk (Kd.R_below (by (with_reducible repeat (first | apply Kd.R_alloc | apply Kd.R_drewN | apply Kd.R_drew)); exact HO_12.out) hb); have n1_ := Aside0.mk (Kd.R_below (by (with_reducible repeat (first | apply Kd.R_alloc | apply Kd.R_drewN | apply Kd.R_drew)); exact HO_296002.out) hb); have n2_ := Aside0.mk (Kd.R_below (by (with_reducible repeat (first | apply Kd.R_alloc | apply Kd.R_drewN | apply Kd.R_drew)); exact HO_306002.out) hb); have n3_ := Aside0.mk (Kd.R_below (by (with_reducible repeat (first | apply Kd.R_alloc | apply Kd.R_drewN | apply Kd.R_drew)); exact HO309.out) hb); have n4_ := Aside0.mk (blk_below (g := gb295) (o := .cells #[.int .i64 t289, .int .i64 t290, .slice Ao17 t291.length co17] 44 (0, 0)) (by (with_reducible repeat (first | refine blk_drewN ?_ _ | refine blk_drew ?_ | refine blk_alloc ?_ _)); exact BK295.out) hb); have n5_ := Aside0.mk (blk_below (g := gb305) (o := .cells #[.int .i64 t299, .int .i64 t300, .slice Ao24 t301.length co24] 44 (0, 0)) (by (with_reducible repeat (first | refine blk_drewN ?_ _ | refine blk_drew ?_ | refine blk_alloc ?_ _)); exact BK305.out) hb); have n6_ := Aside0.mk (below_step (by repeat (first | (with_reducible first | exact HB.out | apply below_alloc | apply pw_below_drewN | apply below_drew1 | refine below_set ?_ GE295.out | refine below_set ?_ GE305.out) | exact HB.out)) hb); clear HO_12; clear HO_296002; clear HO_306002; clear HO309; clear BK295; clear BK305; clear HB; have HO_12 := n0_; have HO_296002 := n1_; have HO_306002 := n2_; have HO309 := n3_; have BK295 := n4_; have BK305 := n5_; have HB := n6_; clear n0_ n1_ n2_ n3_ n4_ n5_ n6_; (try clear hb); (try clear hb2); (try clear hk); (try clear hi)))
                  go_meet
                  case rel => exact ⟨_, ((t304 != t294)), (by first | rfl | (simp; done) | (simp [*]; done)), H', ⟨by have := HJ10.out; first | omega | exact Nat.le_refl _⟩, ⟨by (with_reducible repeat (first | apply Kd.R_alloc | apply Kd.R_drewN | apply Kd.R_drew)); exact HO_296002.out⟩, ⟨by (with_reducible repeat (first | apply Kd.R_alloc | apply Kd.R_drewN | apply Kd.R_drew)); exact HO_306002.out⟩, ⟨by (with_reducible repeat (first | refine blk_drewN ?_ _ | refine blk_drew ?_ | refine blk_alloc ?_ _)); exact BK295.out⟩, ⟨by (with_reducible repeat (first | refine blk_drewN ?_ _ | refine blk_drew ?_ | refine blk_alloc ?_ _)); exact BK305.out⟩, ⟨by repeat (first | (with_reducible first | exact HB.out | apply below_alloc | apply pw_below_drewN | apply below_drew1 | refine below_set ?_ GE295.out | refine below_set ?_ GE305.out) | exact HB.out)⟩⟩
                · replace c43 := Bool.eq_false_iff.mpr c43
                  subst c43
                  have H1 : (laws_FnExactMakePuzzle.j1 kj10 a0 l1 a2 a3 t294 true t289 t290 t291 t299 t300 t301) = some r := by rw [if_neg (show ¬ (false = true) by decide)] at H; exact H
                  clear H
                  have H := H1
                  clear H1
                  exact absurd (H.trans (congrArg some rT)) (laws_FnExactMakePuzzle.j1_no _ _ _ _ _ _ _ _ _ _ _ _)
            case rest =>
              clear HC36
              try clear c1
              try clear c2
              try clear p2
              try clear c3
              try clear c4
              try clear c6
              try clear c6b0
              try clear c11
              try clear c14
              try clear c17
              try clear c19
              try clear c22
              try clear c24
              try clear c26
              try clear c27
              try clear c31
              try clear c34
              try clear c35
              try clear c41
              try clear c41b0
              try clear c43
              try clear c44
              try clear c45
              try clear hcz16_0
              try clear hcz16_1
              try clear hcz16_2
              try clear hcz23_0
              try clear hcz23_1
              try clear hcz23_2
              try clear hcz28_0
              try clear hcz28_1
              try clear hcz28_2
              try clear hcz29_0
              try clear hcz29_1
              try clear hcz29_2
              try clear hcz45_0
              try clear hcz45_1
              try clear hcz45_2
              try clear hcz46_0
              try clear hcz46_1
              try clear hcz46_2
              try clear hfz16_0
              try clear hfz16_1
              try clear hfz16_2
              try clear hfz23_0
              try clear hfz23_1
              try clear hfz23_2
              try clear hfz28_0
              try clear hfz28_1
              try clear hfz28_2
              try clear hfz29_0
              try clear hfz29_1
              try clear hfz29_2
              try clear hfz45_0
              try clear hfz45_1
              try clear hfz45_2
              try clear hfz46_0
              try clear hfz46_1
              try clear hfz46_2
              try clear p2
              obtain ⟨kq, x73_35, rfl, HA, HJ35, HO_296002, HO_306002, BK295, BK305, HB⟩ := hcut
              cases kq with
              | zero => exact absurd HA.out (by simp [laws_FnExactMakePuzzle.j1])
              | succ kj35 =>
                have H := HA.out
                clear HA
                simp only [laws_FnExactMakePuzzle.j1] at H
                by_cases c48 : x73_35 = true
                · subst c48
                  have H1 : (some false) = some r := by rw [if_pos rfl] at H; exact H
                  clear H
                  have H := H1
                  clear H1
                  exact absurd ((Option.some.inj H).trans rT) (by decide)
                · replace c48 := Bool.eq_false_iff.mpr c48
                  subst c48
                  have H1 : ((laws_markPuzzle.f kj35 t299 t300 t301 1).bind fun bt314 => ((laws_heldPuzzle.f kj35 t299 t300 bt314.2 1).bind fun t316 => (if t316 < 0 then (some false) else (if t316 = bt314.1 then ((laws_toCallS.f kj35 l1).bind fun t317 => ((impl_MakePuzzle.f kj35 a0 t317 a2 a3).bind fun bt320 => ((laws_eqPuzzle.f kj35 bt320.1 bt320.2.1 bt320.2.2.1 t289 t290 t291).bind fun t327 => (if t327 = true then (laws_FnExactMakePuzzle.j2 kj35 bt314.1 (bt320.2.2.2 != t294) t299 t300 bt314.2) else (laws_FnExactMakePuzzle.j2 kj35 bt314.1 true t299 t300 bt314.2))))) else (some false))))) = some r := by rw [if_neg (show ¬ (false = true) by decide)] at H; exact H
                  clear H
                  have H := H1
                  clear H1
                  replace H := Option.bind_eq_some_iff.mp H
                  obtain ⟨⟨t314, t315⟩, A490, H⟩ := H
                  replace H : ((laws_heldPuzzle.f kj35 t299 t300 t315 1).bind fun t316 => (if t316 < 0 then (some false) else (if t316 = t314 then ((laws_toCallS.f kj35 l1).bind fun t317 => ((impl_MakePuzzle.f kj35 a0 t317 a2 a3).bind fun bt320 => ((laws_eqPuzzle.f kj35 bt320.1 bt320.2.1 bt320.2.2.1 t289 t290 t291).bind fun t327 => (if t327 = true then (laws_FnExactMakePuzzle.j2 kj35 t314 (bt320.2.2.2 != t294) t299 t300 t315) else (laws_FnExactMakePuzzle.j2 kj35 t314 true t299 t300 t315))))) else (some false)))) = some r := H
                  have A49 := Aside0.mk A490
                  clear A490
                  replace H := Option.bind_eq_some_iff.mp H
                  obtain ⟨t316, A500, H⟩ := H
                  replace H : (if t316 < 0 then (some false) else (if t316 = t314 then ((laws_toCallS.f kj35 l1).bind fun t317 => ((impl_MakePuzzle.f kj35 a0 t317 a2 a3).bind fun bt320 => ((laws_eqPuzzle.f kj35 bt320.1 bt320.2.1 bt320.2.2.1 t289 t290 t291).bind fun t327 => (if t327 = true then (laws_FnExactMakePuzzle.j2 kj35 t314 (bt320.2.2.2 != t294) t299 t300 t315) else (laws_FnExactMakePuzzle.j2 kj35 t314 true t299 t300 t315))))) else (some false))) = some r := H
                  have A50 := Aside0.mk A500
                  clear A500
                  by_cases c51 : t316 < 0
                  · rw [if_pos c51] at H
                    have c51b0 : decide (t316 < 0) = true := decide_eq_true c51
                    clear c51
                    exact absurd ((Option.some.inj H).trans rT) (by decide)
                  · rw [if_neg c51] at H
                    have c51b0 : decide (t316 < 0) = false := decide_eq_false c51
                    clear c51
                    by_cases c52 : t316 = t314
                    · rw [if_pos c52] at H
                      have c52b0 : (t316 == t314) = true := beq_iff_eq.mpr c52
                      have c52b1 : (t316 != t314) = false := bne_eq_false_iff_eq.mpr c52
                      clear c52
                      replace H := Option.bind_eq_some_iff.mp H
                      obtain ⟨t317, A530, H⟩ := H
                      replace H : ((impl_MakePuzzle.f kj35 a0 t317 a2 a3).bind fun bt320 => ((laws_eqPuzzle.f kj35 bt320.1 bt320.2.1 bt320.2.2.1 t289 t290 t291).bind fun t327 => (if t327 = true then (laws_FnExactMakePuzzle.j2 kj35 t314 (bt320.2.2.2 != t294) t299 t300 t315) else (laws_FnExactMakePuzzle.j2 kj35 t314 true t299 t300 t315)))) = some r := H
                      have A53 := Aside0.mk A530
                      clear A530
                      replace H := Option.bind_eq_some_iff.mp H
                      obtain ⟨⟨t320, t321, t322, t325⟩, A540, H⟩ := H
                      replace H : ((laws_eqPuzzle.f kj35 t320 t321 t322 t289 t290 t291).bind fun t327 => (if t327 = true then (laws_FnExactMakePuzzle.j2 kj35 t314 (t325 != t294) t299 t300 t315) else (laws_FnExactMakePuzzle.j2 kj35 t314 true t299 t300 t315))) = some r := H
                      have A54 := Aside0.mk A540
                      clear A540
                      have HC55 := Aside0.mk H
                      clear H
                      have hnb56 := NB305_295.out
                      have hnc56 := NB295_305.out
                      have hcz57_0 : wc.cell? ⟨gb305, 0, none⟩ = some (.int .i64 t299) := (blk_cell BK305.out 0).trans rfl
                      have hcz57_1 : wc.cell? ⟨gb305, 1, none⟩ = some (.int .i64 t300) := (blk_cell BK305.out 1).trans rfl
                      have hcz57_2 : wc.cell? ⟨gb305, 2, none⟩ = some (.slice Ao24 t301.length co24) := (blk_cell BK305.out 2).trans rfl
                      have hfz57_0 := blk_frozen BK305.out 0
                      have hfz57_1 := blk_frozen BK305.out 1
                      have hfz57_2 := blk_frozen BK305.out 2
                      go_upto_region 25 with (first | ((with_reducible refine gate_callee (f := 30) rfl ?_); refine goesL_ (some 76) rfl rfl Try.func30 (by kernel_rfl) rfl #[.agg #[.int .i64 t299, .int .i64 t300, .slice Ao24 t301.length co24], .int .i64 1] rfl (by (try simp only [List.map_toArray, List.map_cons, List.map_nil]); first | done | rfl | (simp only [List.length_drop, List.length_take]; rfl)) ?_; (with_reducible refine (laws_markPuzzle.calls kj35 t299 t300 (fun k_ => some k_ = (.slice Ao24 t301.length co24 : Value).ownBlock) (.slice Ao24 t301.length co24) t301 1 t314 t315 w _ ?side1 ?side2 A49.out).mono ?_); (case side1 => repeat (first | (with_reducible first | exact HB.out | apply below_alloc | apply pw_below_drewN | apply below_drew1 | refine below_set ?_ GE295.out | refine below_set ?_ GE305.out) | exact HB.out)); (case side2 => exact Kd.R_tight rfl HO_306002.out); rintro e w58 ⟨rfl, hy0, hb, hkp⟩; refine ⟨_, rfl, ?_⟩; have n0_ := Aside0.mk (Kd.R_mono (ok' := fun k_ => some k_ ≠ (.slice Ao24 t301.length co24 : Value).ownBlock) (Kd.R_keptB (HO_296002.out) hkp (fun k_ hk_ hs_ => (hk_) hs_)) (fun k_ hk_ => hk_.1)); have n1_ := Aside0.mk (Kd.R_reok rfl hy0 (fun k_ e_ => HO_306002.out.1 k_ e_)); have n2_ := Aside0.mk (blk_kept (by (with_reducible repeat (first | refine blk_drewN ?_ _ | refine blk_drew ?_ | refine blk_alloc ?_ _)); exact BK295.out) hkp (fun hs_ => (fun e_ => (Kd.R_ne HO_306002.out BK295.out (by decide)) e_) hs_)); have n3_ := Aside0.mk (blk_kept (by (with_reducible repeat (first | refine blk_drewN ?_ _ | refine blk_drew ?_ | refine blk_alloc ?_ _)); exact BK305.out) hkp (fun hs_ => (fun e_ => (Kd.R_ne HO_306002.out BK305.out (by decide)) e_) hs_)); have n4_ := Aside0.mk (hb); clear HO_296002; clear HO_306002; clear BK295; clear BK305; clear HB; have HO_296002 := n0_; have HO_306002 := n1_; have BK295 := n2_; have BK305 := n3_; have HB := n4_; clear n0_ n1_ n2_ n3_ n4_; (try clear hb); (try clear hkp); (try clear hy0); have hcz59_0 : w58.cell? ⟨gb305, 0, none⟩ = some (.int .i64 t299) := (blk_cell BK305.out 0).trans rfl; have hcz59_1 : w58.cell? ⟨gb305, 1, none⟩ = some (.int .i64 t300) := (blk_cell BK305.out 1).trans rfl; have hcz59_2 : w58.cell? ⟨gb305, 2, none⟩ = some (.slice Ao24 t301.length co24) := (blk_cell BK305.out 2).trans rfl; have hfz59_0 := blk_frozen BK305.out 0; have hfz59_1 := blk_frozen BK305.out 1; have hfz59_2 := blk_frozen BK305.out 2) | ((with_reducible refine gate_callee (f := 46) rfl ?_); refine goesL_ (some 79) rfl rfl Try.func46 (by kernel_rfl) rfl #[.agg #[.int .i64 t299, .int .i64 t300, .slice Ao24 t315.length co24], .int .i64 1] rfl (by (try simp only [List.map_toArray, List.map_cons, List.map_nil]); first | done | (rw [show t315.length = t301.length from (Kd.R_reads' HO_306002.out).1.symm] <;> rfl) | rfl | (simp only [List.length_drop, List.length_take]; rfl)) ?_; (with_reducible refine (laws_heldPuzzle.calls kj35 t299 t300 _ _ t315 1 t316 _ ?side1 ?side2 A50.out).mono ?_); (case side1 => repeat (first | exact (Kd.R_reads' HO_306002.out).2.2 | (with_reducible refine Kd.C_alloc ?_ _) | (with_reducible refine Kd.C_drewN ?_ _) | (with_reducible refine Kd.C_drew ?_))); (case side2 => rw [show t315.length = t301.length from (Kd.R_reads' HO_306002.out).1.symm]; exact (Kd.R_reads' HO_306002.out).2.1); rintro e w60 ⟨rfl, hb⟩; refine ⟨_, rfl, ?_⟩; have n0_ := Aside0.mk (Kd.R_below (by (with_reducible repeat (first | apply Kd.R_alloc | apply Kd.R_drewN | apply Kd.R_drew)); exact HO_296002.out) hb); have n1_ := Aside0.mk (Kd.R_below (by (with_reducible repeat (first | apply Kd.R_alloc | apply Kd.R_drewN | apply Kd.R_drew)); exact HO_306002.out) hb); have n2_ := Aside0.mk (blk_below (g := gb295) (o := .cells #[.int .i64 t289, .int .i64 t290, .slice Ao17 t291.length co17] 44 (0, 0)) (by (with_reducible repeat (first | refine blk_drewN ?_ _ | refine blk_drew ?_ | refine blk_alloc ?_ _)); exact BK295.out) hb); have n3_ := Aside0.mk (blk_below (g := gb305) (o := .cells #[.int .i64 t299, .int .i64 t300, .slice Ao24 t301.length co24] 44 (0, 0)) (by (with_reducible repeat (first | refine blk_drewN ?_ _ | refine blk_drew ?_ | refine blk_alloc ?_ _)); exact BK305.out) hb); have n4_ := Aside0.mk (below_step (by repeat (first | (with_reducible first | exact HB.out | apply below_alloc | apply pw_below_drewN | apply below_drew1 | refine below_set ?_ GE295.out | refine below_set ?_ GE305.out) | exact HB.out)) hb); clear HO_296002; clear HO_306002; clear BK295; clear BK305; clear HB; have HO_296002 := n0_; have HO_306002 := n1_; have BK295 := n2_; have BK305 := n3_; have HB := n4_; clear n0_ n1_ n2_ n3_ n4_; (try clear hb); (try clear hb2); (try clear hk); (try clear hi)) | ((with_reducible refine gate_callee (f := 17) rfl ?_); refine goesL_ (some 88) rfl rfl Try.func17 (by kernel_rfl) rfl #[.slice A1 l1.length c1] rfl (by (try simp only [List.map_toArray, List.map_cons, List.map_nil]); first | done | rfl | (simp only [List.length_drop, List.length_take]; rfl)) ?_; (with_reducible refine (laws_toCallS.calls kj35 _ _ l1 t317 _ ?side1 ?side2 A53.out).mono ?_); (case side1 => repeat (first | exact (Kd.C_below HR1.out HB.out) | (with_reducible refine Kd.C_alloc ?_ _) | (with_reducible refine Kd.C_drewN ?_ _) | (with_reducible refine Kd.C_drew ?_))); (case side2 => exact HC1.out); rintro e w61 ⟨v318, rfl, ho0, hb⟩; refine ⟨_, rfl, ?_⟩; have n0_ := Aside0.mk (Kd.R_below (by (with_reducible repeat (first | apply Kd.R_alloc | apply Kd.R_drewN | apply Kd.R_drew)); exact HO_296002.out) hb); have n1_ := Aside0.mk (Kd.R_below (by (with_reducible repeat (first | apply Kd.R_alloc | apply Kd.R_drewN | apply Kd.R_drew)); exact HO_306002.out) hb); have n2_ := Aside0.mk (Kd.R_lower ho0 (below_size (by repeat (first | (with_reducible first | exact HB.out | apply below_alloc | apply pw_below_drewN | apply below_drew1 | refine below_set ?_ GE295.out | refine below_set ?_ GE305.out) | exact HB.out)))); have n3_ := Aside0.mk (blk_below (g := gb295) (o := .cells #[.int .i64 t289, .int .i64 t290, .slice Ao17 t291.length co17] 44 (0, 0)) (by (with_reducible repeat (first | refine blk_drewN ?_ _ | refine blk_drew ?_ | refine blk_alloc ?_ _)); exact BK295.out) hb); have n4_ := Aside0.mk (blk_below (g := gb305) (o := .cells #[.int .i64 t299, .int .i64 t300, .slice Ao24 t301.length co24] 44 (0, 0)) (by (with_reducible repeat (first | refine blk_drewN ?_ _ | refine blk_drew ?_ | refine blk_alloc ?_ _)); exact BK305.out) hb); have n5_ := Aside0.mk (below_step (by repeat (first | (with_reducible first | exact HB.out | apply below_alloc | apply pw_below_drewN | apply below_drew1 | refine below_set ?_ GE295.out | refine below_set ?_ GE305.out) | exact HB.out)) hb); clear HO_296002; clear HO_306002; clear BK295; clear BK305; clear HB; have HO_296002 := n0_; have HO_306002 := n1_; have HO319 := n2_; have BK295 := n3_; have BK305 := n4_; have HB := n5_; clear n0_ n1_ n2_ n3_ n4_ n5_; (try clear hb); (try clear hb2); (try clear hk); (try clear hi); (try clear ho0); obtain ⟨Ao62, co62, eo62⟩ := Kd.R_slice HO319.out; subst eo62) | ((with_reducible refine gate_callee (f := 45) rfl ?_); refine goesL_ (some 91) rfl rfl Try.func45 (by kernel_rfl) rfl #[.int .i64 a0, .slice Ao62 t317.length co62, .int .i64 a2, .int .i64 a3] rfl (by (try simp only [List.map_toArray, List.map_cons, List.map_nil]); first | done | rfl | (simp only [List.length_drop, List.length_take]; rfl)) ?_; (with_reducible refine (impl_MakePuzzle.calls kj35 a0 _ _ t317 a2 a3 t320 t321 t322 t325 _ ?side1 ?side2 A54.out).mono ?_); (case side1 => repeat (first | exact (Kd.R_reads' HO319.out).2.2 | (with_reducible refine Kd.C_alloc ?_ _) | (with_reducible refine Kd.C_drewN ?_ _) | (with_reducible refine Kd.C_drew ?_))); (case side2 => exact (Kd.R_reads' HO319.out).2.1); rintro e w63 ⟨v323, rfl, ho0, hb⟩; refine ⟨_, rfl, ?_⟩; have n0_ := Aside0.mk (Kd.R_elder' (by (with_reducible repeat (first | apply Kd.R_alloc | apply Kd.R_drewN | apply Kd.R_drew)); exact HO_296002.out) (Kd.R_base ho0) hb); have n1_ := Aside0.mk (Kd.R_elder' (by (with_reducible repeat (first | apply Kd.R_alloc | apply Kd.R_drewN | apply Kd.R_drew)); exact HO_306002.out) (Kd.R_base ho0) hb); have n2_ := Aside0.mk (Kd.R_below (by (with_reducible repeat (first | apply Kd.R_alloc | apply Kd.R_drewN | apply Kd.R_drew)); exact HO319.out) hb); have n3_ := Aside0.mk (Kd.R_lower (Kd.R_new' (Kd.R_new' ho0 (Kd.R_lt (by (with_reducible repeat (first | apply Kd.R_alloc | apply Kd.R_drewN | apply Kd.R_drew)); exact HO_296002.out))) (Kd.R_lt (by (with_reducible repeat (first | apply Kd.R_alloc | apply Kd.R_drewN | apply Kd.R_drew)); exact HO_306002.out))) (below_size (by repeat (first | (with_reducible first | exact HB.out | apply below_alloc | apply pw_below_drewN | apply below_drew1 | refine below_set ?_ GE295.out | refine below_set ?_ GE305.out) | exact HB.out)))); have n4_ := Aside0.mk (blk_below (g := gb295) (o := .cells #[.int .i64 t289, .int .i64 t290, .slice Ao17 t291.length co17] 44 (0, 0)) (by (with_reducible repeat (first | refine blk_drewN ?_ _ | refine blk_drew ?_ | refine blk_alloc ?_ _)); exact BK295.out) hb); have n5_ := Aside0.mk (blk_below (g := gb305) (o := .cells #[.int .i64 t299, .int .i64 t300, .slice Ao24 t301.length co24] 44 (0, 0)) (by (with_reducible repeat (first | refine blk_drewN ?_ _ | refine blk_drew ?_ | refine blk_alloc ?_ _)); exact BK305.out) hb); have n6_ := Aside0.mk (below_step (by repeat (first | (with_reducible first | exact HB.out | apply below_alloc | apply pw_below_drewN | apply below_drew1 | refine below_set ?_ GE295.out | refine below_set ?_ GE305.out) | exact HB.out)) hb); clear HO_296002; clear HO_306002; clear HO319; clear BK295; clear BK305; clear HB; have HO_296002 := n0_; have HO_306002 := n1_; have HO319 := n2_; have HO324 := n3_; have BK295 := n4_; have BK305 := n5_; have HB := n6_; clear n0_ n1_ n2_ n3_ n4_ n5_ n6_; (try clear hb); (try clear hb2); (try clear hk); (try clear hi); (try clear ho0)) | ((with_reducible refine gate_dst (N := 18) rfl ?_); refine box_event ?hg (N := 18) ?hd (cs := #[.int .i64 0, .int .i64 0, .slice none 0 0]) (t := 44) ?hr ?_; (case hd => rfl); (case hg => rfl); (case hr => first | (go_simp; done) | (go_simp; rfl)); intro gb326 hg w64 hbox hb; have n0_ := Aside0.mk (Kd.R_below (by (with_reducible repeat (first | apply Kd.R_alloc | apply Kd.R_drewN | apply Kd.R_drew)); exact HO_296002.out) hb); have n1_ := Aside0.mk (Kd.R_below (by (with_reducible repeat (first | apply Kd.R_alloc | apply Kd.R_drewN | apply Kd.R_drew)); exact HO_306002.out) hb); have n2_ := Aside0.mk (Kd.R_below (by (with_reducible repeat (first | apply Kd.R_alloc | apply Kd.R_drewN | apply Kd.R_drew)); exact HO319.out) hb); have n3_ := Aside0.mk (Kd.R_below (by (with_reducible repeat (first | apply Kd.R_alloc | apply Kd.R_drewN | apply Kd.R_drew)); exact HO324.out) hb); have n4_ := Aside0.mk (blk_below (g := gb295) (o := .cells #[.int .i64 t289, .int .i64 t290, .slice Ao17 t291.length co17] 44 (0, 0)) (by (with_reducible repeat (first | refine blk_drewN ?_ _ | refine blk_drew ?_ | refine blk_alloc ?_ _)); exact BK295.out) hb); have n5_ := Aside0.mk (blk_below (g := gb305) (o := .cells #[.int .i64 t299, .int .i64 t300, .slice Ao24 t301.length co24] 44 (0, 0)) (by (with_reducible repeat (first | refine blk_drewN ?_ _ | refine blk_drew ?_ | refine blk_alloc ?_ _)); exact BK305.out) hb); have n6_ := Aside0.mk (below_step (by repeat (first | (with_reducible first | exact HB.out | apply below_alloc | apply pw_below_drewN | apply below_drew1 | refine below_set ?_ GE295.out | refine below_set ?_ GE305.out) | exact HB.out)) hb); have n7_ := Aside0.mk (hbox); have n8_ := Aside0.mk ((by rw [hg]; exact (below_size (by repeat (first | (with_reducible first | exact HB.out | apply below_alloc | apply pw_below_drewN | apply below_drew1 | refine below_set ?_ GE295.out | refine below_set ?_ GE305.out) | exact HB.out))) : w.heap.size ≤ gb326)); have n9_ := Aside0.mk ((by rw [hg]; exact (below_size (by repeat (first | (with_reducible first | exact HB.out | apply below_alloc | apply pw_below_drewN | apply below_drew1 | refine below_set ?_ GE295.out | refine below_set ?_ GE305.out) | exact HB.out))) : w.heap.size ≤ gb326)); have n10_ := Aside0.mk ((by rw [hg]; exact Nat.ne_of_lt (blk_lt (g := gb295) (o := .cells #[.int .i64 t289, .int .i64 t290, .slice Ao17 t291.length co17] 44 (0, 0)) (by (with_reducible repeat (first | refine blk_drewN ?_ _ | refine blk_drew ?_ | refine blk_alloc ?_ _)); exact BK295.out)) : gb295 ≠ gb326)); have n11_ := Aside0.mk ((by rw [hg]; exact Nat.ne_of_gt (blk_lt (g := gb295) (o := .cells #[.int .i64 t289, .int .i64 t290, .slice Ao17 t291.length co17] 44 (0, 0)) (by (with_reducible repeat (first | refine blk_drewN ?_ _ | refine blk_drew ?_ | refine blk_alloc ?_ _)); exact BK295.out)) : gb326 ≠ gb295)); have n12_ := Aside0.mk ((by rw [hg]; exact Nat.ne_of_lt (blk_lt (g := gb305) (o := .cells #[.int .i64 t299, .int .i64 t300, .slice Ao24 t301.length co24] 44 (0, 0)) (by (with_reducible repeat (first | refine blk_drewN ?_ _ | refine blk_drew ?_ | refine blk_alloc ?_ _)); exact BK305.out)) : gb305 ≠ gb326)); have n13_ := Aside0.mk ((by rw [hg]; exact Nat.ne_of_gt (blk_lt (g := gb305) (o := .cells #[.int .i64 t299, .int .i64 t300, .slice Ao24 t301.length co24] 44 (0, 0)) (by (with_reducible repeat (first | refine blk_drewN ?_ _ | refine blk_drew ?_ | refine blk_alloc ?_ _)); exact BK305.out)) : gb326 ≠ gb305)); clear HO_296002; clear HO_306002; clear HO319; clear HO324; clear BK295; clear BK305; clear HB; have HO_296002 := n0_; have HO_306002 := n1_; have HO319 := n2_; have HO324 := n3_; have BK295 := n4_; have BK305 := n5_; have HB := n6_; have BK326 := n7_; have GW326 := n8_; have GE326 := n9_; have NB295_326 := n10_; have NB326_295 := n11_; have NB305_326 := n12_; have NB326_305 := n13_; clear n0_ n1_ n2_ n3_ n4_ n5_ n6_ n7_ n8_ n9_ n10_ n11_ n12_ n13_; clear hb hbox hg; have hnb65 := NB326_295.out; have hnc65 := NB295_326.out; have hnb66 := NB326_305.out; have hnc66 := NB305_326.out; have hcz67_0 : w64.cell? ⟨gb326, 0, none⟩ = some (.int .i64 0) := (blk_cell BK326.out 0).trans rfl; have hcz67_1 : w64.cell? ⟨gb326, 1, none⟩ = some (.int .i64 0) := (blk_cell BK326.out 1).trans rfl; have hcz67_2 : w64.cell? ⟨gb326, 2, none⟩ = some (.slice none 0 0) := (blk_cell BK326.out 2).trans rfl; have hfz67_0 := blk_frozen BK326.out 0; have hfz67_1 := blk_frozen BK326.out 1; have hfz67_2 := blk_frozen BK326.out 2; obtain ⟨Ao68, co68, eo68⟩ := Kd.R_slice HO324.out; subst eo68))
                      (try simp only [Act.put, List.setIfInBounds_toArray, List.set_cons_zero, List.set_cons_succ])
                      go_cut [102] (fun v102 wc => ∃ (kq : Nat) (x102_54 : Bool), v102 = .bool x102_54 ∧ Aside0 (laws_FnExactMakePuzzle.j2 kq t314 x102_54 t299 t300 t315 = some r) ∧ Aside0 (kq ≤ kj35) ∧ Aside0 (Kd.R k31 31 wc w.heap.size (fun k_ => some k_ ≠ ((.slice Ao24 t301.length co24) : Value).ownBlock ∧ some k_ ≠ ((.slice Ao68 t322.length co68) : Value).ownBlock) (.slice Ao17 t291.length co17) t291) ∧ Aside0 (Kd.R k31 31 wc w.heap.size (fun k_ => some k_ ≠ ((.slice Ao17 t291.length co17) : Value).ownBlock ∧ some k_ ≠ ((.slice Ao68 t322.length co68) : Value).ownBlock) (.slice Ao24 t301.length co24) t315) ∧ Aside0 (Kd.R k31 31 wc w.heap.size (fun k_ => some k_ ≠ ((.slice Ao17 t291.length co17) : Value).ownBlock ∧ some k_ ≠ ((.slice Ao24 t301.length co24) : Value).ownBlock) (.slice Ao68 t322.length co68) t322) ∧ Aside0 (wc.heap[gb295]? = some (.cells #[.int .i64 t289, .int .i64 t290, (.slice Ao17 t291.length co17)] 44 (0, 0))) ∧ Aside0 (wc.heap[gb305]? = some (.cells #[.int .i64 t299, .int .i64 t300, (.slice Ao24 t301.length co24)] 44 (0, 0))) ∧ Aside0 (wc.heap[gb326]? = some (.cells #[.int .i64 t320, .int .i64 t321, (.slice Ao68 t322.length co68)] 44 (0, 0))) ∧ Aside0 (Below w.heap.size w wc))
                      case first =>
                        have H := HC55.out
                        clear HC55
                        replace H := Option.bind_eq_some_iff.mp H
                        obtain ⟨t327, A690, H⟩ := H
                        replace H : (if t327 = true then (laws_FnExactMakePuzzle.j2 kj35 t314 (t325 != t294) t299 t300 t315) else (laws_FnExactMakePuzzle.j2 kj35 t314 true t299 t300 t315)) = some r := H
                        have A69 := Aside0.mk A690
                        clear A690
                        by_cases c70 : t327 = true
                        · subst c70
                          have H1 : (laws_FnExactMakePuzzle.j2 kj35 t314 (t325 != t294) t299 t300 t315) = some r := by rw [if_pos rfl] at H; exact H
                          clear H
                          have H := H1
                          clear H1
                          have H' := Aside0.mk H
                          clear H
                          have hnb71 := NB326_295.out
                          have hnc71 := NB295_326.out
                          have hnb72 := NB326_305.out
                          have hnc72 := NB305_326.out
                          have hcz73_0 : w64.cell? ⟨gb326, 0, none⟩ = some (.int .i64 0) := (blk_cell BK326.out 0).trans rfl
                          have hcz73_1 : w64.cell? ⟨gb326, 1, none⟩ = some (.int .i64 0) := (blk_cell BK326.out 1).trans rfl
                          have hcz73_2 : w64.cell? ⟨gb326, 2, none⟩ = some (.slice none 0 0) := (blk_cell BK326.out 2).trans rfl
                          have hfz73_0 := blk_frozen BK326.out 0
                          have hfz73_1 := blk_frozen BK326.out 1
                          have hfz73_2 := blk_frozen BK326.out 2
                          have hnb74 := NB295_305.out
                          have hnc74 := NB305_295.out
                          have hcz75_0 : w64.cell? ⟨gb295, 0, none⟩ = some (.int .i64 t289) := (blk_cell BK295.out 0).trans rfl
                          have hcz75_1 : w64.cell? ⟨gb295, 1, none⟩ = some (.int .i64 t290) := (blk_cell BK295.out 1).trans rfl
                          have hcz75_2 : w64.cell? ⟨gb295, 2, none⟩ = some (.slice Ao17 t291.length co17) := (blk_cell BK295.out 2).trans rfl
                          have hfz75_0 := blk_frozen BK295.out 0
                          have hfz75_1 := blk_frozen BK295.out 1
                          have hfz75_2 := blk_frozen BK295.out 2
                          go_wp2_with (first | ((with_reducible refine gate_callee (f := 24) rfl ?_); refine goesL_ (some 96) rfl rfl Try.func24 (by kernel_rfl) rfl #[.agg #[.int .i64 t320, .int .i64 t321, .slice Ao68 t322.length co68], .agg #[.int .i64 t289, .int .i64 t290, .slice Ao17 t291.length co17]] rfl (by (try simp only [List.map_toArray, List.map_cons, List.map_nil]); first | done | rfl | (simp only [List.length_drop, List.length_take]; rfl)) ?_; (with_reducible refine (laws_eqPuzzle.calls kj35 t320 t321 _ _ t322 t289 t290 _ _ t291 true _ ?side1 ?side2 ?side3 ?side4 A69.out).mono ?_); (case side1 => refine (Kd.R_reads' (e := 31) (base := w.heap.size) (ok := fun k_ => ((True ∧ some k_ ≠ (.slice Ao17 t291.length co17 : Value).ownBlock) ∧ some k_ ≠ (.slice Ao24 t301.length co24 : Value).ownBlock)) (n := t322.length) (c := co68) ?_).2.2; exact (by (with_reducible repeat (first | apply Kd.R_alloc | apply Kd.R_drewN | apply Kd.R_drew)); exact (Kd.R_mono (Kd.R_far (p := ⟨gb326, 2, none⟩) (Kd.R_far (p := ⟨gb326, 1, none⟩) (Kd.R_far (p := ⟨gb326, 0, none⟩) (Kd.R_types HO324.out BK326.out (by decide)) (fun _ hk => hk.2) (.int .i64 t320)) (fun _ hk => hk.2) (.int .i64 t321)) (fun _ hk => hk.2) (.slice Ao68 t322.length co68)) (fun _ h_ => h_.1)))); (case side2 => exact (Kd.R_reads' HO324.out).2.1); (case side3 => refine (Kd.R_reads' (e := 31) (base := w.heap.size) (ok := fun k_ => (some k_ ≠ (.slice Ao24 t301.length co24 : Value).ownBlock ∧ some k_ ≠ (.slice Ao68 t322.length co68 : Value).ownBlock)) (n := t291.length) (c := co17) ?_).2.2; exact (by (with_reducible repeat (first | apply Kd.R_alloc | apply Kd.R_drewN | apply Kd.R_drew)); exact (Kd.R_mono (Kd.R_far (p := ⟨gb326, 2, none⟩) (Kd.R_far (p := ⟨gb326, 1, none⟩) (Kd.R_far (p := ⟨gb326, 0, none⟩) (Kd.R_types HO_296002.out BK326.out (by decide)) (fun _ hk => hk.2) (.int .i64 t320)) (fun _ hk => hk.2) (.int .i64 t321)) (fun _ hk => hk.2) (.slice Ao68 t322.length co68)) (fun _ h_ => h_.1)))); (case side4 => exact (Kd.R_reads' HO_296002.out).2.1); rintro e w76 ⟨rfl, hb⟩; refine ⟨_, rfl, ?_⟩; have n0_ := Aside0.mk (Kd.R_below (by (with_reducible repeat (first | apply Kd.R_alloc | apply Kd.R_drewN | apply Kd.R_drew)); exact (Kd.R_mono (Kd.R_far (p := ⟨gb326, 2, none⟩) (Kd.R_far (p := ⟨gb326, 1, none⟩) (Kd.R_far (p := ⟨gb326, 0, none⟩) (Kd.R_types HO_296002.out BK326.out (by decide)) (fun _ hk => hk.2) (.int .i64 t320)) (fun _ hk => hk.2) (.int .i64 t321)) (fun _ hk => hk.2) (.slice Ao68 t322.length co68)) (fun _ h_ => h_.1))) hb); have n1_ := Aside0.mk (Kd.R_below (by (with_reducible repeat (first | apply Kd.R_alloc | apply Kd.R_drewN | apply Kd.R_drew)); exact (Kd.R_mono (Kd.R_far (p := ⟨gb326, 2, none⟩) (Kd.R_far (p := ⟨gb326, 1, none⟩) (Kd.R_far (p := ⟨gb326, 0, none⟩) (Kd.R_types HO_306002.out BK326.out (by decide)) (fun _ hk => hk.2) (.int .i64 t320)) (fun _ hk => hk.2) (.int .i64 t321)) (fun _ hk => hk.2) (.slice Ao68 t322.length co68)) (fun _ h_ => h_.1))) hb); have n2_ := Aside0.mk (Kd.R_below (by (with_reducible repeat (first | apply Kd.R_alloc | apply Kd.R_drewN | apply Kd.R_drew)); exact (Kd.R_mono (Kd.R_far (p := ⟨gb326, 2, none⟩) (Kd.R_far (p := ⟨gb326, 1, none⟩) (Kd.R_far (p := ⟨gb326, 0, none⟩) (Kd.R_types HO319.out BK326.out (by decide)) (fun _ hk => hk.2) (.int .i64 t320)) (fun _ hk => hk.2) (.int .i64 t321)) (fun _ hk => hk.2) (.slice Ao68 t322.length co68)) (fun _ h_ => h_.1))) hb); have n3_ := Aside0.mk (Kd.R_below (by (with_reducible repeat (first | apply Kd.R_alloc | apply Kd.R_drewN | apply Kd.R_drew)); exact (Kd.R_mono (Kd.R_far (p := ⟨gb326, 2, none⟩) (Kd.R_far (p := ⟨gb326, 1, none⟩) (Kd.R_far (p := ⟨gb326, 0, none⟩) (Kd.R_types HO324.out BK326.out (by decide)) (fun _ hk => hk.2) (.int .i64 t320)) (fun _ hk => hk.2) (.int .i64 t321)) (fun _ hk => hk.2) (.slice Ao68 t322.length co68)) (fun _ h_ => h_.1))) hb); have n4_ := Aside0.mk (blk_below (g := gb295) (o := .cells #[.int .i64 t289, .int .i64 t290, .slice Ao17 t291.length co17] 44 (0, 0)) (by (with_reducible repeat (first | refine blk_drewN ?_ _ | refine blk_drew ?_ | refine blk_alloc ?_ _)); refine blk_far ?_ NB295_326.out _; (with_reducible repeat (first | refine blk_drewN ?_ _ | refine blk_drew ?_ | refine blk_alloc ?_ _)); refine blk_far ?_ NB295_326.out _; (with_reducible repeat (first | refine blk_drewN ?_ _ | refine blk_drew ?_ | refine blk_alloc ?_ _)); refine blk_far ?_ NB295_326.out _; (with_reducible repeat (first | refine blk_drewN ?_ _ | refine blk_drew ?_ | refine blk_alloc ?_ _)); exact BK295.out) hb); have n5_ := Aside0.mk (blk_below (g := gb305) (o := .cells #[.int .i64 t299, .int .i64 t300, .slice Ao24 t301.length co24] 44 (0, 0)) (by (with_reducible repeat (first | refine blk_drewN ?_ _ | refine blk_drew ?_ | refine blk_alloc ?_ _)); refine blk_far ?_ NB305_326.out _; (with_reducible repeat (first | refine blk_drewN ?_ _ | refine blk_drew ?_ | refine blk_alloc ?_ _)); refine blk_far ?_ NB305_326.out _; (with_reducible repeat (first | refine blk_drewN ?_ _ | refine blk_drew ?_ | refine blk_alloc ?_ _)); refine blk_far ?_ NB305_326.out _; (with_reducible repeat (first | refine blk_drewN ?_ _ | refine blk_drew ?_ | refine blk_alloc ?_ _)); exact BK305.out) hb); have n6_ := Aside0.mk (blk_below (g := gb326) (o := .cells #[.int .i64 t320, .int .i64 t321, .slice Ao68 t322.length co68] 44 (0, 0)) (by (with_reducible repeat (first | refine blk_drewN ?_ _ | refine blk_drew ?_ | refine blk_alloc ?_ _)); refine blk_put (cs := #[.int .i64 t320, .int .i64 t321, .slice none 0 0]) ?_ 2 _ rfl; (with_reducible repeat (first | refine blk_drewN ?_ _ | refine blk_drew ?_ | refine blk_alloc ?_ _)); refine blk_put (cs := #[.int .i64 t320, .int .i64 0, .slice none 0 0]) ?_ 1 _ rfl; (with_reducible repeat (first | refine blk_drewN ?_ _ | refine blk_drew ?_ | refine blk_alloc ?_ _)); refine blk_put (cs := #[.int .i64 0, .int .i64 0, .slice none 0 0]) ?_ 0 _ rfl; (with_reducible repeat (first | refine blk_drewN ?_ _ | refine blk_drew ?_ | refine blk_alloc ?_ _)); exact BK326.out) hb); have n7_ := Aside0.mk (below_step (by repeat (first | (with_reducible first | exact HB.out | apply below_alloc | apply pw_below_drewN | apply below_drew1 | refine below_set ?_ GE295.out | refine below_set ?_ GE305.out | refine below_set ?_ GE326.out) | exact HB.out)) hb); clear HO_296002; clear HO_306002; clear HO319; clear HO324; clear BK295; clear BK305; clear BK326; clear HB; have HO_296002 := n0_; have HO_306002 := n1_; have HO319 := n2_; have HO324 := n3_; have BK295 := n4_; have BK305 := n5_; have BK326 := n6_; have HB := n7_; clear n0_ n1_ n2_ n3_ n4_ n5_ n6_ n7_; (try clear hb); (try clear hb2); (try clear hk); (try clear hi)))
                          go_meet
                          case rel => exact ⟨_, ((t325 != t294)), (by first | rfl | (simp; done) | (simp [*]; done)), H', ⟨by have := HJ10.out; have := HJ35.out; first | omega | exact Nat.le_refl _⟩, ⟨by (with_reducible repeat (first | apply Kd.R_alloc | apply Kd.R_drewN | apply Kd.R_drew)); exact HO_296002.out⟩, ⟨by (with_reducible repeat (first | apply Kd.R_alloc | apply Kd.R_drewN | apply Kd.R_drew)); exact HO_306002.out⟩, ⟨by (with_reducible repeat (first | apply Kd.R_alloc | apply Kd.R_drewN | apply Kd.R_drew)); exact Kd.R_mono HO324.out (fun _ hk => ⟨hk.1.2, hk.2⟩)⟩, ⟨by (with_reducible repeat (first | refine blk_drewN ?_ _ | refine blk_drew ?_ | refine blk_alloc ?_ _)); exact BK295.out⟩, ⟨by (with_reducible repeat (first | refine blk_drewN ?_ _ | refine blk_drew ?_ | refine blk_alloc ?_ _)); exact BK305.out⟩, ⟨by (with_reducible repeat (first | refine blk_drewN ?_ _ | refine blk_drew ?_ | refine blk_alloc ?_ _)); exact BK326.out⟩, ⟨by repeat (first | (with_reducible first | exact HB.out | apply below_alloc | apply pw_below_drewN | apply below_drew1 | refine below_set ?_ GE295.out | refine below_set ?_ GE305.out | refine below_set ?_ GE326.out) | exact HB.out)⟩⟩
                        · replace c70 := Bool.eq_false_iff.mpr c70
                          subst c70
                          have H1 : (laws_FnExactMakePuzzle.j2 kj35 t314 true t299 t300 t315) = some r := by rw [if_neg (show ¬ (false = true) by decide)] at H; exact H
                          clear H
                          have H := H1
                          clear H1
                          exact absurd (H.trans (congrArg some rT)) (laws_FnExactMakePuzzle.j2_no _ _ _ _ _)
                      case rest =>
                        clear HC55
                        try clear c1
                        try clear c2
                        try clear p2
                        try clear c3
                        try clear c4
                        try clear c5
                        try clear c6
                        try clear c6b0
                        try clear c7
                        try clear c11
                        try clear c14
                        try clear c17
                        try clear c19
                        try clear c22
                        try clear c24
                        try clear c26
                        try clear c27
                        try clear c30
                        try clear c31
                        try clear c34
                        try clear c35
                        try clear c41
                        try clear c41b0
                        try clear c43
                        try clear c44
                        try clear c45
                        try clear c46
                        try clear c48
                        try clear c51
                        try clear c51b0
                        try clear c52
                        try clear c52b0
                        try clear c52b1
                        try clear c56
                        try clear c65
                        try clear c66
                        try clear c70
                        try clear c71
                        try clear c72
                        try clear c74
                        try clear hcz16_0
                        try clear hcz16_1
                        try clear hcz16_2
                        try clear hcz23_0
                        try clear hcz23_1
                        try clear hcz23_2
                        try clear hcz28_0
                        try clear hcz28_1
                        try clear hcz28_2
                        try clear hcz29_0
                        try clear hcz29_1
                        try clear hcz29_2
                        try clear hcz45_0
                        try clear hcz45_1
                        try clear hcz45_2
                        try clear hcz46_0
                        try clear hcz46_1
                        try clear hcz46_2
                        try clear hcz57_0
                        try clear hcz57_1
                        try clear hcz57_2
                        try clear hcz59_0
                        try clear hcz59_1
                        try clear hcz59_2
                        try clear hcz67_0
                        try clear hcz67_1
                        try clear hcz67_2
                        try clear hcz73_0
                        try clear hcz73_1
                        try clear hcz73_2
                        try clear hcz75_0
                        try clear hcz75_1
                        try clear hcz75_2
                        try clear hfz16_0
                        try clear hfz16_1
                        try clear hfz16_2
                        try clear hfz23_0
                        try clear hfz23_1
                        try clear hfz23_2
                        try clear hfz28_0
                        try clear hfz28_1
                        try clear hfz28_2
                        try clear hfz29_0
                        try clear hfz29_1
                        try clear hfz29_2
                        try clear hfz45_0
                        try clear hfz45_1
                        try clear hfz45_2
                        try clear hfz46_0
                        try clear hfz46_1
                        try clear hfz46_2
                        try clear hfz57_0
                        try clear hfz57_1
                        try clear hfz57_2
                        try clear hfz59_0
                        try clear hfz59_1
                        try clear hfz59_2
                        try clear hfz67_0
                        try clear hfz67_1
                        try clear hfz67_2
                        try clear hfz73_0
                        try clear hfz73_1
                        try clear hfz73_2
                        try clear hfz75_0
                        try clear hfz75_1
                        try clear hfz75_2
                        try clear p2
                        obtain ⟨kq, x102_54, rfl, HA, HJ54, HO_296002, HO_306002, HO_327002, BK295, BK305, BK326, HB⟩ := hcut
                        have hl306002_54 := (Kd.R_reads' HO_306002.out).1
                        rw [hl306002_54] at HO_306002
                        (try simp only [hl306002_54])
                        (try simp only [hl306002_54] at BK295)
                        (try simp only [hl306002_54] at BK305)
                        (try simp only [hl306002_54] at BK326)
                        (try simp only [hl306002_54] at HO_296002)
                        (try simp only [hl306002_54] at HO_327002)
                        cases kq with
                        | zero => exact absurd HA.out (by simp [laws_FnExactMakePuzzle.j2])
                        | succ kj54 =>
                          have H := HA.out
                          clear HA
                          simp only [laws_FnExactMakePuzzle.j2] at H
                          by_cases c77 : x102_54 = true
                          · subst c77
                            have H1 : (some false) = some r := by rw [if_pos rfl] at H; exact H
                            clear H
                            have H := H1
                            clear H1
                            exact absurd ((Option.some.inj H).trans rT) (by decide)
                          · replace c77 := Bool.eq_false_iff.mpr c77
                            subst c77
                            have H1 : ((laws_heldPuzzle.f kj54 t299 t300 t315 1).bind fun t328 => (if t328 < 0 then (some false) else (if t328 = t314 then (some true) else (some false)))) = some r := by rw [if_neg (show ¬ (false = true) by decide)] at H; exact H
                            clear H
                            have H := H1
                            clear H1
                            replace H := Option.bind_eq_some_iff.mp H
                            obtain ⟨t328, A780, H⟩ := H
                            replace H : (if t328 < 0 then (some false) else (if t328 = t314 then (some true) else (some false))) = some r := H
                            have A78 := Aside0.mk A780
                            clear A780
                            by_cases c79 : t328 < 0
                            · rw [if_pos c79] at H
                              have c79b0 : decide (t328 < 0) = true := decide_eq_true c79
                              clear c79
                              exact absurd ((Option.some.inj H).trans rT) (by decide)
                            · rw [if_neg c79] at H
                              have c79b0 : decide (t328 < 0) = false := decide_eq_false c79
                              clear c79
                              by_cases c80 : t328 = t314
                              · rw [if_pos c80] at H
                                have c80b0 : (t328 == t314) = true := beq_iff_eq.mpr c80
                                have c80b1 : (t328 != t314) = false := bne_eq_false_iff_eq.mpr c80
                                clear c80
                                obtain rfl := Option.some.inj H
                                have hnb81 := NB305_295.out
                                have hnc81 := NB295_305.out
                                have hnb82 := NB305_326.out
                                have hnc82 := NB326_305.out
                                have hcz83_0 : wc.cell? ⟨gb305, 0, none⟩ = some (.int .i64 t299) := (blk_cell BK305.out 0).trans rfl
                                have hcz83_1 : wc.cell? ⟨gb305, 1, none⟩ = some (.int .i64 t300) := (blk_cell BK305.out 1).trans rfl
                                have hcz83_2 : wc.cell? ⟨gb305, 2, none⟩ = some (.slice Ao24 t315.length co24) := (blk_cell BK305.out 2).trans rfl
                                have hfz83_0 := blk_frozen BK305.out 0
                                have hfz83_1 := blk_frozen BK305.out 1
                                have hfz83_2 := blk_frozen BK305.out 2
                                go_wp2_with (first | ((with_reducible refine gate_callee (f := 46) rfl ?_); refine goesL_ (some 105) rfl rfl Try.func46 (by kernel_rfl) rfl #[.agg #[.int .i64 t299, .int .i64 t300, .slice Ao24 t315.length co24], .int .i64 1] rfl (by (try simp only [List.map_toArray, List.map_cons, List.map_nil]); first | done | rfl | (simp only [List.length_drop, List.length_take]; rfl)) ?_; (with_reducible refine (laws_heldPuzzle.calls kj54 t299 t300 _ _ t315 1 t328 _ ?side1 ?side2 A78.out).mono ?_); (case side1 => repeat (first | exact (Kd.R_reads' HO_306002.out).2.2 | (with_reducible refine Kd.C_alloc ?_ _) | (with_reducible refine Kd.C_drewN ?_ _) | (with_reducible refine Kd.C_drew ?_))); (case side2 => exact (Kd.R_reads' HO_306002.out).2.1); rintro e w84 ⟨rfl, hb⟩; refine ⟨_, rfl, ?_⟩; have n0_ := Aside0.mk (Kd.R_below (by (with_reducible repeat (first | apply Kd.R_alloc | apply Kd.R_drewN | apply Kd.R_drew)); exact HO_296002.out) hb); have n1_ := Aside0.mk (Kd.R_below (by (with_reducible repeat (first | apply Kd.R_alloc | apply Kd.R_drewN | apply Kd.R_drew)); exact HO_306002.out) hb); have n2_ := Aside0.mk (Kd.R_below (by (with_reducible repeat (first | apply Kd.R_alloc | apply Kd.R_drewN | apply Kd.R_drew)); exact HO_327002.out) hb); have n3_ := Aside0.mk (blk_below (g := gb295) (o := .cells #[.int .i64 t289, .int .i64 t290, .slice Ao17 t291.length co17] 44 (0, 0)) (by (with_reducible repeat (first | refine blk_drewN ?_ _ | refine blk_drew ?_ | refine blk_alloc ?_ _)); exact BK295.out) hb); have n4_ := Aside0.mk (blk_below (g := gb305) (o := .cells #[.int .i64 t299, .int .i64 t300, .slice Ao24 t315.length co24] 44 (0, 0)) (by (with_reducible repeat (first | refine blk_drewN ?_ _ | refine blk_drew ?_ | refine blk_alloc ?_ _)); exact BK305.out) hb); have n5_ := Aside0.mk (blk_below (g := gb326) (o := .cells #[.int .i64 t320, .int .i64 t321, .slice Ao68 t322.length co68] 44 (0, 0)) (by (with_reducible repeat (first | refine blk_drewN ?_ _ | refine blk_drew ?_ | refine blk_alloc ?_ _)); exact BK326.out) hb); have n6_ := Aside0.mk (below_step (by repeat (first | (with_reducible first | exact HB.out | apply below_alloc | apply pw_below_drewN | apply below_drew1 | refine below_set ?_ GE295.out | refine below_set ?_ GE305.out | refine below_set ?_ GE326.out) | exact HB.out)) hb); clear HO_296002; clear HO_306002; clear HO_327002; clear BK295; clear BK305; clear BK326; clear HB; have HO_296002 := n0_; have HO_306002 := n1_; have HO_327002 := n2_; have BK295 := n3_; have BK305 := n4_; have BK326 := n5_; have HB := n6_; clear n0_ n1_ n2_ n3_ n4_ n5_ n6_; (try clear hb); (try clear hb2); (try clear hk); (try clear hi)))
                                go_ret
                                exact ⟨by first | rfl | (simp [errW_none, errW_some] <;> rfl) | (simp [*, errW_none, errW_some] <;> rfl), by repeat (first | (with_reducible first | exact HB.out | apply below_alloc | apply pw_below_drewN | apply below_drew1 | refine below_set ?_ GE295.out | refine below_set ?_ GE305.out | refine below_set ?_ GE326.out) | exact HB.out)⟩
                              · rw [if_neg c80] at H
                                have c80b0 : (t328 == t314) = false := beq_eq_false_iff_ne.mpr c80
                                have c80b1 : (t328 != t314) = true := bne_iff_ne.mpr c80
                                exact absurd ((Option.some.inj H).trans rT) (by decide)
                    · rw [if_neg c52] at H
                      have c52b0 : (t316 == t314) = false := beq_eq_false_iff_ne.mpr c52
                      have c52b1 : (t316 != t314) = true := bne_iff_ne.mpr c52
                      exact absurd ((Option.some.inj H).trans rT) (by decide)
          · replace c34 := Bool.eq_false_iff.mpr c34
            subst c34
            have H1 : (some false) = some r := by rw [if_neg (show ¬ (false = true) by decide)] at H; exact H
            clear H
            have H := H1
            clear H1
            exact absurd ((Option.some.inj H).trans rT) (by decide)

end Go.Proofs.Ythakmnjamdggeaa.PFnExactMakePuzzle
