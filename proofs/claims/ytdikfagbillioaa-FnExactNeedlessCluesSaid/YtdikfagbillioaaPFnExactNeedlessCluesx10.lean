/- Printed by a program of this session (wip/pp) over the kit's print, for FnExactNeedlessClues. No conditions beyond those that each theorem names. -/
import Derived.Test.YtdikfagbillioaaPFnExactNeedlessCluesx0
import Derived.Test.YtdikfagbillioaaPFnExactNeedlessCluesx1
import Derived.Test.YtdikfagbillioaaPFnExactNeedlessCluesx5
import Derived.Test.YtdikfagbillioaaPFnExactNeedlessCluesx9
namespace Go.Proofs.Ytdikfagbillioaa.PFnExactNeedlessClues
open Go.RowKit Go.Proofs.YtdikfagbillioaaW.PrintWords Go.Proofs.YtdikfagbillioaaW.PrintLast Go.Proofs.YtdikfagbillioaaW.PrintMore
attribute [local go_sem] max2_int min2_int max_two min_two max_three min_three max_four min_four   -- for this text's walks alone
set_option linter.unusedVariables false
set_option linter.unusedSimpArgs false

/-! ### laws_FnExactNeedlessClues: function 4 -/
mutual
def laws_FnExactNeedlessClues.j0 : Nat → List Int → Bool → List Int → Bool → Bool → Int → Int → List (S66) → Int → Int → List (S48) → Option (Bool)
  | 0, _, _, _, _, _, _, _, _, _, _, _ => none
  | k + 1, x4, x5, x7, x8, x40, x323000, x323001, x323002, x339000, x339001, x339002 => if x40 = true then (some false) else ((laws_toPuzzle.f k x323000 x323001 x323002).bind fun bt344 => ((laws_eqPuzzle.f k x339000 x339001 x339002 bt344.1 bt344.2.1 bt344.2.2).bind fun t349 => (if t349 = true then ((laws_markPuzzle.f k x339000 x339001 x339002 1).bind fun bt350 => (if bt350.1 < 0 then (laws_FnExactNeedlessClues.j1 k x4 x5 x7 true x323000 x323001 x323002) else ((laws_eqIntS.f k x7 x4).bind fun t352 => (if t352 = true then (laws_FnExactNeedlessClues.j1 k x4 x5 x7 (x8 != x5) x323000 x323001 x323002) else (laws_FnExactNeedlessClues.j1 k x4 x5 x7 true x323000 x323001 x323002))))) else (some false))))
def laws_FnExactNeedlessClues.j1 : Nat → List Int → Bool → List Int → Bool → Int → Int → List (S66) → Option (Bool)
  | 0, _, _, _, _, _, _, _ => none
  | k + 1, x4, x5, x7, x61, x323000, x323001, x323002 => if x61 = true then (some false) else ((laws_markIntS.f k x7 1).bind fun bt353 => ((laws_heldIntS.f k bt353.2 1).bind fun t355 => (if t355 < 0 then (some false) else (if t355 = bt353.1 then ((laws_toPuzzle.f k x323000 x323001 x323002).bind fun bt356 => ((impl_NeedlessClues.f k bt356.1 bt356.2.1 bt356.2.2).bind fun bt361 => ((laws_eqIntS.f k bt361.1 x4).bind fun t365 => (if t365 = true then (laws_FnExactNeedlessClues.j2 k bt353.2 bt353.1 (bt361.2 != x5)) else (laws_FnExactNeedlessClues.j2 k bt353.2 bt353.1 true))))) else (some false)))))
def laws_FnExactNeedlessClues.j2 : Nat → List Int → Int → Bool → Option (Bool)
  | 0, _, _, _ => none
  | k + 1, x7, x10, x87 => if x87 = true then (some false) else ((laws_heldIntS.f k x7 1).bind fun t366 => (if t366 < 0 then (some false) else (if t366 = x10 then (some true) else (some false))))
end
def laws_FnExactNeedlessClues.f (k : Nat) (a0_0 : Int) (a0_1 : Int) (l0_2 : List (S66)) : Option (Bool) := (laws_szPuzzle.f a0_0 a0_1 l0_2 1048576).bind fun t323 => (if t323 < 0 then (some true) else ((laws_toPuzzle.f k a0_0 a0_1 l0_2).bind fun bt324 => ((spec_NeedlessClues.f k bt324.1 bt324.2.1 bt324.2.2).bind fun bt329 => ((laws_toPuzzle.f k a0_0 a0_1 l0_2).bind fun bt333 => ((impl_NeedlessClues.f k bt333.1 bt333.2.1 bt333.2.2).bind fun bt339 => ((laws_eqIntS.f k bt339.1 bt329.1).bind fun t343 => (if t343 = true then (laws_FnExactNeedlessClues.j0 k bt329.1 bt329.2 bt339.1 bt339.2 (bt339.2 != bt329.2) a0_0 a0_1 l0_2 bt333.1 bt333.2.1 bt333.2.2) else (laws_FnExactNeedlessClues.j0 k bt329.1 bt329.2 bt339.1 bt339.2 true a0_0 a0_1 l0_2 bt333.1 bt333.2.1 bt333.2.2))))))))
theorem laws_FnExactNeedlessClues.mono_l : ∀ k, (∀ y0 y1 y2 y3 y4 y5 y6 y7 y8 y9 y10, LeO (laws_FnExactNeedlessClues.j0 k y0 y1 y2 y3 y4 y5 y6 y7 y8 y9 y10) (laws_FnExactNeedlessClues.j0 (k + 1) y0 y1 y2 y3 y4 y5 y6 y7 y8 y9 y10)) ∧ (∀ y0 y1 y2 y3 y4 y5 y6, LeO (laws_FnExactNeedlessClues.j1 k y0 y1 y2 y3 y4 y5 y6) (laws_FnExactNeedlessClues.j1 (k + 1) y0 y1 y2 y3 y4 y5 y6)) ∧ (∀ y0 y1 y2, LeO (laws_FnExactNeedlessClues.j2 k y0 y1 y2) (laws_FnExactNeedlessClues.j2 (k + 1) y0 y1 y2))
  | 0 => ⟨fun _ _ _ _ _ _ _ _ _ _ _ r h => by simp [laws_FnExactNeedlessClues.j0] at h, fun _ _ _ _ _ _ _ r h => by simp [laws_FnExactNeedlessClues.j1] at h, fun _ _ _ r h => by simp [laws_FnExactNeedlessClues.j2] at h⟩
  | k + 1 => by
    obtain ⟨ih0, ih1, ih2⟩ := laws_FnExactNeedlessClues.mono_l k
    refine ⟨?_, ?_, ?_⟩
    · intro y0 y1 y2 y3 y4 y5 y6 y7 y8 y9 y10
      unfold laws_FnExactNeedlessClues.j0
      repeat' first
      | (with_reducible exact ih0 _ _ _ _ _ _ _ _ _ _ _)
      | (with_reducible exact ih1 _ _ _ _ _ _ _)
      | (with_reducible exact ih2 _ _ _)
      | (with_reducible exact impl_NeedlessClues.mono _ _ _ _)
      | (with_reducible exact laws_eqIntS.mono _ _ _)
      | (with_reducible exact laws_eqPuzzle.mono _ _ _ _ _ _ _)
      | (with_reducible exact laws_heldIntS.mono _ _ _)
      | (with_reducible exact laws_markIntS.mono _ _ _)
      | (with_reducible exact laws_markPuzzle.mono _ _ _ _ _)
      | (with_reducible exact laws_toPuzzle.mono _ _ _ _)
      | (with_reducible exact spec_NeedlessClues.mono _ _ _ _)
      | (with_reducible exact LeO.refl _)
      | (with_reducible exact LeO.none _)
      | (with_reducible refine LeO.ite ?_ ?_)
      | (with_reducible refine LeO.bind ?_ (fun _ => ?_))
      | exact ih0 _ _ _ _ _ _ _ _ _ _ _
      | exact ih1 _ _ _ _ _ _ _
      | exact ih2 _ _ _
      | exact impl_NeedlessClues.mono _ _ _ _
      | exact laws_eqIntS.mono _ _ _
      | exact laws_eqPuzzle.mono _ _ _ _ _ _ _
      | exact laws_heldIntS.mono _ _ _
      | exact laws_markIntS.mono _ _ _
      | exact laws_markPuzzle.mono _ _ _ _ _
      | exact laws_toPuzzle.mono _ _ _ _
      | exact spec_NeedlessClues.mono _ _ _ _
      | exact LeO.none _
      | refine LeO.ite ?_ ?_
      | refine LeO.bind ?_ (fun _ => ?_)
    · intro y0 y1 y2 y3 y4 y5 y6
      unfold laws_FnExactNeedlessClues.j1
      repeat' first
      | (with_reducible exact ih0 _ _ _ _ _ _ _ _ _ _ _)
      | (with_reducible exact ih1 _ _ _ _ _ _ _)
      | (with_reducible exact ih2 _ _ _)
      | (with_reducible exact impl_NeedlessClues.mono _ _ _ _)
      | (with_reducible exact laws_eqIntS.mono _ _ _)
      | (with_reducible exact laws_eqPuzzle.mono _ _ _ _ _ _ _)
      | (with_reducible exact laws_heldIntS.mono _ _ _)
      | (with_reducible exact laws_markIntS.mono _ _ _)
      | (with_reducible exact laws_markPuzzle.mono _ _ _ _ _)
      | (with_reducible exact laws_toPuzzle.mono _ _ _ _)
      | (with_reducible exact spec_NeedlessClues.mono _ _ _ _)
      | (with_reducible exact LeO.refl _)
      | (with_reducible exact LeO.none _)
      | (with_reducible refine LeO.ite ?_ ?_)
      | (with_reducible refine LeO.bind ?_ (fun _ => ?_))
      | exact ih0 _ _ _ _ _ _ _ _ _ _ _
      | exact ih1 _ _ _ _ _ _ _
      | exact ih2 _ _ _
      | exact impl_NeedlessClues.mono _ _ _ _
      | exact laws_eqIntS.mono _ _ _
      | exact laws_eqPuzzle.mono _ _ _ _ _ _ _
      | exact laws_heldIntS.mono _ _ _
      | exact laws_markIntS.mono _ _ _
      | exact laws_markPuzzle.mono _ _ _ _ _
      | exact laws_toPuzzle.mono _ _ _ _
      | exact spec_NeedlessClues.mono _ _ _ _
      | exact LeO.none _
      | refine LeO.ite ?_ ?_
      | refine LeO.bind ?_ (fun _ => ?_)
    · intro y0 y1 y2
      unfold laws_FnExactNeedlessClues.j2
      repeat' first
      | (with_reducible exact ih0 _ _ _ _ _ _ _ _ _ _ _)
      | (with_reducible exact ih1 _ _ _ _ _ _ _)
      | (with_reducible exact ih2 _ _ _)
      | (with_reducible exact impl_NeedlessClues.mono _ _ _ _)
      | (with_reducible exact laws_eqIntS.mono _ _ _)
      | (with_reducible exact laws_eqPuzzle.mono _ _ _ _ _ _ _)
      | (with_reducible exact laws_heldIntS.mono _ _ _)
      | (with_reducible exact laws_markIntS.mono _ _ _)
      | (with_reducible exact laws_markPuzzle.mono _ _ _ _ _)
      | (with_reducible exact laws_toPuzzle.mono _ _ _ _)
      | (with_reducible exact spec_NeedlessClues.mono _ _ _ _)
      | (with_reducible exact LeO.refl _)
      | (with_reducible exact LeO.none _)
      | (with_reducible refine LeO.ite ?_ ?_)
      | (with_reducible refine LeO.bind ?_ (fun _ => ?_))
      | exact ih0 _ _ _ _ _ _ _ _ _ _ _
      | exact ih1 _ _ _ _ _ _ _
      | exact ih2 _ _ _
      | exact impl_NeedlessClues.mono _ _ _ _
      | exact laws_eqIntS.mono _ _ _
      | exact laws_eqPuzzle.mono _ _ _ _ _ _ _
      | exact laws_heldIntS.mono _ _ _
      | exact laws_markIntS.mono _ _ _
      | exact laws_markPuzzle.mono _ _ _ _ _
      | exact laws_toPuzzle.mono _ _ _ _
      | exact spec_NeedlessClues.mono _ _ _ _
      | exact LeO.none _
      | refine LeO.ite ?_ ?_
      | refine LeO.bind ?_ (fun _ => ?_)
theorem laws_FnExactNeedlessClues.mono : ∀ a0 a1 a2 k, LeO (laws_FnExactNeedlessClues.f k a0 a1 a2) (laws_FnExactNeedlessClues.f (k + 1) a0 a1 a2) := by
  intro a0 a1 a2 k
  obtain ⟨ih0, ih1, ih2⟩ := laws_FnExactNeedlessClues.mono_l k
  unfold laws_FnExactNeedlessClues.f
  repeat' first
      | (with_reducible exact ih0 _ _ _ _ _ _ _ _ _ _ _)
      | (with_reducible exact ih1 _ _ _ _ _ _ _)
      | (with_reducible exact ih2 _ _ _)
      | (with_reducible exact impl_NeedlessClues.mono _ _ _ _)
      | (with_reducible exact laws_eqIntS.mono _ _ _)
      | (with_reducible exact laws_eqPuzzle.mono _ _ _ _ _ _ _)
      | (with_reducible exact laws_heldIntS.mono _ _ _)
      | (with_reducible exact laws_markIntS.mono _ _ _)
      | (with_reducible exact laws_markPuzzle.mono _ _ _ _ _)
      | (with_reducible exact laws_toPuzzle.mono _ _ _ _)
      | (with_reducible exact spec_NeedlessClues.mono _ _ _ _)
      | (with_reducible exact LeO.refl _)
      | (with_reducible exact LeO.none _)
      | (with_reducible refine LeO.ite ?_ ?_)
      | (with_reducible refine LeO.bind ?_ (fun _ => ?_))
      | exact ih0 _ _ _ _ _ _ _ _ _ _ _
      | exact ih1 _ _ _ _ _ _ _
      | exact ih2 _ _ _
      | exact impl_NeedlessClues.mono _ _ _ _
      | exact laws_eqIntS.mono _ _ _
      | exact laws_eqPuzzle.mono _ _ _ _ _ _ _
      | exact laws_heldIntS.mono _ _ _
      | exact laws_markIntS.mono _ _ _
      | exact laws_markPuzzle.mono _ _ _ _ _
      | exact laws_toPuzzle.mono _ _ _ _
      | exact spec_NeedlessClues.mono _ _ _ _
      | exact LeO.none _
      | refine LeO.ite ?_ ?_
      | refine LeO.bind ?_ (fun _ => ?_)
theorem laws_FnExactNeedlessClues.j0_no (k : Nat) (y0 : _) (y1 : _) (y2 : _) (y3 : _) (y5 : _) (y6 : _) (y7 : _) (y8 : _) (y9 : _) (y10 : _) : laws_FnExactNeedlessClues.j0 k y0 y1 y2 y3 true y5 y6 y7 y8 y9 y10 ≠ some true := by cases k <;> simp [laws_FnExactNeedlessClues.j0]
theorem laws_FnExactNeedlessClues.j1_no (k : Nat) (y0 : _) (y1 : _) (y2 : _) (y4 : _) (y5 : _) (y6 : _) : laws_FnExactNeedlessClues.j1 k y0 y1 y2 true y4 y5 y6 ≠ some true := by cases k <;> simp [laws_FnExactNeedlessClues.j1]
theorem laws_FnExactNeedlessClues.j2_no (k : Nat) (y0 : _) (y1 : _) : laws_FnExactNeedlessClues.j2 k y0 y1 true ≠ some true := by cases k <;> simp [laws_FnExactNeedlessClues.j2]
set_option maxHeartbeats 8000000 in
set_option maxRecDepth 100000 in
theorem laws_FnExactNeedlessClues.calls (k : Nat) (a0_0 : Int) (a0_1 : Int) (A0_2 : Option Addr) (c0_2 : Nat) (l0_2 : List (S66)) (r : Bool) (w : World) (hr0_2 : Kd.C k66 w A0_2 l0_2.length l0_2) (hc0_2 : l0_2.length ≤ c0_2) (rT : r = true) (h : laws_FnExactNeedlessClues.f k a0_0 a0_1 l0_2 = some r) :
    Calls Try.prog 4 #[.agg #[.int .i64 a0_0, .int .i64 a0_1, .slice A0_2 l0_2.length c0_2]] w fun e w' => e = .returned (.bool r) ∧ Below w.heap.size w w' := by
  have hu24 := Try.underlying24
  have hu30 := Try.underlying30
  have HR0_2 := Aside0.mk hr0_2
  have HC0_2 := Aside0.mk hc0_2
  clear hr0_2 hc0_2
  have HB := Aside0.mk (Below.refl w.heap.size w)
  have H : ((laws_szPuzzle.f a0_0 a0_1 l0_2 1048576).bind fun t323 => (if t323 < 0 then (some true) else ((laws_toPuzzle.f k a0_0 a0_1 l0_2).bind fun bt324 => ((spec_NeedlessClues.f k bt324.1 bt324.2.1 bt324.2.2).bind fun bt329 => ((laws_toPuzzle.f k a0_0 a0_1 l0_2).bind fun bt333 => ((impl_NeedlessClues.f k bt333.1 bt333.2.1 bt333.2.2).bind fun bt339 => ((laws_eqIntS.f k bt339.1 bt329.1).bind fun t343 => (if t343 = true then (laws_FnExactNeedlessClues.j0 k bt329.1 bt329.2 bt339.1 bt339.2 (bt339.2 != bt329.2) a0_0 a0_1 l0_2 bt333.1 bt333.2.1 bt333.2.2) else (laws_FnExactNeedlessClues.j0 k bt329.1 bt329.2 bt339.1 bt339.2 true a0_0 a0_1 l0_2 bt333.1 bt333.2.1 bt333.2.2))))))))) = some r := h
  clear h
  replace H := Option.bind_eq_some_iff.mp H
  obtain ⟨t323, A20, H⟩ := H
  replace H : (if t323 < 0 then (some true) else ((laws_toPuzzle.f k a0_0 a0_1 l0_2).bind fun bt324 => ((spec_NeedlessClues.f k bt324.1 bt324.2.1 bt324.2.2).bind fun bt329 => ((laws_toPuzzle.f k a0_0 a0_1 l0_2).bind fun bt333 => ((impl_NeedlessClues.f k bt333.1 bt333.2.1 bt333.2.2).bind fun bt339 => ((laws_eqIntS.f k bt339.1 bt329.1).bind fun t343 => (if t343 = true then (laws_FnExactNeedlessClues.j0 k bt329.1 bt329.2 bt339.1 bt339.2 (bt339.2 != bt329.2) a0_0 a0_1 l0_2 bt333.1 bt333.2.1 bt333.2.2) else (laws_FnExactNeedlessClues.j0 k bt329.1 bt329.2 bt339.1 bt339.2 true a0_0 a0_1 l0_2 bt333.1 bt333.2.1 bt333.2.2)))))))) = some r := H
  have A2 := Aside0.mk A20
  clear A20
  by_cases c3 : t323 < 0
  · rw [if_pos c3] at H
    have c3b0 : decide (t323 < 0) = true := decide_eq_true c3
    clear c3
    obtain rfl := Option.some.inj H
    go_enter Try.func4, Try.ntmps4
    go_wp2_with (first | ((with_reducible refine gate_dst (N := 1) rfl ?_); refine box_event ?hg (N := 1) ?hd (cs := #[.int .i64 a0_0, .int .i64 a0_1, .slice A0_2 l0_2.length c0_2]) (t := 24) ?hr ?_; (case hd => rfl); (case hg => rfl); (case hr => first | (go_simp; done) | (go_simp; rfl)); intro gb322 hg w4 hbox hb; have n0_ := Aside0.mk (below_step (by repeat (first | (with_reducible first | exact HB.out | apply below_alloc | apply pw_below_drewN | apply below_drew1) | exact HB.out)) hb); have n1_ := Aside0.mk (hbox); have n2_ := Aside0.mk ((by rw [hg]; exact (below_size (by repeat (first | (with_reducible first | exact HB.out | apply below_alloc | apply pw_below_drewN | apply below_drew1) | exact HB.out))) : w.heap.size ≤ gb322)); have n3_ := Aside0.mk ((by rw [hg]; exact (below_size (by repeat (first | (with_reducible first | exact HB.out | apply below_alloc | apply pw_below_drewN | apply below_drew1) | exact HB.out))) : w.heap.size ≤ gb322)); clear HB; have HB := n0_; have BK322 := n1_; have GW322 := n2_; have GE322 := n3_; clear n0_ n1_ n2_ n3_; clear hb hbox hg; have hcz5_0 : w4.cell? ⟨gb322, 0, none⟩ = some (.int .i64 a0_0) := (blk_cell BK322.out 0).trans rfl; have hcz5_1 : w4.cell? ⟨gb322, 1, none⟩ = some (.int .i64 a0_1) := (blk_cell BK322.out 1).trans rfl; have hcz5_2 : w4.cell? ⟨gb322, 2, none⟩ = some (.slice A0_2 l0_2.length c0_2) := (blk_cell BK322.out 2).trans rfl; have hfz5_0 := blk_frozen BK322.out 0; have hfz5_1 := blk_frozen BK322.out 1; have hfz5_2 := blk_frozen BK322.out 2) | ((with_reducible refine gate_callee (f := 6) rfl ?_); refine goesL_ (some 16) rfl rfl Try.func6 (by kernel_rfl) rfl #[.agg #[.int .i64 a0_0, .int .i64 a0_1, .slice A0_2 l0_2.length c0_2], .int .i64 1048576] rfl (by (try simp only [List.map_toArray, List.map_cons, List.map_nil]); first | done | rfl | (simp only [List.length_drop, List.length_take]; rfl)) ?_; (with_reducible refine (laws_szPuzzle.calls a0_0 a0_1 _ _ l0_2 1048576 t323 _ ?side1 ?side2 A2.out).mono ?_); (case side1 => repeat (first | exact (Kd.C_below HR0_2.out HB.out) | (with_reducible refine Kd.C_alloc ?_ _) | (with_reducible refine Kd.C_drewN ?_ _) | (with_reducible refine Kd.C_drew ?_))); (case side2 => exact HC0_2.out); rintro e w6 ⟨rfl, hb⟩; refine ⟨_, rfl, ?_⟩; have n0_ := Aside0.mk (blk_below (g := gb322) (o := .cells #[.int .i64 a0_0, .int .i64 a0_1, .slice A0_2 l0_2.length c0_2] 24 (0, 0)) (by (with_reducible repeat (first | refine blk_drewN ?_ _ | refine blk_drew ?_ | refine blk_alloc ?_ _)); exact BK322.out) hb); have n1_ := Aside0.mk (below_step (by repeat (first | (with_reducible first | exact HB.out | apply below_alloc | apply pw_below_drewN | apply below_drew1 | refine below_set ?_ GE322.out) | exact HB.out)) hb); clear BK322; clear HB; have BK322 := n0_; have HB := n1_; clear n0_ n1_; (try clear hb); (try clear hb2); (try clear hk); (try clear hi)))
    go_ret
    exact ⟨by first | rfl | (simp [errW_none, errW_some] <;> rfl) | (simp [*, errW_none, errW_some] <;> rfl), by repeat (first | (with_reducible first | exact HB.out | apply below_alloc | apply pw_below_drewN | apply below_drew1 | refine below_set ?_ GE322.out) | exact HB.out)⟩
  · rw [if_neg c3] at H
    have c3b0 : decide (t323 < 0) = false := decide_eq_false c3
    clear c3
    replace H := Option.bind_eq_some_iff.mp H
    obtain ⟨⟨t324, t325, t326⟩, A70, H⟩ := H
    replace H : ((spec_NeedlessClues.f k t324 t325 t326).bind fun bt329 => ((laws_toPuzzle.f k a0_0 a0_1 l0_2).bind fun bt333 => ((impl_NeedlessClues.f k bt333.1 bt333.2.1 bt333.2.2).bind fun bt339 => ((laws_eqIntS.f k bt339.1 bt329.1).bind fun t343 => (if t343 = true then (laws_FnExactNeedlessClues.j0 k bt329.1 bt329.2 bt339.1 bt339.2 (bt339.2 != bt329.2) a0_0 a0_1 l0_2 bt333.1 bt333.2.1 bt333.2.2) else (laws_FnExactNeedlessClues.j0 k bt329.1 bt329.2 bt339.1 bt339.2 true a0_0 a0_1 l0_2 bt333.1 bt333.2.1 bt333.2.2)))))) = some r := H
    have A7 := Aside0.mk A70
    clear A70
    replace H := Option.bind_eq_some_iff.mp H
    obtain ⟨⟨t329, t332⟩, A80, H⟩ := H
    replace H : ((laws_toPuzzle.f k a0_0 a0_1 l0_2).bind fun bt333 => ((impl_NeedlessClues.f k bt333.1 bt333.2.1 bt333.2.2).bind fun bt339 => ((laws_eqIntS.f k bt339.1 t329).bind fun t343 => (if t343 = true then (laws_FnExactNeedlessClues.j0 k t329 t332 bt339.1 bt339.2 (bt339.2 != t332) a0_0 a0_1 l0_2 bt333.1 bt333.2.1 bt333.2.2) else (laws_FnExactNeedlessClues.j0 k t329 t332 bt339.1 bt339.2 true a0_0 a0_1 l0_2 bt333.1 bt333.2.1 bt333.2.2))))) = some r := H
    have A8 := Aside0.mk A80
    clear A80
    replace H := Option.bind_eq_some_iff.mp H
    obtain ⟨⟨t333, t334, t335⟩, A90, H⟩ := H
    replace H : ((impl_NeedlessClues.f k t333 t334 t335).bind fun bt339 => ((laws_eqIntS.f k bt339.1 t329).bind fun t343 => (if t343 = true then (laws_FnExactNeedlessClues.j0 k t329 t332 bt339.1 bt339.2 (bt339.2 != t332) a0_0 a0_1 l0_2 t333 t334 t335) else (laws_FnExactNeedlessClues.j0 k t329 t332 bt339.1 bt339.2 true a0_0 a0_1 l0_2 t333 t334 t335)))) = some r := H
    have A9 := Aside0.mk A90
    clear A90
    replace H := Option.bind_eq_some_iff.mp H
    obtain ⟨⟨t339, t342⟩, A100, H⟩ := H
    replace H : ((laws_eqIntS.f k t339 t329).bind fun t343 => (if t343 = true then (laws_FnExactNeedlessClues.j0 k t329 t332 t339 t342 (t342 != t332) a0_0 a0_1 l0_2 t333 t334 t335) else (laws_FnExactNeedlessClues.j0 k t329 t332 t339 t342 true a0_0 a0_1 l0_2 t333 t334 t335))) = some r := H
    have A10 := Aside0.mk A100
    clear A100
    have HC11 := Aside0.mk H
    clear H
    go_enter Try.func4, Try.ntmps4
    go_upto_region 8 with (first | ((with_reducible refine gate_dst (N := 1) rfl ?_); refine box_event ?hg (N := 1) ?hd (cs := #[.int .i64 a0_0, .int .i64 a0_1, .slice A0_2 l0_2.length c0_2]) (t := 24) ?hr ?_; (case hd => rfl); (case hg => rfl); (case hr => first | (go_simp; done) | (go_simp; rfl)); intro gb322 hg w12 hbox hb; have n0_ := Aside0.mk (below_step (by repeat (first | (with_reducible first | exact HB.out | apply below_alloc | apply pw_below_drewN | apply below_drew1) | exact HB.out)) hb); have n1_ := Aside0.mk (hbox); have n2_ := Aside0.mk ((by rw [hg]; exact (below_size (by repeat (first | (with_reducible first | exact HB.out | apply below_alloc | apply pw_below_drewN | apply below_drew1) | exact HB.out))) : w.heap.size ≤ gb322)); have n3_ := Aside0.mk ((by rw [hg]; exact (below_size (by repeat (first | (with_reducible first | exact HB.out | apply below_alloc | apply pw_below_drewN | apply below_drew1) | exact HB.out))) : w.heap.size ≤ gb322)); clear HB; have HB := n0_; have BK322 := n1_; have GW322 := n2_; have GE322 := n3_; clear n0_ n1_ n2_ n3_; clear hb hbox hg; have hcz13_0 : w12.cell? ⟨gb322, 0, none⟩ = some (.int .i64 a0_0) := (blk_cell BK322.out 0).trans rfl; have hcz13_1 : w12.cell? ⟨gb322, 1, none⟩ = some (.int .i64 a0_1) := (blk_cell BK322.out 1).trans rfl; have hcz13_2 : w12.cell? ⟨gb322, 2, none⟩ = some (.slice A0_2 l0_2.length c0_2) := (blk_cell BK322.out 2).trans rfl; have hfz13_0 := blk_frozen BK322.out 0; have hfz13_1 := blk_frozen BK322.out 1; have hfz13_2 := blk_frozen BK322.out 2) | ((with_reducible refine gate_callee (f := 6) rfl ?_); refine goesL_ (some 16) rfl rfl Try.func6 (by kernel_rfl) rfl #[.agg #[.int .i64 a0_0, .int .i64 a0_1, .slice A0_2 l0_2.length c0_2], .int .i64 1048576] rfl (by (try simp only [List.map_toArray, List.map_cons, List.map_nil]); first | done | rfl | (simp only [List.length_drop, List.length_take]; rfl)) ?_; (with_reducible refine (laws_szPuzzle.calls a0_0 a0_1 _ _ l0_2 1048576 t323 _ ?side1 ?side2 A2.out).mono ?_); (case side1 => repeat (first | exact (Kd.C_below HR0_2.out HB.out) | (with_reducible refine Kd.C_alloc ?_ _) | (with_reducible refine Kd.C_drewN ?_ _) | (with_reducible refine Kd.C_drew ?_))); (case side2 => exact HC0_2.out); rintro e w14 ⟨rfl, hb⟩; refine ⟨_, rfl, ?_⟩; have n0_ := Aside0.mk (blk_below (g := gb322) (o := .cells #[.int .i64 a0_0, .int .i64 a0_1, .slice A0_2 l0_2.length c0_2] 24 (0, 0)) (by (with_reducible repeat (first | refine blk_drewN ?_ _ | refine blk_drew ?_ | refine blk_alloc ?_ _)); exact BK322.out) hb); have n1_ := Aside0.mk (below_step (by repeat (first | (with_reducible first | exact HB.out | apply below_alloc | apply pw_below_drewN | apply below_drew1 | refine below_set ?_ GE322.out) | exact HB.out)) hb); clear BK322; clear HB; have BK322 := n0_; have HB := n1_; clear n0_ n1_; (try clear hb); (try clear hb2); (try clear hk); (try clear hi); have hcz15_0 : w14.cell? ⟨gb322, 0, none⟩ = some (.int .i64 a0_0) := (blk_cell BK322.out 0).trans rfl; have hcz15_1 : w14.cell? ⟨gb322, 1, none⟩ = some (.int .i64 a0_1) := (blk_cell BK322.out 1).trans rfl; have hcz15_2 : w14.cell? ⟨gb322, 2, none⟩ = some (.slice A0_2 l0_2.length c0_2) := (blk_cell BK322.out 2).trans rfl; have hfz15_0 := blk_frozen BK322.out 0; have hfz15_1 := blk_frozen BK322.out 1; have hfz15_2 := blk_frozen BK322.out 2) | ((with_reducible refine gate_callee (f := 8) rfl ?_); refine goesL_ (some 21) rfl rfl Try.func8 (by kernel_rfl) rfl #[.agg #[.int .i64 a0_0, .int .i64 a0_1, .slice A0_2 l0_2.length c0_2]] rfl (by (try simp only [List.map_toArray, List.map_cons, List.map_nil]); first | done | rfl | (simp only [List.length_drop, List.length_take]; rfl)) ?_; (with_reducible refine (laws_toPuzzle.calls k a0_0 a0_1 _ _ l0_2 t324 t325 t326 _ ?side1 ?side2 A7.out).mono ?_); (case side1 => repeat (first | exact (Kd.C_below HR0_2.out HB.out) | (with_reducible refine Kd.C_alloc ?_ _) | (with_reducible refine Kd.C_drewN ?_ _) | (with_reducible refine Kd.C_drew ?_))); (case side2 => exact HC0_2.out); rintro e w16 ⟨v327, rfl, ho0, hb⟩; refine ⟨_, rfl, ?_⟩; have n0_ := Aside0.mk (Kd.R_lower ho0 (below_size (by repeat (first | (with_reducible first | exact HB.out | apply below_alloc | apply pw_below_drewN | apply below_drew1 | refine below_set ?_ GE322.out) | exact HB.out)))); have n1_ := Aside0.mk (blk_below (g := gb322) (o := .cells #[.int .i64 a0_0, .int .i64 a0_1, .slice A0_2 l0_2.length c0_2] 24 (0, 0)) (by (with_reducible repeat (first | refine blk_drewN ?_ _ | refine blk_drew ?_ | refine blk_alloc ?_ _)); exact BK322.out) hb); have n2_ := Aside0.mk (below_step (by repeat (first | (with_reducible first | exact HB.out | apply below_alloc | apply pw_below_drewN | apply below_drew1 | refine below_set ?_ GE322.out) | exact HB.out)) hb); clear BK322; clear HB; have HO328 := n0_; have BK322 := n1_; have HB := n2_; clear n0_ n1_ n2_; (try clear hb); (try clear hb2); (try clear hk); (try clear hi); (try clear ho0); obtain ⟨Ao17, co17, eo17⟩ := Kd.R_slice HO328.out; subst eo17) | ((with_reducible refine gate_callee (f := 11) rfl ?_); refine goesL_ (some 22) rfl rfl Try.func11 (by kernel_rfl) rfl #[.agg #[.int .i64 t324, .int .i64 t325, .slice Ao17 t326.length co17]] rfl (by (try simp only [List.map_toArray, List.map_cons, List.map_nil]); first | done | rfl | (simp only [List.length_drop, List.length_take]; rfl)) ?_; (with_reducible refine (spec_NeedlessClues.calls k t324 t325 _ _ t326 t329 t332 _ ?side1 ?side2 A8.out).mono ?_); (case side1 => repeat (first | exact (Kd.R_reads' HO328.out).2.2 | (with_reducible refine Kd.C_alloc ?_ _) | (with_reducible refine Kd.C_drewN ?_ _) | (with_reducible refine Kd.C_drew ?_))); (case side2 => exact (Kd.R_reads' HO328.out).2.1); rintro e w18 ⟨v330, rfl, ho0, hb⟩; refine ⟨_, rfl, ?_⟩; have n0_ := Aside0.mk (Kd.R_below (by (with_reducible repeat (first | apply Kd.R_alloc | apply Kd.R_drewN | apply Kd.R_drew)); exact HO328.out) hb); have n1_ := Aside0.mk (Kd.R_lower ho0 (below_size (by repeat (first | (with_reducible first | exact HB.out | apply below_alloc | apply pw_below_drewN | apply below_drew1 | refine below_set ?_ GE322.out) | exact HB.out)))); have n2_ := Aside0.mk (blk_below (g := gb322) (o := .cells #[.int .i64 a0_0, .int .i64 a0_1, .slice A0_2 l0_2.length c0_2] 24 (0, 0)) (by (with_reducible repeat (first | refine blk_drewN ?_ _ | refine blk_drew ?_ | refine blk_alloc ?_ _)); exact BK322.out) hb); have n3_ := Aside0.mk (below_step (by repeat (first | (with_reducible first | exact HB.out | apply below_alloc | apply pw_below_drewN | apply below_drew1 | refine below_set ?_ GE322.out) | exact HB.out)) hb); clear HO328; clear BK322; clear HB; have HO328 := n0_; have HO331 := n1_; have BK322 := n2_; have HB := n3_; clear n0_ n1_ n2_ n3_; (try clear hb); (try clear hb2); (try clear hk); (try clear hi); (try clear ho0); have hcz19_0 : w18.cell? ⟨gb322, 0, none⟩ = some (.int .i64 a0_0) := (blk_cell BK322.out 0).trans rfl; have hcz19_1 : w18.cell? ⟨gb322, 1, none⟩ = some (.int .i64 a0_1) := (blk_cell BK322.out 1).trans rfl; have hcz19_2 : w18.cell? ⟨gb322, 2, none⟩ = some (.slice A0_2 l0_2.length c0_2) := (blk_cell BK322.out 2).trans rfl; have hfz19_0 := blk_frozen BK322.out 0; have hfz19_1 := blk_frozen BK322.out 1; have hfz19_2 := blk_frozen BK322.out 2) | ((with_reducible refine gate_callee (f := 8) rfl ?_); refine goesL_ (some 26) rfl rfl Try.func8 (by kernel_rfl) rfl #[.agg #[.int .i64 a0_0, .int .i64 a0_1, .slice A0_2 l0_2.length c0_2]] rfl (by (try simp only [List.map_toArray, List.map_cons, List.map_nil]); first | done | rfl | (simp only [List.length_drop, List.length_take]; rfl)) ?_; (with_reducible refine (laws_toPuzzle.calls k a0_0 a0_1 _ _ l0_2 t333 t334 t335 _ ?side1 ?side2 A9.out).mono ?_); (case side1 => repeat (first | exact (Kd.C_below HR0_2.out HB.out) | (with_reducible refine Kd.C_alloc ?_ _) | (with_reducible refine Kd.C_drewN ?_ _) | (with_reducible refine Kd.C_drew ?_))); (case side2 => exact HC0_2.out); rintro e w20 ⟨v336, rfl, ho0, hb⟩; refine ⟨_, rfl, ?_⟩; have n0_ := Aside0.mk (Kd.R_elder' (by (with_reducible repeat (first | apply Kd.R_alloc | apply Kd.R_drewN | apply Kd.R_drew)); exact HO328.out) (Kd.R_base ho0) hb); have n1_ := Aside0.mk (Kd.R_below (by (with_reducible repeat (first | apply Kd.R_alloc | apply Kd.R_drewN | apply Kd.R_drew)); exact HO331.out) hb); have n2_ := Aside0.mk (Kd.R_lower (Kd.R_new' ho0 (Kd.R_lt (by (with_reducible repeat (first | apply Kd.R_alloc | apply Kd.R_drewN | apply Kd.R_drew)); exact HO328.out))) (below_size (by repeat (first | (with_reducible first | exact HB.out | apply below_alloc | apply pw_below_drewN | apply below_drew1 | refine below_set ?_ GE322.out) | exact HB.out)))); have n3_ := Aside0.mk (blk_below (g := gb322) (o := .cells #[.int .i64 a0_0, .int .i64 a0_1, .slice A0_2 l0_2.length c0_2] 24 (0, 0)) (by (with_reducible repeat (first | refine blk_drewN ?_ _ | refine blk_drew ?_ | refine blk_alloc ?_ _)); exact BK322.out) hb); have n4_ := Aside0.mk (below_step (by repeat (first | (with_reducible first | exact HB.out | apply below_alloc | apply pw_below_drewN | apply below_drew1 | refine below_set ?_ GE322.out) | exact HB.out)) hb); clear HO328; clear HO331; clear BK322; clear HB; have HO328 := n0_; have HO331 := n1_; have HO337 := n2_; have BK322 := n3_; have HB := n4_; clear n0_ n1_ n2_ n3_ n4_; (try clear hb); (try clear hb2); (try clear hk); (try clear hi); (try clear ho0)) | ((with_reducible refine gate_dst (N := 6) rfl ?_); refine box_event ?hg (N := 6) ?hd (cs := #[.int .i64 0, .int .i64 0, .slice none 0 0]) (t := 30) ?hr ?_; (case hd => rfl); (case hg => rfl); (case hr => first | (go_simp; done) | (go_simp; rfl)); intro gb338 hg w21 hbox hb; have n0_ := Aside0.mk (Kd.R_below (by (with_reducible repeat (first | apply Kd.R_alloc | apply Kd.R_drewN | apply Kd.R_drew)); exact HO328.out) hb); have n1_ := Aside0.mk (Kd.R_below (by (with_reducible repeat (first | apply Kd.R_alloc | apply Kd.R_drewN | apply Kd.R_drew)); exact HO331.out) hb); have n2_ := Aside0.mk (Kd.R_below (by (with_reducible repeat (first | apply Kd.R_alloc | apply Kd.R_drewN | apply Kd.R_drew)); exact HO337.out) hb); have n3_ := Aside0.mk (blk_below (g := gb322) (o := .cells #[.int .i64 a0_0, .int .i64 a0_1, .slice A0_2 l0_2.length c0_2] 24 (0, 0)) (by (with_reducible repeat (first | refine blk_drewN ?_ _ | refine blk_drew ?_ | refine blk_alloc ?_ _)); exact BK322.out) hb); have n4_ := Aside0.mk (below_step (by repeat (first | (with_reducible first | exact HB.out | apply below_alloc | apply pw_below_drewN | apply below_drew1 | refine below_set ?_ GE322.out) | exact HB.out)) hb); have n5_ := Aside0.mk (hbox); have n6_ := Aside0.mk ((by rw [hg]; exact (below_size (by repeat (first | (with_reducible first | exact HB.out | apply below_alloc | apply pw_below_drewN | apply below_drew1 | refine below_set ?_ GE322.out) | exact HB.out))) : w.heap.size ≤ gb338)); have n7_ := Aside0.mk ((by rw [hg]; exact (below_size (by repeat (first | (with_reducible first | exact HB.out | apply below_alloc | apply pw_below_drewN | apply below_drew1 | refine below_set ?_ GE322.out) | exact HB.out))) : w.heap.size ≤ gb338)); have n8_ := Aside0.mk ((by rw [hg]; exact Nat.ne_of_lt (blk_lt (g := gb322) (o := .cells #[.int .i64 a0_0, .int .i64 a0_1, .slice A0_2 l0_2.length c0_2] 24 (0, 0)) (by (with_reducible repeat (first | refine blk_drewN ?_ _ | refine blk_drew ?_ | refine blk_alloc ?_ _)); exact BK322.out)) : gb322 ≠ gb338)); have n9_ := Aside0.mk ((by rw [hg]; exact Nat.ne_of_gt (blk_lt (g := gb322) (o := .cells #[.int .i64 a0_0, .int .i64 a0_1, .slice A0_2 l0_2.length c0_2] 24 (0, 0)) (by (with_reducible repeat (first | refine blk_drewN ?_ _ | refine blk_drew ?_ | refine blk_alloc ?_ _)); exact BK322.out)) : gb338 ≠ gb322)); clear HO328; clear HO331; clear HO337; clear BK322; clear HB; have HO328 := n0_; have HO331 := n1_; have HO337 := n2_; have BK322 := n3_; have HB := n4_; have BK338 := n5_; have GW338 := n6_; have GE338 := n7_; have NB322_338 := n8_; have NB338_322 := n9_; clear n0_ n1_ n2_ n3_ n4_ n5_ n6_ n7_ n8_ n9_; clear hb hbox hg; have hnb22 := NB338_322.out; have hnc22 := NB322_338.out; have hcz23_0 : w21.cell? ⟨gb338, 0, none⟩ = some (.int .i64 0) := (blk_cell BK338.out 0).trans rfl; have hcz23_1 : w21.cell? ⟨gb338, 1, none⟩ = some (.int .i64 0) := (blk_cell BK338.out 1).trans rfl; have hcz23_2 : w21.cell? ⟨gb338, 2, none⟩ = some (.slice none 0 0) := (blk_cell BK338.out 2).trans rfl; have hfz23_0 := blk_frozen BK338.out 0; have hfz23_1 := blk_frozen BK338.out 1; have hfz23_2 := blk_frozen BK338.out 2; obtain ⟨Ao24, co24, eo24⟩ := Kd.R_slice HO337.out; subst eo24) | ((with_reducible refine gate_callee (f := 12) rfl ?_); refine goesL_ (some 29) rfl rfl Try.func12 (by kernel_rfl) rfl #[.agg #[.int .i64 t333, .int .i64 t334, .slice Ao24 t335.length co24]] rfl (by (try simp only [List.map_toArray, List.map_cons, List.map_nil]); first | done | rfl | (simp only [List.length_drop, List.length_take]; rfl)) ?_; (with_reducible refine (impl_NeedlessClues.calls k t333 t334 _ _ t335 t339 t342 _ ?side1 ?side2 A10.out).mono ?_); (case side1 => refine (Kd.R_reads' (e := 48) (base := w.heap.size) (ok := fun k_ => (True ∧ some k_ ≠ (.slice Ao17 t326.length co17 : Value).ownBlock)) (n := t335.length) (c := co24) ?_).2.2; exact (by (with_reducible repeat (first | apply Kd.R_alloc | apply Kd.R_drewN | apply Kd.R_drew)); exact (Kd.R_mono (Kd.R_far (p := ⟨gb338, 2, none⟩) (Kd.R_far (p := ⟨gb338, 1, none⟩) (Kd.R_far (p := ⟨gb338, 0, none⟩) (Kd.R_types HO337.out BK338.out (by decide)) (fun _ hk => hk.2) (.int .i64 t333)) (fun _ hk => hk.2) (.int .i64 t334)) (fun _ hk => hk.2) (.slice Ao24 t335.length co24)) (fun _ h_ => h_.1)))); (case side2 => exact (Kd.R_reads' HO337.out).2.1); rintro e w25 ⟨v340, rfl, ho0, hb⟩; refine ⟨_, rfl, ?_⟩; have n0_ := Aside0.mk (Kd.R_below (by (with_reducible repeat (first | apply Kd.R_alloc | apply Kd.R_drewN | apply Kd.R_drew)); exact (Kd.R_mono (Kd.R_far (p := ⟨gb338, 2, none⟩) (Kd.R_far (p := ⟨gb338, 1, none⟩) (Kd.R_far (p := ⟨gb338, 0, none⟩) (Kd.R_types HO328.out BK338.out (by decide)) (fun _ hk => hk.2) (.int .i64 t333)) (fun _ hk => hk.2) (.int .i64 t334)) (fun _ hk => hk.2) (.slice Ao24 t335.length co24)) (fun _ h_ => h_.1))) hb); have n1_ := Aside0.mk (Kd.R_elder' (by (with_reducible repeat (first | apply Kd.R_alloc | apply Kd.R_drewN | apply Kd.R_drew)); exact (Kd.R_mono (Kd.R_far (p := ⟨gb338, 2, none⟩) (Kd.R_far (p := ⟨gb338, 1, none⟩) (Kd.R_far (p := ⟨gb338, 0, none⟩) (Kd.R_types HO331.out BK338.out (by decide)) (fun _ hk => hk.2) (.int .i64 t333)) (fun _ hk => hk.2) (.int .i64 t334)) (fun _ hk => hk.2) (.slice Ao24 t335.length co24)) (fun _ h_ => h_.1))) (Kd.R_base ho0) hb); have n2_ := Aside0.mk (Kd.R_below (by (with_reducible repeat (first | apply Kd.R_alloc | apply Kd.R_drewN | apply Kd.R_drew)); exact (Kd.R_mono (Kd.R_far (p := ⟨gb338, 2, none⟩) (Kd.R_far (p := ⟨gb338, 1, none⟩) (Kd.R_far (p := ⟨gb338, 0, none⟩) (Kd.R_types HO337.out BK338.out (by decide)) (fun _ hk => hk.2) (.int .i64 t333)) (fun _ hk => hk.2) (.int .i64 t334)) (fun _ hk => hk.2) (.slice Ao24 t335.length co24)) (fun _ h_ => h_.1))) hb); have n3_ := Aside0.mk (Kd.R_lower (Kd.R_new' ho0 (Kd.R_lt (by (with_reducible repeat (first | apply Kd.R_alloc | apply Kd.R_drewN | apply Kd.R_drew)); exact (Kd.R_mono (Kd.R_far (p := ⟨gb338, 2, none⟩) (Kd.R_far (p := ⟨gb338, 1, none⟩) (Kd.R_far (p := ⟨gb338, 0, none⟩) (Kd.R_types HO331.out BK338.out (by decide)) (fun _ hk => hk.2) (.int .i64 t333)) (fun _ hk => hk.2) (.int .i64 t334)) (fun _ hk => hk.2) (.slice Ao24 t335.length co24)) (fun _ h_ => h_.1))))) (below_size (by repeat (first | (with_reducible first | exact HB.out | apply below_alloc | apply pw_below_drewN | apply below_drew1 | refine below_set ?_ GE322.out | refine below_set ?_ GE338.out) | exact HB.out)))); have n4_ := Aside0.mk (blk_below (g := gb322) (o := .cells #[.int .i64 a0_0, .int .i64 a0_1, .slice A0_2 l0_2.length c0_2] 24 (0, 0)) (by (with_reducible repeat (first | refine blk_drewN ?_ _ | refine blk_drew ?_ | refine blk_alloc ?_ _)); refine blk_far ?_ NB322_338.out _; (with_reducible repeat (first | refine blk_drewN ?_ _ | refine blk_drew ?_ | refine blk_alloc ?_ _)); refine blk_far ?_ NB322_338.out _; (with_reducible repeat (first | refine blk_drewN ?_ _ | refine blk_drew ?_ | refine blk_alloc ?_ _)); refine blk_far ?_ NB322_338.out _; (with_reducible repeat (first | refine blk_drewN ?_ _ | refine blk_drew ?_ | refine blk_alloc ?_ _)); exact BK322.out) hb); have n5_ := Aside0.mk (blk_below (g := gb338) (o := .cells #[.int .i64 t333, .int .i64 t334, .slice Ao24 t335.length co24] 30 (0, 0)) (by (with_reducible repeat (first | refine blk_drewN ?_ _ | refine blk_drew ?_ | refine blk_alloc ?_ _)); refine blk_put (cs := #[.int .i64 t333, .int .i64 t334, .slice none 0 0]) ?_ 2 _ rfl; (with_reducible repeat (first | refine blk_drewN ?_ _ | refine blk_drew ?_ | refine blk_alloc ?_ _)); refine blk_put (cs := #[.int .i64 t333, .int .i64 0, .slice none 0 0]) ?_ 1 _ rfl; (with_reducible repeat (first | refine blk_drewN ?_ _ | refine blk_drew ?_ | refine blk_alloc ?_ _)); refine blk_put (cs := #[.int .i64 0, .int .i64 0, .slice none 0 0]) ?_ 0 _ rfl; (with_reducible repeat (first | refine blk_drewN ?_ _ | refine blk_drew ?_ | refine blk_alloc ?_ _)); exact BK338.out) hb); have n6_ := Aside0.mk (below_step (by repeat (first | (with_reducible first | exact HB.out | apply below_alloc | apply pw_below_drewN | apply below_drew1 | refine below_set ?_ GE322.out | refine below_set ?_ GE338.out) | exact HB.out)) hb); clear HO328; clear HO331; clear HO337; clear BK322; clear BK338; clear HB; have HO328 := n0_; have HO331 := n1_; have HO337 := n2_; have HO341 := n3_; have BK322 := n4_; have BK338 := n5_; have HB := n6_; clear n0_ n1_ n2_ n3_ n4_ n5_ n6_; (try clear hb); (try clear hb2); (try clear hk); (try clear hi); (try clear ho0)))
    (try simp only [Act.put, List.setIfInBounds_toArray, List.set_cons_zero, List.set_cons_succ])
    go_cut [40] (fun v40 wc => ∃ (kq : Nat) (x40_10 : Bool), v40 = .bool x40_10 ∧ Aside0 (laws_FnExactNeedlessClues.j0 kq t329 t332 t339 t342 x40_10 a0_0 a0_1 l0_2 t333 t334 t335 = some r) ∧ Aside0 (kq ≤ k) ∧ Aside0 (Kd.R (Kd.int .i64) 3 wc w.heap.size (fun k_ => some k_ ≠ (v340 : Value).ownBlock) v330 t329) ∧ Aside0 (Kd.R (Kd.int .i64) 3 wc w.heap.size (fun k_ => some k_ ≠ (v330 : Value).ownBlock) v340 t339) ∧ Aside0 (Kd.R k48 48 wc w.heap.size (fun _ => True) (.slice Ao24 t335.length co24) t335) ∧ Aside0 (wc.heap[gb322]? = some (.cells #[.int .i64 a0_0, .int .i64 a0_1, (.slice A0_2 l0_2.length c0_2)] 24 (0, 0))) ∧ Aside0 (wc.heap[gb338]? = some (.cells #[.int .i64 t333, .int .i64 t334, (.slice Ao24 t335.length co24)] 30 (0, 0))) ∧ Aside0 (Below w.heap.size w wc))
    case first =>
      have H := HC11.out
      clear HC11
      replace H := Option.bind_eq_some_iff.mp H
      obtain ⟨t343, A260, H⟩ := H
      replace H : (if t343 = true then (laws_FnExactNeedlessClues.j0 k t329 t332 t339 t342 (t342 != t332) a0_0 a0_1 l0_2 t333 t334 t335) else (laws_FnExactNeedlessClues.j0 k t329 t332 t339 t342 true a0_0 a0_1 l0_2 t333 t334 t335)) = some r := H
      have A26 := Aside0.mk A260
      clear A260
      by_cases c27 : t343 = true
      · subst c27
        have H1 : (laws_FnExactNeedlessClues.j0 k t329 t332 t339 t342 (t342 != t332) a0_0 a0_1 l0_2 t333 t334 t335) = some r := by rw [if_pos rfl] at H; exact H
        clear H
        have H := H1
        clear H1
        have H' := Aside0.mk H
        clear H
        obtain ⟨Ao28, co28, eo28⟩ := Kd.R_slice HO341.out
        subst eo28
        obtain ⟨Ao29, co29, eo29⟩ := Kd.R_slice HO331.out
        subst eo29
        go_wp2_with (first | ((with_reducible refine gate_callee (f := 13) rfl ?_); refine goesL_ (some 34) rfl rfl Try.func13 (by kernel_rfl) rfl #[.slice Ao28 t339.length co28, .slice Ao29 t329.length co29] rfl (by (try simp only [List.map_toArray, List.map_cons, List.map_nil]); first | done | rfl | (simp only [List.length_drop, List.length_take]; rfl)) ?_; (with_reducible refine (laws_eqIntS.calls k _ _ t339 _ _ t329 true _ ?side1 ?side2 ?side3 ?side4 A26.out).mono ?_); (case side1 => repeat (first | exact (Kd.R_reads' HO341.out).2.2 | (with_reducible refine Kd.C_alloc ?_ _) | (with_reducible refine Kd.C_drewN ?_ _) | (with_reducible refine Kd.C_drew ?_))); (case side2 => exact (Kd.R_reads' HO341.out).2.1); (case side3 => repeat (first | exact (Kd.R_reads' HO331.out).2.2 | (with_reducible refine Kd.C_alloc ?_ _) | (with_reducible refine Kd.C_drewN ?_ _) | (with_reducible refine Kd.C_drew ?_))); (case side4 => exact (Kd.R_reads' HO331.out).2.1); rintro e w' ⟨rfl, ⟨nd, rfl⟩⟩; refine ⟨_, rfl, ?_⟩))
        go_meet
        case rel => exact ⟨_, ((t342 != t332)), (by first | rfl | (simp; done) | (simp [*]; done)), H', ⟨by first | omega | exact Nat.le_refl _⟩, ⟨by (with_reducible repeat (first | apply Kd.R_alloc | apply Kd.R_drewN | apply Kd.R_drew)); exact Kd.R_mono HO331.out (fun _ hk => hk.2)⟩, ⟨by (with_reducible repeat (first | apply Kd.R_alloc | apply Kd.R_drewN | apply Kd.R_drew)); exact Kd.R_mono HO341.out (fun _ hk => hk.2)⟩, ⟨by (with_reducible repeat (first | apply Kd.R_alloc | apply Kd.R_drewN | apply Kd.R_drew)); exact Kd.R_mono HO337.out (fun _ hk => trivial)⟩, ⟨by (with_reducible repeat (first | refine blk_drewN ?_ _ | refine blk_drew ?_ | refine blk_alloc ?_ _)); exact BK322.out⟩, ⟨by (with_reducible repeat (first | refine blk_drewN ?_ _ | refine blk_drew ?_ | refine blk_alloc ?_ _)); exact BK338.out⟩, ⟨by repeat (first | (with_reducible first | exact HB.out | apply below_alloc | apply pw_below_drewN | apply below_drew1 | refine below_set ?_ GE322.out | refine below_set ?_ GE338.out) | exact HB.out)⟩⟩
      · replace c27 := Bool.eq_false_iff.mpr c27
        subst c27
        have H1 : (laws_FnExactNeedlessClues.j0 k t329 t332 t339 t342 true a0_0 a0_1 l0_2 t333 t334 t335) = some r := by rw [if_neg (show ¬ (false = true) by decide)] at H; exact H
        clear H
        have H := H1
        clear H1
        exact absurd (H.trans (congrArg some rT)) (laws_FnExactNeedlessClues.j0_no _ _ _ _ _ _ _ _ _ _ _)
    case rest =>
      clear HC11
      try clear c1
      try clear c2
      try clear p2
      try clear c3
      try clear c3b0
      try clear c4
      try clear c6
      try clear c8
      try clear c11
      try clear c12
      try clear c13
      try clear c22
      try clear c27
      try clear hcz13_0
      try clear hcz13_1
      try clear hcz13_2
      try clear hcz15_0
      try clear hcz15_1
      try clear hcz15_2
      try clear hcz19_0
      try clear hcz19_1
      try clear hcz19_2
      try clear hcz23_0
      try clear hcz23_1
      try clear hcz23_2
      try clear hcz5_0
      try clear hcz5_1
      try clear hcz5_2
      try clear hfz13_0
      try clear hfz13_1
      try clear hfz13_2
      try clear hfz15_0
      try clear hfz15_1
      try clear hfz15_2
      try clear hfz19_0
      try clear hfz19_1
      try clear hfz19_2
      try clear hfz23_0
      try clear hfz23_1
      try clear hfz23_2
      try clear hfz5_0
      try clear hfz5_1
      try clear hfz5_2
      obtain ⟨kq, x40_10, rfl, HA, HJ10, HO_4, HO_7, HO_339002, BK322, BK338, HB⟩ := hcut
      cases kq with
      | zero => exact absurd HA.out (by simp [laws_FnExactNeedlessClues.j0])
      | succ kj10 =>
        have H := HA.out
        clear HA
        simp only [laws_FnExactNeedlessClues.j0] at H
        by_cases c30 : x40_10 = true
        · subst c30
          have H1 : (some false) = some r := by rw [if_pos rfl] at H; exact H
          clear H
          have H := H1
          clear H1
          exact absurd ((Option.some.inj H).trans rT) (by decide)
        · replace c30 := Bool.eq_false_iff.mpr c30
          subst c30
          have H1 : ((laws_toPuzzle.f kj10 a0_0 a0_1 l0_2).bind fun bt344 => ((laws_eqPuzzle.f kj10 t333 t334 t335 bt344.1 bt344.2.1 bt344.2.2).bind fun t349 => (if t349 = true then ((laws_markPuzzle.f kj10 t333 t334 t335 1).bind fun bt350 => (if bt350.1 < 0 then (laws_FnExactNeedlessClues.j1 kj10 t329 t332 t339 true a0_0 a0_1 l0_2) else ((laws_eqIntS.f kj10 t339 t329).bind fun t352 => (if t352 = true then (laws_FnExactNeedlessClues.j1 kj10 t329 t332 t339 (t342 != t332) a0_0 a0_1 l0_2) else (laws_FnExactNeedlessClues.j1 kj10 t329 t332 t339 true a0_0 a0_1 l0_2))))) else (some false)))) = some r := by rw [if_neg (show ¬ (false = true) by decide)] at H; exact H
          clear H
          have H := H1
          clear H1
          replace H := Option.bind_eq_some_iff.mp H
          obtain ⟨⟨t344, t345, t346⟩, A310, H⟩ := H
          replace H : ((laws_eqPuzzle.f kj10 t333 t334 t335 t344 t345 t346).bind fun t349 => (if t349 = true then ((laws_markPuzzle.f kj10 t333 t334 t335 1).bind fun bt350 => (if bt350.1 < 0 then (laws_FnExactNeedlessClues.j1 kj10 t329 t332 t339 true a0_0 a0_1 l0_2) else ((laws_eqIntS.f kj10 t339 t329).bind fun t352 => (if t352 = true then (laws_FnExactNeedlessClues.j1 kj10 t329 t332 t339 (t342 != t332) a0_0 a0_1 l0_2) else (laws_FnExactNeedlessClues.j1 kj10 t329 t332 t339 true a0_0 a0_1 l0_2))))) else (some false))) = some r := H
          have A31 := Aside0.mk A310
          clear A310
          replace H := Option.bind_eq_some_iff.mp H
          obtain ⟨t349, A320, H⟩ := H
          replace H : (if t349 = true then ((laws_markPuzzle.f kj10 t333 t334 t335 1).bind fun bt350 => (if bt350.1 < 0 then (laws_FnExactNeedlessClues.j1 kj10 t329 t332 t339 true a0_0 a0_1 l0_2) else ((laws_eqIntS.f kj10 t339 t329).bind fun t352 => (if t352 = true then (laws_FnExactNeedlessClues.j1 kj10 t329 t332 t339 (t342 != t332) a0_0 a0_1 l0_2) else (laws_FnExactNeedlessClues.j1 kj10 t329 t332 t339 true a0_0 a0_1 l0_2))))) else (some false)) = some r := H
          have A32 := Aside0.mk A320
          clear A320
          by_cases c33 : t349 = true
          · subst c33
            have H1 : ((laws_markPuzzle.f kj10 t333 t334 t335 1).bind fun bt350 => (if bt350.1 < 0 then (laws_FnExactNeedlessClues.j1 kj10 t329 t332 t339 true a0_0 a0_1 l0_2) else ((laws_eqIntS.f kj10 t339 t329).bind fun t352 => (if t352 = true then (laws_FnExactNeedlessClues.j1 kj10 t329 t332 t339 (t342 != t332) a0_0 a0_1 l0_2) else (laws_FnExactNeedlessClues.j1 kj10 t329 t332 t339 true a0_0 a0_1 l0_2))))) = some r := by rw [if_pos rfl] at H; exact H
            clear H
            have H := H1
            clear H1
            replace H := Option.bind_eq_some_iff.mp H
            obtain ⟨⟨t350, t351⟩, A340, H⟩ := H
            replace H : (if t350 < 0 then (laws_FnExactNeedlessClues.j1 kj10 t329 t332 t339 true a0_0 a0_1 l0_2) else ((laws_eqIntS.f kj10 t339 t329).bind fun t352 => (if t352 = true then (laws_FnExactNeedlessClues.j1 kj10 t329 t332 t339 (t342 != t332) a0_0 a0_1 l0_2) else (laws_FnExactNeedlessClues.j1 kj10 t329 t332 t339 true a0_0 a0_1 l0_2)))) = some r := H
            have A34 := Aside0.mk A340
            clear A340
            have HC35 := Aside0.mk H
            clear H
            try go_wp2
            have n0_ := Aside0.mk (Kd.R_drew HO_4.out)
            have n1_ := Aside0.mk (Kd.R_drew HO_7.out)
            have n2_ := Aside0.mk (Kd.R_drew HO_339002.out)
            have n3_ := Aside0.mk (blk_drew BK322.out)
            have n4_ := Aside0.mk (blk_drew BK338.out)
            have n5_ := Aside0.mk (below_drew1 HB.out)
            clear HO_4
            clear HO_7
            clear HO_339002
            clear BK322
            clear BK338
            clear HB
            have HO_4 := n0_
            have HO_7 := n1_
            have HO_339002 := n2_
            have BK322 := n3_
            have BK338 := n4_
            have HB := n5_
            clear n0_ n1_ n2_ n3_ n4_ n5_
            refine start_ (n := 5) (S := fun w' => w'.cell? ⟨gb338, 0, none⟩ = some (.int .i64 t333) ∧ w'.cell? ⟨gb338, 1, none⟩ = some (.int .i64 t334) ∧ w'.cell? ⟨gb338, 2, none⟩ = some (.slice Ao24 t335.length co24) ∧ w'.cell? ⟨gb322, 0, none⟩ = some (.int .i64 a0_0) ∧ w'.cell? ⟨gb322, 1, none⟩ = some (.int .i64 a0_1) ∧ w'.cell? ⟨gb322, 2, none⟩ = some (.slice A0_2 l0_2.length c0_2)) (ds := []) #[false, false, false, false, false] (by kernel_rfl) rfl rfl ⟨(blk_cell BK338.out 0).trans rfl, (blk_cell BK338.out 1).trans rfl, (blk_cell BK338.out 2).trans rfl, (blk_cell BK322.out 0).trans rfl, (blk_cell BK322.out 1).trans rfl, (blk_cell BK322.out 2).trans rfl⟩ (fun hHeld => ?_)
            generalize wc.drew = w36 at HO_4 HO_7 HO_339002 BK322 BK338 HB hHeld ⊢
            refine take_ (i := 0) (N := some 41) (v := ?_) (a' := ?_) #[true, false, false, false, false] rfl rfl (by kernel_rfl) (fun _ _ _ h => h) (Or.inl ⟨by rfl, ?_⟩) hHeld ?_ ?_
            rotate_left
            · rintro w' ⟨s0, s1, s2, s3, s4, s5⟩
              go_simp
              with_reducible rfl
            rotate_left
            · simp only [Act.put, List.setIfInBounds_toArray, List.set_cons_zero, List.set_cons_succ, i64_w, i32_w]
              rfl
            refine take_ (i := 1) (N := some 42) (v := ?_) (a' := ?_) #[true, true, false, false, false] rfl rfl (by kernel_rfl) (fun _ _ _ h => h) (Or.inl ⟨by rfl, ?_⟩) hHeld ?_ ?_
            rotate_left
            · rintro w' ⟨s0, s1, s2, s3, s4, s5⟩
              go_simp
              with_reducible rfl
            rotate_left
            · simp only [Act.put, List.setIfInBounds_toArray, List.set_cons_zero, List.set_cons_succ, i64_w, i32_w]
              rfl
            refine one_ (i := 2) (N := some 43) #[true, true, true, false, false] rfl rfl (by kernel_rfl) (by decide) (fun K hK => ?_)
            refine goes_ Try.func8 (by kernel_rfl) rfl #[.agg #[.int .i64 a0_0, .int .i64 a0_1, .slice A0_2 l0_2.length c0_2]] (by rfl) rfl rfl (by (try simp only [List.map_toArray, List.map_cons, List.map_nil]); first | done | rfl | (simp only [List.length_drop, List.length_take]; rfl)) ?_
            with_reducible refine (laws_toPuzzle.calls kj10 a0_0 a0_1 _ _ l0_2 t344 t345 t346 _ ?side1 ?side2 A31.out).mono ?_
            (case side1 => repeat (first | exact (Kd.C_below HR0_2.out HB.out) | (with_reducible refine Kd.C_alloc ?_ _) | (with_reducible refine Kd.C_drewN ?_ _) | (with_reducible refine Kd.C_drew ?_)))
            (case side2 => exact HC0_2.out)
            rintro e w37 ⟨v347, rfl, ho0, hb⟩
            refine ⟨_, rfl, ?_⟩
            have n0_ := Aside0.mk (Kd.R_below (by (with_reducible repeat (first | apply Kd.R_alloc | apply Kd.R_drewN | apply Kd.R_drew)); exact HO_4.out) hb)
            have n1_ := Aside0.mk (Kd.R_below (by (with_reducible repeat (first | apply Kd.R_alloc | apply Kd.R_drewN | apply Kd.R_drew)); exact HO_7.out) hb)
            have n2_ := Aside0.mk (Kd.R_elder' (by (with_reducible repeat (first | apply Kd.R_alloc | apply Kd.R_drewN | apply Kd.R_drew)); exact HO_339002.out) (Kd.R_base ho0) hb)
            have n3_ := Aside0.mk (Kd.R_lower (Kd.R_new' ho0 (Kd.R_lt (by (with_reducible repeat (first | apply Kd.R_alloc | apply Kd.R_drewN | apply Kd.R_drew)); exact HO_339002.out))) (below_size (by repeat (first | (with_reducible first | exact HB.out | apply below_alloc | apply pw_below_drewN | apply below_drew1 | refine below_set ?_ GE322.out | refine below_set ?_ GE338.out) | exact HB.out))))
            have n4_ := Aside0.mk (blk_below (g := gb322) (o := .cells #[.int .i64 a0_0, .int .i64 a0_1, .slice A0_2 l0_2.length c0_2] 24 (0, 0)) (by (with_reducible repeat (first | refine blk_drewN ?_ _ | refine blk_drew ?_ | refine blk_alloc ?_ _)); exact BK322.out) hb)
            have n5_ := Aside0.mk (blk_below (g := gb338) (o := .cells #[.int .i64 t333, .int .i64 t334, .slice Ao24 t335.length co24] 30 (0, 0)) (by (with_reducible repeat (first | refine blk_drewN ?_ _ | refine blk_drew ?_ | refine blk_alloc ?_ _)); exact BK338.out) hb)
            have n6_ := Aside0.mk (below_step (by repeat (first | (with_reducible first | exact HB.out | apply below_alloc | apply pw_below_drewN | apply below_drew1 | refine below_set ?_ GE322.out | refine below_set ?_ GE338.out) | exact HB.out)) hb)
            clear HO_4
            clear HO_7
            clear HO_339002
            clear BK322
            clear BK338
            clear HB
            have HO_4 := n0_
            have HO_7 := n1_
            have HO_339002 := n2_
            have HO348 := n3_
            have BK322 := n4_
            have BK338 := n5_
            have HB := n6_
            clear n0_ n1_ n2_ n3_ n4_ n5_ n6_
            (try clear hb)
            (try clear hb2)
            (try clear hk)
            (try clear hi)
            (try clear ho0)
            obtain ⟨Ao38, co38, eo38⟩ := Kd.R_slice HO348.out
            (first | subst eo38 | (injection eo38 with f1_ f2_ f3_; have f4_ := f1_.symm; have f5_ := f3_.symm; clear f1_ f2_ f3_; subst f4_; subst f5_))
            refine hK.out _ _ ⟨(blk_cell BK338.out 0).trans rfl, (blk_cell BK338.out 1).trans rfl, (blk_cell BK338.out 2).trans rfl, (blk_cell BK322.out 0).trans rfl, (blk_cell BK322.out 1).trans rfl, (blk_cell BK322.out 2).trans rfl⟩ (fun hHeld => ?_)
            clear hK K
            refine norm_ (a' := ?_) ?_ ?_
            rotate_left
            · show Act.put _ (some 43) _ = _
              simp only [Act.put, List.setIfInBounds_toArray, List.set_cons_zero, List.set_cons_succ, i64_w, i32_w]
              rfl
            refine one_ (i := 3) (N := some 44) #[true, true, true, true, false] rfl rfl (by kernel_rfl) (by decide) (fun K hK => ?_)
            refine goes_ Try.func10 (by kernel_rfl) rfl #[.agg #[.int .i64 t333, .int .i64 t334, .slice Ao24 t335.length co24], .agg #[.int .i64 t344, .int .i64 t345, .slice Ao38 t346.length co38]] (by rfl) rfl rfl (by (try simp only [List.map_toArray, List.map_cons, List.map_nil]); first | done | rfl | (simp only [List.length_drop, List.length_take]; rfl)) ?_
            with_reducible refine (laws_eqPuzzle.calls kj10 t333 t334 _ _ t335 t344 t345 _ _ t346 true _ ?side1 ?side2 ?side3 ?side4 A32.out).mono ?_
            (case side1 => repeat (first | exact (Kd.R_reads' HO_339002.out).2.2 | (with_reducible refine Kd.C_alloc ?_ _) | (with_reducible refine Kd.C_drewN ?_ _) | (with_reducible refine Kd.C_drew ?_)))
            (case side2 => exact (Kd.R_reads' HO_339002.out).2.1)
            (case side3 => repeat (first | exact (Kd.R_reads' HO348.out).2.2 | (with_reducible refine Kd.C_alloc ?_ _) | (with_reducible refine Kd.C_drewN ?_ _) | (with_reducible refine Kd.C_drew ?_)))
            (case side4 => exact (Kd.R_reads' HO348.out).2.1)
            rintro e w39 ⟨rfl, hb⟩
            refine ⟨_, rfl, ?_⟩
            have n0_ := Aside0.mk (Kd.R_below (by (with_reducible repeat (first | apply Kd.R_alloc | apply Kd.R_drewN | apply Kd.R_drew)); exact HO_4.out) hb)
            have n1_ := Aside0.mk (Kd.R_below (by (with_reducible repeat (first | apply Kd.R_alloc | apply Kd.R_drewN | apply Kd.R_drew)); exact HO_7.out) hb)
            have n2_ := Aside0.mk (Kd.R_below (by (with_reducible repeat (first | apply Kd.R_alloc | apply Kd.R_drewN | apply Kd.R_drew)); exact HO_339002.out) hb)
            have n3_ := Aside0.mk (Kd.R_below (by (with_reducible repeat (first | apply Kd.R_alloc | apply Kd.R_drewN | apply Kd.R_drew)); exact HO348.out) hb)
            have n4_ := Aside0.mk (blk_below (g := gb322) (o := .cells #[.int .i64 a0_0, .int .i64 a0_1, .slice A0_2 l0_2.length c0_2] 24 (0, 0)) (by (with_reducible repeat (first | refine blk_drewN ?_ _ | refine blk_drew ?_ | refine blk_alloc ?_ _)); exact BK322.out) hb)
            have n5_ := Aside0.mk (blk_below (g := gb338) (o := .cells #[.int .i64 t333, .int .i64 t334, .slice Ao24 t335.length co24] 30 (0, 0)) (by (with_reducible repeat (first | refine blk_drewN ?_ _ | refine blk_drew ?_ | refine blk_alloc ?_ _)); exact BK338.out) hb)
            have n6_ := Aside0.mk (below_step (by repeat (first | (with_reducible first | exact HB.out | apply below_alloc | apply pw_below_drewN | apply below_drew1 | refine below_set ?_ GE322.out | refine below_set ?_ GE338.out) | exact HB.out)) hb)
            clear HO_4
            clear HO_7
            clear HO_339002
            clear HO348
            clear BK322
            clear BK338
            clear HB
            have HO_4 := n0_
            have HO_7 := n1_
            have HO_339002 := n2_
            have HO348 := n3_
            have BK322 := n4_
            have BK338 := n5_
            have HB := n6_
            clear n0_ n1_ n2_ n3_ n4_ n5_ n6_
            (try clear hb)
            (try clear hb2)
            (try clear hk)
            (try clear hi)
            refine hK.out _ _ ⟨(blk_cell BK338.out 0).trans rfl, (blk_cell BK338.out 1).trans rfl, (blk_cell BK338.out 2).trans rfl, (blk_cell BK322.out 0).trans rfl, (blk_cell BK322.out 1).trans rfl, (blk_cell BK322.out 2).trans rfl⟩ (fun hHeld => ?_)
            clear hK K
            refine norm_ (a' := ?_) ?_ ?_
            rotate_left
            · show Act.put _ (some 44) _ = _
              simp only [Act.put, List.setIfInBounds_toArray, List.set_cons_zero, List.set_cons_succ, i64_w, i32_w]
              rfl
            refine pure_ (i := 4) (N := some 45) (v := ?_) (a' := ?_) #[true, true, true, true, true] rfl rfl (by kernel_rfl) (fun _ _ _ h => h) (Or.inl ⟨by rfl, ?_⟩) ?_ ?_
            rotate_left
            · intro w'
              go_simp
              with_reducible rfl
            rotate_left
            · simp only [Act.put, List.setIfInBounds_toArray, List.set_cons_zero, List.set_cons_succ, i64_w, i32_w]
              rfl
            refine done_ (by kernel_rfl) ?_
            have hnb40 := NB338_322.out
            have hnc40 := NB322_338.out
            have hcz41_0 : w39.cell? ⟨gb338, 0, none⟩ = some (.int .i64 t333) := (blk_cell BK338.out 0).trans rfl
            have hcz41_1 : w39.cell? ⟨gb338, 1, none⟩ = some (.int .i64 t334) := (blk_cell BK338.out 1).trans rfl
            have hcz41_2 : w39.cell? ⟨gb338, 2, none⟩ = some (.slice Ao24 t335.length co24) := (blk_cell BK338.out 2).trans rfl
            have hfz41_0 := blk_frozen BK338.out 0
            have hfz41_1 := blk_frozen BK338.out 1
            have hfz41_2 := blk_frozen BK338.out 2
            go_upto_region 14 with (first | ((with_reducible refine gate_callee (f := 14) rfl ?_); refine goesL_ (some 48) rfl rfl Try.func14 (by kernel_rfl) rfl #[.agg #[.int .i64 t333, .int .i64 t334, .slice Ao24 t335.length co24], .int .i64 1] rfl (by (try simp only [List.map_toArray, List.map_cons, List.map_nil]); first | done | rfl | (simp only [List.length_drop, List.length_take]; rfl)) ?_; (with_reducible refine (laws_markPuzzle.calls kj10 t333 t334 (fun k_ => some k_ = (.slice Ao24 t335.length co24 : Value).ownBlock) (.slice Ao24 t335.length co24) t335 1 t350 t351 w _ ?side1 ?side2 A34.out).mono ?_); (case side1 => repeat (first | (with_reducible first | exact HB.out | apply below_alloc | apply pw_below_drewN | apply below_drew1 | refine below_set ?_ GE322.out | refine below_set ?_ GE338.out) | exact HB.out)); (case side2 => exact Kd.R_tight rfl HO_339002.out); rintro e w42 ⟨rfl, hy0, hb, hkp⟩; refine ⟨_, rfl, ?_⟩; have n0_ := Aside0.mk (Kd.R_mono (ok' := fun k_ => some k_ ≠ (v340 : Value).ownBlock) (Kd.R_keptB ((Kd.R_apart' HO_4.out (Kd.R_typed HO_339002.out) (by decide))) hkp (fun k_ hk_ hs_ => (hk_.2) hs_)) (fun k_ hk_ => hk_.1.1)); have n1_ := Aside0.mk (Kd.R_mono (ok' := fun k_ => some k_ ≠ (v330 : Value).ownBlock) (Kd.R_keptB ((Kd.R_apart' HO_7.out (Kd.R_typed HO_339002.out) (by decide))) hkp (fun k_ hk_ hs_ => (hk_.2) hs_)) (fun k_ hk_ => hk_.1.1)); have n2_ := Aside0.mk (Kd.R_reok rfl hy0 (fun k_ e_ => HO_339002.out.1 k_ e_)); have n3_ := Aside0.mk (blk_kept (by (with_reducible repeat (first | refine blk_drewN ?_ _ | refine blk_drew ?_ | refine blk_alloc ?_ _)); exact BK322.out) hkp (fun hs_ => (fun e_ => (Kd.R_ne HO_339002.out BK322.out (by decide)) e_) hs_)); have n4_ := Aside0.mk (blk_kept (by (with_reducible repeat (first | refine blk_drewN ?_ _ | refine blk_drew ?_ | refine blk_alloc ?_ _)); exact BK338.out) hkp (fun hs_ => (fun e_ => (Kd.R_ne HO_339002.out BK338.out (by decide)) e_) hs_)); have n5_ := Aside0.mk (Kd.R_mono (ok' := fun k_ => some k_ ≠ (.slice Ao24 t335.length co24 : Value).ownBlock) (Kd.R_keptB (HO348.out) hkp (fun k_ hk_ hs_ => (hk_.2) hs_)) (fun k_ hk_ => hk_.1.2)); have n6_ := Aside0.mk (hb); clear HO_4; clear HO_7; clear HO_339002; clear BK322; clear BK338; clear HO348; clear HB; have HO_4 := n0_; have HO_7 := n1_; have HO_339002 := n2_; have BK322 := n3_; have BK338 := n4_; have HO348 := n5_; have HB := n6_; clear n0_ n1_ n2_ n3_ n4_ n5_ n6_; (try clear hb); (try clear hkp); (try clear hy0)))
            (try simp only [Act.put, List.setIfInBounds_toArray, List.set_cons_zero, List.set_cons_succ])
            go_cut [61] (fun v61 wc => ∃ (kq : Nat) (x61_34 : Bool), v61 = .bool x61_34 ∧ Aside0 (laws_FnExactNeedlessClues.j1 kq t329 t332 t339 x61_34 a0_0 a0_1 l0_2 = some r) ∧ Aside0 (kq ≤ kj10) ∧ Aside0 (Kd.R (Kd.int .i64) 3 wc w.heap.size (fun k_ => some k_ ≠ (v340 : Value).ownBlock) v330 t329) ∧ Aside0 (Kd.R (Kd.int .i64) 3 wc w.heap.size (fun k_ => some k_ ≠ (v330 : Value).ownBlock) v340 t339) ∧ Aside0 (Kd.R k48 48 wc w.heap.size (fun _ => True) (.slice Ao24 t335.length co24) t351) ∧ Aside0 (wc.heap[gb322]? = some (.cells #[.int .i64 a0_0, .int .i64 a0_1, (.slice A0_2 l0_2.length c0_2)] 24 (0, 0))) ∧ Aside0 (wc.heap[gb338]? = some (.cells #[.int .i64 t333, .int .i64 t334, (.slice Ao24 t335.length co24)] 30 (0, 0))) ∧ Aside0 (Below w.heap.size w wc))
            case first =>
              have H := HC35.out
              clear HC35
              by_cases c43 : t350 < 0
              · rw [if_pos c43] at H
                have c43b0 : decide (t350 < 0) = true := decide_eq_true c43
                clear c43
                (first | rw [c43b0] | (simp only [i64_w, i32_w]; rw [c43b0]) | skip)
                exact absurd (H.trans (congrArg some rT)) (laws_FnExactNeedlessClues.j1_no _ _ _ _ _ _ _)
              · rw [if_neg c43] at H
                have c43b0 : decide (t350 < 0) = false := decide_eq_false c43
                clear c43
                (first | rw [c43b0] | (simp only [i64_w, i32_w]; rw [c43b0]) | skip)
                replace H := Option.bind_eq_some_iff.mp H
                obtain ⟨t352, A440, H⟩ := H
                replace H : (if t352 = true then (laws_FnExactNeedlessClues.j1 kj10 t329 t332 t339 (t342 != t332) a0_0 a0_1 l0_2) else (laws_FnExactNeedlessClues.j1 kj10 t329 t332 t339 true a0_0 a0_1 l0_2)) = some r := H
                have A44 := Aside0.mk A440
                clear A440
                by_cases c45 : t352 = true
                · subst c45
                  have H1 : (laws_FnExactNeedlessClues.j1 kj10 t329 t332 t339 (t342 != t332) a0_0 a0_1 l0_2) = some r := by rw [if_pos rfl] at H; exact H
                  clear H
                  have H := H1
                  clear H1
                  have H' := Aside0.mk H
                  clear H
                  obtain ⟨Ao46, co46, eo46⟩ := Kd.R_slice HO_7.out
                  subst eo46
                  obtain ⟨Ao47, co47, eo47⟩ := Kd.R_slice HO_4.out
                  subst eo47
                  go_wp2_with (first | (go_at_call 13; (with_reducible refine (laws_eqIntS.calls kj10 _ _ t339 _ _ t329 true _ ?side1 ?side2 ?side3 ?side4 A44.out).mono ?_); (case side1 => repeat (first | exact (Kd.R_reads' HO_7.out).2.2 | (with_reducible refine Kd.C_alloc ?_ _) | (with_reducible refine Kd.C_drewN ?_ _) | (with_reducible refine Kd.C_drew ?_))); (case side2 => exact (Kd.R_reads' HO_7.out).2.1); (case side3 => repeat (first | exact (Kd.R_reads' HO_4.out).2.2 | (with_reducible refine Kd.C_alloc ?_ _) | (with_reducible refine Kd.C_drewN ?_ _) | (with_reducible refine Kd.C_drew ?_))); (case side4 => exact (Kd.R_reads' HO_4.out).2.1); rintro e w' ⟨rfl, ⟨nd, rfl⟩⟩))
                  go_meet
                  case rel => exact ⟨_, ((t342 != t332)), (by first | rfl | (simp; done) | (simp [*]; done)), H', ⟨by have := HJ10.out; first | omega | exact Nat.le_refl _⟩, ⟨by (with_reducible repeat (first | apply Kd.R_alloc | apply Kd.R_drewN | apply Kd.R_drew)); exact HO_4.out⟩, ⟨by (with_reducible repeat (first | apply Kd.R_alloc | apply Kd.R_drewN | apply Kd.R_drew)); exact HO_7.out⟩, ⟨by (with_reducible repeat (first | apply Kd.R_alloc | apply Kd.R_drewN | apply Kd.R_drew)); exact Kd.R_mono HO_339002.out (fun _ hk => trivial)⟩, ⟨by (with_reducible repeat (first | refine blk_drewN ?_ _ | refine blk_drew ?_ | refine blk_alloc ?_ _)); exact BK322.out⟩, ⟨by (with_reducible repeat (first | refine blk_drewN ?_ _ | refine blk_drew ?_ | refine blk_alloc ?_ _)); exact BK338.out⟩, ⟨by repeat (first | (with_reducible first | exact HB.out | apply below_alloc | apply pw_below_drewN | apply below_drew1 | refine below_set ?_ GE322.out | refine below_set ?_ GE338.out) | exact HB.out)⟩⟩
                · replace c45 := Bool.eq_false_iff.mpr c45
                  subst c45
                  have H1 : (laws_FnExactNeedlessClues.j1 kj10 t329 t332 t339 true a0_0 a0_1 l0_2) = some r := by rw [if_neg (show ¬ (false = true) by decide)] at H; exact H
                  clear H
                  have H := H1
                  clear H1
                  exact absurd (H.trans (congrArg some rT)) (laws_FnExactNeedlessClues.j1_no _ _ _ _ _ _ _)
            case rest =>
              clear HC35
              try clear c1
              try clear c2
              try clear p2
              try clear c3
              try clear c3b0
              try clear c4
              try clear c6
              try clear c8
              try clear c10
              try clear c11
              try clear c12
              try clear c13
              try clear c14
              try clear c22
              try clear c27
              try clear c30
              try clear c33
              try clear c40
              try clear c43
              try clear c43b0
              try clear c45
              try clear hcz13_0
              try clear hcz13_1
              try clear hcz13_2
              try clear hcz15_0
              try clear hcz15_1
              try clear hcz15_2
              try clear hcz19_0
              try clear hcz19_1
              try clear hcz19_2
              try clear hcz23_0
              try clear hcz23_1
              try clear hcz23_2
              try clear hcz41_0
              try clear hcz41_1
              try clear hcz41_2
              try clear hcz5_0
              try clear hcz5_1
              try clear hcz5_2
              try clear hfz13_0
              try clear hfz13_1
              try clear hfz13_2
              try clear hfz15_0
              try clear hfz15_1
              try clear hfz15_2
              try clear hfz19_0
              try clear hfz19_1
              try clear hfz19_2
              try clear hfz23_0
              try clear hfz23_1
              try clear hfz23_2
              try clear hfz41_0
              try clear hfz41_1
              try clear hfz41_2
              try clear hfz5_0
              try clear hfz5_1
              try clear hfz5_2
              try clear p2
              obtain ⟨kq, x61_34, rfl, HA, HJ34, HO_4, HO_7, HO_339002, BK322, BK338, HB⟩ := hcut
              have hl339002_34 := (Kd.R_reads' HO_339002.out).1
              rw [hl339002_34] at HO_339002
              (try simp only [hl339002_34])
              (try simp only [hl339002_34] at BK322)
              (try simp only [hl339002_34] at BK338)
              (try simp only [hl339002_34] at HO_4)
              (try simp only [hl339002_34] at HO_7)
              cases kq with
              | zero => exact absurd HA.out (by simp [laws_FnExactNeedlessClues.j1])
              | succ kj34 =>
                have H := HA.out
                clear HA
                simp only [laws_FnExactNeedlessClues.j1] at H
                by_cases c48 : x61_34 = true
                · subst c48
                  have H1 : (some false) = some r := by rw [if_pos rfl] at H; exact H
                  clear H
                  have H := H1
                  clear H1
                  exact absurd ((Option.some.inj H).trans rT) (by decide)
                · replace c48 := Bool.eq_false_iff.mpr c48
                  subst c48
                  have H1 : ((laws_markIntS.f kj34 t339 1).bind fun bt353 => ((laws_heldIntS.f kj34 bt353.2 1).bind fun t355 => (if t355 < 0 then (some false) else (if t355 = bt353.1 then ((laws_toPuzzle.f kj34 a0_0 a0_1 l0_2).bind fun bt356 => ((impl_NeedlessClues.f kj34 bt356.1 bt356.2.1 bt356.2.2).bind fun bt361 => ((laws_eqIntS.f kj34 bt361.1 t329).bind fun t365 => (if t365 = true then (laws_FnExactNeedlessClues.j2 kj34 bt353.2 bt353.1 (bt361.2 != t332)) else (laws_FnExactNeedlessClues.j2 kj34 bt353.2 bt353.1 true))))) else (some false))))) = some r := by rw [if_neg (show ¬ (false = true) by decide)] at H; exact H
                  clear H
                  have H := H1
                  clear H1
                  replace H := Option.bind_eq_some_iff.mp H
                  obtain ⟨⟨t353, t354⟩, A490, H⟩ := H
                  replace H : ((laws_heldIntS.f kj34 t354 1).bind fun t355 => (if t355 < 0 then (some false) else (if t355 = t353 then ((laws_toPuzzle.f kj34 a0_0 a0_1 l0_2).bind fun bt356 => ((impl_NeedlessClues.f kj34 bt356.1 bt356.2.1 bt356.2.2).bind fun bt361 => ((laws_eqIntS.f kj34 bt361.1 t329).bind fun t365 => (if t365 = true then (laws_FnExactNeedlessClues.j2 kj34 t354 t353 (bt361.2 != t332)) else (laws_FnExactNeedlessClues.j2 kj34 t354 t353 true))))) else (some false)))) = some r := H
                  have A49 := Aside0.mk A490
                  clear A490
                  replace H := Option.bind_eq_some_iff.mp H
                  obtain ⟨t355, A500, H⟩ := H
                  replace H : (if t355 < 0 then (some false) else (if t355 = t353 then ((laws_toPuzzle.f kj34 a0_0 a0_1 l0_2).bind fun bt356 => ((impl_NeedlessClues.f kj34 bt356.1 bt356.2.1 bt356.2.2).bind fun bt361 => ((laws_eqIntS.f kj34 bt361.1 t329).bind fun t365 => (if t365 = true then (laws_FnExactNeedlessClues.j2 kj34 t354 t353 (bt361.2 != t332)) else (laws_FnExactNeedlessClues.j2 kj34 t354 t353 true))))) else (some false))) = some r := H
                  have A50 := Aside0.mk A500
                  clear A500
                  by_cases c51 : t355 < 0
                  · rw [if_pos c51] at H
                    have c51b0 : decide (t355 < 0) = true := decide_eq_true c51
                    clear c51
                    exact absurd ((Option.some.inj H).trans rT) (by decide)
                  · rw [if_neg c51] at H
                    have c51b0 : decide (t355 < 0) = false := decide_eq_false c51
                    clear c51
                    by_cases c52 : t355 = t353
                    · rw [if_pos c52] at H
                      have c52b0 : (t355 == t353) = true := beq_iff_eq.mpr c52
                      have c52b1 : (t355 != t353) = false := bne_eq_false_iff_eq.mpr c52
                      clear c52
                      replace H := Option.bind_eq_some_iff.mp H
                      obtain ⟨⟨t356, t357, t358⟩, A530, H⟩ := H
                      replace H : ((impl_NeedlessClues.f kj34 t356 t357 t358).bind fun bt361 => ((laws_eqIntS.f kj34 bt361.1 t329).bind fun t365 => (if t365 = true then (laws_FnExactNeedlessClues.j2 kj34 t354 t353 (bt361.2 != t332)) else (laws_FnExactNeedlessClues.j2 kj34 t354 t353 true)))) = some r := H
                      have A53 := Aside0.mk A530
                      clear A530
                      replace H := Option.bind_eq_some_iff.mp H
                      obtain ⟨⟨t361, t364⟩, A540, H⟩ := H
                      replace H : ((laws_eqIntS.f kj34 t361 t329).bind fun t365 => (if t365 = true then (laws_FnExactNeedlessClues.j2 kj34 t354 t353 (t364 != t332)) else (laws_FnExactNeedlessClues.j2 kj34 t354 t353 true))) = some r := H
                      have A54 := Aside0.mk A540
                      clear A540
                      have HC55 := Aside0.mk H
                      clear H
                      obtain ⟨Ao56, co56, eo56⟩ := Kd.R_slice HO_7.out
                      subst eo56
                      go_upto_region 25 with (first | ((with_reducible refine gate_callee (f := 15) rfl ?_); refine goesL_ (some 64) rfl rfl Try.func15 (by kernel_rfl) rfl #[.slice Ao56 t339.length co56, .int .i64 1] rfl (by (try simp only [List.map_toArray, List.map_cons, List.map_nil]); first | done | rfl | (simp only [List.length_drop, List.length_take]; rfl)) ?_; (with_reducible refine (laws_markIntS.calls kj34 (fun k_ => some k_ = (.slice Ao56 t339.length co56 : Value).ownBlock) (.slice Ao56 t339.length co56) t339 1 t353 t354 w _ ?side1 ?side2 A49.out).mono ?_); (case side1 => repeat (first | (with_reducible first | exact HB.out | apply below_alloc | apply pw_below_drewN | apply below_drew1 | refine below_set ?_ GE322.out | refine below_set ?_ GE338.out) | exact HB.out)); (case side2 => exact Kd.R_tight rfl HO_7.out); rintro e w57 ⟨rfl, hy0, hb, hkp⟩; refine ⟨_, rfl, ?_⟩; have n0_ := Aside0.mk (Kd.R_mono (ok' := fun k_ => some k_ ≠ (.slice Ao56 t339.length co56 : Value).ownBlock) (Kd.R_keptB (HO_4.out) hkp (fun k_ hk_ hs_ => (hk_) hs_)) (fun k_ hk_ => hk_.1)); have n1_ := Aside0.mk (Kd.R_reok rfl hy0 (fun k_ e_ => HO_7.out.1 k_ e_)); have n2_ := Aside0.mk (Kd.R_mono (ok' := fun k_ => True) (Kd.R_keptB ((Kd.R_apart' HO_339002.out (Kd.R_typed HO_7.out) (by decide))) hkp (fun k_ hk_ hs_ => (hk_.2) hs_)) (fun k_ hk_ => trivial)); have n3_ := Aside0.mk (blk_kept (by (with_reducible repeat (first | refine blk_drewN ?_ _ | refine blk_drew ?_ | refine blk_alloc ?_ _)); exact BK322.out) hkp (fun hs_ => (fun e_ => (Kd.R_ne HO_7.out BK322.out (by decide)) e_) hs_)); have n4_ := Aside0.mk (blk_kept (by (with_reducible repeat (first | refine blk_drewN ?_ _ | refine blk_drew ?_ | refine blk_alloc ?_ _)); exact BK338.out) hkp (fun hs_ => (fun e_ => (Kd.R_ne HO_7.out BK338.out (by decide)) e_) hs_)); have n5_ := Aside0.mk (hb); clear HO_4; clear HO_7; clear HO_339002; clear BK322; clear BK338; clear HB; have HO_4 := n0_; have HO_7 := n1_; have HO_339002 := n2_; have BK322 := n3_; have BK338 := n4_; have HB := n5_; clear n0_ n1_ n2_ n3_ n4_ n5_; (try clear hb); (try clear hkp); (try clear hy0)) | ((with_reducible refine gate_callee (f := 16) rfl ?_); refine goesL_ (some 67) rfl rfl Try.func16 (by kernel_rfl) rfl #[.slice Ao56 t354.length co56, .int .i64 1] rfl (by (try simp only [List.map_toArray, List.map_cons, List.map_nil]); first | done | (rw [show t354.length = t339.length from (Kd.R_reads' HO_7.out).1.symm] <;> rfl) | rfl | (simp only [List.length_drop, List.length_take]; rfl)) ?_; (with_reducible refine (laws_heldIntS.calls kj34 _ _ t354 1 t355 _ ?side1 ?side2 A50.out).mono ?_); (case side1 => repeat (first | exact (Kd.R_reads' HO_7.out).2.2 | (with_reducible refine Kd.C_alloc ?_ _) | (with_reducible refine Kd.C_drewN ?_ _) | (with_reducible refine Kd.C_drew ?_))); (case side2 => rw [show t354.length = t339.length from (Kd.R_reads' HO_7.out).1.symm]; exact (Kd.R_reads' HO_7.out).2.1); rintro e w' ⟨rfl, ⟨nd, rfl⟩⟩; refine ⟨_, rfl, ?_⟩; have hnb58 := NB322_338.out; have hnc58 := NB338_322.out; have hcz59_0 : w57.cell? ⟨gb322, 0, none⟩ = some (.int .i64 a0_0) := (blk_cell BK322.out 0).trans rfl; have hcz59_1 : w57.cell? ⟨gb322, 1, none⟩ = some (.int .i64 a0_1) := (blk_cell BK322.out 1).trans rfl; have hcz59_2 : w57.cell? ⟨gb322, 2, none⟩ = some (.slice A0_2 l0_2.length c0_2) := (blk_cell BK322.out 2).trans rfl; have hfz59_0 := blk_frozen BK322.out 0; have hfz59_1 := blk_frozen BK322.out 1; have hfz59_2 := blk_frozen BK322.out 2) | ((with_reducible refine gate_callee (f := 8) rfl ?_); refine goesL_ (some 75) rfl rfl Try.func8 (by kernel_rfl) rfl #[.agg #[.int .i64 a0_0, .int .i64 a0_1, .slice A0_2 l0_2.length c0_2]] rfl (by (try simp only [List.map_toArray, List.map_cons, List.map_nil]); first | done | rfl | (simp only [List.length_drop, List.length_take]; rfl)) ?_; (with_reducible refine (laws_toPuzzle.calls kj34 a0_0 a0_1 _ _ l0_2 t356 t357 t358 _ ?side1 ?side2 A53.out).mono ?_); (case side1 => repeat (first | exact (Kd.C_below HR0_2.out (by repeat (first | (with_reducible first | exact HB.out | apply below_alloc | apply pw_below_drewN | apply below_drew1 | refine below_set ?_ GE322.out | refine below_set ?_ GE338.out) | exact HB.out))) | (with_reducible refine Kd.C_alloc ?_ _) | (with_reducible refine Kd.C_drewN ?_ _) | (with_reducible refine Kd.C_drew ?_))); (case side2 => exact HC0_2.out); rintro e w60 ⟨v359, rfl, ho0, hb⟩; refine ⟨_, rfl, ?_⟩; have n0_ := Aside0.mk (Kd.R_below (by (with_reducible repeat (first | apply Kd.R_alloc | apply Kd.R_drewN | apply Kd.R_drew)); exact HO_4.out) hb); have n1_ := Aside0.mk (Kd.R_below (by (with_reducible repeat (first | apply Kd.R_alloc | apply Kd.R_drewN | apply Kd.R_drew)); exact HO_7.out) hb); have n2_ := Aside0.mk (Kd.R_elder' (by (with_reducible repeat (first | apply Kd.R_alloc | apply Kd.R_drewN | apply Kd.R_drew)); exact HO_339002.out) (Kd.R_base ho0) hb); have n3_ := Aside0.mk (Kd.R_lower (Kd.R_new' ho0 (Kd.R_lt (by (with_reducible repeat (first | apply Kd.R_alloc | apply Kd.R_drewN | apply Kd.R_drew)); exact HO_339002.out))) (below_size (by repeat (first | (with_reducible first | exact HB.out | apply below_alloc | apply pw_below_drewN | apply below_drew1 | refine below_set ?_ GE322.out | refine below_set ?_ GE338.out) | exact HB.out)))); have n4_ := Aside0.mk (blk_below (g := gb322) (o := .cells #[.int .i64 a0_0, .int .i64 a0_1, .slice A0_2 l0_2.length c0_2] 24 (0, 0)) (by (with_reducible repeat (first | refine blk_drewN ?_ _ | refine blk_drew ?_ | refine blk_alloc ?_ _)); exact BK322.out) hb); have n5_ := Aside0.mk (blk_below (g := gb338) (o := .cells #[.int .i64 t333, .int .i64 t334, .slice Ao24 t351.length co24] 30 (0, 0)) (by (with_reducible repeat (first | refine blk_drewN ?_ _ | refine blk_drew ?_ | refine blk_alloc ?_ _)); exact BK338.out) hb); have n6_ := Aside0.mk (below_step (by repeat (first | (with_reducible first | exact HB.out | apply below_alloc | apply pw_below_drewN | apply below_drew1 | refine below_set ?_ GE322.out | refine below_set ?_ GE338.out) | exact HB.out)) hb); clear HO_4; clear HO_7; clear HO_339002; clear BK322; clear BK338; clear HB; have HO_4 := n0_; have HO_7 := n1_; have HO_339002 := n2_; have HO360 := n3_; have BK322 := n4_; have BK338 := n5_; have HB := n6_; clear n0_ n1_ n2_ n3_ n4_ n5_ n6_; (try clear hb); (try clear hb2); (try clear hk); (try clear hi); (try clear ho0); obtain ⟨Ao61, co61, eo61⟩ := Kd.R_slice HO360.out; subst eo61) | ((with_reducible refine gate_callee (f := 12) rfl ?_); refine goesL_ (some 76) rfl rfl Try.func12 (by kernel_rfl) rfl #[.agg #[.int .i64 t356, .int .i64 t357, .slice Ao61 t358.length co61]] rfl (by (try simp only [List.map_toArray, List.map_cons, List.map_nil]); first | done | rfl | (simp only [List.length_drop, List.length_take]; rfl)) ?_; (with_reducible refine (impl_NeedlessClues.calls kj34 t356 t357 _ _ t358 t361 t364 _ ?side1 ?side2 A54.out).mono ?_); (case side1 => repeat (first | exact (Kd.R_reads' HO360.out).2.2 | (with_reducible refine Kd.C_alloc ?_ _) | (with_reducible refine Kd.C_drewN ?_ _) | (with_reducible refine Kd.C_drew ?_))); (case side2 => exact (Kd.R_reads' HO360.out).2.1); rintro e w62 ⟨v362, rfl, ho0, hb⟩; refine ⟨_, rfl, ?_⟩; have n0_ := Aside0.mk (Kd.R_elder' (by (with_reducible repeat (first | apply Kd.R_alloc | apply Kd.R_drewN | apply Kd.R_drew)); exact HO_4.out) (Kd.R_base ho0) hb); have n1_ := Aside0.mk (Kd.R_elder' (by (with_reducible repeat (first | apply Kd.R_alloc | apply Kd.R_drewN | apply Kd.R_drew)); exact HO_7.out) (Kd.R_base ho0) hb); have n2_ := Aside0.mk (Kd.R_below (by (with_reducible repeat (first | apply Kd.R_alloc | apply Kd.R_drewN | apply Kd.R_drew)); exact HO_339002.out) hb); have n3_ := Aside0.mk (Kd.R_below (by (with_reducible repeat (first | apply Kd.R_alloc | apply Kd.R_drewN | apply Kd.R_drew)); exact HO360.out) hb); have n4_ := Aside0.mk (Kd.R_lower (Kd.R_new' (Kd.R_new' ho0 (Kd.R_lt (by (with_reducible repeat (first | apply Kd.R_alloc | apply Kd.R_drewN | apply Kd.R_drew)); exact HO_4.out))) (Kd.R_lt (by (with_reducible repeat (first | apply Kd.R_alloc | apply Kd.R_drewN | apply Kd.R_drew)); exact HO_7.out))) (below_size (by repeat (first | (with_reducible first | exact HB.out | apply below_alloc | apply pw_below_drewN | apply below_drew1 | refine below_set ?_ GE322.out | refine below_set ?_ GE338.out) | exact HB.out)))); have n5_ := Aside0.mk (blk_below (g := gb322) (o := .cells #[.int .i64 a0_0, .int .i64 a0_1, .slice A0_2 l0_2.length c0_2] 24 (0, 0)) (by (with_reducible repeat (first | refine blk_drewN ?_ _ | refine blk_drew ?_ | refine blk_alloc ?_ _)); exact BK322.out) hb); have n6_ := Aside0.mk (blk_below (g := gb338) (o := .cells #[.int .i64 t333, .int .i64 t334, .slice Ao24 t351.length co24] 30 (0, 0)) (by (with_reducible repeat (first | refine blk_drewN ?_ _ | refine blk_drew ?_ | refine blk_alloc ?_ _)); exact BK338.out) hb); have n7_ := Aside0.mk (below_step (by repeat (first | (with_reducible first | exact HB.out | apply below_alloc | apply pw_below_drewN | apply below_drew1 | refine below_set ?_ GE322.out | refine below_set ?_ GE338.out) | exact HB.out)) hb); clear HO_4; clear HO_7; clear HO_339002; clear HO360; clear BK322; clear BK338; clear HB; have HO_4 := n0_; have HO_7 := n1_; have HO_339002 := n2_; have HO360 := n3_; have HO363 := n4_; have BK322 := n5_; have BK338 := n6_; have HB := n7_; clear n0_ n1_ n2_ n3_ n4_ n5_ n6_ n7_; (try clear hb); (try clear hb2); (try clear hk); (try clear hi); (try clear ho0)))
                      (try simp only [Act.put, List.setIfInBounds_toArray, List.set_cons_zero, List.set_cons_succ])
                      go_cut [87] (fun v87 wc => ∃ (kq : Nat) (x87_54 : Bool), v87 = .bool x87_54 ∧ Aside0 (laws_FnExactNeedlessClues.j2 kq t354 t353 x87_54 = some r) ∧ Aside0 (kq ≤ kj34) ∧ Aside0 (Kd.R (Kd.int .i64) 3 wc w.heap.size (fun _ => True) (.slice Ao56 t339.length co56) t354) ∧ Aside0 (Kd.R k48 48 wc w.heap.size (fun _ => True) (.slice Ao24 t351.length co24) t351) ∧ Aside0 (wc.heap[gb322]? = some (.cells #[.int .i64 a0_0, .int .i64 a0_1, (.slice A0_2 l0_2.length c0_2)] 24 (0, 0))) ∧ Aside0 (wc.heap[gb338]? = some (.cells #[.int .i64 t333, .int .i64 t334, (.slice Ao24 t351.length co24)] 30 (0, 0))) ∧ Aside0 (Below w.heap.size w wc))
                      case first =>
                        have H := HC55.out
                        clear HC55
                        replace H := Option.bind_eq_some_iff.mp H
                        obtain ⟨t365, A630, H⟩ := H
                        replace H : (if t365 = true then (laws_FnExactNeedlessClues.j2 kj34 t354 t353 (t364 != t332)) else (laws_FnExactNeedlessClues.j2 kj34 t354 t353 true)) = some r := H
                        have A63 := Aside0.mk A630
                        clear A630
                        by_cases c64 : t365 = true
                        · subst c64
                          have H1 : (laws_FnExactNeedlessClues.j2 kj34 t354 t353 (t364 != t332)) = some r := by rw [if_pos rfl] at H; exact H
                          clear H
                          have H := H1
                          clear H1
                          have H' := Aside0.mk H
                          clear H
                          obtain ⟨Ao65, co65, eo65⟩ := Kd.R_slice HO363.out
                          subst eo65
                          obtain ⟨Ao66, co66, eo66⟩ := Kd.R_slice HO_4.out
                          subst eo66
                          go_wp2_with (first | ((with_reducible refine gate_callee (f := 13) rfl ?_); refine goesL_ (some 81) rfl rfl Try.func13 (by kernel_rfl) rfl #[.slice Ao65 t361.length co65, .slice Ao66 t329.length co66] rfl (by (try simp only [List.map_toArray, List.map_cons, List.map_nil]); first | done | rfl | (simp only [List.length_drop, List.length_take]; rfl)) ?_; (with_reducible refine (laws_eqIntS.calls kj34 _ _ t361 _ _ t329 true _ ?side1 ?side2 ?side3 ?side4 A63.out).mono ?_); (case side1 => repeat (first | exact (Kd.R_reads' HO363.out).2.2 | (with_reducible refine Kd.C_alloc ?_ _) | (with_reducible refine Kd.C_drewN ?_ _) | (with_reducible refine Kd.C_drew ?_))); (case side2 => exact (Kd.R_reads' HO363.out).2.1); (case side3 => repeat (first | exact (Kd.R_reads' HO_4.out).2.2 | (with_reducible refine Kd.C_alloc ?_ _) | (with_reducible refine Kd.C_drewN ?_ _) | (with_reducible refine Kd.C_drew ?_))); (case side4 => exact (Kd.R_reads' HO_4.out).2.1); rintro e w' ⟨rfl, ⟨nd, rfl⟩⟩; refine ⟨_, rfl, ?_⟩))
                          go_meet
                          case rel => exact ⟨_, ((t364 != t332)), (by first | rfl | (simp; done) | (simp [*]; done)), H', ⟨by have := HJ10.out; have := HJ34.out; first | omega | exact Nat.le_refl _⟩, ⟨by (try simp only [hl339002_34]); (with_reducible repeat (first | apply Kd.R_alloc | apply Kd.R_drewN | apply Kd.R_drew)); exact Kd.R_mono HO_7.out (fun _ hk => trivial)⟩, ⟨by (try simp only [hl339002_34]); (with_reducible repeat (first | apply Kd.R_alloc | apply Kd.R_drewN | apply Kd.R_drew)); exact Kd.R_mono HO_339002.out (fun _ hk => trivial)⟩, ⟨by (try simp only [hl339002_34]); (with_reducible repeat (first | refine blk_drewN ?_ _ | refine blk_drew ?_ | refine blk_alloc ?_ _)); exact BK322.out⟩, ⟨by (try simp only [hl339002_34]); (with_reducible repeat (first | refine blk_drewN ?_ _ | refine blk_drew ?_ | refine blk_alloc ?_ _)); exact BK338.out⟩, ⟨by repeat (first | (with_reducible first | exact HB.out | apply below_alloc | apply pw_below_drewN | apply below_drew1 | refine below_set ?_ GE322.out | refine below_set ?_ GE338.out) | exact HB.out)⟩⟩
                        · replace c64 := Bool.eq_false_iff.mpr c64
                          subst c64
                          have H1 : (laws_FnExactNeedlessClues.j2 kj34 t354 t353 true) = some r := by rw [if_neg (show ¬ (false = true) by decide)] at H; exact H
                          clear H
                          have H := H1
                          clear H1
                          exact absurd (H.trans (congrArg some rT)) (laws_FnExactNeedlessClues.j2_no _ _ _)
                      case rest =>
                        clear HC55
                        try clear c1
                        try clear c2
                        try clear p2
                        try clear c3
                        try clear c3b0
                        try clear c4
                        try clear c5
                        try clear c6
                        try clear c8
                        try clear c10
                        try clear c11
                        try clear c12
                        try clear c13
                        try clear c14
                        try clear c15
                        try clear c16
                        try clear c22
                        try clear c27
                        try clear c30
                        try clear c33
                        try clear c40
                        try clear c43
                        try clear c43b0
                        try clear c45
                        try clear c48
                        try clear c51
                        try clear c51b0
                        try clear c52
                        try clear c52b0
                        try clear c52b1
                        try clear c58
                        try clear c64
                        try clear hcz13_0
                        try clear hcz13_1
                        try clear hcz13_2
                        try clear hcz15_0
                        try clear hcz15_1
                        try clear hcz15_2
                        try clear hcz19_0
                        try clear hcz19_1
                        try clear hcz19_2
                        try clear hcz23_0
                        try clear hcz23_1
                        try clear hcz23_2
                        try clear hcz41_0
                        try clear hcz41_1
                        try clear hcz41_2
                        try clear hcz59_0
                        try clear hcz59_1
                        try clear hcz59_2
                        try clear hcz5_0
                        try clear hcz5_1
                        try clear hcz5_2
                        try clear hfz13_0
                        try clear hfz13_1
                        try clear hfz13_2
                        try clear hfz15_0
                        try clear hfz15_1
                        try clear hfz15_2
                        try clear hfz19_0
                        try clear hfz19_1
                        try clear hfz19_2
                        try clear hfz23_0
                        try clear hfz23_1
                        try clear hfz23_2
                        try clear hfz41_0
                        try clear hfz41_1
                        try clear hfz41_2
                        try clear hfz59_0
                        try clear hfz59_1
                        try clear hfz59_2
                        try clear hfz5_0
                        try clear hfz5_1
                        try clear hfz5_2
                        try clear p2
                        obtain ⟨kq, x87_54, rfl, HA, HJ54, HO_7, HO_339002, BK322, BK338, HB⟩ := hcut
                        have hl7_54 := (Kd.R_reads' HO_7.out).1
                        rw [hl7_54] at HO_7
                        (try simp only [hl7_54])
                        (try simp only [hl7_54] at BK322)
                        (try simp only [hl7_54] at BK338)
                        (try simp only [hl7_54] at HO_339002)
                        cases kq with
                        | zero => exact absurd HA.out (by simp [laws_FnExactNeedlessClues.j2])
                        | succ kj54 =>
                          have H := HA.out
                          clear HA
                          simp only [laws_FnExactNeedlessClues.j2] at H
                          by_cases c67 : x87_54 = true
                          · subst c67
                            have H1 : (some false) = some r := by rw [if_pos rfl] at H; exact H
                            clear H
                            have H := H1
                            clear H1
                            exact absurd ((Option.some.inj H).trans rT) (by decide)
                          · replace c67 := Bool.eq_false_iff.mpr c67
                            subst c67
                            have H1 : ((laws_heldIntS.f kj54 t354 1).bind fun t366 => (if t366 < 0 then (some false) else (if t366 = t353 then (some true) else (some false)))) = some r := by rw [if_neg (show ¬ (false = true) by decide)] at H; exact H
                            clear H
                            have H := H1
                            clear H1
                            replace H := Option.bind_eq_some_iff.mp H
                            obtain ⟨t366, A680, H⟩ := H
                            replace H : (if t366 < 0 then (some false) else (if t366 = t353 then (some true) else (some false))) = some r := H
                            have A68 := Aside0.mk A680
                            clear A680
                            by_cases c69 : t366 < 0
                            · rw [if_pos c69] at H
                              have c69b0 : decide (t366 < 0) = true := decide_eq_true c69
                              clear c69
                              exact absurd ((Option.some.inj H).trans rT) (by decide)
                            · rw [if_neg c69] at H
                              have c69b0 : decide (t366 < 0) = false := decide_eq_false c69
                              clear c69
                              by_cases c70 : t366 = t353
                              · rw [if_pos c70] at H
                                have c70b0 : (t366 == t353) = true := beq_iff_eq.mpr c70
                                have c70b1 : (t366 != t353) = false := bne_eq_false_iff_eq.mpr c70
                                clear c70
                                obtain rfl := Option.some.inj H
                                go_wp2_with (first | ((with_reducible refine gate_callee (f := 16) rfl ?_); refine goesL_ (some 90) rfl rfl Try.func16 (by kernel_rfl) rfl #[.slice Ao56 t354.length co56, .int .i64 1] rfl (by (try simp only [List.map_toArray, List.map_cons, List.map_nil]); first | done | rfl | (simp only [List.length_drop, List.length_take]; rfl)) ?_; (with_reducible refine (laws_heldIntS.calls kj54 _ _ t354 1 t366 _ ?side1 ?side2 A68.out).mono ?_); (case side1 => repeat (first | exact (Kd.R_reads' HO_7.out).2.2 | (with_reducible refine Kd.C_alloc ?_ _) | (with_reducible refine Kd.C_drewN ?_ _) | (with_reducible refine Kd.C_drew ?_))); (case side2 => exact (Kd.R_reads' HO_7.out).2.1); rintro e w' ⟨rfl, ⟨nd, rfl⟩⟩; refine ⟨_, rfl, ?_⟩))
                                go_ret
                                exact ⟨by first | rfl | (simp [errW_none, errW_some] <;> rfl) | (simp [*, errW_none, errW_some] <;> rfl), by repeat (first | (with_reducible first | exact HB.out | apply below_alloc | apply pw_below_drewN | apply below_drew1 | refine below_set ?_ GE322.out | refine below_set ?_ GE338.out) | exact HB.out)⟩
                              · rw [if_neg c70] at H
                                have c70b0 : (t366 == t353) = false := beq_eq_false_iff_ne.mpr c70
                                have c70b1 : (t366 != t353) = true := bne_iff_ne.mpr c70
                                exact absurd ((Option.some.inj H).trans rT) (by decide)
                    · rw [if_neg c52] at H
                      have c52b0 : (t355 == t353) = false := beq_eq_false_iff_ne.mpr c52
                      have c52b1 : (t355 != t353) = true := bne_iff_ne.mpr c52
                      exact absurd ((Option.some.inj H).trans rT) (by decide)
          · replace c33 := Bool.eq_false_iff.mpr c33
            subst c33
            have H1 : (some false) = some r := by rw [if_neg (show ¬ (false = true) by decide)] at H; exact H
            clear H
            have H := H1
            clear H1
            exact absurd ((Option.some.inj H).trans rT) (by decide)

end Go.Proofs.Ytdikfagbillioaa.PFnExactNeedlessClues
