/- Printed by a program of this session (wip/pp) over the kit's print, for FnNewsDelayed. No conditions beyond those that each theorem names. -/
import Derived.Test.YtjkjdlpmbpgjgaaPFnNewsDelayedx0
import Derived.Test.YtjkjdlpmbpgjgaaPFnNewsDelayedx2
import Derived.Test.YtjkjdlpmbpgjgaaPFnNewsDelayedx3
import Derived.Test.YtjkjdlpmbpgjgaaPFnNewsDelayedx4
import Derived.Test.YtjkjdlpmbpgjgaaPFnNewsDelayedx5
import Derived.Test.YtjkjdlpmbpgjgaaPFnNewsDelayedx6
namespace Go.Proofs.Ytjkjdlpmbpgjgaa.PFnNewsDelayed
open Go.RowKit Go.Proofs.YtjkjdlpmbpgjgaaW.PrintWords Go.Proofs.YtjkjdlpmbpgjgaaW.PrintLast Go.Proofs.YtjkjdlpmbpgjgaaW.PrintMore
attribute [local go_sem] max2_int min2_int max_two min_two max_three min_three max_four min_four   -- for this text's walks alone
set_option linter.unusedVariables false
set_option linter.unusedSimpArgs false

/-! ### slices_Contains_int_int: function 46 -/
def slices_Contains_int_int.f (k : Nat) (l0 : List Int) (a1 : Int) : Option (Bool) := (slices_Index_int_int.f k l0 a1).bind fun t236 => (some (decide (t236 ≥ 0)))
theorem slices_Contains_int_int.mono : ∀ a0 a1 k, LeO (slices_Contains_int_int.f k a0 a1) (slices_Contains_int_int.f (k + 1) a0 a1) := by
  intro a0 a1 k
  unfold slices_Contains_int_int.f
  repeat' first
      | (with_reducible exact slices_Index_int_int.mono _ _ _)
      | (with_reducible exact LeO.refl _)
      | (with_reducible exact LeO.none _)
      | (with_reducible refine LeO.ite ?_ ?_)
      | (with_reducible refine LeO.bind ?_ (fun _ => ?_))
      | exact slices_Index_int_int.mono _ _ _
      | exact LeO.none _
      | refine LeO.ite ?_ ?_
      | refine LeO.bind ?_ (fun _ => ?_)
set_option maxHeartbeats 8000000 in
set_option maxRecDepth 100000 in
theorem slices_Contains_int_int.calls (k : Nat) (A0 : Option Addr) (c0 : Nat) (l0 : List Int) (a1 : Int) (r : Bool) (w : World) (hr0 : Kd.C (Kd.int .i64) w A0 l0.length l0) (hc0 : l0.length ≤ c0) (h : slices_Contains_int_int.f k l0 a1 = some r) :
    Calls Try.prog 46 #[.slice A0 l0.length c0, .int .i64 a1] w fun e w' => e = .returned (.bool r) ∧ Drawn0 w w' := by
  have HR0 := Aside0.mk hr0
  have HC0 := Aside0.mk hc0
  clear hr0 hc0
  have H : ((slices_Index_int_int.f k l0 a1).bind fun t236 => (some (decide (t236 ≥ 0)))) = some r := h
  clear h
  replace H := Option.bind_eq_some_iff.mp H
  obtain ⟨t236, A30, H⟩ := H
  replace H : (some (decide (t236 ≥ 0))) = some r := H
  have A3 := Aside0.mk A30
  clear A30
  obtain rfl := Option.some.inj H
  go_enter Try.func46, Try.ntmps46
  go_wp2_with (first | ((with_reducible refine gate_callee (f := 53) rfl ?_); refine goesL_ (some 7) rfl rfl Try.func53 (by kernel_rfl) rfl #[.slice A0 l0.length c0, .int .i64 a1] rfl (by (try simp only [List.map_toArray, List.map_cons, List.map_nil]); first | done | rfl | (simp only [List.length_drop, List.length_take]; rfl)) ?_; (with_reducible refine (slices_Index_int_int.calls k _ _ l0 a1 t236 _ ?side1 ?side2 A3.out).mono ?_); (case side1 => repeat (first | exact HR0.out | (with_reducible refine Kd.C_alloc ?_ _) | (with_reducible refine Kd.C_drewN ?_ _) | (with_reducible refine Kd.C_drew ?_))); (case side2 => exact HC0.out); rintro e w' ⟨rfl, ⟨nd, rfl⟩⟩; refine ⟨_, rfl, ?_⟩))
  go_ret
  exact ⟨by first | rfl | (simp; done) | (simp [*]; done), by repeat (first | exact Drawn0.refl _ | apply Drawn0.step)⟩

/-! ### slices_Max_int_int: function 47 -/
def slices_Max_int_int.l0 : Nat → List Int → Int → Int → Option (Int)
  | 0, _, _, _ => none
  | k + 1, x0, x3, x4 => if x4 < (x0.length : Int) then (if 0 ≤ x4 then (slices_Max_int_int.l0 k x0 (mx x3 (rd x0 x4)) (wrap64 (x4 + 1))) else (none)) else (some x3)
def slices_Max_int_int.f (k : Nat) (l0 : List Int) : Option (Int) := if (l0.length : Int) < 1 then (none) else (if 0 < (l0.length : Int) then (slices_Max_int_int.l0 k l0 (rd l0 0) 1) else (none))
theorem slices_Max_int_int.mono_l : ∀ k, (∀ y0 y1 y2, LeO (slices_Max_int_int.l0 k y0 y1 y2) (slices_Max_int_int.l0 (k + 1) y0 y1 y2))
  | 0 => fun _ _ _ r h => by simp [slices_Max_int_int.l0] at h
  | k + 1 => by
    have ih0 := slices_Max_int_int.mono_l k
    · intro y0 y1 y2
      unfold slices_Max_int_int.l0
      repeat' first
      | (with_reducible exact ih0 _ _ _)
      | (with_reducible exact LeO.refl _)
      | (with_reducible exact LeO.none _)
      | (with_reducible refine LeO.ite ?_ ?_)
      | (with_reducible refine LeO.bind ?_ (fun _ => ?_))
      | exact ih0 _ _ _
      | exact LeO.none _
      | refine LeO.ite ?_ ?_
      | refine LeO.bind ?_ (fun _ => ?_)
theorem slices_Max_int_int.mono : ∀ a0 k, LeO (slices_Max_int_int.f k a0) (slices_Max_int_int.f (k + 1) a0) := by
  intro a0 k
  have ih0 := slices_Max_int_int.mono_l k
  unfold slices_Max_int_int.f
  repeat' first
      | (with_reducible exact ih0 _ _ _)
      | (with_reducible exact LeO.refl _)
      | (with_reducible exact LeO.none _)
      | (with_reducible refine LeO.ite ?_ ?_)
      | (with_reducible refine LeO.bind ?_ (fun _ => ?_))
      | exact ih0 _ _ _
      | exact LeO.none _
      | refine LeO.ite ?_ ?_
      | refine LeO.bind ?_ (fun _ => ?_)
set_option maxHeartbeats 8000000 in
set_option maxRecDepth 100000 in
theorem slices_Max_int_int.calls (k : Nat) (A0 : Option Addr) (c0 : Nat) (l0 : List Int) (r : Int) (w : World) (hr0 : Kd.C (Kd.int .i64) w A0 l0.length l0) (hc0 : l0.length ≤ c0) (h : slices_Max_int_int.f k l0 = some r) :
    Calls Try.prog 47 #[.slice A0 l0.length c0] w fun e w' => e = .returned (.int .i64 r) ∧ Below w.heap.size w w' := by
  have HR0 := Aside0.mk hr0
  have HC0 := Aside0.mk hc0
  clear hr0 hc0
  have HB := Aside0.mk (Below.refl w.heap.size w)
  have H : (if (l0.length : Int) < 1 then (none) else (if 0 < (l0.length : Int) then (slices_Max_int_int.l0 k l0 (rd l0 0) 1) else (none))) = some r := h
  clear h
  by_cases c2 : (l0.length : Int) < 1
  · rw [if_pos c2] at H
    exact absurd H (by simp)
  · rw [if_neg c2] at H
    have c2b0 : decide ((l0.length : Int) < 1) = false := decide_eq_false c2
    have c2b1 : decide (l0.length < 1) = false := decide_eq_false (by omega)
    clear c2
    by_cases c3 : 0 < (l0.length : Int)
    · rw [if_pos c3] at H
      have c3b0 : decide (0 < (l0.length : Int)) = true := decide_eq_true c3
      have c3b1 : decide (0 < l0.length) = true := decide_eq_true (by omega)
      clear c3
      have H' := Aside0.mk H
      clear H
      have p237 : 0 ≤ (0 : Int) := (by omega)
      have q237 : 0 < (l0.length : Int) := of_decide_eq_true (by first | (with_reducible assumption) | assumption)
      obtain ⟨ad237, e237, hx237_0⟩ := Kd.at_int HR0.out 0 p237 q237
      cases e237
      have qi237 : (0 < l0.length) = True := eq_true (by omega)
      (try rw [show ((0 : Int)).toNat = 0 from rfl] at hx237_0)
      (try rw [Addr.add_zero'] at hx237_0)
      replace p237 := eq_true p237
      replace q237 := eq_true q237
      go_enter Try.func47, Try.ntmps47
      go_wp2
      go_loopg [3, 4] k (fun kq v3 v4 w' => ∃ (x3_1 : Int) (x4_1 : Int), v3 = .int .i64 x3_1 ∧ v4 = .int .i64 x4_1 ∧ Aside0 (slices_Max_int_int.l0 kq l0 x3_1 x4_1 = some r) ∧ Aside0 (kq ≤ k) ∧ Aside0 (Below w.heap.size w w'))
      case atStart => exact ⟨(rd l0 0), (1), (by first | rfl | (simp; done) | (simp [*]; done)), (by first | rfl | (simp; done) | (simp [*]; done)), H', ⟨Nat.le_refl _⟩, ⟨by repeat (first | (with_reducible first | exact HB.out | apply below_alloc | apply pw_below_drewN | apply below_drew1) | exact HB.out)⟩⟩
      case round =>
        clear H'
        try clear c2
        try clear c2b0
        try clear c2b1
        try clear p2
        try clear q2
        try clear hx2
        try clear qi2
        try clear c3
        try clear c3b0
        try clear c3b1
        try clear hx237_0
        try clear p237
        try clear q237
        obtain ⟨x3_1, x4_1, rfl, rfl, HA, HK1, HB⟩ := hrel
        cases gk with
        | zero => exact absurd HA.out (by simp [slices_Max_int_int.l0])
        | succ k1 =>
          have H := HA.out
          clear HA
          simp only [slices_Max_int_int.l0] at H
          by_cases c4 : x4_1 < (l0.length : Int)
          · rw [if_pos c4] at H
            have c4b0 : decide (x4_1 < (l0.length : Int)) = true := decide_eq_true c4
            clear c4
            by_cases c5 : 0 ≤ x4_1
            · rw [if_pos c5] at H
              have c5b0 : decide (0 ≤ x4_1) = true := decide_eq_true c5
              clear c5
              obtain ⟨ji6, hji6⟩ : ∃ j_ : Int, (mx x3_1 (rd l0 x4_1)) = j_ := ⟨_, rfl⟩
              replace H : (slices_Max_int_int.l0 k1 l0 ji6 (wrap64 (x4_1 + 1))) = some r := by first | (rw [hji6] at H; exact H) | (simp only [hji6] at H ⊢; exact H)
              have hji6_ : (if x3_1 < (rd l0 x4_1) then (rd l0 x4_1) else x3_1) = ji6 := hji6
              have H' := Aside0.mk H
              clear H
              have p238 : 0 ≤ (x4_1 : Int) := of_decide_eq_true (by first | (with_reducible assumption) | assumption)
              have q238 : x4_1 < (l0.length : Int) := of_decide_eq_true (by first | (with_reducible assumption) | assumption)
              obtain ⟨ad238, e238, hx238_0⟩ := Kd.at_int HR0.out x4_1 p238 q238
              obtain rfl : ad237 = ad238 := (by injection e238)
              replace hx238_0 := (HB.out.cell (World.block_lt_of_cell? w _ hx238_0)).trans hx238_0
              replace p238 := eq_true p238
              replace q238 := eq_true q238
              go_wp2
              go_roundg k1
              case measure => have := HK1.out; omega
              case rel => exact ⟨(ji6), (wrap64 (x4_1 + 1)), (by first | rfl | (simp; done) | (simp only [← hji6] <;> (first | rfl | simp)) | (simp [*]; done)), (by first | rfl | (simp; done) | (simp [*]; done)), H', ⟨by have := HK1.out; omega⟩, ⟨by repeat (first | (with_reducible first | exact HB.out | apply below_alloc | apply pw_below_drewN | apply below_drew1) | exact HB.out)⟩⟩
            · rw [if_neg c5] at H
              exact absurd H (by simp)
          · rw [if_neg c4] at H
            have c4b0 : decide (x4_1 < (l0.length : Int)) = false := decide_eq_false c4
            clear c4
            obtain rfl := Option.some.inj H
            go_wp2
            go_ret
            exact ⟨by first | rfl | (simp [errW_none, errW_some] <;> rfl) | (simp [*, errW_none, errW_some] <;> rfl), by repeat (first | (with_reducible first | exact HB.out | apply below_alloc | apply pw_below_drewN | apply below_drew1) | exact HB.out)⟩
    · rw [if_neg c3] at H
      exact absurd H (by simp)

/-! ### impl_LastArrival: function 39 -/
def impl_LastArrival.f (k : Nat) (a0 : Int) (a1 : Int) (l2 : List (S36)) : Option (Int × Bool) := (impl_ArrivalsOf.f a0 a1 l2).bind fun bt239 => (if bt239.2 = true then ((slices_Contains_int_int.f k bt239.1 (-1)).bind fun t243 => (if t243 = true then (some (0, false)) else ((slices_Max_int_int.f k bt239.1).bind fun t244 => (some (t244, true))))) else (some (0, false)))
theorem impl_LastArrival.mono : ∀ a0 a1 a2 k, LeO (impl_LastArrival.f k a0 a1 a2) (impl_LastArrival.f (k + 1) a0 a1 a2) := by
  intro a0 a1 a2 k
  unfold impl_LastArrival.f
  repeat' first
      | (with_reducible exact slices_Contains_int_int.mono _ _ _)
      | (with_reducible exact slices_Max_int_int.mono _ _)
      | (with_reducible exact LeO.refl _)
      | (with_reducible exact LeO.none _)
      | (with_reducible refine LeO.ite ?_ ?_)
      | (with_reducible refine LeO.bind ?_ (fun _ => ?_))
      | exact slices_Contains_int_int.mono _ _ _
      | exact slices_Max_int_int.mono _ _
      | exact LeO.none _
      | refine LeO.ite ?_ ?_
      | refine LeO.bind ?_ (fun _ => ?_)
set_option maxHeartbeats 8000000 in
set_option maxRecDepth 100000 in
theorem impl_LastArrival.calls (k : Nat) (a0 : Int) (a1 : Int) (A2 : Option Addr) (c2 : Nat) (l2 : List (S36)) (r1 : Int) (r2 : Bool) (w : World) (hr2 : Kd.C k36 w A2 l2.length l2) (hc2 : l2.length ≤ c2) (h : impl_LastArrival.f k a0 a1 l2 = some (r1, r2)) :
    Calls Try.prog 39 #[.int .i64 a0, .int .i64 a1, .slice A2 l2.length c2] w fun e w' => e = .returned (.tuple #[.int .i64 r1, .bool r2]) ∧ Below w.heap.size w w' := by
  have HR2 := Aside0.mk hr2
  have HC2 := Aside0.mk hc2
  clear hr2 hc2
  have HB := Aside0.mk (Below.refl w.heap.size w)
  have H : ((impl_ArrivalsOf.f a0 a1 l2).bind fun bt239 => (if bt239.2 = true then ((slices_Contains_int_int.f k bt239.1 (-1)).bind fun t243 => (if t243 = true then (some (0, false)) else ((slices_Max_int_int.f k bt239.1).bind fun t244 => (some (t244, true))))) else (some (0, false)))) = some (r1, r2) := h
  clear h
  replace H := Option.bind_eq_some_iff.mp H
  obtain ⟨⟨t239, t240⟩, A40, H⟩ := H
  replace H : (if t240 = true then ((slices_Contains_int_int.f k t239 (-1)).bind fun t243 => (if t243 = true then (some (0, false)) else ((slices_Max_int_int.f k t239).bind fun t244 => (some (t244, true))))) else (some (0, false))) = some (r1, r2) := H
  have A4 := Aside0.mk A40
  clear A40
  by_cases c5 : t240 = true
  · subst c5
    have H1 : ((slices_Contains_int_int.f k t239 (-1)).bind fun t243 => (if t243 = true then (some (0, false)) else ((slices_Max_int_int.f k t239).bind fun t244 => (some (t244, true))))) = some (r1, r2) := by rw [if_pos rfl] at H; exact H
    clear H
    have H := H1
    clear H1
    replace H := Option.bind_eq_some_iff.mp H
    obtain ⟨t243, A60, H⟩ := H
    replace H : (if t243 = true then (some (0, false)) else ((slices_Max_int_int.f k t239).bind fun t244 => (some (t244, true)))) = some (r1, r2) := H
    have A6 := Aside0.mk A60
    clear A60
    by_cases c7 : t243 = true
    · subst c7
      have H1 : (some (0, false)) = some (r1, r2) := by rw [if_pos rfl] at H; exact H
      clear H
      have H := H1
      clear H1
      simp only [Option.some.injEq, Prod.mk.injEq] at H
      obtain ⟨rfl, rfl⟩ := H
      go_enter Try.func39, Try.ntmps39
      go_wp2_with (first | ((with_reducible refine gate_callee (f := 45) rfl ?_); refine goesL_ (some 14) rfl rfl Try.func45 (by kernel_rfl) rfl #[.int .i64 a0, .int .i64 a1, .slice A2 l2.length c2] rfl (by (try simp only [List.map_toArray, List.map_cons, List.map_nil]); first | done | rfl | (simp only [List.length_drop, List.length_take]; rfl)) ?_; (with_reducible refine (impl_ArrivalsOf.calls a0 a1 _ _ l2 t239 true _ ?side1 ?side2 A4.out).mono ?_); (case side1 => repeat (first | exact HR2.out | (with_reducible refine Kd.C_alloc ?_ _) | (with_reducible refine Kd.C_drewN ?_ _) | (with_reducible refine Kd.C_drew ?_))); (case side2 => exact HC2.out); rintro e w8 ⟨v241, rfl, ho0, hb⟩; refine ⟨_, rfl, ?_⟩; have n0_ := Aside0.mk (Kd.R_lower ho0 (below_size (by repeat (first | (with_reducible first | exact HB.out | apply below_alloc | apply pw_below_drewN | apply below_drew1) | exact HB.out)))); have n1_ := Aside0.mk (below_step (by repeat (first | (with_reducible first | exact HB.out | apply below_alloc | apply pw_below_drewN | apply below_drew1) | exact HB.out)) hb); clear HB; have HO242 := n0_; have HB := n1_; clear n0_ n1_; (try clear hb); (try clear hb2); (try clear hk); (try clear hi); (try clear ho0); obtain ⟨Ao9, co9, eo9⟩ := Kd.R_slice HO242.out; subst eo9) | (go_at_call 46; (with_reducible refine (slices_Contains_int_int.calls k _ _ t239 (-1) true _ ?side1 ?side2 A6.out).mono ?_); (case side1 => repeat (first | exact (Kd.R_reads' HO242.out).2.2 | (with_reducible refine Kd.C_alloc ?_ _) | (with_reducible refine Kd.C_drewN ?_ _) | (with_reducible refine Kd.C_drew ?_))); (case side2 => exact (Kd.R_reads' HO242.out).2.1); rintro e w' ⟨rfl, ⟨nd, rfl⟩⟩))
      go_ret2
      exact ⟨by first | rfl | (simp [errW_none, errW_some] <;> rfl) | (simp [*, errW_none, errW_some] <;> rfl), by repeat (first | (with_reducible first | exact HB.out | apply below_alloc | apply pw_below_drewN | apply below_drew1) | exact HB.out)⟩
    · replace c7 := Bool.eq_false_iff.mpr c7
      subst c7
      have H1 : ((slices_Max_int_int.f k t239).bind fun t244 => (some (t244, true))) = some (r1, r2) := by rw [if_neg (show ¬ (false = true) by decide)] at H; exact H
      clear H
      have H := H1
      clear H1
      replace H := Option.bind_eq_some_iff.mp H
      obtain ⟨t244, A100, H⟩ := H
      replace H : (some (t244, true)) = some (r1, r2) := H
      have A10 := Aside0.mk A100
      clear A100
      simp only [Option.some.injEq, Prod.mk.injEq] at H
      obtain ⟨rfl, rfl⟩ := H
      go_enter Try.func39, Try.ntmps39
      go_wp2_with (first | ((with_reducible refine gate_callee (f := 45) rfl ?_); refine goesL_ (some 14) rfl rfl Try.func45 (by kernel_rfl) rfl #[.int .i64 a0, .int .i64 a1, .slice A2 l2.length c2] rfl (by (try simp only [List.map_toArray, List.map_cons, List.map_nil]); first | done | rfl | (simp only [List.length_drop, List.length_take]; rfl)) ?_; (with_reducible refine (impl_ArrivalsOf.calls a0 a1 _ _ l2 t239 true _ ?side1 ?side2 A4.out).mono ?_); (case side1 => repeat (first | exact HR2.out | (with_reducible refine Kd.C_alloc ?_ _) | (with_reducible refine Kd.C_drewN ?_ _) | (with_reducible refine Kd.C_drew ?_))); (case side2 => exact HC2.out); rintro e w11 ⟨v241, rfl, ho0, hb⟩; refine ⟨_, rfl, ?_⟩; have n0_ := Aside0.mk (Kd.R_lower ho0 (below_size (by repeat (first | (with_reducible first | exact HB.out | apply below_alloc | apply pw_below_drewN | apply below_drew1) | exact HB.out)))); have n1_ := Aside0.mk (below_step (by repeat (first | (with_reducible first | exact HB.out | apply below_alloc | apply pw_below_drewN | apply below_drew1) | exact HB.out)) hb); clear HB; have HO242 := n0_; have HB := n1_; clear n0_ n1_; (try clear hb); (try clear hb2); (try clear hk); (try clear hi); (try clear ho0); obtain ⟨Ao12, co12, eo12⟩ := Kd.R_slice HO242.out; subst eo12) | (go_at_call 46; (with_reducible refine (slices_Contains_int_int.calls k _ _ t239 (-1) false _ ?side1 ?side2 A6.out).mono ?_); (case side1 => repeat (first | exact (Kd.R_reads' HO242.out).2.2 | (with_reducible refine Kd.C_alloc ?_ _) | (with_reducible refine Kd.C_drewN ?_ _) | (with_reducible refine Kd.C_drew ?_))); (case side2 => exact (Kd.R_reads' HO242.out).2.1); rintro e w' ⟨rfl, ⟨nd, rfl⟩⟩) | ((with_reducible refine gate_callee (f := 47) rfl ?_); refine goesL_ (some 24) rfl rfl Try.func47 (by kernel_rfl) rfl #[.slice Ao12 t239.length co12] rfl (by (try simp only [List.map_toArray, List.map_cons, List.map_nil]); first | done | rfl | (simp only [List.length_drop, List.length_take]; rfl)) ?_; (with_reducible refine (slices_Max_int_int.calls k _ _ t239 t244 _ ?side1 ?side2 A10.out).mono ?_); (case side1 => repeat (first | exact (Kd.R_reads' HO242.out).2.2 | (with_reducible refine Kd.C_alloc ?_ _) | (with_reducible refine Kd.C_drewN ?_ _) | (with_reducible refine Kd.C_drew ?_))); (case side2 => exact (Kd.R_reads' HO242.out).2.1); rintro e w13 ⟨rfl, hb⟩; refine ⟨_, rfl, ?_⟩; have n0_ := Aside0.mk (Kd.R_below (by (with_reducible repeat (first | apply Kd.R_alloc | apply Kd.R_drewN | apply Kd.R_drew)); exact HO242.out) hb); have n1_ := Aside0.mk (below_step (by repeat (first | (with_reducible first | exact HB.out | apply below_alloc | apply pw_below_drewN | apply below_drew1) | exact HB.out)) hb); clear HO242; clear HB; have HO242 := n0_; have HB := n1_; clear n0_ n1_; (try clear hb); (try clear hb2); (try clear hk); (try clear hi)))
      go_ret2
      exact ⟨by first | rfl | (simp [errW_none, errW_some] <;> rfl) | (simp [*, errW_none, errW_some] <;> rfl), by repeat (first | (with_reducible first | exact HB.out | apply below_alloc | apply pw_below_drewN | apply below_drew1) | exact HB.out)⟩
  · replace c5 := Bool.eq_false_iff.mpr c5
    subst c5
    have H1 : (some (0, false)) = some (r1, r2) := by rw [if_neg (show ¬ (false = true) by decide)] at H; exact H
    clear H
    have H := H1
    clear H1
    simp only [Option.some.injEq, Prod.mk.injEq] at H
    obtain ⟨rfl, rfl⟩ := H
    go_enter Try.func39, Try.ntmps39
    go_wp2_with (first | ((with_reducible refine gate_callee (f := 45) rfl ?_); refine goesL_ (some 14) rfl rfl Try.func45 (by kernel_rfl) rfl #[.int .i64 a0, .int .i64 a1, .slice A2 l2.length c2] rfl (by (try simp only [List.map_toArray, List.map_cons, List.map_nil]); first | done | rfl | (simp only [List.length_drop, List.length_take]; rfl)) ?_; (with_reducible refine (impl_ArrivalsOf.calls a0 a1 _ _ l2 t239 false _ ?side1 ?side2 A4.out).mono ?_); (case side1 => repeat (first | exact HR2.out | (with_reducible refine Kd.C_alloc ?_ _) | (with_reducible refine Kd.C_drewN ?_ _) | (with_reducible refine Kd.C_drew ?_))); (case side2 => exact HC2.out); rintro e w14 ⟨v241, rfl, ho0, hb⟩; refine ⟨_, rfl, ?_⟩; have n0_ := Aside0.mk (Kd.R_lower ho0 (below_size (by repeat (first | (with_reducible first | exact HB.out | apply below_alloc | apply pw_below_drewN | apply below_drew1) | exact HB.out)))); have n1_ := Aside0.mk (below_step (by repeat (first | (with_reducible first | exact HB.out | apply below_alloc | apply pw_below_drewN | apply below_drew1) | exact HB.out)) hb); clear HB; have HO242 := n0_; have HB := n1_; clear n0_ n1_; (try clear hb); (try clear hb2); (try clear hk); (try clear hi); (try clear ho0)))
    go_ret2
    exact ⟨by first | rfl | (simp [errW_none, errW_some] <;> rfl) | (simp [*, errW_none, errW_some] <;> rfl), by repeat (first | (with_reducible first | exact HB.out | apply below_alloc | apply pw_below_drewN | apply below_drew1) | exact HB.out)⟩

/-! ### impl_LateBy: function 21 -/
def impl_LateBy.f (k : Nat) (a0 : Int) (a1 : Int) (l2 : List (S36)) : Option (Int × Bool) := (impl_LastArrival.f k a0 a1 l2).bind fun bt245 => (if bt245.2 = true then ((impl_minutesFor.f k a0 a1).bind fun t247 => (some (wrap64 (bt245.1 - t247), true))) else (some (0, false)))
theorem impl_LateBy.mono : ∀ a0 a1 a2 k, LeO (impl_LateBy.f k a0 a1 a2) (impl_LateBy.f (k + 1) a0 a1 a2) := by
  intro a0 a1 a2 k
  unfold impl_LateBy.f
  repeat' first
      | (with_reducible exact impl_LastArrival.mono _ _ _ _)
      | (with_reducible exact impl_minutesFor.mono _ _ _)
      | (with_reducible exact LeO.refl _)
      | (with_reducible exact LeO.none _)
      | (with_reducible refine LeO.ite ?_ ?_)
      | (with_reducible refine LeO.bind ?_ (fun _ => ?_))
      | exact impl_LastArrival.mono _ _ _ _
      | exact impl_minutesFor.mono _ _ _
      | exact LeO.none _
      | refine LeO.ite ?_ ?_
      | refine LeO.bind ?_ (fun _ => ?_)
set_option maxHeartbeats 8000000 in
set_option maxRecDepth 100000 in
theorem impl_LateBy.calls (k : Nat) (a0 : Int) (a1 : Int) (A2 : Option Addr) (c2 : Nat) (l2 : List (S36)) (r1 : Int) (r2 : Bool) (w : World) (hr2 : Kd.C k36 w A2 l2.length l2) (hc2 : l2.length ≤ c2) (h : impl_LateBy.f k a0 a1 l2 = some (r1, r2)) :
    Calls Try.prog 21 #[.int .i64 a0, .int .i64 a1, .slice A2 l2.length c2] w fun e w' => e = .returned (.tuple #[.int .i64 r1, .bool r2]) ∧ Below w.heap.size w w' := by
  have HR2 := Aside0.mk hr2
  have HC2 := Aside0.mk hc2
  clear hr2 hc2
  have HB := Aside0.mk (Below.refl w.heap.size w)
  have H : ((impl_LastArrival.f k a0 a1 l2).bind fun bt245 => (if bt245.2 = true then ((impl_minutesFor.f k a0 a1).bind fun t247 => (some (wrap64 (bt245.1 - t247), true))) else (some (0, false)))) = some (r1, r2) := h
  clear h
  replace H := Option.bind_eq_some_iff.mp H
  obtain ⟨⟨t245, t246⟩, A40, H⟩ := H
  replace H : (if t246 = true then ((impl_minutesFor.f k a0 a1).bind fun t247 => (some (wrap64 (t245 - t247), true))) else (some (0, false))) = some (r1, r2) := H
  have A4 := Aside0.mk A40
  clear A40
  by_cases c5 : t246 = true
  · subst c5
    have H1 : ((impl_minutesFor.f k a0 a1).bind fun t247 => (some (wrap64 (t245 - t247), true))) = some (r1, r2) := by rw [if_pos rfl] at H; exact H
    clear H
    have H := H1
    clear H1
    replace H := Option.bind_eq_some_iff.mp H
    obtain ⟨t247, A60, H⟩ := H
    replace H : (some (wrap64 (t245 - t247), true)) = some (r1, r2) := H
    have A6 := Aside0.mk A60
    clear A60
    simp only [Option.some.injEq, Prod.mk.injEq] at H
    obtain ⟨rfl, rfl⟩ := H
    go_enter Try.func21, Try.ntmps21
    go_wp2_with (first | ((with_reducible refine gate_callee (f := 39) rfl ?_); refine goesL_ (some 14) rfl rfl Try.func39 (by kernel_rfl) rfl #[.int .i64 a0, .int .i64 a1, .slice A2 l2.length c2] rfl (by (try simp only [List.map_toArray, List.map_cons, List.map_nil]); first | done | rfl | (simp only [List.length_drop, List.length_take]; rfl)) ?_; (with_reducible refine (impl_LastArrival.calls k a0 a1 _ _ l2 t245 true _ ?side1 ?side2 A4.out).mono ?_); (case side1 => repeat (first | exact HR2.out | (with_reducible refine Kd.C_alloc ?_ _) | (with_reducible refine Kd.C_drewN ?_ _) | (with_reducible refine Kd.C_drew ?_))); (case side2 => exact HC2.out); rintro e w7 ⟨rfl, hb⟩; refine ⟨_, rfl, ?_⟩; have n0_ := Aside0.mk (below_step (by repeat (first | (with_reducible first | exact HB.out | apply below_alloc | apply pw_below_drewN | apply below_drew1) | exact HB.out)) hb); clear HB; have HB := n0_; clear n0_; (try clear hb); (try clear hb2); (try clear hk); (try clear hi)) | ((with_reducible refine gate_callee (f := 30) rfl ?_); refine goesL_ (some 22) rfl rfl Try.func30 (by kernel_rfl) rfl #[.int .i64 a0, .int .i64 a1] rfl (by (try simp only [List.map_toArray, List.map_cons, List.map_nil]); first | done | rfl | (simp only [List.length_drop, List.length_take]; rfl)) ?_; (with_reducible refine (impl_minutesFor.calls k a0 a1 t247 _ A6.out).mono ?_); rintro e w8 ⟨rfl, hb⟩; refine ⟨_, rfl, ?_⟩; have n0_ := Aside0.mk (below_step (by repeat (first | (with_reducible first | exact HB.out | apply below_alloc | apply pw_below_drewN | apply below_drew1) | exact HB.out)) hb); clear HB; have HB := n0_; clear n0_; (try clear hb); (try clear hb2); (try clear hk); (try clear hi)))
    go_ret2
    exact ⟨by first | rfl | (simp [errW_none, errW_some] <;> rfl) | (simp [*, errW_none, errW_some] <;> rfl), by repeat (first | (with_reducible first | exact HB.out | apply below_alloc | apply pw_below_drewN | apply below_drew1) | exact HB.out)⟩
  · replace c5 := Bool.eq_false_iff.mpr c5
    subst c5
    have H1 : (some (0, false)) = some (r1, r2) := by rw [if_neg (show ¬ (false = true) by decide)] at H; exact H
    clear H
    have H := H1
    clear H1
    simp only [Option.some.injEq, Prod.mk.injEq] at H
    obtain ⟨rfl, rfl⟩ := H
    go_enter Try.func21, Try.ntmps21
    go_wp2_with (first | ((with_reducible refine gate_callee (f := 39) rfl ?_); refine goesL_ (some 14) rfl rfl Try.func39 (by kernel_rfl) rfl #[.int .i64 a0, .int .i64 a1, .slice A2 l2.length c2] rfl (by (try simp only [List.map_toArray, List.map_cons, List.map_nil]); first | done | rfl | (simp only [List.length_drop, List.length_take]; rfl)) ?_; (with_reducible refine (impl_LastArrival.calls k a0 a1 _ _ l2 t245 false _ ?side1 ?side2 A4.out).mono ?_); (case side1 => repeat (first | exact HR2.out | (with_reducible refine Kd.C_alloc ?_ _) | (with_reducible refine Kd.C_drewN ?_ _) | (with_reducible refine Kd.C_drew ?_))); (case side2 => exact HC2.out); rintro e w9 ⟨rfl, hb⟩; refine ⟨_, rfl, ?_⟩; have n0_ := Aside0.mk (below_step (by repeat (first | (with_reducible first | exact HB.out | apply below_alloc | apply pw_below_drewN | apply below_drew1) | exact HB.out)) hb); clear HB; have HB := n0_; clear n0_; (try clear hb); (try clear hb2); (try clear hk); (try clear hi)))
    go_ret2
    exact ⟨by first | rfl | (simp [errW_none, errW_some] <;> rfl) | (simp [*, errW_none, errW_some] <;> rfl), by repeat (first | (with_reducible first | exact HB.out | apply below_alloc | apply pw_below_drewN | apply below_drew1) | exact HB.out)⟩

/-! ### laws_FnNewsDelayed: function 3, by hand -/
abbrev smallI (x : Int) : Prop := -4000000000000000000 ≤ x ∧ x ≤ 4000000000000000000
def Nd1 (k : Nat) (d m a fr less need : Int) (ok : Bool) : Prop :=
  impl_InformedAt.f k d m = some (a, ok) ∧ spec_InformedAt.f k d m = some (a, ok) ∧ impl_NewAt.f k d m = some (fr, ok) ∧ spec_NewAt.f k d m = some (fr, ok) ∧
  (ok = true → smallI d ∧ smallI m ∧ smallI a ∧ smallI less ∧ (0 < m → impl_InformedAt.f k d (m - 1) = some (less, true)) ∧ (¬ 0 < m → less = 0) ∧ fr = a - less ∧ 1 ≤ a ∧ (d ≤ m → impl_InformedAt.f k d (m - d) = some (fr, true)) ∧ (a ≤ 1000000 → impl_MinutesFor.f k d a = some (need, true) ∧ need ≤ m ∧ (0 < fr → need = m)))
def Nd2 (k : Nat) (d p need many less : Int) (o : Bool) : Prop :=
  impl_MinutesFor.f k d p = some (need, o) ∧ spec_MinutesFor.f k d p = some (need, o) ∧ (o = true → smallI need ∧ (need ≤ 60 → impl_InformedAt.f k d need = some (many, true) ∧ p ≤ many ∧ (0 < need → impl_InformedAt.f k d (need - 1) = some (less, true) ∧ less < p)))
def Nd3 (k : Nat) (p m great by_ later : Int) (o : Bool) : Prop :=
  impl_GreatestDelay.f k p m = some (great, o) ∧ spec_GreatestDelay.f k p m = some (great, o) ∧ (o = true → smallI great ∧ impl_MinutesFor.f k great p = some (by_, true) ∧ by_ ≤ m ∧ (great < 10 → impl_MinutesFor.f k (great + 1) p = some (later, true) ∧ m < later))
def qOk (l : List S36) (i : Nat) : Prop := (rd_T36 l (i : Int)).f1 = (i : Int) + 1 ∧ (0 < i → (rd_T36 l ((i : Int) - 1)).f2 < (rd_T36 l (i : Int)).f2 ∨ (rd_T36 l ((i : Int) - 1)).f2 = (rd_T36 l (i : Int)).f2 ∧ (rd_T36 l ((i : Int) - 1)).f0 < (rd_T36 l (i : Int)).f0)
def Nd4 (k : Nat) (e q : Int) (qs due : List S36) (o : Bool) : Prop :=
  impl_QuickSends.f k e q = some (qs, o) ∧ spec_QuickSends.f k e q = some (due, o) ∧ laws_dSends.f k qs due = some true ∧ (o = true → smallI q ∧ impl_AreSends.f e q qs = some (true, true) ∧ impl_LateBy.f k e q qs = some (0, true) ∧ (qs.length : Int) = q - 1 ∧ qs.length ≤ 1000 ∧ ∀ i : Nat, i < qs.length → qOk qs i)
/-- what the law finds, where it returns true -/
def NdAll (k : Nat) (l0 l1 : List Int) : Prop := ∃ (d m a fr less need : Int) (ok : Bool) (d2 p need2 many less2 : Int) (o2 : Bool) (p3 m3 great by_ later : Int) (o3 : Bool) (e q : Int) (qs due : List S36) (o4 : Bool),
  spec_DrawInformedAt.f l0 = some (d, m) ∧ Nd1 k d m a fr less need ok ∧ spec_DrawMinutesFor.f l1 = some (d2, p) ∧ Nd2 k d2 p need2 many less2 o2 ∧ spec_DrawGreatestDelay.f l1 = some (p3, m3) ∧ Nd3 k p3 m3 great by_ later o3 ∧ spec_DrawQuickSends.f l1 = some (e, q) ∧ Nd4 k e q qs due o4
set_option maxHeartbeats 8000000 in
set_option maxRecDepth 100000 in
theorem nd_calls (k : Nat) (A0 : Option Addr) (c0 : Nat) (l0 : List Int) (A1 : Option Addr) (c1 : Nat) (l1 : List Int) (w : World) (hr0 : Kd.C (Kd.int .u8) w A0 l0.length l0) (hc0 : l0.length ≤ c0) (hr1 : Kd.C (Kd.int .u8) w A1 l1.length l1) (hc1 : l1.length ≤ c1) (hbig : laws_big.f l0 l1 = some false) (h : NdAll k l0 l1) :
    Calls Try.prog 3 #[.slice A0 l0.length c0, .slice A1 l1.length c1] w fun e w' => e = .returned (.bool true) ∧ Below w.heap.size w w' := by
  obtain ⟨d, m, a, fr, less, need, ok, d2, p, need2, many, less2, o2, p3, m3, great, by_, later, o3, e4, q, qs, due, o4, hD1, hN1, hD2, hN2, hD3, hN3, hD4, hN4⟩ := h
  have HR0 := Aside0.mk hr0
  have HR1 := Aside0.mk hr1
  have HC0 := Aside0.mk hc0
  have HC1 := Aside0.mk hc1
  have HBG := Aside0.mk hbig
  have D1 := Aside0.mk hD1
  have D2 := Aside0.mk hD2
  have D3 := Aside0.mk hD3
  have D4 := Aside0.mk hD4
  have N1 := Aside0.mk hN1
  have N2 := Aside0.mk hN2
  have N3 := Aside0.mk hN3
  have N4 := Aside0.mk hN4
  clear hr0 hr1 hc0 hc1 hbig hD1 hD2 hD3 hD4 hN1 hN2 hN3 hN4
  have n1 : (a != a) = false := by simp
  have n2 : (fr != fr) = false := by simp
  have n3 : (ok != ok) = false := by simp
  have HB := Aside0.mk (Below.refl w.heap.size w)
  obtain ⟨f1, f2, f3, f4, g1⟩ := N1.out
  have F1 := Aside0.mk f1
  have F2 := Aside0.mk f2
  have F3 := Aside0.mk f3
  have F4 := Aside0.mk f4
  have G1 := Aside0.mk g1
  clear f1 f2 f3 f4 g1 N1
  go_enter Try.func3, Try.ntmps3
  go_upto_if 109 with (first
    | (go_at_call 4; refine (laws_big.calls _ _ l0 _ _ l1 false _ HR0.out HC0.out HR1.out HC1.out HBG.out).mono ?_; rintro e w1 ⟨rfl, ⟨nd, rfl⟩⟩)
    | (go_at_call 5; (refine (spec_DrawInformedAt.calls _ _ l0 d m _ (Kd.C_below HR0.out (by repeat (first | exact HB.out | apply below_alloc | apply pw_below_drewN | apply below_drew1))) HC0.out D1.out).mono ?_); rintro e u1 ⟨rfl, hb⟩; have nB := Aside0.mk (below_step (by repeat (first | exact HB.out | apply below_alloc | apply pw_below_drewN | apply below_drew1)) hb); clear HB; have HB := nB; clear nB hb)
    | (go_at_call 6; (refine (impl_InformedAt.calls k d m a ok _ F1.out).mono ?_); rintro e u2 ⟨rfl, hb⟩; have nB := Aside0.mk (below_step (by repeat (first | exact HB.out | apply below_alloc | apply pw_below_drewN | apply below_drew1)) hb); clear HB; have HB := nB; clear nB hb)
    | (go_at_call 7; (refine (spec_InformedAt.calls k d m a ok _ F2.out).mono ?_); rintro e u3 ⟨rfl, hb⟩; have nB := Aside0.mk (below_step (by repeat (first | exact HB.out | apply below_alloc | apply pw_below_drewN | apply below_drew1)) hb); clear HB; have HB := nB; clear nB hb)
    | (go_at_call 8; (refine (impl_NewAt.calls k d m fr ok _ F3.out).mono ?_); rintro e u4 ⟨rfl, hb⟩; have nB := Aside0.mk (below_step (by repeat (first | exact HB.out | apply below_alloc | apply pw_below_drewN | apply below_drew1)) hb); clear HB; have HB := nB; clear nB hb)
    | (go_at_call 9; (refine (spec_NewAt.calls k d m fr ok _ F4.out).mono ?_); rintro e u5 ⟨rfl, hb⟩; have nB := Aside0.mk (below_step (by repeat (first | exact HB.out | apply below_alloc | apply pw_below_drewN | apply below_drew1)) hb); clear HB; have HB := nB; clear nB hb))
  go_cut [] (fun wc => Aside0 (Below w.heap.size w wc))
  case first =>
    as_aux_lemma =>
      clear D1 D2 D3 D4 N2 N3 N4 F1 F2 F3 F4
      cases ok with
      | false =>
        go_wp2
        go_meet
        case rel => exact HB
      | true =>
        obtain ⟨⟨sd0, sd1⟩, ⟨sm0, sm1⟩, ⟨sa0, sa1⟩, ⟨sl0, sl1⟩, f1, f2, rfl, ha, f3, f4⟩ := G1.out rfl
        have F1 := Aside0.mk f1
        have F2 := Aside0.mk f2
        have F3 := Aside0.mk f3
        have F4 := Aside0.mk f4
        have ha2 : decide (a < 1) = false := decide_eq_false (by omega)
        clear f1 f2 f3 f4 G1
        go_upto_if 111 with (fail)
        go_cut [15] (fun v15 wc => v15 = .int .i64 less ∧ Aside0 (Below w.heap.size w wc))
        case first =>
          as_aux_lemma =>
            by_cases hm : 0 < m
            · go_wp2_with ((go_at_call 6; (refine (impl_InformedAt.calls k d (m - 1) less true _ (F1.out hm)).mono ?_); rintro e u6 ⟨rfl, hb⟩; have nB := Aside0.mk (below_step (by repeat (first | exact HB.out | apply below_alloc | apply pw_below_drewN | apply below_drew1)) hb); clear HB; have HB := nB; clear nB hb))
              go_meet
              case rel => exact ⟨rfl, HB⟩
            · go_wp2
              go_meet
              case rel => exact ⟨by rw [F2.out (by omega)], HB⟩
        case rest =>
          as_aux_lemma =>
            obtain ⟨rfl, HB⟩ := hcut
            go_upto_if 133 with (fail)
            go_cut [] (fun wc => Aside0 (Below w.heap.size w wc))
            case first =>
              as_aux_lemma =>
                by_cases hm : d ≤ m
                · go_wp2_with ((go_at_call 6; (refine (impl_InformedAt.calls k d (m - d) (a - less) true _ (F3.out hm)).mono ?_); rintro e u7 ⟨rfl, hb⟩; have nB := Aside0.mk (below_step (by repeat (first | exact HB.out | apply below_alloc | apply pw_below_drewN | apply below_drew1)) hb); clear HB; have HB := nB; clear nB hb))
                  go_meet
                  case rel => exact HB
                · go_wp2
                  go_meet
                  case rel => exact HB
            case rest =>
              as_aux_lemma =>
                have HB := hcut
                clear hcut
                by_cases hm : a ≤ 1000000
                · obtain ⟨q1, q2, q3⟩ := F4.out hm
                  have Q1 := Aside0.mk q1
                  have q2b : decide (m < need) = false := decide_eq_false (by omega)
                  by_cases hf : 0 < a - less
                  · have q3b : (need != m) = false := by rw [q3 hf]; simp
                    have q3c : (need == m) = true := beq_iff_eq.mpr (q3 hf)
                    have hfc : decide (less < a) = true := decide_eq_true (by omega)
                    have hfb : decide (0 < a - less) = true := decide_eq_true hf
                    clear q1 q3 hf
                    go_wp2_with ((go_at_call 10; (refine (impl_MinutesFor.calls k d a need true _ Q1.out).mono ?_); rintro e u8 ⟨rfl, hb⟩; have nB := Aside0.mk (below_step (by repeat (first | exact HB.out | apply below_alloc | apply pw_below_drewN | apply below_drew1)) hb); clear HB; have HB := nB; clear nB hb))
                    go_meet
                    case rel => exact HB
                  · have hfb : decide (0 < a - less) = false := decide_eq_false hf
                    have hfc : decide (less < a) = false := decide_eq_false (by omega)
                    have hfd : a ≤ less := by omega
                    clear q1 q3 hf
                    go_wp2_with ((go_at_call 10; (refine (impl_MinutesFor.calls k d a need true _ Q1.out).mono ?_); rintro e u9 ⟨rfl, hb⟩; have nB := Aside0.mk (below_step (by repeat (first | exact HB.out | apply below_alloc | apply pw_below_drewN | apply below_drew1)) hb); clear HB; have HB := nB; clear nB hb))
                    go_meet
                    case rel => exact HB
                · go_wp2
                  go_meet
                  case rel => exact HB
  case rest =>
    as_aux_lemma =>
      have HB := hcut
      clear hcut G1 D1 F1 F2 F3 F4 HR0 HC0 HBG n1 n2 n3
      obtain ⟨f1, f2, g2⟩ := N2.out
      obtain ⟨f3, f4, g3⟩ := N3.out
      obtain ⟨f5, f6, f7, g4⟩ := N4.out
      have F1 := Aside0.mk f1
      have F2 := Aside0.mk f2
      have F3 := Aside0.mk f3
      have F4 := Aside0.mk f4
      have F5 := Aside0.mk f5
      have F6 := Aside0.mk f6
      have F7 := Aside0.mk f7
      have G2 := Aside0.mk g2
      have G3 := Aside0.mk g3
      have G4 := Aside0.mk g4
      clear f1 f2 f3 f4 f5 f6 f7 g2 g3 g4 N2 N3 N4
      go_upto_region 38 with (first
        | (go_at_call 11; (refine (spec_DrawMinutesFor.calls _ _ l1 d2 p _ (Kd.C_below HR1.out (by repeat (first | exact HB.out | apply below_alloc | apply pw_below_drewN | apply below_drew1))) HC1.out D2.out).mono ?_); rintro e u10 ⟨rfl, hb⟩; have nB := Aside0.mk (below_step (by repeat (first | exact HB.out | apply below_alloc | apply pw_below_drewN | apply below_drew1)) hb); clear HB; have HB := nB; clear nB hb)
        | (go_at_call 10; (refine (impl_MinutesFor.calls k d2 p need2 o2 _ F1.out).mono ?_); rintro e u11 ⟨rfl, hb⟩; have nB := Aside0.mk (below_step (by repeat (first | exact HB.out | apply below_alloc | apply pw_below_drewN | apply below_drew1)) hb); clear HB; have HB := nB; clear nB hb)
        | (go_at_call 12; (refine (spec_MinutesFor.calls k d2 p need2 o2 _ F2.out).mono ?_); rintro e u12 ⟨rfl, hb⟩; have nB := Aside0.mk (below_step (by repeat (first | exact HB.out | apply below_alloc | apply pw_below_drewN | apply below_drew1)) hb); clear HB; have HB := nB; clear nB hb)
        | (go_at_call 13; (refine (spec_DrawGreatestDelay.calls _ _ l1 p3 m3 _ (Kd.C_below HR1.out (by repeat (first | exact HB.out | apply below_alloc | apply pw_below_drewN | apply below_drew1))) HC1.out D3.out).mono ?_); rintro e u13 ⟨rfl, hb⟩; have nB := Aside0.mk (below_step (by repeat (first | exact HB.out | apply below_alloc | apply pw_below_drewN | apply below_drew1)) hb); clear HB; have HB := nB; clear nB hb)
        | (go_at_call 14; (refine (impl_GreatestDelay.calls k p3 m3 great o3 _ F3.out).mono ?_); rintro e u14 ⟨rfl, hb⟩; have nB := Aside0.mk (below_step (by repeat (first | exact HB.out | apply below_alloc | apply pw_below_drewN | apply below_drew1)) hb); clear HB; have HB := nB; clear nB hb)
        | (go_at_call 15; (refine (spec_GreatestDelay.calls k p3 m3 great o3 _ F4.out).mono ?_); rintro e u15 ⟨rfl, hb⟩; have nB := Aside0.mk (below_step (by repeat (first | exact HB.out | apply below_alloc | apply pw_below_drewN | apply below_drew1)) hb); clear HB; have HB := nB; clear nB hb)
        | (go_at_call 16; (refine (spec_DrawQuickSends.calls _ _ l1 e4 q _ (Kd.C_below HR1.out (by repeat (first | exact HB.out | apply below_alloc | apply pw_below_drewN | apply below_drew1))) HC1.out D4.out).mono ?_); rintro e u16 ⟨rfl, hb⟩; have nB := Aside0.mk (below_step (by repeat (first | exact HB.out | apply below_alloc | apply pw_below_drewN | apply below_drew1)) hb); clear HB; have HB := nB; clear nB hb)
        | (go_at_call 17; (refine (impl_QuickSends.calls k e4 q qs o4 _ F5.out).mono ?_); rintro e u17 ⟨vq, rfl, hq, hb⟩; obtain ⟨AQ, cQ, rfl⟩ := Kd.R_slice hq; have HQ0 := Aside0.mk (Kd.R_lower hq (below_size (by repeat (first | exact HB.out | apply below_alloc | apply pw_below_drewN | apply below_drew1)))); clear hq; have nB := Aside0.mk (below_step (by repeat (first | exact HB.out | apply below_alloc | apply pw_below_drewN | apply below_drew1)) hb); clear HB; have HB := nB; clear nB hb)
        | (go_at_call 18; (refine (spec_QuickSends.calls k e4 q due o4 _ F6.out).mono ?_); rintro e u18 ⟨vd, rfl, hq, hb⟩; obtain ⟨AD, cD, rfl⟩ := Kd.R_slice hq; have HQ := Aside0.mk (Kd.R_below HQ0.out hb); have HD := Aside0.mk hq; clear hq; have nB := Aside0.mk (below_step (by repeat (first | exact HB.out | apply below_alloc | apply pw_below_drewN | apply below_drew1)) hb); clear HB; have HB := nB; clear nB hb)
        | (go_at_call 19; refine (laws_dSends.calls k _ _ qs _ _ due true _ (Kd.R_reads' HQ.out).2.2 (Kd.R_reads' HQ.out).2.1 (Kd.R_reads' HD.out).2.2 (Kd.R_reads' HD.out).2.1 F7.out).mono ?_; rintro e ud ⟨rfl, ⟨nd, rfl⟩⟩))
      obtain ⟨bb, HBB⟩ : ∃ bb, Aside0 (bb = (o2 && decide (need2 ≤ 60))) := ⟨_, Aside0.mk rfl⟩
      go_cut [257] (fun v257 wc => v257 = .bool bb ∧ Aside0 (Kd.R k36 36 wc w.heap.size (fun _ => True) (.slice AQ qs.length cQ) qs) ∧ Aside0 (Below w.heap.size w wc))
      case first =>
        as_aux_lemma =>
          cases o2 with
          | false =>
            go_wp2
            go_meet
            case rel => exact ⟨by rw [HBB.out]; simp, ⟨by repeat (first | exact HQ.out | apply Kd.R_drewN | apply Kd.R_alloc)⟩, ⟨by repeat (first | exact HB.out | apply below_alloc | apply pw_below_drewN | apply below_drew1)⟩⟩
          | true =>
            go_wp2
            go_meet
            case rel => exact ⟨by rw [HBB.out]; simp, ⟨by repeat (first | exact HQ.out | apply Kd.R_drewN | apply Kd.R_alloc)⟩, ⟨by repeat (first | exact HB.out | apply below_alloc | apply pw_below_drewN | apply below_drew1)⟩⟩
      case rest =>
        as_aux_lemma =>
          clear HB HQ HQ0 HD D2 D3 D4 F1 F2 F3 F4 F5 F6 F7 HR1 HC1
          obtain ⟨rfl, HQ, HB⟩ := hcut
          go_upto_if 257 with (fail)
          go_cut [] (fun wc => Aside0 (Kd.R k36 36 wc w.heap.size (fun _ => True) (.slice AQ qs.length cQ) qs) ∧ Aside0 (Below w.heap.size w wc))
          case first =>
            as_aux_lemma =>
              clear G3 G4
              cases bb with
              | false =>
                clear HBB G2
                go_wp2
                go_meet
                case rel => exact ⟨HQ, HB⟩
              | true =>
                obtain ⟨ho, hn⟩ : o2 = true ∧ need2 ≤ 60 := by simpa using HBB.out.symm
                clear HBB
                subst ho
                obtain ⟨⟨sn0, sn1⟩, g2⟩ := G2.out rfl
                obtain ⟨q1, q2, q3⟩ := g2 hn
                have Q1 := Aside0.mk q1
                have Q3 := Aside0.mk q3
                have hnb : decide (need2 ≤ 60) = true := decide_eq_true hn
                have q2b : decide (many < p) = false := decide_eq_false (by omega)
                clear q1 q3 g2 G2
                by_cases hp : 0 < need2
                · have q5 := (Q3.out hp).2
                  have q5b : decide (p ≤ less2) = false := decide_eq_false (by omega)
                  have Q4 := Aside0.mk (Q3.out hp).1
                  clear Q3 q5
                  go_wp2_with (first | (go_at_call 6; first | (with_reducible refine (impl_InformedAt.calls k d2 need2 many true _ Q1.out).mono ?_; rintro e z1 ⟨rfl, hb⟩; have HQ1 := Aside0.mk (Kd.R_below HQ.out hb); have HB1 := Aside0.mk (below_step HB.out hb); clear hb) | (refine (impl_InformedAt.calls k d2 (need2 - 1) less2 true _ Q4.out).mono ?_; rintro e z2 ⟨rfl, hb⟩; have HQ2 := Aside0.mk (Kd.R_below HQ1.out hb); have HB2 := Aside0.mk (below_step HB1.out hb); clear hb)))
                  go_meet
                  case rel => exact ⟨HQ2, HB2⟩
                · have hpb : need2 ≤ 0 := by omega
                  clear Q3
                  go_wp2_with (go_at_call 6; refine (impl_InformedAt.calls k d2 need2 many true _ Q1.out).mono ?_; rintro e z1 ⟨rfl, hb⟩; have HQ1 := Aside0.mk (Kd.R_below HQ.out hb); have HB1 := Aside0.mk (below_step HB.out hb); clear hb)
                  go_meet
                  case rel => exact ⟨HQ1, HB1⟩
          case rest =>
            as_aux_lemma =>
              clear HQ HB G2
              obtain ⟨HQ, HB⟩ := hcut
              go_upto_if 287 with (fail)
              go_cut [] (fun wc => Aside0 (Kd.R k36 36 wc w.heap.size (fun _ => True) (.slice AQ qs.length cQ) qs) ∧ Aside0 (Below w.heap.size w wc))
              case first =>
                as_aux_lemma =>
                  clear G4
                  cases o3 with
                  | false =>
                    go_wp2
                    go_meet
                    case rel => exact ⟨HQ, HB⟩
                  | true =>
                    obtain ⟨⟨sn0, sn1⟩, q1, q2, q3⟩ := G3.out rfl
                    have Q1 := Aside0.mk q1
                    have Q3 := Aside0.mk q3
                    have q2b : decide (m3 < by_) = false := decide_eq_false (by omega)
                    clear q1 q3 G3
                    by_cases hp : great < 10
                    · have q5 := (Q3.out hp).2
                      have q5b : decide (later ≤ m3) = false := decide_eq_false (by omega)
                      have Q4 := Aside0.mk (Q3.out hp).1
                      clear Q3 q5
                      go_wp2_with (first | (go_at_call 10; first | (with_reducible refine (impl_MinutesFor.calls k great p3 by_ true _ Q1.out).mono ?_; rintro e z1 ⟨rfl, hb⟩; have HQ1 := Aside0.mk (Kd.R_below HQ.out hb); have HB1 := Aside0.mk (below_step HB.out hb); clear hb) | (refine (impl_MinutesFor.calls k (great + 1) p3 later true _ Q4.out).mono ?_; rintro e z2 ⟨rfl, hb⟩; have HQ2 := Aside0.mk (Kd.R_below HQ1.out hb); have HB2 := Aside0.mk (below_step HB1.out hb); clear hb)))
                      go_meet
                      case rel => exact ⟨HQ2, HB2⟩
                    · have hpb : 10 ≤ great := by omega
                      clear Q3
                      go_wp2_with (go_at_call 10; refine (impl_MinutesFor.calls k great p3 by_ true _ Q1.out).mono ?_; rintro e z1 ⟨rfl, hb⟩; have HQ1 := Aside0.mk (Kd.R_below HQ.out hb); have HB1 := Aside0.mk (below_step HB.out hb); clear hb)
                      go_meet
                      case rel => exact ⟨HQ1, HB1⟩
              case rest =>
                as_aux_lemma =>
                  clear HQ HB G3
                  obtain ⟨HQ, HB⟩ := hcut
                  cases o4 with
                  | false =>
                    go_wp2
                    go_ret
                    exact ⟨rfl, HB.out⟩
                  | true =>
                    obtain ⟨⟨sn0, sn1⟩, q1, q2, q3, q4, q5⟩ := G4.out rfl
                    have Q1 := Aside0.mk q1
                    have Q2 := Aside0.mk q2
                    have Q5 := Aside0.mk q5
                    have q3b : ((qs.length : Int) != q - 1) = false := by rw [q3]; simp
                    have q3c : ((qs.length : Int) == q - 1) = true := by rw [q3]; simp
                    clear q1 q2 q3 q5 G4
                    go_wp2_with (first
                      | (go_at_call 20; refine (impl_AreSends.calls e4 q _ _ qs true true _ (Kd.R_reads' HQ.out).2.2 (Kd.R_reads' HQ.out).2.1 Q1.out).mono ?_; rintro e z1 ⟨rfl, hb⟩; have HQ1 := Aside0.mk (Kd.R_below HQ.out hb); have HB1 := Aside0.mk (below_step HB.out hb); clear hb)
                      | (go_at_call 21; refine (impl_LateBy.calls k e4 q _ _ qs 0 true _ (Kd.R_reads' HQ1.out).2.2 (Kd.R_reads' HQ1.out).2.1 Q2.out).mono ?_; rintro e z2 ⟨rfl, hb⟩; have HQ2 := Aside0.mk (Kd.R_below HQ1.out hb); have HB2 := Aside0.mk (below_step HB1.out hb); clear hb))
                    clear HQ HB HQ1 HB1 Q1 Q2
                    go_loopw [355] (fun v355 wr => ∃ (j : Nat), j ≤ qs.length ∧ v355 = .int .i64 j ∧ Aside0 (Kd.R k36 36 wr w.heap.size (fun _ => True) (.slice AQ qs.length cQ) qs) ∧ Aside0 (Below w.heap.size w wr)) (fun v355 _ => qs.length - (intOf v355).toNat)
                    case atStart => exact ⟨0, Nat.zero_le _, rfl, HQ2, HB2⟩
                    case round =>
                      clear HQ2 HB2
                      obtain ⟨j, hj, rfl, HQ, HB⟩ := hrel
                      by_cases hlt : j < qs.length
                      · have p1 : (0 : Int) ≤ (j : Int) := by omega
                        have q1 : (j : Int) < (qs.length : Int) := by omega
                        have hql : qs.length ≤ 1000 := q4
                        obtain ⟨ad, e1, hx0, hx1, hx2⟩ := at_T36 (Kd.R_reads' HQ.out).2.2 (j : Int) p1 q1
                        cases e1
                        simp only [Int.toNat_natCast] at hx0 hx1 hx2
                        obtain ⟨k1, k2⟩ := Q5.out j hlt
                        obtain ⟨s, hs⟩ : ∃ s_, s_ = rd_T36 qs (j : Int) := ⟨_, rfl⟩
                        rw [← hs] at hx0 hx1 hx2 k1 k2
                        rw [k1] at hx1
                        have hn1 : ((j : Int) + 1 != (j : Int) + 1) = false := by simp
                        by_cases hj0 : 0 < j
                        · have hj1 : decide ((0 : Int) < (j : Int)) = true := decide_eq_true (by omega)
                          have hj2 : (0 : Int) < (j : Int) := by omega
                          have p2 : (0 : Int) ≤ (j : Int) - 1 := by omega
                          have q2 : (j : Int) - 1 < (qs.length : Int) := by omega
                          obtain ⟨ad2, e2, hy0, hy1, hy2⟩ := at_T36 (Kd.R_reads' HQ.out).2.2 ((j : Int) - 1) p2 q2
                          cases e2
                          have k3 := k2 hj0
                          obtain ⟨r, hr⟩ : ∃ r_, r_ = rd_T36 qs ((j : Int) - 1) := ⟨_, rfl⟩
                          rw [← hr] at hy0 hy1 hy2 k3
                          have hz0 := fun (o : Obj) => ((below_alloc (Below.refl wr.heap.size wr) o).cell (World.block_lt_of_cell? wr _ hy0)).trans hy0
                          have hz2 := fun (o : Obj) => ((below_alloc (Below.refl wr.heap.size wr) o).cell (World.block_lt_of_cell? wr _ hy2)).trans hy2
                          have hjm : ((j : Int) - 1).toNat = j - 1 := by omega
                          have hv0 := hz0
                          have hv2 := hz2
                          rw [hjm] at hv0 hv2
                          have p3 : j - 1 < qs.length := by omega
                          clear hs hr k1 k2 hy0 hy1 hy2 hjm
                          have t1 : decide (s.f2 < r.f2) = false := decide_eq_false (by omega)
                          rcases k3 with k3 | ⟨k3, k4⟩
                          · have t2 : (r.f2 == s.f2) = false := beq_eq_false_iff_ne.mpr (by omega)
                            clear k3
                            go_wp2
                            go_quiet (fail)
                            go_wp2
                            go_roundw
                            case rel => exact ⟨j + 1, by omega, by go_num, ⟨by repeat (first | exact HQ.out | apply Kd.R_alloc | apply Kd.R_drewN | apply Kd.R_drew)⟩, ⟨by repeat (first | exact HB.out | apply below_alloc | apply pw_below_drewN | apply below_drew1)⟩⟩
                            case measure => simp [intOf]; omega
                          · have t2 : (r.f2 == s.f2) = true := beq_iff_eq.mpr k3
                            have t3 : decide (s.f0 ≤ r.f0) = false := decide_eq_false (by omega)
                            clear k3 k4
                            go_wp2
                            go_quiet (fail)
                            go_wp2
                            go_roundw
                            case rel => exact ⟨j + 1, by omega, by go_num, ⟨by repeat (first | exact HQ.out | apply Kd.R_alloc | apply Kd.R_drewN | apply Kd.R_drew)⟩, ⟨by repeat (first | exact HB.out | apply below_alloc | apply pw_below_drewN | apply below_drew1)⟩⟩
                            case measure => simp [intOf]; omega
                        · have hj1 : decide ((0 : Int) < (j : Int)) = false := decide_eq_false (by omega)
                          have hj2 : ¬ (0 : Int) < (j : Int) := by omega
                          clear hs k1 k2
                          go_wp2
                          go_quiet (fail)
                          go_wp2
                          go_roundw
                          case rel => exact ⟨j + 1, by omega, by go_num, ⟨by repeat (first | exact HQ.out | apply Kd.R_alloc | apply Kd.R_drewN | apply Kd.R_drew)⟩, ⟨by repeat (first | exact HB.out | apply below_alloc | apply pw_below_drewN | apply below_drew1)⟩⟩
                          case measure => simp [intOf]; omega
                      · go_wp2
                        go_ret
                        exact ⟨rfl, HB.out⟩
set_option maxHeartbeats 4000000 in
set_option maxRecDepth 100000 in
theorem nd_big (A0 : Option Addr) (c0 : Nat) (l0 : List Int) (A1 : Option Addr) (c1 : Nat) (l1 : List Int) (w : World) (hr0 : Kd.C (Kd.int .u8) w A0 l0.length l0) (hc0 : l0.length ≤ c0) (hr1 : Kd.C (Kd.int .u8) w A1 l1.length l1) (hc1 : l1.length ≤ c1) (hbig : laws_big.f l0 l1 = some true) :
    Calls Try.prog 3 #[.slice A0 l0.length c0, .slice A1 l1.length c1] w fun e w' => e = .returned (.bool true) ∧ Below w.heap.size w w' := by
  have HC := Aside0.mk (laws_big.calls A0 c0 l0 A1 c1 l1 true w hr0 hc0 hr1 hc1 hbig)
  clear hr0 hc0 hr1 hc1 hbig
  go_enter Try.func3, Try.ntmps3
  go_wp2_with (go_at_call 4; refine HC.out.mono ?_; rintro e w1 ⟨rfl, ⟨nd, rfl⟩⟩)
  go_ret
  exact ⟨rfl, by repeat (first | exact Below.refl _ _ | apply below_alloc | apply pw_below_drewN | apply below_drew1)⟩
/-- THE ONE PURE STATEMENT of the law. -/
def laws_FnNewsDelayed.Pure : Prop := ∀ (l0 : List Int) (l1 : List Int), l0.length ≤ maxLen → l0.length * 1 ≤ 140737488351232 → (∀ x ∈ l0, (Lit.int .u8 x).wf = true) → l1.length ≤ maxLen → l1.length * 1 ≤ 140737488351232 → (∀ x ∈ l1, (Lit.int .u8 x).wf = true) → laws_big.f l0 l1 = some true ∨ laws_big.f l0 l1 = some false ∧ ∃ k, NdAll k l0 l1
theorem laws_FnNewsDelayed.walk (P : laws_FnNewsDelayed.Pure) (a0 : Option Addr) (len0 cap0 : Nat) (z0 : List Int) (a1 : Option Addr) (len1 cap1 : Nat) (z1 : List Int) (w : World) (w0 : (a0 = none ∧ len0 = 0 ∧ cap0 = 0 ∧ z0 = []) ∨ ∃ x, a0 = some x ∧ len0 ≤ cap0 ∧ cap0 ≤ maxLen ∧ z0.length = cap0 ∧ (∀ i, i < z0.length → w.cell? (x.add i) = some (.int .u8 (z0.getD i 0))) ∧ ∀ n ∈ z0, (Lit.int .u8 n).wf = true) (y0 : len0 * 1 ≤ 140737488351232) (w1 : (a1 = none ∧ len1 = 0 ∧ cap1 = 0 ∧ z1 = []) ∨ ∃ x, a1 = some x ∧ len1 ≤ cap1 ∧ cap1 ≤ maxLen ∧ z1.length = cap1 ∧ (∀ i, i < z1.length → w.cell? (x.add i) = some (.int .u8 (z1.getD i 0))) ∧ ∀ n ∈ z1, (Lit.int .u8 n).wf = true) (y1 : len1 * 1 ≤ 140737488351232) :
    Calls Try.prog 3 #[.slice a0 len0 cap0, .slice a1 len1 cap1] w fun e w' => e = .returned (.bool true) ∧ Below w.heap.size w w' := by
  obtain ⟨l0, rfl, hr0, hm0, hw0, hc0⟩ := ReadsInt.ofRowC w0
  obtain ⟨l1, rfl, hr1, hm1, hw1, hc1⟩ := ReadsInt.ofRowC w1
  rcases P l0 l1 hm0 y0 hw0 hm1 y1 hw1 with h | ⟨hb, k, h⟩
  · exact nd_big _ _ l0 _ _ l1 w (Kd.C_of_reads (d := (0 : Int)) (h1 := fun _ => rfl) hr0) hc0 (Kd.C_of_reads (d := (0 : Int)) (h1 := fun _ => rfl) hr1) hc1 h
  · exact nd_calls k _ _ l0 _ _ l1 w (Kd.C_of_reads (d := (0 : Int)) (h1 := fun _ => rfl) hr0) hc0 (Kd.C_of_reads (d := (0 : Int)) (h1 := fun _ => rfl) hr1) hc1 hb h

end Go.Proofs.Ytjkjdlpmbpgjgaa.PFnNewsDelayed
