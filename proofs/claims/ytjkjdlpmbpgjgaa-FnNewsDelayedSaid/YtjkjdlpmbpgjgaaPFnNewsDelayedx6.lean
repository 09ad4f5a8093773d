/- Printed by a program of this session (wip/pp) over the kit's print, for FnNewsDelayed. No conditions beyond those that each theorem names. -/
import Derived.Test.YtjkjdlpmbpgjgaaPFnNewsDelayedx0
import Derived.Test.YtjkjdlpmbpgjgaaPFnNewsDelayedx1
import Derived.Test.YtjkjdlpmbpgjgaaPFnNewsDelayedx2
import Derived.Test.YtjkjdlpmbpgjgaaPFnNewsDelayedx4
import Derived.Test.YtjkjdlpmbpgjgaaPFnNewsDelayedx5
namespace Go.Proofs.Ytjkjdlpmbpgjgaa.PFnNewsDelayed
open Go.RowKit Go.Proofs.YtjkjdlpmbpgjgaaW.PrintWords Go.Proofs.YtjkjdlpmbpgjgaaW.PrintLast Go.Proofs.YtjkjdlpmbpgjgaaW.PrintMore
attribute [local go_sem] max2_int min2_int max_two min_two max_three min_three max_four min_four   -- for this text's walks alone
set_option linter.unusedVariables false
set_option linter.unusedSimpArgs false

attribute [local go_sem high] eqA36
/-! ### spec_QuickSends: function 18 -/
def spec_QuickSends.f (k : Nat) (a0 : Int) (a1 : Int) : Option ((List (S36)) × Bool) := (spec_deAsked.f a0 a1).bind fun t215 => (if t215 = true then ((spec_deQuick.f k a0 a1).bind fun t216 => (some (t216, true))) else (some (([] : List (S36)), false)))
theorem spec_QuickSends.mono : ∀ a0 a1 k, LeO (spec_QuickSends.f k a0 a1) (spec_QuickSends.f (k + 1) a0 a1) := by
  intro a0 a1 k
  unfold spec_QuickSends.f
  repeat' first
      | (with_reducible exact spec_deQuick.mono _ _ _)
      | (with_reducible exact LeO.refl _)
      | (with_reducible exact LeO.none _)
      | (with_reducible refine LeO.ite ?_ ?_)
      | (with_reducible refine LeO.bind ?_ (fun _ => ?_))
      | exact spec_deQuick.mono _ _ _
      | exact LeO.none _
      | refine LeO.ite ?_ ?_
      | refine LeO.bind ?_ (fun _ => ?_)
set_option maxHeartbeats 8000000 in
set_option maxRecDepth 100000 in
theorem spec_QuickSends.calls (k : Nat) (a0 : Int) (a1 : Int) (r1 : List (S36)) (r2 : Bool) (w : World) (h : spec_QuickSends.f k a0 a1 = some (r1, r2)) :
    Calls Try.prog 18 #[.int .i64 a0, .int .i64 a1] w fun e w' => ∃ v0_ : Value, e = .returned (.tuple #[v0_, .bool r2]) ∧ Kd.R k36 36 w' w.heap.size (fun _ => True) v0_ r1 ∧ Below w.heap.size w w' := by
  have HB := Aside0.mk (Below.refl w.heap.size w)
  have H : ((spec_deAsked.f a0 a1).bind fun t215 => (if t215 = true then ((spec_deQuick.f k a0 a1).bind fun t216 => (some (t216, true))) else (some (([] : List (S36)), false)))) = some (r1, r2) := h
  clear h
  replace H := Option.bind_eq_some_iff.mp H
  obtain ⟨t215, A30, H⟩ := H
  replace H : (if t215 = true then ((spec_deQuick.f k a0 a1).bind fun t216 => (some (t216, true))) else (some (([] : List (S36)), false))) = some (r1, r2) := H
  have A3 := Aside0.mk A30
  clear A30
  by_cases c4 : t215 = true
  · subst c4
    have H1 : ((spec_deQuick.f k a0 a1).bind fun t216 => (some (t216, true))) = some (r1, r2) := by rw [if_pos rfl] at H; exact H
    clear H
    have H := H1
    clear H1
    replace H := Option.bind_eq_some_iff.mp H
    obtain ⟨t216, A50, H⟩ := H
    replace H : (some (t216, true)) = some (r1, r2) := H
    have A5 := Aside0.mk A50
    clear A50
    simp only [Option.some.injEq, Prod.mk.injEq] at H
    obtain ⟨rfl, rfl⟩ := H
    go_enter Try.func18, Try.ntmps18
    go_wp2_with (first | ((with_reducible refine gate_callee (f := 36) rfl ?_); refine goesL_ (some 8) rfl rfl Try.func36 (by kernel_rfl) rfl #[.int .i64 a0, .int .i64 a1] rfl (by (try simp only [List.map_toArray, List.map_cons, List.map_nil]); first | done | rfl | (simp only [List.length_drop, List.length_take]; rfl)) ?_; (with_reducible refine (spec_deAsked.calls a0 a1 true _ A3.out).mono ?_); rintro e w' ⟨rfl, ⟨nd, rfl⟩⟩; refine ⟨_, rfl, ?_⟩) | ((with_reducible refine gate_callee (f := 37) rfl ?_); refine goesL_ (some 12) rfl rfl Try.func37 (by kernel_rfl) rfl #[.int .i64 a0, .int .i64 a1] rfl (by (try simp only [List.map_toArray, List.map_cons, List.map_nil]); first | done | rfl | (simp only [List.length_drop, List.length_take]; rfl)) ?_; (with_reducible refine (spec_deQuick.calls k a0 a1 t216 _ A5.out).mono ?_); rintro e w6 ⟨v217, rfl, ho0, hb⟩; refine ⟨_, rfl, ?_⟩; have n0_ := Aside0.mk (Kd.R_lower ho0 (below_size (by repeat (first | (with_reducible first | exact HB.out | apply below_alloc | apply pw_below_drewN | apply below_drew1) | exact HB.out)))); have n1_ := Aside0.mk (below_step (by repeat (first | (with_reducible first | exact HB.out | apply below_alloc | apply pw_below_drewN | apply below_drew1) | exact HB.out)) hb); clear HB; have HO218 := n0_; have HB := n1_; clear n0_ n1_; (try clear hb); (try clear hb2); (try clear hk); (try clear hi); (try clear ho0)))
    go_ret2
    exact ⟨_, by first | rfl | (simp [errW_none, errW_some] <;> rfl) | (simp [*, errW_none, errW_some] <;> rfl), by (with_reducible repeat (first | apply Kd.R_alloc | apply Kd.R_drewN | apply Kd.R_drew)); exact HO218.out, by repeat (first | (with_reducible first | exact HB.out | apply below_alloc | apply pw_below_drewN | apply below_drew1) | exact HB.out)⟩
  · replace c4 := Bool.eq_false_iff.mpr c4
    subst c4
    have H1 : (some (([] : List (S36)), false)) = some (r1, r2) := by rw [if_neg (show ¬ (false = true) by decide)] at H; exact H
    clear H
    have H := H1
    clear H1
    simp only [Option.some.injEq, Prod.mk.injEq] at H
    obtain ⟨rfl, rfl⟩ := H
    go_enter Try.func18, Try.ntmps18
    go_wp2_with (first | ((with_reducible refine gate_callee (f := 36) rfl ?_); refine goesL_ (some 8) rfl rfl Try.func36 (by kernel_rfl) rfl #[.int .i64 a0, .int .i64 a1] rfl (by (try simp only [List.map_toArray, List.map_cons, List.map_nil]); first | done | rfl | (simp only [List.length_drop, List.length_take]; rfl)) ?_; (with_reducible refine (spec_deAsked.calls a0 a1 false _ A3.out).mono ?_); rintro e w' ⟨rfl, ⟨nd, rfl⟩⟩; refine ⟨_, rfl, ?_⟩))
    go_ret2
    exact ⟨_, by first | rfl | (simp [errW_none, errW_some] <;> rfl) | (simp [*, errW_none, errW_some] <;> rfl), by first | exact Kd.R_nil _ _ _ _ _ | exact Kd.N_nil _ _ _ _ _ | exact Kd.V_nil _ _ _ _ _ | exact Kd.Q_nil _ _ _ _ _ | exact Kd.S_nil _ _ _ _ _, by repeat (first | (with_reducible first | exact HB.out | apply below_alloc | apply pw_below_drewN | apply below_drew1) | exact HB.out)⟩

/-! ### laws_dSends: function 19 -/
def laws_dSends.l0 : Nat → List (S36) → List (S36) → Int → Int → Option (Bool)
  | 0, _, _, _, _ => none
  | k + 1, x0, x1, x12, x13 => if x13 < x12 then (if 0 ≤ x13 then (if x13 < (x0.length : Int) then (if x13 < (x1.length : Int) then (if (!(((rd_T36 x0 x13).f0) == ((rd_T36 x1 x13).f0)) || (!(((rd_T36 x0 x13).f1) == ((rd_T36 x1 x13).f1)) || (!(((rd_T36 x0 x13).f2) == ((rd_T36 x1 x13).f2))))) = true then (some false) else (laws_dSends.l0 k x0 x1 x12 (wrap64 (x13 + 1)))) else (none)) else (none)) else (none)) else (some true)
def laws_dSends.f (k : Nat) (l0 : List (S36)) (l1 : List (S36)) : Option (Bool) := if (l0.length : Int) = (l1.length : Int) then (laws_dSends.l0 k l0 l1 (l0.length : Int) 0) else (some false)
theorem laws_dSends.mono_l : ∀ k, (∀ y0 y1 y2 y3, LeO (laws_dSends.l0 k y0 y1 y2 y3) (laws_dSends.l0 (k + 1) y0 y1 y2 y3))
  | 0 => fun _ _ _ _ r h => by simp [laws_dSends.l0] at h
  | k + 1 => by
    have ih0 := laws_dSends.mono_l k
    · intro y0 y1 y2 y3
      unfold laws_dSends.l0
      repeat' first
      | (with_reducible exact ih0 _ _ _ _)
      | (with_reducible exact LeO.refl _)
      | (with_reducible exact LeO.none _)
      | (with_reducible refine LeO.ite ?_ ?_)
      | (with_reducible refine LeO.bind ?_ (fun _ => ?_))
      | exact ih0 _ _ _ _
      | exact LeO.none _
      | refine LeO.ite ?_ ?_
      | refine LeO.bind ?_ (fun _ => ?_)
theorem laws_dSends.mono : ∀ a0 a1 k, LeO (laws_dSends.f k a0 a1) (laws_dSends.f (k + 1) a0 a1) := by
  intro a0 a1 k
  have ih0 := laws_dSends.mono_l k
  unfold laws_dSends.f
  repeat' first
      | (with_reducible exact ih0 _ _ _ _)
      | (with_reducible exact LeO.refl _)
      | (with_reducible exact LeO.none _)
      | (with_reducible refine LeO.ite ?_ ?_)
      | (with_reducible refine LeO.bind ?_ (fun _ => ?_))
      | exact ih0 _ _ _ _
      | exact LeO.none _
      | refine LeO.ite ?_ ?_
      | refine LeO.bind ?_ (fun _ => ?_)
set_option maxHeartbeats 8000000 in
set_option maxRecDepth 100000 in
theorem laws_dSends.calls (k : Nat) (A0 : Option Addr) (c0 : Nat) (l0 : List (S36)) (A1 : Option Addr) (c1 : Nat) (l1 : List (S36)) (r : Bool) (w : World) (hr0 : Kd.C k36 w A0 l0.length l0) (hc0 : l0.length ≤ c0) (hr1 : Kd.C k36 w A1 l1.length l1) (hc1 : l1.length ≤ c1) (h : laws_dSends.f k l0 l1 = some r) :
    Calls Try.prog 19 #[.slice A0 l0.length c0, .slice A1 l1.length c1] w fun e w' => e = .returned (.bool r) ∧ Drawn0 w w' := by
  have hu36 := Try.underlying36
  have HR0 := Aside0.mk hr0
  have HC0 := Aside0.mk hc0
  clear hr0 hc0
  have HR1 := Aside0.mk hr1
  have HC1 := Aside0.mk hc1
  clear hr1 hc1
  have H : (if (l0.length : Int) = (l1.length : Int) then (laws_dSends.l0 k l0 l1 (l0.length : Int) 0) else (some false)) = some r := h
  clear h
  by_cases c3 : (l0.length : Int) = (l1.length : Int)
  · rw [if_pos c3] at H
    have c3b0 : ((l0.length : Int) == (l1.length : Int)) = true := beq_iff_eq.mpr c3
    have c3b1 : ((l0.length : Int) != (l1.length : Int)) = false := bne_eq_false_iff_eq.mpr c3
    have c3b2 : (l0.length == l1.length) = true := by first | simpa using c3 | (simp at c3 ⊢; omega)
    clear c3
    have H' := Aside0.mk H
    clear H
    go_enter Try.func19, Try.ntmps19
    go_wp2
    repeat (go_quiet (fail); try go_wp2)
    go_loopg [13] k (fun kq v13 w' => ∃ (x13_1 : Int), v13 = .int .i64 x13_1 ∧ Aside0 (laws_dSends.l0 kq l0 l1 (l0.length : Int) x13_1 = some r) ∧ Aside0 (kq ≤ k) ∧ Drawn0 w w')
    case atStart => exact ⟨(0), (by first | rfl | (simp; done) | (simp [*]; done)), H', ⟨Nat.le_refl _⟩, by repeat (first | exact Drawn0.refl _ | apply Drawn0.step)⟩
    case round =>
      clear H'
      try clear c1
      try clear p2
      try clear c3
      try clear c3b0
      try clear c3b1
      try clear c3b2
      obtain ⟨x13_1, rfl, HA, HK1, ⟨m1, rfl⟩⟩ := hrel
      cases gk with
      | zero => exact absurd HA.out (by simp [laws_dSends.l0])
      | succ k1 =>
        have H := HA.out
        clear HA
        simp only [laws_dSends.l0] at H
        by_cases c4 : x13_1 < (l0.length : Int)
        · rw [if_pos c4] at H
          have c4b0 : decide (x13_1 < (l0.length : Int)) = true := decide_eq_true c4
          clear c4
          by_cases c5 : 0 ≤ x13_1
          · rw [if_pos c5] at H
            have c5b0 : decide (0 ≤ x13_1) = true := decide_eq_true c5
            clear c5
            by_cases c6 : x13_1 < (l0.length : Int)
            · rw [if_pos c6] at H
              have c6b0 : decide (x13_1 < (l0.length : Int)) = true := decide_eq_true c6
              clear c6
              by_cases c7 : x13_1 < (l1.length : Int)
              · rw [if_pos c7] at H
                have c7b0 : decide (x13_1 < (l1.length : Int)) = true := decide_eq_true c7
                clear c7
                by_cases c8 : (!(((rd_T36 l0 x13_1).f0) == ((rd_T36 l1 x13_1).f0)) || (!(((rd_T36 l0 x13_1).f1) == ((rd_T36 l1 x13_1).f1)) || (!(((rd_T36 l0 x13_1).f2) == ((rd_T36 l1 x13_1).f2))))) = true
                · rw [if_pos c8] at H
                  have c8b0 : (!(((rd_T36 l0 x13_1).f0) == ((rd_T36 l1 x13_1).f0)) || (!(((rd_T36 l0 x13_1).f1) == ((rd_T36 l1 x13_1).f1)) || (!(((rd_T36 l0 x13_1).f2) == ((rd_T36 l1 x13_1).f2))))) = true := c8
                  clear c8
                  obtain rfl := Option.some.inj H
                  have p219 : 0 ≤ (x13_1 : Int) := of_decide_eq_true (by first | (with_reducible assumption) | assumption)
                  have q219 : x13_1 < (l0.length : Int) := of_decide_eq_true (by first | (with_reducible assumption) | assumption)
                  obtain ⟨ad219, e219, hx219_0, hx219_1, hx219_2⟩ := at_T36 HR0.out x13_1 p219 q219
                  cases e219
                  replace p219 := eq_true p219
                  replace q219 := eq_true q219
                  have p220 : 0 ≤ (x13_1 : Int) := of_decide_eq_true (by first | (with_reducible assumption) | assumption)
                  have q220 : x13_1 < (l1.length : Int) := of_decide_eq_true (by first | (with_reducible assumption) | assumption)
                  obtain ⟨ad220, e220, hx220_0, hx220_1, hx220_2⟩ := at_T36 HR1.out x13_1 p220 q220
                  cases e220
                  replace p220 := eq_true p220
                  replace q220 := eq_true q220
                  go_wp2
                  repeat (go_quiet (fail); try go_wp2)
                  go_ret
                  exact ⟨by first | rfl | (simp; done) | (simp [*]; done), by repeat (first | exact Drawn0.refl _ | apply Drawn0.step)⟩
                · rw [if_neg c8] at H
                  have c8b0 : (!(((rd_T36 l0 x13_1).f0) == ((rd_T36 l1 x13_1).f0)) || (!(((rd_T36 l0 x13_1).f1) == ((rd_T36 l1 x13_1).f1)) || (!(((rd_T36 l0 x13_1).f2) == ((rd_T36 l1 x13_1).f2))))) = false := by simpa using c8
                  clear c8
                  have H' := Aside0.mk H
                  clear H
                  have p219 : 0 ≤ (x13_1 : Int) := of_decide_eq_true (by first | (with_reducible assumption) | assumption)
                  have q219 : x13_1 < (l0.length : Int) := of_decide_eq_true (by first | (with_reducible assumption) | assumption)
                  obtain ⟨ad219, e219, hx219_0, hx219_1, hx219_2⟩ := at_T36 HR0.out x13_1 p219 q219
                  cases e219
                  replace p219 := eq_true p219
                  replace q219 := eq_true q219
                  have p220 : 0 ≤ (x13_1 : Int) := of_decide_eq_true (by first | (with_reducible assumption) | assumption)
                  have q220 : x13_1 < (l1.length : Int) := of_decide_eq_true (by first | (with_reducible assumption) | assumption)
                  obtain ⟨ad220, e220, hx220_0, hx220_1, hx220_2⟩ := at_T36 HR1.out x13_1 p220 q220
                  cases e220
                  replace p220 := eq_true p220
                  replace q220 := eq_true q220
                  go_wp2
                  repeat (go_quiet (fail); try go_wp2)
                  go_roundg k1
                  case measure => have := HK1.out; omega
                  case rel => exact ⟨(wrap64 (x13_1 + 1)), (by first | rfl | (simp; done) | (simp [*]; done)), H', ⟨by have := HK1.out; omega⟩, by repeat (first | exact Drawn0.refl _ | apply Drawn0.step)⟩
              · rw [if_neg c7] at H
                exact absurd H (by simp)
            · rw [if_neg c6] at H
              first | exact absurd (beq_iff_eq.mp c4b0) c6 | exact absurd (of_decide_eq_true c4b0) c6
          · rw [if_neg c5] at H
            exact absurd H (by simp)
        · rw [if_neg c4] at H
          have c4b0 : decide (x13_1 < (l0.length : Int)) = false := decide_eq_false c4
          clear c4
          obtain rfl := Option.some.inj H
          go_wp2
          repeat (go_quiet (fail); try go_wp2)
          go_ret
          exact ⟨by first | rfl | (simp; done) | (simp [*]; done), by repeat (first | exact Drawn0.refl _ | apply Drawn0.step)⟩
  · rw [if_neg c3] at H
    have c3b0 : ((l0.length : Int) == (l1.length : Int)) = false := beq_eq_false_iff_ne.mpr c3
    have c3b1 : ((l0.length : Int) != (l1.length : Int)) = true := bne_iff_ne.mpr c3
    have c3b2 : (l0.length == l1.length) = false := by first | simpa using c3 | (simp at c3 ⊢; omega)
    obtain rfl := Option.some.inj H
    go_enter Try.func19, Try.ntmps19
    go_wp2
    repeat (go_quiet (fail); try go_wp2)
    go_ret
    exact ⟨by first | rfl | (simp; done) | (simp [*]; done), by repeat (first | exact Drawn0.refl _ | apply Drawn0.step)⟩

/-! ### bits_Mul32: function 54 -/
def bits_Mul32.f (a0 : Int) (a1 : Int) : Option (Int × Int) := some (((IntKind.u64.wrap ((IntKind.u64.wrap (a0)) * (IntKind.u64.wrap (a1)))) / 4294967296) % 4294967296, (IntKind.u64.wrap ((IntKind.u64.wrap (a0)) * (IntKind.u64.wrap (a1)))) % 4294967296)
set_option maxHeartbeats 8000000 in
set_option maxRecDepth 100000 in
theorem bits_Mul32.calls (a0 : Int) (a1 : Int) (r1 : Int) (r2 : Int) (w : World) (h : bits_Mul32.f a0 a1 = some (r1, r2)) :
    Calls Try.prog 54 #[.int .u32 a0, .int .u32 a1] w fun e w' => e = .returned (.tuple #[.int .u32 r1, .int .u32 r2]) ∧ Drawn0 w w' := by
  have H : (some (((IntKind.u64.wrap ((IntKind.u64.wrap (a0)) * (IntKind.u64.wrap (a1)))) / 4294967296) % 4294967296, (IntKind.u64.wrap ((IntKind.u64.wrap (a0)) * (IntKind.u64.wrap (a1)))) % 4294967296)) = some (r1, r2) := h
  clear h
  simp only [Option.some.injEq, Prod.mk.injEq] at H
  obtain ⟨rfl, rfl⟩ := H
  go_enter Try.func54, Try.ntmps54
  go_wp2
  go_ret2
  exact ⟨by first | rfl | (simp; done) | (simp [*]; done), by repeat (first | exact Drawn0.refl _ | apply Drawn0.step)⟩

/-! ### bits_Mul64: function 55 -/
def bits_Mul64.f (a0 : Int) (a1 : Int) : Option (Int × Int) := some (IntKind.u64.wrap ((IntKind.u64.wrap ((IntKind.u64.wrap ((a0 / 4294967296) * (a1 / 4294967296))) + ((IntKind.u64.wrap ((IntKind.u64.wrap ((a0 / 4294967296) * (Go.bits .and .u64 a1 4294967295))) + ((IntKind.u64.wrap ((Go.bits .and .u64 a0 4294967295) * (Go.bits .and .u64 a1 4294967295))) / 4294967296))) / 4294967296))) + ((IntKind.u64.wrap ((Go.bits .and .u64 (IntKind.u64.wrap ((IntKind.u64.wrap ((a0 / 4294967296) * (Go.bits .and .u64 a1 4294967295))) + ((IntKind.u64.wrap ((Go.bits .and .u64 a0 4294967295) * (Go.bits .and .u64 a1 4294967295))) / 4294967296))) 4294967295) + (IntKind.u64.wrap ((Go.bits .and .u64 a0 4294967295) * (a1 / 4294967296))))) / 4294967296)), IntKind.u64.wrap (a0 * a1))
set_option maxHeartbeats 8000000 in
set_option maxRecDepth 100000 in
theorem bits_Mul64.calls (a0 : Int) (a1 : Int) (r1 : Int) (r2 : Int) (w : World) (h : bits_Mul64.f a0 a1 = some (r1, r2)) :
    Calls Try.prog 55 #[.int .u64 a0, .int .u64 a1] w fun e w' => e = .returned (.tuple #[.int .u64 r1, .int .u64 r2]) ∧ Drawn0 w w' := by
  have H : (some (IntKind.u64.wrap ((IntKind.u64.wrap ((IntKind.u64.wrap ((a0 / 4294967296) * (a1 / 4294967296))) + ((IntKind.u64.wrap ((IntKind.u64.wrap ((a0 / 4294967296) * (Go.bits .and .u64 a1 4294967295))) + ((IntKind.u64.wrap ((Go.bits .and .u64 a0 4294967295) * (Go.bits .and .u64 a1 4294967295))) / 4294967296))) / 4294967296))) + ((IntKind.u64.wrap ((Go.bits .and .u64 (IntKind.u64.wrap ((IntKind.u64.wrap ((a0 / 4294967296) * (Go.bits .and .u64 a1 4294967295))) + ((IntKind.u64.wrap ((Go.bits .and .u64 a0 4294967295) * (Go.bits .and .u64 a1 4294967295))) / 4294967296))) 4294967295) + (IntKind.u64.wrap ((Go.bits .and .u64 a0 4294967295) * (a1 / 4294967296))))) / 4294967296)), IntKind.u64.wrap (a0 * a1))) = some (r1, r2) := h
  clear h
  simp only [Option.some.injEq, Prod.mk.injEq] at H
  obtain ⟨rfl, rfl⟩ := H
  go_enter Try.func55, Try.ntmps55
  go_wp2
  go_ret2
  exact ⟨by first | rfl | (simp; done) | (simp [*]; done), by repeat (first | exact Drawn0.refl _ | apply Drawn0.step)⟩

/-! ### bits_Mul: function 50 -/
def bits_Mul.f (a0 : Int) (a1 : Int) : Option (Int × Int) := (bits_Mul64.f a0 a1).bind fun bt221 => (some (bt221.1, bt221.2))
set_option maxHeartbeats 8000000 in
set_option maxRecDepth 100000 in
theorem bits_Mul.calls (a0 : Int) (a1 : Int) (r1 : Int) (r2 : Int) (w : World) (h : bits_Mul.f a0 a1 = some (r1, r2)) :
    Calls Try.prog 50 #[.int .u64 a0, .int .u64 a1] w fun e w' => e = .returned (.tuple #[.int .u64 r1, .int .u64 r2]) ∧ Drawn0 w w' := by
  have H : ((bits_Mul64.f a0 a1).bind fun bt221 => (some (bt221.1, bt221.2))) = some (r1, r2) := h
  clear h
  replace H := Option.bind_eq_some_iff.mp H
  obtain ⟨⟨t221, t222⟩, A30, H⟩ := H
  replace H : (some (t221, t222)) = some (r1, r2) := H
  have A3 := Aside0.mk A30
  clear A30
  simp only [Option.some.injEq, Prod.mk.injEq] at H
  obtain ⟨rfl, rfl⟩ := H
  go_enter Try.func50, Try.ntmps50
  go_wp2_with (first | ((with_reducible refine gate_callee (f := 55) rfl ?_); refine goesL_ (some 25) rfl rfl Try.func55 (by kernel_rfl) rfl #[.int .u64 a0, .int .u64 a1] rfl (by (try simp only [List.map_toArray, List.map_cons, List.map_nil]); first | done | rfl | (simp only [List.length_drop, List.length_take]; rfl)) ?_; (with_reducible refine (bits_Mul64.calls a0 a1 t221 t222 _ A3.out).mono ?_); rintro e w' ⟨rfl, ⟨nd, rfl⟩⟩; refine ⟨_, rfl, ?_⟩))
  go_ret2
  exact ⟨by first | rfl | (simp; done) | (simp [*]; done), by repeat (first | exact Drawn0.refl _ | apply Drawn0.step)⟩

/-! ### slices_Repeat_int_int: function 42, by hand -/
/-- (one element, a number of times that is above 0) -/
def slices_Repeat_int_int.f (l0 : List Int) (a1 : Int) : Option (List Int) := if l0.length = 1 ∧ 1 ≤ a1 ∧ a1 ≤ 1048576 ∧ bits_Mul.f 1 a1 = some (0, a1) then some (List.replicate a1.toNat (rd l0 0)) else none
theorem rep_splice (n m : Nat) (x : Int) (hm : m ≤ n) (c : Nat) (hc : c = Nat.min m (n - m)) : splice (List.replicate m (Value.int .i64 x) ++ List.replicate (n - m) (Value.int .i64 0)) m (List.replicate c (Value.int .i64 x)) = List.replicate (m + c) (Value.int .i64 x) ++ List.replicate (n - (m + c)) (Value.int .i64 0) := by
  have h1 : c ≤ n - m := by rw [hc]; exact Nat.min_le_right _ _
  unfold splice
  rw [List.take_left' (by simp), List.length_replicate, List.drop_append, List.drop_of_length_le (by simp), List.nil_append, List.length_replicate, List.drop_replicate, ← List.append_assoc, List.replicate_append_replicate, show n - m - (m + c - m) = n - (m + c) by omega]
theorem made_zeros (n : Nat) : madeCells (Value.int .i64 0).cells (n * 1) = (List.replicate n (Value.int .i64 0)).toArray := by
  apply Array.ext
  · simp [madeCells]
  · intro i h1 h2
    simp [madeCells, Value.cells, Nat.mod_one]
set_option maxHeartbeats 2000000 in
set_option maxRecDepth 100000 in
theorem rep_walk (A0 : Option Addr) (c0 : Nat) (x : Int) (n : Nat) (w : World) (hr0 : Kd.C (Kd.int .i64) w A0 1 [x]) (hn1 : 1 ≤ n) (hn : n ≤ 1048576) (hM : bits_Mul.f 1 (n : Int) = some (0, (n : Int))) :
    Calls Try.prog 42 #[.slice A0 1 c0, .int .i64 n] w fun e w' => ∃ v0_ : Value, e = .returned (v0_) ∧ Kd.R (Kd.int .i64) 3 w' w.heap.size (fun _ => True) v0_ (List.replicate n x) ∧ Below w.heap.size w w' := by
  have HM := Aside0.mk hM
  obtain ⟨ad, c, rfl, _, hK, hc0⟩ := Kd.C_get hr0 (0 : Int) 0 (by omega) (by decide)
  have hcell : w.cell? (ad.add 0) = some (.int .i64 x) := by
    have hq := hc0 0 (.int .i64 x) (by rw [show c = [Value.int .i64 x] from hK]; rfl)
    simpa using hq
  have HX := Aside0.mk hcell
  obtain ⟨i0, hi, hz0, hz1, hz2⟩ := info_parts (show (Try.prog.info? 3).map (fun i => (i.zero, i.size, i.bytes)) = some (some (.int .i64 0), 1, 8) by kernel_rfl)
  have hmk : ∀ W : World, (Instr.makeSlice 42 (.int .i64 (n : Int)) (.int .i64 (n : Int))).run Try.prog W = .ok (.slice (some ⟨W.heap.size, 0, none⟩) n n) (W.alloc (.cells (List.replicate n (Value.int .i64 0)).toArray 3)) := by
    intro W
    have h := run_make (P := Try.prog) W 42 3 i0 (.int .i64 0) Try.underlying42 hi hz0 .i64 .i64 (n : Int) (n : Int) (by omega) (by omega) (by rw [hz2]; omega) (by omega)
    rw [hz1, Int.toNat_natCast, made_zeros] at h
    exact h
  have q1 : (0 : Int) ≤ (n : Int) := by omega
  have q2 : (n : Int) ≤ 1048576 := by omega
  have q3 : ¬ ((n : Int) < 0) := by omega
  clear hM hr0 hK hc0 hcell hi hz0 hz1 hz2
  go_enter Try.func42, Try.ntmps42
  go_wp2_with (first | (go_at_call 50; refine (bits_Mul.calls 1 (n : Int) 0 (n : Int) _ HM.out).mono ?_; rintro e w' ⟨rfl, nd, rfl⟩) | (refine wpList_copy_splice rfl (.tmp 31) (.tmp 32) 42 42 rfl 3 Try.underlying42 (by kernel_rfl) _ _ _ _ _ _ rfl rfl w.heap.size 0 (List.replicate n (.int .i64 0)) 3 ?h1 [.int .i64 x] ?h2 ?h3 ?h4 ?h5 w.heap.size w ?h6 (Nat.le_refl _) ?_))
  case h1 =>
    have := heap_alloc_new (w.drewN nd) (.cells (List.replicate n (Value.int .i64 0)).toArray 3)
    simpa using this
  case h2 => exact (Nat.min_eq_left hn1).symm
  case h3 =>
    intro j v hj
    have h0 : j = 0 := by
      by_cases h : j = 0
      · exact h
      · rw [List.getElem?_eq_none (by simp; omega)] at hj
        cases hj
    subst h0
    obtain rfl := Option.some.inj hj
    have hb : Below w.heap.size w ((w.drewN nd).alloc (.cells (List.replicate n (Value.int .i64 0)).toArray 3)) := by repeat (first | exact Below.refl _ _ | apply below_alloc | apply pw_below_drewN)
    exact (hb.cell (World.block_lt_of_cell? w _ HX.out)).trans HX.out
  case h4 => simp; omega
  case h5 =>
    intro v hv
    rw [List.mem_singleton.1 hv]
    rfl
  case h6 => repeat (first | exact Below.refl _ _ | apply below_alloc | apply pw_below_drewN)
  intro w2 HG hB
  have HB := Aside0.mk hB
  have HG0 : Aside0 (w2.heap[w.heap.size]? = some (.cells (List.replicate 1 (Value.int .i64 x) ++ List.replicate (n - 1) (Value.int .i64 0)).toArray 3 (0, 0))) := ⟨by
    have h := HG.out
    rw [show List.replicate n (Value.int .i64 0) = List.replicate 0 (Value.int .i64 x) ++ List.replicate (n - 0) (Value.int .i64 0) by simp, show [Value.int .i64 x] = List.replicate 1 (Value.int .i64 x) from rfl] at h
    have e : splice (List.replicate 0 (Value.int .i64 x) ++ List.replicate (n - 0) (Value.int .i64 0)) 0 (List.replicate 1 (Value.int .i64 x)) = List.replicate 1 (Value.int .i64 x) ++ List.replicate (n - 1) (Value.int .i64 0) := by
      obtain ⟨m, rfl⟩ : ∃ m, n = m + 1 := ⟨n - 1, by omega⟩
      simp [splice, List.replicate_succ]
    rw [e] at h
    exact h⟩
  clear hB HG hmk
  go_wp2
  go_loopw [8] (fun v wr => ∃ m : Nat, 1 ≤ m ∧ m ≤ n ∧ v = .int .i64 m ∧ Aside0 (wr.heap[w.heap.size]? = some (.cells (List.replicate m (Value.int .i64 x) ++ List.replicate (n - m) (Value.int .i64 0)).toArray 3 (0, 0))) ∧ Aside0 (Below w.heap.size w wr)) (fun v _ => n - (intOf v).toNat)
  case atStart => exact ⟨1, Nat.le_refl _, hn1, rfl, HG0, HB⟩
  case round =>
    clear HG0 HB
    obtain ⟨m, hm1, hm, rfl, HG, HB⟩ := hrel
    by_cases hlt : m < n
    · have l1 : (m : Int) < (n : Int) := by omega
      have l2 : (0 : Int) ≤ (m : Int) := by omega
      have l3 : (m : Int) ≤ (n : Int) := by omega
      have hnc : n ≤ n := Nat.le_refl _
      obtain ⟨c, hc⟩ : ∃ c_, c_ = Nat.min m (n - m) := ⟨_, rfl⟩
      have c1 : c ≤ m := by rw [hc]; exact Nat.min_le_left _ _
      have c2 : c ≤ n - m := by rw [hc]; exact Nat.min_le_right _ _
      have c3 : 1 ≤ c := by rw [hc]; exact Nat.le_min.2 ⟨hm1, by omega⟩
      have HC := Aside0.mk hc
      clear hc
      have hne : ((m : Int) == (n : Int)) = false := beq_eq_false_iff_ne.mpr (by omega)
      have hne2 : ¬ m = n := by omega
      have hne3 : ¬ n = m := by omega
      have HCS : Aside0 (∀ j v, (List.replicate c (Value.int .i64 x))[j]? = some v → wr.drew.cell? ((⟨w.heap.size, 0, none⟩ : Addr).add j) = some v) := ⟨by
        intro j v hj
        have hjc : j < c := by
          by_cases h : j < c
          · exact h
          · rw [List.getElem?_eq_none (by simp; omega)] at hj
            cases hj
        have e := (blk_cell (blk_drew HG.out) j)
        have ea : (⟨w.heap.size, 0, none⟩ : Addr).add j = ⟨w.heap.size, j, none⟩ := by cases j <;> simp [Addr.add]
        rw [ea, e]
        rw [List.getElem?_replicate_of_lt hjc] at hj
        rw [← hj]
        simp only [List.getElem?_toArray]
        rw [List.getElem?_append_left (by simp; omega), List.getElem?_replicate_of_lt (by omega)]⟩
      go_wp2
      go_region_law (refine step_copy_splice rfl (.tmp 41) (.tmp 44) 42 42 rfl 3 Try.underlying42 (by kernel_rfl) (some ⟨w.heap.size, m, none⟩) (some ⟨w.heap.size, 0, none⟩) (n - m) (n - m) m n (by simp [Act.eval, Act.put]) (by simp [Act.eval, Act.put]) w.heap.size m (List.replicate m (Value.int .i64 x) ++ List.replicate (n - m) (Value.int .i64 0)) 3 (blk_drew HG.out) (List.replicate c (.int .i64 x)) (by rw [List.length_replicate, HC.out]) (fun _ => ⟨rfl, _, rfl, HCS.out⟩) (by simp only [List.length_append, List.length_replicate]; omega) (fun v hv => by rw [(List.mem_replicate.1 hv).2]; rfl) w.heap.size w (below_drew1 HB.out) (Nat.le_refl _) ?_; intro w4 hg4 hb4; have HG4 := hg4; have HB4 := Aside0.mk hb4; clear hg4 hb4)
      all_goals
        have HG5 : Aside0 (w4.heap[w.heap.size]? = some (.cells (List.replicate (m + c) (Value.int .i64 x) ++ List.replicate (n - (m + c)) (Value.int .i64 0)).toArray 3 (0, 0))) := ⟨by
          have h := HG4.out
          rwa [rep_splice n m x hm c HC.out] at h⟩
        clear HG4
        have hw : IntKind.i64.wrap ((m : Int) + (c : Int)) = ((m + c : Nat) : Int) := by rw [IntKind.wrap_i64]; omega
        go_roundw
        case rel =>
          rw [hw]
          iterate 14 apply Exists.intro
          exact ⟨⟨m + c, by omega, by omega, rfl, HG5, HB4⟩, rfl⟩
        case measure =>
          simp [intOf, Act.put, hw]
          omega
    · have : m = n := by omega
      subst this
      go_wp2
      go_ret
      refine ⟨_, rfl, Kd.R_of_own (xs := List.replicate m x) ?_ (fun _ _ => trivial), HB.out⟩
      refine ⟨by simp [encs], .inr ⟨w.heap.size, m, _, by simp, Nat.le_refl _, HG.out, by simp, by unfold maxLen; simp; omega, by simp, by simp [encs]⟩⟩
theorem slices_Repeat_int_int.calls (A0 : Option Addr) (c0 : Nat) (l0 : List Int) (a1 : Int) (r : List Int) (w : World) (hr0 : Kd.C (Kd.int .i64) w A0 l0.length l0) (hc0 : l0.length ≤ c0) (h : slices_Repeat_int_int.f l0 a1 = some r) :
    Calls Try.prog 42 #[.slice A0 l0.length c0, .int .i64 a1] w fun e w' => ∃ v0_ : Value, e = .returned (v0_) ∧ Kd.R (Kd.int .i64) 3 w' w.heap.size (fun _ => True) v0_ r ∧ Below w.heap.size w w' := by
  unfold slices_Repeat_int_int.f at h
  by_cases hk : l0.length = 1 ∧ 1 ≤ a1 ∧ a1 ≤ 1048576 ∧ bits_Mul.f 1 a1 = some (0, a1)
  · rw [if_pos hk] at h
    obtain ⟨h1, h2, h3, h4⟩ := hk
    obtain ⟨n, rfl⟩ := Int.eq_ofNat_of_zero_le (show 0 ≤ a1 by omega)
    obtain rfl := Option.some.inj h
    obtain ⟨x, rfl⟩ := List.length_eq_one_iff.1 h1
    exact rep_walk A0 c0 x n w hr0 (by omega) (by omega) h4
  · rw [if_neg hk] at h
    cases h

/-! ### impl_Send_51: function 51, by hand -/
set_option maxHeartbeats 1000000 in
set_option maxRecDepth 100000 in
theorem idxSend (fn : FuncId) (g : Func) (cap : Array Value) (p : S36 → Bool) (hf : Try.prog.funcs[fn]? = some g) (hname : (g.name == "runtime.NumGoroutine") = false) (hb : g.body.isSome = true)
    (A0 : Option Addr) (c0 : Nat) (l0 : List S36) (w : World) (hr0 : Kd.C k36 w A0 l0.length l0)
    (ho : Owes Try.prog fn (fun x : S36 => .agg #[.int .i64 x.f0, .int .i64 x.f1, .int .i64 x.f2]) cap p l0 w) :
    Calls Try.prog 51 #[.slice A0 l0.length c0, .func (.func fn) #[] cap] w fun e w' => ∃ r : Int, e = .returned (.int .i64 r) ∧ decide (r ≥ 0) = l0.any p ∧ Below w.heap.size w w' := by
  have hu := Try.underlying36
  have HR0 := Aside0.mk hr0
  have HO := Aside0.mk ho
  have HF := Aside0.mk hf
  have HM := hr0.2.1
  clear hr0 ho hf
  go_enter Try.func51, Try.ntmps51
  go_wp2
  go_loopw [8] (fun v wr => ∃ k : Nat, k ≤ l0.length ∧ v = .int .i64 k ∧ Aside0 ((l0.take k).any p = false) ∧ Aside0 (Below w.heap.size w wr)) (fun v _ => l0.length - (intOf v).toNat)
  case atStart => exact ⟨0, Nat.zero_le _, rfl, ⟨rfl⟩, ⟨Below.refl _ _⟩⟩
  case round =>
    obtain ⟨k, hk, rfl, HA, HB⟩ := hrel
    by_cases hlt : k < l0.length
    · have p1 : (0 : Int) ≤ (k : Int) := by omega
      have q1 : (k : Int) < (l0.length : Int) := by omega
      obtain ⟨ad, e1, hx0, hx1, hx2⟩ := at_T36 HR0.out (k : Int) p1 q1
      cases e1
      replace hx0 := (HB.out.cell (World.block_lt_of_cell? w _ hx0)).trans hx0
      replace hx1 := (HB.out.cell (World.block_lt_of_cell? w _ hx1)).trans hx1
      replace hx2 := (HB.out.cell (World.block_lt_of_cell? w _ hx2)).trans hx2
      simp only [Int.toNat_natCast] at hx0 hx1 hx2
      have hmem := mem_getD l0 k hlt z36
      have hc := HO.out (rd_T36 l0 (k : Int)) (by simpa [rd_T36] using hmem) wr HB.out
      obtain ⟨b, hpb⟩ : ∃ b, p (rd_T36 l0 (k : Int)) = b := ⟨_, rfl⟩
      rw [hpb] at hc
      have HC := Aside0.mk hc
      have HP := Aside0.mk hpb
      clear hc hpb hmem
      cases b with
      | true =>
        go_wp2_with (refine goesV_ (some 16) rfl rfl HF.out hname hb (#[_] ++ cap) rfl rfl (by simp; rfl) ?_; refine HC.out.mono ?_; rintro e w1 ⟨rfl, hb1⟩; refine ⟨_, rfl, ?_⟩)
        go_ret
        exact ⟨_, rfl, by rw [any_of_at p l0 k hlt z36 (by simpa [rd_T36] using HP.out)]; simp, HB.out.trans (hb1.mono HB.out.size)⟩
      | false =>
        go_wp2_with (refine goesV_ (some 16) rfl rfl HF.out hname hb (#[_] ++ cap) rfl rfl (by simp; rfl) ?_; refine HC.out.mono ?_; rintro e w1 ⟨rfl, hb1⟩; refine ⟨_, rfl, ?_⟩)
        go_roundw
        case rel => exact ⟨k + 1, by omega, by go_num, ⟨take_any_snoc p l0 k hlt z36 HA.out (by simpa [rd_T36] using HP.out)⟩, ⟨HB.out.trans (hb1.mono HB.out.size)⟩⟩
        case measure => simp [intOf]; omega
    · go_wp2
      go_ret
      exact ⟨_, rfl, by have h1 := HA.out; rw [List.take_of_length_le (by omega)] at h1; rw [h1]; rfl, HB.out⟩


/-! ### impl_Send_43: function 43, by hand -/
theorem hasSend (fn : FuncId) (g : Func) (cap : Array Value) (p : S36 → Bool) (hf : Try.prog.funcs[fn]? = some g) (hname : (g.name == "runtime.NumGoroutine") = false) (hb : g.body.isSome = true)
    (A0 : Option Addr) (c0 : Nat) (l0 : List S36) (w : World) (hr0 : Kd.C k36 w A0 l0.length l0)
    (ho : Owes Try.prog fn (fun x : S36 => .agg #[.int .i64 x.f0, .int .i64 x.f1, .int .i64 x.f2]) cap p l0 w) :
    Calls Try.prog 43 #[.slice A0 l0.length c0, .func (.func fn) #[] cap] w fun e w' => e = .returned (.bool (l0.any p)) ∧ Below w.heap.size w w' := by
  have HC := Aside0.mk (idxSend fn g cap p hf hname hb A0 c0 l0 w hr0 ho)
  clear hr0 ho hf
  go_enter Try.func43, Try.ntmps43
  go_wp2_with (go_at_call 51; refine HC.out.mono ?_; rintro e w1 ⟨r, rfl, hr, hb1⟩; have HR := Aside0.mk hr; have HB := Aside0.mk hb1; clear hr hb1)
  go_ret
  exact ⟨by rw [HR.out]; rfl, HB.out⟩

-- NOT PRINTED: function 44 (impl_arrivals_1)

/-! ### impl_arrivals: function 38, by hand -/
/-- does a send go behind these, and what is told so far? -/
def arrOk (p : Int) (pre : List S36) (s : S36) (out : List Int) : Bool :=
  decide (0 ≤ s.f0 ∧ s.f0 ≤ p - 1) && decide (1 ≤ s.f1 ∧ s.f1 ≤ p - 1) && !(s.f0 == s.f1) && decide (0 ≤ s.f2 ∧ s.f2 ≤ 60) && decide (rd out s.f1 < 0) && !(pre.any fun t => (t.f0 == s.f0) && (t.f2 == s.f2))
def arrL (d p : Int) : List S36 → List S36 → List Int → Option (List Int)
  | _, [], out => some out
  | pre, s :: r, out => if arrOk p pre s out = true then arrL d p (pre ++ [s]) r (out.set s.f1.toNat (s.f2 + d)) else none
def arrEnd (ss : List S36) (out : List Int) : Bool := ss.all fun s => decide (0 ≤ s.f0 ∧ s.f0 < out.length) && decide (0 ≤ rd out s.f0) && decide (rd out s.f0 ≤ s.f2)
/-- (only where they are sends) -/
def impl_arrivals.f (d p : Int) (ss : List S36) : Option (List Int × Bool) := if 0 ≤ d ∧ d ≤ 100 ∧ 1 ≤ p ∧ p ≤ 1000 ∧ ss.length ≤ 40 then (slices_Repeat_int_int.f [-1] p).bind fun o => (arrL d p [] ss (o.set 0 0)).bind fun out => if arrEnd ss out = true then some (out, true) else none else none
theorem within_yes {a b c : Int} (h : b ≤ a ∧ a ≤ c) : impl_within.f a b c = some true := by
  unfold impl_within.f
  rw [if_pos h.1, decide_eq_true h.2]
set_option maxHeartbeats 1000000 in
set_option maxRecDepth 100000 in
theorem arr_1 (t s : S36) (B : Nat) (w : World) (h0 : w.cell? ⟨B, 0, none⟩ = some (.int .i64 s.f0)) (h2 : w.cell? ⟨B, 2, none⟩ = some (.int .i64 s.f2)) (hB : B < w.heap.size) :
    Calls Try.prog 44 #[.agg #[.int .i64 t.f0, .int .i64 t.f1, .int .i64 t.f2], .pointer (some ⟨B, 0, none⟩)] w fun e w' => e = .returned (.bool ((t.f0 == s.f0) && (t.f2 == s.f2))) ∧ Below w.heap.size w w' := by
  have hu := Try.underlying36
  have hne : ¬ B = w.heap.size := by omega
  have hne2 : ¬ w.heap.size = B := by omega
  by_cases hq : t.f0 = s.f0
  · have hq1 : (t.f0 == s.f0) = true := beq_iff_eq.mpr hq
    clear hq
    go_enter Try.func44, Try.ntmps44
    go_wp2
    go_ret
    exact ⟨by first | rfl | (simp [hq1]; done), by repeat (first | exact Below.refl _ _ | apply below_alloc | apply pw_below_drewN | apply below_drew1)⟩
  · have hq1 : (t.f0 == s.f0) = false := beq_eq_false_iff_ne.mpr hq
    clear hq
    go_enter Try.func44, Try.ntmps44
    go_wp2
    go_ret
    exact ⟨by first | rfl | (simp [hq1]; done), by repeat (first | exact Below.refl _ _ | apply below_alloc | apply pw_below_drewN | apply below_drew1)⟩
theorem arrL_len (d p : Int) : ∀ (r pre : List S36) (out fin : List Int), arrL d p pre r out = some fin → fin.length = out.length := by
  intro r
  induction r with
  | nil => intro pre out fin h; unfold arrL at h; rw [Option.some.inj h]
  | cons s r ih =>
    intro pre out fin h
    unfold arrL at h
    by_cases hc : arrOk p pre s out = true
    · rw [if_pos hc] at h
      rw [ih _ _ _ h, List.length_set]
    · rw [if_neg hc] at h
      cases h
set_option maxHeartbeats 4000000 in
set_option maxRecDepth 100000 in
theorem arr_walk (d : Int) (n : Nat) (A2 : Option Addr) (c2 : Nat) (ss : List S36) (o fin : List Int) (w : World) (hr2 : Kd.C k36 w A2 ss.length ss) (hc2 : ss.length ≤ c2) (d0 : 0 ≤ d) (d1 : d ≤ 100) (n1 : 1 ≤ n) (n2 : n ≤ 1000) (hl : ss.length ≤ 40) (ho : slices_Repeat_int_int.f [-1] (n : Int) = some o) (hol : o.length = n) (hL : arrL d (n : Int) [] ss (o.set 0 0) = some fin) (hE : arrEnd ss fin = true) :
    Calls Try.prog 38 #[.int .i64 d, .int .i64 n, .slice A2 ss.length c2] w fun e w' => ∃ v0_ : Value, e = .returned (.tuple #[v0_, .bool true]) ∧ Kd.R (Kd.int .i64) 3 w' w.heap.size (fun _ => True) v0_ fin ∧ Below w.heap.size w w' := by
  have hu := Try.underlying36
  have hmf : ∀ (fn : Fn) (first cap : Array Value) (w : World), (Instr.makeFunc fn first cap).run Try.prog w = .ok (.func fn first cap) w := fun _ _ _ _ => rfl
  subst hol
  have HR := Aside0.mk hr2
  have HO := Aside0.mk ho
  have HL := Aside0.mk hL
  have HE := Aside0.mk hE
  have s0 : ¬ (40 : Int) < (ss.length : Int) := by omega
  have hp1 : (0 : Int) < (o.length : Int) := by omega
  have ho1 : (1 : Int) ≤ (o.length : Int) := by omega
  have ho2 : (o.length : Int) ≤ 1000 := by omega
  clear hr2 ho hL hE
  go_enter Try.func38, Try.ntmps38
  go_wp2_with (go_at_call 42; refine (slices_Repeat_int_int.calls (some ⟨w.heap.size, 0, none⟩) 1 [-1] (o.length : Int) o _ (lit_C [-1] (by simpa using lit_new w [-1]) (by decide)) (by decide) HO.out).mono ?_; rintro e w1 ⟨v, rfl, hr, hb⟩; obtain ⟨g, cg, rfl⟩ := R_form hr n1; have hcell := (Kd.R_celln 0 hr 0 (Int.le_refl _) hp1).1; have hfz := (Kd.R_celln 0 hr 0 (Int.le_refl _) hp1).2; simp only [Int.toNat_zero] at hcell hfz; have hgl : w.heap.size ≤ g := Nat.le_trans (by simp) (Kd.R_base hr g rfl); have H0 : Aside0 (Kd.R (Kd.int .i64) 3 (w1.setCell ⟨g, 0, none⟩ (.int .i64 0)) w.heap.size (fun _ => True) (.slice (some ⟨g, 0, none⟩) o.length cg) (o.set 0 0)) := ⟨Kd.R_putn (Kd.R_lower hr (by simp)) 0 0⟩; have HB : Aside0 (Below w.heap.size w (w1.setCell ⟨g, 0, none⟩ (.int .i64 0))) := ⟨below_set (below_step (below_alloc (Below.refl _ _) _) hb) hgl⟩; clear hr hb)
  clear hcell hfz
  go_loopw [23] (fun v23 wr => ∃ (j : Nat) (out : List Int), j ≤ ss.length ∧ v23 = .int .i64 j ∧ Aside0 (out.length = o.length) ∧ Aside0 (arrL d (o.length : Int) (ss.take j) (ss.drop j) out = some fin) ∧ Aside0 (Kd.R (Kd.int .i64) 3 wr w.heap.size (fun _ => True) (.slice (some ⟨g, 0, none⟩) o.length cg) out) ∧ Aside0 (Below w.heap.size w wr)) (fun v23 _ => ss.length - (intOf v23).toNat)
  case atStart => exact ⟨0, o.set 0 0, Nat.zero_le _, rfl, ⟨by rw [List.length_set]⟩, HL, H0, HB⟩
  case round =>
    clear HL H0 HB
    obtain ⟨j, out, hj, rfl, HN, HL, HX, HB⟩ := hrel
    by_cases hlt : j < ss.length
    · have p1 : (0 : Int) ≤ (j : Int) := by omega
      have q1 : (j : Int) < (ss.length : Int) := by omega
      obtain ⟨ad, e1, hx0, hx1, hx2⟩ := at_T36 HR.out (j : Int) p1 q1
      cases e1
      simp only [Int.toNat_natCast] at hx0 hx1 hx2
      have he : rd_T36 ss (j : Int) = ss[j] := by simp [rd_T36, List.getD_eq_getElem?_getD, List.getElem?_eq_getElem hlt]
      rw [he] at hx0 hx1 hx2
      obtain ⟨s, hs⟩ : ∃ s_, s_ = ss[j] := ⟨_, rfl⟩
      rw [← hs] at hx0 hx1 hx2
      replace hx0 := (HB.out.cell (World.block_lt_of_cell? w _ hx0)).trans hx0
      replace hx1 := (HB.out.cell (World.block_lt_of_cell? w _ hx1)).trans hx1
      replace hx2 := (HB.out.cell (World.block_lt_of_cell? w _ hx2)).trans hx2
      have h := HL.out
      rw [List.drop_eq_getElem_cons hlt, ← hs, arrL] at h
      by_cases hk : arrOk (o.length : Int) (ss.take j) s out = true
      case neg => rw [if_neg hk] at h; cases h
      rw [if_pos hk] at h
      have HREST : Aside0 (arrL d (o.length : Int) (ss.take (j + 1)) (ss.drop (j + 1)) (out.set s.f1.toNat (s.f2 + d)) = some fin) := ⟨by rw [List.take_succ_eq_append_getElem hlt, ← hs]; exact h⟩
      unfold arrOk at hk
      simp only [Bool.and_eq_true, decide_eq_true_eq, Bool.not_eq_true', beq_eq_false_iff_ne] at hk
      obtain ⟨⟨⟨⟨⟨k0, k1⟩, k2⟩, k3⟩, k4⟩, k5⟩ := hk
      obtain ⟨t, ht⟩ := Int.eq_ofNat_of_zero_le (show 0 ≤ s.f1 by omega)
      have W0 := Aside0.mk (within_yes (a := s.f0) (b := 0) (c := (o.length : Int) - 1) ⟨k0.1, by omega⟩)
      have W1 := Aside0.mk (within_yes (a := (t : Int)) (b := 1) (c := (o.length : Int) - 1) ⟨by omega, by omega⟩)
      have W2 : Aside0 (impl_isMinute.f s.f2 = some true) := ⟨by unfold impl_isMinute.f; rw [within_yes ⟨k3.1, by omega⟩]; rfl⟩
      have K5 := Aside0.mk k5
      rw [ht] at hx1 k1 k2 k4 HREST
      have k2b : (s.f0 == (t : Int)) = false := beq_eq_false_iff_ne.mpr k2
      have k4b : decide (0 ≤ rd out (t : Int)) = false := decide_eq_false (by omega)
      have k4c : ¬ (0 ≤ rd out (t : Int)) := by omega
      have k3a : 0 ≤ s.f2 := k3.1
      have k3b : s.f2 ≤ 60 := k3.2
      have t0 : (0 : Int) ≤ (t : Int) := by omega
      have t1 : (t : Int) < (o.length : Int) := by omega
      have hcell : wr.cell? ⟨g, t, none⟩ = some (.int .i64 (rd out (t : Int))) := (Kd.R_celln 0 HX.out (t : Int) t0 t1).1
      have hgw : g < wr.heap.size := Kd.R_lt HX.out g rfl
      have hne1 : ¬ g = wr.heap.size := Nat.ne_of_lt hgw
      have hne2 : ¬ wr.heap.size = g := fun h => hne1 h.symm
      have htl : (ss.take j).length = j := by rw [List.length_take]; omega
      have HCC : Aside0 (∀ W, Below w.heap.size w W → Owes Try.prog 44 (fun x : S36 => .agg #[.int .i64 x.f0, .int .i64 x.f1, .int .i64 x.f2]) #[.pointer (some ⟨wr.heap.size, 0, none⟩)] (fun t => (t.f0 == s.f0) && (t.f2 == s.f2)) (ss.take j) W → Calls Try.prog 43 #[.slice (some ad) j c2, .func (.func 44) #[] #[.pointer (some ⟨wr.heap.size, 0, none⟩)]] W fun e w' => e = .returned (.bool false) ∧ Below W.heap.size W w') := ⟨fun W hB hO => by
        have h := hasSend 44 Try.f44 #[.pointer (some ⟨wr.heap.size, 0, none⟩)] (fun t => (t.f0 == s.f0) && (t.f2 == s.f2)) Try.func44 rfl rfl (some ad) c2 (ss.take j) W (Kd.C_below (Kd.C_take HR.out hj) hB) hO
        rw [htl, K5.out] at h
        exact h⟩
      have HS := Aside0.mk hs
      clear he hs h k5 k0 k1 k2 k3 k4 ht htl
      go_wp2_with (first
        | (go_at_call 29; (first | (with_reducible refine (impl_within.calls s.f0 0 ((o.length : Int) - 1) true _ W0.out).mono ?_) | (with_reducible refine (impl_within.calls (t : Int) 1 ((o.length : Int) - 1) true _ W1.out).mono ?_)); rintro e w' ⟨rfl, ⟨nd, rfl⟩⟩)
        | (go_at_call 24; refine (impl_isMinute.calls s.f2 true _ W2.out).mono ?_; rintro e w' ⟨rfl, ⟨nd, rfl⟩⟩)
        | (go_at_call 43; go_loud (refine (HCC.out _ (by repeat (first | exact HB.out | apply below_alloc | apply pw_below_drewN)) (fun x hx W' hW' => arr_1 x s wr.heap.size W' ((hW'.cell (by simp)).trans (by go_simp)) ((hW'.cell (by simp)).trans (by go_simp)) (by have := hW'.size; simp at this; omega))).mono ?_; rintro e w3 ⟨rfl, hb⟩; have hq1 : w3.cell? ⟨wr.heap.size, 1, none⟩ = some (.int .i64 (t : Int)) := (hb.cell (p := ⟨wr.heap.size, 1, none⟩) (by simp)).trans (by go_simp); have hq2 : w3.cell? ⟨wr.heap.size, 2, none⟩ = some (.int .i64 s.f2) := (hb.cell (p := ⟨wr.heap.size, 2, none⟩) (by simp)).trans (by go_simp); have HX3 := Aside0.mk (Kd.R_below (by repeat (first | exact HX.out | apply Kd.R_alloc | apply Kd.R_drewN | apply Kd.R_drew)) hb); have HB3 := Aside0.mk (below_step (by repeat (first | exact HB.out | apply below_alloc | apply pw_below_drewN)) hb); have hcell3 : w3.cell? ⟨g, t, none⟩ = some (.int .i64 (rd out (t : Int))) := (Kd.R_celln 0 HX3.out (t : Int) t0 t1).1; have hfz3 : w3.frozen? ⟨g, t, none⟩ = false := (Kd.R_celln 0 HX3.out (t : Int) t0 t1).2; clear hb)))
      go_roundw
      case rel => exact ⟨j + 1, _, by omega, by go_num, ⟨by rw [List.length_set]; exact HN.out⟩, HREST, ⟨Kd.R_putn HX3.out (t : Int) _⟩, ⟨below_set HB3.out hgl⟩⟩
      case measure => simp [intOf]; omega
    · have hjl : j = ss.length := by omega
      have h := HL.out
      rw [hjl, List.drop_length, arrL] at h
      obtain rfl := Option.some.inj h
      clear h HL hlt hj
      go_wp2
      go_loopw [79] (fun v79 wr => ∃ (j : Nat), j ≤ ss.length ∧ v79 = .int .i64 j ∧ Aside0 (Kd.R (Kd.int .i64) 3 wr w.heap.size (fun _ => True) (.slice (some ⟨g, 0, none⟩) o.length cg) out) ∧ Aside0 (Below w.heap.size w wr)) (fun v79 _ => ss.length - (intOf v79).toNat)
      case atStart => exact ⟨0, Nat.zero_le _, rfl, HX, HB⟩
      case round =>
        clear HX HB hjl
        obtain ⟨j, hj, rfl, HX, HB⟩ := hrel
        by_cases hlt : j < ss.length
        · have p1 : (0 : Int) ≤ (j : Int) := by omega
          have q1 : (j : Int) < (ss.length : Int) := by omega
          obtain ⟨ad, e1, hx0, hx1, hx2⟩ := at_T36 HR.out (j : Int) p1 q1
          cases e1
          simp only [Int.toNat_natCast] at hx0 hx1 hx2
          have he : rd_T36 ss (j : Int) = ss[j] := by simp [rd_T36, List.getD_eq_getElem?_getD, List.getElem?_eq_getElem hlt]
          rw [he] at hx0 hx1 hx2
          have hk := List.all_eq_true.1 HE.out ss[j] (List.getElem_mem hlt)
          obtain ⟨s, hs⟩ : ∃ s_, s_ = ss[j] := ⟨_, rfl⟩
          rw [← hs] at hx0 hx1 hx2 hk
          replace hx0 := (HB.out.cell (World.block_lt_of_cell? w _ hx0)).trans hx0
          replace hx1 := (HB.out.cell (World.block_lt_of_cell? w _ hx1)).trans hx1
          replace hx2 := (HB.out.cell (World.block_lt_of_cell? w _ hx2)).trans hx2
          simp only [Bool.and_eq_true, decide_eq_true_eq] at hk
          obtain ⟨⟨⟨k0, k1⟩, k2⟩, k3⟩ := hk
          rw [HN.out] at k1
          obtain ⟨t, ht⟩ := Int.eq_ofNat_of_zero_le k0
          rw [ht] at hx0 k1 k2 k3
          have t0 : (0 : Int) ≤ (t : Int) := by omega
          have k2b : decide (rd out (t : Int) < 0) = false := decide_eq_false (by omega)
          have k3b : decide (s.f2 < rd out (t : Int)) = false := decide_eq_false (by omega)
          have hgw : g < wr.heap.size := Kd.R_lt HX.out g rfl
          have hcell : (wr.alloc (.cells #[.int .i64 (t : Int), .int .i64 s.f1, .int .i64 s.f2] 36)).cell? ⟨g, t, none⟩ = some (.int .i64 (rd out (t : Int))) := ((below_alloc (Below.refl wr.heap.size wr) _).cell (p := ⟨g, t, none⟩) hgw).trans (Kd.R_celln 0 HX.out (t : Int) t0 k1).1
          have hne1 : ¬ g = wr.heap.size := Nat.ne_of_lt hgw
          have hne2 : ¬ wr.heap.size = g := fun h => hne1 h.symm
          clear he hs ht k0
          go_wp2
          go_quiet (fail)
          go_wp2
          go_roundw
          case rel => exact ⟨j + 1, by omega, by go_num, ⟨by repeat (first | exact HX.out | apply Kd.R_alloc | apply Kd.R_drewN | apply Kd.R_drew)⟩, ⟨by repeat (first | exact HB.out | apply below_alloc | apply pw_below_drewN | apply below_drew1)⟩⟩
          case measure => simp [intOf]; omega
        · go_wp2
          go_ret2
          exact ⟨_, rfl, HX.out, HB.out⟩
theorem impl_arrivals.calls (a0 a1 : Int) (A2 : Option Addr) (c2 : Nat) (l2 : List S36) (r1 : List Int) (r2 : Bool) (w : World) (hr2 : Kd.C k36 w A2 l2.length l2) (hc2 : l2.length ≤ c2) (h : impl_arrivals.f a0 a1 l2 = some (r1, r2)) :
    Calls Try.prog 38 #[.int .i64 a0, .int .i64 a1, .slice A2 l2.length c2] w fun e w' => ∃ v0_ : Value, e = .returned (.tuple #[v0_, .bool r2]) ∧ Kd.R (Kd.int .i64) 3 w' w.heap.size (fun _ => True) v0_ r1 ∧ Below w.heap.size w w' := by
  unfold impl_arrivals.f at h
  by_cases hc : 0 ≤ a0 ∧ a0 ≤ 100 ∧ 1 ≤ a1 ∧ a1 ≤ 1000 ∧ l2.length ≤ 40
  · rw [if_pos hc] at h
    obtain ⟨o, ho, h⟩ := Option.bind_eq_some_iff.1 h
    obtain ⟨fin, hL, h⟩ := Option.bind_eq_some_iff.1 h
    by_cases hE : arrEnd l2 fin = true
    · rw [if_pos hE] at h
      simp only [Option.some.injEq, Prod.mk.injEq] at h
      obtain ⟨rfl, rfl⟩ := h
      obtain ⟨n, rfl⟩ := Int.eq_ofNat_of_zero_le (show 0 ≤ a1 by omega)
      have hol : o.length = n := by
        unfold slices_Repeat_int_int.f at ho
        by_cases hq : ([-1] : List Int).length = 1 ∧ 1 ≤ (n : Int) ∧ (n : Int) ≤ 1048576 ∧ bits_Mul.f 1 (n : Int) = some (0, (n : Int))
        · rw [if_pos hq] at ho
          rw [← Option.some.inj ho]
          simp
        · rw [if_neg hq] at ho
          cases ho
      exact arr_walk a0 n A2 c2 l2 o fin w hr2 hc2 hc.1 hc.2.1 (by omega) (by omega) hc.2.2.2.2 ho hol hL hE
    · rw [if_neg hE] at h
      cases h
  · rw [if_neg hc] at h
    cases h

/-! ### impl_AreSends: function 20 -/
def impl_AreSends.f (a0 : Int) (a1 : Int) (l2 : List (S36)) : Option (Bool × Bool) := (impl_areDelayed.f a0 a1).bind fun t223 => (if t223 = true then ((impl_arrivals.f a0 a1 l2).bind fun bt224 => (some (bt224.2, true))) else (some (false, false)))
set_option maxHeartbeats 8000000 in
set_option maxRecDepth 100000 in
theorem impl_AreSends.calls (a0 : Int) (a1 : Int) (A2 : Option Addr) (c2 : Nat) (l2 : List (S36)) (r1 : Bool) (r2 : Bool) (w : World) (hr2 : Kd.C k36 w A2 l2.length l2) (hc2 : l2.length ≤ c2) (h : impl_AreSends.f a0 a1 l2 = some (r1, r2)) :
    Calls Try.prog 20 #[.int .i64 a0, .int .i64 a1, .slice A2 l2.length c2] w fun e w' => e = .returned (.tuple #[.bool r1, .bool r2]) ∧ Below w.heap.size w w' := by
  have HR2 := Aside0.mk hr2
  have HC2 := Aside0.mk hc2
  clear hr2 hc2
  have HB := Aside0.mk (Below.refl w.heap.size w)
  have H : ((impl_areDelayed.f a0 a1).bind fun t223 => (if t223 = true then ((impl_arrivals.f a0 a1 l2).bind fun bt224 => (some (bt224.2, true))) else (some (false, false)))) = some (r1, r2) := h
  clear h
  replace H := Option.bind_eq_some_iff.mp H
  obtain ⟨t223, A40, H⟩ := H
  replace H : (if t223 = true then ((impl_arrivals.f a0 a1 l2).bind fun bt224 => (some (bt224.2, true))) else (some (false, false))) = some (r1, r2) := H
  have A4 := Aside0.mk A40
  clear A40
  by_cases c5 : t223 = true
  · subst c5
    have H1 : ((impl_arrivals.f a0 a1 l2).bind fun bt224 => (some (bt224.2, true))) = some (r1, r2) := by rw [if_pos rfl] at H; exact H
    clear H
    have H := H1
    clear H1
    replace H := Option.bind_eq_some_iff.mp H
    obtain ⟨⟨t224, t225⟩, A60, H⟩ := H
    replace H : (some (t225, true)) = some (r1, r2) := H
    have A6 := Aside0.mk A60
    clear A60
    simp only [Option.some.injEq, Prod.mk.injEq] at H
    obtain ⟨rfl, rfl⟩ := H
    go_enter Try.func20, Try.ntmps20
    go_wp2_with (first | ((with_reducible refine gate_callee (f := 34) rfl ?_); refine goesL_ (some 12) rfl rfl Try.func34 (by kernel_rfl) rfl #[.int .i64 a0, .int .i64 a1] rfl (by (try simp only [List.map_toArray, List.map_cons, List.map_nil]); first | done | rfl | (simp only [List.length_drop, List.length_take]; rfl)) ?_; (with_reducible refine (impl_areDelayed.calls a0 a1 true _ A4.out).mono ?_); rintro e w' ⟨rfl, ⟨nd, rfl⟩⟩; refine ⟨_, rfl, ?_⟩) | ((with_reducible refine gate_callee (f := 38) rfl ?_); refine goesL_ (some 18) rfl rfl Try.func38 (by kernel_rfl) rfl #[.int .i64 a0, .int .i64 a1, .slice A2 l2.length c2] rfl (by (try simp only [List.map_toArray, List.map_cons, List.map_nil]); first | done | rfl | (simp only [List.length_drop, List.length_take]; rfl)) ?_; (with_reducible refine (impl_arrivals.calls a0 a1 _ _ l2 t224 t225 _ ?side1 ?side2 A6.out).mono ?_); (case side1 => repeat (first | exact HR2.out | (with_reducible refine Kd.C_alloc ?_ _) | (with_reducible refine Kd.C_drewN ?_ _) | (with_reducible refine Kd.C_drew ?_))); (case side2 => exact HC2.out); rintro e w7 ⟨v226, rfl, ho0, hb⟩; refine ⟨_, rfl, ?_⟩; have n0_ := Aside0.mk (Kd.R_lower ho0 (below_size (by repeat (first | (with_reducible first | exact HB.out | apply below_alloc | apply pw_below_drewN | apply below_drew1) | exact HB.out)))); have n1_ := Aside0.mk (below_step (by repeat (first | (with_reducible first | exact HB.out | apply below_alloc | apply pw_below_drewN | apply below_drew1) | exact HB.out)) hb); clear HB; have HO227 := n0_; have HB := n1_; clear n0_ n1_; (try clear hb); (try clear hb2); (try clear hk); (try clear hi); (try clear ho0)))
    go_ret2
    exact ⟨by first | rfl | (simp [errW_none, errW_some] <;> rfl) | (simp [*, errW_none, errW_some] <;> rfl), by repeat (first | (with_reducible first | exact HB.out | apply below_alloc | apply pw_below_drewN | apply below_drew1) | exact HB.out)⟩
  · replace c5 := Bool.eq_false_iff.mpr c5
    subst c5
    have H1 : (some (false, false)) = some (r1, r2) := by rw [if_neg (show ¬ (false = true) by decide)] at H; exact H
    clear H
    have H := H1
    clear H1
    simp only [Option.some.injEq, Prod.mk.injEq] at H
    obtain ⟨rfl, rfl⟩ := H
    go_enter Try.func20, Try.ntmps20
    go_wp2_with (first | ((with_reducible refine gate_callee (f := 34) rfl ?_); refine goesL_ (some 12) rfl rfl Try.func34 (by kernel_rfl) rfl #[.int .i64 a0, .int .i64 a1] rfl (by (try simp only [List.map_toArray, List.map_cons, List.map_nil]); first | done | rfl | (simp only [List.length_drop, List.length_take]; rfl)) ?_; (with_reducible refine (impl_areDelayed.calls a0 a1 false _ A4.out).mono ?_); rintro e w' ⟨rfl, ⟨nd, rfl⟩⟩; refine ⟨_, rfl, ?_⟩))
    go_ret2
    exact ⟨by first | rfl | (simp [errW_none, errW_some] <;> rfl) | (simp [*, errW_none, errW_some] <;> rfl), by repeat (first | (with_reducible first | exact HB.out | apply below_alloc | apply pw_below_drewN | apply below_drew1) | exact HB.out)⟩

/-! ### impl_areSent: function 52 -/
def impl_areSent.f (a0 : Int) (a1 : Int) (l2 : List (S36)) : Option (Bool) := (impl_AreSends.f a0 a1 l2).bind fun bt228 => (some bt228.1)
set_option maxHeartbeats 8000000 in
set_option maxRecDepth 100000 in
theorem impl_areSent.calls (a0 : Int) (a1 : Int) (A2 : Option Addr) (c2 : Nat) (l2 : List (S36)) (r : Bool) (w : World) (hr2 : Kd.C k36 w A2 l2.length l2) (hc2 : l2.length ≤ c2) (h : impl_areSent.f a0 a1 l2 = some r) :
    Calls Try.prog 52 #[.int .i64 a0, .int .i64 a1, .slice A2 l2.length c2] w fun e w' => e = .returned (.bool r) ∧ Below w.heap.size w w' := by
  have HR2 := Aside0.mk hr2
  have HC2 := Aside0.mk hc2
  clear hr2 hc2
  have HB := Aside0.mk (Below.refl w.heap.size w)
  have H : ((impl_AreSends.f a0 a1 l2).bind fun bt228 => (some bt228.1)) = some r := h
  clear h
  replace H := Option.bind_eq_some_iff.mp H
  obtain ⟨⟨t228, t229⟩, A40, H⟩ := H
  replace H : (some t228) = some r := H
  have A4 := Aside0.mk A40
  clear A40
  obtain rfl := Option.some.inj H
  go_enter Try.func52, Try.ntmps52
  go_wp2_with (first | ((with_reducible refine gate_callee (f := 20) rfl ?_); refine goesL_ (some 13) rfl rfl Try.func20 (by kernel_rfl) rfl #[.int .i64 a0, .int .i64 a1, .slice A2 l2.length c2] rfl (by (try simp only [List.map_toArray, List.map_cons, List.map_nil]); first | done | rfl | (simp only [List.length_drop, List.length_take]; rfl)) ?_; (with_reducible refine (impl_AreSends.calls a0 a1 _ _ l2 t228 t229 _ ?side1 ?side2 A4.out).mono ?_); (case side1 => repeat (first | exact HR2.out | (with_reducible refine Kd.C_alloc ?_ _) | (with_reducible refine Kd.C_drewN ?_ _) | (with_reducible refine Kd.C_drew ?_))); (case side2 => exact HC2.out); rintro e w5 ⟨rfl, hb⟩; refine ⟨_, rfl, ?_⟩; have n0_ := Aside0.mk (below_step (by repeat (first | (with_reducible first | exact HB.out | apply below_alloc | apply pw_below_drewN | apply below_drew1) | exact HB.out)) hb); clear HB; have HB := n0_; clear n0_; (try clear hb); (try clear hb2); (try clear hk); (try clear hi)))
  go_ret
  exact ⟨by first | rfl | (simp [errW_none, errW_some] <;> rfl) | (simp [*, errW_none, errW_some] <;> rfl), by repeat (first | (with_reducible first | exact HB.out | apply below_alloc | apply pw_below_drewN | apply below_drew1) | exact HB.out)⟩

/-! ### impl_ArrivalsOf: function 45 -/
def impl_ArrivalsOf.f (a0 : Int) (a1 : Int) (l2 : List (S36)) : Option (List Int × Bool) := (impl_areSent.f a0 a1 l2).bind fun t230 => (if t230 = true then ((impl_arrivals.f a0 a1 l2).bind fun bt231 => (some (bt231.1, bt231.2))) else (some (([] : List Int), false)))
set_option maxHeartbeats 8000000 in
set_option maxRecDepth 100000 in
theorem impl_ArrivalsOf.calls (a0 : Int) (a1 : Int) (A2 : Option Addr) (c2 : Nat) (l2 : List (S36)) (r1 : List Int) (r2 : Bool) (w : World) (hr2 : Kd.C k36 w A2 l2.length l2) (hc2 : l2.length ≤ c2) (h : impl_ArrivalsOf.f a0 a1 l2 = some (r1, r2)) :
    Calls Try.prog 45 #[.int .i64 a0, .int .i64 a1, .slice A2 l2.length c2] w fun e w' => ∃ v0_ : Value, e = .returned (.tuple #[v0_, .bool r2]) ∧ Kd.R (Kd.int .i64) 3 w' w.heap.size (fun _ => True) v0_ r1 ∧ Below w.heap.size w w' := by
  have HR2 := Aside0.mk hr2
  have HC2 := Aside0.mk hc2
  clear hr2 hc2
  have HB := Aside0.mk (Below.refl w.heap.size w)
  have H : ((impl_areSent.f a0 a1 l2).bind fun t230 => (if t230 = true then ((impl_arrivals.f a0 a1 l2).bind fun bt231 => (some (bt231.1, bt231.2))) else (some (([] : List Int), false)))) = some (r1, r2) := h
  clear h
  replace H := Option.bind_eq_some_iff.mp H
  obtain ⟨t230, A40, H⟩ := H
  replace H : (if t230 = true then ((impl_arrivals.f a0 a1 l2).bind fun bt231 => (some (bt231.1, bt231.2))) else (some (([] : List Int), false))) = some (r1, r2) := H
  have A4 := Aside0.mk A40
  clear A40
  by_cases c5 : t230 = true
  · subst c5
    have H1 : ((impl_arrivals.f a0 a1 l2).bind fun bt231 => (some (bt231.1, bt231.2))) = some (r1, r2) := by rw [if_pos rfl] at H; exact H
    clear H
    have H := H1
    clear H1
    replace H := Option.bind_eq_some_iff.mp H
    obtain ⟨⟨t231, t232⟩, A60, H⟩ := H
    replace H : (some (t231, t232)) = some (r1, r2) := H
    have A6 := Aside0.mk A60
    clear A60
    simp only [Option.some.injEq, Prod.mk.injEq] at H
    obtain ⟨rfl, rfl⟩ := H
    go_enter Try.func45, Try.ntmps45
    go_wp2_with (first | ((with_reducible refine gate_callee (f := 52) rfl ?_); refine goesL_ (some 11) rfl rfl Try.func52 (by kernel_rfl) rfl #[.int .i64 a0, .int .i64 a1, .slice A2 l2.length c2] rfl (by (try simp only [List.map_toArray, List.map_cons, List.map_nil]); first | done | rfl | (simp only [List.length_drop, List.length_take]; rfl)) ?_; (with_reducible refine (impl_areSent.calls a0 a1 _ _ l2 true _ ?side1 ?side2 A4.out).mono ?_); (case side1 => repeat (first | exact HR2.out | (with_reducible refine Kd.C_alloc ?_ _) | (with_reducible refine Kd.C_drewN ?_ _) | (with_reducible refine Kd.C_drew ?_))); (case side2 => exact HC2.out); rintro e w7 ⟨rfl, hb⟩; refine ⟨_, rfl, ?_⟩; have n0_ := Aside0.mk (below_step (by repeat (first | (with_reducible first | exact HB.out | apply below_alloc | apply pw_below_drewN | apply below_drew1) | exact HB.out)) hb); clear HB; have HB := n0_; clear n0_; (try clear hb); (try clear hb2); (try clear hk); (try clear hi)) | ((with_reducible refine gate_callee (f := 38) rfl ?_); refine goesL_ (some 16) rfl rfl Try.func38 (by kernel_rfl) rfl #[.int .i64 a0, .int .i64 a1, .slice A2 l2.length c2] rfl (by (try simp only [List.map_toArray, List.map_cons, List.map_nil]); first | done | rfl | (simp only [List.length_drop, List.length_take]; rfl)) ?_; (with_reducible refine (impl_arrivals.calls a0 a1 _ _ l2 t231 t232 _ ?side1 ?side2 A6.out).mono ?_); (case side1 => repeat (first | exact (Kd.C_below HR2.out HB.out) | (with_reducible refine Kd.C_alloc ?_ _) | (with_reducible refine Kd.C_drewN ?_ _) | (with_reducible refine Kd.C_drew ?_))); (case side2 => exact HC2.out); rintro e w8 ⟨v233, rfl, ho0, hb⟩; refine ⟨_, rfl, ?_⟩; have n0_ := Aside0.mk (Kd.R_lower ho0 (below_size (by repeat (first | (with_reducible first | exact HB.out | apply below_alloc | apply pw_below_drewN | apply below_drew1) | exact HB.out)))); have n1_ := Aside0.mk (below_step (by repeat (first | (with_reducible first | exact HB.out | apply below_alloc | apply pw_below_drewN | apply below_drew1) | exact HB.out)) hb); clear HB; have HO234 := n0_; have HB := n1_; clear n0_ n1_; (try clear hb); (try clear hb2); (try clear hk); (try clear hi); (try clear ho0)))
    go_ret2
    exact ⟨_, by first | rfl | (simp [errW_none, errW_some] <;> rfl) | (simp [*, errW_none, errW_some] <;> rfl), by (with_reducible repeat (first | apply Kd.R_alloc | apply Kd.R_drewN | apply Kd.R_drew)); exact HO234.out, by repeat (first | (with_reducible first | exact HB.out | apply below_alloc | apply pw_below_drewN | apply below_drew1) | exact HB.out)⟩
  · replace c5 := Bool.eq_false_iff.mpr c5
    subst c5
    have H1 : (some (([] : List Int), false)) = some (r1, r2) := by rw [if_neg (show ¬ (false = true) by decide)] at H; exact H
    clear H
    have H := H1
    clear H1
    simp only [Option.some.injEq, Prod.mk.injEq] at H
    obtain ⟨rfl, rfl⟩ := H
    go_enter Try.func45, Try.ntmps45
    go_wp2_with (first | ((with_reducible refine gate_callee (f := 52) rfl ?_); refine goesL_ (some 11) rfl rfl Try.func52 (by kernel_rfl) rfl #[.int .i64 a0, .int .i64 a1, .slice A2 l2.length c2] rfl (by (try simp only [List.map_toArray, List.map_cons, List.map_nil]); first | done | rfl | (simp only [List.length_drop, List.length_take]; rfl)) ?_; (with_reducible refine (impl_areSent.calls a0 a1 _ _ l2 false _ ?side1 ?side2 A4.out).mono ?_); (case side1 => repeat (first | exact HR2.out | (with_reducible refine Kd.C_alloc ?_ _) | (with_reducible refine Kd.C_drewN ?_ _) | (with_reducible refine Kd.C_drew ?_))); (case side2 => exact HC2.out); rintro e w9 ⟨rfl, hb⟩; refine ⟨_, rfl, ?_⟩; have n0_ := Aside0.mk (below_step (by repeat (first | (with_reducible first | exact HB.out | apply below_alloc | apply pw_below_drewN | apply below_drew1) | exact HB.out)) hb); clear HB; have HB := n0_; clear n0_; (try clear hb); (try clear hb2); (try clear hk); (try clear hi)))
    go_ret2
    exact ⟨_, by first | rfl | (simp [errW_none, errW_some] <;> rfl) | (simp [*, errW_none, errW_some] <;> rfl), by first | exact Kd.R_nil _ _ _ _ _ | exact Kd.N_nil _ _ _ _ _ | exact Kd.V_nil _ _ _ _ _ | exact Kd.Q_nil _ _ _ _ _ | exact Kd.S_nil _ _ _ _ _, by repeat (first | (with_reducible first | exact HB.out | apply below_alloc | apply pw_below_drewN | apply below_drew1) | exact HB.out)⟩

/-! ### slices_Index_int_int: function 53 -/
def slices_Index_int_int.l0 : Nat → List Int → Int → Int → Int → Option (Int)
  | 0, _, _, _, _ => none
  | k + 1, x0, x1, x7, x8 => if x8 < x7 then (if 0 ≤ x8 then (if x8 < (x0.length : Int) then (if x1 = (rd x0 x8) then (some x8) else (slices_Index_int_int.l0 k x0 x1 x7 (wrap64 (x8 + 1)))) else (none)) else (none)) else (some (-1))
def slices_Index_int_int.f (k : Nat) (l0 : List Int) (a1 : Int) : Option (Int) := slices_Index_int_int.l0 k l0 a1 (l0.length : Int) 0
theorem slices_Index_int_int.mono_l : ∀ k, (∀ y0 y1 y2 y3, LeO (slices_Index_int_int.l0 k y0 y1 y2 y3) (slices_Index_int_int.l0 (k + 1) y0 y1 y2 y3))
  | 0 => fun _ _ _ _ r h => by simp [slices_Index_int_int.l0] at h
  | k + 1 => by
    have ih0 := slices_Index_int_int.mono_l k
    · intro y0 y1 y2 y3
      unfold slices_Index_int_int.l0
      repeat' first
      | (with_reducible exact ih0 _ _ _ _)
      | (with_reducible exact LeO.refl _)
      | (with_reducible exact LeO.none _)
      | (with_reducible refine LeO.ite ?_ ?_)
      | (with_reducible refine LeO.bind ?_ (fun _ => ?_))
      | exact ih0 _ _ _ _
      | exact LeO.none _
      | refine LeO.ite ?_ ?_
      | refine LeO.bind ?_ (fun _ => ?_)
theorem slices_Index_int_int.mono : ∀ a0 a1 k, LeO (slices_Index_int_int.f k a0 a1) (slices_Index_int_int.f (k + 1) a0 a1) := by
  intro a0 a1 k
  have ih0 := slices_Index_int_int.mono_l k
  unfold slices_Index_int_int.f
  repeat' first
      | (with_reducible exact ih0 _ _ _ _)
      | (with_reducible exact LeO.refl _)
      | (with_reducible exact LeO.none _)
      | (with_reducible refine LeO.ite ?_ ?_)
      | (with_reducible refine LeO.bind ?_ (fun _ => ?_))
      | exact ih0 _ _ _ _
      | exact LeO.none _
      | refine LeO.ite ?_ ?_
      | refine LeO.bind ?_ (fun _ => ?_)
set_option maxHeartbeats 8000000 in
set_option maxRecDepth 100000 in
theorem slices_Index_int_int.calls (k : Nat) (A0 : Option Addr) (c0 : Nat) (l0 : List Int) (a1 : Int) (r : Int) (w : World) (hr0 : Kd.C (Kd.int .i64) w A0 l0.length l0) (hc0 : l0.length ≤ c0) (h : slices_Index_int_int.f k l0 a1 = some r) :
    Calls Try.prog 53 #[.slice A0 l0.length c0, .int .i64 a1] w fun e w' => e = .returned (.int .i64 r) ∧ Drawn0 w w' := by
  have HR0 := Aside0.mk hr0
  have HC0 := Aside0.mk hc0
  clear hr0 hc0
  have H : (slices_Index_int_int.l0 k l0 a1 (l0.length : Int) 0) = some r := h
  clear h
  have H' := Aside0.mk H
  clear H
  go_enter Try.func53, Try.ntmps53
  go_wp2
  go_loopg [8] k (fun kq v8 w' => ∃ (x8_1 : Int), v8 = .int .i64 x8_1 ∧ Aside0 (slices_Index_int_int.l0 kq l0 a1 (l0.length : Int) x8_1 = some r) ∧ Aside0 (kq ≤ k) ∧ Drawn0 w w')
  case atStart => exact ⟨(0), (by first | rfl | (simp; done) | (simp [*]; done)), H', ⟨Nat.le_refl _⟩, by repeat (first | exact Drawn0.refl _ | apply Drawn0.step)⟩
  case round =>
    clear H'
    try clear p2
    obtain ⟨x8_1, rfl, HA, HK1, ⟨m1, rfl⟩⟩ := hrel
    cases gk with
    | zero => exact absurd HA.out (by simp [slices_Index_int_int.l0])
    | succ k1 =>
      have H := HA.out
      clear HA
      simp only [slices_Index_int_int.l0] at H
      by_cases c3 : x8_1 < (l0.length : Int)
      · rw [if_pos c3] at H
        have c3b0 : decide (x8_1 < (l0.length : Int)) = true := decide_eq_true c3
        clear c3
        by_cases c4 : 0 ≤ x8_1
        · rw [if_pos c4] at H
          have c4b0 : decide (0 ≤ x8_1) = true := decide_eq_true c4
          clear c4
          by_cases c5 : x8_1 < (l0.length : Int)
          · rw [if_pos c5] at H
            have c5b0 : decide (x8_1 < (l0.length : Int)) = true := decide_eq_true c5
            clear c5
            by_cases c6 : a1 = (rd l0 x8_1)
            · rw [if_pos c6] at H
              have c6b0 : (a1 == (rd l0 x8_1)) = true := beq_iff_eq.mpr c6
              have c6b1 : (a1 != (rd l0 x8_1)) = false := bne_eq_false_iff_eq.mpr c6
              clear c6
              obtain rfl := Option.some.inj H
              have p235 : 0 ≤ (x8_1 : Int) := of_decide_eq_true (by first | (with_reducible assumption) | assumption)
              have q235 : x8_1 < (l0.length : Int) := of_decide_eq_true (by first | (with_reducible assumption) | assumption)
              obtain ⟨ad235, e235, hx235_0⟩ := Kd.at_int HR0.out x8_1 p235 q235
              cases e235
              replace p235 := eq_true p235
              replace q235 := eq_true q235
              go_wp2
              go_ret
              exact ⟨by first | rfl | (simp; done) | (simp [*]; done), by repeat (first | exact Drawn0.refl _ | apply Drawn0.step)⟩
            · rw [if_neg c6] at H
              have c6b0 : (a1 == (rd l0 x8_1)) = false := beq_eq_false_iff_ne.mpr c6
              have c6b1 : (a1 != (rd l0 x8_1)) = true := bne_iff_ne.mpr c6
              have H' := Aside0.mk H
              clear H
              have p235 : 0 ≤ (x8_1 : Int) := of_decide_eq_true (by first | (with_reducible assumption) | assumption)
              have q235 : x8_1 < (l0.length : Int) := of_decide_eq_true (by first | (with_reducible assumption) | assumption)
              obtain ⟨ad235, e235, hx235_0⟩ := Kd.at_int HR0.out x8_1 p235 q235
              cases e235
              replace p235 := eq_true p235
              replace q235 := eq_true q235
              go_wp2
              go_roundg k1
              case measure => have := HK1.out; omega
              case rel => exact ⟨(wrap64 (x8_1 + 1)), (by first | rfl | (simp; done) | (simp [*]; done)), H', ⟨by have := HK1.out; omega⟩, by repeat (first | exact Drawn0.refl _ | apply Drawn0.step)⟩
          · rw [if_neg c5] at H
            first | exact absurd (beq_iff_eq.mp c3b0) c5 | exact absurd (of_decide_eq_true c3b0) c5
        · rw [if_neg c4] at H
          exact absurd H (by simp)
      · rw [if_neg c3] at H
        have c3b0 : decide (x8_1 < (l0.length : Int)) = false := decide_eq_false c3
        clear c3
        obtain rfl := Option.some.inj H
        go_wp2
        go_ret
        exact ⟨by first | rfl | (simp; done) | (simp [*]; done), by repeat (first | exact Drawn0.refl _ | apply Drawn0.step)⟩

end Go.Proofs.Ytjkjdlpmbpgjgaa.PFnNewsDelayed
