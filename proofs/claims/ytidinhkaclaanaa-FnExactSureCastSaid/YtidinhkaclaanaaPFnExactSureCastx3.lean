/- Printed by a program of this session (wip/pp) over the kit's print, for FnExactSureCast. No conditions beyond those that each theorem names. -/
import Derived.Test.YtidinhkaclaanaaPFnExactSureCastx0
import Derived.Test.YtidinhkaclaanaaPFnExactSureCastx2
namespace Go.Proofs.Ytidinhkaclaanaa.PFnExactSureCast
open Go.RowKit Go.Proofs.YtidinhkaclaanaaW.PrintWords Go.Proofs.YtidinhkaclaanaaW.PrintLast Go.Proofs.YtidinhkaclaanaaW.PrintMore
attribute [local go_sem] max2_int min2_int max_two min_two max_three min_three max_four min_four   -- for this text's walks alone
set_option linter.unusedVariables false
set_option linter.unusedSimpArgs false

/-! ### spec_SureCast: function 20 -/
mutual
def spec_SureCast.l0 : Nat → Int → List ByteArray → ByteArray → Int → Option (ByteArray × Bool)
  | 0, _, _, _, _ => none
  | k + 1, x0, x6, x7, x8 => if x8 < x0 then (if 0 < (x6.length : Int) then (if 0 ≤ x8 then (if x8 ≤ (wrap64 (x8 + 1)) then (if (wrap64 (x8 + 1)) ≤ ((rdOf ByteArray.empty x6 0).size : Int) then (spec_SureCast.l1 k x0 x6 x7 x8 ((rdOf ByteArray.empty x6 0).extract (x8 : Int).toNat ((wrap64 (x8 + 1)) : Int).toNat) x6 (x6.length : Int) 0) else (none)) else (none)) else (none)) else (none)) else (some (x7, true))
def spec_SureCast.l1 : Nat → Int → List ByteArray → ByteArray → Int → ByteArray → List ByteArray → Int → Int → Option (ByteArray × Bool)
  | 0, _, _, _, _, _, _, _, _ => none
  | k + 1, x0, x6, x7, x8, x9, x34, x35, x36 => if x36 < x35 then (if 0 ≤ x36 then (if x36 < (x34.length : Int) then (if 0 ≤ x8 then (if x8 ≤ (wrap64 (x8 + 1)) then (if (wrap64 (x8 + 1)) ≤ ((rdOf ByteArray.empty x34 x36).size : Int) then (if ((rdOf ByteArray.empty x34 x36).extract (x8 : Int).toNat ((wrap64 (x8 + 1)) : Int).toNat).toList = x9.toList then (spec_SureCast.l1 k x0 x6 x7 x8 x9 x34 x35 (wrap64 (x36 + 1))) else (if x7.size + 1 ≤ 9223372036854775807 then (spec_SureCast.l0 k x0 x6 (x7 ++ (⟨#[63]⟩ : ByteArray)) (wrap64 (x8 + 1))) else (none))) else (none)) else (none)) else (none)) else (none)) else (none)) else (if x7.size + x9.size ≤ 9223372036854775807 then (spec_SureCast.l0 k x0 x6 (x7 ++ x9) (wrap64 (x8 + 1))) else (none))
end
def spec_SureCast.f (k : Nat) (a0 : Int) (l1 : List (S55)) : Option (ByteArray × Bool) := (spec_liGood.f k a0 l1).bind fun t130 => (if t130 = true then ((spec_liAll.f k a0 l1).bind fun t131 => (if (t131.length : Int) = 0 then (some ((⟨#[]⟩ : ByteArray), false)) else (spec_SureCast.l0 k a0 t131 (⟨#[]⟩ : ByteArray) 0))) else (some ((⟨#[]⟩ : ByteArray), false)))
theorem spec_SureCast.mono_l : ∀ k, (∀ y0 y1 y2 y3, LeO (spec_SureCast.l0 k y0 y1 y2 y3) (spec_SureCast.l0 (k + 1) y0 y1 y2 y3)) ∧ (∀ y0 y1 y2 y3 y4 y5 y6 y7, LeO (spec_SureCast.l1 k y0 y1 y2 y3 y4 y5 y6 y7) (spec_SureCast.l1 (k + 1) y0 y1 y2 y3 y4 y5 y6 y7))
  | 0 => ⟨fun _ _ _ _ r h => by simp [spec_SureCast.l0] at h, fun _ _ _ _ _ _ _ _ r h => by simp [spec_SureCast.l1] at h⟩
  | k + 1 => by
    obtain ⟨ih0, ih1⟩ := spec_SureCast.mono_l k
    refine ⟨?_, ?_⟩
    · intro y0 y1 y2 y3
      unfold spec_SureCast.l0
      repeat' first
      | (with_reducible exact ih0 _ _ _ _)
      | (with_reducible exact ih1 _ _ _ _ _ _ _ _)
      | (with_reducible exact spec_liAll.mono _ _ _)
      | (with_reducible exact spec_liGood.mono _ _ _)
      | (with_reducible exact LeO.refl _)
      | (with_reducible exact LeO.none _)
      | (with_reducible refine LeO.ite ?_ ?_)
      | (with_reducible refine LeO.bind ?_ (fun _ => ?_))
      | exact ih0 _ _ _ _
      | exact ih1 _ _ _ _ _ _ _ _
      | exact spec_liAll.mono _ _ _
      | exact spec_liGood.mono _ _ _
      | exact LeO.none _
      | refine LeO.ite ?_ ?_
      | refine LeO.bind ?_ (fun _ => ?_)
    · intro y0 y1 y2 y3 y4 y5 y6 y7
      unfold spec_SureCast.l1
      repeat' first
      | (with_reducible exact ih0 _ _ _ _)
      | (with_reducible exact ih1 _ _ _ _ _ _ _ _)
      | (with_reducible exact spec_liAll.mono _ _ _)
      | (with_reducible exact spec_liGood.mono _ _ _)
      | (with_reducible exact LeO.refl _)
      | (with_reducible exact LeO.none _)
      | (with_reducible refine LeO.ite ?_ ?_)
      | (with_reducible refine LeO.bind ?_ (fun _ => ?_))
      | exact ih0 _ _ _ _
      | exact ih1 _ _ _ _ _ _ _ _
      | exact spec_liAll.mono _ _ _
      | exact spec_liGood.mono _ _ _
      | exact LeO.none _
      | refine LeO.ite ?_ ?_
      | refine LeO.bind ?_ (fun _ => ?_)
theorem spec_SureCast.mono : ∀ a0 a1 k, LeO (spec_SureCast.f k a0 a1) (spec_SureCast.f (k + 1) a0 a1) := by
  intro a0 a1 k
  obtain ⟨ih0, ih1⟩ := spec_SureCast.mono_l k
  unfold spec_SureCast.f
  repeat' first
      | (with_reducible exact ih0 _ _ _ _)
      | (with_reducible exact ih1 _ _ _ _ _ _ _ _)
      | (with_reducible exact spec_liAll.mono _ _ _)
      | (with_reducible exact spec_liGood.mono _ _ _)
      | (with_reducible exact LeO.refl _)
      | (with_reducible exact LeO.none _)
      | (with_reducible refine LeO.ite ?_ ?_)
      | (with_reducible refine LeO.bind ?_ (fun _ => ?_))
      | exact ih0 _ _ _ _
      | exact ih1 _ _ _ _ _ _ _ _
      | exact spec_liAll.mono _ _ _
      | exact spec_liGood.mono _ _ _
      | exact LeO.none _
      | refine LeO.ite ?_ ?_
      | refine LeO.bind ?_ (fun _ => ?_)
set_option maxHeartbeats 8000000 in
set_option maxRecDepth 100000 in
theorem spec_SureCast.calls (k : Nat) (a0 : Int) (A1 : Option Addr) (c1 : Nat) (l1 : List (S55)) (r1 : ByteArray) (r2 : Bool) (w : World) (hr1 : Kd.C k55 w A1 l1.length l1) (hc1 : l1.length ≤ c1) (h : spec_SureCast.f k a0 l1 = some (r1, r2)) :
    Calls Try.prog 20 #[.int .i64 a0, .slice A1 l1.length c1] w fun e w' => e = .returned (.tuple #[.string r1, .bool r2]) ∧ Below w.heap.size w w' := by
  have HR1 := Aside0.mk hr1
  have HC1 := Aside0.mk hc1
  clear hr1 hc1
  have HB := Aside0.mk (Below.refl w.heap.size w)
  have H : ((spec_liGood.f k a0 l1).bind fun t130 => (if t130 = true then ((spec_liAll.f k a0 l1).bind fun t131 => (if (t131.length : Int) = 0 then (some ((⟨#[]⟩ : ByteArray), false)) else (spec_SureCast.l0 k a0 t131 (⟨#[]⟩ : ByteArray) 0))) else (some ((⟨#[]⟩ : ByteArray), false)))) = some (r1, r2) := h
  clear h
  replace H := Option.bind_eq_some_iff.mp H
  obtain ⟨t130, A30, H⟩ := H
  replace H : (if t130 = true then ((spec_liAll.f k a0 l1).bind fun t131 => (if (t131.length : Int) = 0 then (some ((⟨#[]⟩ : ByteArray), false)) else (spec_SureCast.l0 k a0 t131 (⟨#[]⟩ : ByteArray) 0))) else (some ((⟨#[]⟩ : ByteArray), false))) = some (r1, r2) := H
  have A3 := Aside0.mk A30
  clear A30
  by_cases c4 : t130 = true
  · subst c4
    have H1 : ((spec_liAll.f k a0 l1).bind fun t131 => (if (t131.length : Int) = 0 then (some ((⟨#[]⟩ : ByteArray), false)) else (spec_SureCast.l0 k a0 t131 (⟨#[]⟩ : ByteArray) 0))) = some (r1, r2) := by rw [if_pos rfl] at H; exact H
    clear H
    have H := H1
    clear H1
    replace H := Option.bind_eq_some_iff.mp H
    obtain ⟨t131, A50, H⟩ := H
    replace H : (if (t131.length : Int) = 0 then (some ((⟨#[]⟩ : ByteArray), false)) else (spec_SureCast.l0 k a0 t131 (⟨#[]⟩ : ByteArray) 0)) = some (r1, r2) := H
    have A5 := Aside0.mk A50
    clear A50
    by_cases c6 : (t131.length : Int) = 0
    · rw [if_pos c6] at H
      have c6b0 : ((t131.length : Int) == 0) = true := beq_iff_eq.mpr c6
      have c6b1 : ((t131.length : Int) != 0) = false := bne_eq_false_iff_eq.mpr c6
      clear c6
      simp only [Option.some.injEq, Prod.mk.injEq] at H
      obtain ⟨rfl, rfl⟩ := H
      go_enter Try.func20, Try.ntmps20
      go_wp2_with (first | ((with_reducible refine gate_callee (f := 46) rfl ?_); refine goesL_ (some 14) rfl rfl Try.func46 (by kernel_rfl) rfl #[.int .i64 a0, .slice A1 l1.length c1] rfl (by (try simp only [List.map_toArray, List.map_cons, List.map_nil]); first | done | rfl | (simp only [List.length_drop, List.length_take]; rfl)) ?_; (with_reducible refine (spec_liGood.calls k a0 _ _ l1 true _ ?side1 ?side2 A3.out).mono ?_); (case side1 => repeat (first | exact HR1.out | (with_reducible refine Kd.C_alloc ?_ _) | (with_reducible refine Kd.C_drewN ?_ _) | (with_reducible refine Kd.C_drew ?_))); (case side2 => exact HC1.out); rintro e w7 ⟨rfl, hb⟩; refine ⟨_, rfl, ?_⟩; have n0_ := Aside0.mk (below_step (by repeat (first | (with_reducible first | exact HB.out | apply below_alloc | apply pw_below_drewN | apply below_drew1) | exact HB.out)) hb); clear HB; have HB := n0_; clear n0_; (try clear hb); (try clear hb2); (try clear hk); (try clear hi)) | ((with_reducible refine gate_callee (f := 47) rfl ?_); refine goesL_ (some 18) rfl rfl Try.func47 (by kernel_rfl) rfl #[.int .i64 a0, .slice A1 l1.length c1] rfl (by (try simp only [List.map_toArray, List.map_cons, List.map_nil]); first | done | rfl | (simp only [List.length_drop, List.length_take]; rfl)) ?_; (with_reducible refine (spec_liAll.calls k a0 _ _ l1 t131 _ ?side1 ?side2 A5.out).mono ?_); (case side1 => repeat (first | exact (Kd.C_below HR1.out HB.out) | (with_reducible refine Kd.C_alloc ?_ _) | (with_reducible refine Kd.C_drewN ?_ _) | (with_reducible refine Kd.C_drew ?_))); (case side2 => exact HC1.out); rintro e w8 ⟨v132, rfl, ho0, hb⟩; refine ⟨_, rfl, ?_⟩; have n0_ := Aside0.mk (Kd.R_lower ho0 (below_size (by repeat (first | (with_reducible first | exact HB.out | apply below_alloc | apply pw_below_drewN | apply below_drew1) | exact HB.out)))); have n1_ := Aside0.mk (below_step (by repeat (first | (with_reducible first | exact HB.out | apply below_alloc | apply pw_below_drewN | apply below_drew1) | exact HB.out)) hb); clear HB; have HO133 := n0_; have HB := n1_; clear n0_ n1_; (try clear hb); (try clear hb2); (try clear hk); (try clear hi); (try clear ho0); obtain ⟨Ao9, co9, eo9⟩ := Kd.R_slice HO133.out; subst eo9))
      go_ret2
      exact ⟨by first | rfl | (simp [errW_none, errW_some] <;> rfl) | (simp [*, errW_none, errW_some] <;> rfl), by repeat (first | (with_reducible first | exact HB.out | apply below_alloc | apply pw_below_drewN | apply below_drew1) | exact HB.out)⟩
    · rw [if_neg c6] at H
      have c6b0 : ((t131.length : Int) == 0) = false := beq_eq_false_iff_ne.mpr c6
      have c6b1 : ((t131.length : Int) != 0) = true := bne_iff_ne.mpr c6
      have c6b2 : ¬ (t131 = []) := fun h_ => c6 (by rw [h_]; rfl)
      have H' := Aside0.mk H
      clear H
      go_enter Try.func20, Try.ntmps20
      go_wp2_with (first | ((with_reducible refine gate_callee (f := 46) rfl ?_); refine goesL_ (some 14) rfl rfl Try.func46 (by kernel_rfl) rfl #[.int .i64 a0, .slice A1 l1.length c1] rfl (by (try simp only [List.map_toArray, List.map_cons, List.map_nil]); first | done | rfl | (simp only [List.length_drop, List.length_take]; rfl)) ?_; (with_reducible refine (spec_liGood.calls k a0 _ _ l1 true _ ?side1 ?side2 A3.out).mono ?_); (case side1 => repeat (first | exact HR1.out | (with_reducible refine Kd.C_alloc ?_ _) | (with_reducible refine Kd.C_drewN ?_ _) | (with_reducible refine Kd.C_drew ?_))); (case side2 => exact HC1.out); rintro e w10 ⟨rfl, hb⟩; refine ⟨_, rfl, ?_⟩; have n0_ := Aside0.mk (below_step (by repeat (first | (with_reducible first | exact HB.out | apply below_alloc | apply pw_below_drewN | apply below_drew1) | exact HB.out)) hb); clear HB; have HB := n0_; clear n0_; (try clear hb); (try clear hb2); (try clear hk); (try clear hi)) | ((with_reducible refine gate_callee (f := 47) rfl ?_); refine goesL_ (some 18) rfl rfl Try.func47 (by kernel_rfl) rfl #[.int .i64 a0, .slice A1 l1.length c1] rfl (by (try simp only [List.map_toArray, List.map_cons, List.map_nil]); first | done | rfl | (simp only [List.length_drop, List.length_take]; rfl)) ?_; (with_reducible refine (spec_liAll.calls k a0 _ _ l1 t131 _ ?side1 ?side2 A5.out).mono ?_); (case side1 => repeat (first | exact (Kd.C_below HR1.out HB.out) | (with_reducible refine Kd.C_alloc ?_ _) | (with_reducible refine Kd.C_drewN ?_ _) | (with_reducible refine Kd.C_drew ?_))); (case side2 => exact HC1.out); rintro e w11 ⟨v132, rfl, ho0, hb⟩; refine ⟨_, rfl, ?_⟩; have n0_ := Aside0.mk (Kd.R_lower ho0 (below_size (by repeat (first | (with_reducible first | exact HB.out | apply below_alloc | apply pw_below_drewN | apply below_drew1) | exact HB.out)))); have n1_ := Aside0.mk (below_step (by repeat (first | (with_reducible first | exact HB.out | apply below_alloc | apply pw_below_drewN | apply below_drew1) | exact HB.out)) hb); clear HB; have HO133 := n0_; have HB := n1_; clear n0_ n1_; (try clear hb); (try clear hb2); (try clear hk); (try clear hi); (try clear ho0); obtain ⟨Ao12, co12, eo12⟩ := Kd.R_slice HO133.out; subst eo12))
      go_loopg [7, 8] k (fun kq v7 v8 w' => ∃ (x7_1 : ByteArray) (x8_1 : Int), v7 = .string x7_1 ∧ v8 = .int .i64 x8_1 ∧ Aside0 (spec_SureCast.l0 kq a0 t131 x7_1 x8_1 = some (r1, r2)) ∧ Aside0 (kq ≤ k) ∧ Aside0 (Kd.R Kd.string 9 w' w.heap.size (fun _ => True) (.slice Ao12 t131.length co12) t131) ∧ Aside0 (Below w.heap.size w w'))
      case atStart => exact ⟨((⟨#[]⟩ : ByteArray)), (0), (by first | rfl | (simp; done) | (simp [*]; done)), (by first | rfl | (simp; done) | (simp [*]; done)), H', ⟨Nat.le_refl _⟩, ⟨by (with_reducible repeat (first | apply Kd.R_alloc | apply Kd.R_drewN | apply Kd.R_drew)); exact HO133.out⟩, ⟨by repeat (first | (with_reducible first | exact HB.out | apply below_alloc | apply pw_below_drewN | apply below_drew1) | exact HB.out)⟩⟩
      case round =>
        clear H'
        try clear c1
        try clear c2
        try clear p2
        try clear c4
        try clear c6
        try clear c6b0
        try clear c6b1
        try clear c6b2
        obtain ⟨x7_1, x8_1, rfl, rfl, HA, HK1, HO_6, HB⟩ := hrel
        cases gk with
        | zero => exact absurd HA.out (by simp [spec_SureCast.l0])
        | succ k1 =>
          have H := HA.out
          clear HA
          simp only [spec_SureCast.l0] at H
          by_cases c13 : x8_1 < a0
          · rw [if_pos c13] at H
            have c13b0 : decide (x8_1 < a0) = true := decide_eq_true c13
            clear c13
            by_cases c14 : 0 < (t131.length : Int)
            · rw [if_pos c14] at H
              have c14b0 : decide (0 < (t131.length : Int)) = true := decide_eq_true c14
              have c14b1 : decide (0 < t131.length) = true := decide_eq_true (by omega)
              clear c14
              by_cases c15 : 0 ≤ x8_1
              · rw [if_pos c15] at H
                have c15b0 := eq_true c15
                have c15b1 : decide (0 ≤ x8_1) = true := decide_eq_true c15
                clear c15
                by_cases c16 : x8_1 ≤ (wrap64 (x8_1 + 1))
                · rw [if_pos c16] at H
                  have c16b0 := eq_true c16
                  have c16b1 : decide (x8_1 ≤ (wrap64 (x8_1 + 1))) = true := decide_eq_true c16
                  by_cases c17 : (wrap64 (x8_1 + 1)) ≤ ((rdOf ByteArray.empty t131 0).size : Int)
                  · rw [if_pos c17] at H
                    have c17b0 := eq_true c17
                    have c17b1 : decide ((wrap64 (x8_1 + 1)) ≤ ((rdOf ByteArray.empty t131 0).size : Int)) = true := decide_eq_true c17
                    have H' := Aside0.mk H
                    clear H
                    have p134 : 0 ≤ (0 : Int) := (by omega)
                    have q134 : 0 < (t131.length : Int) := of_decide_eq_true (by first | (with_reducible assumption) | assumption)
                    obtain ⟨ad134, e134, hx134_0⟩ := Kd.at_string (Kd.R_reads' HO_6.out).2.2 0 p134 q134
                    cases e134
                    have qi134 : (0 < t131.length) = True := eq_true (by omega)
                    (try rw [show ((0 : Int)).toNat = 0 from rfl] at hx134_0)
                    (try rw [Addr.add_zero'] at hx134_0)
                    replace p134 := eq_true p134
                    replace q134 := eq_true q134
                    go_wp2
                    go_loopg [9, 36] k1 (fun kq v9 v36 w' => ∃ (x9_2 : ByteArray) (x36_2 : Int), v9 = .string x9_2 ∧ v36 = .int .i64 x36_2 ∧ Aside0 (spec_SureCast.l1 kq a0 t131 x7_1 x8_1 x9_2 t131 (t131.length : Int) x36_2 = some (r1, r2)) ∧ Aside0 (kq ≤ k1) ∧ Aside0 (Kd.R Kd.string 9 w' w.heap.size (fun _ => True) (.slice (some ad134) t131.length co12) t131) ∧ Aside0 (Kd.R Kd.string 9 w' w.heap.size (fun _ => True) (.slice (some ad134) t131.length co12) t131) ∧ Aside0 (Below w.heap.size w w'))
                    case atStart => exact ⟨((rdOf ByteArray.empty t131 0).extract (x8_1 : Int).toNat ((wrap64 (x8_1 + 1)) : Int).toNat), (0), (by first | rfl | (simp; done) | (simp [*]; done)), (by first | rfl | (simp; done) | (simp [*]; done)), H', ⟨Nat.le_refl _⟩, ⟨by (with_reducible repeat (first | apply Kd.R_alloc | apply Kd.R_drewN | apply Kd.R_drew)); exact HO_6.out⟩, ⟨by (with_reducible repeat (first | apply Kd.R_alloc | apply Kd.R_drewN | apply Kd.R_drew)); exact HO_6.out⟩, ⟨by repeat (first | (with_reducible first | exact HB.out | apply below_alloc | apply pw_below_drewN | apply below_drew1) | exact HB.out)⟩⟩
                    case round =>
                      clear H'
                      try clear c1
                      try clear p1
                      try clear q1
                      try clear hx1
                      try clear qi1
                      try clear c2
                      try clear p2
                      try clear c4
                      try clear c6
                      try clear c6b0
                      try clear c6b1
                      try clear c6b2
                      try clear p6
                      try clear c13
                      try clear c13b0
                      try clear p13
                      try clear q13
                      try clear hx13
                      try clear qi13
                      try clear c14
                      try clear c14b0
                      try clear c14b1
                      try clear c15
                      try clear c15b0
                      try clear c15b1
                      try clear c16
                      try clear c16b0
                      try clear c16b1
                      try clear c17
                      try clear c17b0
                      try clear c17b1
                      try clear hx134_0
                      try clear p134
                      try clear p2
                      try clear q134
                      obtain ⟨x9_2, x36_2, rfl, rfl, HA, HK2, HO_6, HO_34, HB⟩ := hrel
                      cases gk with
                      | zero => exact absurd HA.out (by simp [spec_SureCast.l1])
                      | succ k2 =>
                        have H := HA.out
                        clear HA
                        simp only [spec_SureCast.l1] at H
                        by_cases c18 : x36_2 < (t131.length : Int)
                        · rw [if_pos c18] at H
                          have c18b0 : decide (x36_2 < (t131.length : Int)) = true := decide_eq_true c18
                          clear c18
                          by_cases c19 : 0 ≤ x36_2
                          · rw [if_pos c19] at H
                            have c19b0 : decide (0 ≤ x36_2) = true := decide_eq_true c19
                            clear c19
                            by_cases c20 : x36_2 < (t131.length : Int)
                            · rw [if_pos c20] at H
                              have c20b0 : decide (x36_2 < (t131.length : Int)) = true := decide_eq_true c20
                              clear c20
                              by_cases c21 : 0 ≤ x8_1
                              · rw [if_pos c21] at H
                                have c21b0 := eq_true c21
                                have c21b1 : decide (0 ≤ x8_1) = true := decide_eq_true c21
                                clear c21
                                by_cases c22 : x8_1 ≤ (wrap64 (x8_1 + 1))
                                · rw [if_pos c22] at H
                                  have c22b0 := eq_true c22
                                  have c22b1 : decide (x8_1 ≤ (wrap64 (x8_1 + 1))) = true := decide_eq_true c22
                                  by_cases c23 : (wrap64 (x8_1 + 1)) ≤ ((rdOf ByteArray.empty t131 x36_2).size : Int)
                                  · rw [if_pos c23] at H
                                    have c23b0 := eq_true c23
                                    have c23b1 : decide ((wrap64 (x8_1 + 1)) ≤ ((rdOf ByteArray.empty t131 x36_2).size : Int)) = true := decide_eq_true c23
                                    by_cases c24 : ((rdOf ByteArray.empty t131 x36_2).extract (x8_1 : Int).toNat ((wrap64 (x8_1 + 1)) : Int).toNat).toList = x9_2.toList
                                    · rw [if_pos c24] at H
                                      have c24b0 : (((rdOf ByteArray.empty t131 x36_2).extract (x8_1 : Int).toNat ((wrap64 (x8_1 + 1)) : Int).toNat).toList == x9_2.toList) = true := beq_iff_eq.mpr c24
                                      have c24b1 : (((rdOf ByteArray.empty t131 x36_2).extract (x8_1 : Int).toNat ((wrap64 (x8_1 + 1)) : Int).toNat).toList != x9_2.toList) = false := bne_eq_false_iff_eq.mpr c24
                                      clear c24
                                      have H' := Aside0.mk H
                                      clear H
                                      have p135 : 0 ≤ (x36_2 : Int) := of_decide_eq_true (by first | (with_reducible assumption) | assumption)
                                      have q135 : x36_2 < (t131.length : Int) := of_decide_eq_true (by first | (with_reducible assumption) | assumption)
                                      obtain ⟨ad135, e135, hx135_0⟩ := Kd.at_string (Kd.R_reads' HO_34.out).2.2 x36_2 p135 q135
                                      obtain rfl : ad134 = ad135 := (by injection e135)
                                      replace p135 := eq_true p135
                                      replace q135 := eq_true q135
                                      go_wp2
                                      go_roundg k2
                                      case measure => have := HK1.out; have := HK2.out; omega
                                      case rel => exact ⟨(x9_2), (wrap64 (x36_2 + 1)), (by first | rfl | (simp; done) | (simp [*]; done)), (by first | rfl | (simp; done) | (simp [*]; done)), H', ⟨by have := HK1.out; have := HK2.out; omega⟩, ⟨by (with_reducible repeat (first | apply Kd.R_alloc | apply Kd.R_drewN | apply Kd.R_drew)); exact HO_6.out⟩, ⟨by (with_reducible repeat (first | apply Kd.R_alloc | apply Kd.R_drewN | apply Kd.R_drew)); exact HO_34.out⟩, ⟨by repeat (first | (with_reducible first | exact HB.out | apply below_alloc | apply pw_below_drewN | apply below_drew1) | exact HB.out)⟩⟩
                                    · rw [if_neg c24] at H
                                      have c24b0 : (((rdOf ByteArray.empty t131 x36_2).extract (x8_1 : Int).toNat ((wrap64 (x8_1 + 1)) : Int).toNat).toList == x9_2.toList) = false := beq_eq_false_iff_ne.mpr c24
                                      have c24b1 : (((rdOf ByteArray.empty t131 x36_2).extract (x8_1 : Int).toNat ((wrap64 (x8_1 + 1)) : Int).toNat).toList != x9_2.toList) = true := bne_iff_ne.mpr c24
                                      by_cases c25 : x7_1.size + 1 ≤ 9223372036854775807
                                      · rw [if_pos c25] at H
                                        have c25b0 := eq_true c25
                                        have c25b1 : decide (x7_1.size + 1 ≤ 9223372036854775807) = true := decide_eq_true c25
                                        try have c25b2 : (9223372036854775807 < x7_1.size + 1) = False := eq_false (Nat.not_lt.2 c25)
                                        have H' := Aside0.mk H
                                        clear H
                                        have p135 : 0 ≤ (x36_2 : Int) := of_decide_eq_true (by first | (with_reducible assumption) | assumption)
                                        have q135 : x36_2 < (t131.length : Int) := of_decide_eq_true (by first | (with_reducible assumption) | assumption)
                                        obtain ⟨ad135, e135, hx135_0⟩ := Kd.at_string (Kd.R_reads' HO_34.out).2.2 x36_2 p135 q135
                                        obtain rfl : ad134 = ad135 := (by injection e135)
                                        replace p135 := eq_true p135
                                        replace q135 := eq_true q135
                                        go_wp2
                                        go_roundg k2
                                        case measure => have := HK1.out; have := HK2.out; omega
                                        case rel => exact ⟨(x7_1 ++ (⟨#[63]⟩ : ByteArray)), (wrap64 (x8_1 + 1)), (by first | rfl | (simp; done) | (simp [*]; done)), (by first | rfl | (simp; done) | (simp [*]; done)), H', ⟨by have := HK1.out; have := HK2.out; omega⟩, ⟨by (with_reducible repeat (first | apply Kd.R_alloc | apply Kd.R_drewN | apply Kd.R_drew)); exact HO_6.out⟩, ⟨by repeat (first | (with_reducible first | exact HB.out | apply below_alloc | apply pw_below_drewN | apply below_drew1) | exact HB.out)⟩⟩
                                      · rw [if_neg c25] at H
                                        exact absurd H (by simp)
                                  · rw [if_neg c23] at H
                                    exact absurd H (by simp)
                                · rw [if_neg c22] at H
                                  exact absurd H (by simp)
                              · rw [if_neg c21] at H
                                exact absurd H (by simp)
                            · rw [if_neg c20] at H
                              exact absurd H (by simp)
                          · rw [if_neg c19] at H
                            exact absurd H (by simp)
                        · rw [if_neg c18] at H
                          have c18b0 : decide (x36_2 < (t131.length : Int)) = false := decide_eq_false c18
                          clear c18
                          by_cases c26 : x7_1.size + x9_2.size ≤ 9223372036854775807
                          · rw [if_pos c26] at H
                            have c26b0 := eq_true c26
                            have c26b1 : decide (x7_1.size + x9_2.size ≤ 9223372036854775807) = true := decide_eq_true c26
                            try have c26b2 : (9223372036854775807 < x7_1.size + x9_2.size) = False := eq_false (Nat.not_lt.2 c26)
                            have H' := Aside0.mk H
                            clear H
                            go_wp2
                            go_roundg k2
                            case measure => have := HK1.out; have := HK2.out; omega
                            case rel => exact ⟨(x7_1 ++ x9_2), (wrap64 (x8_1 + 1)), (by first | rfl | (simp; done) | (simp [*]; done)), (by first | rfl | (simp; done) | (simp [*]; done)), H', ⟨by have := HK1.out; have := HK2.out; omega⟩, ⟨by (with_reducible repeat (first | apply Kd.R_alloc | apply Kd.R_drewN | apply Kd.R_drew)); exact HO_6.out⟩, ⟨by repeat (first | (with_reducible first | exact HB.out | apply below_alloc | apply pw_below_drewN | apply below_drew1) | exact HB.out)⟩⟩
                          · rw [if_neg c26] at H
                            exact absurd H (by simp)
                  · rw [if_neg c17] at H
                    exact absurd H (by simp)
                · rw [if_neg c16] at H
                  exact absurd H (by simp)
              · rw [if_neg c15] at H
                exact absurd H (by simp)
            · rw [if_neg c14] at H
              exact absurd H (by simp)
          · rw [if_neg c13] at H
            have c13b0 : decide (x8_1 < a0) = false := decide_eq_false c13
            clear c13
            simp only [Option.some.injEq, Prod.mk.injEq] at H
            obtain ⟨rfl, rfl⟩ := H
            go_wp2
            go_ret2
            exact ⟨by first | rfl | (simp [errW_none, errW_some] <;> rfl) | (simp [*, errW_none, errW_some] <;> rfl), by repeat (first | (with_reducible first | exact HB.out | apply below_alloc | apply pw_below_drewN | apply below_drew1) | exact HB.out)⟩
  · replace c4 := Bool.eq_false_iff.mpr c4
    subst c4
    have H1 : (some ((⟨#[]⟩ : ByteArray), false)) = some (r1, r2) := by rw [if_neg (show ¬ (false = true) by decide)] at H; exact H
    clear H
    have H := H1
    clear H1
    simp only [Option.some.injEq, Prod.mk.injEq] at H
    obtain ⟨rfl, rfl⟩ := H
    go_enter Try.func20, Try.ntmps20
    go_wp2_with (first | ((with_reducible refine gate_callee (f := 46) rfl ?_); refine goesL_ (some 14) rfl rfl Try.func46 (by kernel_rfl) rfl #[.int .i64 a0, .slice A1 l1.length c1] rfl (by (try simp only [List.map_toArray, List.map_cons, List.map_nil]); first | done | rfl | (simp only [List.length_drop, List.length_take]; rfl)) ?_; (with_reducible refine (spec_liGood.calls k a0 _ _ l1 false _ ?side1 ?side2 A3.out).mono ?_); (case side1 => repeat (first | exact HR1.out | (with_reducible refine Kd.C_alloc ?_ _) | (with_reducible refine Kd.C_drewN ?_ _) | (with_reducible refine Kd.C_drew ?_))); (case side2 => exact HC1.out); rintro e w27 ⟨rfl, hb⟩; refine ⟨_, rfl, ?_⟩; have n0_ := Aside0.mk (below_step (by repeat (first | (with_reducible first | exact HB.out | apply below_alloc | apply pw_below_drewN | apply below_drew1) | exact HB.out)) hb); clear HB; have HB := n0_; clear n0_; (try clear hb); (try clear hb2); (try clear hk); (try clear hi)))
    go_ret2
    exact ⟨by first | rfl | (simp [errW_none, errW_some] <;> rfl) | (simp [*, errW_none, errW_some] <;> rfl), by repeat (first | (with_reducible first | exact HB.out | apply below_alloc | apply pw_below_drewN | apply below_drew1) | exact HB.out)⟩

/-! ### impl_within: function 78 -/
def impl_within.f (a0 : Int) (a1 : Int) (a2 : Int) : Option (Bool) := if a1 ≤ a0 then (some (decide (a0 ≤ a2))) else (some false)
set_option maxHeartbeats 8000000 in
set_option maxRecDepth 100000 in
theorem impl_within.calls (a0 : Int) (a1 : Int) (a2 : Int) (r : Bool) (w : World) (h : impl_within.f a0 a1 a2 = some r) :
    Calls Try.prog 78 #[.int .i64 a0, .int .i64 a1, .int .i64 a2] w fun e w' => e = .returned (.bool r) ∧ Drawn0 w w' := by
  have H : (if a1 ≤ a0 then (some (decide (a0 ≤ a2))) else (some false)) = some r := h
  clear h
  by_cases c4 : a1 ≤ a0
  · rw [if_pos c4] at H
    have c4b0 : decide (a1 ≤ a0) = true := decide_eq_true c4
    clear c4
    obtain rfl := Option.some.inj H
    go_enter Try.func78, Try.ntmps78
    go_wp2
    go_ret
    exact ⟨by first | rfl | (simp; done) | (simp [*]; done), by repeat (first | exact Drawn0.refl _ | apply Drawn0.step)⟩
  · rw [if_neg c4] at H
    have c4b0 : decide (a1 ≤ a0) = false := decide_eq_false c4
    clear c4
    obtain rfl := Option.some.inj H
    go_enter Try.func78, Try.ntmps78
    go_wp2
    go_ret
    exact ⟨by first | rfl | (simp; done) | (simp [*]; done), by repeat (first | exact Drawn0.refl _ | apply Drawn0.step)⟩

/-! ### impl_areAsked: function 74 -/
def impl_areAsked.f (a0 : Int) : Option (Bool) := (impl_within.f a0 1 8).bind fun t136 => (some t136)
set_option maxHeartbeats 8000000 in
set_option maxRecDepth 100000 in
theorem impl_areAsked.calls (a0 : Int) (r : Bool) (w : World) (h : impl_areAsked.f a0 = some r) :
    Calls Try.prog 74 #[.int .i64 a0] w fun e w' => e = .returned (.bool r) ∧ Drawn0 w w' := by
  have H : ((impl_within.f a0 1 8).bind fun t136 => (some t136)) = some r := h
  clear h
  replace H := Option.bind_eq_some_iff.mp H
  obtain ⟨t136, A20, H⟩ := H
  replace H : (some t136) = some r := H
  have A2 := Aside0.mk A20
  clear A20
  obtain rfl := Option.some.inj H
  go_enter Try.func74, Try.ntmps74
  go_wp2_with (first | ((with_reducible refine gate_callee (f := 78) rfl ?_); refine goesL_ (some 4) rfl rfl Try.func78 (by kernel_rfl) rfl #[.int .i64 a0, .int .i64 1, .int .i64 8] rfl (by (try simp only [List.map_toArray, List.map_cons, List.map_nil]); first | done | rfl | (simp only [List.length_drop, List.length_take]; rfl)) ?_; (with_reducible refine (impl_within.calls a0 1 8 t136 _ A2.out).mono ?_); rintro e w' ⟨rfl, ⟨nd, rfl⟩⟩; refine ⟨_, rfl, ?_⟩))
  go_ret
  exact ⟨by first | rfl | (simp; done) | (simp [*]; done), by repeat (first | exact Drawn0.refl _ | apply Drawn0.step)⟩

/-! ### impl_Claim_86: function 86, by hand -/
set_option maxHeartbeats 1000000 in
set_option maxRecDepth 100000 in
theorem idxClaim (fn : FuncId) (g : Func) (cap : Array Value) (p : S55 → Bool) (hf : Try.prog.funcs[fn]? = some g) (hname : (g.name == "runtime.NumGoroutine") = false) (hb : g.body.isSome = true)
    (A0 : Option Addr) (c0 : Nat) (l0 : List S55) (w : World) (hr0 : Kd.C k55 w A0 l0.length l0)
    (ho : Owes Try.prog fn (fun x : S55 => .agg #[.int .i64 x.f0, .int .i64 x.f1, .bool x.f2]) cap p l0 w) :
    Calls Try.prog 86 #[.slice A0 l0.length c0, .func (.func fn) #[] cap] w fun e w' => ∃ r : Int, e = .returned (.int .i64 r) ∧ decide (r ≥ 0) = l0.any p ∧ Below w.heap.size w w' := by
  have hu := Try.underlying55
  have HR0 := Aside0.mk hr0
  have HO := Aside0.mk ho
  have HF := Aside0.mk hf
  have HM := hr0.2.1
  clear hr0 ho hf
  go_enter Try.func86, Try.ntmps86
  go_wp2
  go_loopw [8] (fun v wr => ∃ k : Nat, k ≤ l0.length ∧ v = .int .i64 k ∧ Aside0 ((l0.take k).any p = false) ∧ Aside0 (Below w.heap.size w wr)) (fun v _ => l0.length - (intOf v).toNat)
  case atStart => exact ⟨0, Nat.zero_le _, rfl, ⟨rfl⟩, ⟨Below.refl _ _⟩⟩
  case round =>
    obtain ⟨k, hk, rfl, HA, HB⟩ := hrel
    by_cases hlt : k < l0.length
    · have p1 : (0 : Int) ≤ (k : Int) := by omega
      have q1 : (k : Int) < (l0.length : Int) := by omega
      obtain ⟨ad, e1, hx0, hx1, hx2⟩ := at_T55 HR0.out (k : Int) p1 q1
      cases e1
      replace hx0 := (HB.out.cell (World.block_lt_of_cell? w _ hx0)).trans hx0
      replace hx1 := (HB.out.cell (World.block_lt_of_cell? w _ hx1)).trans hx1
      replace hx2 := (HB.out.cell (World.block_lt_of_cell? w _ hx2)).trans hx2
      simp only [Int.toNat_natCast] at hx0 hx1 hx2
      have hmem := mem_getD l0 k hlt z55
      have hc := HO.out (rd_T55 l0 (k : Int)) (by simpa [rd_T55] using hmem) wr HB.out
      obtain ⟨b, hpb⟩ : ∃ b, p (rd_T55 l0 (k : Int)) = b := ⟨_, rfl⟩
      rw [hpb] at hc
      have HC := Aside0.mk hc
      have HP := Aside0.mk hpb
      clear hc hpb hmem
      cases b with
      | true =>
        go_wp2_with (refine goesV_ (some 16) rfl rfl HF.out hname hb (#[_] ++ cap) rfl rfl (by simp; rfl) ?_; refine HC.out.mono ?_; rintro e w1 ⟨rfl, hb1⟩; refine ⟨_, rfl, ?_⟩)
        go_ret
        exact ⟨_, rfl, by rw [any_of_at p l0 k hlt z55 (by simpa [rd_T55] using HP.out)]; simp, HB.out.trans (hb1.mono HB.out.size)⟩
      | false =>
        go_wp2_with (refine goesV_ (some 16) rfl rfl HF.out hname hb (#[_] ++ cap) rfl rfl (by simp; rfl) ?_; refine HC.out.mono ?_; rintro e w1 ⟨rfl, hb1⟩; refine ⟨_, rfl, ?_⟩)
        go_roundw
        case rel => exact ⟨k + 1, by omega, by go_num, ⟨take_any_snoc p l0 k hlt z55 HA.out (by simpa [rd_T55] using HP.out)⟩, ⟨HB.out.trans (hb1.mono HB.out.size)⟩⟩
        case measure => simp [intOf]; omega
    · go_wp2
      go_ret
      exact ⟨_, rfl, by have h1 := HA.out; rw [List.take_of_length_le (by omega)] at h1; rw [h1]; rfl, HB.out⟩


/-! ### impl_Claim_75: function 75, by hand -/
theorem hasClaim (fn : FuncId) (g : Func) (cap : Array Value) (p : S55 → Bool) (hf : Try.prog.funcs[fn]? = some g) (hname : (g.name == "runtime.NumGoroutine") = false) (hb : g.body.isSome = true)
    (A0 : Option Addr) (c0 : Nat) (l0 : List S55) (w : World) (hr0 : Kd.C k55 w A0 l0.length l0)
    (ho : Owes Try.prog fn (fun x : S55 => .agg #[.int .i64 x.f0, .int .i64 x.f1, .bool x.f2]) cap p l0 w) :
    Calls Try.prog 75 #[.slice A0 l0.length c0, .func (.func fn) #[] cap] w fun e w' => e = .returned (.bool (l0.any p)) ∧ Below w.heap.size w w' := by
  have HC := Aside0.mk (idxClaim fn g cap p hf hname hb A0 c0 l0 w hr0 ho)
  clear hr0 ho hf
  go_enter Try.func75, Try.ntmps75
  go_wp2_with (go_at_call 86; refine HC.out.mono ?_; rintro e w1 ⟨r, rfl, hr, hb1⟩; have HR := Aside0.mk hr; have HB := Aside0.mk hb1; clear hr hb1)
  go_ret
  exact ⟨by rw [HR.out]; rfl, HB.out⟩

/-! ### impl_isFriend: function 54 -/
def impl_isFriend.f (a0 : Int) (a1 : Int) : Option (Bool) := (impl_within.f a1 0 (wrap64 (a0 - 1))).bind fun t137 => (some t137)
set_option maxHeartbeats 8000000 in
set_option maxRecDepth 100000 in
theorem impl_isFriend.calls (a0 : Int) (a1 : Int) (r : Bool) (w : World) (h : impl_isFriend.f a0 a1 = some r) :
    Calls Try.prog 54 #[.int .i64 a0, .int .i64 a1] w fun e w' => e = .returned (.bool r) ∧ Drawn0 w w' := by
  have H : ((impl_within.f a1 0 (wrap64 (a0 - 1))).bind fun t137 => (some t137)) = some r := h
  clear h
  replace H := Option.bind_eq_some_iff.mp H
  obtain ⟨t137, A30, H⟩ := H
  replace H : (some t137) = some r := H
  have A3 := Aside0.mk A30
  clear A30
  obtain rfl := Option.some.inj H
  go_enter Try.func54, Try.ntmps54
  go_wp2_with (first | ((with_reducible refine gate_callee (f := 78) rfl ?_); refine goesL_ (some 8) rfl rfl Try.func78 (by kernel_rfl) rfl #[.int .i64 a1, .int .i64 0, .int .i64 (wrap64 (a0 - 1))] rfl (by (try simp only [List.map_toArray, List.map_cons, List.map_nil]); first | done | rfl | (simp only [List.length_drop, List.length_take]; rfl)) ?_; (with_reducible refine (impl_within.calls a1 0 (wrap64 (a0 - 1)) t137 _ A3.out).mono ?_); rintro e w' ⟨rfl, ⟨nd, rfl⟩⟩; refine ⟨_, rfl, ?_⟩))
  go_ret
  exact ⟨by first | rfl | (simp; done) | (simp [*]; done), by repeat (first | exact Drawn0.refl _ | apply Drawn0.step)⟩

-- NOT PRINTED: function 76 (impl_AreClaims_1)

/-! ### impl_AreClaims: function 50, by hand -/
def impl_AreClaims.ok (n : Int) (c : S55) : Bool := decide (0 ≤ c.f0 ∧ c.f0 ≤ n - 1) && decide (0 ≤ c.f1 ∧ c.f1 ≤ n - 1)
def impl_AreClaims.f (a0 : Int) (l1 : List S55) : Option Bool := some (decide (1 ≤ a0 ∧ a0 ≤ 8) && decide (l1.length ≤ 20) && !l1.any fun c => !impl_AreClaims.ok a0 c)
theorem isFriend_val (n x : Int) (h1 : 1 ≤ n) (h2 : n ≤ 8) : impl_isFriend.f n x = some (decide (0 ≤ x ∧ x ≤ n - 1)) := by
  have e : wrap64 (n - 1) = n - 1 := by unfold wrap64; omega
  unfold impl_isFriend.f impl_within.f
  rw [e]
  by_cases h : 0 ≤ x <;> simp [h]
theorem areAsked_val (n : Int) : impl_areAsked.f n = some (decide (1 ≤ n ∧ n ≤ 8)) := by
  unfold impl_areAsked.f impl_within.f
  by_cases h : 1 ≤ n <;> simp [h]
set_option maxHeartbeats 1000000 in
set_option maxRecDepth 100000 in
theorem areClaims_1 (n : Int) (c : S55) (B : Nat) (w : World) (h1 : 1 ≤ n) (h2 : n ≤ 8) (hB : B < w.heap.size) (hq : w.cell? ⟨B, 0, none⟩ = some (.int .i64 n)) :
    Calls Try.prog 76 #[.agg #[.int .i64 c.f0, .int .i64 c.f1, .bool c.f2], .pointer (some ⟨B, 0, none⟩)] w fun e w' => e = .returned (.bool (!impl_AreClaims.ok n c)) ∧ Below w.heap.size w w' := by
  have hu := Try.underlying55
  obtain ⟨b0, h0⟩ : ∃ b, decide (0 ≤ c.f0 ∧ c.f0 ≤ n - 1) = b := ⟨_, rfl⟩
  obtain ⟨b1, h1'⟩ : ∃ b, decide (0 ≤ c.f1 ∧ c.f1 ≤ n - 1) = b := ⟨_, rfl⟩
  have H0 := Aside0.mk ((isFriend_val n c.f0 h1 h2).trans (congrArg some h0))
  have H1 := Aside0.mk ((isFriend_val n c.f1 h1 h2).trans (congrArg some h1'))
  have HV := Aside0.mk (show impl_AreClaims.ok n c = (b0 && b1) by unfold impl_AreClaims.ok; rw [h0, h1'])
  clear h0 h1'
  rw [HV.out]
  cases b0 with
  | false =>
    go_enter Try.func76, Try.ntmps76
    go_wp2_with (go_at_call 54; refine (impl_isFriend.calls _ _ _ _ H0.out).mono ?_; rintro e w' ⟨rfl, ⟨nd, rfl⟩⟩)
    go_ret
    exact ⟨rfl, by repeat (first | exact Below.refl _ _ | apply below_alloc | apply pw_below_drewN | apply below_drew1)⟩
  | true =>
    go_enter Try.func76, Try.ntmps76
    go_wp2_with (go_at_call 54; first | (refine (impl_isFriend.calls _ _ _ _ H0.out).mono ?_; rintro e w' ⟨rfl, ⟨nd, rfl⟩⟩) | (refine (impl_isFriend.calls _ _ _ _ H1.out).mono ?_; rintro e w' ⟨rfl, ⟨nd, rfl⟩⟩))
    go_ret
    exact ⟨by simp, by repeat (first | exact Below.refl _ _ | apply below_alloc | apply pw_below_drewN | apply below_drew1)⟩
set_option maxHeartbeats 1000000 in
set_option maxRecDepth 100000 in
theorem impl_AreClaims.calls (a0 : Int) (A1 : Option Addr) (c1 : Nat) (l1 : List S55) (r : Bool) (w : World) (hr1 : Kd.C k55 w A1 l1.length l1) (hc1 : l1.length ≤ c1) (h : impl_AreClaims.f a0 l1 = some r) :
    Calls Try.prog 50 #[.int .i64 a0, .slice A1 l1.length c1] w fun e w' => e = .returned (.bool r) ∧ Below w.heap.size w w' := by
  have hmf : ∀ (fn : Fn) (first cap : Array Value) (w : World), (Instr.makeFunc fn first cap).run Try.prog w = .ok (.func fn first cap) w := fun _ _ _ _ => rfl
  have hm := hr1.2.1
  have HR1 := Aside0.mk hr1
  clear hr1 hc1
  obtain ⟨b0, h0⟩ : ∃ b, decide (1 ≤ a0 ∧ a0 ≤ 8) = b := ⟨_, rfl⟩
  have H0 := Aside0.mk ((areAsked_val a0).trans (congrArg some h0))
  unfold impl_AreClaims.f at h
  rw [h0] at h
  cases b0 with
  | false =>
    obtain rfl : r = false := by simpa using h.symm
    go_enter Try.func50, Try.ntmps50
    go_wp2_with (go_at_call 74; refine (impl_areAsked.calls _ _ _ H0.out).mono ?_; rintro e w' ⟨rfl, ⟨nd, rfl⟩⟩)
    go_ret
    exact ⟨by simp, by repeat (first | exact Below.refl _ _ | apply below_alloc | apply pw_below_drewN | apply below_drew1)⟩
  | true =>
    have hn : 1 ≤ a0 ∧ a0 ≤ 8 := of_decide_eq_true h0
    clear h0
    by_cases hlen : l1.length ≤ 20
    · have hlb : decide ((l1.length : Int) ≤ 20) = true := by simp; omega
      have HV := Aside0.mk (show r = !(l1.any fun c => !impl_AreClaims.ok a0 c) by simpa [hlen] using h.symm)
      clear h
      have HC := Aside0.mk (fun (W : World) (hB : Below w.heap.size w W) (hg : w.heap.size < W.heap.size) (hq : W.cell? ⟨w.heap.size, 0, none⟩ = some (.int .i64 a0)) => hasClaim 76 _ #[.pointer (some ⟨w.heap.size, 0, none⟩)] (fun c => !impl_AreClaims.ok a0 c) Try.func76 rfl rfl A1 c1 l1 W (Kd.C_below HR1.out hB) (fun x _ W2 hW => areClaims_1 a0 x w.heap.size W2 hn.1 hn.2 (Nat.lt_of_lt_of_le hg hW.size) ((hW.cell hg).trans hq)))
      go_enter Try.func50, Try.ntmps50
      go_wp2_with (first | (go_at_call 74; refine (impl_areAsked.calls _ _ _ H0.out).mono ?_; rintro e w' ⟨rfl, ⟨nd, rfl⟩⟩) | (go_at_call 75; refine (HC.out _ ?s1 ?s2 ?s3).mono ?_; (case s1 => repeat (first | exact Below.refl _ _ | apply below_alloc | apply pw_below_drewN | apply below_drew1)); (case s2 => simp); (case s3 => go_simp); rintro e w1 ⟨rfl, hb1⟩))
      go_ret
      exact ⟨by rw [HV.out]; rfl, below_step (by repeat (first | exact Below.refl _ _ | apply below_alloc | apply pw_below_drewN | apply below_drew1)) hb1⟩
    · have hlb : decide ((l1.length : Int) ≤ 20) = false := by simp; omega
      obtain rfl : r = false := by simpa [hlen] using h.symm
      go_enter Try.func50, Try.ntmps50
      go_wp2_with (go_at_call 74; refine (impl_areAsked.calls _ _ _ H0.out).mono ?_; rintro e w' ⟨rfl, ⟨nd, rfl⟩⟩)
      go_ret
      exact ⟨by simp, by repeat (first | exact Below.refl _ _ | apply below_alloc | apply pw_below_drewN | apply below_drew1)⟩


/-! ### impl_says: function 56 -/
def impl_says.f (a0 : ByteArray) (a1 : Int) (a2 : Int) : Option (Bool) := if 0 ≤ a1 then (if a1 < (a0.size : Int) then (if 0 ≤ a2 then (if a2 < (a0.size : Int) then (some ((bt a0 a1) == (bt a0 a2))) else (none)) else (none)) else (none)) else (none)
set_option maxHeartbeats 8000000 in
set_option maxRecDepth 100000 in
theorem impl_says.calls (a0 : ByteArray) (a1 : Int) (a2 : Int) (r : Bool) (w : World) (h : impl_says.f a0 a1 a2 = some r) :
    Calls Try.prog 56 #[.string a0, .int .i64 a1, .int .i64 a2] w fun e w' => e = .returned (.bool r) ∧ Drawn0 w w' := by
  have H : (if 0 ≤ a1 then (if a1 < (a0.size : Int) then (if 0 ≤ a2 then (if a2 < (a0.size : Int) then (some ((bt a0 a1) == (bt a0 a2))) else (none)) else (none)) else (none)) else (none)) = some r := h
  clear h
  by_cases c4 : 0 ≤ a1
  · rw [if_pos c4] at H
    have c4b0 : decide (0 ≤ a1) = true := decide_eq_true c4
    clear c4
    by_cases c5 : a1 < (a0.size : Int)
    · rw [if_pos c5] at H
      have c5b0 : decide (a1 < (a0.size : Int)) = true := decide_eq_true c5
      clear c5
      by_cases c7 : 0 ≤ a2
      · rw [if_pos c7] at H
        have c7b0 : decide (0 ≤ a2) = true := decide_eq_true c7
        clear c7
        by_cases c8 : a2 < (a0.size : Int)
        · rw [if_pos c8] at H
          have c8b0 : decide (a2 < (a0.size : Int)) = true := decide_eq_true c8
          clear c8
          obtain rfl := Option.some.inj H
          have p6 : 0 ≤ (a1 : Int) := of_decide_eq_true (by first | (with_reducible assumption) | assumption)
          have q6 : a1 < (a0.size : Int) := of_decide_eq_true (by first | (with_reducible assumption) | assumption)
          have hx6 := bt_at a0 a1
          replace p6 := eq_true p6
          replace q6 := eq_true q6
          have p9 : 0 ≤ (a2 : Int) := of_decide_eq_true (by first | (with_reducible assumption) | assumption)
          have q9 : a2 < (a0.size : Int) := of_decide_eq_true (by first | (with_reducible assumption) | assumption)
          have hx9 := bt_at a0 a2
          replace p9 := eq_true p9
          replace q9 := eq_true q9
          go_enter Try.func56, Try.ntmps56
          go_wp2
          repeat (go_quiet (fail); try go_wp2)
          go_ret
          exact ⟨by first | rfl | (simp; done) | (simp [*]; done), by repeat (first | exact Drawn0.refl _ | apply Drawn0.step)⟩
        · rw [if_neg c8] at H
          exact absurd H (by simp)
      · rw [if_neg c7] at H
        exact absurd H (by simp)
    · rw [if_neg c5] at H
      exact absurd H (by simp)
  · rw [if_neg c4] at H
    exact absurd H (by simp)

-- NOT PRINTED: function 87 (impl_fits_1)

/-! ### impl_fits: function 77, by hand -/
def impl_fits.ok (s : ByteArray) (c : S55) : Bool := decide (0 ≤ c.f0 ∧ c.f0 < s.size) && decide (0 ≤ c.f1 ∧ c.f1 < s.size)
def impl_fits.so (s : ByteArray) (c : S55) : Bool := (bt s c.f0 == bt s c.f1) == c.f2
/-- (only where all claims' friends are signs of the cast) -/
def impl_fits.f (l0 : List S55) (a1 : ByteArray) : Option Bool := if l0.all (impl_fits.ok a1) = true then some (l0.all (impl_fits.so a1)) else none
set_option maxHeartbeats 1000000 in
set_option maxRecDepth 100000 in
theorem fits_1 (s : ByteArray) (c : S55) (B : Nat) (w : World) (hk : impl_fits.ok s c = true) (hB : B < w.heap.size) (hq : w.cell? ⟨B, 0, none⟩ = some (.string s)) :
    Calls Try.prog 87 #[.agg #[.int .i64 c.f0, .int .i64 c.f1, .bool c.f2], .pointer (some ⟨B, 0, none⟩)] w fun e w' => e = .returned (.bool (!impl_fits.so s c)) ∧ Below w.heap.size w w' := by
  have hu := Try.underlying55
  unfold impl_fits.ok at hk
  simp only [Bool.and_eq_true, decide_eq_true_eq] at hk
  obtain ⟨⟨i0, i1⟩, j0, j1⟩ := hk
  have H0 := Aside0.mk (show impl_says.f s c.f0 c.f1 = some (bt s c.f0 == bt s c.f1) by unfold impl_says.f; simp [i0, i1, j0, j1])
  clear i0 i1 j0 j1
  unfold impl_fits.so
  go_enter Try.func87, Try.ntmps87
  go_wp2
  repeat (go_quiet ((go_at_call 56; (with_reducible refine (impl_says.calls _ _ _ _ _ H0.out).mono ?_); rintro e w' ⟨rfl, ⟨nd, rfl⟩⟩; exact ⟨rfl, _, World.drewN_drewN _ _ _⟩)); try go_wp2)
  go_ret
  exact ⟨by simp [bne], by repeat (first | exact Below.refl _ _ | apply below_alloc | apply pw_below_drewN | apply below_drew1)⟩
set_option maxHeartbeats 1000000 in
set_option maxRecDepth 100000 in
theorem impl_fits.calls (A0 : Option Addr) (c0 : Nat) (l0 : List S55) (a1 : ByteArray) (r : Bool) (w : World) (hr0 : Kd.C k55 w A0 l0.length l0) (hc0 : l0.length ≤ c0) (h : impl_fits.f l0 a1 = some r) :
    Calls Try.prog 77 #[.slice A0 l0.length c0, .string a1] w fun e w' => e = .returned (.bool r) ∧ Below w.heap.size w w' := by
  have hmf : ∀ (fn : Fn) (first cap : Array Value) (w : World), (Instr.makeFunc fn first cap).run Try.prog w = .ok (.func fn first cap) w := fun _ _ _ _ => rfl
  have HR0 := Aside0.mk hr0
  clear hr0 hc0
  unfold impl_fits.f at h
  by_cases hk : l0.all (impl_fits.ok a1) = true
  · rw [if_pos hk] at h
    have HK := Aside0.mk (List.all_eq_true.1 hk)
    have HV := Aside0.mk (show r = !(l0.any fun c => !impl_fits.so a1 c) by rw [← Option.some.inj h]; simp [List.any_eq_not_all_not])
    clear h hk
    have HC := Aside0.mk (fun (W : World) (hB : Below w.heap.size w W) (hg : w.heap.size < W.heap.size) (hq : W.cell? ⟨w.heap.size, 0, none⟩ = some (.string a1)) => hasClaim 87 _ #[.pointer (some ⟨w.heap.size, 0, none⟩)] (fun c => !impl_fits.so a1 c) Try.func87 rfl rfl A0 c0 l0 W (Kd.C_below HR0.out hB) (fun x hx W2 hW => fits_1 a1 x w.heap.size W2 (HK.out x hx) (Nat.lt_of_lt_of_le hg hW.size) ((hW.cell hg).trans hq)))
    go_enter Try.func77, Try.ntmps77
    go_wp2_with (go_at_call 75; refine (HC.out _ ?s1 ?s2 ?s3).mono ?_; (case s1 => repeat (first | exact Below.refl _ _ | apply below_alloc | apply pw_below_drewN | apply below_drew1)); (case s2 => simp); (case s3 => go_simp); rintro e w1 ⟨rfl, hb1⟩)
    go_ret
    exact ⟨by rw [HV.out]; rfl, below_step (by repeat (first | exact Below.refl _ _ | apply below_alloc | apply pw_below_drewN | apply below_drew1)) hb1⟩
  · rw [if_neg hk] at h
    cases h


/-! ### impl_casts: function 51 -/
mutual
def impl_casts.l0 : Nat → Int → List (S55) → List ByteArray → Int → Int → Option (List ByteArray)
  | 0, _, _, _, _, _ => none
  | k + 1, x0, x1, x5, x11, x12 => if x12 < x11 then (impl_casts.l1 k x0 x1 x5 x12 (([] : List Int)) (wrap64 (x0 - 1)) x11 x12) else (some x5)
def impl_casts.l1 : Nat → Int → List (S55) → List ByteArray → Int → List Int → Int → Int → Int → Option (List ByteArray)
  | 0, _, _, _, _, _, _, _, _ => none
  | k + 1, x0, x1, x5, x6, x7, x8, x11, x12 => if x8 ≥ 0 then (if 0 ≤ x8 then (if 0 ≤ (Go.bits .and .i64 (shr .i64 x6 x8) 1) then (if (Go.bits .and .i64 (shr .i64 x6 x8) 1) < 2 then (if x7.length < 140737488355328 then (impl_casts.l1 k x0 x1 x5 x6 (x7 ++ [bt (⟨#[104, 108]⟩ : ByteArray) (Go.bits .and .i64 (shr .i64 x6 x8) 1)]) (wrap64 (x8 - 1)) x11 x12) else (none)) else (none)) else (none)) else (none)) else ((impl_fits.f x1 (strOfNums x7)).bind fun t147 => (if t147 = true then (if x5.length < 8796093022208 then (impl_casts.l0 k x0 x1 (x5 ++ [strOfNums x7]) x11 (wrap64 (x12 + 1))) else (none)) else (impl_casts.l0 k x0 x1 x5 x11 (wrap64 (x12 + 1)))))
end
def impl_casts.f (k : Nat) (a0 : Int) (l1 : List (S55)) : Option (List ByteArray) := if 0 ≤ a0 then (impl_casts.l0 k a0 l1 (([] : List ByteArray)) (shl .i64 1 a0) 0) else (none)
theorem impl_casts.mono_l : ∀ k, (∀ y0 y1 y2 y3 y4, LeO (impl_casts.l0 k y0 y1 y2 y3 y4) (impl_casts.l0 (k + 1) y0 y1 y2 y3 y4)) ∧ (∀ y0 y1 y2 y3 y4 y5 y6 y7, LeO (impl_casts.l1 k y0 y1 y2 y3 y4 y5 y6 y7) (impl_casts.l1 (k + 1) y0 y1 y2 y3 y4 y5 y6 y7))
  | 0 => ⟨fun _ _ _ _ _ r h => by simp [impl_casts.l0] at h, fun _ _ _ _ _ _ _ _ r h => by simp [impl_casts.l1] at h⟩
  | k + 1 => by
    obtain ⟨ih0, ih1⟩ := impl_casts.mono_l k
    refine ⟨?_, ?_⟩
    · intro y0 y1 y2 y3 y4
      unfold impl_casts.l0
      repeat' first
      | (with_reducible exact ih0 _ _ _ _ _)
      | (with_reducible exact ih1 _ _ _ _ _ _ _ _)
      | (with_reducible exact LeO.refl _)
      | (with_reducible exact LeO.none _)
      | (with_reducible refine LeO.ite ?_ ?_)
      | (with_reducible refine LeO.bind ?_ (fun _ => ?_))
      | exact ih0 _ _ _ _ _
      | exact ih1 _ _ _ _ _ _ _ _
      | exact LeO.none _
      | refine LeO.ite ?_ ?_
      | refine LeO.bind ?_ (fun _ => ?_)
    · intro y0 y1 y2 y3 y4 y5 y6 y7
      unfold impl_casts.l1
      repeat' first
      | (with_reducible exact ih0 _ _ _ _ _)
      | (with_reducible exact ih1 _ _ _ _ _ _ _ _)
      | (with_reducible exact LeO.refl _)
      | (with_reducible exact LeO.none _)
      | (with_reducible refine LeO.ite ?_ ?_)
      | (with_reducible refine LeO.bind ?_ (fun _ => ?_))
      | exact ih0 _ _ _ _ _
      | exact ih1 _ _ _ _ _ _ _ _
      | exact LeO.none _
      | refine LeO.ite ?_ ?_
      | refine LeO.bind ?_ (fun _ => ?_)
theorem impl_casts.mono : ∀ a0 a1 k, LeO (impl_casts.f k a0 a1) (impl_casts.f (k + 1) a0 a1) := by
  intro a0 a1 k
  obtain ⟨ih0, ih1⟩ := impl_casts.mono_l k
  unfold impl_casts.f
  repeat' first
      | (with_reducible exact ih0 _ _ _ _ _)
      | (with_reducible exact ih1 _ _ _ _ _ _ _ _)
      | (with_reducible exact LeO.refl _)
      | (with_reducible exact LeO.none _)
      | (with_reducible refine LeO.ite ?_ ?_)
      | (with_reducible refine LeO.bind ?_ (fun _ => ?_))
      | exact ih0 _ _ _ _ _
      | exact ih1 _ _ _ _ _ _ _ _
      | exact LeO.none _
      | refine LeO.ite ?_ ?_
      | refine LeO.bind ?_ (fun _ => ?_)
set_option maxHeartbeats 8000000 in
set_option maxRecDepth 100000 in
theorem impl_casts.calls (k : Nat) (a0 : Int) (A1 : Option Addr) (c1 : Nat) (l1 : List (S55)) (r : List ByteArray) (w : World) (hr1 : Kd.C k55 w A1 l1.length l1) (hc1 : l1.length ≤ c1) (h : impl_casts.f k a0 l1 = some r) :
    Calls Try.prog 51 #[.int .i64 a0, .slice A1 l1.length c1] w fun e w' => ∃ v0_ : Value, e = .returned (v0_) ∧ Kd.R Kd.string 9 w' w.heap.size (fun _ => True) v0_ r ∧ Below w.heap.size w w' := by
  have HR1 := Aside0.mk hr1
  have HC1 := Aside0.mk hc1
  clear hr1 hc1
  have HB := Aside0.mk (Below.refl w.heap.size w)
  have H : (if 0 ≤ a0 then (impl_casts.l0 k a0 l1 (([] : List ByteArray)) (shl .i64 1 a0) 0) else (none)) = some r := h
  clear h
  obtain ⟨y138, hy138⟩ : ∃ y_ : List ByteArray, y_ = (([] : List ByteArray)) := ⟨_, rfl⟩
  replace H : (if 0 ≤ a0 then (impl_casts.l0 k a0 l1 y138 (shl .i64 1 a0) 0) else (none)) = some r := by first | (rw [hy138]; with_reducible exact H) | (have H2_ := (Option.bind_some _ _).symm.trans H; rw [hy138]; with_reducible exact H2_) | (have H2_ := (Option.bind_some _ _).symm.trans H; with_reducible exact H2_) | with_reducible exact H | (rw [hy138]; exact H) | exact H
  have Ny138 := Aside0.mk hy138
  clear hy138
  by_cases c3 : 0 ≤ a0
  · rw [if_pos c3] at H
    have c3b0 := eq_true c3
    have c3b1 : decide (0 ≤ a0) = true := decide_eq_true c3
    clear c3
    obtain ⟨ji4, hji4⟩ : ∃ j_ : Int, (shl .i64 1 a0) = j_ := ⟨_, rfl⟩
    replace H : (impl_casts.l0 k a0 l1 y138 ji4 0) = some r := by first | (rw [hji4] at H; exact H) | (simp only [hji4] at H ⊢; exact H)
    have hji4_ : (IntKind.i64.wrap (1 * 2 ^ min a0.toNat 64)) = ji4 := hji4
    have hji4z : a0 ≤ 64 → (IntKind.i64.wrap (1 * 2 ^ a0.toNat)) = ji4 := shl_small hji4
    have hji4u : (IntKind.i64.wrap (2 ^ min a0.toNat 64)) = ji4 := by have h_ := hji4_; rw [Int.one_mul] at h_; exact h_
    have hji4v : a0 ≤ 64 → (IntKind.i64.wrap (2 ^ a0.toNat)) = ji4 := fun hle_ => by have h_ := hji4z hle_; rw [Int.one_mul] at h_; exact h_
    have hji4y : (wrap64 (1 * 2 ^ min a0.toNat 64)) = ji4 := (i64_w _).symm.trans hji4_
    have hji4x : a0 ≤ 64 → (wrap64 (1 * 2 ^ a0.toNat)) = ji4 := fun h_ => (i64_w _).symm.trans (hji4z h_)
    have H' := Aside0.mk H
    clear H
    go_enter Try.func51, Try.ntmps51
    go_wp2_with (first | ((with_reducible refine gate_dst (N := 9) rfl ?_); refine Kd.R_lit Kd.string _ 9 ?hg (N := 9) ?hd (xs := ([] : List ByteArray)) (inner := []) (ok := fun _ => True) (okp := fun _ => True) ?hr ?hp (fun _ hk => hk) trivial (Below.refl _ _) (Nat.le_refl _) (by simp) ?_; (case hd => rfl); (case hg => rfl); (case hr => first | (go_simp; done) | (go_simp; rfl)); (case hp => exact (Reps.none _ _)); intro v139 w5 ho6 hb hg_ hnew_; clear hg_ hnew_; (first | rw [← Ny138.out] at ho6 | (simp only [Int.reduceToNat] at ho6; rw [← Ny138.out] at ho6)); have n0_ := Aside0.mk (Kd.R_lower ho6 (below_size (by repeat (first | (with_reducible first | exact HB.out | apply below_alloc | apply pw_below_drewN | apply below_drew1) | exact HB.out)))); have n1_ := Aside0.mk (below_step (by repeat (first | (with_reducible first | exact HB.out | apply below_alloc | apply pw_below_drewN | apply below_drew1) | exact HB.out)) hb); clear HB; have HO140 := n0_; have HB := n1_; clear n0_ n1_; clear hb ho6))
    go_loopg [5, 12] k (fun kq v5 v12 w' => ∃ (x5_1 : List ByteArray) (x12_1 : Int), v12 = .int .i64 x12_1 ∧ Aside0 (impl_casts.l0 kq a0 l1 x5_1 ji4 x12_1 = some r) ∧ Aside0 (kq ≤ k) ∧ Aside0 (Kd.R Kd.string 9 w' w.heap.size (fun _ => True) v5 x5_1) ∧ Aside0 (Below w.heap.size w w'))
    case atStart => exact ⟨(y138), (0), (by first | rfl | (simp; done) | (simp [*]; done)), H', ⟨Nat.le_refl _⟩, ⟨by (with_reducible repeat (first | apply Kd.R_alloc | apply Kd.R_drewN | apply Kd.R_drew)); exact HO140.out⟩, ⟨by repeat (first | (with_reducible first | exact HB.out | apply below_alloc | apply pw_below_drewN | apply below_drew1) | exact HB.out)⟩⟩
    case round =>
      clear H'
      try clear c1
      try clear p2
      try clear c3
      try clear c3b0
      try clear c3b1
      try clear c5
      try clear p6
      obtain ⟨x5_1, x12_1, rfl, HA, HK1, HO_5, HB⟩ := hrel
      cases gk with
      | zero => exact absurd HA.out (by simp [impl_casts.l0])
      | succ k1 =>
        have H := HA.out
        clear HA
        simp only [impl_casts.l0] at H
        by_cases c7 : x12_1 < ji4
        · rw [if_pos c7] at H
          have c7b0 : decide (x12_1 < ji4) = true := decide_eq_true c7
          clear c7
          obtain ⟨y141, hy141⟩ : ∃ y_ : List Int, y_ = (([] : List Int)) := ⟨_, rfl⟩
          replace H : (impl_casts.l1 k1 a0 l1 x5_1 x12_1 y141 (wrap64 (a0 - 1)) ji4 x12_1) = some r := by first | (rw [hy141]; with_reducible exact H) | (have H2_ := (Option.bind_some _ _).symm.trans H; rw [hy141]; with_reducible exact H2_) | (have H2_ := (Option.bind_some _ _).symm.trans H; with_reducible exact H2_) | with_reducible exact H | (rw [hy141]; exact H) | exact H
          have Ny141 := Aside0.mk hy141
          clear hy141
          have H' := Aside0.mk H
          clear H
          go_wp2_with (first | ((with_reducible refine gate_dst (N := 15) rfl ?_); refine Kd.R_lit (Kd.int .u8) _ 5 ?hg (N := 15) ?hd (xs := ([] : List Int)) (inner := []) (ok := fun _ => True) (okp := fun _ => True) ?hr ?hp (fun _ hk => hk) trivial (Below.refl _ _) (Nat.le_refl _) (by simp) ?_; (case hd => rfl); (case hg => rfl); (case hr => first | (go_simp; done) | (go_simp; rfl)); (case hp => exact (Reps.none _ _)); intro v142 w8 ho9 hb hg_ hnew_; clear hg_ hnew_; (first | rw [← Ny141.out] at ho9 | (simp only [Int.reduceToNat] at ho9; rw [← Ny141.out] at ho9)); have n0_ := Aside0.mk (Kd.R_below (by (with_reducible repeat (first | apply Kd.R_alloc | apply Kd.R_drewN | apply Kd.R_drew)); exact HO_5.out) hb); have n1_ := Aside0.mk (Kd.R_lower ho9 (below_size (by repeat (first | (with_reducible first | exact HB.out | apply below_alloc | apply pw_below_drewN | apply below_drew1) | exact HB.out)))); have n2_ := Aside0.mk (below_step (by repeat (first | (with_reducible first | exact HB.out | apply below_alloc | apply pw_below_drewN | apply below_drew1) | exact HB.out)) hb); clear HO_5; clear HB; have HO_5 := n0_; have HO143 := n1_; have HB := n2_; clear n0_ n1_ n2_; clear hb ho9))
          go_loopg [7, 8] k1 (fun kq v7 v8 w' => ∃ (x7_2 : List Int) (x8_2 : Int), v8 = .int .i64 x8_2 ∧ Aside0 (impl_casts.l1 kq a0 l1 x5_1 x12_1 x7_2 x8_2 ji4 x12_1 = some r) ∧ Aside0 (kq ≤ k1) ∧ Aside0 (Kd.R Kd.string 9 w' w.heap.size (fun _ => True) u5 x5_1) ∧ Aside0 (Kd.R (Kd.int .u8) 5 w' w.heap.size (fun _ => True) v7 x7_2) ∧ Aside0 (Below w.heap.size w w'))
          case atStart => exact ⟨(y141), (wrap64 (a0 - 1)), (by first | rfl | (simp; done) | (simp [*]; done)), H', ⟨Nat.le_refl _⟩, ⟨by (with_reducible repeat (first | apply Kd.R_alloc | apply Kd.R_drewN | apply Kd.R_drew)); exact HO_5.out⟩, ⟨by (with_reducible repeat (first | apply Kd.R_alloc | apply Kd.R_drewN | apply Kd.R_drew)); exact HO143.out⟩, ⟨by repeat (first | (with_reducible first | exact HB.out | apply below_alloc | apply pw_below_drewN | apply below_drew1) | exact HB.out)⟩⟩
          case round =>
            clear H'
            try clear c1
            try clear p2
            try clear c3
            try clear c3b0
            try clear c3b1
            try clear c5
            try clear p6
            try clear c7
            try clear c7b0
            try clear p2
            try clear p6
            obtain ⟨x7_2, x8_2, rfl, HA, HK2, HO_5, HO_7, HB⟩ := hrel
            cases gk with
            | zero => exact absurd HA.out (by simp [impl_casts.l1])
            | succ k2 =>
              have H := HA.out
              clear HA
              simp only [impl_casts.l1] at H
              by_cases c10 : x8_2 ≥ 0
              · rw [if_pos c10] at H
                have c10b0 : decide (0 ≤ x8_2) = true := decide_eq_true c10
                clear c10
                by_cases c11 : 0 ≤ x8_2
                · rw [if_pos c11] at H
                  have c11b0 := eq_true c11
                  have c11b1 : decide (0 ≤ x8_2) = true := decide_eq_true c11
                  clear c11
                  obtain ⟨ji12, hji12⟩ : ∃ j_ : Int, (shr .i64 x12_1 x8_2) = j_ := ⟨_, rfl⟩
                  replace H : (if 0 ≤ (Go.bits .and .i64 (ji12) 1) then (if (Go.bits .and .i64 (ji12) 1) < 2 then (if x7_2.length < 140737488355328 then (impl_casts.l1 k2 a0 l1 x5_1 x12_1 (x7_2 ++ [bt (⟨#[104, 108]⟩ : ByteArray) (Go.bits .and .i64 (ji12) 1)]) (wrap64 (x8_2 - 1)) ji4 x12_1) else (none)) else (none)) else (none)) = some r := by first | (rw [hji12] at H; exact H) | (simp only [hji12] at H ⊢; exact H)
                  have hji12_ : (x12_1 / 2 ^ min x8_2.toNat 64) = ji12 := hji12
                  have hji12z : x8_2 ≤ 64 → (x12_1 / 2 ^ x8_2.toNat) = ji12 := shr_small hji12
                  by_cases c13 : 0 ≤ (Go.bits .and .i64 (ji12) 1)
                  · rw [if_pos c13] at H
                    have c13b0 : decide (0 ≤ (Go.bits .and .i64 (ji12) 1)) = true := decide_eq_true c13
                    clear c13
                    by_cases c14 : (Go.bits .and .i64 (ji12) 1) < 2
                    · rw [if_pos c14] at H
                      have c14b0 : decide ((Go.bits .and .i64 (ji12) 1) < 2) = true := decide_eq_true c14
                      clear c14
                      by_cases c16 : x7_2.length < 140737488355328
                      · rw [if_pos c16] at H
                        have LMc16 := Aside0.mk c16
                        clear c16
                        obtain ⟨y144, hy144⟩ : ∃ y_ : List Int, y_ = (x7_2 ++ [bt (⟨#[104, 108]⟩ : ByteArray) (Go.bits .and .i64 (ji12) 1)]) := ⟨_, rfl⟩
                        replace H : (impl_casts.l1 k2 a0 l1 x5_1 x12_1 y144 (wrap64 (x8_2 - 1)) ji4 x12_1) = some r := by first | (rw [hy144]; with_reducible exact H) | (have H2_ := (Option.bind_some _ _).symm.trans H; rw [hy144]; with_reducible exact H2_) | (have H2_ := (Option.bind_some _ _).symm.trans H; with_reducible exact H2_) | with_reducible exact H | (rw [hy144]; exact H) | exact H
                        have Ny144 := Aside0.mk hy144
                        clear hy144
                        have H' := Aside0.mk H
                        clear H
                        have p15 : 0 ≤ ((Go.bits .and .i64 (ji12) 1) : Int) := of_decide_eq_true (by first | (with_reducible assumption) | assumption)
                        have q15 : (Go.bits .and .i64 (ji12) 1) < (2 : Int) := of_decide_eq_true (by first | (with_reducible assumption) | assumption)
                        have hx15 := bt_at (⟨#[104, 108]⟩ : ByteArray) (Go.bits .and .i64 (ji12) 1)
                        replace p15 := eq_true p15
                        replace q15 := eq_true q15
                        go_wp2_with (first | ((with_reducible refine gate_builtin (b := .append) (xs := #[.tmp 22, .tmp 28]) rfl ?_); at_builtin; refine Kd.R_append (Kd.int .u8) (w0 := w) w.heap.size rfl (.tmp 22) (.tmp 28) 59 5 (.int .u8 0) 1 rfl Try.underlying59 info5 rfl (by decide) (by omega) u7 x7_2 (bt (⟨#[104, 108]⟩ : ByteArray) (Go.bits .and .i64 (ji12) 1)) [.int .u8 (bt (⟨#[104, 108]⟩ : ByteArray) (Go.bits .and .i64 (ji12) 1))] (fun _ => True) (fun _ => False) rfl rfl ?aP (fun _ hk => hk.elim) ?aF ?aO ?aB ?aS ?aL ?_; (case aP => exact rfl); (case aB => exact (by repeat (first | (with_reducible first | exact HB.out | apply below_alloc | apply pw_below_drewN | apply below_drew1) | exact HB.out))); (case aF => exact (fun _ _ => trivial)); (case aO => exact (by (with_reducible repeat (first | apply Kd.R_alloc | apply Kd.R_drewN | apply Kd.R_drew)); exact HO_7.out)); (case aS => exact (below_size (by repeat (first | (with_reducible first | exact HB.out | apply below_alloc | apply pw_below_drewN | apply below_drew1) | exact HB.out)))); (case aL => have := LMc16.out; omega); intro v145 w17 ho hb hg hat; rw [← Ny144.out] at ho; have n0_ := Aside0.mk (Kd.R_over' (by (with_reducible repeat (first | apply Kd.R_alloc | apply Kd.R_drewN | apply Kd.R_drew)); exact HO_5.out) (Kd.R_typed (by (with_reducible repeat (first | apply Kd.R_alloc | apply Kd.R_drewN | apply Kd.R_drew)); exact HO_7.out)) (by decide) hg); have n1_ := Aside0.mk (hb); have n2_ := Aside0.mk (ho); clear HO_5; clear HB; clear HO_7; have HO_5 := n0_; have HB := n1_; have HO146 := n2_; clear n0_ n1_ n2_; clear ho hb hg hat))
                        go_roundg k2
                        case measure => have := HK1.out; have := HK2.out; omega
                        case rel => exact ⟨(y144), (wrap64 (x8_2 - 1)), (by first | rfl | (simp; done) | (simp [*]; done)), H', ⟨by have := HK1.out; have := HK2.out; omega⟩, ⟨by (with_reducible repeat (first | apply Kd.R_alloc | apply Kd.R_drewN | apply Kd.R_drew)); exact HO_5.out⟩, ⟨by (with_reducible repeat (first | apply Kd.R_alloc | apply Kd.R_drewN | apply Kd.R_drew)); exact HO146.out⟩, ⟨by repeat (first | (with_reducible first | exact HB.out | apply below_alloc | apply pw_below_drewN | apply below_drew1) | exact HB.out)⟩⟩
                      · rw [if_neg c16] at H
                        exact absurd H (by simp)
                    · rw [if_neg c14] at H
                      exact absurd H (by simp)
                  · rw [if_neg c13] at H
                    exact absurd H (by simp)
                · rw [if_neg c11] at H
                  exact absurd H (by simp)
              · rw [if_neg c10] at H
                have c10b0 : decide (0 ≤ x8_2) = false := decide_eq_false c10
                clear c10
                replace H := Option.bind_eq_some_iff.mp H
                obtain ⟨t147, A180, H⟩ := H
                replace H : (if t147 = true then (if x5_1.length < 8796093022208 then (impl_casts.l0 k2 a0 l1 (x5_1 ++ [strOfNums x7_2]) ji4 (wrap64 (x12_1 + 1))) else (none)) else (impl_casts.l0 k2 a0 l1 x5_1 ji4 (wrap64 (x12_1 + 1)))) = some r := H
                have A18 := Aside0.mk A180
                clear A180
                by_cases c19 : t147 = true
                · subst c19
                  have H1 : (if x5_1.length < 8796093022208 then (impl_casts.l0 k2 a0 l1 (x5_1 ++ [strOfNums x7_2]) ji4 (wrap64 (x12_1 + 1))) else (none)) = some r := by rw [if_pos rfl] at H; exact H
                  clear H
                  have H := H1
                  clear H1
                  by_cases c20 : x5_1.length < 8796093022208
                  · rw [if_pos c20] at H
                    have LMc20 := Aside0.mk c20
                    clear c20
                    obtain ⟨y148, hy148⟩ : ∃ y_ : List ByteArray, y_ = (x5_1 ++ [strOfNums x7_2]) := ⟨_, rfl⟩
                    replace H : (impl_casts.l0 k2 a0 l1 y148 ji4 (wrap64 (x12_1 + 1))) = some r := by first | (rw [hy148]; with_reducible exact H) | (have H2_ := (Option.bind_some _ _).symm.trans H; rw [hy148]; with_reducible exact H2_) | (have H2_ := (Option.bind_some _ _).symm.trans H; with_reducible exact H2_) | with_reducible exact H | (rw [hy148]; exact H) | exact H
                    have Ny148 := Aside0.mk hy148
                    clear hy148
                    have H' := Aside0.mk H
                    clear H
                    have hcv21 := own_string (P := Try.prog) Try.underlying59 Try.underlying5 Try.underlying9 (Kd.own_of_R HO_7.out)
                    go_wp2_with (first | ((with_reducible refine gate_callee (f := 77) rfl ?_); refine goesL_ (some 33) rfl rfl Try.func77 (by kernel_rfl) rfl #[.slice A1 l1.length c1, .string (strOfNums x7_2)] rfl (by (try simp only [List.map_toArray, List.map_cons, List.map_nil]); first | done | rfl | (simp only [List.length_drop, List.length_take]; rfl)) ?_; (with_reducible refine (impl_fits.calls _ _ l1 (strOfNums x7_2) true _ ?side1 ?side2 A18.out).mono ?_); (case side1 => repeat (first | exact (Kd.C_below HR1.out HB.out) | (with_reducible refine Kd.C_alloc ?_ _) | (with_reducible refine Kd.C_drewN ?_ _) | (with_reducible refine Kd.C_drew ?_))); (case side2 => exact HC1.out); rintro e w22 ⟨rfl, hb⟩; refine ⟨_, rfl, ?_⟩; have n0_ := Aside0.mk (Kd.R_below (by (with_reducible repeat (first | apply Kd.R_alloc | apply Kd.R_drewN | apply Kd.R_drew)); exact HO_5.out) hb); have n1_ := Aside0.mk (Kd.R_below (by (with_reducible repeat (first | apply Kd.R_alloc | apply Kd.R_drewN | apply Kd.R_drew)); exact HO_7.out) hb); have n2_ := Aside0.mk (below_step (by repeat (first | (with_reducible first | exact HB.out | apply below_alloc | apply pw_below_drewN | apply below_drew1) | exact HB.out)) hb); clear HO_5; clear HO_7; clear HB; have HO_5 := n0_; have HO_7 := n1_; have HB := n2_; clear n0_ n1_ n2_; (try clear hb); (try clear hb2); (try clear hk); (try clear hi); have hcv23 := own_string (P := Try.prog) Try.underlying59 Try.underlying5 Try.underlying9 (Kd.own_of_R HO_7.out)) | ((with_reducible refine gate_builtin (b := .append) (xs := #[.tmp 34, .tmp 37]) rfl ?_); at_builtin; refine Kd.R_append Kd.string (w0 := w) w.heap.size rfl (.tmp 34) (.tmp 37) 34 9 (.string ⟨#[]⟩) 16 rfl Try.underlying34 info9 rfl (by decide) (by omega) u5 x5_1 (strOfNums x7_2) [.string (strOfNums x7_2)] (fun _ => True) (fun _ => False) rfl rfl ?aP (fun _ hk => hk.elim) ?aF ?aO ?aB ?aS ?aL ?_; (case aP => exact rfl); (case aB => exact (by repeat (first | (with_reducible first | exact HB.out | apply below_alloc | apply pw_below_drewN | apply below_drew1) | exact HB.out))); (case aF => exact (fun _ _ => trivial)); (case aO => exact (by (with_reducible repeat (first | apply Kd.R_alloc | apply Kd.R_drewN | apply Kd.R_drew)); exact HO_5.out)); (case aS => exact (below_size (by repeat (first | (with_reducible first | exact HB.out | apply below_alloc | apply pw_below_drewN | apply below_drew1) | exact HB.out)))); (case aL => have := LMc20.out; omega); intro v149 w24 ho hb hg hat; rw [← Ny148.out] at ho; have n0_ := Aside0.mk (Kd.R_over' (by (with_reducible repeat (first | apply Kd.R_alloc | apply Kd.R_drewN | apply Kd.R_drew)); exact HO_7.out) (Kd.R_typed (by (with_reducible repeat (first | apply Kd.R_alloc | apply Kd.R_drewN | apply Kd.R_drew)); exact HO_5.out)) (by decide) hg); have n1_ := Aside0.mk (hb); have n2_ := Aside0.mk (ho); clear HO_7; clear HB; clear HO_5; have HO_7 := n0_; have HB := n1_; have HO150 := n2_; clear n0_ n1_ n2_; clear ho hb hg hat))
                    go_roundg k2
                    case measure => have := HK1.out; have := HK2.out; omega
                    case rel => exact ⟨(y148), (wrap64 (x12_1 + 1)), (by first | rfl | (simp; done) | (simp [*]; done)), H', ⟨by have := HK1.out; have := HK2.out; omega⟩, ⟨by (with_reducible repeat (first | apply Kd.R_alloc | apply Kd.R_drewN | apply Kd.R_drew)); exact HO150.out⟩, ⟨by repeat (first | (with_reducible first | exact HB.out | apply below_alloc | apply pw_below_drewN | apply below_drew1) | exact HB.out)⟩⟩
                  · rw [if_neg c20] at H
                    exact absurd H (by simp)
                · replace c19 := Bool.eq_false_iff.mpr c19
                  subst c19
                  have H1 : (impl_casts.l0 k2 a0 l1 x5_1 ji4 (wrap64 (x12_1 + 1))) = some r := by rw [if_neg (show ¬ (false = true) by decide)] at H; exact H
                  clear H
                  have H := H1
                  clear H1
                  have H' := Aside0.mk H
                  clear H
                  have hcv25 := own_string (P := Try.prog) Try.underlying59 Try.underlying5 Try.underlying9 (Kd.own_of_R HO_7.out)
                  go_wp2_with (first | ((with_reducible refine gate_callee (f := 77) rfl ?_); refine goesL_ (some 33) rfl rfl Try.func77 (by kernel_rfl) rfl #[.slice A1 l1.length c1, .string (strOfNums x7_2)] rfl (by (try simp only [List.map_toArray, List.map_cons, List.map_nil]); first | done | rfl | (simp only [List.length_drop, List.length_take]; rfl)) ?_; (with_reducible refine (impl_fits.calls _ _ l1 (strOfNums x7_2) false _ ?side1 ?side2 A18.out).mono ?_); (case side1 => repeat (first | exact (Kd.C_below HR1.out HB.out) | (with_reducible refine Kd.C_alloc ?_ _) | (with_reducible refine Kd.C_drewN ?_ _) | (with_reducible refine Kd.C_drew ?_))); (case side2 => exact HC1.out); rintro e w26 ⟨rfl, hb⟩; refine ⟨_, rfl, ?_⟩; have n0_ := Aside0.mk (Kd.R_below (by (with_reducible repeat (first | apply Kd.R_alloc | apply Kd.R_drewN | apply Kd.R_drew)); exact HO_5.out) hb); have n1_ := Aside0.mk (Kd.R_below (by (with_reducible repeat (first | apply Kd.R_alloc | apply Kd.R_drewN | apply Kd.R_drew)); exact HO_7.out) hb); have n2_ := Aside0.mk (below_step (by repeat (first | (with_reducible first | exact HB.out | apply below_alloc | apply pw_below_drewN | apply below_drew1) | exact HB.out)) hb); clear HO_5; clear HO_7; clear HB; have HO_5 := n0_; have HO_7 := n1_; have HB := n2_; clear n0_ n1_ n2_; (try clear hb); (try clear hb2); (try clear hk); (try clear hi)))
                  go_roundg k2
                  case measure => have := HK1.out; have := HK2.out; omega
                  case rel => exact ⟨(x5_1), (wrap64 (x12_1 + 1)), (by first | rfl | (simp; done) | (simp [*]; done)), H', ⟨by have := HK1.out; have := HK2.out; omega⟩, ⟨by (with_reducible repeat (first | apply Kd.R_alloc | apply Kd.R_drewN | apply Kd.R_drew)); exact HO_5.out⟩, ⟨by repeat (first | (with_reducible first | exact HB.out | apply below_alloc | apply pw_below_drewN | apply below_drew1) | exact HB.out)⟩⟩
        · rw [if_neg c7] at H
          have c7b0 : decide (x12_1 < ji4) = false := decide_eq_false c7
          clear c7
          obtain rfl := Option.some.inj H
          go_wp2
          go_ret
          exact ⟨_, by first | rfl | (simp [errW_none, errW_some] <;> rfl) | (simp only [← hji4]; first | rfl | (simp [errW_none, errW_some] <;> rfl)) | (simp [*, errW_none, errW_some] <;> rfl), by (with_reducible repeat (first | apply Kd.R_alloc | apply Kd.R_drewN | apply Kd.R_drew)); exact HO_5.out, by repeat (first | (with_reducible first | exact HB.out | apply below_alloc | apply pw_below_drewN | apply below_drew1) | exact HB.out)⟩
  · rw [if_neg c3] at H
    exact absurd H (by simp)

end Go.Proofs.Ytidinhkaclaanaa.PFnExactSureCast
