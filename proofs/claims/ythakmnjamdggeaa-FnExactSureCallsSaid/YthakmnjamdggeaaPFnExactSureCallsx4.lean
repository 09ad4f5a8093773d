/- Printed by a program of this session (wip/pp) over the kit's print, for FnExactSureCalls. No conditions beyond those that each theorem names. -/
import Derived.Test.YthakmnjamdggeaaPFnExactSureCallsx0
import Derived.Test.YthakmnjamdggeaaPFnExactSureCallsx3
namespace Go.Proofs.Ythakmnjamdggeaa.PFnExactSureCalls
open Go.RowKit Go.Proofs.YthakmnjamdggeaaW.PrintWords Go.Proofs.YthakmnjamdggeaaW.PrintLast Go.Proofs.YthakmnjamdggeaaW.PrintMore
attribute [local go_sem] max2_int min2_int max_two min_two max_three min_three max_four min_four   -- for this text's walks alone
set_option linter.unusedVariables false
set_option linter.unusedSimpArgs false

/-! ### spec_pzValue: function 86 -/
mutual
def spec_pzValue.l0 : Nat → Int → Int → List (S74) → Int → Int → Option (Int)
  | 0, _, _, _, _, _ => none
  | k + 1, x2, x12, x24, x25, x26 => if x26 < x25 then (if 0 ≤ x26 then (if x26 < (x24.length : Int) then ((spec_pzIn.f ((rd_T74 x24 x26).f0) ((rd_T74 x24 x26).f1) x2).bind fun t170 => (spec_pzValue.l0 k x2 (wrap64 (x12 + t170)) x24 x25 (wrap64 (x26 + 1)))) else (none)) else (none)) else (some x12)
def spec_pzValue.l1 : Nat → Int → List (S74) → Int → Int → Int → Option (Int)
  | 0, _, _, _, _, _ => none
  | k + 1, x0, x4, x12, x56, x57 => if x57 < x56 then ((spec_caLearned.f k x0 x4 x57).bind fun t176 => (if t176 = 0 then (spec_pzValue.l1 k x0 x4 (wrap64 (x12 + 1)) x56 (wrap64 (x57 + 1))) else (spec_pzValue.l1 k x0 x4 x12 x56 (wrap64 (x57 + 1))))) else (some x12)
end
def spec_pzValue.f (k : Nat) (a0 : Int) (a1 : Int) (a2 : Int) (a3 : Int) (l4 : List (S74)) : Option (Int) := (spec_caPlay.f k a0 l4).bind fun t165 => (if a1 = 0 then (spec_pzValue.l0 k a2 0 l4 (l4.length : Int) 0) else (if a1 = 1 then (if 0 ≤ a2 then (if a2 < (t165.length : Int) then ((spec_caBits.f k (rd t165 a2)).bind fun t172 => (some (t172.length : Int))) else (none)) else (none)) else (if a1 = 2 then (if 0 ≤ a2 then (if a2 < (t165.length : Int) then (if 0 ≤ a3 then (some (Go.bits .and .i64 (shr .i64 (rd t165 a2) a3) 1)) else (none)) else (none)) else (none)) else (if a1 = 3 then (spec_pzValue.l1 k a0 l4 0 (l4.length : Int) 0) else (if a1 = 4 then (if 0 ≤ a2 then (if a2 < (l4.length : Int) then ((spec_pzIn.f ((rd_T74 l4 a2).f0) ((rd_T74 l4 a2).f1) a3).bind fun t178 => (some t178)) else (none)) else (none)) else ((spec_caCount.f k t165).bind fun t179 => (some t179)))))))
theorem spec_pzValue.mono_l : ∀ k, (∀ y0 y1 y2 y3 y4, LeO (spec_pzValue.l0 k y0 y1 y2 y3 y4) (spec_pzValue.l0 (k + 1) y0 y1 y2 y3 y4)) ∧ (∀ y0 y1 y2 y3 y4, LeO (spec_pzValue.l1 k y0 y1 y2 y3 y4) (spec_pzValue.l1 (k + 1) y0 y1 y2 y3 y4))
  | 0 => ⟨fun _ _ _ _ _ r h => by simp [spec_pzValue.l0] at h, fun _ _ _ _ _ r h => by simp [spec_pzValue.l1] at h⟩
  | k + 1 => by
    obtain ⟨ih0, ih1⟩ := spec_pzValue.mono_l k
    refine ⟨?_, ?_⟩
    · intro y0 y1 y2 y3 y4
      unfold spec_pzValue.l0
      repeat' first
      | (with_reducible exact ih0 _ _ _ _ _)
      | (with_reducible exact ih1 _ _ _ _ _)
      | (with_reducible exact spec_caBits.mono _ _)
      | (with_reducible exact spec_caCount.mono _ _)
      | (with_reducible exact spec_caLearned.mono _ _ _ _)
      | (with_reducible exact spec_caPlay.mono _ _ _)
      | (with_reducible exact LeO.refl _)
      | (with_reducible exact LeO.none _)
      | (with_reducible refine LeO.ite ?_ ?_)
      | (with_reducible refine LeO.bind ?_ (fun _ => ?_))
      | exact ih0 _ _ _ _ _
      | exact ih1 _ _ _ _ _
      | exact spec_caBits.mono _ _
      | exact spec_caCount.mono _ _
      | exact spec_caLearned.mono _ _ _ _
      | exact spec_caPlay.mono _ _ _
      | exact LeO.none _
      | refine LeO.ite ?_ ?_
      | refine LeO.bind ?_ (fun _ => ?_)
    · intro y0 y1 y2 y3 y4
      unfold spec_pzValue.l1
      repeat' first
      | (with_reducible exact ih0 _ _ _ _ _)
      | (with_reducible exact ih1 _ _ _ _ _)
      | (with_reducible exact spec_caBits.mono _ _)
      | (with_reducible exact spec_caCount.mono _ _)
      | (with_reducible exact spec_caLearned.mono _ _ _ _)
      | (with_reducible exact spec_caPlay.mono _ _ _)
      | (with_reducible exact LeO.refl _)
      | (with_reducible exact LeO.none _)
      | (with_reducible refine LeO.ite ?_ ?_)
      | (with_reducible refine LeO.bind ?_ (fun _ => ?_))
      | exact ih0 _ _ _ _ _
      | exact ih1 _ _ _ _ _
      | exact spec_caBits.mono _ _
      | exact spec_caCount.mono _ _
      | exact spec_caLearned.mono _ _ _ _
      | exact spec_caPlay.mono _ _ _
      | exact LeO.none _
      | refine LeO.ite ?_ ?_
      | refine LeO.bind ?_ (fun _ => ?_)
theorem spec_pzValue.mono : ∀ a0 a1 a2 a3 a4 k, LeO (spec_pzValue.f k a0 a1 a2 a3 a4) (spec_pzValue.f (k + 1) a0 a1 a2 a3 a4) := by
  intro a0 a1 a2 a3 a4 k
  obtain ⟨ih0, ih1⟩ := spec_pzValue.mono_l k
  unfold spec_pzValue.f
  repeat' first
      | (with_reducible exact ih0 _ _ _ _ _)
      | (with_reducible exact ih1 _ _ _ _ _)
      | (with_reducible exact spec_caBits.mono _ _)
      | (with_reducible exact spec_caCount.mono _ _)
      | (with_reducible exact spec_caLearned.mono _ _ _ _)
      | (with_reducible exact spec_caPlay.mono _ _ _)
      | (with_reducible exact LeO.refl _)
      | (with_reducible exact LeO.none _)
      | (with_reducible refine LeO.ite ?_ ?_)
      | (with_reducible refine LeO.bind ?_ (fun _ => ?_))
      | exact ih0 _ _ _ _ _
      | exact ih1 _ _ _ _ _
      | exact spec_caBits.mono _ _
      | exact spec_caCount.mono _ _
      | exact spec_caLearned.mono _ _ _ _
      | exact spec_caPlay.mono _ _ _
      | exact LeO.none _
      | refine LeO.ite ?_ ?_
      | refine LeO.bind ?_ (fun _ => ?_)
set_option maxHeartbeats 8000000 in
set_option maxRecDepth 100000 in
theorem spec_pzValue.calls (k : Nat) (a0 : Int) (a1 : Int) (a2 : Int) (a3 : Int) (A4 : Option Addr) (c4 : Nat) (l4 : List (S74)) (r : Int) (w : World) (hr4 : Kd.C k74 w A4 l4.length l4) (hc4 : l4.length ≤ c4) (h : spec_pzValue.f k a0 a1 a2 a3 l4 = some r) :
    Calls Try.prog 86 #[.int .i64 a0, .int .i64 a1, .int .i64 a2, .int .i64 a3, .slice A4 l4.length c4] w fun e w' => e = .returned (.int .i64 r) ∧ Below w.heap.size w w' := by
  have hu74 := Try.underlying74
  have HR4 := Aside0.mk hr4
  have HC4 := Aside0.mk hc4
  clear hr4 hc4
  have HB := Aside0.mk (Below.refl w.heap.size w)
  have H : ((spec_caPlay.f k a0 l4).bind fun t165 => (if a1 = 0 then (spec_pzValue.l0 k a2 0 l4 (l4.length : Int) 0) else (if a1 = 1 then (if 0 ≤ a2 then (if a2 < (t165.length : Int) then ((spec_caBits.f k (rd t165 a2)).bind fun t172 => (some (t172.length : Int))) else (none)) else (none)) else (if a1 = 2 then (if 0 ≤ a2 then (if a2 < (t165.length : Int) then (if 0 ≤ a3 then (some (Go.bits .and .i64 (shr .i64 (rd t165 a2) a3) 1)) else (none)) else (none)) else (none)) else (if a1 = 3 then (spec_pzValue.l1 k a0 l4 0 (l4.length : Int) 0) else (if a1 = 4 then (if 0 ≤ a2 then (if a2 < (l4.length : Int) then ((spec_pzIn.f ((rd_T74 l4 a2).f0) ((rd_T74 l4 a2).f1) a3).bind fun t178 => (some t178)) else (none)) else (none)) else ((spec_caCount.f k t165).bind fun t179 => (some t179)))))))) = some r := h
  clear h
  replace H := Option.bind_eq_some_iff.mp H
  obtain ⟨t165, A60, H⟩ := H
  replace H : (if a1 = 0 then (spec_pzValue.l0 k a2 0 l4 (l4.length : Int) 0) else (if a1 = 1 then (if 0 ≤ a2 then (if a2 < (t165.length : Int) then ((spec_caBits.f k (rd t165 a2)).bind fun t172 => (some (t172.length : Int))) else (none)) else (none)) else (if a1 = 2 then (if 0 ≤ a2 then (if a2 < (t165.length : Int) then (if 0 ≤ a3 then (some (Go.bits .and .i64 (shr .i64 (rd t165 a2) a3) 1)) else (none)) else (none)) else (none)) else (if a1 = 3 then (spec_pzValue.l1 k a0 l4 0 (l4.length : Int) 0) else (if a1 = 4 then (if 0 ≤ a2 then (if a2 < (l4.length : Int) then ((spec_pzIn.f ((rd_T74 l4 a2).f0) ((rd_T74 l4 a2).f1) a3).bind fun t178 => (some t178)) else (none)) else (none)) else ((spec_caCount.f k t165).bind fun t179 => (some t179))))))) = some r := H
  have A6 := Aside0.mk A60
  clear A60
  by_cases c7 : a1 = 0
  · rw [if_pos c7] at H
    have c7b0 : (a1 == 0) = true := beq_iff_eq.mpr c7
    have c7b1 : (a1 != 0) = false := bne_eq_false_iff_eq.mpr c7
    clear c7
    have H' := Aside0.mk H
    clear H
    go_enter Try.func86, Try.ntmps86
    go_wp2_with (first | ((with_reducible refine gate_callee (f := 104) rfl ?_); refine goesL_ (some 18) rfl rfl Try.func104 (by kernel_rfl) rfl #[.int .i64 a0, .slice A4 l4.length c4] rfl (by (try simp only [List.map_toArray, List.map_cons, List.map_nil]); first | done | rfl | (simp only [List.length_drop, List.length_take]; rfl)) ?_; (with_reducible refine (spec_caPlay.calls k a0 _ _ l4 t165 _ ?side1 ?side2 A6.out).mono ?_); (case side1 => repeat (first | exact HR4.out | (with_reducible refine Kd.C_alloc ?_ _) | (with_reducible refine Kd.C_drewN ?_ _) | (with_reducible refine Kd.C_drew ?_))); (case side2 => exact HC4.out); rintro e w8 ⟨v166, rfl, ho0, hb⟩; refine ⟨_, rfl, ?_⟩; have n0_ := Aside0.mk (Kd.R_lower ho0 (below_size (by repeat (first | (with_reducible first | exact HB.out | apply below_alloc | apply pw_below_drewN | apply below_drew1) | exact HB.out)))); have n1_ := Aside0.mk (below_step (by repeat (first | (with_reducible first | exact HB.out | apply below_alloc | apply pw_below_drewN | apply below_drew1) | exact HB.out)) hb); clear HB; have HO167 := n0_; have HB := n1_; clear n0_ n1_; (try clear hb); (try clear hb2); (try clear hk); (try clear hi); (try clear ho0)))
    go_loopg [12, 26] k (fun kq v12 v26 w' => ∃ (x12_1 : Int) (x26_1 : Int), v12 = .int .i64 x12_1 ∧ v26 = .int .i64 x26_1 ∧ Aside0 (spec_pzValue.l0 kq a2 x12_1 l4 (l4.length : Int) x26_1 = some r) ∧ Aside0 (kq ≤ k) ∧ Aside0 (Below w.heap.size w w'))
    case atStart => exact ⟨(0), (0), (by first | rfl | (simp; done) | (simp [*]; done)), (by first | rfl | (simp; done) | (simp [*]; done)), H', ⟨Nat.le_refl _⟩, ⟨by repeat (first | (with_reducible first | exact HB.out | apply below_alloc | apply pw_below_drewN | apply below_drew1) | exact HB.out)⟩⟩
    case round =>
      clear H'
      try clear c1
      try clear p2
      try clear c4
      try clear c7
      try clear c7b0
      try clear c7b1
      try clear c8
      obtain ⟨x12_1, x26_1, rfl, rfl, HA, HK1, HB⟩ := hrel
      cases gk with
      | zero => exact absurd HA.out (by simp [spec_pzValue.l0])
      | succ k1 =>
        have H := HA.out
        clear HA
        simp only [spec_pzValue.l0] at H
        by_cases c9 : x26_1 < (l4.length : Int)
        · rw [if_pos c9] at H
          have c9b0 : decide (x26_1 < (l4.length : Int)) = true := decide_eq_true c9
          clear c9
          by_cases c10 : 0 ≤ x26_1
          · rw [if_pos c10] at H
            have c10b0 : decide (0 ≤ x26_1) = true := decide_eq_true c10
            clear c10
            by_cases c11 : x26_1 < (l4.length : Int)
            · rw [if_pos c11] at H
              have c11b0 : decide (x26_1 < (l4.length : Int)) = true := decide_eq_true c11
              clear c11
              replace H := Option.bind_eq_some_iff.mp H
              obtain ⟨t170, A120, H⟩ := H
              replace H : (spec_pzValue.l0 k1 a2 (wrap64 (x12_1 + t170)) l4 (l4.length : Int) (wrap64 (x26_1 + 1))) = some r := H
              have A12 := Aside0.mk A120
              clear A120
              have H' := Aside0.mk H
              clear H
              have p168 : 0 ≤ (x26_1 : Int) := of_decide_eq_true (by first | (with_reducible assumption) | assumption)
              have q168 : x26_1 < (l4.length : Int) := of_decide_eq_true (by first | (with_reducible assumption) | assumption)
              obtain ⟨ad168, e168, hx168_0, hx168_1⟩ := at_T74 HR4.out x26_1 p168 q168
              cases e168
              replace hx168_0 := (HB.out.cell (World.block_lt_of_cell? w _ hx168_0)).trans hx168_0
              replace hx168_1 := (HB.out.cell (World.block_lt_of_cell? w _ hx168_1)).trans hx168_1
              replace p168 := eq_true p168
              replace q168 := eq_true q168
              go_wp2_with (first | ((with_reducible refine gate_dst (N := 14) rfl ?_); refine box_event ?hg (N := 14) ?hd (cs := #[.int .i64 0, .int .i64 0]) (t := 74) ?hr ?_; (case hd => rfl); (case hg => rfl); (case hr => first | (go_simp; done) | (go_simp; rfl)); intro gb169 hg w13 hbox hb; have n0_ := Aside0.mk (below_step (by repeat (first | (with_reducible first | exact HB.out | apply below_alloc | apply pw_below_drewN | apply below_drew1) | exact HB.out)) hb); have n1_ := Aside0.mk (hbox); have n2_ := Aside0.mk ((by rw [hg]; exact (below_size (by repeat (first | (with_reducible first | exact HB.out | apply below_alloc | apply pw_below_drewN | apply below_drew1) | exact HB.out))) : w.heap.size ≤ gb169)); have n3_ := Aside0.mk ((by rw [hg]; exact (below_size (by repeat (first | (with_reducible first | exact HB.out | apply below_alloc | apply pw_below_drewN | apply below_drew1) | exact HB.out))) : w.heap.size ≤ gb169)); clear HB; have HB := n0_; have BK169 := n1_; have GW169 := n2_; have GE169 := n3_; clear n0_ n1_ n2_ n3_; clear hb hbox hg; have hcz14_0 : w13.cell? ⟨gb169, 0, none⟩ = some (.int .i64 0) := (blk_cell BK169.out 0).trans rfl; have hcz14_1 : w13.cell? ⟨gb169, 1, none⟩ = some (.int .i64 0) := (blk_cell BK169.out 1).trans rfl; have hfz14_0 := blk_frozen BK169.out 0; have hfz14_1 := blk_frozen BK169.out 1) | ((with_reducible refine gate_callee (f := 105) rfl ?_); refine goesL_ (some 33) rfl rfl Try.func105 (by kernel_rfl) rfl #[.agg #[.int .i64 ((rd_T74 l4 x26_1).f0), .int .i64 ((rd_T74 l4 x26_1).f1)], .int .i64 a2] rfl (by (try simp only [List.map_toArray, List.map_cons, List.map_nil]); first | done | rfl | (simp only [List.length_drop, List.length_take]; rfl)) ?_; (with_reducible refine (spec_pzIn.calls ((rd_T74 l4 x26_1).f0) ((rd_T74 l4 x26_1).f1) a2 t170 _ A12.out).mono ?_); rintro e w15 ⟨rfl, hb⟩; refine ⟨_, rfl, ?_⟩; have n0_ := Aside0.mk (blk_below (g := gb169) (o := .cells #[.int .i64 ((rd_T74 l4 x26_1).f0), .int .i64 ((rd_T74 l4 x26_1).f1)] 74 (0, 0)) (by (with_reducible repeat (first | refine blk_drewN ?_ _ | refine blk_drew ?_ | refine blk_alloc ?_ _)); refine blk_put (cs := #[.int .i64 ((rd_T74 l4 x26_1).f0), .int .i64 0]) ?_ 1 _ rfl; (with_reducible repeat (first | refine blk_drewN ?_ _ | refine blk_drew ?_ | refine blk_alloc ?_ _)); refine blk_put (cs := #[.int .i64 0, .int .i64 0]) ?_ 0 _ rfl; (with_reducible repeat (first | refine blk_drewN ?_ _ | refine blk_drew ?_ | refine blk_alloc ?_ _)); exact BK169.out) hb); have n1_ := Aside0.mk (below_step (by repeat (first | (with_reducible first | exact HB.out | apply below_alloc | apply pw_below_drewN | apply below_drew1 | refine below_set ?_ GE169.out) | exact HB.out)) hb); clear BK169; clear HB; have BK169 := n0_; have HB := n1_; clear n0_ n1_; (try clear hb); (try clear hb2); (try clear hk); (try clear hi)))
              go_roundg k1
              case measure => have := HK1.out; omega
              case rel => exact ⟨(wrap64 (x12_1 + t170)), (wrap64 (x26_1 + 1)), (by first | rfl | (simp; done) | (simp [*]; done)), (by first | rfl | (simp; done) | (simp [*]; done)), H', ⟨by have := HK1.out; omega⟩, ⟨by repeat (first | (with_reducible first | exact HB.out | apply below_alloc | apply pw_below_drewN | apply below_drew1 | refine below_set ?_ GE169.out) | exact HB.out)⟩⟩
            · rw [if_neg c11] at H
              first | exact absurd (beq_iff_eq.mp c9b0) c11 | exact absurd (of_decide_eq_true c9b0) c11
          · rw [if_neg c10] at H
            exact absurd H (by simp)
        · rw [if_neg c9] at H
          have c9b0 : decide (x26_1 < (l4.length : Int)) = false := decide_eq_false c9
          clear c9
          obtain rfl := Option.some.inj H
          go_wp2
          go_ret
          exact ⟨by first | rfl | (simp [errW_none, errW_some] <;> rfl) | (simp [*, errW_none, errW_some] <;> rfl), by repeat (first | (with_reducible first | exact HB.out | apply below_alloc | apply pw_below_drewN | apply below_drew1) | exact HB.out)⟩
  · rw [if_neg c7] at H
    have c7b0 : (a1 == 0) = false := beq_eq_false_iff_ne.mpr c7
    have c7b1 : (a1 != 0) = true := bne_iff_ne.mpr c7
    by_cases c16 : a1 = 1
    · rw [if_pos c16] at H
      have c16b0 : (a1 == 1) = true := beq_iff_eq.mpr c16
      have c16b1 : (a1 != 1) = false := bne_eq_false_iff_eq.mpr c16
      clear c16
      by_cases c17 : 0 ≤ a2
      · rw [if_pos c17] at H
        have c17b0 : decide (0 ≤ a2) = true := decide_eq_true c17
        clear c17
        by_cases c18 : a2 < (t165.length : Int)
        · rw [if_pos c18] at H
          have c18b0 : decide (a2 < (t165.length : Int)) = true := decide_eq_true c18
          clear c18
          replace H := Option.bind_eq_some_iff.mp H
          obtain ⟨t172, A190, H⟩ := H
          replace H : (some (t172.length : Int)) = some r := H
          have A19 := Aside0.mk A190
          clear A190
          obtain rfl := Option.some.inj H
          go_enter Try.func86, Try.ntmps86
          go_wp2_with (first | ((with_reducible refine gate_callee (f := 104) rfl ?_); refine goesL_ (some 18) rfl rfl Try.func104 (by kernel_rfl) rfl #[.int .i64 a0, .slice A4 l4.length c4] rfl (by (try simp only [List.map_toArray, List.map_cons, List.map_nil]); first | done | rfl | (simp only [List.length_drop, List.length_take]; rfl)) ?_; (with_reducible refine (spec_caPlay.calls k a0 _ _ l4 t165 _ ?side1 ?side2 A6.out).mono ?_); (case side1 => repeat (first | exact HR4.out | (with_reducible refine Kd.C_alloc ?_ _) | (with_reducible refine Kd.C_drewN ?_ _) | (with_reducible refine Kd.C_drew ?_))); (case side2 => exact HC4.out); rintro e w20 ⟨v166, rfl, ho0, hb⟩; refine ⟨_, rfl, ?_⟩; have n0_ := Aside0.mk (Kd.R_lower ho0 (below_size (by repeat (first | (with_reducible first | exact HB.out | apply below_alloc | apply pw_below_drewN | apply below_drew1) | exact HB.out)))); have n1_ := Aside0.mk (below_step (by repeat (first | (with_reducible first | exact HB.out | apply below_alloc | apply pw_below_drewN | apply below_drew1) | exact HB.out)) hb); clear HB; have HO167 := n0_; have HB := n1_; clear n0_ n1_; (try clear hb); (try clear hb2); (try clear hk); (try clear hi); (try clear ho0); obtain ⟨Ao21, co21, eo21⟩ := Kd.R_slice HO167.out; subst eo21; have p171 : 0 ≤ (a2 : Int) := of_decide_eq_true (by first | (with_reducible assumption) | assumption); have q171 : a2 < (t165.length : Int) := of_decide_eq_true (by first | (with_reducible assumption) | assumption); obtain ⟨ad171, e171, hx171_0⟩ := Kd.at_int (Kd.R_reads' HO167.out).2.2 a2 p171 q171; cases e171; replace p171 := eq_true p171; replace q171 := eq_true q171) | ((with_reducible refine gate_callee (f := 106) rfl ?_); refine goesL_ (some 42) rfl rfl Try.func106 (by kernel_rfl) rfl #[.int .i64 (rd t165 a2)] rfl (by (try simp only [List.map_toArray, List.map_cons, List.map_nil]); first | done | rfl | (simp only [List.length_drop, List.length_take]; rfl)) ?_; (with_reducible refine (spec_caBits.calls k (rd t165 a2) t172 _ A19.out).mono ?_); rintro e w22 ⟨v173, rfl, ho0, hb⟩; refine ⟨_, rfl, ?_⟩; have n0_ := Aside0.mk (Kd.R_elder' (by (with_reducible repeat (first | apply Kd.R_alloc | apply Kd.R_drewN | apply Kd.R_drew)); exact HO167.out) (Kd.R_base ho0) hb); have n1_ := Aside0.mk (Kd.R_lower (Kd.R_new' ho0 (Kd.R_lt (by (with_reducible repeat (first | apply Kd.R_alloc | apply Kd.R_drewN | apply Kd.R_drew)); exact HO167.out))) (below_size (by repeat (first | (with_reducible first | exact HB.out | apply below_alloc | apply pw_below_drewN | apply below_drew1) | exact HB.out)))); have n2_ := Aside0.mk (below_step (by repeat (first | (with_reducible first | exact HB.out | apply below_alloc | apply pw_below_drewN | apply below_drew1) | exact HB.out)) hb); clear HO167; clear HB; have HO167 := n0_; have HO174 := n1_; have HB := n2_; clear n0_ n1_ n2_; (try clear hb); (try clear hb2); (try clear hk); (try clear hi); (try clear ho0); obtain ⟨Ao23, co23, eo23⟩ := Kd.R_slice HO174.out; subst eo23))
          go_ret
          exact ⟨by first | rfl | (simp [errW_none, errW_some] <;> rfl) | (simp [*, errW_none, errW_some] <;> rfl), by repeat (first | (with_reducible first | exact HB.out | apply below_alloc | apply pw_below_drewN | apply below_drew1) | exact HB.out)⟩
        · rw [if_neg c18] at H
          exact absurd H (by simp)
      · rw [if_neg c17] at H
        exact absurd H (by simp)
    · rw [if_neg c16] at H
      have c16b0 : (a1 == 1) = false := beq_eq_false_iff_ne.mpr c16
      have c16b1 : (a1 != 1) = true := bne_iff_ne.mpr c16
      by_cases c24 : a1 = 2
      · rw [if_pos c24] at H
        have c24b0 : (a1 == 2) = true := beq_iff_eq.mpr c24
        have c24b1 : (a1 != 2) = false := bne_eq_false_iff_eq.mpr c24
        clear c24
        by_cases c25 : 0 ≤ a2
        · rw [if_pos c25] at H
          have c25b0 : decide (0 ≤ a2) = true := decide_eq_true c25
          clear c25
          by_cases c26 : a2 < (t165.length : Int)
          · rw [if_pos c26] at H
            have c26b0 : decide (a2 < (t165.length : Int)) = true := decide_eq_true c26
            clear c26
            by_cases c27 : 0 ≤ a3
            · rw [if_pos c27] at H
              have c27b0 := eq_true c27
              have c27b1 : decide (0 ≤ a3) = true := decide_eq_true c27
              clear c27
              obtain ⟨ji28, hji28⟩ : ∃ j_ : Int, (shr .i64 (rd t165 a2) a3) = j_ := ⟨_, rfl⟩
              replace H : (some (Go.bits .and .i64 (ji28) 1)) = some r := by first | (rw [hji28] at H; exact H) | (simp only [hji28] at H ⊢; exact H)
              (try rw [hji28] at A6)
              have hji28_ : ((rd t165 a2) / 2 ^ min a3.toNat 64) = ji28 := hji28
              have hji28z : a3 ≤ 64 → ((rd t165 a2) / 2 ^ a3.toNat) = ji28 := shr_small hji28
              obtain rfl := Option.some.inj H
              go_enter Try.func86, Try.ntmps86
              go_wp2_with (first | ((with_reducible refine gate_callee (f := 104) rfl ?_); refine goesL_ (some 18) rfl rfl Try.func104 (by kernel_rfl) rfl #[.int .i64 a0, .slice A4 l4.length c4] rfl (by (try simp only [List.map_toArray, List.map_cons, List.map_nil]); first | done | rfl | (simp only [List.length_drop, List.length_take]; rfl)) ?_; (with_reducible refine (spec_caPlay.calls k a0 _ _ l4 t165 _ ?side1 ?side2 A6.out).mono ?_); (case side1 => repeat (first | exact HR4.out | (with_reducible refine Kd.C_alloc ?_ _) | (with_reducible refine Kd.C_drewN ?_ _) | (with_reducible refine Kd.C_drew ?_))); (case side2 => exact HC4.out); rintro e w29 ⟨v166, rfl, ho0, hb⟩; refine ⟨_, rfl, ?_⟩; have n0_ := Aside0.mk (Kd.R_lower ho0 (below_size (by repeat (first | (with_reducible first | exact HB.out | apply below_alloc | apply pw_below_drewN | apply below_drew1) | exact HB.out)))); have n1_ := Aside0.mk (below_step (by repeat (first | (with_reducible first | exact HB.out | apply below_alloc | apply pw_below_drewN | apply below_drew1) | exact HB.out)) hb); clear HB; have HO167 := n0_; have HB := n1_; clear n0_ n1_; (try clear hb); (try clear hb2); (try clear hk); (try clear hi); (try clear ho0); obtain ⟨Ao30, co30, eo30⟩ := Kd.R_slice HO167.out; subst eo30; have p175 : 0 ≤ (a2 : Int) := of_decide_eq_true (by first | (with_reducible assumption) | assumption); have q175 : a2 < (t165.length : Int) := of_decide_eq_true (by first | (with_reducible assumption) | assumption); obtain ⟨ad175, e175, hx175_0⟩ := Kd.at_int (Kd.R_reads' HO167.out).2.2 a2 p175 q175; cases e175; replace p175 := eq_true p175; replace q175 := eq_true q175))
              go_ret
              exact ⟨by first | rfl | (simp [errW_none, errW_some] <;> rfl) | (simp only [← hji28]; first | rfl | (simp [errW_none, errW_some] <;> rfl)) | (simp [*, errW_none, errW_some] <;> rfl), by repeat (first | (with_reducible first | exact HB.out | apply below_alloc | apply pw_below_drewN | apply below_drew1) | exact HB.out)⟩
            · rw [if_neg c27] at H
              exact absurd H (by simp)
          · rw [if_neg c26] at H
            exact absurd H (by simp)
        · rw [if_neg c25] at H
          exact absurd H (by simp)
      · rw [if_neg c24] at H
        have c24b0 : (a1 == 2) = false := beq_eq_false_iff_ne.mpr c24
        have c24b1 : (a1 != 2) = true := bne_iff_ne.mpr c24
        by_cases c31 : a1 = 3
        · rw [if_pos c31] at H
          have c31b0 : (a1 == 3) = true := beq_iff_eq.mpr c31
          have c31b1 : (a1 != 3) = false := bne_eq_false_iff_eq.mpr c31
          clear c31
          have H' := Aside0.mk H
          clear H
          go_enter Try.func86, Try.ntmps86
          go_wp2_with (first | ((with_reducible refine gate_callee (f := 104) rfl ?_); refine goesL_ (some 18) rfl rfl Try.func104 (by kernel_rfl) rfl #[.int .i64 a0, .slice A4 l4.length c4] rfl (by (try simp only [List.map_toArray, List.map_cons, List.map_nil]); first | done | rfl | (simp only [List.length_drop, List.length_take]; rfl)) ?_; (with_reducible refine (spec_caPlay.calls k a0 _ _ l4 t165 _ ?side1 ?side2 A6.out).mono ?_); (case side1 => repeat (first | exact HR4.out | (with_reducible refine Kd.C_alloc ?_ _) | (with_reducible refine Kd.C_drewN ?_ _) | (with_reducible refine Kd.C_drew ?_))); (case side2 => exact HC4.out); rintro e w32 ⟨v166, rfl, ho0, hb⟩; refine ⟨_, rfl, ?_⟩; have n0_ := Aside0.mk (Kd.R_lower ho0 (below_size (by repeat (first | (with_reducible first | exact HB.out | apply below_alloc | apply pw_below_drewN | apply below_drew1) | exact HB.out)))); have n1_ := Aside0.mk (below_step (by repeat (first | (with_reducible first | exact HB.out | apply below_alloc | apply pw_below_drewN | apply below_drew1) | exact HB.out)) hb); clear HB; have HO167 := n0_; have HB := n1_; clear n0_ n1_; (try clear hb); (try clear hb2); (try clear hk); (try clear hi); (try clear ho0)))
          go_loopg [12, 57] k (fun kq v12 v57 w' => ∃ (x12_1 : Int) (x57_1 : Int), v12 = .int .i64 x12_1 ∧ v57 = .int .i64 x57_1 ∧ Aside0 (spec_pzValue.l1 kq a0 l4 x12_1 (l4.length : Int) x57_1 = some r) ∧ Aside0 (kq ≤ k) ∧ Aside0 (Below w.heap.size w w'))
          case atStart => exact ⟨(0), (0), (by first | rfl | (simp; done) | (simp [*]; done)), (by first | rfl | (simp; done) | (simp [*]; done)), H', ⟨Nat.le_refl _⟩, ⟨by repeat (first | (with_reducible first | exact HB.out | apply below_alloc | apply pw_below_drewN | apply below_drew1) | exact HB.out)⟩⟩
          case round =>
            clear H'
            try clear c1
            try clear p1
            try clear q1
            try clear hx1
            try clear c2
            try clear p2
            try clear c3
            try clear c4
            try clear p6
            try clear c7
            try clear c7b0
            try clear c7b1
            try clear c8
            try clear c9
            try clear c9b0
            try clear c10
            try clear c10b0
            try clear c11
            try clear c11b0
            try clear c16
            try clear c16b0
            try clear c16b1
            try clear p16
            try clear q16
            try clear hx16
            try clear c17
            try clear c17b0
            try clear p17
            try clear q17
            try clear hx17
            try clear c18
            try clear c18b0
            try clear c24
            try clear c24b0
            try clear c24b1
            try clear c25
            try clear c25b0
            try clear c26
            try clear c26b0
            try clear c27
            try clear c27b0
            try clear c27b1
            try clear c31
            try clear c31b0
            try clear c31b1
            try clear hcz14_0
            try clear hcz14_1
            try clear hfz14_0
            try clear hfz14_1
            try clear hx168_0
            try clear hx168_1
            try clear hx171_0
            try clear hx175_0
            try clear p168
            try clear p171
            try clear p175
            try clear p2
            try clear q168
            try clear q171
            try clear q175
            obtain ⟨x12_1, x57_1, rfl, rfl, HA, HK1, HB⟩ := hrel
            cases gk with
            | zero => exact absurd HA.out (by simp [spec_pzValue.l1])
            | succ k1 =>
              have H := HA.out
              clear HA
              simp only [spec_pzValue.l1] at H
              by_cases c33 : x57_1 < (l4.length : Int)
              · rw [if_pos c33] at H
                have c33b0 : decide (x57_1 < (l4.length : Int)) = true := decide_eq_true c33
                clear c33
                replace H := Option.bind_eq_some_iff.mp H
                obtain ⟨t176, A340, H⟩ := H
                replace H : (if t176 = 0 then (spec_pzValue.l1 k1 a0 l4 (wrap64 (x12_1 + 1)) (l4.length : Int) (wrap64 (x57_1 + 1))) else (spec_pzValue.l1 k1 a0 l4 x12_1 (l4.length : Int) (wrap64 (x57_1 + 1)))) = some r := H
                have A34 := Aside0.mk A340
                clear A340
                by_cases c35 : t176 = 0
                · rw [if_pos c35] at H
                  have c35b0 : (t176 == 0) = true := beq_iff_eq.mpr c35
                  have c35b1 : (t176 != 0) = false := bne_eq_false_iff_eq.mpr c35
                  clear c35
                  have H' := Aside0.mk H
                  clear H
                  go_wp2_with (first | ((with_reducible refine gate_callee (f := 107) rfl ?_); refine goesL_ (some 63) rfl rfl Try.func107 (by kernel_rfl) rfl #[.int .i64 a0, .slice A4 l4.length c4, .int .i64 x57_1] rfl (by (try simp only [List.map_toArray, List.map_cons, List.map_nil]); first | done | rfl | (simp only [List.length_drop, List.length_take]; rfl)) ?_; (with_reducible refine (spec_caLearned.calls k1 a0 _ _ l4 x57_1 t176 _ ?side1 ?side2 A34.out).mono ?_); (case side1 => repeat (first | exact (Kd.C_below HR4.out HB.out) | (with_reducible refine Kd.C_alloc ?_ _) | (with_reducible refine Kd.C_drewN ?_ _) | (with_reducible refine Kd.C_drew ?_))); (case side2 => exact HC4.out); rintro e w36 ⟨rfl, hb⟩; refine ⟨_, rfl, ?_⟩; have n0_ := Aside0.mk (below_step (by repeat (first | (with_reducible first | exact HB.out | apply below_alloc | apply pw_below_drewN | apply below_drew1) | exact HB.out)) hb); clear HB; have HB := n0_; clear n0_; (try clear hb); (try clear hb2); (try clear hk); (try clear hi)))
                  go_roundg k1
                  case measure => have := HK1.out; omega
                  case rel => exact ⟨(wrap64 (x12_1 + 1)), (wrap64 (x57_1 + 1)), (by first | rfl | (simp; done) | (simp [*]; done)), (by first | rfl | (simp; done) | (simp [*]; done)), H', ⟨by have := HK1.out; omega⟩, ⟨by repeat (first | (with_reducible first | exact HB.out | apply below_alloc | apply pw_below_drewN | apply below_drew1) | exact HB.out)⟩⟩
                · rw [if_neg c35] at H
                  have c35b0 : (t176 == 0) = false := beq_eq_false_iff_ne.mpr c35
                  have c35b1 : (t176 != 0) = true := bne_iff_ne.mpr c35
                  have H' := Aside0.mk H
                  clear H
                  go_wp2_with (first | ((with_reducible refine gate_callee (f := 107) rfl ?_); refine goesL_ (some 63) rfl rfl Try.func107 (by kernel_rfl) rfl #[.int .i64 a0, .slice A4 l4.length c4, .int .i64 x57_1] rfl (by (try simp only [List.map_toArray, List.map_cons, List.map_nil]); first | done | rfl | (simp only [List.length_drop, List.length_take]; rfl)) ?_; (with_reducible refine (spec_caLearned.calls k1 a0 _ _ l4 x57_1 t176 _ ?side1 ?side2 A34.out).mono ?_); (case side1 => repeat (first | exact (Kd.C_below HR4.out HB.out) | (with_reducible refine Kd.C_alloc ?_ _) | (with_reducible refine Kd.C_drewN ?_ _) | (with_reducible refine Kd.C_drew ?_))); (case side2 => exact HC4.out); rintro e w37 ⟨rfl, hb⟩; refine ⟨_, rfl, ?_⟩; have n0_ := Aside0.mk (below_step (by repeat (first | (with_reducible first | exact HB.out | apply below_alloc | apply pw_below_drewN | apply below_drew1) | exact HB.out)) hb); clear HB; have HB := n0_; clear n0_; (try clear hb); (try clear hb2); (try clear hk); (try clear hi)))
                  go_roundg k1
                  case measure => have := HK1.out; omega
                  case rel => exact ⟨(x12_1), (wrap64 (x57_1 + 1)), (by first | rfl | (simp; done) | (simp [*]; done)), (by first | rfl | (simp; done) | (simp [*]; done)), H', ⟨by have := HK1.out; omega⟩, ⟨by repeat (first | (with_reducible first | exact HB.out | apply below_alloc | apply pw_below_drewN | apply below_drew1) | exact HB.out)⟩⟩
              · rw [if_neg c33] at H
                have c33b0 : decide (x57_1 < (l4.length : Int)) = false := decide_eq_false c33
                clear c33
                obtain rfl := Option.some.inj H
                go_wp2
                go_ret
                exact ⟨by first | rfl | (simp [errW_none, errW_some] <;> rfl) | (simp [*, errW_none, errW_some] <;> rfl), by repeat (first | (with_reducible first | exact HB.out | apply below_alloc | apply pw_below_drewN | apply below_drew1) | exact HB.out)⟩
        · rw [if_neg c31] at H
          have c31b0 : (a1 == 3) = false := beq_eq_false_iff_ne.mpr c31
          have c31b1 : (a1 != 3) = true := bne_iff_ne.mpr c31
          by_cases c38 : a1 = 4
          · rw [if_pos c38] at H
            have c38b0 : (a1 == 4) = true := beq_iff_eq.mpr c38
            have c38b1 : (a1 != 4) = false := bne_eq_false_iff_eq.mpr c38
            clear c38
            by_cases c39 : 0 ≤ a2
            · rw [if_pos c39] at H
              have c39b0 : decide (0 ≤ a2) = true := decide_eq_true c39
              clear c39
              by_cases c40 : a2 < (l4.length : Int)
              · rw [if_pos c40] at H
                have c40b0 : decide (a2 < (l4.length : Int)) = true := decide_eq_true c40
                clear c40
                replace H := Option.bind_eq_some_iff.mp H
                obtain ⟨t178, A410, H⟩ := H
                replace H : (some t178) = some r := H
                have A41 := Aside0.mk A410
                clear A410
                obtain rfl := Option.some.inj H
                go_enter Try.func86, Try.ntmps86
                go_wp2_with (first | ((with_reducible refine gate_callee (f := 104) rfl ?_); refine goesL_ (some 18) rfl rfl Try.func104 (by kernel_rfl) rfl #[.int .i64 a0, .slice A4 l4.length c4] rfl (by (try simp only [List.map_toArray, List.map_cons, List.map_nil]); first | done | rfl | (simp only [List.length_drop, List.length_take]; rfl)) ?_; (with_reducible refine (spec_caPlay.calls k a0 _ _ l4 t165 _ ?side1 ?side2 A6.out).mono ?_); (case side1 => repeat (first | exact HR4.out | (with_reducible refine Kd.C_alloc ?_ _) | (with_reducible refine Kd.C_drewN ?_ _) | (with_reducible refine Kd.C_drew ?_))); (case side2 => exact HC4.out); rintro e w42 ⟨v166, rfl, ho0, hb⟩; refine ⟨_, rfl, ?_⟩; have n0_ := Aside0.mk (Kd.R_lower ho0 (below_size (by repeat (first | (with_reducible first | exact HB.out | apply below_alloc | apply pw_below_drewN | apply below_drew1) | exact HB.out)))); have n1_ := Aside0.mk (below_step (by repeat (first | (with_reducible first | exact HB.out | apply below_alloc | apply pw_below_drewN | apply below_drew1) | exact HB.out)) hb); clear HB; have HO167 := n0_; have HB := n1_; clear n0_ n1_; (try clear hb); (try clear hb2); (try clear hk); (try clear hi); (try clear ho0); have p177 : 0 ≤ (a2 : Int) := of_decide_eq_true (by first | (with_reducible assumption) | assumption); have q177 : a2 < (l4.length : Int) := of_decide_eq_true (by first | (with_reducible assumption) | assumption); obtain ⟨ad177, e177, hx177_0, hx177_1⟩ := at_T74 HR4.out a2 p177 q177; cases e177; replace hx177_0 := (HB.out.cell (World.block_lt_of_cell? w _ hx177_0)).trans hx177_0; replace hx177_1 := (HB.out.cell (World.block_lt_of_cell? w _ hx177_1)).trans hx177_1; replace p177 := eq_true p177; replace q177 := eq_true q177) | ((with_reducible refine gate_callee (f := 105) rfl ?_); refine goesL_ (some 75) rfl rfl Try.func105 (by kernel_rfl) rfl #[.agg #[.int .i64 ((rd_T74 l4 a2).f0), .int .i64 ((rd_T74 l4 a2).f1)], .int .i64 a3] rfl (by (try simp only [List.map_toArray, List.map_cons, List.map_nil]); first | done | rfl | (simp only [List.length_drop, List.length_take]; rfl)) ?_; (with_reducible refine (spec_pzIn.calls ((rd_T74 l4 a2).f0) ((rd_T74 l4 a2).f1) a3 t178 _ A41.out).mono ?_); rintro e w43 ⟨rfl, hb⟩; refine ⟨_, rfl, ?_⟩; have n0_ := Aside0.mk (Kd.R_below (by (with_reducible repeat (first | apply Kd.R_alloc | apply Kd.R_drewN | apply Kd.R_drew)); exact HO167.out) hb); have n1_ := Aside0.mk (below_step (by repeat (first | (with_reducible first | exact HB.out | apply below_alloc | apply pw_below_drewN | apply below_drew1) | exact HB.out)) hb); clear HO167; clear HB; have HO167 := n0_; have HB := n1_; clear n0_ n1_; (try clear hb); (try clear hb2); (try clear hk); (try clear hi)))
                go_ret
                exact ⟨by first | rfl | (simp [errW_none, errW_some] <;> rfl) | (simp [*, errW_none, errW_some] <;> rfl), by repeat (first | (with_reducible first | exact HB.out | apply below_alloc | apply pw_below_drewN | apply below_drew1) | exact HB.out)⟩
              · rw [if_neg c40] at H
                exact absurd H (by simp)
            · rw [if_neg c39] at H
              exact absurd H (by simp)
          · rw [if_neg c38] at H
            have c38b0 : (a1 == 4) = false := beq_eq_false_iff_ne.mpr c38
            have c38b1 : (a1 != 4) = true := bne_iff_ne.mpr c38
            replace H := Option.bind_eq_some_iff.mp H
            obtain ⟨t179, A440, H⟩ := H
            replace H : (some t179) = some r := H
            have A44 := Aside0.mk A440
            clear A440
            obtain rfl := Option.some.inj H
            go_enter Try.func86, Try.ntmps86
            go_wp2_with (first | ((with_reducible refine gate_callee (f := 104) rfl ?_); refine goesL_ (some 18) rfl rfl Try.func104 (by kernel_rfl) rfl #[.int .i64 a0, .slice A4 l4.length c4] rfl (by (try simp only [List.map_toArray, List.map_cons, List.map_nil]); first | done | rfl | (simp only [List.length_drop, List.length_take]; rfl)) ?_; (with_reducible refine (spec_caPlay.calls k a0 _ _ l4 t165 _ ?side1 ?side2 A6.out).mono ?_); (case side1 => repeat (first | exact HR4.out | (with_reducible refine Kd.C_alloc ?_ _) | (with_reducible refine Kd.C_drewN ?_ _) | (with_reducible refine Kd.C_drew ?_))); (case side2 => exact HC4.out); rintro e w45 ⟨v166, rfl, ho0, hb⟩; refine ⟨_, rfl, ?_⟩; have n0_ := Aside0.mk (Kd.R_lower ho0 (below_size (by repeat (first | (with_reducible first | exact HB.out | apply below_alloc | apply pw_below_drewN | apply below_drew1) | exact HB.out)))); have n1_ := Aside0.mk (below_step (by repeat (first | (with_reducible first | exact HB.out | apply below_alloc | apply pw_below_drewN | apply below_drew1) | exact HB.out)) hb); clear HB; have HO167 := n0_; have HB := n1_; clear n0_ n1_; (try clear hb); (try clear hb2); (try clear hk); (try clear hi); (try clear ho0); obtain ⟨Ao46, co46, eo46⟩ := Kd.R_slice HO167.out; subst eo46) | ((with_reducible refine gate_callee (f := 108) rfl ?_); refine goesL_ (some 21) rfl rfl Try.func108 (by kernel_rfl) rfl #[.slice Ao46 t165.length co46] rfl (by (try simp only [List.map_toArray, List.map_cons, List.map_nil]); first | done | rfl | (simp only [List.length_drop, List.length_take]; rfl)) ?_; (with_reducible refine (spec_caCount.calls k _ _ t165 t179 _ ?side1 ?side2 A44.out).mono ?_); (case side1 => repeat (first | exact (Kd.R_reads' HO167.out).2.2 | (with_reducible refine Kd.C_alloc ?_ _) | (with_reducible refine Kd.C_drewN ?_ _) | (with_reducible refine Kd.C_drew ?_))); (case side2 => exact (Kd.R_reads' HO167.out).2.1); rintro e w47 ⟨rfl, hb⟩; refine ⟨_, rfl, ?_⟩; have n0_ := Aside0.mk (Kd.R_below (by (with_reducible repeat (first | apply Kd.R_alloc | apply Kd.R_drewN | apply Kd.R_drew)); exact HO167.out) hb); have n1_ := Aside0.mk (below_step (by repeat (first | (with_reducible first | exact HB.out | apply below_alloc | apply pw_below_drewN | apply below_drew1) | exact HB.out)) hb); clear HO167; clear HB; have HO167 := n0_; have HB := n1_; clear n0_ n1_; (try clear hb); (try clear hb2); (try clear hk); (try clear hi)))
            go_ret
            exact ⟨by first | rfl | (simp [errW_none, errW_some] <;> rfl) | (simp [*, errW_none, errW_some] <;> rfl), by repeat (first | (with_reducible first | exact HB.out | apply below_alloc | apply pw_below_drewN | apply below_drew1) | exact HB.out)⟩

/-! ### spec_pzFits: function 53 -/
def spec_pzFits.f (k : Nat) (a0 : Int) (a1_0 : Int) (a1_1 : Int) (a1_2 : Int) (a1_3 : Int) (l2 : List (S74)) : Option (Bool) := (spec_pzValue.f k a0 a1_0 a1_1 a1_2 l2).bind fun t181 => (some (t181 == a1_3))
theorem spec_pzFits.mono : ∀ a0 a1 a2 a3 a4 a5 k, LeO (spec_pzFits.f k a0 a1 a2 a3 a4 a5) (spec_pzFits.f (k + 1) a0 a1 a2 a3 a4 a5) := by
  intro a0 a1 a2 a3 a4 a5 k
  unfold spec_pzFits.f
  repeat' first
      | (with_reducible exact spec_pzValue.mono _ _ _ _ _ _)
      | (with_reducible exact LeO.refl _)
      | (with_reducible exact LeO.none _)
      | (with_reducible refine LeO.ite ?_ ?_)
      | (with_reducible refine LeO.bind ?_ (fun _ => ?_))
      | exact spec_pzValue.mono _ _ _ _ _ _
      | exact LeO.none _
      | refine LeO.ite ?_ ?_
      | refine LeO.bind ?_ (fun _ => ?_)
def spec_pzFits.T1 : Bool × List (List Nat × List Nat) := (true, [([], []), ([], []), ([1], [1]), ([], []), ([3], [3]), ([], []), ([5], [5]), ([], []), ([0, 2, 4, 6, 7], [0, 2, 4, 6, 7]), ([], []), ([9], [9]), ([8, 10], [8, 10]), ([11, 8, 0, 1, 2, 3, 4, 5, 6, 7, 8, 9, 10, 11], [11])])
def spec_pzFits.B1 : List Nat := [0, 0, 2, 0, 8, 0, 32, 0, 255, 0, 512, 2047, 4095]
theorem spec_pzFits.tab1 : rtab .any (opsOf Try.f53 1) = spec_pzFits.T1 := by kernel_rfl
theorem spec_pzFits.bits1 : waitsOk spec_pzFits.T1.2 spec_pzFits.B1 = true := by kernel_rfl
set_option maxHeartbeats 8000000 in
set_option maxRecDepth 100000 in
theorem spec_pzFits.calls (k : Nat) (a0 : Int) (a1_0 : Int) (a1_1 : Int) (a1_2 : Int) (a1_3 : Int) (A2 : Option Addr) (c2 : Nat) (l2 : List (S74)) (r : Bool) (w : World) (hr2 : Kd.C k74 w A2 l2.length l2) (hc2 : l2.length ≤ c2) (h : spec_pzFits.f k a0 a1_0 a1_1 a1_2 a1_3 l2 = some r) :
    Calls Try.prog 53 #[.int .i64 a0, .agg #[.int .i64 a1_0, .int .i64 a1_1, .int .i64 a1_2, .int .i64 a1_3], .slice A2 l2.length c2] w fun e w' => e = .returned (.bool r) ∧ Below w.heap.size w w' := by
  have hu31 := Try.underlying31
  have HR2 := Aside0.mk hr2
  have HC2 := Aside0.mk hc2
  clear hr2 hc2
  have HB := Aside0.mk (Below.refl w.heap.size w)
  have H : ((spec_pzValue.f k a0 a1_0 a1_1 a1_2 l2).bind fun t181 => (some (t181 == a1_3))) = some r := h
  clear h
  replace H := Option.bind_eq_some_iff.mp H
  obtain ⟨t181, A40, H⟩ := H
  replace H : (some (t181 == a1_3)) = some r := H
  have A4 := Aside0.mk A40
  clear A40
  obtain rfl := Option.some.inj H
  go_enter Try.func53, Try.ntmps53
  try go_wp2_with (first | ((with_reducible refine gate_dst (N := 4) rfl ?_); refine box_event ?hg (N := 4) ?hd (cs := #[.int .i64 a1_0, .int .i64 a1_1, .int .i64 a1_2, .int .i64 a1_3]) (t := 31) ?hr ?_; (case hd => rfl); (case hg => rfl); (case hr => first | (go_simp; done) | (go_simp; rfl)); intro gb180 hg w5 hbox hb; have n0_ := Aside0.mk (below_step (by repeat (first | (with_reducible first | exact HB.out | apply below_alloc | apply pw_below_drewN | apply below_drew1) | exact HB.out)) hb); have n1_ := Aside0.mk (hbox); have n2_ := Aside0.mk ((by rw [hg]; exact (below_size (by repeat (first | (with_reducible first | exact HB.out | apply below_alloc | apply pw_below_drewN | apply below_drew1) | exact HB.out))) : w.heap.size ≤ gb180)); have n3_ := Aside0.mk ((by rw [hg]; exact (below_size (by repeat (first | (with_reducible first | exact HB.out | apply below_alloc | apply pw_below_drewN | apply below_drew1) | exact HB.out))) : w.heap.size ≤ gb180)); clear HB; have HB := n0_; have BK180 := n1_; have GW180 := n2_; have GE180 := n3_; clear n0_ n1_ n2_ n3_; clear hb hbox hg))
  have n0_ := Aside0.mk (blk_drew BK180.out)
  have n1_ := Aside0.mk (below_drew1 HB.out)
  clear BK180
  clear HB
  have BK180 := n0_
  have HB := n1_
  clear n0_ n1_
  refine start_ (n := 13) (S := fun w' => w'.cell? ⟨gb180, 0, none⟩ = some (.int .i64 a1_0) ∧ w'.cell? ⟨gb180, 1, none⟩ = some (.int .i64 a1_1) ∧ w'.cell? ⟨gb180, 2, none⟩ = some (.int .i64 a1_2) ∧ w'.cell? ⟨gb180, 3, none⟩ = some (.int .i64 a1_3)) (ds := []) #[false, false, false, false, false, false, false, false, false, false, false, false, false] (by kernel_rfl) rfl rfl ⟨(blk_cell BK180.out 0).trans rfl, (blk_cell BK180.out 1).trans rfl, (blk_cell BK180.out 2).trans rfl, (blk_cell BK180.out 3).trans rfl⟩ (fun hHeld => ?_); refine with_tabW spec_pzFits.tab1 spec_pzFits.bits1 (fun HT_ HW_ => ?_)
  generalize w5.drew = w6 at BK180 HB hHeld ⊢
  refine pure_ (i := 0) (N := some 7) (v := ?_) (a' := ?_) #[true, false, false, false, false, false, false, false, false, false, false, false, false] rfl rfl (any_of HT_.out (by kernel_rfl)) (fun _ _ _ h => h) (Or.inl ⟨by rfl, ?_⟩) ?_ ?_
  rotate_left
  · intro w'
    go_simp
    with_reducible rfl
  rotate_left
  · simp only [Act.put, List.setIfInBounds_toArray, List.set_cons_zero, List.set_cons_succ, i64_w, i32_w]
    rfl
  refine pure_ (i := 1) (N := some 8) (v := ?_) (a' := ?_) #[true, true, false, false, false, false, false, false, false, false, false, false, false] rfl rfl (any_of HT_.out (by kernel_rfl)) (fun _ _ _ h => h) (Or.inl ⟨by rfl, ?_⟩) ?_ ?_
  rotate_left
  · intro w'
    go_simp
    with_reducible rfl
  rotate_left
  · simp only [Act.put, List.setIfInBounds_toArray, List.set_cons_zero, List.set_cons_succ, i64_w, i32_w]
    rfl
  refine pure_ (i := 3) (N := some 10) (v := ?_) (a' := ?_) #[true, true, false, true, false, false, false, false, false, false, false, false, false] rfl rfl (any_of HT_.out (by kernel_rfl)) (fun _ _ _ h => h) (Or.inl ⟨by rfl, ?_⟩) ?_ ?_
  rotate_left
  · intro w'
    go_simp
    with_reducible rfl
  rotate_left
  · simp only [Act.put, List.setIfInBounds_toArray, List.set_cons_zero, List.set_cons_succ, i64_w, i32_w]
    rfl
  refine pure_ (i := 5) (N := some 12) (v := ?_) (a' := ?_) #[true, true, false, true, false, true, false, false, false, false, false, false, false] rfl rfl (any_of HT_.out (by kernel_rfl)) (fun _ _ _ h => h) (Or.inl ⟨by rfl, ?_⟩) ?_ ?_
  rotate_left
  · intro w'
    go_simp
    with_reducible rfl
  rotate_left
  · simp only [Act.put, List.setIfInBounds_toArray, List.set_cons_zero, List.set_cons_succ, i64_w, i32_w]
    rfl
  refine pure_ (i := 7) (N := some 14) (v := ?_) (a' := ?_) #[true, true, false, true, false, true, false, true, false, false, false, false, false] rfl rfl (any_of HT_.out (by kernel_rfl)) (fun _ _ _ h => h) (Or.inl ⟨by rfl, ?_⟩) ?_ ?_
  rotate_left
  · intro w'
    go_simp
    with_reducible rfl
  rotate_left
  · simp only [Act.put, List.setIfInBounds_toArray, List.set_cons_zero, List.set_cons_succ, i64_w, i32_w]
    rfl
  refine pure_ (i := 9) (N := some 16) (v := ?_) (a' := ?_) #[true, true, false, true, false, true, false, true, false, true, false, false, false] rfl rfl (any_of HT_.out (by kernel_rfl)) (fun _ _ _ h => h) (Or.inl ⟨by rfl, ?_⟩) ?_ ?_
  rotate_left
  · intro w'
    go_simp
    with_reducible rfl
  rotate_left
  · simp only [Act.put, List.setIfInBounds_toArray, List.set_cons_zero, List.set_cons_succ, i64_w, i32_w]
    rfl
  refine take_ (i := 2) (N := some 9) (v := ?_) (a' := ?_) #[true, true, true, true, false, true, false, true, false, true, false, false, false] rfl rfl (take_ofW HT_.out HW_.out (by kernel_rfl)) (fun _ _ _ h => h) (Or.inl ⟨by rfl, ?_⟩) hHeld ?_ ?_
  rotate_left
  · rintro w' ⟨s0, s1, s2, s3⟩
    go_simp
    with_reducible rfl
  rotate_left
  · simp only [Act.put, List.setIfInBounds_toArray, List.set_cons_zero, List.set_cons_succ, i64_w, i32_w]
    rfl
  refine take_ (i := 4) (N := some 11) (v := ?_) (a' := ?_) #[true, true, true, true, true, true, false, true, false, true, false, false, false] rfl rfl (take_ofW HT_.out HW_.out (by kernel_rfl)) (fun _ _ _ h => h) (Or.inl ⟨by rfl, ?_⟩) hHeld ?_ ?_
  rotate_left
  · rintro w' ⟨s0, s1, s2, s3⟩
    go_simp
    with_reducible rfl
  rotate_left
  · simp only [Act.put, List.setIfInBounds_toArray, List.set_cons_zero, List.set_cons_succ, i64_w, i32_w]
    rfl
  refine take_ (i := 6) (N := some 13) (v := ?_) (a' := ?_) #[true, true, true, true, true, true, true, true, false, true, false, false, false] rfl rfl (take_ofW HT_.out HW_.out (by kernel_rfl)) (fun _ _ _ h => h) (Or.inl ⟨by rfl, ?_⟩) hHeld ?_ ?_
  rotate_left
  · rintro w' ⟨s0, s1, s2, s3⟩
    go_simp
    with_reducible rfl
  rotate_left
  · simp only [Act.put, List.setIfInBounds_toArray, List.set_cons_zero, List.set_cons_succ, i64_w, i32_w]
    rfl
  refine take_ (i := 10) (N := some 17) (v := ?_) (a' := ?_) #[true, true, true, true, true, true, true, true, false, true, true, false, false] rfl rfl (take_ofW HT_.out HW_.out (by kernel_rfl)) (fun _ _ _ h => h) (Or.inl ⟨by rfl, ?_⟩) hHeld ?_ ?_
  rotate_left
  · rintro w' ⟨s0, s1, s2, s3⟩
    go_simp
    with_reducible rfl
  rotate_left
  · simp only [Act.put, List.setIfInBounds_toArray, List.set_cons_zero, List.set_cons_succ, i64_w, i32_w]
    rfl
  refine one_ (i := 8) (N := some 15) #[true, true, true, true, true, true, true, true, true, true, true, false, false] rfl rfl (one_of HT_.out (by kernel_rfl)) (by decide) (fun K hK => ?_)
  refine goes_ Try.func86 (by kernel_rfl) rfl #[.int .i64 a0, .int .i64 a1_0, .int .i64 a1_1, .int .i64 a1_2, .slice A2 l2.length c2] (by rfl) rfl rfl (by (try simp only [List.map_toArray, List.map_cons, List.map_nil]); first | done | rfl | (simp only [List.length_drop, List.length_take]; rfl)) ?_
  with_reducible refine (spec_pzValue.calls k a0 a1_0 a1_1 a1_2 _ _ l2 t181 _ ?side1 ?side2 A4.out).mono ?_
  (case side1 => repeat (first | exact (Kd.C_below HR2.out HB.out) | (with_reducible refine Kd.C_alloc ?_ _) | (with_reducible refine Kd.C_drewN ?_ _) | (with_reducible refine Kd.C_drew ?_)))
  (case side2 => exact HC2.out)
  rintro e w7 ⟨rfl, hb⟩
  refine ⟨_, rfl, ?_⟩
  have n0_ := Aside0.mk (blk_below (g := gb180) (o := .cells #[.int .i64 a1_0, .int .i64 a1_1, .int .i64 a1_2, .int .i64 a1_3] 31 (0, 0)) (by (with_reducible repeat (first | refine blk_drewN ?_ _ | refine blk_drew ?_ | refine blk_alloc ?_ _)); exact BK180.out) hb)
  have n1_ := Aside0.mk (below_step (by repeat (first | (with_reducible first | exact HB.out | apply below_alloc | apply pw_below_drewN | apply below_drew1 | refine below_set ?_ GE180.out) | exact HB.out)) hb)
  clear BK180
  clear HB
  have BK180 := n0_
  have HB := n1_
  clear n0_ n1_
  (try clear hb)
  (try clear hb2)
  (try clear hk)
  (try clear hi)
  refine hK.out _ _ ⟨(blk_cell BK180.out 0).trans rfl, (blk_cell BK180.out 1).trans rfl, (blk_cell BK180.out 2).trans rfl, (blk_cell BK180.out 3).trans rfl⟩ (fun hHeld => ?_)
  clear hK K
  refine norm_ (a' := ?_) ?_ ?_
  rotate_left
  · show Act.put _ (some 15) _ = _
    simp only [Act.put, List.setIfInBounds_toArray, List.set_cons_zero, List.set_cons_succ, i64_w, i32_w]
    rfl
  refine pure_ (i := 11) (N := some 18) (v := ?_) (a' := ?_) #[true, true, true, true, true, true, true, true, true, true, true, true, false] rfl rfl (any_of HT_.out (by kernel_rfl)) (fun _ _ _ h => h) (Or.inl ⟨by rfl, ?_⟩) ?_ ?_
  rotate_left
  · intro w'
    go_simp
    with_reducible rfl
  rotate_left
  · simp only [Act.put, List.setIfInBounds_toArray, List.set_cons_zero, List.set_cons_succ, i64_w, i32_w]
    rfl
  refine pure_ (i := 12) (N := some 6) (v := ?_) (a' := ?_) #[true, true, true, true, true, true, true, true, true, true, true, true, true] rfl rfl (any_of HT_.out (by kernel_rfl)) (fun _ _ _ h => h) (Or.inl ⟨by rfl, ?_⟩) ?_ ?_
  rotate_left
  · intro w'
    go_simp
    with_reducible rfl
  rotate_left
  · simp only [Act.put, List.setIfInBounds_toArray, List.set_cons_zero, List.set_cons_succ, i64_w, i32_w]
    rfl
  refine done_ (done_of HT_.out (by kernel_rfl)) ?_
  try go_wp2
  go_ret
  exact ⟨by first | rfl | (simp [errW_none, errW_some] <;> rfl) | (simp [*, errW_none, errW_some] <;> rfl), by repeat (first | (with_reducible first | exact HB.out | apply below_alloc | apply pw_below_drewN | apply below_drew1 | refine below_set ?_ GE180.out) | exact HB.out)⟩

/-! ### spec_pzLook: function 79, by hand -/
def fitsS (k : Nat) (n : Int) (l : List S74) (c : S31) : Bool := (spec_pzFits.f k n c.f0 c.f1 c.f2 c.f3 l).getD false
/-- all that is asked is told -/
def lookOk (k N : Nat) (cs : List S31) : Nat → List S74 → Bool
  | 0, l => cs.all fun c => (spec_pzFits.f k (N : Int) c.f0 c.f1 c.f2 c.f3 l).isSome
  | m + 1, l => (List.range N).all fun a => (List.range (N - (a + 1))).all fun q => lookOk k N cs m (l ++ [⟨(a : Int), ((a + 1 + q : Nat) : Int)⟩])
/-- the lists that begin so, with m calls more -/
def lookL (k N : Nat) (cs : List S31) : Nat → List S74 → List (List S74)
  | 0, l => if (cs.any fun c => !fitsS k N l c) = true then [] else [l]
  | m + 1, l => (List.range N).flatMap fun a => (List.range (N - (a + 1))).flatMap fun q => lookL k N cs m (l ++ [⟨(a : Int), ((a + 1 + q : Nat) : Int)⟩])
theorem range_succ_flat {α : Type} (f : Nat → List α) (j : Nat) : (List.range (j + 1)).flatMap f = (List.range j).flatMap f ++ f j := by
  rw [List.range_succ, List.flatMap_append, List.flatMap_cons, List.flatMap_nil, List.append_nil]
theorem flat_range_len {α : Type} (f : Nat → List α) (B : Nat) (hf : ∀ i, (f i).length ≤ B) (j : Nat) : ((List.range j).flatMap f).length ≤ j * B := by
  induction j with
  | zero => simp
  | succ j ih =>
    rw [range_succ_flat, List.length_append, Nat.add_mul, Nat.one_mul]
    have := hf j
    omega
theorem lookL_len (k N : Nat) (hN : N ≤ 4) (cs : List S31) : ∀ (m : Nat) (l : List S74), (lookL k N cs m l).length ≤ 16 ^ m := by
  intro m
  induction m with
  | zero => intro l; unfold lookL; split <;> simp
  | succ m ih =>
    intro l
    unfold lookL
    refine Nat.le_trans (flat_range_len _ (4 * 16 ^ m) (fun a => Nat.le_trans (flat_range_len _ (16 ^ m) (fun q => ih _) _) (Nat.mul_le_mul_right _ (by omega))) N) ?_
    rw [Nat.pow_succ]
    have := Nat.mul_le_mul_right (4 * 16 ^ m) hN
    omega
structure LPre (bO : Nat) (ok : Nat → Prop) (W W1 : World) : Prop where
  size : W.heap.size ≤ W1.heap.size
  block : ∀ k, k < W.heap.size → ¬ ok k → k ≠ bO → W1.heap[k]? = W.heap[k]?
theorem LPre.refl (bO : Nat) (ok : Nat → Prop) (W : World) : LPre bO ok W W := ⟨Nat.le_refl _, fun _ _ _ _ => rfl⟩
theorem LPre.below {bO : Nat} {ok : Nat → Prop} {W W1 W2 : World} (h : LPre bO ok W W1) (hb : Below W1.heap.size W1 W2) : LPre bO ok W W2 := ⟨Nat.le_trans h.size hb.size, fun k hk h1 h2 => (hb.block k (Nat.lt_of_lt_of_le hk h.size)).trans (h.block k hk h1 h2)⟩
theorem LPre.trans {bO : Nat} {ok okj : Nat → Prop} {W W1 W2 : World} (h : LPre bO ok W W1) (h2 : LPre bO okj W1 W2) (ho : ∀ k, okj k → ok k ∨ W.heap.size ≤ k) : LPre bO ok W W2 :=
  ⟨Nat.le_trans h.size h2.size, fun k hk n1 n2 => (h2.block k (Nat.lt_of_lt_of_le hk h.size) (fun hx => (ho k hx).elim n1 (fun hy => by omega)) n2).trans (h.block k hk n1 n2)⟩
structure LInv (w0 : World) (bO : Nat) (ok : Nat → Prop) (acc : List (List S74)) (W : World) : Prop where
  below : Below w0.heap.size w0 W
  base : w0.heap.size ≤ bO
  out : ∃ v, W.cell? ⟨bO, 0, none⟩ = some v ∧ W.frozen? ⟨bO, 0, none⟩ = false ∧ Kd.S (Kd.slice 74 k74) 33 W w0.heap.size ok v acc
  okb : ∀ k, ok k → k < W.heap.size ∧ k ≠ bO
theorem LInv.step {w0 W W1 : World} {bO : Nat} {ok : Nat → Prop} {acc : List (List S74)} (h : LInv w0 bO ok acc W) (hb : Below W.heap.size W W1) : LInv w0 bO ok acc W1 := by
  obtain ⟨v, h1, h2, h3⟩ := h.out
  refine ⟨h.below.trans (hb.mono h.below.size), h.base, ⟨v, (hb.cell (World.block_lt_of_cell? _ _ h1)).trans h1, ?_, Kd.S_below h3 hb⟩, fun k hk => ⟨Nat.lt_of_lt_of_le (h.okb k hk).1 hb.size, (h.okb k hk).2⟩⟩
  rw [← h2]
  exact hb.frozen (World.block_lt_of_cell? _ _ h1)
theorem LInv.put {w0 W w1 w2 : World} {bO : Nat} {ok okL : Nat → Prop} {acc acc' : List (List S74)} {v v1 : Value} (hI : LInv w0 bO ok acc W) (hB : Below W.heap.size W w1) (hL : ∀ k, okL k → ¬ ok k ∧ k ≠ bO) (hv : ∀ k, v.ownBlock = some k → ok k)
    (h1 : Kd.S (Kd.slice 74 k74) 33 w2 w0.heap.size (fun k => ok k ∨ okL k ∨ w1.heap.size ≤ k) v1 acc') (h2 : Below w0.heap.size w0 w2) (h3 : w1.grownBy w2 v.ownBlock) :
    (∃ ok1, LInv w0 bO ok1 acc' (w2.setCell ⟨bO, 0, none⟩ v1) ∧ ∀ k, ok1 k → ok k ∨ okL k ∨ W.heap.size ≤ k) ∧ LPre bO ok W (w2.setCell ⟨bO, 0, none⟩ v1) := by
  obtain ⟨v0, qo, qf, _⟩ := hI.out
  have zo := World.block_lt_of_cell? _ _ qo
  simp only at zo
  have hkeep : ∀ k, k < W.heap.size → some k ≠ v.ownBlock → w2.heap[k]? = W.heap[k]? := fun k hk hne => (h3.block k (Nat.lt_of_lt_of_le hk hB.size) hne).trans (hB.block k hk)
  have hso : some bO ≠ v.ownBlock := fun he => (hI.okb _ (hv _ he.symm)).2 rfl
  have hsz : (w2.setCell ⟨bO, 0, none⟩ v1).heap.size = w2.heap.size := by simp [World.setCell]
  have hle : w1.heap.size ≤ w2.heap.size := h3.size
  have hnb2 : ∀ k, (ok k ∨ okL k ∨ w1.heap.size ≤ k) → k ≠ bO := by
    rintro k (hk | hk | hk)
    · exact (hI.okb k hk).2
    · exact (hL k hk).2
    · have := hB.size
      omega
  refine ⟨⟨fun k => (ok k ∨ okL k ∨ w1.heap.size ≤ k) ∧ k < w2.heap.size, ⟨Below.setCell h2 hI.base _, hI.base, ⟨v1, ?_, ?_, ?_⟩, ?_⟩, ?_⟩, ⟨?_, ?_⟩⟩
  · exact World.cell?_setCell_same' _ _ _ (by rw [World.cell?_of_block (w := W) (hkeep bO zo hso), qo]; rfl)
  · rw [World.frozen?_setCell]
    exact (World.frozen?_of_block (hkeep bO zo hso)).trans qf
  · exact Kd.S_far (p := ⟨bO, 0, none⟩) (Kd.S_mono (Kd.S_bound h1) (fun k hk => ⟨hk.1, hk.2.2.1⟩)) (fun k hk => hnb2 k hk.1) v1
  · exact fun k hk => ⟨by rw [hsz]; exact hk.2, hnb2 k hk.1⟩
  · rintro k ⟨hk | hk | hk, _⟩
    · exact .inl hk
    · exact .inr (.inl hk)
    · exact .inr (.inr (Nat.le_trans hB.size hk))
  · rw [hsz]
    exact Nat.le_trans hB.size hle
  · exact fun k hk h1 h2 => (Below.heap_setCell w2 ⟨bO, 0, none⟩ v1 k h2).trans (hkeep k hk (fun he => h1 (hv k he.symm)))
theorem infCallSS : (Try.prog.info? 33).map (fun i => (i.zero, i.size, i.bytes)) = some (some (.slice none 0 0), 1, 24) := by kernel_rfl
theorem infCall' : (Try.prog.info? 74).map (fun i => (i.zero, i.size, i.bytes)) = some (some (.agg #[.int .i64 0, .int .i64 0]), 2, 16) := by kernel_rfl
theorem flatCall' (W w : World) (base : Nat) (okp : Nat → Prop) : ∀ x cs, k74.K w x cs → k74.M W base okp x cs := by
  intro x cs h
  obtain rfl := k74_open h
  exact k74_mkM W base okp x
theorem any_snoc' {α : Type} (p : α → Bool) (l : List α) (k : Nat) (h : k < l.length) (ha : (l.take k).any p = false) (hp : p l[k] = false) : (l.take (k + 1)).any p = false := by
  rw [List.take_succ_eq_append_getElem h, List.any_append, ha]
  simpa using hp
set_option maxHeartbeats 4000000 in
set_option maxRecDepth 100000 in
theorem look_leaf (k : Nat) (w0 : World) (bO N : Nat) (cs : List S31) (A2 : Option Addr) (c2 : Nat) (hC : Kd.C k31 w0 A2 cs.length cs) (l : List S74) (acc : List (List S74)) (W : World) (ok okL : Nat → Prop) (A : Option Addr) (c : Nat)
    (hI : LInv w0 bO ok acc W) (hR : Kd.R k74 74 W w0.heap.size okL (.slice A l.length c) l) (hL : ∀ k, okL k → ¬ ok k ∧ k ≠ bO) (hacc : acc.length < 5000) (hok : lookOk k N cs 0 l = true) :
    Calls Try.prog 79 #[.int .i64 N, .int .i64 0, .slice A2 cs.length c2, .slice A l.length c, .pointer (some ⟨bO, 0, none⟩)] W fun e W1 => e = .returned (.tuple #[]) ∧ (∃ ok1, LInv w0 bO ok1 (acc ++ lookL k N cs 0 l) W1 ∧ ∀ k, ok1 k → ok k ∨ okL k ∨ W.heap.size ≤ k) ∧ LPre bO ok W W1 := by
  have hu := Try.underlying33
  have hu2 := Try.underlying31
  obtain ⟨_, hlc, hRC⟩ := Kd.R_reads' hR
  obtain ⟨v, qo, qf, hO⟩ := hI.out
  obtain ⟨Ao, co, rfl⟩ := Kd.S_slice hO
  have z3 := World.block_lt_of_cell? _ _ qo
  have hmx := hRC.2.1
  have hmc := hC.2.1
  unfold lookOk at hok
  rw [List.all_eq_true] at hok
  have HC := Aside0.mk (fun (x : S31) (W1 : World) (hx : x ∈ cs) (hB : Below W.heap.size W W1) => spec_pzFits.calls k N x.f0 x.f1 x.f2 x.f3 A c l (fitsS k N l x) W1 (Kd.C_below hRC hB) hlc (by
    obtain ⟨b, hb⟩ := Option.isSome_iff_exists.1 (hok x hx)
    unfold fitsS
    rw [hb]
    rfl))
  have HCC := Aside0.mk (fun (W1 : World) (hB : Below W.heap.size W W1) => Kd.C_below hC (hI.below.trans (hB.mono hI.below.size)))
  have HI := Aside0.mk hI
  have HR := Aside0.mk hR
  have HL := Aside0.mk hL
  have HO := Aside0.mk hO
  have QO := Aside0.mk qo
  have QF := Aside0.mk qf
  clear hC hI hR hRC hL hok hO qo qf
  unfold lookL
  obtain ⟨RL, hRL⟩ : ∃ x_, x_ = (if (cs.any fun c => !fitsS k N l c) = true then [] else [l]) := ⟨_, rfl⟩
  rw [← hRL]
  have HRL := Aside0.mk hRL
  clear hRL
  go_enter Try.func79, Try.ntmps79
  go_wp2
  go_loopw [19] (fun n wr => ∃ i : Nat, i ≤ cs.length ∧ n = .int .i64 i ∧ Aside0 ((cs.take i).any (fun c => !fitsS k N l c) = false) ∧ Aside0 (Below W.heap.size W wr)) (fun n _ => cs.length - (intOf n).toNat)
  case atStart => exact ⟨0, Nat.zero_le _, rfl, ⟨rfl⟩, ⟨by repeat (first | exact Below.refl _ _ | apply below_alloc)⟩⟩
  case round =>
    obtain ⟨i, hi, rfl, HA, HB⟩ := hrel
    by_cases hlt : i < cs.length
    · have p1 : (0 : Int) ≤ (i : Int) := by omega
      have q1 : (i : Int) < (cs.length : Int) := by omega
      obtain ⟨ad, e1, hx0, hx1, hx2, hx3⟩ := at_T31 (HCC.out wr HB.out) (i : Int) p1 q1
      cases e1
      simp only [Int.toNat_natCast] at hx0 hx1 hx2 hx3
      have he : rd_T31 cs (i : Int) = cs[i] := by simp [rd_T31, List.getD_eq_getElem?_getD, List.getElem?_eq_getElem hlt]
      rw [he] at hx0 hx1 hx2 hx3
      have HF := Aside0.mk (fun (W1 : World) (hB : Below wr.heap.size wr W1) => HC.out cs[i] W1 (List.getElem_mem hlt) (HB.out.trans (hB.mono HB.out.size)))
      obtain ⟨f, hf⟩ : ∃ f, fitsS k N l cs[i] = f := ⟨_, rfl⟩
      rw [hf] at HF
      have HV := Aside0.mk hf
      clear hf he
      cases f with
      | false =>
        go_wp2_with (go_at_call 53; refine (HF.out _ ?s1).mono ?_; (case s1 => repeat (first | exact Below.refl _ _ | apply below_alloc | apply pw_below_drewN | apply below_drew1)); rintro e w1 ⟨rfl, hb⟩; have HB1 := Aside0.mk (show Below wr.heap.size wr w1 from below_step (by repeat (first | exact Below.refl _ _ | apply below_alloc | apply pw_below_drewN | apply below_drew1)) hb); clear hb)
        (try simp only [Exit.inBlock, Exit.then])
        refine bodyPost_ret (results_none rfl _ _ _) rfl ?_
        have hbw : Below W.heap.size W w1 := HB.out.trans (HB1.out.mono HB.out.size)
        have hrl : RL = [] := HRL.out.trans (if_pos (List.any_eq_true.2 ⟨cs[i], List.getElem_mem hlt, by rw [HV.out]; rfl⟩))
        subst hrl
        exact ⟨rfl, ⟨ok, by simpa using HI.out.step hbw, fun k hk => .inl hk⟩, (LPre.refl _ _ _).below hbw⟩
      | true =>
        go_wp2_with (go_at_call 53; refine (HF.out _ ?s2).mono ?_; (case s2 => repeat (first | exact Below.refl _ _ | apply below_alloc | apply pw_below_drewN | apply below_drew1)); rintro e w1 ⟨rfl, hb⟩; have HB1 := Aside0.mk (show Below wr.heap.size wr w1 from below_step (by repeat (first | exact Below.refl _ _ | apply below_alloc | apply pw_below_drewN | apply below_drew1)) hb); clear hb)
        go_roundw
        case rel => exact ⟨i + 1, by omega, by go_num, ⟨any_snoc' _ cs i hlt HA.out (by rw [HV.out]; rfl)⟩, ⟨HB.out.trans (HB1.out.mono HB.out.size)⟩⟩
        case measure => simp [intOf]; omega
    · have e1 := (HB.out.cell z3).trans QO.out
      have e2 : wr.frozen? ⟨bO, 0, none⟩ = false := (HB.out.frozen z3).trans QF.out
      have hany : (cs.any fun c => !fitsS k N l c) = false := by have h := HA.out; rw [List.take_of_length_le (by omega)] at h; exact h
      have hrl : RL = [l] := HRL.out.trans (by rw [hany]; rfl)
      subst hrl
      clear hany
      go_wp2_with (at_builtin; refine Kd.S_append (Kd.slice 74 k74) (w0 := w0) w0.heap.size rfl (.tmp 32) (.tmp 34) 49 33 (.slice none 0 0) 24 rfl Try.underlying49 infCallSS rfl (by decide) (by decide) _ acc l [.slice A l.length c] (fun k => ok k ∨ okL k ∨ wr.heap.size ≤ k) okL rfl rfl ⟨_, rfl, Kd.R_below HR.out HB.out⟩ (fun k hk => ⟨.inr (.inl hk), fun he => (HL.out k hk).1 ((Kd.S_R HO.out).1 k he.symm)⟩) (fun k hk => .inr (.inr hk)) (Kd.S_mono (Kd.S_below HO.out HB.out) (fun k hk => ⟨.inl hk, fun hx => (HL.out k hx).1 hk⟩)) (HI.out.below.trans (HB.out.mono HI.out.below.size)) (Nat.le_trans HI.out.below.size HB.out.size) (by omega) ?_; intro v1 w2 h1 h2 h3 h4; obtain ⟨A3, c3, rfl⟩ := Kd.S_slice h1; have f0 : w2.heap[bO]? = wr.heap[bO]? := h3.block bO (Nat.lt_of_lt_of_le z3 HB.out.size) (fun he => (HI.out.okb _ ((Kd.S_R HO.out).1 _ he.symm)).2 rfl); have f1 : w2.cell? ⟨bO, 0, none⟩ = _ := (World.cell?_of_block f0).trans e1; have f2 : w2.frozen? ⟨bO, 0, none⟩ = false := (World.frozen?_of_block f0).trans e2; have HX := Aside0.mk (HI.out.put HB.out HL.out (fun k hk => (Kd.S_R HO.out).1 k hk) h1 h2 h3); clear h1 h2 h3 h4 f0)
      (try simp only [Exit.inBlock, Exit.then])
      refine bodyPost_ret (results_none rfl _ _ _) rfl ?_
      exact ⟨rfl, by have h := HX.out; simp only [List.length_append, List.length_cons, List.length_nil, Nat.zero_add] at h; exact h⟩
set_option maxHeartbeats 4000000 in
set_option maxRecDepth 100000 in
theorem look_step (k : Nat) (w0 : World) (bO N : Nat) (hN : N ≤ 4) (cs : List S31) (A2 : Option Addr) (c2 m : Nat) (hm3 : m ≤ 3)
    (ih : ∀ (l : List S74) (acc : List (List S74)) (W : World) (ok okL : Nat → Prop) (A : Option Addr) (c : Nat), LInv w0 bO ok acc W → Kd.R k74 74 W w0.heap.size okL (.slice A l.length c) l → (∀ k, okL k → ¬ ok k ∧ k ≠ bO) → acc.length + 16 ^ m < 5000 → l.length + m ≤ 3 → lookOk k N cs m l = true →
      Calls Try.prog 79 #[.int .i64 N, .int .i64 m, .slice A2 cs.length c2, .slice A l.length c, .pointer (some ⟨bO, 0, none⟩)] W fun e W1 => e = .returned (.tuple #[]) ∧ (∃ ok1, LInv w0 bO ok1 (acc ++ lookL k N cs m l) W1 ∧ ∀ k, ok1 k → ok k ∨ okL k ∨ W.heap.size ≤ k) ∧ LPre bO ok W W1)
    (l : List S74) (acc : List (List S74)) (W : World) (ok okL : Nat → Prop) (A : Option Addr) (c : Nat)
    (hI : LInv w0 bO ok acc W) (hR : Kd.R k74 74 W w0.heap.size okL (.slice A l.length c) l) (hL : ∀ k, okL k → ¬ ok k ∧ k ≠ bO) (hacc : acc.length + 16 ^ (m + 1) < 5000) (hl3 : l.length + (m + 1) ≤ 3) (hok : lookOk k N cs (m + 1) l = true) (M : Int) (hM : M = ((m + 1 : Nat) : Int)) :
    Calls Try.prog 79 #[.int .i64 N, .int .i64 M, .slice A2 cs.length c2, .slice A l.length c, .pointer (some ⟨bO, 0, none⟩)] W fun e W1 => e = .returned (.tuple #[]) ∧ (∃ ok1, LInv w0 bO ok1 (acc ++ lookL k N cs (m + 1) l) W1 ∧ ∀ k, ok1 k → ok k ∨ okL k ∨ W.heap.size ≤ k) ∧ LPre bO ok W W1 := by
  have hu := Try.underlying74
  have hne : (M == 0) = false := beq_eq_false_iff_ne.2 (by omega)
  have hM1 : 1 ≤ M := by omega
  have hM4 : M ≤ 4 := by omega
  have HM := Aside0.mk (show M - 1 = (m : Int) by omega)
  clear hM
  have zO : bO < W.heap.size := by obtain ⟨v, qo, _⟩ := hI.out; exact World.block_lt_of_cell? _ _ qo
  unfold lookOk at hok
  have HK := Aside0.mk (fun (a q : Nat) (ha : a < N) (hq : q < N - (a + 1)) => List.all_eq_true.1 (List.all_eq_true.1 hok a (List.mem_range.2 ha)) q (List.mem_range.2 hq))
  have HI := Aside0.mk hI
  have HR := Aside0.mk hR
  have HL := Aside0.mk hL
  have HRC := Aside0.mk (Kd.R_reads' hR).2.2
  have hlc := (Kd.R_reads' hR).2.1
  have hmx := (Kd.R_reads' hR).2.2.2.1
  obtain ⟨F, hF⟩ : ∃ F : Nat → Nat → List (List S74), F = fun a q => lookL k N cs m (l ++ [⟨(a : Int), ((a + 1 + q : Nat) : Int)⟩]) := ⟨_, rfl⟩
  have hFl : ∀ a q, (F a q).length ≤ 16 ^ m := by intro a q; rw [hF]; exact lookL_len k N hN cs m _
  have hFF : acc ++ lookL k N cs (m + 1) l = acc ++ (List.range N).flatMap fun a => (List.range (N - (a + 1))).flatMap (F a) := by rw [hF]; rfl
  rw [hFF]
  have hbound : ∀ a q, a < N → q < N - (a + 1) → acc.length + (((List.range a).flatMap fun a => (List.range (N - (a + 1))).flatMap (F a)).length + ((List.range q).flatMap (F a)).length) + 16 ^ m < 5000 := by
    intro a q ha hq
    have h1 := flat_range_len (fun a => (List.range (N - (a + 1))).flatMap (F a)) (4 * 16 ^ m) (fun a => Nat.le_trans (flat_range_len _ (16 ^ m) (fun q => hFl a q) _) (Nat.mul_le_mul_right _ (by omega))) a
    have h2 := flat_range_len (F a) (16 ^ m) (fun q => hFl a q) q
    have h3 : a * (4 * 16 ^ m) ≤ 3 * (4 * 16 ^ m) := Nat.mul_le_mul_right _ (by omega)
    have h4 : q * 16 ^ m ≤ 3 * 16 ^ m := Nat.mul_le_mul_right _ (by omega)
    rw [Nat.pow_succ] at hacc
    omega
  have HBd := Aside0.mk hbound
  have HF := Aside0.mk hF
  clear hI hR hL hok hF hFl hFF hbound hacc
  go_enter Try.func79, Try.ntmps79
  go_wp2
  go_loopw [12] (fun n wr => ∃ a : Nat, a ≤ N ∧ n = .int .i64 a ∧ Aside0 (∃ okj, LInv w0 bO okj (acc ++ (List.range a).flatMap fun a => (List.range (N - (a + 1))).flatMap (F a)) wr ∧ ∀ k, okj k → ok k ∨ W.heap.size ≤ k) ∧ Aside0 (LPre bO ok W wr)) (fun n _ => N - (intOf n).toNat)
  case atStart => exact ⟨0, Nat.zero_le _, rfl, ⟨ok, by simpa using HI.out, fun k hk => .inl hk⟩, ⟨LPre.refl _ _ _⟩⟩
  case round =>
    obtain ⟨a, ha, rfl, HJ, HPr⟩ := hrel
    by_cases hlt : a < N
    · have hga : wrap64 ((a : Int) + 1) = ((a + 1 : Nat) : Int) := by unfold wrap64; omega
      go_wp2
      go_loopw [13] (fun n wr2 => ∃ (q : Nat) (B : Int), q ≤ N - (a + 1) ∧ B = ((a + 1 + q : Nat) : Int) ∧ n = .int .i64 B ∧ Aside0 (∃ okj, LInv w0 bO okj ((acc ++ (List.range a).flatMap fun a => (List.range (N - (a + 1))).flatMap (F a)) ++ (List.range q).flatMap (F a)) wr2 ∧ ∀ k, okj k → ok k ∨ W.heap.size ≤ k) ∧ Aside0 (LPre bO ok W wr2)) (fun n _ => N - (intOf n).toNat)
      case atStart => exact ⟨0, (a : Int) + 1, Nat.zero_le _, by omega, by go_num, by simpa using HJ, HPr⟩
      case round =>
        obtain ⟨q, B, hq, hB, rfl, ⟨okj, hIj, hokj⟩, HPq⟩ := hrel
        have hB0 : 0 ≤ B := by omega
        have hB4 : B ≤ 4 := by omega
        by_cases hlt2 : q < N - (a + 1)
        · have hBN : B < (N : Int) := by omega
          have HRl := Kd.R_step (Kd.R_bound HR.out) (fun k hk hlt => HPq.out.block k hlt (HL.out k hk.1).1 (HL.out k hk.1).2)
          have HCl := Aside0.mk (Kd.R_reads' HRl).2.2
          obtain ⟨x, hx⟩ : ∃ x : S74, x = ⟨(a : Int), B⟩ := ⟨_, rfl⟩
          have hFx : F a q = lookL k N cs m (l ++ [x]) := by rw [HF.out, hx, hB]
          have hkx := HK.out a q hlt hlt2
          rw [← hB, ← hx] at hkx
          have HIH := Aside0.mk (fun (W1 : World) (A3 : Option Addr) (c3 n3 : Nat) (hW : Below wr.heap.size wr W1) (hn : (l ++ [x]).length = n3) (hR3 : Kd.R k74 74 W1 wr.heap.size (fun _ => True) (.slice A3 n3 c3) (l ++ [x])) =>
            (show Calls Try.prog 79 #[.int .i64 N, .int .i64 (M - 1), .slice A2 cs.length c2, .slice A3 n3 c3, .pointer (some ⟨bO, 0, none⟩)] W1 fun e W4 => e = .returned (.tuple #[]) ∧ (∃ ok1, LInv w0 bO ok1 (((acc ++ (List.range a).flatMap fun a => (List.range (N - (a + 1))).flatMap (F a)) ++ (List.range q).flatMap (F a)) ++ F a q) W4 ∧ ∀ k, ok1 k → okj k ∨ (True ∧ wr.heap.size ≤ k ∧ k < W1.heap.size ∧ ∃ q, q ∈ 74 :: k74.E ∧ ∃ cells, W1.heap[k]? = some (.cells cells q (0, 0))) ∨ W1.heap.size ≤ k) ∧ LPre bO okj W1 W4 from by
              have h := ih (l ++ [x]) ((acc ++ (List.range a).flatMap fun a => (List.range (N - (a + 1))).flatMap (F a)) ++ (List.range q).flatMap (F a)) W1 okj _ A3 c3 (hIj.step hW) (by rw [hn]; exact Kd.R_lower (Kd.R_bound hR3) (by have := hIj.below.size; omega)) (fun k hk => ⟨fun ho => by have := (hIj.okb k ho).1; have := hk.2.1; omega, fun he => by have h1 := hk.2.1; have h2 := HPq.out.size; omega⟩) (by have h1 := HBd.out a q hlt hlt2; rw [List.length_append, List.length_append]; omega) (by simp only [List.length_append, List.length_cons, List.length_nil]; omega) hkx
              rw [hn, ← hFx] at h
              rw [HM.out]
              exact h))
          have HX := Aside0.mk hx
          have HBB := Aside0.mk hB
          have HJ2 := Aside0.mk hIj
          have HO2 := Aside0.mk hokj
          have HE := Aside0.mk (R_empty k74 74 wr)
          clear hx hB hFx hkx HRl hIj hokj hq
          go_wp2_with (first
            | (at_builtin; refine Kd.R_append_rows k74 (w0 := wr) wr.heap.size rfl (.tmp 49) (.tmp 50) 33 74 (.agg #[.int .i64 0, .int .i64 0]) 16 rfl Try.underlying33 infCall' rfl (by decide) (by decide) _ [] l A l.length c (fun _ => True) (fun _ => False) rfl rfl HE.out (Kd.C_below HCl.out (by repeat (first | exact Below.refl _ _ | apply below_alloc))) (fun y cs => flatCall' _ _ _ _ y cs) (fun _ hk => hk.elim) (fun _ _ => trivial) (by repeat (first | exact Below.refl _ _ | apply below_alloc)) (by simp) (by simp; omega) ?_; intro v1 w2 h1 h2 h3 h4; rw [List.nil_append] at h1; obtain ⟨A5, c5, rfl⟩ := Kd.R_slice h1; have G1 := Aside0.mk h1; have G2 := Aside0.mk h2; clear h1 h2 h3 h4)
            | (at_builtin; refine Kd.R_append k74 (w0 := wr) wr.heap.size rfl (.tmp 51) (.tmp 55) 33 74 (.agg #[.int .i64 0, .int .i64 0]) 16 rfl Try.underlying33 infCall' rfl (by decide) (by decide) _ l ⟨(a : Int), B⟩ [.int .i64 (a : Int), .int .i64 B] (fun _ => True) (fun _ => False) rfl rfl (k74_mkM w2 wr.heap.size _ ⟨(a : Int), B⟩) (fun _ hk => hk.elim) (fun _ _ => trivial) G1.out G2.out G2.out.size (by omega) ?_; intro v1 w3 h1 h2 h3 h4; rw [← HX.out] at h1; obtain ⟨A6, c6, rfl⟩ := Kd.R_slice h1; have G3 := Aside0.mk h1; have G4 := Aside0.mk h2; clear h1 h2 h3 h4)
            | (go_at_call 79; refine Calls.mono (HIH.out w3 A6 c6 _ G4.out (by simp) (by first | exact G3.out | (have h := G3.out; simp only [List.length_append, List.length_cons, List.length_nil, Nat.zero_add] at h; exact h))) ?_; rintro e w4 ⟨rfl, ⟨ok4, hI4, ho4⟩, hp4⟩; have HD4 := Aside0.mk hI4; have HO4 := Aside0.mk ho4; have HP4 := Aside0.mk hp4; clear hI4 ho4 hp4))
          go_roundw
          case rel =>
            have s1 := HPq.out.size
            have s2 := G4.out.size
            exact ⟨q + 1, B + 1, by omega, by rw [HBB.out]; omega, by go_num, ⟨ok4, by rw [range_succ_flat, ← List.append_assoc]; exact HD4.out, fun k hk => by
              rcases HO4.out k hk with h | ⟨_, h, _⟩ | h
              · exact HO2.out k h
              · exact .inr (by omega)
              · exact .inr (by omega)⟩, ⟨(HPq.out.below G4.out).trans HP4.out HO2.out⟩⟩
          case measure => simp [intOf]; omega
        · have hBN : ¬ (B < (N : Int)) := by omega
          have HJ2 := Aside0.mk hIj
          have HO2 := Aside0.mk hokj
          clear hIj hokj
          go_wp2
          go_roundw
          case rel => exact ⟨a + 1, by omega, by go_num, ⟨okj, by rw [range_succ_flat, ← List.append_assoc]; rw [show q = N - (a + 1) by omega] at HJ2; exact HJ2.out, HO2.out⟩, HPq⟩
          case measure => simp [intOf]; omega
    · go_wp2
      go_end0
      obtain ⟨okj, hIj, hokj⟩ := HJ
      exact ⟨rfl, ⟨okj, by rw [show a = N by omega] at hIj; exact hIj, fun k hk => (hokj k hk).imp id .inr⟩, HPr.out⟩
theorem look_all (k : Nat) (w0 : World) (bO N : Nat) (hN : N ≤ 4) (cs : List S31) (A2 : Option Addr) (c2 : Nat) (hC : Kd.C k31 w0 A2 cs.length cs) : ∀ (m : Nat) (l : List S74) (acc : List (List S74)) (W : World) (ok okL : Nat → Prop) (A : Option Addr) (c : Nat), LInv w0 bO ok acc W → Kd.R k74 74 W w0.heap.size okL (.slice A l.length c) l → (∀ k, okL k → ¬ ok k ∧ k ≠ bO) → acc.length + 16 ^ m < 5000 → l.length + m ≤ 3 → lookOk k N cs m l = true →
      Calls Try.prog 79 #[.int .i64 N, .int .i64 m, .slice A2 cs.length c2, .slice A l.length c, .pointer (some ⟨bO, 0, none⟩)] W fun e W1 => e = .returned (.tuple #[]) ∧ (∃ ok1, LInv w0 bO ok1 (acc ++ lookL k N cs m l) W1 ∧ ∀ k, ok1 k → ok k ∨ okL k ∨ W.heap.size ≤ k) ∧ LPre bO ok W W1 := by
  intro m
  induction m with
  | zero => exact fun l acc W ok okL A c hI hR hL hacc hl hok => look_leaf k w0 bO N cs A2 c2 hC l acc W ok okL A c hI hR hL (by simp at hacc; omega) hok
  | succ m ih => exact fun l acc W ok okL A c hI hR hL hacc hl hok => look_step k w0 bO N hN cs A2 c2 m (by omega) ih l acc W ok okL A c hI hR hL hacc hl hok _ rfl


end Go.Proofs.Ythakmnjamdggeaa.PFnExactSureCalls
