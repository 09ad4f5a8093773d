/- Printed by a program of this session (wip/pp) over the kit's print, for FnExactClaimGroups. No conditions beyond those that each theorem names. -/
import Derived.Test.YtgmgicmgobjjcaaPFnExactClaimGroupsx0
import Derived.Test.YtgmgicmgobjjcaaPFnExactClaimGroupsx4
namespace Go.Proofs.Ytgmgicmgobjjcaa.PFnExactClaimGroups
open Go.RowKit Go.Proofs.YtgmgicmgobjjcaaW.PrintWords Go.Proofs.YtgmgicmgobjjcaaW.PrintLast Go.Proofs.YtgmgicmgobjjcaaW.PrintMore
attribute [local go_sem] max2_int min2_int max_two min_two max_three min_three max_four min_four   -- for this text's walks alone
set_option linter.unusedVariables false
set_option linter.unusedSimpArgs false

/-! ### impl_distances: function 18 -/
mutual
def impl_distances.l0 : Nat → Int → List (S43) → List Int → List Int → Int → Option (List Int)
  | 0, _, _, _, _, _ => none
  | k + 1, x0, x1, x7, x8, x9 => if x9 < (x8.length : Int) then (impl_distances.l1 k x0 x1 x7 x8 x9 x0 0) else (some x7)
def impl_distances.l1 : Nat → Int → List (S43) → List Int → List Int → Int → Int → Int → Option (List Int)
  | 0, _, _, _, _, _, _, _ => none
  | k + 1, x0, x1, x7, x8, x9, x25, x26 => if x26 < x25 then (if 0 ≤ x26 then (if x26 < (x7.length : Int) then (if (rd x7 x26) < 0 then (if 0 ≤ x9 then (if x9 < (x8.length : Int) then ((impl_isPair.f k x1 (rd x8 x9) x26).bind fun t165 => (if t165 = true then (if 0 ≤ (rd x8 x9) then (if (rd x8 x9) < (x7.length : Int) then (if x8.length < 17592186044416 then (impl_distances.l1 k x0 x1 (x7.set (x26 : Int).toNat (wrap64 ((rd x7 (rd x8 x9)) + 1))) (x8 ++ [x26]) x9 x25 (wrap64 (x26 + 1))) else (none)) else (none)) else (none)) else (impl_distances.l1 k x0 x1 x7 x8 x9 x25 (wrap64 (x26 + 1))))) else (none)) else (none)) else (impl_distances.l1 k x0 x1 x7 x8 x9 x25 (wrap64 (x26 + 1)))) else (none)) else (none)) else (impl_distances.l0 k x0 x1 x7 x8 (wrap64 (x9 + 1)))
end
def impl_distances.f (k : Nat) (a0 : Int) (l1 : List (S43)) (a2 : Int) : Option (List Int) := (slices_Repeat_int_int.f (([(-1)] : List Int)) a0).bind fun t156 => (if 0 ≤ a2 then (if a2 < (t156.length : Int) then (impl_distances.l0 k a0 l1 (t156.set (a2 : Int).toNat 0) (([a2] : List Int)) 0) else (none)) else (none))
theorem impl_distances.mono_l : ∀ k, (∀ y0 y1 y2 y3 y4, LeO (impl_distances.l0 k y0 y1 y2 y3 y4) (impl_distances.l0 (k + 1) y0 y1 y2 y3 y4)) ∧ (∀ y0 y1 y2 y3 y4 y5 y6, LeO (impl_distances.l1 k y0 y1 y2 y3 y4 y5 y6) (impl_distances.l1 (k + 1) y0 y1 y2 y3 y4 y5 y6))
  | 0 => ⟨fun _ _ _ _ _ r h => by simp [impl_distances.l0] at h, fun _ _ _ _ _ _ _ r h => by simp [impl_distances.l1] at h⟩
  | k + 1 => by
    obtain ⟨ih0, ih1⟩ := impl_distances.mono_l k
    refine ⟨?_, ?_⟩
    · intro y0 y1 y2 y3 y4
      unfold impl_distances.l0
      repeat' first
      | (with_reducible exact ih0 _ _ _ _ _)
      | (with_reducible exact ih1 _ _ _ _ _ _ _)
      | (with_reducible exact impl_isPair.mono _ _ _ _)
      | (with_reducible exact LeO.refl _)
      | (with_reducible exact LeO.none _)
      | (with_reducible refine LeO.ite ?_ ?_)
      | (with_reducible refine LeO.bind ?_ (fun _ => ?_))
      | exact ih0 _ _ _ _ _
      | exact ih1 _ _ _ _ _ _ _
      | exact impl_isPair.mono _ _ _ _
      | exact LeO.none _
      | refine LeO.ite ?_ ?_
      | refine LeO.bind ?_ (fun _ => ?_)
    · intro y0 y1 y2 y3 y4 y5 y6
      unfold impl_distances.l1
      repeat' first
      | (with_reducible exact ih0 _ _ _ _ _)
      | (with_reducible exact ih1 _ _ _ _ _ _ _)
      | (with_reducible exact impl_isPair.mono _ _ _ _)
      | (with_reducible exact LeO.refl _)
      | (with_reducible exact LeO.none _)
      | (with_reducible refine LeO.ite ?_ ?_)
      | (with_reducible refine LeO.bind ?_ (fun _ => ?_))
      | exact ih0 _ _ _ _ _
      | exact ih1 _ _ _ _ _ _ _
      | exact impl_isPair.mono _ _ _ _
      | exact LeO.none _
      | refine LeO.ite ?_ ?_
      | refine LeO.bind ?_ (fun _ => ?_)
theorem impl_distances.mono : ∀ a0 a1 a2 k, LeO (impl_distances.f k a0 a1 a2) (impl_distances.f (k + 1) a0 a1 a2) := by
  intro a0 a1 a2 k
  obtain ⟨ih0, ih1⟩ := impl_distances.mono_l k
  unfold impl_distances.f
  repeat' first
      | (with_reducible exact ih0 _ _ _ _ _)
      | (with_reducible exact ih1 _ _ _ _ _ _ _)
      | (with_reducible exact impl_isPair.mono _ _ _ _)
      | (with_reducible exact LeO.refl _)
      | (with_reducible exact LeO.none _)
      | (with_reducible refine LeO.ite ?_ ?_)
      | (with_reducible refine LeO.bind ?_ (fun _ => ?_))
      | exact ih0 _ _ _ _ _
      | exact ih1 _ _ _ _ _ _ _
      | exact impl_isPair.mono _ _ _ _
      | exact LeO.none _
      | refine LeO.ite ?_ ?_
      | refine LeO.bind ?_ (fun _ => ?_)
set_option maxHeartbeats 8000000 in
set_option maxRecDepth 100000 in
theorem impl_distances.calls (k : Nat) (a0 : Int) (A1 : Option Addr) (c1 : Nat) (l1 : List (S43)) (a2 : Int) (r : List Int) (w : World) (hr1 : Kd.C k43 w A1 l1.length l1) (hc1 : l1.length ≤ c1) (h : impl_distances.f k a0 l1 a2 = some r) :
    Calls Try.prog 18 #[.int .i64 a0, .slice A1 l1.length c1, .int .i64 a2] w fun e w' => ∃ v0_ : Value, e = .returned (v0_) ∧ Kd.R (Kd.int .i64) 3 w' w.heap.size (fun _ => True) v0_ r ∧ Below w.heap.size w w' := by
  have HR1 := Aside0.mk hr1
  have HC1 := Aside0.mk hc1
  clear hr1 hc1
  have HB := Aside0.mk (Below.refl w.heap.size w)
  have H : ((slices_Repeat_int_int.f (([(-1)] : List Int)) a0).bind fun t156 => (if 0 ≤ a2 then (if a2 < (t156.length : Int) then (impl_distances.l0 k a0 l1 (t156.set (a2 : Int).toNat 0) (([a2] : List Int)) 0) else (none)) else (none))) = some r := h
  clear h
  obtain ⟨y153, hy153⟩ : ∃ y_ : List Int, y_ = (([(-1)] : List Int)) := ⟨_, rfl⟩
  replace H : ((slices_Repeat_int_int.f y153 a0).bind fun t156 => (if 0 ≤ a2 then (if a2 < (t156.length : Int) then (impl_distances.l0 k a0 l1 (t156.set (a2 : Int).toNat 0) (([a2] : List Int)) 0) else (none)) else (none))) = some r := by first | (rw [hy153]; with_reducible exact H) | (have H2_ := (Option.bind_some _ _).symm.trans H; rw [hy153]; with_reducible exact H2_) | (have H2_ := (Option.bind_some _ _).symm.trans H; with_reducible exact H2_) | with_reducible exact H | (rw [hy153]; exact H) | exact H
  have Ny153 := Aside0.mk hy153
  clear hy153
  replace H := Option.bind_eq_some_iff.mp H
  obtain ⟨t156, A40, H⟩ := H
  replace H : (if 0 ≤ a2 then (if a2 < (t156.length : Int) then (impl_distances.l0 k a0 l1 (t156.set (a2 : Int).toNat 0) (([a2] : List Int)) 0) else (none)) else (none)) = some r := H
  have A4 := Aside0.mk A40
  clear A40
  by_cases c5 : 0 ≤ a2
  · rw [if_pos c5] at H
    have c5b0 : decide (0 ≤ a2) = true := decide_eq_true c5
    clear c5
    by_cases c6 : a2 < (t156.length : Int)
    · rw [if_pos c6] at H
      have c6b0 : decide (a2 < (t156.length : Int)) = true := decide_eq_true c6
      clear c6
      obtain ⟨y159, hy159⟩ : ∃ y_ : List Int, y_ = (t156.set (a2 : Int).toNat 0) := ⟨_, rfl⟩
      replace H : (impl_distances.l0 k a0 l1 y159 (([a2] : List Int)) 0) = some r := by first | (rw [hy159]; with_reducible exact H) | (have H2_ := (Option.bind_some _ _).symm.trans H; rw [hy159]; with_reducible exact H2_) | (have H2_ := (Option.bind_some _ _).symm.trans H; with_reducible exact H2_) | with_reducible exact H | (rw [hy159]; exact H) | exact H
      have Ny159 := Aside0.mk hy159
      clear hy159
      obtain ⟨y160, hy160⟩ : ∃ y_ : List Int, y_ = (([a2] : List Int)) := ⟨_, rfl⟩
      replace H : (impl_distances.l0 k a0 l1 y159 y160 0) = some r := by first | (rw [hy160]; with_reducible exact H) | (have H2_ := (Option.bind_some _ _).symm.trans H; rw [hy160]; with_reducible exact H2_) | (have H2_ := (Option.bind_some _ _).symm.trans H; with_reducible exact H2_) | with_reducible exact H | (rw [hy160]; exact H) | exact H
      have Ny160 := Aside0.mk hy160
      clear hy160
      have H' := Aside0.mk H
      clear H
      go_enter Try.func18, Try.ntmps18
      go_wp2_with (first | ((with_reducible refine gate_dst (N := 11) rfl ?_); refine Kd.R_lit (Kd.int .i64) _ 3 ?hg (N := 11) ?hd (xs := ([(-1)] : List Int)) (inner := [.int .i64 (-1)]) (ok := fun _ => True) (okp := fun _ => True) ?hr ?hp (fun _ hk => hk) trivial (Below.refl _ _) (Nat.le_refl _) (by simp) ?_; (case hd => rfl); (case hg => rfl); (case hr => first | (go_simp; done) | (go_simp; rfl)); (case hp => exact (Reps.one (show Kd.M (Kd.int .i64) _ _ _ (-1) [.int .i64 (-1)] from rfl) (Reps.none _ _))); intro v154 w8 ho9 hb hg_ hnew_; clear hg_ hnew_; (first | rw [← Ny153.out] at ho9 | (simp only [Int.reduceToNat] at ho9; rw [← Ny153.out] at ho9)); have n0_ := Aside0.mk (Kd.R_lower ho9 (below_size (by repeat (first | (with_reducible first | exact HB.out | apply below_alloc | apply pw_below_drewN | apply below_drew1) | exact HB.out)))); have n1_ := Aside0.mk (below_step (by repeat (first | (with_reducible first | exact HB.out | apply below_alloc | apply pw_below_drewN | apply below_drew1) | exact HB.out)) hb); clear HB; have HO155 := n0_; have HB := n1_; clear n0_ n1_; clear hb ho9; obtain ⟨Ao10, co10, eo10⟩ := Kd.R_slice HO155.out; subst eo10) | ((with_reducible refine gate_callee (f := 31) rfl ?_); refine goesL_ (some 13) rfl rfl Try.func31 (by kernel_rfl) rfl #[.slice Ao10 y153.length co10, .int .i64 a0] rfl (by (try simp only [List.map_toArray, List.map_cons, List.map_nil]); first | done | rfl | (simp only [List.length_drop, List.length_take]; rfl)) ?_; (with_reducible refine (slices_Repeat_int_int.calls _ _ y153 a0 t156 _ ?side1 ?side2 A4.out).mono ?_); (case side1 => repeat (first | exact (Kd.R_reads' HO155.out).2.2 | (with_reducible refine Kd.C_alloc ?_ _) | (with_reducible refine Kd.C_drewN ?_ _) | (with_reducible refine Kd.C_drew ?_))); (case side2 => exact (Kd.R_reads' HO155.out).2.1); rintro e w11 ⟨v157, rfl, ho0, hb⟩; refine ⟨_, rfl, ?_⟩; have n0_ := Aside0.mk (Kd.R_elder' (by (with_reducible repeat (first | apply Kd.R_alloc | apply Kd.R_drewN | apply Kd.R_drew)); exact HO155.out) (Kd.R_base ho0) hb); have n1_ := Aside0.mk (Kd.R_lower (Kd.R_new' ho0 (Kd.R_lt (by (with_reducible repeat (first | apply Kd.R_alloc | apply Kd.R_drewN | apply Kd.R_drew)); exact HO155.out))) (below_size (by repeat (first | (with_reducible first | exact HB.out | apply below_alloc | apply pw_below_drewN | apply below_drew1) | exact HB.out)))); have n2_ := Aside0.mk (below_step (by repeat (first | (with_reducible first | exact HB.out | apply below_alloc | apply pw_below_drewN | apply below_drew1) | exact HB.out)) hb); clear HO155; clear HB; have HO155 := n0_; have HO158 := n1_; have HB := n2_; clear n0_ n1_ n2_; (try clear hb); (try clear hb2); (try clear hk); (try clear hi); (try clear ho0); have p7 : 0 ≤ (a2 : Int) := of_decide_eq_true (by first | (with_reducible assumption) | assumption); have q7 : (a2 : Int) < ((t156.length : Int) : Int) := of_decide_eq_true (by first | (with_reducible assumption) | assumption); obtain ⟨go7, co7, eo7, gb7, gl7, cl7, HG7⟩ := Kd.R_form HO158.out (by omega); (first | cases eo7 | (injection eo7 with ea_ en_ ec_; (first | subst ea_ | (injection ea_ with ea_; subst ea_)); subst ec_; clear en_)); have GB7 := Aside0.mk gb7; have GG7 := Aside0.mk HG7; clear gb7 gl7 HG7; obtain ⟨hx7_0, hf7_0⟩ := Kd.R_celln 0 HO158.out (a2 : Int) p7 q7; replace p7 := eq_true p7; replace q7 := eq_true q7; have n_ := Aside0.mk (Kd.R_mono (ok' := (fun k_ => some k_ ≠ (.slice Ao10 y153.length co10 : Value).ownBlock)) HO158.out (fun k_ hk => hk.2)); clear HO158; have HO158 := n_; clear n_; obtain ⟨hy12_, hz12_⟩ := Kd.R_celln 0 HO158.out (a2 : Int) (of_decide_eq_true (by first | (with_reducible assumption) | assumption)) (of_decide_eq_true (by first | (with_reducible assumption) | assumption)); have HP12 := Kd.R_putg HO158.out (a2 : Int) 0) | ((with_reducible refine gate_store (t := 3) (p := 16) rfl ?_); refine store_event (t := 3) (p := 16) (v := ?vo_w13) (w1 := (w11.setCell ⟨go7, (a2 : Int).toNat, none⟩ (.int .i64 0))) ?hg ?ho ?hn ?hr ?_; (case ho => rfl); (case hg => rfl); (case hn => rfl); (case hr => first | (go_simp; done) | (go_simp; rfl)); intro w13 hw; have hg : w11.grownBy w13 (some go7) := (by rw [hw]; exact HP12.2); have hp_ : Kd.R (Kd.int .i64) 3 w13 w.heap.size (fun k_ => some k_ ≠ (.slice Ao10 y153.length co10 : Value).ownBlock) (.slice (some ⟨go7, 0, none⟩) t156.length co7) y159 := (by rw [hw, Ny159.out]; exact HP12.1); clear HP12; have n0_ := Aside0.mk (Kd.R_after (v := (.slice (some ⟨go7, 0, none⟩) t156.length co7)) (v1 := (.slice (some ⟨go7, 0, none⟩) t156.length co7)) (ok := (fun _ => True)) (by (with_reducible repeat (first | apply Kd.R_alloc | apply Kd.R_drewN | apply Kd.R_drew)); exact HO155.out) hg (.inl rfl)); have n1_ := Aside0.mk (hp_); have n2_ := Aside0.mk ((by rw [hw]; exact below_set (HB.out) GB7.out : Below w.heap.size w w13)); clear HO155; clear HO158; clear HB; have HO155 := n0_; have HO158 := n1_; have HB := n2_; clear n0_ n1_ n2_; clear hg hw hp_) | ((with_reducible refine gate_dst (N := 18) rfl ?_); refine Kd.R_lit (Kd.int .i64) _ 3 ?hg (N := 18) ?hd (xs := ([a2] : List Int)) (inner := [.int .i64 a2]) (ok := fun _ => True) (okp := fun _ => True) ?hr ?hp (fun _ hk => hk) trivial (Below.refl _ _) (Nat.le_refl _) (by simp) ?_; (case hd => rfl); (case hg => rfl); (case hr => first | (go_simp; done) | (go_simp; rfl)); (case hp => exact (Reps.one (show Kd.M (Kd.int .i64) _ _ _ a2 [.int .i64 a2] from rfl) (Reps.none _ _))); intro v161 w14 ho15 hb hg_ hnew_; clear hg_ hnew_; (first | rw [← Ny160.out] at ho15 | (simp only [Int.reduceToNat] at ho15; rw [← Ny160.out] at ho15)); have n0_ := Aside0.mk (Kd.R_elder' (by (with_reducible repeat (first | apply Kd.R_alloc | apply Kd.R_drewN | apply Kd.R_drew)); exact HO155.out) (Kd.R_base ho15) hb); have n1_ := Aside0.mk (Kd.R_elder' (by (with_reducible repeat (first | apply Kd.R_alloc | apply Kd.R_drewN | apply Kd.R_drew)); exact HO158.out) (Kd.R_base ho15) hb); have n2_ := Aside0.mk (Kd.R_lower (Kd.R_new' (Kd.R_new' ho15 (Kd.R_lt (by (with_reducible repeat (first | apply Kd.R_alloc | apply Kd.R_drewN | apply Kd.R_drew)); exact HO155.out))) (Kd.R_lt (by (with_reducible repeat (first | apply Kd.R_alloc | apply Kd.R_drewN | apply Kd.R_drew)); exact HO158.out))) (below_size (by repeat (first | (with_reducible first | exact HB.out | apply below_alloc | apply pw_below_drewN | apply below_drew1) | exact HB.out)))); have n3_ := Aside0.mk (below_step (by repeat (first | (with_reducible first | exact HB.out | apply below_alloc | apply pw_below_drewN | apply below_drew1) | exact HB.out)) hb); clear HO155; clear HO158; clear HB; have HO155 := n0_; have HO158 := n1_; have HO162 := n2_; have HB := n3_; clear n0_ n1_ n2_ n3_; clear hb ho15))
      go_loopg [8, 9] k (fun kq v8 v9 w' => ∃ (x7_1 : List Int) (x8_1 : List Int) (x9_1 : Int), v9 = .int .i64 x9_1 ∧ Aside0 (impl_distances.l0 kq a0 l1 x7_1 x8_1 x9_1 = some r) ∧ Aside0 (kq ≤ k) ∧ Aside0 (Kd.R (Kd.int .i64) 3 w' w.heap.size (fun k_ => some k_ ≠ (v8 : Value).ownBlock) (.slice (some ⟨go7, 0, none⟩) t156.length co7) x7_1) ∧ Aside0 (Kd.R (Kd.int .i64) 3 w' w.heap.size (fun k_ => some k_ ≠ ((.slice (some ⟨go7, 0, none⟩) t156.length co7) : Value).ownBlock) v8 x8_1) ∧ Aside0 (Below w.heap.size w w'))
      case atStart => exact ⟨(y159), (y160), (0), (by first | rfl | (simp; done) | (simp [*]; done)), H', ⟨Nat.le_refl _⟩, ⟨by (with_reducible repeat (first | apply Kd.R_alloc | apply Kd.R_drewN | apply Kd.R_drew)); exact Kd.R_mono HO158.out (fun _ hk => hk.2)⟩, ⟨by (with_reducible repeat (first | apply Kd.R_alloc | apply Kd.R_drewN | apply Kd.R_drew)); exact Kd.R_mono HO162.out (fun _ hk => hk.2)⟩, ⟨by repeat (first | (with_reducible first | exact HB.out | apply below_alloc | apply pw_below_drewN | apply below_drew1) | exact HB.out)⟩⟩
      case round =>
        clear H'
        try clear c1
        try clear p2
        try clear c3
        try clear c5
        try clear c5b0
        try clear c6
        try clear c6b0
        try clear p7
        try clear q7
        try clear hx7
        try clear hf7
        try clear hx7_0
        try clear p7
        try clear q7
        obtain ⟨x7_1, x8_1, x9_1, rfl, HA, HK1, HO_7, HO_8, HB⟩ := hrel
        have hl7_1 := (Kd.R_reads' HO_7.out).1
        rw [hl7_1] at HO_7
        (try simp only [hl7_1])
        (try simp only [hl7_1] at HO_8)
        cases gk with
        | zero => exact absurd HA.out (by simp [impl_distances.l0])
        | succ k1 =>
          have H := HA.out
          clear HA
          simp only [impl_distances.l0] at H
          by_cases c16 : x9_1 < (x8_1.length : Int)
          · rw [if_pos c16] at H
            have c16b0 : decide (x9_1 < (x8_1.length : Int)) = true := decide_eq_true c16
            clear c16
            have H' := Aside0.mk H
            clear H
            obtain ⟨Ao17, co17, eo17⟩ := Kd.R_slice HO_8.out
            subst eo17
            go_wp2
            go_loopg [8, 26] k1 (fun kq v8 v26 w' => ∃ (x7_2 : List Int) (x8_2 : List Int) (x26_2 : Int), v26 = .int .i64 x26_2 ∧ Aside0 (impl_distances.l1 kq a0 l1 x7_2 x8_2 x9_1 a0 x26_2 = some r) ∧ Aside0 (kq ≤ k1) ∧ Aside0 (Kd.R (Kd.int .i64) 3 w' w.heap.size (fun k_ => some k_ ≠ (v8 : Value).ownBlock) (.slice (some ⟨go7, 0, none⟩) x7_1.length co7) x7_2) ∧ Aside0 (Kd.R (Kd.int .i64) 3 w' w.heap.size (fun k_ => some k_ ≠ ((.slice (some ⟨go7, 0, none⟩) x7_1.length co7) : Value).ownBlock) v8 x8_2) ∧ Aside0 (Below w.heap.size w w'))
            case atStart => exact ⟨(x7_1), (x8_1), (0), (by first | rfl | (simp; done) | (simp [*]; done)), H', ⟨Nat.le_refl _⟩, ⟨by (try simp only [hl7_1]); (with_reducible repeat (first | apply Kd.R_alloc | apply Kd.R_drewN | apply Kd.R_drew)); exact HO_7.out⟩, ⟨by (try simp only [hl7_1]); (with_reducible repeat (first | apply Kd.R_alloc | apply Kd.R_drewN | apply Kd.R_drew)); exact HO_8.out⟩, ⟨by repeat (first | (with_reducible first | exact HB.out | apply below_alloc | apply pw_below_drewN | apply below_drew1) | exact HB.out)⟩⟩
            case round =>
              clear H'
              try clear c1
              try clear p2
              try clear c3
              try clear c5
              try clear c5b0
              try clear c6
              try clear c6b0
              try clear p7
              try clear q7
              try clear hx7
              try clear hf7
              try clear c16
              try clear c16b0
              try clear hx7_0
              try clear p2
              try clear p7
              try clear q7
              obtain ⟨x7_2, x8_2, x26_2, rfl, HA, HK2, HO_7, HO_8, HB⟩ := hrel
              have hl7_2 := (Kd.R_reads' HO_7.out).1
              rw [hl7_2] at HO_7
              (try simp only [hl7_2])
              (try simp only [hl7_2] at HO_8)
              cases gk with
              | zero => exact absurd HA.out (by simp [impl_distances.l1])
              | succ k2 =>
                have H := HA.out
                clear HA
                simp only [impl_distances.l1] at H
                by_cases c18 : x26_2 < a0
                · rw [if_pos c18] at H
                  have c18b0 : decide (x26_2 < a0) = true := decide_eq_true c18
                  clear c18
                  by_cases c19 : 0 ≤ x26_2
                  · rw [if_pos c19] at H
                    have c19b0 : decide (0 ≤ x26_2) = true := decide_eq_true c19
                    clear c19
                    by_cases c20 : x26_2 < (x7_2.length : Int)
                    · rw [if_pos c20] at H
                      have c20b0 : decide (x26_2 < (x7_2.length : Int)) = true := decide_eq_true c20
                      clear c20
                      by_cases c21 : (rd x7_2 x26_2) < 0
                      · rw [if_pos c21] at H
                        have c21b0 : decide ((rd x7_2 x26_2) < 0) = true := decide_eq_true c21
                        clear c21
                        by_cases c22 : 0 ≤ x9_1
                        · rw [if_pos c22] at H
                          have c22b0 : decide (0 ≤ x9_1) = true := decide_eq_true c22
                          clear c22
                          by_cases c23 : x9_1 < (x8_2.length : Int)
                          · rw [if_pos c23] at H
                            have c23b0 : decide (x9_1 < (x8_2.length : Int)) = true := decide_eq_true c23
                            clear c23
                            replace H := Option.bind_eq_some_iff.mp H
                            obtain ⟨t165, A240, H⟩ := H
                            replace H : (if t165 = true then (if 0 ≤ (rd x8_2 x9_1) then (if (rd x8_2 x9_1) < (x7_2.length : Int) then (if x8_2.length < 17592186044416 then (impl_distances.l1 k2 a0 l1 (x7_2.set (x26_2 : Int).toNat (wrap64 ((rd x7_2 (rd x8_2 x9_1)) + 1))) (x8_2 ++ [x26_2]) x9_1 a0 (wrap64 (x26_2 + 1))) else (none)) else (none)) else (none)) else (impl_distances.l1 k2 a0 l1 x7_2 x8_2 x9_1 a0 (wrap64 (x26_2 + 1)))) = some r := H
                            have A24 := Aside0.mk A240
                            clear A240
                            by_cases c25 : t165 = true
                            · subst c25
                              have H1 : (if 0 ≤ (rd x8_2 x9_1) then (if (rd x8_2 x9_1) < (x7_2.length : Int) then (if x8_2.length < 17592186044416 then (impl_distances.l1 k2 a0 l1 (x7_2.set (x26_2 : Int).toNat (wrap64 ((rd x7_2 (rd x8_2 x9_1)) + 1))) (x8_2 ++ [x26_2]) x9_1 a0 (wrap64 (x26_2 + 1))) else (none)) else (none)) else (none)) = some r := by rw [if_pos rfl] at H; exact H
                              clear H
                              have H := H1
                              clear H1
                              by_cases c26 : 0 ≤ (rd x8_2 x9_1)
                              · rw [if_pos c26] at H
                                have c26b0 : decide (0 ≤ (rd x8_2 x9_1)) = true := decide_eq_true c26
                                clear c26
                                by_cases c27 : (rd x8_2 x9_1) < (x7_2.length : Int)
                                · rw [if_pos c27] at H
                                  have c27b0 : decide ((rd x8_2 x9_1) < (x7_2.length : Int)) = true := decide_eq_true c27
                                  clear c27
                                  obtain ⟨y168, hy168⟩ : ∃ y_ : List Int, y_ = (x7_2.set (x26_2 : Int).toNat (wrap64 ((rd x7_2 (rd x8_2 x9_1)) + 1))) := ⟨_, rfl⟩
                                  replace H : (if x8_2.length < 17592186044416 then (impl_distances.l1 k2 a0 l1 y168 (x8_2 ++ [x26_2]) x9_1 a0 (wrap64 (x26_2 + 1))) else (none)) = some r := by first | (rw [hy168]; with_reducible exact H) | (have H2_ := (Option.bind_some _ _).symm.trans H; rw [hy168]; with_reducible exact H2_) | (have H2_ := (Option.bind_some _ _).symm.trans H; with_reducible exact H2_) | with_reducible exact H | (rw [hy168]; exact H) | exact H
                                  have Ny168 := Aside0.mk hy168
                                  clear hy168
                                  by_cases c29 : x8_2.length < 17592186044416
                                  · rw [if_pos c29] at H
                                    have LMc29 := Aside0.mk c29
                                    clear c29
                                    obtain ⟨y169, hy169⟩ : ∃ y_ : List Int, y_ = (x8_2 ++ [x26_2]) := ⟨_, rfl⟩
                                    replace H : (impl_distances.l1 k2 a0 l1 y168 y169 x9_1 a0 (wrap64 (x26_2 + 1))) = some r := by first | (rw [hy169]; with_reducible exact H) | (have H2_ := (Option.bind_some _ _).symm.trans H; rw [hy169]; with_reducible exact H2_) | (have H2_ := (Option.bind_some _ _).symm.trans H; with_reducible exact H2_) | with_reducible exact H | (rw [hy169]; exact H) | exact H
                                    have Ny169 := Aside0.mk hy169
                                    clear hy169
                                    have H' := Aside0.mk H
                                    clear H
                                    have p163 : 0 ≤ (x26_2 : Int) := of_decide_eq_true (by first | (with_reducible assumption) | assumption)
                                    have q163 : x26_2 < (x7_2.length : Int) := of_decide_eq_true (by first | (with_reducible assumption) | assumption)
                                    obtain ⟨ad163, e163, hx163_0⟩ := Kd.at_int (Kd.R_reads' HO_7.out).2.2 x26_2 p163 q163
                                    obtain rfl : (⟨go7, 0, none⟩ : Addr) = ad163 := (by injection e163)
                                    (first | simp only [add_plain] at hx163_0 | simp only [add_at] at hx163_0 | simp only [Addr.add, Nat.zero_add] at hx163_0 | skip)
                                    replace p163 := eq_true p163
                                    replace q163 := eq_true q163
                                    obtain ⟨Ao30, co30, eo30⟩ := Kd.R_slice HO_8.out
                                    subst eo30
                                    have p164 : 0 ≤ (x9_1 : Int) := of_decide_eq_true (by first | (with_reducible assumption) | assumption)
                                    have q164 : x9_1 < (x8_2.length : Int) := of_decide_eq_true (by first | (with_reducible assumption) | assumption)
                                    obtain ⟨ad164, e164, hx164_0⟩ := Kd.at_int (Kd.R_reads' HO_8.out).2.2 x9_1 p164 q164
                                    cases e164
                                    replace p164 := eq_true p164
                                    replace q164 := eq_true q164
                                    go_wp2_with (first | (go_at_call 32; (with_reducible refine (impl_isPair.calls k2 _ _ l1 (rd x8_2 x9_1) x26_2 true _ ?side1 ?side2 A24.out).mono ?_); (case side1 => repeat (first | exact (Kd.C_below HR1.out HB.out) | (with_reducible refine Kd.C_alloc ?_ _) | (with_reducible refine Kd.C_drewN ?_ _) | (with_reducible refine Kd.C_drew ?_))); (case side2 => exact HC1.out); rintro e w31 ⟨rfl, hb⟩; have n0_ := Aside0.mk (Kd.R_below (by (with_reducible repeat (first | apply Kd.R_alloc | apply Kd.R_drewN | apply Kd.R_drew)); exact HO_7.out) hb); have n1_ := Aside0.mk (Kd.R_below (by (with_reducible repeat (first | apply Kd.R_alloc | apply Kd.R_drewN | apply Kd.R_drew)); exact HO_8.out) hb); have n2_ := Aside0.mk (below_step (by repeat (first | (with_reducible first | exact HB.out | apply below_alloc | apply pw_below_drewN | apply below_drew1) | exact HB.out)) hb); clear HO_7; clear HO_8; clear HB; have HO_7 := n0_; have HO_8 := n1_; have HB := n2_; clear n0_ n1_ n2_; (try clear hb); (try clear hb2); (try clear hk); (try clear hi); have p166 : 0 ≤ (x9_1 : Int) := of_decide_eq_true (by first | (with_reducible assumption) | assumption); have q166 : x9_1 < (x8_2.length : Int) := of_decide_eq_true (by first | (with_reducible assumption) | assumption); obtain ⟨ad166, e166, hx166_0⟩ := Kd.at_int (Kd.R_reads' HO_8.out).2.2 x9_1 p166 q166; obtain rfl : ad164 = ad166 := (by injection e166); replace p166 := eq_true p166; replace q166 := eq_true q166; have p167 : 0 ≤ ((rd x8_2 x9_1) : Int) := of_decide_eq_true (by first | (with_reducible assumption) | assumption); have q167 : (rd x8_2 x9_1) < (x7_2.length : Int) := of_decide_eq_true (by first | (with_reducible assumption) | assumption); obtain ⟨ad167, e167, hx167_0⟩ := Kd.at_int (Kd.R_reads' HO_7.out).2.2 (rd x8_2 x9_1) p167 q167; obtain rfl : (⟨go7, 0, none⟩ : Addr) = ad167 := (by injection e167); (first | simp only [add_plain] at hx167_0 | simp only [add_at] at hx167_0 | simp only [Addr.add, Nat.zero_add] at hx167_0 | skip); replace p167 := eq_true p167; replace q167 := eq_true q167; have p28 : 0 ≤ (x26_2 : Int) := of_decide_eq_true (by first | (with_reducible assumption) | assumption); have q28 : (x26_2 : Int) < ((x7_2.length : Int) : Int) := of_decide_eq_true (by first | (with_reducible assumption) | assumption); obtain ⟨hx28_0, hf28_0⟩ := Kd.R_celln 0 HO_7.out (x26_2 : Int) p28 q28; replace p28 := eq_true p28; replace q28 := eq_true q28; obtain ⟨hy32_, hz32_⟩ := Kd.R_celln 0 HO_7.out (x26_2 : Int) (of_decide_eq_true (by first | (with_reducible assumption) | assumption)) (of_decide_eq_true (by first | (with_reducible assumption) | assumption)); have HP32 := Kd.R_putg HO_7.out (x26_2 : Int) (wrap64 ((rd x7_2 (rd x8_2 x9_1)) + 1))) | ((with_reducible refine gate_store (t := 3) (p := 53) rfl ?_); refine store_event (t := 3) (p := 53) (v := ?vo_w33) (w1 := (w31.setCell ⟨go7, (x26_2 : Int).toNat, none⟩ (.int .i64 (wrap64 ((rd x7_2 (rd x8_2 x9_1)) + 1))))) ?hg ?ho ?hn ?hr ?_; (case ho => rfl); (case hg => rfl); (case hn => rfl); (case hr => first | (go_simp; done) | (go_simp; rfl)); intro w33 hw; have hg : w31.grownBy w33 (some go7) := (by rw [hw]; exact HP32.2); have hp_ : Kd.R (Kd.int .i64) 3 w33 w.heap.size (fun k_ => some k_ ≠ (.slice (some ad164) x8_2.length co30 : Value).ownBlock) (.slice (some ⟨go7, 0, none⟩) x7_2.length co7) y168 := (by rw [hw, Ny168.out]; exact HP32.1); clear HP32; have n0_ := Aside0.mk (hp_); have n1_ := Aside0.mk (Kd.R_after (v := (.slice (some ⟨go7, 0, none⟩) x7_2.length co7)) (v1 := (.slice (some ⟨go7, 0, none⟩) x7_2.length co7)) (ok := (fun _ => True)) (by (with_reducible repeat (first | apply Kd.R_alloc | apply Kd.R_drewN | apply Kd.R_drew)); exact Kd.R_mono HO_8.out (fun _ hk => ⟨trivial, hk⟩)) hg (.inl rfl)); have n2_ := Aside0.mk ((by rw [hw]; exact below_set (HB.out) GB7.out : Below w.heap.size w w33)); clear HO_7; clear HO_8; clear HB; have HO_7 := n0_; have HO_8 := n1_; have HB := n2_; clear n0_ n1_ n2_; clear hg hw hp_) | ((with_reducible refine gate_builtin (b := .append) (xs := #[.tmp 54, .tmp 56]) rfl ?_); at_builtin; refine Kd.R_append (Kd.int .i64) (w0 := w) w.heap.size rfl (.tmp 54) (.tmp 56) 35 3 (.int .i64 0) 8 rfl Try.underlying35 info3 rfl (by decide) (by omega) (.slice (some ad164) x8_2.length co30) x8_2 x26_2 [.int .i64 x26_2] (fun k_ => some k_ ≠ (.slice (some ⟨go7, 0, none⟩) x7_2.length co7 : Value).ownBlock) (fun _ => False) rfl rfl ?aP (fun _ hk => hk.elim) ?aF ?aO ?aB ?aS ?aL ?_; (case aP => exact rfl); (case aB => exact (by repeat (first | (with_reducible first | exact HB.out | apply below_alloc | apply pw_below_drewN | apply below_drew1) | exact HB.out))); (case aF => exact (fun k_ hk => Kd.fresh' (Kd.R_lt (by (with_reducible repeat (first | apply Kd.R_alloc | apply Kd.R_drewN | apply Kd.R_drew)); exact HO_7.out)) k_ hk)); (case aO => exact (by (with_reducible repeat (first | apply Kd.R_alloc | apply Kd.R_drewN | apply Kd.R_drew)); exact Kd.R_mono HO_8.out (fun _ hk => hk.2))); (case aS => exact (below_size (by repeat (first | (with_reducible first | exact HB.out | apply below_alloc | apply pw_below_drewN | apply below_drew1) | exact HB.out)))); (case aL => have := LMc29.out; omega); intro v170 w34 ho hb hg hat; rw [← Ny169.out] at ho; have n0_ := Aside0.mk (Kd.R_after (ok := (fun _ => True)) (by (with_reducible repeat (first | apply Kd.R_alloc | apply Kd.R_drewN | apply Kd.R_drew)); exact Kd.R_mono HO_7.out (fun _ hk => ⟨trivial, hk⟩)) hg hat); have n1_ := Aside0.mk (hb); have n2_ := Aside0.mk (ho); clear HO_7; clear HB; clear HO_8; have HO_7 := n0_; have HB := n1_; have HO171 := n2_; clear n0_ n1_ n2_; clear ho hb hg hat))
                                    (try simp only [← hl7_2])
                                    go_roundg k2
                                    case measure => have := HK1.out; have := HK2.out; omega
                                    case rel => exact ⟨(y168), (y169), (wrap64 (x26_2 + 1)), (by first | rfl | (simp; done) | (simp [*]; done)), H', ⟨by have := HK1.out; have := HK2.out; omega⟩, ⟨by (try simp only [hl7_1]); (try simp only [hl7_2]); (with_reducible repeat (first | apply Kd.R_alloc | apply Kd.R_drewN | apply Kd.R_drew)); exact Kd.R_mono HO_7.out (fun _ hk => hk.2)⟩, ⟨by (try simp only [hl7_1]); (try simp only [hl7_2]); (with_reducible repeat (first | apply Kd.R_alloc | apply Kd.R_drewN | apply Kd.R_drew)); exact HO171.out⟩, ⟨by repeat (first | (with_reducible first | exact HB.out | apply below_alloc | apply pw_below_drewN | apply below_drew1) | exact HB.out)⟩⟩
                                  · rw [if_neg c29] at H
                                    exact absurd H (by simp)
                                · rw [if_neg c27] at H
                                  exact absurd H (by simp)
                              · rw [if_neg c26] at H
                                exact absurd H (by simp)
                            · replace c25 := Bool.eq_false_iff.mpr c25
                              subst c25
                              have H1 : (impl_distances.l1 k2 a0 l1 x7_2 x8_2 x9_1 a0 (wrap64 (x26_2 + 1))) = some r := by rw [if_neg (show ¬ (false = true) by decide)] at H; exact H
                              clear H
                              have H := H1
                              clear H1
                              have H' := Aside0.mk H
                              clear H
                              have p163 : 0 ≤ (x26_2 : Int) := of_decide_eq_true (by first | (with_reducible assumption) | assumption)
                              have q163 : x26_2 < (x7_2.length : Int) := of_decide_eq_true (by first | (with_reducible assumption) | assumption)
                              obtain ⟨ad163, e163, hx163_0⟩ := Kd.at_int (Kd.R_reads' HO_7.out).2.2 x26_2 p163 q163
                              obtain rfl : (⟨go7, 0, none⟩ : Addr) = ad163 := (by injection e163)
                              (first | simp only [add_plain] at hx163_0 | simp only [add_at] at hx163_0 | simp only [Addr.add, Nat.zero_add] at hx163_0 | skip)
                              replace p163 := eq_true p163
                              replace q163 := eq_true q163
                              obtain ⟨Ao35, co35, eo35⟩ := Kd.R_slice HO_8.out
                              subst eo35
                              have p164 : 0 ≤ (x9_1 : Int) := of_decide_eq_true (by first | (with_reducible assumption) | assumption)
                              have q164 : x9_1 < (x8_2.length : Int) := of_decide_eq_true (by first | (with_reducible assumption) | assumption)
                              obtain ⟨ad164, e164, hx164_0⟩ := Kd.at_int (Kd.R_reads' HO_8.out).2.2 x9_1 p164 q164
                              cases e164
                              replace p164 := eq_true p164
                              replace q164 := eq_true q164
                              go_wp2_with (first | (go_at_call 32; (with_reducible refine (impl_isPair.calls k2 _ _ l1 (rd x8_2 x9_1) x26_2 false _ ?side1 ?side2 A24.out).mono ?_); (case side1 => repeat (first | exact (Kd.C_below HR1.out HB.out) | (with_reducible refine Kd.C_alloc ?_ _) | (with_reducible refine Kd.C_drewN ?_ _) | (with_reducible refine Kd.C_drew ?_))); (case side2 => exact HC1.out); rintro e w36 ⟨rfl, hb⟩; have n0_ := Aside0.mk (Kd.R_below (by (with_reducible repeat (first | apply Kd.R_alloc | apply Kd.R_drewN | apply Kd.R_drew)); exact HO_7.out) hb); have n1_ := Aside0.mk (Kd.R_below (by (with_reducible repeat (first | apply Kd.R_alloc | apply Kd.R_drewN | apply Kd.R_drew)); exact HO_8.out) hb); have n2_ := Aside0.mk (below_step (by repeat (first | (with_reducible first | exact HB.out | apply below_alloc | apply pw_below_drewN | apply below_drew1) | exact HB.out)) hb); clear HO_7; clear HO_8; clear HB; have HO_7 := n0_; have HO_8 := n1_; have HB := n2_; clear n0_ n1_ n2_; (try clear hb); (try clear hb2); (try clear hk); (try clear hi)))
                              (try simp only [← hl7_2])
                              go_roundg k2
                              case measure => have := HK1.out; have := HK2.out; omega
                              case rel => exact ⟨(x7_2), (x8_2), (wrap64 (x26_2 + 1)), (by first | rfl | (simp; done) | (simp [*]; done)), H', ⟨by have := HK1.out; have := HK2.out; omega⟩, ⟨by (try simp only [hl7_1]); (try simp only [hl7_2]); (with_reducible repeat (first | apply Kd.R_alloc | apply Kd.R_drewN | apply Kd.R_drew)); exact HO_7.out⟩, ⟨by (try simp only [hl7_1]); (try simp only [hl7_2]); (with_reducible repeat (first | apply Kd.R_alloc | apply Kd.R_drewN | apply Kd.R_drew)); exact HO_8.out⟩, ⟨by repeat (first | (with_reducible first | exact HB.out | apply below_alloc | apply pw_below_drewN | apply below_drew1) | exact HB.out)⟩⟩
                          · rw [if_neg c23] at H
                            exact absurd H (by simp)
                        · rw [if_neg c22] at H
                          exact absurd H (by simp)
                      · rw [if_neg c21] at H
                        have c21b0 : decide ((rd x7_2 x26_2) < 0) = false := decide_eq_false c21
                        clear c21
                        have H' := Aside0.mk H
                        clear H
                        have p163 : 0 ≤ (x26_2 : Int) := of_decide_eq_true (by first | (with_reducible assumption) | assumption)
                        have q163 : x26_2 < (x7_2.length : Int) := of_decide_eq_true (by first | (with_reducible assumption) | assumption)
                        obtain ⟨ad163, e163, hx163_0⟩ := Kd.at_int (Kd.R_reads' HO_7.out).2.2 x26_2 p163 q163
                        obtain rfl : (⟨go7, 0, none⟩ : Addr) = ad163 := (by injection e163)
                        (first | simp only [add_plain] at hx163_0 | simp only [add_at] at hx163_0 | simp only [Addr.add, Nat.zero_add] at hx163_0 | skip)
                        replace p163 := eq_true p163
                        replace q163 := eq_true q163
                        go_wp2
                        (try simp only [← hl7_2])
                        go_roundg k2
                        case measure => have := HK1.out; have := HK2.out; omega
                        case rel => exact ⟨(x7_2), (x8_2), (wrap64 (x26_2 + 1)), (by first | rfl | (simp; done) | (simp [*]; done)), H', ⟨by have := HK1.out; have := HK2.out; omega⟩, ⟨by (try simp only [hl7_1]); (try simp only [hl7_2]); (with_reducible repeat (first | apply Kd.R_alloc | apply Kd.R_drewN | apply Kd.R_drew)); exact HO_7.out⟩, ⟨by (try simp only [hl7_1]); (try simp only [hl7_2]); (with_reducible repeat (first | apply Kd.R_alloc | apply Kd.R_drewN | apply Kd.R_drew)); exact HO_8.out⟩, ⟨by repeat (first | (with_reducible first | exact HB.out | apply below_alloc | apply pw_below_drewN | apply below_drew1) | exact HB.out)⟩⟩
                    · rw [if_neg c20] at H
                      exact absurd H (by simp)
                  · rw [if_neg c19] at H
                    exact absurd H (by simp)
                · rw [if_neg c18] at H
                  have c18b0 : decide (x26_2 < a0) = false := decide_eq_false c18
                  clear c18
                  have H' := Aside0.mk H
                  clear H
                  go_wp2
                  (try simp only [← hl7_1, ← hl7_2])
                  go_roundg k2
                  case measure => have := HK1.out; have := HK2.out; omega
                  case rel => exact ⟨(x7_2), (x8_2), (wrap64 (x9_1 + 1)), (by first | rfl | (simp; done) | (simp [*]; done)), H', ⟨by have := HK1.out; have := HK2.out; omega⟩, ⟨by (try simp only [hl7_1]); (try simp only [hl7_2]); (with_reducible repeat (first | apply Kd.R_alloc | apply Kd.R_drewN | apply Kd.R_drew)); exact HO_7.out⟩, ⟨by (try simp only [hl7_1]); (try simp only [hl7_2]); (with_reducible repeat (first | apply Kd.R_alloc | apply Kd.R_drewN | apply Kd.R_drew)); exact HO_8.out⟩, ⟨by repeat (first | (with_reducible first | exact HB.out | apply below_alloc | apply pw_below_drewN | apply below_drew1) | exact HB.out)⟩⟩
          · rw [if_neg c16] at H
            have c16b0 : decide (x9_1 < (x8_1.length : Int)) = false := decide_eq_false c16
            (try simp only [hl7_1] at c16b0)
            clear c16
            obtain rfl := Option.some.inj H
            obtain ⟨Ao37, co37, eo37⟩ := Kd.R_slice HO_8.out
            subst eo37
            go_wp2
            go_ret
            exact ⟨_, by first | rfl | (simp [errW_none, errW_some] <;> rfl) | (simp [*, errW_none, errW_some] <;> rfl), by (with_reducible repeat (first | apply Kd.R_alloc | apply Kd.R_drewN | apply Kd.R_drew)); exact Kd.R_mono HO_7.out (fun _ hk => trivial), by repeat (first | (with_reducible first | exact HB.out | apply below_alloc | apply pw_below_drewN | apply below_drew1) | exact HB.out)⟩
    · rw [if_neg c6] at H
      exact absurd H (by simp)
  · rw [if_neg c5] at H
    exact absurd H (by simp)

/-! ### impl_indices: function 19, by hand -/
theorem infInt : (Try.prog.info? 3).map (fun i => (i.zero, i.size, i.bytes)) = some (some (.int .i64 0), 1, 8) := by kernel_rfl
/-- the numbers below n for which p holds -/
def idxs (p : Int → Bool) (n : Nat) : List Int := ((List.range n).map fun i : Nat => (i : Int)).filter p
theorem idxs_succ (p : Int → Bool) (n : Nat) : idxs p (n + 1) = idxs p n ++ if p (n : Int) = true then [(n : Int)] else [] := by
  unfold idxs
  rw [List.range_succ, List.map_append, List.filter_append]
  by_cases h : p (n : Int) = true <;> simp [h]
theorem idxs_len (p : Int → Bool) (n : Nat) : (idxs p n).length ≤ n := Nat.le_trans (List.length_filter_le _ _) (by simp)
set_option maxHeartbeats 1000000 in
set_option maxRecDepth 100000 in
theorem indices_by (fn : FuncId) (g : Func) (cap : Array Value) (p : Int → Bool) (hf : Try.prog.funcs[fn]? = some g) (hname : (g.name == "runtime.NumGoroutine") = false) (hb : g.body.isSome = true)
    (n : Nat) (hn : n ≤ 1048576) (w : World)
    (ho : ∀ i : Nat, i < n → ∀ W, Below w.heap.size w W → Calls Try.prog fn (#[.int .i64 i] ++ cap) W fun e W' => e = .returned (.bool (p i)) ∧ Below W.heap.size W W') :
    Calls Try.prog 19 #[.int .i64 n, .func (.func fn) #[] cap] w fun e w' => ∃ v, e = .returned v ∧ Kd.R (Kd.int .i64) 3 w' w.heap.size (fun _ => True) v (idxs p n) ∧ Below w.heap.size w w' := by
  have HO := Aside0.mk ho
  have HF := Aside0.mk hf
  have HE := Aside0.mk (R_empty (Kd.int .i64) 3 w)
  clear ho hf
  go_enter Try.func19, Try.ntmps19
  go_wp2
  go_loopw [5, 9] (fun v u wr => ∃ k : Nat, k ≤ n ∧ u = .int .i64 k ∧ Aside0 (Kd.R (Kd.int .i64) 3 wr w.heap.size (fun _ => True) v (idxs p k)) ∧ Aside0 (Below w.heap.size w wr)) (fun _ u _ => n - (intOf u).toNat)
  case atStart => exact ⟨0, Nat.zero_le _, rfl, HE, ⟨by repeat (first | exact Below.refl _ _ | apply below_alloc | apply pw_below_drewN | apply below_drew1)⟩⟩
  case round =>
    obtain ⟨k, hk, rfl, HR, HB⟩ := hrel
    by_cases hlt : k < n
    · have hc := HO.out k hlt wr HB.out
      have hl := idxs_len p k
      obtain ⟨b, hpb⟩ : ∃ b, p (k : Int) = b := ⟨_, rfl⟩
      rw [hpb] at hc
      have HC := Aside0.mk hc
      have HP := Aside0.mk hpb
      have HS := Aside0.mk (idxs_succ p k)
      clear hc hpb
      cases b with
      | false =>
        go_wp2_with (refine goesV_ (some 14) rfl rfl HF.out hname hb (#[_] ++ cap) rfl rfl (by simp; rfl) ?_; refine HC.out.mono ?_; rintro e w1 ⟨rfl, hb1⟩; refine ⟨_, rfl, ?_⟩; have H1 := Aside0.mk hb1; clear hb1)
        go_roundw
        case rel => exact ⟨k + 1, by omega, by go_num, ⟨by rw [HS.out, HP.out]; simpa using Kd.R_below HR.out H1.out⟩, ⟨HB.out.trans (H1.out.mono HB.out.size)⟩⟩
        case measure => simp [intOf]; omega
      | true =>
        go_wp2_with (first | (refine goesV_ (some 14) rfl rfl HF.out hname hb (#[_] ++ cap) rfl rfl (by simp; rfl) ?_; refine HC.out.mono ?_; rintro e w1 ⟨rfl, hb1⟩; refine ⟨_, rfl, ?_⟩; have H1 := Aside0.mk hb1; clear hb1) | (at_builtin; refine Kd.R_append (Kd.int .i64) (w0 := w) w.heap.size rfl (.tmp 15) (.tmp 17) 35 3 (.int .i64 0) 8 rfl Try.underlying35 infInt rfl (by decide) (by omega) _ (idxs p k) (k : Int) [.int .i64 k] (fun _ => True) (fun _ => False) rfl rfl rfl (fun _ hk => hk.elim) (fun _ _ => trivial) (Kd.R_below HR.out H1.out) (HB.out.trans (H1.out.mono HB.out.size)) (Nat.le_trans HB.out.size H1.out.size) (by omega) ?_; intro v1 w2 h1 h2 h3 h4; have G1 := Aside0.mk h1; have G2 := Aside0.mk h2; clear h1 h2 h3 h4))
        go_roundw
        case rel => exact ⟨k + 1, by omega, by go_num, ⟨by rw [HS.out, HP.out]; exact G1.out⟩, ⟨G2.out⟩⟩
        case measure => simp [intOf]; omega
    · go_wp2
      go_ret
      exact ⟨_, rfl, by rw [show n = k by omega]; exact HR.out, HB.out⟩


-- NOT PRINTED: function 20 (impl_ClaimGroups_1)

/-! ### impl_ClaimGroups: function 7, by hand -/
def cgPair (c : S37) : S43 := ⟨mn c.f0 c.f1, mx c.f0 c.f1⟩
def cgIn (far : List Int) (j : Int) : Bool := decide (0 ≤ rd far j)
/-- the groups from friend i on, m friends being left -/
def cgN (k : Nat) (a0 : Int) (ps : List S43) : Nat → Nat → List (List Int) → Option (List (List Int))
  | 0, _, out => some out
  | m + 1, i, out => (impl_distances.f k a0 ps (i : Int)).bind fun far => if far.length = a0.toNat ∧ 0 < (idxs (cgIn far) a0.toNat).length then cgN k a0 ps m (i + 1) (if rd (idxs (cgIn far) a0.toNat) 0 = (i : Int) then out ++ [idxs (cgIn far) a0.toNat] else out) else none
def impl_ClaimGroups.f (k : Nat) (a0 : Int) (l1 : List S37) : Option (List (List Int) × Bool) := if impl_AreClaims.f a0 l1 = some true then (cgN k a0 (l1.map cgPair) a0.toNat 0 []).bind fun o => some (o, true) else some ([], false)
theorem cgN_mono (k : Nat) (a0 : Int) (ps : List S43) : ∀ (m i : Nat) (out : List (List Int)), LeO (cgN k a0 ps m i out) (cgN (k + 1) a0 ps m i out) := by
  intro m
  induction m with
  | zero => intro i out; exact LeO.refl _
  | succ m ih =>
    intro i out
    unfold cgN
    exact LeO.bind (impl_distances.mono _ _ _ _) (fun far => LeO.ite (ih _ _) (LeO.refl _))
theorem impl_ClaimGroups.mono : ∀ a0 a1 k, LeO (impl_ClaimGroups.f k a0 a1) (impl_ClaimGroups.f (k + 1) a0 a1) := by
  intro a0 a1 k
  unfold impl_ClaimGroups.f
  exact LeO.ite (LeO.bind (cgN_mono _ _ _ _ _ _) (fun _ => LeO.refl _)) (LeO.refl _)
set_option maxHeartbeats 1000000 in
set_option maxRecDepth 100000 in
theorem cg_1 (far : List Int) (A : Option Addr) (c i B0 : Nat) (w : World) (hr : Kd.C (Kd.int .i64) w A far.length far) (hc : far.length ≤ c) (hi : i < far.length) (q0 : w.cell? ⟨B0, 0, none⟩ = some (.slice A far.length c)) :
    Calls Try.prog 20 #[.int .i64 i, .pointer (some ⟨B0, 0, none⟩)] w fun e w' => e = .returned (.bool (cgIn far i)) ∧ Below w.heap.size w w' := by
  have p0 : (0 : Int) ≤ (i : Int) := by omega
  have p1 : (i : Int) < (far.length : Int) := by omega
  have hu := Try.underlying35
  have hmx := hr.2.1
  obtain ⟨ad, cs, rfl, _, hK, hc0⟩ := Kd.C_get hr (0 : Int) (i : Int) p0 p1
  have hx : w.cell? (ad.add i) = some (.int .i64 (rd far i)) := by
    have hq := hc0 0 (.int .i64 (rd far i)) (by rw [show cs = [Value.int .i64 (rd far i)] from hK]; rfl)
    simpa [Kd.int, Kd.scalar] using hq
  clear hK hc0 hr
  unfold cgIn
  go_enter Try.func20, Try.ntmps20
  go_wp2
  go_ret
  exact ⟨by first | rfl | (simp; done), by repeat (first | exact Below.refl _ _ | apply below_alloc | apply pw_below_drewN | apply below_drew1)⟩
theorem infCg : (Try.prog.info? 43).map (fun i => (i.zero, i.size, i.bytes)) = some (some (.agg #[(.int .i64 0), (.int .i64 0)]), 2, 16) := by kernel_rfl
theorem infCg2 : (Try.prog.info? 35).map (fun i => (i.zero, i.size, i.bytes)) = some (some (.slice none 0 0), 1, 24) := by kernel_rfl
theorem S_void {w : World} {g base : Nat} (hg : base ≤ g) (h : w.heap[g]? = some (.cells #[] 35 (0, 0))) : Kd.S (Kd.slice 3 (Kd.int .i64)) 35 w base (fun _ => True) (.slice (some ⟨g, 0, none⟩) 0 0) [] :=
  ⟨fun _ => 0, ⟨fun _ _ => trivial, [], ⟨by simp, .inr ⟨g, 0, #[], rfl, hg, h, Nat.le_refl _, by unfold maxLen; omega, by simp, by simp⟩⟩, Reps.none _ _⟩⟩
set_option maxHeartbeats 1000000 in
set_option maxRecDepth 100000 in
theorem impl_ClaimGroups.calls (k : Nat) (a0 : Int) (A1 : Option Addr) (c1 : Nat) (l1 : List S37) (r1 : List (List Int)) (r2 : Bool) (w : World) (hr1 : Kd.C k37 w A1 l1.length l1) (hc1 : l1.length ≤ c1) (h : impl_ClaimGroups.f k a0 l1 = some (r1, r2)) :
    Calls Try.prog 7 #[.int .i64 a0, .slice A1 l1.length c1] w fun e w' => ∃ v0_ : Value, e = .returned (.tuple #[v0_, .bool r2]) ∧ Kd.S (Kd.slice 3 (Kd.int .i64)) 35 w' w.heap.size (fun _ => True) v0_ r1 ∧ Below w.heap.size w w' := by
  unfold impl_ClaimGroups.f at h
  by_cases hA : impl_AreClaims.f a0 l1 = some true
  · rw [if_pos hA] at h
    have hA2 := hA
    unfold impl_AreClaims.f at hA2
    simp only [Option.some.injEq, Bool.and_eq_true, decide_eq_true_eq] at hA2
    obtain ⟨⟨⟨n1, n2⟩, hl⟩, _⟩ := hA2
    obtain ⟨n, rfl⟩ := Int.eq_ofNat_of_zero_le (show 0 ≤ a0 by omega)
    have HAC := Aside0.mk (impl_AreClaims.calls (n : Int) A1 c1 l1 true w hr1 hc1 hA)
    have HR := Aside0.mk hr1
    have HH := Aside0.mk h
    clear h hA hr1
    go_enter Try.func7, Try.ntmps7
    go_wp2_with (first | (go_at_call 16; refine HAC.out.mono ?_; rintro e w1 ⟨rfl, hb⟩; have HB := Aside0.mk hb; clear hb))
    go_loopw [6, 21] (fun v6 v21 wr => ∃ (j : Nat), j ≤ l1.length ∧ v21 = .int .i64 j ∧ Aside0 (Kd.R k43 43 wr w.heap.size (fun _ => True) v6 ((l1.take j).map cgPair)) ∧ Aside0 (wr.heap[w1.heap.size + 1]? = some (.cells #[] 35 (0, 0))) ∧ Aside0 (Below w.heap.size w wr)) (fun _ v21 _ => l1.length - (intOf v21).toNat)
    case atStart =>
      refine ⟨0, Nat.zero_le _, rfl, ⟨Kd.R_alloc (Kd.R_lower (R_empty k43 43 w1) HB.out.size) _⟩, ⟨?_⟩, ⟨below_alloc (below_alloc HB.out _) _⟩⟩
      have := heap_alloc_new (w1.alloc (.cells #[] 43)) (.cells #[] 35)
      simpa using this
    case round =>
      obtain ⟨j, hj, rfl, HP, HV, HB1⟩ := hrel
      by_cases hlt : j < l1.length
      · have p1 : (0 : Int) ≤ (j : Int) := by omega
        have q1 : (j : Int) < (l1.length : Int) := by omega
        obtain ⟨ad, e1, hx0, hx1, hx2⟩ := at_T37 HR.out (j : Int) p1 q1
        cases e1
        simp only [Int.toNat_natCast] at hx0 hx1 hx2
        have he : rd_T37 l1 (j : Int) = l1[j] := by simp [rd_T37, List.getD_eq_getElem?_getD, List.getElem?_eq_getElem hlt]
        rw [he] at hx0 hx1 hx2
        obtain ⟨c, hc⟩ : ∃ c_, c_ = l1[j] := ⟨_, rfl⟩
        rw [← hc] at hx0 hx1 hx2
        replace hx0 := (HB1.out.cell (World.block_lt_of_cell? w _ hx0)).trans hx0
        replace hx1 := (HB1.out.cell (World.block_lt_of_cell? w _ hx1)).trans hx1
        replace hx2 := (HB1.out.cell (World.block_lt_of_cell? w _ hx2)).trans hx2
        have HN : Aside0 ((l1.take j).map cgPair ++ [(⟨mn c.f0 c.f1, mx c.f0 c.f1⟩ : S43)] = (l1.take (j + 1)).map cgPair) := ⟨by rw [List.take_succ_eq_append_getElem hlt, List.map_append, List.map_cons, List.map_nil, ← hc]; rfl⟩
        have HLN : Aside0 (((l1.take j).map cgPair).length ≤ 20) := ⟨by rw [List.length_map, List.length_take]; omega⟩
        obtain ⟨A6, c6, rfl⟩ := Kd.R_slice HP.out
        obtain ⟨ys, hys⟩ : ∃ ys_, ys_ = (l1.take j).map cgPair := ⟨_, rfl⟩
        rw [← hys] at HP HN HLN ⊢
        have HYS := Aside0.mk hys
        clear he hc hys
        go_wp2_with (first
          | (go_at_call 17; refine (impl_call.calls c.f0 c.f1 (mn c.f0 c.f1) (mx c.f0 c.f1) _ rfl).mono ?_; rintro e w2 ⟨rfl, hb⟩; have HBx := Aside0.mk (below_alloc (Below.refl wr.heap.size wr) (.cells #[.int .i64 c.f0, .int .i64 c.f1, .bool c.f2] 37)); have G1 := Aside0.mk (Kd.R_below (Kd.R_alloc HP.out _) hb); have G2 := Aside0.mk (blk_below (blk_alloc HV.out _) hb); have G3 := Aside0.mk (below_step (below_alloc HB1.out _) hb); clear hb)
          | (at_builtin; refine Kd.R_append k43 (w0 := w) w.heap.size rfl (.tmp 25) (.tmp 31) 41 43 (.agg #[.int .i64 0, .int .i64 0]) 16 rfl Try.underlying41 infCg rfl (by decide) (by decide) _ ys ⟨mn c.f0 c.f1, mx c.f0 c.f1⟩ [.int .i64 (mn c.f0 c.f1), .int .i64 (mx c.f0 c.f1)] (fun _ => True) (fun _ => False) rfl rfl (k43_mkM w2 w.heap.size _ ⟨mn c.f0 c.f1, mx c.f0 c.f1⟩) (fun _ hk => hk.elim) (fun _ _ => trivial) G1.out G3.out G3.out.size (by have := HLN.out; omega) ?_; intro v1 w3 h1 h2 h3 h4; have H1 := Aside0.mk h1; have H2 := Aside0.mk (blk_grown G2.out h3 (Kd.R_ne G1.out G2.out (by decide))); have H3 := Aside0.mk h2; clear h1 h2 h3 h4))
        go_roundw
        case rel => exact ⟨j + 1, by omega, by go_num, by rw [← HN.out]; exact H1, H2, H3⟩
        case measure => simp [intOf]; omega
      · have hjl : j = l1.length := by omega
        rw [hjl, List.take_length] at HP
        obtain ⟨ps, hps⟩ : ∃ ps_, ps_ = l1.map cgPair := ⟨_, rfl⟩
        have HPL : Aside0 (ps.length ≤ 20) := ⟨by rw [hps, List.length_map]; exact hl⟩
        rw [← hps] at HP HH
        obtain ⟨out, ho, h2⟩ := Option.bind_eq_some_iff.1 HH.out
        simp only [Option.some.injEq, Prod.mk.injEq] at h2
        obtain ⟨rfl, rfl⟩ := h2
        rw [Int.toNat_natCast] at ho
        obtain ⟨A6, c6, rfl⟩ := Kd.R_slice HP.out
        have HLE : Aside0 (w.heap.size ≤ w1.heap.size + 1) := ⟨Nat.le_succ_of_le HB.out.size⟩
        have HS := Aside0.mk (S_void HLE.out HV.out)
        have HO := Aside0.mk ho
        clear hps ho hjl HH HV HB HAC HR
        go_wp2
        go_loopw [7, 35] (fun v7 v35 wr => ∃ (i : Nat) (out' : List (List Int)), i ≤ n ∧ v35 = .int .i64 i ∧ Aside0 (cgN k (n : Int) ps (n - i) i out' = some out) ∧ Aside0 (out'.length ≤ i) ∧ Aside0 (Kd.R k43 43 wr w.heap.size (fun _ => True) (.slice A6 ps.length c6) ps) ∧ Aside0 (Kd.S (Kd.slice 3 (Kd.int .i64)) 35 wr w.heap.size (fun _ => True) v7 out') ∧ Aside0 (Below w.heap.size w wr)) (fun _ v35 _ => n - (intOf v35).toNat)
        case atStart => exact ⟨0, [], Nat.zero_le _, rfl, HO, ⟨Nat.zero_le _⟩, HP, HS, HB1⟩
        case round =>
          clear HO HP HS HB1 hlt hj
          obtain ⟨i, out', hi, rfl, HO, HL, HP, HS, HB⟩ := hrel
          by_cases hlt : i < n
          · have p1 : (0 : Int) ≤ (i : Int) := by omega
            have q1 : (i : Int) < (n : Int) := by omega
            have h := HO.out
            rw [show n - i = (n - (i + 1)) + 1 by omega, cgN] at h
            obtain ⟨far, hf, h⟩ := Option.bind_eq_some_iff.1 h
            by_cases hcc : far.length = (n : Int).toNat ∧ 0 < (idxs (cgIn far) (n : Int).toNat).length
            case neg => rw [if_neg hcc] at h; cases h
            rw [if_pos hcc] at h
            rw [Int.toNat_natCast] at h hcc
            obtain ⟨hcf, hg0⟩ := hcc
            obtain ⟨gr, hgr⟩ : ∃ gr_, gr_ = idxs (cgIn far) n := ⟨_, rfl⟩
            rw [← hgr] at h hg0
            have HGR := Aside0.mk hgr
            have HF := Aside0.mk hf
            have HCF := Aside0.mk hcf
            have HREST := Aside0.mk h
            obtain ⟨A7, c7, rfl⟩ := Kd.S_slice HS.out
            have HCP := Aside0.mk (Kd.R_reads' HP.out)
            have hmf : ∀ (fn : Fn) (first cap : Array Value) (w : World), (Instr.makeFunc fn first cap).run Try.prog w = .ok (.func fn first cap) w := fun _ _ _ _ => rfl
            clear HO hgr hf hcf h
            have g0 : (0 : Int) < (gr.length : Int) := by omega
            by_cases hq : rd gr 0 = (i : Int)
            · have hq1 : (rd gr 0 == (i : Int)) = true := beq_iff_eq.mpr hq
              replace HREST : Aside0 (cgN k (n : Int) ps (n - (i + 1)) (i + 1) (out' ++ [gr]) = some out) := ⟨by have h := HREST.out; rwa [if_pos hq] at h⟩
              clear hq
              go_wp2_with (first
                | (go_at_call 18; refine (impl_distances.calls k (n : Int) A6 c6 ps (i : Int) far _ HCP.out.2.2 HCP.out.2.1 HF.out).mono ?_; rintro e w2 ⟨vf, rfl, hrf, hb⟩; obtain ⟨Af, cf, rfl⟩ := Kd.R_slice hrf; have HRF := Aside0.mk hrf; have HP2 := Aside0.mk (Kd.R_below HP.out hb); have HS2 := Aside0.mk (Kd.S_below HS.out hb); have HB2 := Aside0.mk (below_step HB.out hb); clear hb hrf)
                | (go_at_call 19; refine (indices_by 20 Try.f20 #[.pointer (some ⟨w2.heap.size, 0, none⟩)] (cgIn far) Try.func20 rfl rfl n (by omega) _ (fun q hq W hW => cg_1 far Af cf q w2.heap.size W (Kd.C_below (Kd.C_below (Kd.R_reads' HRF.out).2.2 (below_alloc (Below.refl _ _) _)) hW) (Kd.R_reads' HRF.out).2.1 (by have := HCF.out; omega) ((hW.cell (by simp)).trans (by go_simp)))).mono ?_; rintro e w3 ⟨vg, rfl, hrg, hb⟩; rw [← HGR.out] at hrg; obtain ⟨g, cg, rfl⟩ := R_form hrg hg0; have hcell : w3.cell? ⟨g, 0, none⟩ = some (.int .i64 (rd gr 0)) := (Kd.R_cell 0 hrg 0 (Int.le_refl _) g0).1; have hbw := below_step (below_alloc (Below.refl w2.heap.size w2) (.cells #[.slice Af far.length cf] 35)) hb; have HP3 := Aside0.mk (Kd.R_below HP2.out hbw); have HB3 := Aside0.mk (below_step (below_alloc HB2.out _) hb); have HS3 := Aside0.mk (Kd.S_elder' HS2.out (fun b hb_ => Nat.le_trans (by simp) (Kd.R_base hrg b hb_)) hbw); have HG3 := Aside0.mk (Kd.R_lower hrg (show w.heap.size ≤ _ from (below_alloc HB2.out _).size)); clear hb hbw hrg)
                | (at_builtin; refine Kd.S_append (Kd.slice 3 (Kd.int .i64)) (w0 := w) w.heap.size rfl (.tmp 50) (.tmp 52) 24 35 (.slice none 0 0) 24 rfl Try.underlying24 infCg2 rfl (by decide) (by decide) _ out' gr [.slice (some ⟨g, 0, none⟩) gr.length cg] (fun _ => True) (fun k_ => some k_ = (Value.slice (some ⟨g, 0, none⟩) gr.length cg).ownBlock) rfl rfl (Kd.M_row (Kd.R_tight rfl HG3.out)) (fun k_ hk_ => ⟨trivial, ((Kd.R_apart' HG3.out (Kd.S_typed HS3.out) (by decide)).1 k_ hk_.symm).2⟩) (fun _ _ => trivial) (Kd.S_mono HS3.out (fun k_ hk_ => ⟨trivial, hk_.2⟩)) HB3.out HB3.out.size (by have := HL.out; omega) ?_; intro v1 w4 h1 h2 h3 h4; have HS4 := Aside0.mk h1; have HB4 := Aside0.mk h2; have HP4 := Aside0.mk (Kd.R_over' HP3.out (Kd.S_typed HS3.out) (by decide) h3); clear h1 h2 h3 h4))
              go_roundw
              case rel => exact ⟨i + 1, out' ++ [gr], by omega, by go_num, HREST, ⟨by rw [List.length_append, List.length_singleton]; have := HL.out; omega⟩, HP4, HS4, HB4⟩
              case measure => simp [intOf]; omega
            · have hq1 : (rd gr 0 == (i : Int)) = false := beq_eq_false_iff_ne.mpr hq
              replace HREST : Aside0 (cgN k (n : Int) ps (n - (i + 1)) (i + 1) out' = some out) := ⟨by have h := HREST.out; rwa [if_neg hq] at h⟩
              clear hq
              go_wp2_with (first
                | (go_at_call 18; refine (impl_distances.calls k (n : Int) A6 c6 ps (i : Int) far _ HCP.out.2.2 HCP.out.2.1 HF.out).mono ?_; rintro e w2 ⟨vf, rfl, hrf, hb⟩; obtain ⟨Af, cf, rfl⟩ := Kd.R_slice hrf; have HRF := Aside0.mk hrf; have HP2 := Aside0.mk (Kd.R_below HP.out hb); have HS2 := Aside0.mk (Kd.S_below HS.out hb); have HB2 := Aside0.mk (below_step HB.out hb); clear hb hrf)
                | (go_at_call 19; refine (indices_by 20 Try.f20 #[.pointer (some ⟨w2.heap.size, 0, none⟩)] (cgIn far) Try.func20 rfl rfl n (by omega) _ (fun q hq W hW => cg_1 far Af cf q w2.heap.size W (Kd.C_below (Kd.C_below (Kd.R_reads' HRF.out).2.2 (below_alloc (Below.refl _ _) _)) hW) (Kd.R_reads' HRF.out).2.1 (by have := HCF.out; omega) ((hW.cell (by simp)).trans (by go_simp)))).mono ?_; rintro e w3 ⟨vg, rfl, hrg, hb⟩; rw [← HGR.out] at hrg; obtain ⟨g, cg, rfl⟩ := R_form hrg hg0; have hcell : w3.cell? ⟨g, 0, none⟩ = some (.int .i64 (rd gr 0)) := (Kd.R_cell 0 hrg 0 (Int.le_refl _) g0).1; have hbw := below_step (below_alloc (Below.refl w2.heap.size w2) (.cells #[.slice Af far.length cf] 35)) hb; have HP3 := Aside0.mk (Kd.R_below HP2.out hbw); have HB3 := Aside0.mk (below_step (below_alloc HB2.out _) hb); have HS3 := Aside0.mk (Kd.S_elder' HS2.out (fun b hb_ => Nat.le_trans (by simp) (Kd.R_base hrg b hb_)) hbw); have HG3 := Aside0.mk (Kd.R_lower hrg (show w.heap.size ≤ _ from (below_alloc HB2.out _).size)); clear hb hbw hrg))
              go_roundw
              case rel => exact ⟨i + 1, out', by omega, by go_num, HREST, ⟨by have := HL.out; omega⟩, HP3, ⟨Kd.S_mono HS3.out (fun _ _ => trivial)⟩, HB3⟩
              case measure => simp [intOf]; omega
          · have hin : i = n := by omega
            subst hin
            have h := HO.out
            rw [Nat.sub_self, cgN] at h
            obtain rfl := Option.some.inj h
            have HX := HS
            clear h HO HS
            go_wp2
            go_ret2
            exact ⟨_, rfl, HX.out, HB.out⟩
  · rw [if_neg hA] at h
    simp only [Option.some.injEq, Prod.mk.injEq] at h
    obtain ⟨rfl, rfl⟩ := h
    have hA2 : impl_AreClaims.f a0 l1 = some false := by
      unfold impl_AreClaims.f at hA ⊢
      simpa using hA
    have HAC := Aside0.mk (impl_AreClaims.calls a0 A1 c1 l1 false w hr1 hc1 hA2)
    clear hA hA2 hr1
    go_enter Try.func7, Try.ntmps7
    go_wp2_with (first | (go_at_call 16; refine HAC.out.mono ?_; rintro e w1 ⟨rfl, hb⟩; have HB := Aside0.mk hb; clear hb))
    go_ret2
    exact ⟨_, rfl, Kd.S_nil _ _ _ _ _, HB.out⟩

/-! ### laws_eqIntS: function 21 -/
def laws_eqIntS.l0 : Nat → List Int → List Int → Int → Option (Bool)
  | 0, _, _, _ => none
  | k + 1, x0, x1, x5 => if x5 < (x0.length : Int) then (if 0 ≤ x5 then (if x5 < (x1.length : Int) then (if (rd x0 x5) = (rd x1 x5) then (laws_eqIntS.l0 k x0 x1 (wrap64 (x5 + 1))) else (some false)) else (none)) else (none)) else (some true)
def laws_eqIntS.f (k : Nat) (l0 : List Int) (l1 : List Int) : Option (Bool) := if (l0.length : Int) = (l1.length : Int) then (laws_eqIntS.l0 k l0 l1 0) else (some false)
theorem laws_eqIntS.mono_l : ∀ k, (∀ y0 y1 y2, LeO (laws_eqIntS.l0 k y0 y1 y2) (laws_eqIntS.l0 (k + 1) y0 y1 y2))
  | 0 => fun _ _ _ r h => by simp [laws_eqIntS.l0] at h
  | k + 1 => by
    have ih0 := laws_eqIntS.mono_l k
    · intro y0 y1 y2
      unfold laws_eqIntS.l0
      repeat' first
      | (with_reducible exact ih0 _ _ _)
      | (with_reducible exact LeO.refl _)
      | (with_reducible exact LeO.none _)
      | (with_reducible refine LeO.ite ?_ ?_)
      | (with_reducible refine LeO.bind ?_ (fun _ => ?_))
      | exact ih0 _ _ _
      | exact LeO.none _
      | refine LeO.ite ?_ ?_
      | refine LeO.bind ?_ (fun _ => ?_)
theorem laws_eqIntS.mono : ∀ a0 a1 k, LeO (laws_eqIntS.f k a0 a1) (laws_eqIntS.f (k + 1) a0 a1) := by
  intro a0 a1 k
  have ih0 := laws_eqIntS.mono_l k
  unfold laws_eqIntS.f
  repeat' first
      | (with_reducible exact ih0 _ _ _)
      | (with_reducible exact LeO.refl _)
      | (with_reducible exact LeO.none _)
      | (with_reducible refine LeO.ite ?_ ?_)
      | (with_reducible refine LeO.bind ?_ (fun _ => ?_))
      | exact ih0 _ _ _
      | exact LeO.none _
      | refine LeO.ite ?_ ?_
      | refine LeO.bind ?_ (fun _ => ?_)
set_option maxHeartbeats 8000000 in
set_option maxRecDepth 100000 in
theorem laws_eqIntS.calls (k : Nat) (A0 : Option Addr) (c0 : Nat) (l0 : List Int) (A1 : Option Addr) (c1 : Nat) (l1 : List Int) (r : Bool) (w : World) (hr0 : Kd.C (Kd.int .i64) w A0 l0.length l0) (hc0 : l0.length ≤ c0) (hr1 : Kd.C (Kd.int .i64) w A1 l1.length l1) (hc1 : l1.length ≤ c1) (h : laws_eqIntS.f k l0 l1 = some r) :
    Calls Try.prog 21 #[.slice A0 l0.length c0, .slice A1 l1.length c1] w fun e w' => e = .returned (.bool r) ∧ Drawn0 w w' := by
  have HR0 := Aside0.mk hr0
  have HC0 := Aside0.mk hc0
  clear hr0 hc0
  have HR1 := Aside0.mk hr1
  have HC1 := Aside0.mk hc1
  clear hr1 hc1
  have H : (if (l0.length : Int) = (l1.length : Int) then (laws_eqIntS.l0 k l0 l1 0) else (some false)) = some r := h
  clear h
  by_cases c3 : (l0.length : Int) = (l1.length : Int)
  · rw [if_pos c3] at H
    have c3b0 : ((l0.length : Int) == (l1.length : Int)) = true := beq_iff_eq.mpr c3
    have c3b1 : ((l0.length : Int) != (l1.length : Int)) = false := bne_eq_false_iff_eq.mpr c3
    have c3b2 : (l0.length == l1.length) = true := by first | simpa using c3 | (simp at c3 ⊢; omega)
    clear c3
    have H' := Aside0.mk H
    clear H
    go_enter Try.func21, Try.ntmps21
    go_wp2
    repeat (go_quiet (fail); try go_wp2)
    go_loopg [5] k (fun kq v5 w' => ∃ (x5_1 : Int), v5 = .int .i64 x5_1 ∧ Aside0 (laws_eqIntS.l0 kq l0 l1 x5_1 = some r) ∧ Aside0 (kq ≤ k) ∧ Drawn0 w w')
    case atStart => exact ⟨(0), (by first | rfl | (simp; done) | (simp [*]; done)), H', ⟨Nat.le_refl _⟩, by repeat (first | exact Drawn0.refl _ | apply Drawn0.step)⟩
    case round =>
      clear H'
      try clear c1
      try clear c2
      try clear p2
      try clear c3
      try clear c3b0
      try clear c3b1
      try clear c3b2
      obtain ⟨x5_1, rfl, HA, HK1, ⟨m1, rfl⟩⟩ := hrel
      cases gk with
      | zero => exact absurd HA.out (by simp [laws_eqIntS.l0])
      | succ k1 =>
        have H := HA.out
        clear HA
        simp only [laws_eqIntS.l0] at H
        by_cases c4 : x5_1 < (l0.length : Int)
        · rw [if_pos c4] at H
          have c4b0 : decide (x5_1 < (l0.length : Int)) = true := decide_eq_true c4
          clear c4
          by_cases c5 : 0 ≤ x5_1
          · rw [if_pos c5] at H
            have c5b0 : decide (0 ≤ x5_1) = true := decide_eq_true c5
            clear c5
            by_cases c6 : x5_1 < (l1.length : Int)
            · rw [if_pos c6] at H
              have c6b0 : decide (x5_1 < (l1.length : Int)) = true := decide_eq_true c6
              clear c6
              by_cases c7 : (rd l0 x5_1) = (rd l1 x5_1)
              · rw [if_pos c7] at H
                have c7b0 : ((rd l0 x5_1) == (rd l1 x5_1)) = true := beq_iff_eq.mpr c7
                have c7b1 : ((rd l0 x5_1) != (rd l1 x5_1)) = false := bne_eq_false_iff_eq.mpr c7
                clear c7
                have H' := Aside0.mk H
                clear H
                have p172 : 0 ≤ (x5_1 : Int) := of_decide_eq_true (by first | (with_reducible assumption) | assumption)
                have q172 : x5_1 < (l0.length : Int) := of_decide_eq_true (by first | (with_reducible assumption) | assumption)
                obtain ⟨ad172, e172, hx172_0⟩ := Kd.at_int HR0.out x5_1 p172 q172
                cases e172
                replace p172 := eq_true p172
                replace q172 := eq_true q172
                have p173 : 0 ≤ (x5_1 : Int) := of_decide_eq_true (by first | (with_reducible assumption) | assumption)
                have q173 : x5_1 < (l1.length : Int) := of_decide_eq_true (by first | (with_reducible assumption) | assumption)
                obtain ⟨ad173, e173, hx173_0⟩ := Kd.at_int HR1.out x5_1 p173 q173
                cases e173
                replace p173 := eq_true p173
                replace q173 := eq_true q173
                go_wp2
                repeat (go_quiet (fail); try go_wp2)
                go_roundg k1
                case measure => have := HK1.out; omega
                case rel => exact ⟨(wrap64 (x5_1 + 1)), (by first | rfl | (simp; done) | (simp [*]; done)), H', ⟨by have := HK1.out; omega⟩, by repeat (first | exact Drawn0.refl _ | apply Drawn0.step)⟩
              · rw [if_neg c7] at H
                have c7b0 : ((rd l0 x5_1) == (rd l1 x5_1)) = false := beq_eq_false_iff_ne.mpr c7
                have c7b1 : ((rd l0 x5_1) != (rd l1 x5_1)) = true := bne_iff_ne.mpr c7
                obtain rfl := Option.some.inj H
                have p172 : 0 ≤ (x5_1 : Int) := of_decide_eq_true (by first | (with_reducible assumption) | assumption)
                have q172 : x5_1 < (l0.length : Int) := of_decide_eq_true (by first | (with_reducible assumption) | assumption)
                obtain ⟨ad172, e172, hx172_0⟩ := Kd.at_int HR0.out x5_1 p172 q172
                cases e172
                replace p172 := eq_true p172
                replace q172 := eq_true q172
                have p173 : 0 ≤ (x5_1 : Int) := of_decide_eq_true (by first | (with_reducible assumption) | assumption)
                have q173 : x5_1 < (l1.length : Int) := of_decide_eq_true (by first | (with_reducible assumption) | assumption)
                obtain ⟨ad173, e173, hx173_0⟩ := Kd.at_int HR1.out x5_1 p173 q173
                cases e173
                replace p173 := eq_true p173
                replace q173 := eq_true q173
                go_wp2
                repeat (go_quiet (fail); try go_wp2)
                go_ret
                exact ⟨by first | rfl | (simp; done) | (simp [*]; done), by repeat (first | exact Drawn0.refl _ | apply Drawn0.step)⟩
            · rw [if_neg c6] at H
              exact absurd H (by simp)
          · rw [if_neg c5] at H
            exact absurd H (by simp)
        · rw [if_neg c4] at H
          have c4b0 : decide (x5_1 < (l0.length : Int)) = false := decide_eq_false c4
          clear c4
          obtain rfl := Option.some.inj H
          go_wp2
          repeat (go_quiet (fail); try go_wp2)
          go_ret
          exact ⟨by first | rfl | (simp; done) | (simp [*]; done), by repeat (first | exact Drawn0.refl _ | apply Drawn0.step)⟩
  · rw [if_neg c3] at H
    have c3b0 : ((l0.length : Int) == (l1.length : Int)) = false := beq_eq_false_iff_ne.mpr c3
    have c3b1 : ((l0.length : Int) != (l1.length : Int)) = true := bne_iff_ne.mpr c3
    have c3b2 : (l0.length == l1.length) = false := by first | simpa using c3 | (simp at c3 ⊢; omega)
    obtain rfl := Option.some.inj H
    go_enter Try.func21, Try.ntmps21
    go_wp2
    repeat (go_quiet (fail); try go_wp2)
    go_ret
    exact ⟨by first | rfl | (simp; done) | (simp [*]; done), by repeat (first | exact Drawn0.refl _ | apply Drawn0.step)⟩

/-! ### laws_eqIntSS: function 8 -/
def laws_eqIntSS.l0 : Nat → List (List Int) → List (List Int) → Int → Option (Bool)
  | 0, _, _, _ => none
  | k + 1, x0, x1, x5 => if x5 < (x0.length : Int) then (if 0 ≤ x5 then (if x5 < (x1.length : Int) then ((laws_eqIntS.f k (rd_L4 x0 x5) (rd_L4 x1 x5)).bind fun t176 => (if t176 = true then (laws_eqIntSS.l0 k x0 x1 (wrap64 (x5 + 1))) else (some false))) else (none)) else (none)) else (some true)
def laws_eqIntSS.f (k : Nat) (l0 : List (List Int)) (l1 : List (List Int)) : Option (Bool) := if (l0.length : Int) = (l1.length : Int) then (laws_eqIntSS.l0 k l0 l1 0) else (some false)
theorem laws_eqIntSS.mono_l : ∀ k, (∀ y0 y1 y2, LeO (laws_eqIntSS.l0 k y0 y1 y2) (laws_eqIntSS.l0 (k + 1) y0 y1 y2))
  | 0 => fun _ _ _ r h => by simp [laws_eqIntSS.l0] at h
  | k + 1 => by
    have ih0 := laws_eqIntSS.mono_l k
    · intro y0 y1 y2
      unfold laws_eqIntSS.l0
      repeat' first
      | (with_reducible exact ih0 _ _ _)
      | (with_reducible exact laws_eqIntS.mono _ _ _)
      | (with_reducible exact LeO.refl _)
      | (with_reducible exact LeO.none _)
      | (with_reducible refine LeO.ite ?_ ?_)
      | (with_reducible refine LeO.bind ?_ (fun _ => ?_))
      | exact ih0 _ _ _
      | exact laws_eqIntS.mono _ _ _
      | exact LeO.none _
      | refine LeO.ite ?_ ?_
      | refine LeO.bind ?_ (fun _ => ?_)
theorem laws_eqIntSS.mono : ∀ a0 a1 k, LeO (laws_eqIntSS.f k a0 a1) (laws_eqIntSS.f (k + 1) a0 a1) := by
  intro a0 a1 k
  have ih0 := laws_eqIntSS.mono_l k
  unfold laws_eqIntSS.f
  repeat' first
      | (with_reducible exact ih0 _ _ _)
      | (with_reducible exact laws_eqIntS.mono _ _ _)
      | (with_reducible exact LeO.refl _)
      | (with_reducible exact LeO.none _)
      | (with_reducible refine LeO.ite ?_ ?_)
      | (with_reducible refine LeO.bind ?_ (fun _ => ?_))
      | exact ih0 _ _ _
      | exact laws_eqIntS.mono _ _ _
      | exact LeO.none _
      | refine LeO.ite ?_ ?_
      | refine LeO.bind ?_ (fun _ => ?_)
set_option maxHeartbeats 8000000 in
set_option maxRecDepth 100000 in
theorem laws_eqIntSS.calls (k : Nat) (A0 : Option Addr) (c0 : Nat) (l0 : List (List Int)) (A1 : Option Addr) (c1 : Nat) (l1 : List (List Int)) (r : Bool) (w : World) (hr0 : Kd.C (Kd.slice 3 (Kd.int .i64)) w A0 l0.length l0) (hc0 : l0.length ≤ c0) (hr1 : Kd.C (Kd.slice 3 (Kd.int .i64)) w A1 l1.length l1) (hc1 : l1.length ≤ c1) (h : laws_eqIntSS.f k l0 l1 = some r) :
    Calls Try.prog 8 #[.slice A0 l0.length c0, .slice A1 l1.length c1] w fun e w' => e = .returned (.bool r) ∧ Drawn0 w w' := by
  have HR0 := Aside0.mk hr0
  have HC0 := Aside0.mk hc0
  clear hr0 hc0
  have HR1 := Aside0.mk hr1
  have HC1 := Aside0.mk hc1
  clear hr1 hc1
  have H : (if (l0.length : Int) = (l1.length : Int) then (laws_eqIntSS.l0 k l0 l1 0) else (some false)) = some r := h
  clear h
  by_cases c3 : (l0.length : Int) = (l1.length : Int)
  · rw [if_pos c3] at H
    have c3b0 : ((l0.length : Int) == (l1.length : Int)) = true := beq_iff_eq.mpr c3
    have c3b1 : ((l0.length : Int) != (l1.length : Int)) = false := bne_eq_false_iff_eq.mpr c3
    have c3b2 : (l0.length == l1.length) = true := by first | simpa using c3 | (simp at c3 ⊢; omega)
    clear c3
    have H' := Aside0.mk H
    clear H
    go_enter Try.func8, Try.ntmps8
    go_wp2
    repeat (go_quiet (fail); try go_wp2)
    go_loopg [5] k (fun kq v5 w' => ∃ (x5_1 : Int), v5 = .int .i64 x5_1 ∧ Aside0 (laws_eqIntSS.l0 kq l0 l1 x5_1 = some r) ∧ Aside0 (kq ≤ k) ∧ Drawn0 w w')
    case atStart => exact ⟨(0), (by first | rfl | (simp; done) | (simp [*]; done)), H', ⟨Nat.le_refl _⟩, by repeat (first | exact Drawn0.refl _ | apply Drawn0.step)⟩
    case round =>
      clear H'
      try clear c1
      try clear p2
      try clear c3
      try clear c3b0
      try clear c3b1
      try clear c3b2
      obtain ⟨x5_1, rfl, HA, HK1, ⟨m1, rfl⟩⟩ := hrel
      cases gk with
      | zero => exact absurd HA.out (by simp [laws_eqIntSS.l0])
      | succ k1 =>
        have H := HA.out
        clear HA
        simp only [laws_eqIntSS.l0] at H
        by_cases c4 : x5_1 < (l0.length : Int)
        · rw [if_pos c4] at H
          have c4b0 : decide (x5_1 < (l0.length : Int)) = true := decide_eq_true c4
          clear c4
          by_cases c5 : 0 ≤ x5_1
          · rw [if_pos c5] at H
            have c5b0 : decide (0 ≤ x5_1) = true := decide_eq_true c5
            clear c5
            by_cases c6 : x5_1 < (l1.length : Int)
            · rw [if_pos c6] at H
              have c6b0 : decide (x5_1 < (l1.length : Int)) = true := decide_eq_true c6
              clear c6
              replace H := Option.bind_eq_some_iff.mp H
              obtain ⟨t176, A70, H⟩ := H
              replace H : (if t176 = true then (laws_eqIntSS.l0 k1 l0 l1 (wrap64 (x5_1 + 1))) else (some false)) = some r := H
              have A7 := Aside0.mk A70
              clear A70
              by_cases c8 : t176 = true
              · subst c8
                have H1 : (laws_eqIntSS.l0 k1 l0 l1 (wrap64 (x5_1 + 1))) = some r := by rw [if_pos rfl] at H; exact H
                clear H
                have H := H1
                clear H1
                have H' := Aside0.mk H
                clear H
                have p174 : 0 ≤ (x5_1 : Int) := of_decide_eq_true (by first | (with_reducible assumption) | assumption)
                have q174 : x5_1 < (l0.length : Int) := of_decide_eq_true (by first | (with_reducible assumption) | assumption)
                obtain ⟨ad174, A174_0, c174_0, e174, hx174_0, hl174_0, hi174_0⟩ := at_L4 HR0.out x5_1 p174 q174
                cases e174
                have HR174_0 := Aside0.mk hi174_0
                have HC174_0 := Aside0.mk hl174_0
                clear hi174_0 hl174_0
                replace p174 := eq_true p174
                replace q174 := eq_true q174
                have p175 : 0 ≤ (x5_1 : Int) := of_decide_eq_true (by first | (with_reducible assumption) | assumption)
                have q175 : x5_1 < (l1.length : Int) := of_decide_eq_true (by first | (with_reducible assumption) | assumption)
                obtain ⟨ad175, A175_0, c175_0, e175, hx175_0, hl175_0, hi175_0⟩ := at_L4 HR1.out x5_1 p175 q175
                cases e175
                have HR175_0 := Aside0.mk hi175_0
                have HC175_0 := Aside0.mk hl175_0
                clear hi175_0 hl175_0
                replace p175 := eq_true p175
                replace q175 := eq_true q175
                go_wp2_with (first | (go_at_call 21; (with_reducible refine (laws_eqIntS.calls k1 _ _ (rd_L4 l0 x5_1) _ _ (rd_L4 l1 x5_1) true _ ?side1 ?side2 ?side3 ?side4 A7.out).mono ?_); (case side1 => repeat (first | exact HR174_0.out | (with_reducible refine Kd.C_alloc ?_ _) | (with_reducible refine Kd.C_drewN ?_ _) | (with_reducible refine Kd.C_drew ?_))); (case side2 => exact HC174_0.out); (case side3 => repeat (first | exact HR175_0.out | (with_reducible refine Kd.C_alloc ?_ _) | (with_reducible refine Kd.C_drewN ?_ _) | (with_reducible refine Kd.C_drew ?_))); (case side4 => exact HC175_0.out); rintro e w' ⟨rfl, ⟨nd, rfl⟩⟩; (try first | exact ⟨rfl, _, World.drewN_drewN _ _ _⟩ | exact ⟨rfl, _, Eq.trans (World.drewN_drewN _ _ _) (congrArg (World.drewN _) (Nat.add_assoc _ _ _))⟩)))
                repeat (go_quiet (first | (go_at_call 21; (with_reducible refine (laws_eqIntS.calls k1 _ _ (rd_L4 l0 x5_1) _ _ (rd_L4 l1 x5_1) true _ ?side1 ?side2 ?side3 ?side4 A7.out).mono ?_); (case side1 => repeat (first | exact HR174_0.out | (with_reducible refine Kd.C_alloc ?_ _) | (with_reducible refine Kd.C_drewN ?_ _) | (with_reducible refine Kd.C_drew ?_))); (case side2 => exact HC174_0.out); (case side3 => repeat (first | exact HR175_0.out | (with_reducible refine Kd.C_alloc ?_ _) | (with_reducible refine Kd.C_drewN ?_ _) | (with_reducible refine Kd.C_drew ?_))); (case side4 => exact HC175_0.out); rintro e w' ⟨rfl, ⟨nd, rfl⟩⟩; (try first | exact ⟨rfl, _, World.drewN_drewN _ _ _⟩ | exact ⟨rfl, _, Eq.trans (World.drewN_drewN _ _ _) (congrArg (World.drewN _) (Nat.add_assoc _ _ _))⟩))); try go_wp2_with (first | (go_at_call 21; (with_reducible refine (laws_eqIntS.calls k1 _ _ (rd_L4 l0 x5_1) _ _ (rd_L4 l1 x5_1) true _ ?side1 ?side2 ?side3 ?side4 A7.out).mono ?_); (case side1 => repeat (first | exact HR174_0.out | (with_reducible refine Kd.C_alloc ?_ _) | (with_reducible refine Kd.C_drewN ?_ _) | (with_reducible refine Kd.C_drew ?_))); (case side2 => exact HC174_0.out); (case side3 => repeat (first | exact HR175_0.out | (with_reducible refine Kd.C_alloc ?_ _) | (with_reducible refine Kd.C_drewN ?_ _) | (with_reducible refine Kd.C_drew ?_))); (case side4 => exact HC175_0.out); rintro e w' ⟨rfl, ⟨nd, rfl⟩⟩; (try first | exact ⟨rfl, _, World.drewN_drewN _ _ _⟩ | exact ⟨rfl, _, Eq.trans (World.drewN_drewN _ _ _) (congrArg (World.drewN _) (Nat.add_assoc _ _ _))⟩))))
                go_roundg k1
                case measure => have := HK1.out; omega
                case rel => exact ⟨(wrap64 (x5_1 + 1)), (by first | rfl | (simp; done) | (simp [*]; done)), H', ⟨by have := HK1.out; omega⟩, by repeat (first | exact Drawn0.refl _ | apply Drawn0.step)⟩
              · replace c8 := Bool.eq_false_iff.mpr c8
                subst c8
                have H1 : (some false) = some r := by rw [if_neg (show ¬ (false = true) by decide)] at H; exact H
                clear H
                have H := H1
                clear H1
                obtain rfl := Option.some.inj H
                have p174 : 0 ≤ (x5_1 : Int) := of_decide_eq_true (by first | (with_reducible assumption) | assumption)
                have q174 : x5_1 < (l0.length : Int) := of_decide_eq_true (by first | (with_reducible assumption) | assumption)
                obtain ⟨ad174, A174_0, c174_0, e174, hx174_0, hl174_0, hi174_0⟩ := at_L4 HR0.out x5_1 p174 q174
                cases e174
                have HR174_0 := Aside0.mk hi174_0
                have HC174_0 := Aside0.mk hl174_0
                clear hi174_0 hl174_0
                replace p174 := eq_true p174
                replace q174 := eq_true q174
                have p175 : 0 ≤ (x5_1 : Int) := of_decide_eq_true (by first | (with_reducible assumption) | assumption)
                have q175 : x5_1 < (l1.length : Int) := of_decide_eq_true (by first | (with_reducible assumption) | assumption)
                obtain ⟨ad175, A175_0, c175_0, e175, hx175_0, hl175_0, hi175_0⟩ := at_L4 HR1.out x5_1 p175 q175
                cases e175
                have HR175_0 := Aside0.mk hi175_0
                have HC175_0 := Aside0.mk hl175_0
                clear hi175_0 hl175_0
                replace p175 := eq_true p175
                replace q175 := eq_true q175
                go_wp2_with (first | (go_at_call 21; (with_reducible refine (laws_eqIntS.calls k1 _ _ (rd_L4 l0 x5_1) _ _ (rd_L4 l1 x5_1) false _ ?side1 ?side2 ?side3 ?side4 A7.out).mono ?_); (case side1 => repeat (first | exact HR174_0.out | (with_reducible refine Kd.C_alloc ?_ _) | (with_reducible refine Kd.C_drewN ?_ _) | (with_reducible refine Kd.C_drew ?_))); (case side2 => exact HC174_0.out); (case side3 => repeat (first | exact HR175_0.out | (with_reducible refine Kd.C_alloc ?_ _) | (with_reducible refine Kd.C_drewN ?_ _) | (with_reducible refine Kd.C_drew ?_))); (case side4 => exact HC175_0.out); rintro e w' ⟨rfl, ⟨nd, rfl⟩⟩; (try first | exact ⟨rfl, _, World.drewN_drewN _ _ _⟩ | exact ⟨rfl, _, Eq.trans (World.drewN_drewN _ _ _) (congrArg (World.drewN _) (Nat.add_assoc _ _ _))⟩)))
                repeat (go_quiet (first | (go_at_call 21; (with_reducible refine (laws_eqIntS.calls k1 _ _ (rd_L4 l0 x5_1) _ _ (rd_L4 l1 x5_1) false _ ?side1 ?side2 ?side3 ?side4 A7.out).mono ?_); (case side1 => repeat (first | exact HR174_0.out | (with_reducible refine Kd.C_alloc ?_ _) | (with_reducible refine Kd.C_drewN ?_ _) | (with_reducible refine Kd.C_drew ?_))); (case side2 => exact HC174_0.out); (case side3 => repeat (first | exact HR175_0.out | (with_reducible refine Kd.C_alloc ?_ _) | (with_reducible refine Kd.C_drewN ?_ _) | (with_reducible refine Kd.C_drew ?_))); (case side4 => exact HC175_0.out); rintro e w' ⟨rfl, ⟨nd, rfl⟩⟩; (try first | exact ⟨rfl, _, World.drewN_drewN _ _ _⟩ | exact ⟨rfl, _, Eq.trans (World.drewN_drewN _ _ _) (congrArg (World.drewN _) (Nat.add_assoc _ _ _))⟩))); try go_wp2_with (first | (go_at_call 21; (with_reducible refine (laws_eqIntS.calls k1 _ _ (rd_L4 l0 x5_1) _ _ (rd_L4 l1 x5_1) false _ ?side1 ?side2 ?side3 ?side4 A7.out).mono ?_); (case side1 => repeat (first | exact HR174_0.out | (with_reducible refine Kd.C_alloc ?_ _) | (with_reducible refine Kd.C_drewN ?_ _) | (with_reducible refine Kd.C_drew ?_))); (case side2 => exact HC174_0.out); (case side3 => repeat (first | exact HR175_0.out | (with_reducible refine Kd.C_alloc ?_ _) | (with_reducible refine Kd.C_drewN ?_ _) | (with_reducible refine Kd.C_drew ?_))); (case side4 => exact HC175_0.out); rintro e w' ⟨rfl, ⟨nd, rfl⟩⟩; (try first | exact ⟨rfl, _, World.drewN_drewN _ _ _⟩ | exact ⟨rfl, _, Eq.trans (World.drewN_drewN _ _ _) (congrArg (World.drewN _) (Nat.add_assoc _ _ _))⟩))))
                go_ret
                exact ⟨by first | rfl | (simp; done) | (simp [*]; done), by repeat (first | exact Drawn0.refl _ | apply Drawn0.step)⟩
            · rw [if_neg c6] at H
              exact absurd H (by simp)
          · rw [if_neg c5] at H
            exact absurd H (by simp)
        · rw [if_neg c4] at H
          have c4b0 : decide (x5_1 < (l0.length : Int)) = false := decide_eq_false c4
          clear c4
          obtain rfl := Option.some.inj H
          go_wp2
          repeat (go_quiet (fail); try go_wp2)
          go_ret
          exact ⟨by first | rfl | (simp; done) | (simp [*]; done), by repeat (first | exact Drawn0.refl _ | apply Drawn0.step)⟩
  · rw [if_neg c3] at H
    have c3b0 : ((l0.length : Int) == (l1.length : Int)) = false := beq_eq_false_iff_ne.mpr c3
    have c3b1 : ((l0.length : Int) != (l1.length : Int)) = true := bne_iff_ne.mpr c3
    have c3b2 : (l0.length == l1.length) = false := by first | simpa using c3 | (simp at c3 ⊢; omega)
    obtain rfl := Option.some.inj H
    go_enter Try.func8, Try.ntmps8
    go_wp2
    repeat (go_quiet (fail); try go_wp2)
    go_ret
    exact ⟨by first | rfl | (simp; done) | (simp [*]; done), by repeat (first | exact Drawn0.refl _ | apply Drawn0.step)⟩

end Go.Proofs.Ytgmgicmgobjjcaa.PFnExactClaimGroups
