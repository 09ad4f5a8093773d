/- The law where there are. No conditions. -/
import Derived.Test.YtjoapoebeknddaaW0
import Derived.Test.YtjoapoebeknddaaW4
import Derived.Test.YtjoapoebeknddaaW1
set_option linter.unusedSimpArgs false
set_option linter.unusedVariables false
open Go Go.Am
namespace T
open Go.Proofs
set_option maxRecDepth 100000
set_option maxHeartbeats 4000000
set_option linter.unusedSimpArgs false
set_option linter.unusedVariables false
variable {base : Nat} {H : Heap}
theorem good_ok {ρ : Env} {bb m0 N : Nat} {M : List (Nat × Nat)} {s1 s : Value} (hbb : bb ≤ H.length) (hv : Hs 572 [(1, s1), (5, gi N), (6, s)] ρ) (h1 : Bytes H s1) (hs : SL H s (toZ M)) (hg : Gx N M) :
    Ok (run1 C (cal C) 1001 bb 3 m0 [.tmp 4] (fin C (cal C) 1001 bb ([.code (nodeC [1, 1, 1] bodyF)]) (some (.normal, ρ, H)))) fun v H' => v = bo true := by
  have hN := hg.n10
  have hM := hg.len
  have hZ := toZ_len M
  have hr := hg.good.inN
  have ha := areC_of hg.n0 hN hM hg.good
  have hpl := playC_len hN M
  obtain ⟨pA, hpA⟩ : ∃ p : Nat → Bool, ∀ k, p k = allK (playC N (M.take k)) := ⟨_, fun _ => rfl⟩
  obtain ⟨pI, hpI⟩ : ∃ p : Nat → Bool, ∀ k, p k = (lrn N M k == 0) := ⟨_, fun _ => rfl⟩
  obtain ⟨pN, hpN⟩ : ∃ p : Nat → Bool, ∀ k, p k = (playC N (less M k) == playC N M) := ⟨_, fun _ => rfl⟩
  obtain ⟨all, hall⟩ : ∃ a, a = allK (playC N M) := ⟨_, rfl⟩
  obtain ⟨cnt, hcnt⟩ : ∃ a, a = popSum (playC N M) := ⟨_, rfl⟩
  have hth : ndB (nd M.length pA) = all := by
    rw [nd_spec fun k hk h => ?_, hpA, List.take_length, hall]
    rw [hpA] at h
    rw [hpA, List.take_length]; exact playC_mono hN hr h
  obtain ⟨nd', hnd⟩ : ∃ r, r = ndI (nd M.length pA) := ⟨_, rfl⟩
  obtain ⟨v, H2, e4, k2, tI, rfl, r2⟩ := knownAfter_c (base := bb) (n := N) hs (by omega) hN hr ha
  have s2 := hs.keep k2
  obtain ⟨v, H3, e5, k3, tS, rfl, r3⟩ := knownS_c (base := bb) (n := N) s2 (by omega) hN hr ha
  have s3 := s2.keep k3
  have e6 := all_c (base := bb) (n := N) s3 (by omega) hN hr ha
  have e7 := allS_c (base := bb) (n := N) s3 (by omega) hN hr ha
  rw [← allK_playC hN] at e7
  rw [← hall] at e6 e7
  have e8 := countK_c (base := bb) (n := N) s3 (by omega) hN hr ha
  have e9 := countKS_c (base := bb) (n := N) s3 (by omega) hN hr ha
  rw [len16_pop (pl1024 hN)] at e9
  rw [← hcnt] at e8 e9
  have e10 := need_c (base := bb) (n := N) s3 (by omega) hN hr ha pA hpA
  have e11 := needS_c (base := bb) (n := N) s3 (by omega) hN hr ha pA (fun k => by rw [hpA, allK_playC hN])
  rw [hth, ← hnd] at e10 e11
  obtain ⟨v, H4, e12, F4, iV, rfl, rfl, i4⟩ := idle_c (base := bb) (n := N) s3 (by omega) hN hr ha pI hpI
  have s4 := s3.add F4
  obtain ⟨v, H5, e13, F5, iW, rfl, rfl, i5⟩ := idleS_c (base := bb) (n := N) s4 (by omega) hN hr ha pI hpI
  have s5 := s4.add F5
  obtain ⟨v, H6, e14, F6, nV, rfl, rfl, i6⟩ := needl_c (base := bb) (n := N) s5 (by omega) hN hr ha pN hpN
  have s6 := s5.add F6
  obtain ⟨v, H7, e15, F7, nW, rfl, rfl, i7⟩ := needlS_c (base := bb) (n := N) s6 (by omega) hN hr ha pN hpN
  have s7 := s6.add F7
  obtain ⟨v, H8, e16, F8, bV, rfl, rfl, i8⟩ := back_c (base := bb) (n := (N : Int)) s7 (by omega) ha
  have s8 := s7.add F8
  obtain ⟨v, H9, e17, F9, bW, rfl, rfl, i9⟩ := backS_c (base := bb) (n := (N : Int)) s8 (by omega) ha
  have s9 := s8.add F9
  have kA : Keeps H3.length H3 (H3 ++ F4 ++ F5 ++ F6 ++ F7 ++ F8 ++ F9) := by simp only [List.append_assoc]; exact .append (Nat.le_refl _) _
  have x4 : SI (H3 ++ F4 ++ F5 ++ F6 ++ F7 ++ F8 ++ F9) iV _ := i4.shows.keep (by rw [List.append_assoc (H3 ++ F4), List.append_assoc (H3 ++ F4), List.append_assoc (H3 ++ F4), List.append_assoc (H3 ++ F4)]; exact .append (Nat.le_refl _) _)
  have x5 : SI (H3 ++ F4 ++ F5 ++ F6 ++ F7 ++ F8 ++ F9) iW _ := i5.shows.keep (by rw [List.append_assoc (H3 ++ F4 ++ F5), List.append_assoc (H3 ++ F4 ++ F5), List.append_assoc (H3 ++ F4 ++ F5)]; exact .append (Nat.le_refl _) _)
  have x6 : SI (H3 ++ F4 ++ F5 ++ F6 ++ F7 ++ F8 ++ F9) nV _ := i6.shows.keep (by rw [List.append_assoc (H3 ++ F4 ++ F5 ++ F6), List.append_assoc (H3 ++ F4 ++ F5 ++ F6)]; exact .append (Nat.le_refl _) _)
  have x7 : SI (H3 ++ F4 ++ F5 ++ F6 ++ F7 ++ F8 ++ F9) nW _ := i7.shows.keep (by rw [List.append_assoc (H3 ++ F4 ++ F5 ++ F6 ++ F7)]; exact .append (Nat.le_refl _) _)
  have hrl : (toZ M.reverse).length = M.length := by rw [toZ_len, List.length_reverse]
  have x8 : SL (H3 ++ F4 ++ F5 ++ F6 ++ F7 ++ F8 ++ F9) bV (toZ M.reverse) := by unfold SL; rw [hrl]; exact i8.shows.add F9
  have x9 : SL (H3 ++ F4 ++ F5 ++ F6 ++ F7 ++ F8 ++ F9) bW (toZ M.reverse) := by unfold SL; rw [hrl]; exact i9.shows
  have kAll : Keeps H.length H (H3 ++ F4 ++ F5 ++ F6 ++ F7 ++ F8 ++ F9) := (k2.trans (k3.mono k2.1)).trans (kA.mono (Nat.le_trans k2.1 k3.1))
  have y9 := h1.keep kAll
  have q2 := ((r2.keep k3).keep kA).shows
  have q3 := (r3.keep kA).shows
  generalize H3 ++ F4 ++ F5 ++ F6 ++ F7 ++ F8 ++ F9 = H9 at *
  have li := idxLen M.length pI
  have ln := idxLen M.length pN
  have e20 := wRows_c (base := bb) q2 q3 (by rw [List.length_map]; omega) (rowsLen _) true (by simp)
  have e21i := wSame_c (base := bb) x4 x5 (by omega) true (by simp)
  have e21n := wSame_c (base := bb) x6 x7 (by omega) true (by simp)
  have e22 := wLetters_c (base := bb) x8 x9 (by omega) true (by simp)
  have e23 := areC_c (base := bb) (n := (N : Int)) s9 (by omega)
  have e24 := areS_c (base := bb) (n := (N : Int)) s9 (by omega)
  rw [ha] at e23 e24
  have hx : Fx H9 N M pI pN s1 s tI iV nV bV := ⟨y9, s9, q2, x4, x6, x8⟩
  have e25 := fewest_c (base := bb) (H := H9) (n := N) (by have := hg.n0; omega) hN
  have gr := hg.good.rev
  have har := areC_of hg.n0 hN (by rw [List.length_reverse]; exact hM) gr
  have hzr := toZ_len M.reverse
  obtain ⟨v, H10, e26, k10, tO, rfl, r10⟩ := knownAfter_c (base := bb) (n := N) x8 (by rw [List.length_reverse]; omega) hN gr.inN har
  have hx10 := hx.keep k10
  have hO := r10.shows
  have hnd2 : all = true → nd' ≤ M.length ∧ allK (playC N (M.take nd')) = true := fun h => by
    have hb : ndB (nd M.length pA) = true := by rw [hth]; exact h
    obtain ⟨n1, n2⟩ := nd_get hb
    rw [← hnd] at n1 n2
    exact ⟨n1, by rw [← hpA]; exact n2⟩
  have hlo : all = true → fewN N ≤ nd' ∧ nd' ≤ M.length := fun h => by
    obtain ⟨n1, n2⟩ := hnd2 h
    exact ⟨few_low hN (by have := hg.n0; omega) hg.good n2, n1⟩
  have hsq : ((cnt : Int) == IntKind.i64.wrap ((N : Int) * (N : Int))) = all := by
    have hnn : N * N ≤ 100 := Nat.mul_le_mul hN hN
    have hw : IntKind.i64.wrap ((N : Int) * (N : Int)) = ((N * N : Nat) : Int) := by rw [IntKind.wrap_i64]; push_cast; omega
    rw [hw, hall, hcnt, allK, hpl, Bool.eq_iff_iff, beq_iff_eq, beq_iff_eq]
    omega
  have hall3 : all = true → nd' ≤ M.length ∧ allK (playC N (M.take nd')) = true ∧ (0 < nd' → allK (playC N (M.take (nd' - 1))) = false) := fun h => by
    obtain ⟨n1, n2⟩ := hnd2 h
    refine ⟨n1, n2, fun h0 => ?_⟩
    rw [← hpA]
    exact nd_before (N := M.length) (by rw [← hnd]; omega)
  obtain ⟨f1, f5, f6, (hl : List.length ρ = 572)⟩ := hv
  refine cdk ?_
  refine sq2 fun K1 hK1 => ?_
  -- region 4
  simp only [go_sem, gs, List.length_set, hl, reduceIte, Nat.reduceEqDiff, Nat.reduceLT, f5, f6, e4]
  refine env_gen (N := 572) [(1, s1), (5, gi N), (6, s), (7, tI), (8, bo true)] ?_ fun r1 h' => ?_
  · simp only [Hs, gs, List.length_set, hl, reduceIte, Nat.reduceEqDiff, Nat.reduceLT, f1, f5, f6, and_self, and_true, true_and]
    all_goals (and_intros <;> rfl)
  clear f1 f5 f6 hl
  obtain ⟨f1, f5, f6, f7, f8, (hl : List.length r1 = 572)⟩ := h'
  subst hK1
  refine cdk ?_
  refine sq2 fun K2 hK2 => ?_
  -- region 5
  simp only [go_sem, gs, List.length_set, hl, reduceIte, Nat.reduceEqDiff, Nat.reduceLT, f5, f6, e5]
  refine env_gen (N := 572) [(1, s1), (5, gi N), (6, s), (7, tI), (8, bo true), (9, tS), (10, bo true)] ?_ fun r2 h' => ?_
  · simp only [Hs, gs, List.length_set, hl, reduceIte, Nat.reduceEqDiff, Nat.reduceLT, f1, f5, f6, f7, f8, and_self, and_true, true_and]
    all_goals (and_intros <;> rfl)
  clear f1 f5 f6 f7 f8 hl
  obtain ⟨f1, f5, f6, f7, f8, f9, f10, (hl : List.length r2 = 572)⟩ := h'
  subst hK2
  refine cdk ?_
  refine sq2 fun K3 hK3 => ?_
  -- region 6
  simp only [go_sem, gs, List.length_set, hl, reduceIte, Nat.reduceEqDiff, Nat.reduceLT, f5, f6, e6]
  refine env_gen (N := 572) [(1, s1), (5, gi N), (6, s), (7, tI), (8, bo true), (9, tS), (10, bo true), (11, bo all), (12, bo true)] ?_ fun r3 h' => ?_
  · simp only [Hs, gs, List.length_set, hl, reduceIte, Nat.reduceEqDiff, Nat.reduceLT, f1, f5, f6, f7, f8, f9, f10, and_self, and_true, true_and]
    all_goals (and_intros <;> rfl)
  clear f1 f5 f6 f7 f8 f9 f10 hl
  obtain ⟨f1, f5, f6, f7, f8, f9, f10, f11, f12, (hl : List.length r3 = 572)⟩ := h'
  subst hK3
  refine cdk ?_
  refine sq2 fun K4 hK4 => ?_
  -- region 7
  simp only [go_sem, gs, List.length_set, hl, reduceIte, Nat.reduceEqDiff, Nat.reduceLT, f5, f6, e7]
  refine env_gen (N := 572) [(1, s1), (5, gi N), (6, s), (7, tI), (8, bo true), (9, tS), (10, bo true), (11, bo all), (12, bo true), (13, bo all), (14, bo true)] ?_ fun r4 h' => ?_
  · simp only [Hs, gs, List.length_set, hl, reduceIte, Nat.reduceEqDiff, Nat.reduceLT, f1, f5, f6, f7, f8, f9, f10, f11, f12, and_self, and_true, true_and]
    all_goals (and_intros <;> rfl)
  clear f1 f5 f6 f7 f8 f9 f10 f11 f12 hl
  obtain ⟨f1, f5, f6, f7, f8, f9, f10, f11, f12, f13, f14, (hl : List.length r4 = 572)⟩ := h'
  subst hK4
  refine cdk ?_
  refine sq2 fun K5 hK5 => ?_
  -- region 8
  simp only [go_sem, gs, List.length_set, hl, reduceIte, Nat.reduceEqDiff, Nat.reduceLT, f5, f6, e8]
  refine env_gen (N := 572) [(1, s1), (5, gi N), (6, s), (7, tI), (8, bo true), (9, tS), (10, bo true), (11, bo all), (12, bo true), (13, bo all), (14, bo true), (15, gi cnt), (16, bo true)] ?_ fun r5 h' => ?_
  · simp only [Hs, gs, List.length_set, hl, reduceIte, Nat.reduceEqDiff, Nat.reduceLT, f1, f5, f6, f7, f8, f9, f10, f11, f12, f13, f14, and_self, and_true, true_and]
    all_goals (and_intros <;> rfl)
  clear f1 f5 f6 f7 f8 f9 f10 f11 f12 f13 f14 hl
  obtain ⟨f1, f5, f6, f7, f8, f9, f10, f11, f12, f13, f14, f15, f16, (hl : List.length r5 = 572)⟩ := h'
  subst hK5
  refine cdk ?_
  refine sq2 fun K6 hK6 => ?_
  -- region 9
  simp only [go_sem, gs, List.length_set, hl, reduceIte, Nat.reduceEqDiff, Nat.reduceLT, f5, f6, e9]
  refine env_gen (N := 572) [(1, s1), (5, gi N), (6, s), (7, tI), (8, bo true), (9, tS), (10, bo true), (11, bo all), (12, bo true), (13, bo all), (14, bo true), (15, gi cnt), (16, bo true), (17, gi cnt), (18, bo true)] ?_ fun r6 h' => ?_
  · simp only [Hs, gs, List.length_set, hl, reduceIte, Nat.reduceEqDiff, Nat.reduceLT, f1, f5, f6, f7, f8, f9, f10, f11, f12, f13, f14, f15, f16, and_self, and_true, true_and]
    all_goals (and_intros <;> rfl)
  clear f1 f5 f6 f7 f8 f9 f10 f11 f12 f13 f14 f15 f16 hl
  obtain ⟨f1, f5, f6, f7, f8, f9, f10, f11, f12, f13, f14, f15, f16, f17, f18, (hl : List.length r6 = 572)⟩ := h'
  subst hK6
  refine cdk ?_
  refine sq2 fun K7 hK7 => ?_
  -- region 10
  simp only [go_sem, gs, List.length_set, hl, reduceIte, Nat.reduceEqDiff, Nat.reduceLT, f5, f6, e10]
  refine env_gen (N := 572) [(1, s1), (5, gi N), (6, s), (7, tI), (8, bo true), (9, tS), (10, bo true), (11, bo all), (12, bo true), (13, bo all), (14, bo true), (15, gi cnt), (16, bo true), (17, gi cnt), (18, bo true), (19, gi nd'), (20, bo all)] ?_ fun r7 h' => ?_
  · simp only [Hs, gs, List.length_set, hl, reduceIte, Nat.reduceEqDiff, Nat.reduceLT, f1, f5, f6, f7, f8, f9, f10, f11, f12, f13, f14, f15, f16, f17, f18, and_self, and_true, true_and]
    all_goals (and_intros <;> rfl)
  clear f1 f5 f6 f7 f8 f9 f10 f11 f12 f13 f14 f15 f16 f17 f18 hl
  obtain ⟨f1, f5, f6, f7, f8, f9, f10, f11, f12, f13, f14, f15, f16, f17, f18, f19, f20, (hl : List.length r7 = 572)⟩ := h'
  subst hK7
  refine cdk ?_
  refine sq2 fun K8 hK8 => ?_
  -- region 11
  simp only [go_sem, gs, List.length_set, hl, reduceIte, Nat.reduceEqDiff, Nat.reduceLT, f5, f6, e11]
  refine env_gen (N := 572) [(1, s1), (5, gi N), (6, s), (7, tI), (8, bo true), (9, tS), (10, bo true), (11, bo all), (12, bo true), (13, bo all), (14, bo true), (15, gi cnt), (16, bo true), (17, gi cnt), (18, bo true), (19, gi nd'), (20, bo all), (21, gi nd'), (22, bo all)] ?_ fun r8 h' => ?_
  · simp only [Hs, gs, List.length_set, hl, reduceIte, Nat.reduceEqDiff, Nat.reduceLT, f1, f5, f6, f7, f8, f9, f10, f11, f12, f13, f14, f15, f16, f17, f18, f19, f20, and_self, and_true, true_and]
    all_goals (and_intros <;> rfl)
  clear f1 f5 f6 f7 f8 f9 f10 f11 f12 f13 f14 f15 f16 f17 f18 f19 f20 hl
  obtain ⟨f1, f5, f6, f7, f8, f9, f10, f11, f12, f13, f14, f15, f16, f17, f18, f19, f20, f21, f22, (hl : List.length r8 = 572)⟩ := h'
  subst hK8
  refine cdk ?_
  refine sq2 fun K9 hK9 => ?_
  -- region 12
  simp only [go_sem, gs, List.length_set, hl, reduceIte, Nat.reduceEqDiff, Nat.reduceLT, f5, f6, e12]
  refine env_gen (N := 572) [(1, s1), (5, gi N), (6, s), (7, tI), (8, bo true), (9, tS), (10, bo true), (11, bo all), (12, bo true), (13, bo all), (14, bo true), (15, gi cnt), (16, bo true), (17, gi cnt), (18, bo true), (19, gi nd'), (20, bo all), (21, gi nd'), (22, bo all), (23, iV), (24, bo true)] ?_ fun r9 h' => ?_
  · simp only [Hs, gs, List.length_set, hl, reduceIte, Nat.reduceEqDiff, Nat.reduceLT, f1, f5, f6, f7, f8, f9, f10, f11, f12, f13, f14, f15, f16, f17, f18, f19, f20, f21, f22, and_self, and_true, true_and]
    all_goals (and_intros <;> rfl)
  clear f1 f5 f6 f7 f8 f9 f10 f11 f12 f13 f14 f15 f16 f17 f18 f19 f20 f21 f22 hl
  obtain ⟨f1, f5, f6, f7, f8, f9, f10, f11, f12, f13, f14, f15, f16, f17, f18, f19, f20, f21, f22, f23, f24, (hl : List.length r9 = 572)⟩ := h'
  subst hK9
  refine cdk ?_
  refine sq2 fun K10 hK10 => ?_
  -- region 13
  simp only [go_sem, gs, List.length_set, hl, reduceIte, Nat.reduceEqDiff, Nat.reduceLT, f5, f6, e13]
  refine env_gen (N := 572) [(1, s1), (5, gi N), (6, s), (7, tI), (8, bo true), (9, tS), (10, bo true), (11, bo all), (12, bo true), (13, bo all), (14, bo true), (15, gi cnt), (16, bo true), (17, gi cnt), (18, bo true), (19, gi nd'), (20, bo all), (21, gi nd'), (22, bo all), (23, iV), (24, bo true), (25, iW), (26, bo true)] ?_ fun r10 h' => ?_
  · simp only [Hs, gs, List.length_set, hl, reduceIte, Nat.reduceEqDiff, Nat.reduceLT, f1, f5, f6, f7, f8, f9, f10, f11, f12, f13, f14, f15, f16, f17, f18, f19, f20, f21, f22, f23, f24, and_self, and_true, true_and]
    all_goals (and_intros <;> rfl)
  clear f1 f5 f6 f7 f8 f9 f10 f11 f12 f13 f14 f15 f16 f17 f18 f19 f20 f21 f22 f23 f24 hl
  obtain ⟨f1, f5, f6, f7, f8, f9, f10, f11, f12, f13, f14, f15, f16, f17, f18, f19, f20, f21, f22, f23, f24, f25, f26, (hl : List.length r10 = 572)⟩ := h'
  subst hK10
  refine cdk ?_
  refine sq2 fun K11 hK11 => ?_
  -- region 14
  simp only [go_sem, gs, List.length_set, hl, reduceIte, Nat.reduceEqDiff, Nat.reduceLT, f5, f6, e14]
  refine env_gen (N := 572) [(1, s1), (5, gi N), (6, s), (7, tI), (8, bo true), (9, tS), (10, bo true), (11, bo all), (12, bo true), (13, bo all), (14, bo true), (15, gi cnt), (16, bo true), (17, gi cnt), (18, bo true), (19, gi nd'), (20, bo all), (21, gi nd'), (22, bo all), (23, iV), (24, bo true), (25, iW), (26, bo true), (27, nV), (28, bo true)] ?_ fun r11 h' => ?_
  · simp only [Hs, gs, List.length_set, hl, reduceIte, Nat.reduceEqDiff, Nat.reduceLT, f1, f5, f6, f7, f8, f9, f10, f11, f12, f13, f14, f15, f16, f17, f18, f19, f20, f21, f22, f23, f24, f25, f26, and_self, and_true, true_and]
    all_goals (and_intros <;> rfl)
  clear f1 f5 f6 f7 f8 f9 f10 f11 f12 f13 f14 f15 f16 f17 f18 f19 f20 f21 f22 f23 f24 f25 f26 hl
  obtain ⟨f1, f5, f6, f7, f8, f9, f10, f11, f12, f13, f14, f15, f16, f17, f18, f19, f20, f21, f22, f23, f24, f25, f26, f27, f28, (hl : List.length r11 = 572)⟩ := h'
  subst hK11
  refine cdk ?_
  refine sq2 fun K12 hK12 => ?_
  -- region 15
  simp only [go_sem, gs, List.length_set, hl, reduceIte, Nat.reduceEqDiff, Nat.reduceLT, f5, f6, e15]
  refine env_gen (N := 572) [(1, s1), (5, gi N), (6, s), (7, tI), (8, bo true), (9, tS), (10, bo true), (11, bo all), (12, bo true), (13, bo all), (14, bo true), (15, gi cnt), (16, bo true), (17, gi cnt), (18, bo true), (19, gi nd'), (20, bo all), (21, gi nd'), (22, bo all), (23, iV), (24, bo true), (25, iW), (26, bo true), (27, nV), (28, bo true), (29, nW), (30, bo true)] ?_ fun r12 h' => ?_
  · simp only [Hs, gs, List.length_set, hl, reduceIte, Nat.reduceEqDiff, Nat.reduceLT, f1, f5, f6, f7, f8, f9, f10, f11, f12, f13, f14, f15, f16, f17, f18, f19, f20, f21, f22, f23, f24, f25, f26, f27, f28, and_self, and_true, true_and]
    all_goals (and_intros <;> rfl)
  clear f1 f5 f6 f7 f8 f9 f10 f11 f12 f13 f14 f15 f16 f17 f18 f19 f20 f21 f22 f23 f24 f25 f26 f27 f28 hl
  obtain ⟨f1, f5, f6, f7, f8, f9, f10, f11, f12, f13, f14, f15, f16, f17, f18, f19, f20, f21, f22, f23, f24, f25, f26, f27, f28, f29, f30, (hl : List.length r12 = 572)⟩ := h'
  subst hK12
  refine cdk ?_
  refine sq2 fun K13 hK13 => ?_
  -- region 16
  simp only [go_sem, gs, List.length_set, hl, reduceIte, Nat.reduceEqDiff, Nat.reduceLT, f5, f6, e16]
  refine env_gen (N := 572) [(1, s1), (5, gi N), (6, s), (7, tI), (8, bo true), (9, tS), (10, bo true), (11, bo all), (12, bo true), (13, bo all), (14, bo true), (15, gi cnt), (16, bo true), (17, gi cnt), (18, bo true), (19, gi nd'), (20, bo all), (21, gi nd'), (22, bo all), (23, iV), (24, bo true), (25, iW), (26, bo true), (27, nV), (28, bo true), (29, nW), (30, bo true), (31, bV), (32, bo true)] ?_ fun r13 h' => ?_
  · simp only [Hs, gs, List.length_set, hl, reduceIte, Nat.reduceEqDiff, Nat.reduceLT, f1, f5, f6, f7, f8, f9, f10, f11, f12, f13, f14, f15, f16, f17, f18, f19, f20, f21, f22, f23, f24, f25, f26, f27, f28, f29, f30, and_self, and_true, true_and]
    all_goals (and_intros <;> rfl)
  clear f1 f5 f6 f7 f8 f9 f10 f11 f12 f13 f14 f15 f16 f17 f18 f19 f20 f21 f22 f23 f24 f25 f26 f27 f28 f29 f30 hl
  obtain ⟨f1, f5, f6, f7, f8, f9, f10, f11, f12, f13, f14, f15, f16, f17, f18, f19, f20, f21, f22, f23, f24, f25, f26, f27, f28, f29, f30, f31, f32, (hl : List.length r13 = 572)⟩ := h'
  subst hK13
  refine cdk ?_
  refine sq2 fun K14 hK14 => ?_
  -- region 17
  simp only [go_sem, gs, List.length_set, hl, reduceIte, Nat.reduceEqDiff, Nat.reduceLT, f5, f6, e17]
  refine env_gen (N := 572) [(1, s1), (5, gi N), (6, s), (7, tI), (8, bo true), (9, tS), (10, bo true), (11, bo all), (12, bo true), (13, bo all), (14, bo true), (15, gi cnt), (16, bo true), (17, gi cnt), (18, bo true), (19, gi nd'), (20, bo all), (21, gi nd'), (22, bo all), (23, iV), (24, bo true), (25, iW), (26, bo true), (27, nV), (28, bo true), (29, nW), (30, bo true), (31, bV), (32, bo true), (33, bW), (34, bo true)] ?_ fun r14 h' => ?_
  · simp only [Hs, gs, List.length_set, hl, reduceIte, Nat.reduceEqDiff, Nat.reduceLT, f1, f5, f6, f7, f8, f9, f10, f11, f12, f13, f14, f15, f16, f17, f18, f19, f20, f21, f22, f23, f24, f25, f26, f27, f28, f29, f30, f31, f32, and_self, and_true, true_and]
    all_goals (and_intros <;> rfl)
  clear f1 f5 f6 f7 f8 f9 f10 f11 f12 f13 f14 f15 f16 f17 f18 f19 f20 f21 f22 f23 f24 f25 f26 f27 f28 f29 f30 f31 f32 hl
  obtain ⟨f1, f5, f6, f7, f8, f9, f10, f11, f12, f13, f14, f15, f16, f17, f18, f19, f20, f21, f22, f23, f24, f25, f26, f27, f28, f29, f30, f31, f32, f33, f34, (hl : List.length r14 = 572)⟩ := h'
  subst hK14
  refine cdk ?_
  refine sq2 fun K15 hK15 => ?_
  refine sq2 fun K16 hK16 => ?_
  -- region 18
  simp only [fin_reg, List.append_eq, l_mc, l_mn, l_ca, l_na, slim]
  refine opsk 14 fun K17 hK17 => ?_
  simp only [go_sem, List.take_succ_cons, List.take_zero, gs, List.length_set, hl, reduceIte, Nat.reduceEqDiff, Nat.reduceLT, f7, f8, f9, f10, f12, f14, e20, e21i, e21n, e22, e23, e24, bne_self_eq_false, beq_self_eq_true, Bool.not_true, Bool.not_false]
  subst hK17
  simp only [List.drop_succ_cons, List.drop_zero]
  refine env_gen (N := 572) [(1, s1), (5, gi N), (6, s), (7, tI), (8, bo true), (11, bo all), (12, bo true), (13, bo all), (15, gi cnt), (16, bo true), (17, gi cnt), (18, bo true), (19, gi nd'), (20, bo all), (21, gi nd'), (22, bo all), (23, iV), (24, bo true), (25, iW), (26, bo true), (27, nV), (28, bo true), (29, nW), (30, bo true), (31, bV), (32, bo true), (33, bW), (34, bo true), (178, bo false)] ?_ fun r15 h' => ?_
  · simp only [Hs, gs, List.length_set, hl, reduceIte, Nat.reduceEqDiff, Nat.reduceLT, f1, f5, f6, f7, f8, f9, f10, f11, f12, f13, f14, f15, f16, f17, f18, f19, f20, f21, f22, f23, f24, f25, f26, f27, f28, f29, f30, f31, f32, f33, f34, and_self, and_true, true_and]
    all_goals (and_intros <;> rfl)
  clear f1 f5 f6 f7 f8 f9 f10 f11 f12 f13 f14 f15 f16 f17 f18 f19 f20 f21 f22 f23 f24 f25 f26 f27 f28 f29 f30 f31 f32 f33 f34 hl
  obtain ⟨f1, f5, f6, f7, f8, f11, f12, f13, f15, f16, f17, f18, f19, f20, f21, f22, f23, f24, f25, f26, f27, f28, f29, f30, f31, f32, f33, f34, f178, (hl : List.length r15 = 572)⟩ := h'
  refine opsk 10 fun K18 hK18 => ?_
  simp only [go_sem, List.take_succ_cons, List.take_zero, gs, List.length_set, hl, reduceIte, Nat.reduceEqDiff, Nat.reduceLT, f11, f13, f16, f18, f178, e20, e21i, e21n, e22, e23, e24, bne_self_eq_false, beq_self_eq_true, Bool.not_true, Bool.not_false]
  subst hK18
  simp only [List.drop_succ_cons, List.drop_zero]
  refine env_gen (N := 572) [(1, s1), (5, gi N), (6, s), (7, tI), (8, bo true), (11, bo all), (12, bo true), (15, gi cnt), (16, bo true), (17, gi cnt), (19, gi nd'), (20, bo all), (21, gi nd'), (22, bo all), (23, iV), (24, bo true), (25, iW), (26, bo true), (27, nV), (28, bo true), (29, nW), (30, bo true), (31, bV), (32, bo true), (33, bW), (34, bo true), (188, bo false)] ?_ fun r16 h' => ?_
  · simp only [Hs, gs, List.length_set, hl, reduceIte, Nat.reduceEqDiff, Nat.reduceLT, f1, f5, f6, f7, f8, f11, f12, f13, f15, f16, f17, f18, f19, f20, f21, f22, f23, f24, f25, f26, f27, f28, f29, f30, f31, f32, f33, f34, f178, and_self, and_true, true_and]
    all_goals (and_intros <;> rfl)
  clear f1 f5 f6 f7 f8 f11 f12 f13 f15 f16 f17 f18 f19 f20 f21 f22 f23 f24 f25 f26 f27 f28 f29 f30 f31 f32 f33 f34 f178 hl
  obtain ⟨f1, f5, f6, f7, f8, f11, f12, f15, f16, f17, f19, f20, f21, f22, f23, f24, f25, f26, f27, f28, f29, f30, f31, f32, f33, f34, f188, (hl : List.length r16 = 572)⟩ := h'
  refine opsk 10 fun K19 hK19 => ?_
  simp only [go_sem, List.take_succ_cons, List.take_zero, gs, List.length_set, hl, reduceIte, Nat.reduceEqDiff, Nat.reduceLT, f15, f17, f20, f22, f188, e20, e21i, e21n, e22, e23, e24, bne_self_eq_false, beq_self_eq_true, Bool.not_true, Bool.not_false]
  subst hK19
  simp only [List.drop_succ_cons, List.drop_zero]
  refine env_gen (N := 572) [(1, s1), (5, gi N), (6, s), (7, tI), (8, bo true), (11, bo all), (12, bo true), (15, gi cnt), (16, bo true), (19, gi nd'), (20, bo all), (21, gi nd'), (23, iV), (24, bo true), (25, iW), (26, bo true), (27, nV), (28, bo true), (29, nW), (30, bo true), (31, bV), (32, bo true), (33, bW), (34, bo true), (198, bo false)] ?_ fun r17 h' => ?_
  · simp only [Hs, gs, List.length_set, hl, reduceIte, Nat.reduceEqDiff, Nat.reduceLT, f1, f5, f6, f7, f8, f11, f12, f15, f16, f17, f19, f20, f21, f22, f23, f24, f25, f26, f27, f28, f29, f30, f31, f32, f33, f34, f188, and_self, and_true, true_and]
    all_goals (and_intros <;> rfl)
  clear f1 f5 f6 f7 f8 f11 f12 f15 f16 f17 f19 f20 f21 f22 f23 f24 f25 f26 f27 f28 f29 f30 f31 f32 f33 f34 f188 hl
  obtain ⟨f1, f5, f6, f7, f8, f11, f12, f15, f16, f19, f20, f21, f23, f24, f25, f26, f27, f28, f29, f30, f31, f32, f33, f34, f198, (hl : List.length r17 = 572)⟩ := h'
  refine opsk 10 fun K20 hK20 => ?_
  simp only [go_sem, List.take_succ_cons, List.take_zero, gs, List.length_set, hl, reduceIte, Nat.reduceEqDiff, Nat.reduceLT, f19, f21, f24, f26, f198, e20, e21i, e21n, e22, e23, e24, bne_self_eq_false, beq_self_eq_true, Bool.not_true, Bool.not_false]
  subst hK20
  simp only [List.drop_succ_cons, List.drop_zero]
  refine env_gen (N := 572) [(1, s1), (5, gi N), (6, s), (7, tI), (8, bo true), (11, bo all), (12, bo true), (15, gi cnt), (16, bo true), (19, gi nd'), (20, bo all), (23, iV), (24, bo true), (25, iW), (27, nV), (28, bo true), (29, nW), (30, bo true), (31, bV), (32, bo true), (33, bW), (34, bo true), (208, bo false)] ?_ fun r18 h' => ?_
  · simp only [Hs, gs, List.length_set, hl, reduceIte, Nat.reduceEqDiff, Nat.reduceLT, f1, f5, f6, f7, f8, f11, f12, f15, f16, f19, f20, f21, f23, f24, f25, f26, f27, f28, f29, f30, f31, f32, f33, f34, f198, and_self, and_true, true_and]
    all_goals (and_intros <;> rfl)
  clear f1 f5 f6 f7 f8 f11 f12 f15 f16 f19 f20 f21 f23 f24 f25 f26 f27 f28 f29 f30 f31 f32 f33 f34 f198 hl
  obtain ⟨f1, f5, f6, f7, f8, f11, f12, f15, f16, f19, f20, f23, f24, f25, f27, f28, f29, f30, f31, f32, f33, f34, f208, (hl : List.length r18 = 572)⟩ := h'
  refine opsk 11 fun K21 hK21 => ?_
  simp only [go_sem, List.take_succ_cons, List.take_zero, gs, List.length_set, hl, reduceIte, Nat.reduceEqDiff, Nat.reduceLT, f23, f25, f28, f30, f208, e20, e21i, e21n, e22, e23, e24, bne_self_eq_false, beq_self_eq_true, Bool.not_true, Bool.not_false]
  subst hK21
  simp only [List.drop_succ_cons, List.drop_zero]
  refine env_gen (N := 572) [(1, s1), (5, gi N), (6, s), (7, tI), (8, bo true), (11, bo all), (12, bo true), (15, gi cnt), (16, bo true), (19, gi nd'), (20, bo all), (23, iV), (24, bo true), (27, nV), (28, bo true), (29, nW), (31, bV), (32, bo true), (33, bW), (34, bo true), (219, bo false)] ?_ fun r19 h' => ?_
  · simp only [Hs, gs, List.length_set, hl, reduceIte, Nat.reduceEqDiff, Nat.reduceLT, f1, f5, f6, f7, f8, f11, f12, f15, f16, f19, f20, f23, f24, f25, f27, f28, f29, f30, f31, f32, f33, f34, f208, and_self, and_true, true_and]
    all_goals (and_intros <;> rfl)
  clear f1 f5 f6 f7 f8 f11 f12 f15 f16 f19 f20 f23 f24 f25 f27 f28 f29 f30 f31 f32 f33 f34 f208 hl
  obtain ⟨f1, f5, f6, f7, f8, f11, f12, f15, f16, f19, f20, f23, f24, f27, f28, f29, f31, f32, f33, f34, f219, (hl : List.length r19 = 572)⟩ := h'
  refine opsk 11 fun K22 hK22 => ?_
  simp only [go_sem, List.take_succ_cons, List.take_zero, gs, List.length_set, hl, reduceIte, Nat.reduceEqDiff, Nat.reduceLT, f27, f29, f32, f34, f219, e20, e21i, e21n, e22, e23, e24, bne_self_eq_false, beq_self_eq_true, Bool.not_true, Bool.not_false]
  subst hK22
  simp only [List.drop_succ_cons, List.drop_zero]
  refine env_gen (N := 572) [(1, s1), (5, gi N), (6, s), (7, tI), (8, bo true), (11, bo all), (12, bo true), (15, gi cnt), (16, bo true), (19, gi nd'), (20, bo all), (23, iV), (24, bo true), (27, nV), (28, bo true), (31, bV), (32, bo true), (33, bW), (230, bo false)] ?_ fun r20 h' => ?_
  · simp only [Hs, gs, List.length_set, hl, reduceIte, Nat.reduceEqDiff, Nat.reduceLT, f1, f5, f6, f7, f8, f11, f12, f15, f16, f19, f20, f23, f24, f27, f28, f29, f31, f32, f33, f34, f219, and_self, and_true, true_and]
    all_goals (and_intros <;> rfl)
  clear f1 f5 f6 f7 f8 f11 f12 f15 f16 f19 f20 f23 f24 f27 f28 f29 f31 f32 f33 f34 f219 hl
  obtain ⟨f1, f5, f6, f7, f8, f11, f12, f15, f16, f19, f20, f23, f24, f27, f28, f31, f32, f33, f230, (hl : List.length r20 = 572)⟩ := h'
  refine opsk 13 fun K23 hK23 => ?_
  simp only [go_sem, List.take_succ_cons, List.take_zero, gs, List.length_set, hl, reduceIte, Nat.reduceEqDiff, Nat.reduceLT, f5, f6, f8, f31, f33, f230, e20, e21i, e21n, e22, e23, e24, bne_self_eq_false, beq_self_eq_true, Bool.not_true, Bool.not_false]
  subst hK23
  simp only [List.drop_succ_cons, List.drop_zero]
  refine env_gen (N := 572) [(1, s1), (5, gi N), (6, s), (7, tI), (8, bo true), (11, bo all), (12, bo true), (15, gi cnt), (16, bo true), (19, gi nd'), (20, bo all), (23, iV), (24, bo true), (27, nV), (28, bo true), (31, bV), (32, bo true), (243, bo false)] ?_ fun r21 h' => ?_
  · simp only [Hs, gs, List.length_set, hl, reduceIte, Nat.reduceEqDiff, Nat.reduceLT, f1, f5, f6, f7, f8, f11, f12, f15, f16, f19, f20, f23, f24, f27, f28, f31, f32, f33, f230, and_self, and_true, true_and]
    all_goals (and_intros <;> rfl)
  clear f1 f5 f6 f7 f8 f11 f12 f15 f16 f19 f20 f23 f24 f27 f28 f31 f32 f33 f230 hl
  obtain ⟨f1, f5, f6, f7, f8, f11, f12, f15, f16, f19, f20, f23, f24, f27, f28, f31, f32, f243, (hl : List.length r21 = 572)⟩ := h'
  refine opsk 14 fun K24 hK24 => ?_
  simp only [go_sem, List.take_succ_cons, List.take_zero, gs, List.length_set, hl, reduceIte, Nat.reduceEqDiff, Nat.reduceLT, f5, f6, f8, f12, f243, e20, e21i, e21n, e22, e23, e24, bne_self_eq_false, beq_self_eq_true, Bool.not_true, Bool.not_false]
  subst hK24
  simp only [List.drop_succ_cons, List.drop_zero]
  refine env_gen (N := 572) [(1, s1), (5, gi N), (6, s), (7, tI), (8, bo true), (11, bo all), (15, gi cnt), (16, bo true), (19, gi nd'), (20, bo all), (23, iV), (24, bo true), (27, nV), (28, bo true), (31, bV), (32, bo true), (257, bo false)] ?_ fun r22 h' => ?_
  · simp only [Hs, gs, List.length_set, hl, reduceIte, Nat.reduceEqDiff, Nat.reduceLT, f1, f5, f6, f7, f8, f11, f12, f15, f16, f19, f20, f23, f24, f27, f28, f31, f32, f243, and_self, and_true, true_and]
    all_goals (and_intros <;> rfl)
  clear f1 f5 f6 f7 f8 f11 f12 f15 f16 f19 f20 f23 f24 f27 f28 f31 f32 f243 hl
  obtain ⟨f1, f5, f6, f7, f8, f11, f15, f16, f19, f20, f23, f24, f27, f28, f31, f32, f257, (hl : List.length r22 = 572)⟩ := h'
  refine opsk 13 fun K25 hK25 => ?_
  simp only [go_sem, List.take_succ_cons, List.take_zero, gs, List.length_set, hl, reduceIte, Nat.reduceEqDiff, Nat.reduceLT, f8, f11, f16, f20, f257, e20, e21i, e21n, e22, e23, e24, bne_self_eq_false, beq_self_eq_true, Bool.not_true, Bool.not_false]
  subst hK25
  simp only [List.drop_succ_cons, List.drop_zero]
  refine env_gen (N := 572) [(1, s1), (5, gi N), (6, s), (7, tI), (8, bo true), (11, bo all), (15, gi cnt), (19, gi nd'), (20, bo all), (23, iV), (24, bo true), (27, nV), (28, bo true), (31, bV), (32, bo true), (270, bo false)] ?_ fun r23 h' => ?_
  · simp only [Hs, gs, List.length_set, hl, reduceIte, Nat.reduceEqDiff, Nat.reduceLT, f1, f5, f6, f7, f8, f11, f15, f16, f19, f20, f23, f24, f27, f28, f31, f32, f257, and_self, and_true, true_and]
    all_goals (and_intros <;> rfl)
  clear f1 f5 f6 f7 f8 f11 f15 f16 f19 f20 f23 f24 f27 f28 f31 f32 f257 hl
  obtain ⟨f1, f5, f6, f7, f8, f11, f15, f19, f20, f23, f24, f27, f28, f31, f32, f270, (hl : List.length r23 = 572)⟩ := h'
  refine opsk 10 fun K26 hK26 => ?_
  simp only [go_sem, List.take_succ_cons, List.take_zero, gs, List.length_set, hl, reduceIte, Nat.reduceEqDiff, Nat.reduceLT, f8, f24, f28, f270, e20, e21i, e21n, e22, e23, e24, bne_self_eq_false, beq_self_eq_true, Bool.not_true, Bool.not_false]
  subst hK26
  simp only [List.drop_succ_cons, List.drop_zero]
  refine env_gen (N := 572) [(1, s1), (5, gi N), (6, s), (7, tI), (8, bo true), (11, bo all), (15, gi cnt), (19, gi nd'), (20, bo all), (23, iV), (27, nV), (31, bV), (32, bo true), (280, bo false)] ?_ fun r24 h' => ?_
  · simp only [Hs, gs, List.length_set, hl, reduceIte, Nat.reduceEqDiff, Nat.reduceLT, f1, f5, f6, f7, f8, f11, f15, f19, f20, f23, f24, f27, f28, f31, f32, f270, and_self, and_true, true_and]
    all_goals (and_intros <;> rfl)
  clear f1 f5 f6 f7 f8 f11 f15 f19 f20 f23 f24 f27 f28 f31 f32 f270 hl
  obtain ⟨f1, f5, f6, f7, f8, f11, f15, f19, f20, f23, f27, f31, f32, f280, (hl : List.length r24 = 572)⟩ := h'
  refine opsk 5 fun K27 hK27 => ?_
  simp only [go_sem, List.take_succ_cons, List.take_zero, gs, List.length_set, hl, reduceIte, Nat.reduceEqDiff, Nat.reduceLT, f8, f32, f280, e20, e21i, e21n, e22, e23, e24, bne_self_eq_false, beq_self_eq_true, Bool.not_true, Bool.not_false]
  subst hK27
  simp only [List.drop_succ_cons, List.drop_zero, fin_ops_nil]
  refine env_gen (N := 572) [(1, s1), (5, gi N), (6, s), (7, tI), (8, bo true), (11, bo all), (15, gi cnt), (19, gi nd'), (20, bo all), (23, iV), (27, nV), (31, bV), (285, bo false)] ?_ fun r25 h' => ?_
  · simp only [Hs, gs, List.length_set, hl, reduceIte, Nat.reduceEqDiff, Nat.reduceLT, f1, f5, f6, f7, f8, f11, f15, f19, f20, f23, f27, f31, f32, f280, and_self, and_true, true_and]
    all_goals (and_intros <;> rfl)
  clear f1 f5 f6 f7 f8 f11 f15 f19 f20 f23 f27 f31 f32 f280 hl
  obtain ⟨f1, f5, f6, f7, f8, f11, f15, f19, f20, f23, f27, f31, f285, (hl : List.length r25 = 572)⟩ := h'
  subst hK16
  refine cdk ?_
  rw [cd_f f285]
  rw [fin_skip]
  subst hK15
  refine cdk ?_
  refine sq2 fun K28 hK28 => ?_
  refine sq2 fun K29 hK29 => ?_
  -- region 20
  simp only [go_sem, gs, List.length_set, hl, reduceIte, Nat.reduceEqDiff, Nat.reduceLT, f8]
  refine env_gen (N := 572) [(1, s1), (5, gi N), (6, s), (7, tI), (11, bo all), (15, gi cnt), (19, gi nd'), (20, bo all), (23, iV), (27, nV), (31, bV), (286, bo true)] ?_ fun r26 h' => ?_
  · simp only [Hs, gs, List.length_set, hl, reduceIte, Nat.reduceEqDiff, Nat.reduceLT, f1, f5, f6, f7, f8, f11, f15, f19, f20, f23, f27, f31, and_self, and_true, true_and]
    all_goals (and_intros <;> rfl)
  clear f1 f5 f6 f7 f8 f11 f15 f19 f20 f23 f27 f31 f285 hl
  obtain ⟨f1, f5, f6, f7, f11, f15, f19, f20, f23, f27, f31, f286, (hl : List.length r26 = 572)⟩ := h'
  subst hK29
  refine cdk ?_
  rw [cd_t f286]
  refine sq2 fun K30 hK30 => ?_
  -- region 21
  simp only [go_sem, gs, List.length_set, hl, reduceIte, Nat.reduceEqDiff, Nat.reduceLT, f5, e25]
  refine env_gen (N := 572) [(1, s1), (5, gi N), (6, s), (7, tI), (11, bo all), (15, gi cnt), (19, gi nd'), (20, bo all), (23, iV), (27, nV), (31, bV), (35, gi (fewN N)), (36, bo true)] ?_ fun r27 h' => ?_
  · simp only [Hs, gs, List.length_set, hl, reduceIte, Nat.reduceEqDiff, Nat.reduceLT, f1, f5, f6, f7, f11, f15, f19, f20, f23, f27, f31, and_self, and_true, true_and]
    all_goals (and_intros <;> rfl)
  clear f1 f5 f6 f7 f11 f15 f19 f20 f23 f27 f31 f286 hl
  obtain ⟨f1, f5, f6, f7, f11, f15, f19, f20, f23, f27, f31, f35, f36, (hl : List.length r27 = 572)⟩ := h'
  subst hK30
  refine cdk ?_
  refine sq2 fun K31 hK31 => ?_
  -- region 22
  simp only [go_sem, gs, List.length_set, hl, reduceIte, Nat.reduceEqDiff, Nat.reduceLT, f5, f31, e26]
  refine env_gen (N := 572) [(1, s1), (5, gi N), (6, s), (7, tI), (11, bo all), (15, gi cnt), (19, gi nd'), (20, bo all), (23, iV), (27, nV), (35, gi (fewN N)), (36, bo true), (37, tO), (38, bo true)] ?_ fun r28 h' => ?_
  · simp only [Hs, gs, List.length_set, hl, reduceIte, Nat.reduceEqDiff, Nat.reduceLT, f1, f5, f6, f7, f11, f15, f19, f20, f23, f27, f31, f35, f36, and_self, and_true, true_and]
    all_goals (and_intros <;> rfl)
  clear f1 f5 f6 f7 f11 f15 f19 f20 f23 f27 f31 f35 f36 hl
  obtain ⟨f1, f5, f6, f7, f11, f15, f19, f20, f23, f27, f35, f36, f37, f38, (hl : List.length r28 = 572)⟩ := h'
  subst hK31
  refine cdk ?_
  refine sq2 fun K32 hK32 => ?_
  refine uncd ?_
  refine chk_ok ⟨f1, f5, f6, f7, f11, f15, f19, f20, f23, f27, f35, f36, f37, f38, hl⟩ hx10 hg hlo fun r29 h' => ?_
  clear f1 f5 f6 f7 f11 f15 f19 f20 f23 f27 f35 f36 f37 f38 hl
  obtain ⟨f1, f5, f6, f7, f11, f15, f19, f20, f23, f27, f37, (hl : List.length r29 = 572)⟩ := h'
  subst hK32
  refine cdk ?_
  refine sq2 fun K33 hK33 => ?_
  -- region 25
  simp only [go_sem, gs, List.length_set, hl, reduceIte, Nat.reduceEqDiff, Nat.reduceLT, f5]
  refine env_gen (N := 572) [(1, s1), (5, gi N), (6, s), (7, tI), (11, bo all), (15, gi cnt), (19, gi nd'), (20, bo all), (23, iV), (27, nV), (37, tO), (39, gi 0), (40, gi N)] ?_ fun r30 h' => ?_
  · simp only [Hs, gs, List.length_set, hl, reduceIte, Nat.reduceEqDiff, Nat.reduceLT, f1, f5, f6, f7, f11, f15, f19, f20, f23, f27, f37, and_self, and_true, true_and]
    all_goals (and_intros <;> rfl)
  clear f1 f5 f6 f7 f11 f15 f19 f20 f23 f27 f37 hl
  obtain ⟨f1, f5, f6, f7, f11, f15, f19, f20, f23, f27, f37, f39, f40, (hl : List.length r30 = 572)⟩ := h'
  subst hK33
  refine cdk ?_
  refine sq2 fun K34 hK34 => ?_
  refine uncd ?_
  refine one_ok ⟨f1, f5, f6, f7, f11, f15, f19, f20, f23, f27, f37, f39, f40, hl⟩ hx10 hO hg hcnt fun r31 H11 k11 h' => ?_
  clear f1 f5 f6 f7 f11 f15 f19 f20 f23 f27 f37 f39 f40 hl
  obtain ⟨f1, f5, f6, f7, f11, f15, f19, f20, f23, f27, f39, f40, (hl : List.length r31 = 572)⟩ := h'
  subst hK34
  refine cdk ?_
  refine sq2 fun K35 hK35 => ?_
  have hx11 := hx10.keep k11
  have hbb11 : bb ≤ H11.length := Nat.le_trans (Nat.le_trans hbb kAll.1) (Nat.le_trans k10.1 k11.1)
  refine uncd ?_
  refine two_ok ⟨f1, f5, f6, f7, f11, f15, f19, f20, f23, f27, f39, f40, hl⟩ hx11 hg hcnt hbb11 hpI hpN fun r32 H12 k12 h' => ?_
  clear f1 f5 f6 f7 f11 f15 f19 f20 f23 f27 f39 f40 hl
  obtain ⟨f1, f5, f6, f11, f15, f19, f20, f39, f40, (hl : List.length r32 = 572)⟩ := h'
  subst hK35
  refine cdk ?_
  refine sq2 fun K36 hK36 => ?_
  refine uncd ?_
  refine r46_ok ⟨f1, f5, f6, f11, f15, f19, f20, f39, f40, hl⟩ hsq fun r33 h' => ?_
  clear f1 f5 f6 f11 f15 f19 f20 f39 f40 hl
  obtain ⟨f1, f5, f6, f19, f20, (hl : List.length r33 = 572)⟩ := h'
  subst hK36
  refine cdk ?_
  have hx12 := hx11.keep k12
  refine uncd ?_
  refine r48_ok ⟨f1, f5, f6, f19, f20, hl⟩ hx12.sl hg hall3 fun r34 h' => ?_
  clear f1 f5 f6 f19 f20 hl
  obtain ⟨f1, (hl : List.length r34 = 572)⟩ := h'
  subst hK28
  refine cdk ?_
  refine uncd ?_
  exact tail_ok ⟨f1, hl⟩ hx12.by1
end T

