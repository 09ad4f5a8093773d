/- The law where there are no calls of so many friends. No conditions. -/
import Derived.Test.YtjoapoebeknddaaW0
import Derived.Test.YtjoapoebeknddaaW1
set_option linter.unusedSimpArgs false
set_option linter.unusedVariables false
open Go Go.Am
namespace T
open Go.Proofs
set_option maxRecDepth 100000
set_option maxHeartbeats 4000000
set_option linter.unusedSimpArgs false
set_option linter.unusedVariables false
variable {base : Nat} {H : Heap}
theorem bad_ok {ρ : Env} {bb m0 : Nat} {s1 s : Value} {n : Int} {L : List (Int × Int)} (hv : Hs 572 [(1, s1), (5, gi n), (6, s)] ρ) (h1 : Bytes H s1) (hs : SL H s L) (hL : L.length < 200) (hq : areC n L = false) :
    Ok (run1 C (cal C) 1001 bb 3 m0 [.tmp 4] (fin C (cal C) 1001 bb ([.code (nodeC [1, 1, 1] bodyF)]) (some (.normal, ρ, H)))) fun v H' => v = bo true := by
  have e20 := wRows_c (base := bb) (H := H) .nil .nil (by decide) (by simp) true rfl
  obtain e4 := afterNo_c (base := bb) hs (by omega) hq
  obtain e5 := knownNoS_c (base := bb) hs (by omega) hq
  obtain ⟨e6, e7⟩ := all_no (base := bb) hs (by omega) hq
  obtain ⟨e8, e9⟩ := count_no (base := bb) hs (by omega) hq
  obtain ⟨e10, e11⟩ := need_no (base := bb) hs (by omega) hq
  obtain ⟨e12, e13, e14, e15⟩ := idle_no (base := bb) hs (by omega) hq
  obtain ⟨e16, e17⟩ := backNo_c (base := bb) hs (by omega) hq
  have e21 : cal C bb 21 [.slice none 0 0, .slice none 0 0] H = some (bo true, H) := wSame_c (B1 := []) (B2 := []) SI.nil SI.nil (by decide) true rfl
  have e22 : cal C bb 22 [.slice none 0 0, .slice none 0 0] H = some (bo true, H) := wLetters_c (B1 := []) (B2 := []) (.inl ⟨rfl, rfl, rfl⟩) (.inl ⟨rfl, rfl, rfl⟩) (by decide) true rfl
  have e23 := areC_c (base := bb) (n := n) hs (by omega)
  have e24 := areS_c (base := bb) (n := n) hs (by omega)
  rw [hq] at e23 e24
  obtain ⟨f1, f5, f6, (hl : List.length ρ = 572)⟩ := hv
  refine cdk ?_
  refine sq2 fun K1 hK1 => ?_
  -- region 4
  simp only [go_sem, gs, List.length_set, hl, reduceIte, Nat.reduceEqDiff, Nat.reduceLT, f5, f6, e4]
  refine env_gen (N := 572) [(1, s1), (5, gi n), (6, s), (7, .slice none 0 0), (8, bo false)] ?_ fun r1 h' => ?_
  · simp only [Hs, gs, List.length_set, hl, reduceIte, Nat.reduceEqDiff, Nat.reduceLT, f1, f5, f6, and_self, and_true, true_and]
    all_goals (and_intros <;> rfl)
  clear f1 f5 f6 hl
  obtain ⟨f1, f5, f6, f7, f8, (hl : List.length r1 = 572)⟩ := h'
  subst hK1
  refine cdk ?_
  refine sq2 fun K2 hK2 => ?_
  -- region 5
  simp only [go_sem, gs, List.length_set, hl, reduceIte, Nat.reduceEqDiff, Nat.reduceLT, f5, f6, e5]
  refine env_gen (N := 572) [(1, s1), (5, gi n), (6, s), (7, .slice none 0 0), (8, bo false), (9, .slice none 0 0), (10, bo false)] ?_ fun r2 h' => ?_
  · simp only [Hs, gs, List.length_set, hl, reduceIte, Nat.reduceEqDiff, Nat.reduceLT, f1, f5, f6, f7, f8, and_self, and_true, true_and]
    all_goals (and_intros <;> rfl)
  clear f1 f5 f6 f7 f8 hl
  obtain ⟨f1, f5, f6, f7, f8, f9, f10, (hl : List.length r2 = 572)⟩ := h'
  subst hK2
  refine cdk ?_
  refine sq2 fun K3 hK3 => ?_
  -- region 6
  simp only [go_sem, gs, List.length_set, hl, reduceIte, Nat.reduceEqDiff, Nat.reduceLT, f5, f6, e6]
  refine env_gen (N := 572) [(1, s1), (5, gi n), (6, s), (7, .slice none 0 0), (8, bo false), (9, .slice none 0 0), (10, bo false), (11, bo false), (12, bo false)] ?_ fun r3 h' => ?_
  · simp only [Hs, gs, List.length_set, hl, reduceIte, Nat.reduceEqDiff, Nat.reduceLT, f1, f5, f6, f7, f8, f9, f10, and_self, and_true, true_and]
    all_goals (and_intros <;> rfl)
  clear f1 f5 f6 f7 f8 f9 f10 hl
  obtain ⟨f1, f5, f6, f7, f8, f9, f10, f11, f12, (hl : List.length r3 = 572)⟩ := h'
  subst hK3
  refine cdk ?_
  refine sq2 fun K4 hK4 => ?_
  -- region 7
  simp only [go_sem, gs, List.length_set, hl, reduceIte, Nat.reduceEqDiff, Nat.reduceLT, f5, f6, e7]
  refine env_gen (N := 572) [(1, s1), (5, gi n), (6, s), (7, .slice none 0 0), (8, bo false), (9, .slice none 0 0), (10, bo false), (11, bo false), (12, bo false), (13, bo false), (14, bo false)] ?_ fun r4 h' => ?_
  · simp only [Hs, gs, List.length_set, hl, reduceIte, Nat.reduceEqDiff, Nat.reduceLT, f1, f5, f6, f7, f8, f9, f10, f11, f12, and_self, and_true, true_and]
    all_goals (and_intros <;> rfl)
  clear f1 f5 f6 f7 f8 f9 f10 f11 f12 hl
  obtain ⟨f1, f5, f6, f7, f8, f9, f10, f11, f12, f13, f14, (hl : List.length r4 = 572)⟩ := h'
  subst hK4
  refine cdk ?_
  refine sq2 fun K5 hK5 => ?_
  -- region 8
  simp only [go_sem, gs, List.length_set, hl, reduceIte, Nat.reduceEqDiff, Nat.reduceLT, f5, f6, e8]
  refine env_gen (N := 572) [(1, s1), (5, gi n), (6, s), (7, .slice none 0 0), (8, bo false), (9, .slice none 0 0), (10, bo false), (11, bo false), (12, bo false), (13, bo false), (14, bo false), (15, gi 0), (16, bo false)] ?_ fun r5 h' => ?_
  · simp only [Hs, gs, List.length_set, hl, reduceIte, Nat.reduceEqDiff, Nat.reduceLT, f1, f5, f6, f7, f8, f9, f10, f11, f12, f13, f14, and_self, and_true, true_and]
    all_goals (and_intros <;> rfl)
  clear f1 f5 f6 f7 f8 f9 f10 f11 f12 f13 f14 hl
  obtain ⟨f1, f5, f6, f7, f8, f9, f10, f11, f12, f13, f14, f15, f16, (hl : List.length r5 = 572)⟩ := h'
  subst hK5
  refine cdk ?_
  refine sq2 fun K6 hK6 => ?_
  -- region 9
  simp only [go_sem, gs, List.length_set, hl, reduceIte, Nat.reduceEqDiff, Nat.reduceLT, f5, f6, e9]
  refine env_gen (N := 572) [(1, s1), (5, gi n), (6, s), (7, .slice none 0 0), (8, bo false), (9, .slice none 0 0), (10, bo false), (11, bo false), (12, bo false), (13, bo false), (14, bo false), (15, gi 0), (16, bo false), (17, gi 0), (18, bo false)] ?_ fun r6 h' => ?_
  · simp only [Hs, gs, List.length_set, hl, reduceIte, Nat.reduceEqDiff, Nat.reduceLT, f1, f5, f6, f7, f8, f9, f10, f11, f12, f13, f14, f15, f16, and_self, and_true, true_and]
    all_goals (and_intros <;> rfl)
  clear f1 f5 f6 f7 f8 f9 f10 f11 f12 f13 f14 f15 f16 hl
  obtain ⟨f1, f5, f6, f7, f8, f9, f10, f11, f12, f13, f14, f15, f16, f17, f18, (hl : List.length r6 = 572)⟩ := h'
  subst hK6
  refine cdk ?_
  refine sq2 fun K7 hK7 => ?_
  -- region 10
  simp only [go_sem, gs, List.length_set, hl, reduceIte, Nat.reduceEqDiff, Nat.reduceLT, f5, f6, e10]
  refine env_gen (N := 572) [(1, s1), (5, gi n), (6, s), (7, .slice none 0 0), (8, bo false), (9, .slice none 0 0), (10, bo false), (11, bo false), (12, bo false), (13, bo false), (14, bo false), (15, gi 0), (16, bo false), (17, gi 0), (18, bo false), (19, gi 0), (20, bo false)] ?_ fun r7 h' => ?_
  · simp only [Hs, gs, List.length_set, hl, reduceIte, Nat.reduceEqDiff, Nat.reduceLT, f1, f5, f6, f7, f8, f9, f10, f11, f12, f13, f14, f15, f16, f17, f18, and_self, and_true, true_and]
    all_goals (and_intros <;> rfl)
  clear f1 f5 f6 f7 f8 f9 f10 f11 f12 f13 f14 f15 f16 f17 f18 hl
  obtain ⟨f1, f5, f6, f7, f8, f9, f10, f11, f12, f13, f14, f15, f16, f17, f18, f19, f20, (hl : List.length r7 = 572)⟩ := h'
  subst hK7
  refine cdk ?_
  refine sq2 fun K8 hK8 => ?_
  -- region 11
  simp only [go_sem, gs, List.length_set, hl, reduceIte, Nat.reduceEqDiff, Nat.reduceLT, f5, f6, e11]
  refine env_gen (N := 572) [(1, s1), (5, gi n), (6, s), (7, .slice none 0 0), (8, bo false), (9, .slice none 0 0), (10, bo false), (11, bo false), (12, bo false), (13, bo false), (14, bo false), (15, gi 0), (16, bo false), (17, gi 0), (18, bo false), (19, gi 0), (20, bo false), (21, gi 0), (22, bo false)] ?_ fun r8 h' => ?_
  · simp only [Hs, gs, List.length_set, hl, reduceIte, Nat.reduceEqDiff, Nat.reduceLT, f1, f5, f6, f7, f8, f9, f10, f11, f12, f13, f14, f15, f16, f17, f18, f19, f20, and_self, and_true, true_and]
    all_goals (and_intros <;> rfl)
  clear f1 f5 f6 f7 f8 f9 f10 f11 f12 f13 f14 f15 f16 f17 f18 f19 f20 hl
  obtain ⟨f1, f5, f6, f7, f8, f9, f10, f11, f12, f13, f14, f15, f16, f17, f18, f19, f20, f21, f22, (hl : List.length r8 = 572)⟩ := h'
  subst hK8
  refine cdk ?_
  refine sq2 fun K9 hK9 => ?_
  -- region 12
  simp only [go_sem, gs, List.length_set, hl, reduceIte, Nat.reduceEqDiff, Nat.reduceLT, f5, f6, e12]
  refine env_gen (N := 572) [(1, s1), (5, gi n), (6, s), (7, .slice none 0 0), (8, bo false), (9, .slice none 0 0), (10, bo false), (11, bo false), (12, bo false), (13, bo false), (14, bo false), (15, gi 0), (16, bo false), (17, gi 0), (18, bo false), (19, gi 0), (20, bo false), (21, gi 0), (22, bo false), (23, .slice none 0 0), (24, bo false)] ?_ fun r9 h' => ?_
  · simp only [Hs, gs, List.length_set, hl, reduceIte, Nat.reduceEqDiff, Nat.reduceLT, f1, f5, f6, f7, f8, f9, f10, f11, f12, f13, f14, f15, f16, f17, f18, f19, f20, f21, f22, and_self, and_true, true_and]
    all_goals (and_intros <;> rfl)
  clear f1 f5 f6 f7 f8 f9 f10 f11 f12 f13 f14 f15 f16 f17 f18 f19 f20 f21 f22 hl
  obtain ⟨f1, f5, f6, f7, f8, f9, f10, f11, f12, f13, f14, f15, f16, f17, f18, f19, f20, f21, f22, f23, f24, (hl : List.length r9 = 572)⟩ := h'
  subst hK9
  refine cdk ?_
  refine sq2 fun K10 hK10 => ?_
  -- region 13
  simp only [go_sem, gs, List.length_set, hl, reduceIte, Nat.reduceEqDiff, Nat.reduceLT, f5, f6, e13]
  refine env_gen (N := 572) [(1, s1), (5, gi n), (6, s), (7, .slice none 0 0), (8, bo false), (9, .slice none 0 0), (10, bo false), (11, bo false), (12, bo false), (13, bo false), (14, bo false), (15, gi 0), (16, bo false), (17, gi 0), (18, bo false), (19, gi 0), (20, bo false), (21, gi 0), (22, bo false), (23, .slice none 0 0), (24, bo false), (25, .slice none 0 0), (26, bo false)] ?_ fun r10 h' => ?_
  · simp only [Hs, gs, List.length_set, hl, reduceIte, Nat.reduceEqDiff, Nat.reduceLT, f1, f5, f6, f7, f8, f9, f10, f11, f12, f13, f14, f15, f16, f17, f18, f19, f20, f21, f22, f23, f24, and_self, and_true, true_and]
    all_goals (and_intros <;> rfl)
  clear f1 f5 f6 f7 f8 f9 f10 f11 f12 f13 f14 f15 f16 f17 f18 f19 f20 f21 f22 f23 f24 hl
  obtain ⟨f1, f5, f6, f7, f8, f9, f10, f11, f12, f13, f14, f15, f16, f17, f18, f19, f20, f21, f22, f23, f24, f25, f26, (hl : List.length r10 = 572)⟩ := h'
  subst hK10
  refine cdk ?_
  refine sq2 fun K11 hK11 => ?_
  -- region 14
  simp only [go_sem, gs, List.length_set, hl, reduceIte, Nat.reduceEqDiff, Nat.reduceLT, f5, f6, e14]
  refine env_gen (N := 572) [(1, s1), (5, gi n), (6, s), (7, .slice none 0 0), (8, bo false), (9, .slice none 0 0), (10, bo false), (11, bo false), (12, bo false), (13, bo false), (14, bo false), (15, gi 0), (16, bo false), (17, gi 0), (18, bo false), (19, gi 0), (20, bo false), (21, gi 0), (22, bo false), (23, .slice none 0 0), (24, bo false), (25, .slice none 0 0), (26, bo false), (27, .slice none 0 0), (28, bo false)] ?_ fun r11 h' => ?_
  · simp only [Hs, gs, List.length_set, hl, reduceIte, Nat.reduceEqDiff, Nat.reduceLT, f1, f5, f6, f7, f8, f9, f10, f11, f12, f13, f14, f15, f16, f17, f18, f19, f20, f21, f22, f23, f24, f25, f26, and_self, and_true, true_and]
    all_goals (and_intros <;> rfl)
  clear f1 f5 f6 f7 f8 f9 f10 f11 f12 f13 f14 f15 f16 f17 f18 f19 f20 f21 f22 f23 f24 f25 f26 hl
  obtain ⟨f1, f5, f6, f7, f8, f9, f10, f11, f12, f13, f14, f15, f16, f17, f18, f19, f20, f21, f22, f23, f24, f25, f26, f27, f28, (hl : List.length r11 = 572)⟩ := h'
  subst hK11
  refine cdk ?_
  refine sq2 fun K12 hK12 => ?_
  -- region 15
  simp only [go_sem, gs, List.length_set, hl, reduceIte, Nat.reduceEqDiff, Nat.reduceLT, f5, f6, e15]
  refine env_gen (N := 572) [(1, s1), (5, gi n), (6, s), (7, .slice none 0 0), (8, bo false), (9, .slice none 0 0), (10, bo false), (11, bo false), (12, bo false), (13, bo false), (14, bo false), (15, gi 0), (16, bo false), (17, gi 0), (18, bo false), (19, gi 0), (20, bo false), (21, gi 0), (22, bo false), (23, .slice none 0 0), (24, bo false), (25, .slice none 0 0), (26, bo false), (27, .slice none 0 0), (28, bo false), (29, .slice none 0 0), (30, bo false)] ?_ fun r12 h' => ?_
  · simp only [Hs, gs, List.length_set, hl, reduceIte, Nat.reduceEqDiff, Nat.reduceLT, f1, f5, f6, f7, f8, f9, f10, f11, f12, f13, f14, f15, f16, f17, f18, f19, f20, f21, f22, f23, f24, f25, f26, f27, f28, and_self, and_true, true_and]
    all_goals (and_intros <;> rfl)
  clear f1 f5 f6 f7 f8 f9 f10 f11 f12 f13 f14 f15 f16 f17 f18 f19 f20 f21 f22 f23 f24 f25 f26 f27 f28 hl
  obtain ⟨f1, f5, f6, f7, f8, f9, f10, f11, f12, f13, f14, f15, f16, f17, f18, f19, f20, f21, f22, f23, f24, f25, f26, f27, f28, f29, f30, (hl : List.length r12 = 572)⟩ := h'
  subst hK12
  refine cdk ?_
  refine sq2 fun K13 hK13 => ?_
  -- region 16
  simp only [go_sem, gs, List.length_set, hl, reduceIte, Nat.reduceEqDiff, Nat.reduceLT, f5, f6, e16]
  refine env_gen (N := 572) [(1, s1), (5, gi n), (6, s), (7, .slice none 0 0), (8, bo false), (9, .slice none 0 0), (10, bo false), (11, bo false), (12, bo false), (13, bo false), (14, bo false), (15, gi 0), (16, bo false), (17, gi 0), (18, bo false), (19, gi 0), (20, bo false), (21, gi 0), (22, bo false), (23, .slice none 0 0), (24, bo false), (25, .slice none 0 0), (26, bo false), (27, .slice none 0 0), (28, bo false), (29, .slice none 0 0), (30, bo false), (31, .slice none 0 0), (32, bo false)] ?_ fun r13 h' => ?_
  · simp only [Hs, gs, List.length_set, hl, reduceIte, Nat.reduceEqDiff, Nat.reduceLT, f1, f5, f6, f7, f8, f9, f10, f11, f12, f13, f14, f15, f16, f17, f18, f19, f20, f21, f22, f23, f24, f25, f26, f27, f28, f29, f30, and_self, and_true, true_and]
    all_goals (and_intros <;> rfl)
  clear f1 f5 f6 f7 f8 f9 f10 f11 f12 f13 f14 f15 f16 f17 f18 f19 f20 f21 f22 f23 f24 f25 f26 f27 f28 f29 f30 hl
  obtain ⟨f1, f5, f6, f7, f8, f9, f10, f11, f12, f13, f14, f15, f16, f17, f18, f19, f20, f21, f22, f23, f24, f25, f26, f27, f28, f29, f30, f31, f32, (hl : List.length r13 = 572)⟩ := h'
  subst hK13
  refine cdk ?_
  refine sq2 fun K14 hK14 => ?_
  -- region 17
  simp only [go_sem, gs, List.length_set, hl, reduceIte, Nat.reduceEqDiff, Nat.reduceLT, f5, f6, e17]
  refine env_gen (N := 572) [(1, s1), (5, gi n), (6, s), (7, .slice none 0 0), (8, bo false), (9, .slice none 0 0), (10, bo false), (11, bo false), (12, bo false), (13, bo false), (14, bo false), (15, gi 0), (16, bo false), (17, gi 0), (18, bo false), (19, gi 0), (20, bo false), (21, gi 0), (22, bo false), (23, .slice none 0 0), (24, bo false), (25, .slice none 0 0), (26, bo false), (27, .slice none 0 0), (28, bo false), (29, .slice none 0 0), (30, bo false), (31, .slice none 0 0), (32, bo false), (33, .slice none 0 0), (34, bo false)] ?_ fun r14 h' => ?_
  · simp only [Hs, gs, List.length_set, hl, reduceIte, Nat.reduceEqDiff, Nat.reduceLT, f1, f5, f6, f7, f8, f9, f10, f11, f12, f13, f14, f15, f16, f17, f18, f19, f20, f21, f22, f23, f24, f25, f26, f27, f28, f29, f30, f31, f32, and_self, and_true, true_and]
    all_goals (and_intros <;> rfl)
  clear f1 f5 f6 f7 f8 f9 f10 f11 f12 f13 f14 f15 f16 f17 f18 f19 f20 f21 f22 f23 f24 f25 f26 f27 f28 f29 f30 f31 f32 hl
  obtain ⟨f1, f5, f6, f7, f8, f9, f10, f11, f12, f13, f14, f15, f16, f17, f18, f19, f20, f21, f22, f23, f24, f25, f26, f27, f28, f29, f30, f31, f32, f33, f34, (hl : List.length r14 = 572)⟩ := h'
  subst hK14
  refine cdk ?_
  refine sq2 fun K15 hK15 => ?_
  refine sq2 fun K16 hK16 => ?_
  -- region 18
  simp only [fin_reg, List.append_eq, l_mc, l_mn, l_ca, l_na, slim]
  refine opsk 14 fun K17 hK17 => ?_
  simp only [go_sem, List.take_succ_cons, List.take_zero, gs, List.length_set, hl, reduceIte, Nat.reduceEqDiff, Nat.reduceLT, f7, f8, f9, f10, f12, f14, e20, e21, e22, e23, e24, bne_self_eq_false, beq_self_eq_true, Bool.not_true, Bool.not_false]
  subst hK17
  simp only [List.drop_succ_cons, List.drop_zero]
  refine env_gen (N := 572) [(1, s1), (5, gi n), (6, s), (7, .slice none 0 0), (8, bo false), (11, bo false), (12, bo false), (13, bo false), (15, gi 0), (16, bo false), (17, gi 0), (18, bo false), (19, gi 0), (20, bo false), (21, gi 0), (22, bo false), (23, .slice none 0 0), (24, bo false), (25, .slice none 0 0), (26, bo false), (27, .slice none 0 0), (28, bo false), (29, .slice none 0 0), (30, bo false), (31, .slice none 0 0), (32, bo false), (33, .slice none 0 0), (34, bo false), (178, bo false)] ?_ fun r15 h' => ?_
  · simp only [Hs, gs, List.length_set, hl, reduceIte, Nat.reduceEqDiff, Nat.reduceLT, f1, f5, f6, f7, f8, f9, f10, f11, f12, f13, f14, f15, f16, f17, f18, f19, f20, f21, f22, f23, f24, f25, f26, f27, f28, f29, f30, f31, f32, f33, f34, and_self, and_true, true_and]
    all_goals (and_intros <;> rfl)
  clear f1 f5 f6 f7 f8 f9 f10 f11 f12 f13 f14 f15 f16 f17 f18 f19 f20 f21 f22 f23 f24 f25 f26 f27 f28 f29 f30 f31 f32 f33 f34 hl
  obtain ⟨f1, f5, f6, f7, f8, f11, f12, f13, f15, f16, f17, f18, f19, f20, f21, f22, f23, f24, f25, f26, f27, f28, f29, f30, f31, f32, f33, f34, f178, (hl : List.length r15 = 572)⟩ := h'
  refine opsk 10 fun K18 hK18 => ?_
  simp only [go_sem, List.take_succ_cons, List.take_zero, gs, List.length_set, hl, reduceIte, Nat.reduceEqDiff, Nat.reduceLT, f11, f13, f16, f18, f178, e20, e21, e22, e23, e24, bne_self_eq_false, beq_self_eq_true, Bool.not_true, Bool.not_false]
  subst hK18
  simp only [List.drop_succ_cons, List.drop_zero]
  refine env_gen (N := 572) [(1, s1), (5, gi n), (6, s), (7, .slice none 0 0), (8, bo false), (11, bo false), (12, bo false), (15, gi 0), (16, bo false), (17, gi 0), (19, gi 0), (20, bo false), (21, gi 0), (22, bo false), (23, .slice none 0 0), (24, bo false), (25, .slice none 0 0), (26, bo false), (27, .slice none 0 0), (28, bo false), (29, .slice none 0 0), (30, bo false), (31, .slice none 0 0), (32, bo false), (33, .slice none 0 0), (34, bo false), (188, bo false)] ?_ fun r16 h' => ?_
  · simp only [Hs, gs, List.length_set, hl, reduceIte, Nat.reduceEqDiff, Nat.reduceLT, f1, f5, f6, f7, f8, f11, f12, f13, f15, f16, f17, f18, f19, f20, f21, f22, f23, f24, f25, f26, f27, f28, f29, f30, f31, f32, f33, f34, f178, and_self, and_true, true_and]
    all_goals (and_intros <;> rfl)
  clear f1 f5 f6 f7 f8 f11 f12 f13 f15 f16 f17 f18 f19 f20 f21 f22 f23 f24 f25 f26 f27 f28 f29 f30 f31 f32 f33 f34 f178 hl
  obtain ⟨f1, f5, f6, f7, f8, f11, f12, f15, f16, f17, f19, f20, f21, f22, f23, f24, f25, f26, f27, f28, f29, f30, f31, f32, f33, f34, f188, (hl : List.length r16 = 572)⟩ := h'
  refine opsk 10 fun K19 hK19 => ?_
  simp only [go_sem, List.take_succ_cons, List.take_zero, gs, List.length_set, hl, reduceIte, Nat.reduceEqDiff, Nat.reduceLT, f15, f17, f20, f22, f188, e20, e21, e22, e23, e24, bne_self_eq_false, beq_self_eq_true, Bool.not_true, Bool.not_false]
  subst hK19
  simp only [List.drop_succ_cons, List.drop_zero]
  refine env_gen (N := 572) [(1, s1), (5, gi n), (6, s), (7, .slice none 0 0), (8, bo false), (11, bo false), (12, bo false), (15, gi 0), (16, bo false), (19, gi 0), (20, bo false), (21, gi 0), (23, .slice none 0 0), (24, bo false), (25, .slice none 0 0), (26, bo false), (27, .slice none 0 0), (28, bo false), (29, .slice none 0 0), (30, bo false), (31, .slice none 0 0), (32, bo false), (33, .slice none 0 0), (34, bo false), (198, bo false)] ?_ fun r17 h' => ?_
  · simp only [Hs, gs, List.length_set, hl, reduceIte, Nat.reduceEqDiff, Nat.reduceLT, f1, f5, f6, f7, f8, f11, f12, f15, f16, f17, f19, f20, f21, f22, f23, f24, f25, f26, f27, f28, f29, f30, f31, f32, f33, f34, f188, and_self, and_true, true_and]
    all_goals (and_intros <;> rfl)
  clear f1 f5 f6 f7 f8 f11 f12 f15 f16 f17 f19 f20 f21 f22 f23 f24 f25 f26 f27 f28 f29 f30 f31 f32 f33 f34 f188 hl
  obtain ⟨f1, f5, f6, f7, f8, f11, f12, f15, f16, f19, f20, f21, f23, f24, f25, f26, f27, f28, f29, f30, f31, f32, f33, f34, f198, (hl : List.length r17 = 572)⟩ := h'
  refine opsk 10 fun K20 hK20 => ?_
  simp only [go_sem, List.take_succ_cons, List.take_zero, gs, List.length_set, hl, reduceIte, Nat.reduceEqDiff, Nat.reduceLT, f19, f21, f24, f26, f198, e20, e21, e22, e23, e24, bne_self_eq_false, beq_self_eq_true, Bool.not_true, Bool.not_false]
  subst hK20
  simp only [List.drop_succ_cons, List.drop_zero]
  refine env_gen (N := 572) [(1, s1), (5, gi n), (6, s), (7, .slice none 0 0), (8, bo false), (11, bo false), (12, bo false), (15, gi 0), (16, bo false), (19, gi 0), (20, bo false), (23, .slice none 0 0), (24, bo false), (25, .slice none 0 0), (27, .slice none 0 0), (28, bo false), (29, .slice none 0 0), (30, bo false), (31, .slice none 0 0), (32, bo false), (33, .slice none 0 0), (34, bo false), (208, bo false)] ?_ fun r18 h' => ?_
  · simp only [Hs, gs, List.length_set, hl, reduceIte, Nat.reduceEqDiff, Nat.reduceLT, f1, f5, f6, f7, f8, f11, f12, f15, f16, f19, f20, f21, f23, f24, f25, f26, f27, f28, f29, f30, f31, f32, f33, f34, f198, and_self, and_true, true_and]
    all_goals (and_intros <;> rfl)
  clear f1 f5 f6 f7 f8 f11 f12 f15 f16 f19 f20 f21 f23 f24 f25 f26 f27 f28 f29 f30 f31 f32 f33 f34 f198 hl
  obtain ⟨f1, f5, f6, f7, f8, f11, f12, f15, f16, f19, f20, f23, f24, f25, f27, f28, f29, f30, f31, f32, f33, f34, f208, (hl : List.length r18 = 572)⟩ := h'
  refine opsk 11 fun K21 hK21 => ?_
  simp only [go_sem, List.take_succ_cons, List.take_zero, gs, List.length_set, hl, reduceIte, Nat.reduceEqDiff, Nat.reduceLT, f23, f25, f28, f30, f208, e20, e21, e22, e23, e24, bne_self_eq_false, beq_self_eq_true, Bool.not_true, Bool.not_false]
  subst hK21
  simp only [List.drop_succ_cons, List.drop_zero]
  refine env_gen (N := 572) [(1, s1), (5, gi n), (6, s), (7, .slice none 0 0), (8, bo false), (11, bo false), (12, bo false), (15, gi 0), (16, bo false), (19, gi 0), (20, bo false), (23, .slice none 0 0), (24, bo false), (27, .slice none 0 0), (28, bo false), (29, .slice none 0 0), (31, .slice none 0 0), (32, bo false), (33, .slice none 0 0), (34, bo false), (219, bo false)] ?_ fun r19 h' => ?_
  · simp only [Hs, gs, List.length_set, hl, reduceIte, Nat.reduceEqDiff, Nat.reduceLT, f1, f5, f6, f7, f8, f11, f12, f15, f16, f19, f20, f23, f24, f25, f27, f28, f29, f30, f31, f32, f33, f34, f208, and_self, and_true, true_and]
    all_goals (and_intros <;> rfl)
  clear f1 f5 f6 f7 f8 f11 f12 f15 f16 f19 f20 f23 f24 f25 f27 f28 f29 f30 f31 f32 f33 f34 f208 hl
  obtain ⟨f1, f5, f6, f7, f8, f11, f12, f15, f16, f19, f20, f23, f24, f27, f28, f29, f31, f32, f33, f34, f219, (hl : List.length r19 = 572)⟩ := h'
  refine opsk 11 fun K22 hK22 => ?_
  simp only [go_sem, List.take_succ_cons, List.take_zero, gs, List.length_set, hl, reduceIte, Nat.reduceEqDiff, Nat.reduceLT, f27, f29, f32, f34, f219, e20, e21, e22, e23, e24, bne_self_eq_false, beq_self_eq_true, Bool.not_true, Bool.not_false]
  subst hK22
  simp only [List.drop_succ_cons, List.drop_zero]
  refine env_gen (N := 572) [(1, s1), (5, gi n), (6, s), (7, .slice none 0 0), (8, bo false), (11, bo false), (12, bo false), (15, gi 0), (16, bo false), (19, gi 0), (20, bo false), (23, .slice none 0 0), (24, bo false), (27, .slice none 0 0), (28, bo false), (31, .slice none 0 0), (32, bo false), (33, .slice none 0 0), (230, bo false)] ?_ fun r20 h' => ?_
  · simp only [Hs, gs, List.length_set, hl, reduceIte, Nat.reduceEqDiff, Nat.reduceLT, f1, f5, f6, f7, f8, f11, f12, f15, f16, f19, f20, f23, f24, f27, f28, f29, f31, f32, f33, f34, f219, and_self, and_true, true_and]
    all_goals (and_intros <;> rfl)
  clear f1 f5 f6 f7 f8 f11 f12 f15 f16 f19 f20 f23 f24 f27 f28 f29 f31 f32 f33 f34 f219 hl
  obtain ⟨f1, f5, f6, f7, f8, f11, f12, f15, f16, f19, f20, f23, f24, f27, f28, f31, f32, f33, f230, (hl : List.length r20 = 572)⟩ := h'
  refine opsk 13 fun K23 hK23 => ?_
  simp only [go_sem, List.take_succ_cons, List.take_zero, gs, List.length_set, hl, reduceIte, Nat.reduceEqDiff, Nat.reduceLT, f5, f6, f8, f31, f33, f230, e20, e21, e22, e23, e24, bne_self_eq_false, beq_self_eq_true, Bool.not_true, Bool.not_false]
  subst hK23
  simp only [List.drop_succ_cons, List.drop_zero]
  refine env_gen (N := 572) [(1, s1), (5, gi n), (6, s), (7, .slice none 0 0), (8, bo false), (11, bo false), (12, bo false), (15, gi 0), (16, bo false), (19, gi 0), (20, bo false), (23, .slice none 0 0), (24, bo false), (27, .slice none 0 0), (28, bo false), (31, .slice none 0 0), (32, bo false), (243, bo false)] ?_ fun r21 h' => ?_
  · simp only [Hs, gs, List.length_set, hl, reduceIte, Nat.reduceEqDiff, Nat.reduceLT, f1, f5, f6, f7, f8, f11, f12, f15, f16, f19, f20, f23, f24, f27, f28, f31, f32, f33, f230, and_self, and_true, true_and]
    all_goals (and_intros <;> rfl)
  clear f1 f5 f6 f7 f8 f11 f12 f15 f16 f19 f20 f23 f24 f27 f28 f31 f32 f33 f230 hl
  obtain ⟨f1, f5, f6, f7, f8, f11, f12, f15, f16, f19, f20, f23, f24, f27, f28, f31, f32, f243, (hl : List.length r21 = 572)⟩ := h'
  refine opsk 14 fun K24 hK24 => ?_
  simp only [go_sem, List.take_succ_cons, List.take_zero, gs, List.length_set, hl, reduceIte, Nat.reduceEqDiff, Nat.reduceLT, f5, f6, f8, f12, f243, e20, e21, e22, e23, e24, bne_self_eq_false, beq_self_eq_true, Bool.not_true, Bool.not_false]
  subst hK24
  simp only [List.drop_succ_cons, List.drop_zero]
  refine env_gen (N := 572) [(1, s1), (5, gi n), (6, s), (7, .slice none 0 0), (8, bo false), (11, bo false), (15, gi 0), (16, bo false), (19, gi 0), (20, bo false), (23, .slice none 0 0), (24, bo false), (27, .slice none 0 0), (28, bo false), (31, .slice none 0 0), (32, bo false), (257, bo false)] ?_ fun r22 h' => ?_
  · simp only [Hs, gs, List.length_set, hl, reduceIte, Nat.reduceEqDiff, Nat.reduceLT, f1, f5, f6, f7, f8, f11, f12, f15, f16, f19, f20, f23, f24, f27, f28, f31, f32, f243, and_self, and_true, true_and]
    all_goals (and_intros <;> rfl)
  clear f1 f5 f6 f7 f8 f11 f12 f15 f16 f19 f20 f23 f24 f27 f28 f31 f32 f243 hl
  obtain ⟨f1, f5, f6, f7, f8, f11, f15, f16, f19, f20, f23, f24, f27, f28, f31, f32, f257, (hl : List.length r22 = 572)⟩ := h'
  refine opsk 13 fun K25 hK25 => ?_
  simp only [go_sem, List.take_succ_cons, List.take_zero, gs, List.length_set, hl, reduceIte, Nat.reduceEqDiff, Nat.reduceLT, f8, f11, f16, f20, f257, e20, e21, e22, e23, e24, bne_self_eq_false, beq_self_eq_true, Bool.not_true, Bool.not_false]
  subst hK25
  simp only [List.drop_succ_cons, List.drop_zero]
  refine env_gen (N := 572) [(1, s1), (5, gi n), (6, s), (7, .slice none 0 0), (8, bo false), (11, bo false), (15, gi 0), (19, gi 0), (20, bo false), (23, .slice none 0 0), (24, bo false), (27, .slice none 0 0), (28, bo false), (31, .slice none 0 0), (32, bo false), (270, bo false)] ?_ fun r23 h' => ?_
  · simp only [Hs, gs, List.length_set, hl, reduceIte, Nat.reduceEqDiff, Nat.reduceLT, f1, f5, f6, f7, f8, f11, f15, f16, f19, f20, f23, f24, f27, f28, f31, f32, f257, and_self, and_true, true_and]
    all_goals (and_intros <;> rfl)
  clear f1 f5 f6 f7 f8 f11 f15 f16 f19 f20 f23 f24 f27 f28 f31 f32 f257 hl
  obtain ⟨f1, f5, f6, f7, f8, f11, f15, f19, f20, f23, f24, f27, f28, f31, f32, f270, (hl : List.length r23 = 572)⟩ := h'
  refine opsk 10 fun K26 hK26 => ?_
  simp only [go_sem, List.take_succ_cons, List.take_zero, gs, List.length_set, hl, reduceIte, Nat.reduceEqDiff, Nat.reduceLT, f8, f24, f28, f270, e20, e21, e22, e23, e24, bne_self_eq_false, beq_self_eq_true, Bool.not_true, Bool.not_false]
  subst hK26
  simp only [List.drop_succ_cons, List.drop_zero]
  refine env_gen (N := 572) [(1, s1), (5, gi n), (6, s), (7, .slice none 0 0), (8, bo false), (11, bo false), (15, gi 0), (19, gi 0), (20, bo false), (23, .slice none 0 0), (27, .slice none 0 0), (31, .slice none 0 0), (32, bo false), (280, bo false)] ?_ fun r24 h' => ?_
  · simp only [Hs, gs, List.length_set, hl, reduceIte, Nat.reduceEqDiff, Nat.reduceLT, f1, f5, f6, f7, f8, f11, f15, f19, f20, f23, f24, f27, f28, f31, f32, f270, and_self, and_true, true_and]
    all_goals (and_intros <;> rfl)
  clear f1 f5 f6 f7 f8 f11 f15 f19 f20 f23 f24 f27 f28 f31 f32 f270 hl
  obtain ⟨f1, f5, f6, f7, f8, f11, f15, f19, f20, f23, f27, f31, f32, f280, (hl : List.length r24 = 572)⟩ := h'
  refine opsk 5 fun K27 hK27 => ?_
  simp only [go_sem, List.take_succ_cons, List.take_zero, gs, List.length_set, hl, reduceIte, Nat.reduceEqDiff, Nat.reduceLT, f8, f32, f280, e20, e21, e22, e23, e24, bne_self_eq_false, beq_self_eq_true, Bool.not_true, Bool.not_false]
  subst hK27
  simp only [List.drop_succ_cons, List.drop_zero, fin_ops_nil]
  refine env_gen (N := 572) [(1, s1), (5, gi n), (6, s), (7, .slice none 0 0), (8, bo false), (11, bo false), (15, gi 0), (19, gi 0), (20, bo false), (23, .slice none 0 0), (27, .slice none 0 0), (31, .slice none 0 0), (285, bo false)] ?_ fun r25 h' => ?_
  · simp only [Hs, gs, List.length_set, hl, reduceIte, Nat.reduceEqDiff, Nat.reduceLT, f1, f5, f6, f7, f8, f11, f15, f19, f20, f23, f27, f31, f32, f280, and_self, and_true, true_and]
    all_goals (and_intros <;> rfl)
  clear f1 f5 f6 f7 f8 f11 f15 f19 f20 f23 f27 f31 f32 f280 hl
  obtain ⟨f1, f5, f6, f7, f8, f11, f15, f19, f20, f23, f27, f31, f285, (hl : List.length r25 = 572)⟩ := h'
  subst hK16
  refine cdk ?_
  rw [cd_f f285]
  rw [fin_skip]
  subst hK15
  refine cdk ?_
  refine sq2 fun K28 hK28 => ?_
  refine sq2 fun K29 hK29 => ?_
  -- region 20
  simp only [go_sem, gs, List.length_set, hl, reduceIte, Nat.reduceEqDiff, Nat.reduceLT, f8]
  refine env_gen (N := 572) [(1, s1), (5, gi n), (6, s), (7, .slice none 0 0), (11, bo false), (15, gi 0), (19, gi 0), (20, bo false), (23, .slice none 0 0), (27, .slice none 0 0), (31, .slice none 0 0), (286, bo false)] ?_ fun r26 h' => ?_
  · simp only [Hs, gs, List.length_set, hl, reduceIte, Nat.reduceEqDiff, Nat.reduceLT, f1, f5, f6, f7, f8, f11, f15, f19, f20, f23, f27, f31, and_self, and_true, true_and]
    all_goals (and_intros <;> rfl)
  clear f1 f5 f6 f7 f8 f11 f15 f19 f20 f23 f27 f31 f285 hl
  obtain ⟨f1, f5, f6, f7, f11, f15, f19, f20, f23, f27, f31, f286, (hl : List.length r26 = 572)⟩ := h'
  subst hK29
  refine cdk ?_
  rw [cd_f f286]
  rw [fin_skip]
  subst hK28
  refine cdk ?_
  refine uncd ?_
  exact tail_ok ⟨f1, hl⟩ h1
end T

