/- The law where there are no letters. No conditions. -/
import Derived.Test.YtbpeknbhdphilaaL6
open Go Go.Am
namespace T
open Go.Proofs
set_option maxRecDepth 100000
set_option maxHeartbeats 4000000
set_option linter.unusedSimpArgs false
set_option linter.unusedVariables false
variable {base : Nat} {H : Heap}

theorem bad_ok {ρ : Env} {bb m0 : Nat} {s1 s : Value} {n : Int} {L : List (Int × Int)} (f1 : ρ.getD 1 undef = s1) (f5 : ρ.getD 5 undef = gi n) (f6 : ρ.getD 6 undef = s) (hl : List.length ρ = 493) (h1 : Bytes H s1) (hs : SL H s L) (hL : L.length < 200) (hq : areL n L = false) :
    Ok (run1 C (cal C) 1001 bb 3 m0 [.tmp 4] (fin C (cal C) 1001 bb [.code fromC] (some (.normal, ρ, H)))) fun v H' => v = bo true := by
  obtain ⟨e6, e7⟩ := known_c (base := bb) hs (by omega) hq
  obtain ⟨e8, e9⟩ := all_no (base := bb) hs (by omega) hq
  obtain ⟨e10, e11⟩ := need_no (base := bb) hs (by omega) hq
  obtain ⟨e12, e13, e14, e15⟩ := idle_no (base := bb) hs (by omega) hq
  have e16 := backI_c (base := bb) (n := n) hs (by omega)
  rw [hq, if_neg (by decide)] at e16
  have e17 := back_no (base := bb) hs (by omega) hq
  have w18 := wRows_c (base := bb) (H := H) .nil .nil (by decide) (by simp) true rfl
  have w19 : cal C bb 19 [.slice none 0 0, .slice none 0 0] H = some (bo true, H) := wSame_c (B1 := []) (B2 := []) (.inl ⟨rfl, rfl, rfl⟩) (.inl ⟨rfl, rfl, rfl⟩) (by decide) true rfl
  have w20 : cal C bb 20 [.slice none 0 0, .slice none 0 0] H = some (bo true, H) := wLetters_c (B1 := []) (B2 := []) (.inl ⟨rfl, rfl, rfl⟩) (.inl ⟨rfl, rfl, rfl⟩) (by decide) true rfl
  have w21 := areL_c (base := bb) (n := n) hs (by omega)
  have w22 := areL2_c (base := bb) (n := n) hs (by omega)
  rw [hq] at w21 w22
  refine sqk fun K hK => ?_
  simp only [go_sem, gs, List.length_set, hl, reduceIte, Nat.reduceEqDiff, Nat.reduceLT, f5, f6, e6]
  subst hK
  refine env_gen [(1, s1), (5, gi n), (6, s), (7, .slice none 0 0), (8, bo false)] ?_ fun r1 h' => ?_
  · simp only [Hs, gs, List.length_set, hl, reduceIte, Nat.reduceEqDiff, Nat.reduceLT, f1, f5, f6, and_self]
  clear f1 f5 f6 hl
  obtain ⟨f1, f5, f6, f7, f8, (hl : List.length r1 = 493)⟩ := h'
  refine sqk fun K hK => ?_
  simp only [go_sem, gs, List.length_set, hl, reduceIte, Nat.reduceEqDiff, Nat.reduceLT, f5, f6, e7]
  subst hK
  refine env_gen [(1, s1), (5, gi n), (6, s), (7, .slice none 0 0), (8, bo false), (9, .slice none 0 0), (10, bo false)] ?_ fun r2 h' => ?_
  · simp only [Hs, gs, List.length_set, hl, reduceIte, Nat.reduceEqDiff, Nat.reduceLT, f1, f5, f6, f7, f8, and_self]
  clear f1 f5 f6 f7 f8 hl
  obtain ⟨f1, f5, f6, f7, f8, f9, f10, (hl : List.length r2 = 493)⟩ := h'
  refine sqk fun K hK => ?_
  simp only [go_sem, gs, List.length_set, hl, reduceIte, Nat.reduceEqDiff, Nat.reduceLT, f5, f6, e8]
  subst hK
  refine env_gen [(1, s1), (5, gi n), (6, s), (7, .slice none 0 0), (8, bo false), (9, .slice none 0 0), (10, bo false), (11, bo false), (12, bo false)] ?_ fun r3 h' => ?_
  · simp only [Hs, gs, List.length_set, hl, reduceIte, Nat.reduceEqDiff, Nat.reduceLT, f1, f5, f6, f7, f8, f9, f10, and_self]
  clear f1 f5 f6 f7 f8 f9 f10 hl
  obtain ⟨f1, f5, f6, f7, f8, f9, f10, f11, f12, (hl : List.length r3 = 493)⟩ := h'
  refine sqk fun K hK => ?_
  simp only [go_sem, gs, List.length_set, hl, reduceIte, Nat.reduceEqDiff, Nat.reduceLT, f5, f6, e9]
  subst hK
  refine env_gen [(1, s1), (5, gi n), (6, s), (7, .slice none 0 0), (8, bo false), (9, .slice none 0 0), (10, bo false), (11, bo false), (12, bo false), (13, bo false), (14, bo false)] ?_ fun r4 h' => ?_
  · simp only [Hs, gs, List.length_set, hl, reduceIte, Nat.reduceEqDiff, Nat.reduceLT, f1, f5, f6, f7, f8, f9, f10, f11, f12, and_self]
  clear f1 f5 f6 f7 f8 f9 f10 f11 f12 hl
  obtain ⟨f1, f5, f6, f7, f8, f9, f10, f11, f12, f13, f14, (hl : List.length r4 = 493)⟩ := h'
  refine sqk fun K hK => ?_
  simp only [go_sem, gs, List.length_set, hl, reduceIte, Nat.reduceEqDiff, Nat.reduceLT, f5, f6, e10]
  subst hK
  refine env_gen [(1, s1), (5, gi n), (6, s), (7, .slice none 0 0), (8, bo false), (9, .slice none 0 0), (10, bo false), (11, bo false), (12, bo false), (13, bo false), (14, bo false), (15, gi 0), (16, bo false)] ?_ fun r5 h' => ?_
  · simp only [Hs, gs, List.length_set, hl, reduceIte, Nat.reduceEqDiff, Nat.reduceLT, f1, f5, f6, f7, f8, f9, f10, f11, f12, f13, f14, and_self]
  clear f1 f5 f6 f7 f8 f9 f10 f11 f12 f13 f14 hl
  obtain ⟨f1, f5, f6, f7, f8, f9, f10, f11, f12, f13, f14, f15, f16, (hl : List.length r5 = 493)⟩ := h'
  refine sqk fun K hK => ?_
  simp only [go_sem, gs, List.length_set, hl, reduceIte, Nat.reduceEqDiff, Nat.reduceLT, f5, f6, e11]
  subst hK
  refine env_gen [(1, s1), (5, gi n), (6, s), (7, .slice none 0 0), (8, bo false), (9, .slice none 0 0), (10, bo false), (11, bo false), (12, bo false), (13, bo false), (14, bo false), (15, gi 0), (16, bo false), (17, gi 0), (18, bo false)] ?_ fun r6 h' => ?_
  · simp only [Hs, gs, List.length_set, hl, reduceIte, Nat.reduceEqDiff, Nat.reduceLT, f1, f5, f6, f7, f8, f9, f10, f11, f12, f13, f14, f15, f16, and_self]
  clear f1 f5 f6 f7 f8 f9 f10 f11 f12 f13 f14 f15 f16 hl
  obtain ⟨f1, f5, f6, f7, f8, f9, f10, f11, f12, f13, f14, f15, f16, f17, f18, (hl : List.length r6 = 493)⟩ := h'
  refine sqk fun K hK => ?_
  simp only [go_sem, gs, List.length_set, hl, reduceIte, Nat.reduceEqDiff, Nat.reduceLT, f5, f6, e12]
  subst hK
  refine env_gen [(1, s1), (5, gi n), (6, s), (7, .slice none 0 0), (8, bo false), (9, .slice none 0 0), (10, bo false), (11, bo false), (12, bo false), (13, bo false), (14, bo false), (15, gi 0), (16, bo false), (17, gi 0), (18, bo false), (19, .slice none 0 0), (20, bo false)] ?_ fun r7 h' => ?_
  · simp only [Hs, gs, List.length_set, hl, reduceIte, Nat.reduceEqDiff, Nat.reduceLT, f1, f5, f6, f7, f8, f9, f10, f11, f12, f13, f14, f15, f16, f17, f18, and_self]
  clear f1 f5 f6 f7 f8 f9 f10 f11 f12 f13 f14 f15 f16 f17 f18 hl
  obtain ⟨f1, f5, f6, f7, f8, f9, f10, f11, f12, f13, f14, f15, f16, f17, f18, f19, f20, (hl : List.length r7 = 493)⟩ := h'
  refine sqk fun K hK => ?_
  simp only [go_sem, gs, List.length_set, hl, reduceIte, Nat.reduceEqDiff, Nat.reduceLT, f5, f6, e13]
  subst hK
  refine env_gen [(1, s1), (5, gi n), (6, s), (7, .slice none 0 0), (8, bo false), (9, .slice none 0 0), (10, bo false), (11, bo false), (12, bo false), (13, bo false), (14, bo false), (15, gi 0), (16, bo false), (17, gi 0), (18, bo false), (19, .slice none 0 0), (20, bo false), (21, .slice none 0 0), (22, bo false)] ?_ fun r8 h' => ?_
  · simp only [Hs, gs, List.length_set, hl, reduceIte, Nat.reduceEqDiff, Nat.reduceLT, f1, f5, f6, f7, f8, f9, f10, f11, f12, f13, f14, f15, f16, f17, f18, f19, f20, and_self]
  clear f1 f5 f6 f7 f8 f9 f10 f11 f12 f13 f14 f15 f16 f17 f18 f19 f20 hl
  obtain ⟨f1, f5, f6, f7, f8, f9, f10, f11, f12, f13, f14, f15, f16, f17, f18, f19, f20, f21, f22, (hl : List.length r8 = 493)⟩ := h'
  refine sqk fun K hK => ?_
  simp only [go_sem, gs, List.length_set, hl, reduceIte, Nat.reduceEqDiff, Nat.reduceLT, f5, f6, e14]
  subst hK
  refine env_gen [(1, s1), (5, gi n), (6, s), (7, .slice none 0 0), (8, bo false), (9, .slice none 0 0), (10, bo false), (11, bo false), (12, bo false), (13, bo false), (14, bo false), (15, gi 0), (16, bo false), (17, gi 0), (18, bo false), (19, .slice none 0 0), (20, bo false), (21, .slice none 0 0), (22, bo false), (23, .slice none 0 0), (24, bo false)] ?_ fun r9 h' => ?_
  · simp only [Hs, gs, List.length_set, hl, reduceIte, Nat.reduceEqDiff, Nat.reduceLT, f1, f5, f6, f7, f8, f9, f10, f11, f12, f13, f14, f15, f16, f17, f18, f19, f20, f21, f22, and_self]
  clear f1 f5 f6 f7 f8 f9 f10 f11 f12 f13 f14 f15 f16 f17 f18 f19 f20 f21 f22 hl
  obtain ⟨f1, f5, f6, f7, f8, f9, f10, f11, f12, f13, f14, f15, f16, f17, f18, f19, f20, f21, f22, f23, f24, (hl : List.length r9 = 493)⟩ := h'
  refine sqk fun K hK => ?_
  simp only [go_sem, gs, List.length_set, hl, reduceIte, Nat.reduceEqDiff, Nat.reduceLT, f5, f6, e15]
  subst hK
  refine env_gen [(1, s1), (5, gi n), (6, s), (7, .slice none 0 0), (8, bo false), (9, .slice none 0 0), (10, bo false), (11, bo false), (12, bo false), (13, bo false), (14, bo false), (15, gi 0), (16, bo false), (17, gi 0), (18, bo false), (19, .slice none 0 0), (20, bo false), (21, .slice none 0 0), (22, bo false), (23, .slice none 0 0), (24, bo false), (25, .slice none 0 0), (26, bo false)] ?_ fun r10 h' => ?_
  · simp only [Hs, gs, List.length_set, hl, reduceIte, Nat.reduceEqDiff, Nat.reduceLT, f1, f5, f6, f7, f8, f9, f10, f11, f12, f13, f14, f15, f16, f17, f18, f19, f20, f21, f22, f23, f24, and_self]
  clear f1 f5 f6 f7 f8 f9 f10 f11 f12 f13 f14 f15 f16 f17 f18 f19 f20 f21 f22 f23 f24 hl
  obtain ⟨f1, f5, f6, f7, f8, f9, f10, f11, f12, f13, f14, f15, f16, f17, f18, f19, f20, f21, f22, f23, f24, f25, f26, (hl : List.length r10 = 493)⟩ := h'
  refine sqk fun K hK => ?_
  simp only [go_sem, gs, List.length_set, hl, reduceIte, Nat.reduceEqDiff, Nat.reduceLT, f5, f6, e16]
  subst hK
  refine env_gen [(1, s1), (5, gi n), (6, s), (7, .slice none 0 0), (8, bo false), (9, .slice none 0 0), (10, bo false), (11, bo false), (12, bo false), (13, bo false), (14, bo false), (15, gi 0), (16, bo false), (17, gi 0), (18, bo false), (19, .slice none 0 0), (20, bo false), (21, .slice none 0 0), (22, bo false), (23, .slice none 0 0), (24, bo false), (25, .slice none 0 0), (26, bo false), (27, .slice none 0 0), (28, bo false)] ?_ fun r11 h' => ?_
  · simp only [Hs, gs, List.length_set, hl, reduceIte, Nat.reduceEqDiff, Nat.reduceLT, f1, f5, f6, f7, f8, f9, f10, f11, f12, f13, f14, f15, f16, f17, f18, f19, f20, f21, f22, f23, f24, f25, f26, and_self]
  clear f1 f5 f6 f7 f8 f9 f10 f11 f12 f13 f14 f15 f16 f17 f18 f19 f20 f21 f22 f23 f24 f25 f26 hl
  obtain ⟨f1, f5, f6, f7, f8, f9, f10, f11, f12, f13, f14, f15, f16, f17, f18, f19, f20, f21, f22, f23, f24, f25, f26, f27, f28, (hl : List.length r11 = 493)⟩ := h'
  refine sqk fun K hK => ?_
  simp only [go_sem, gs, List.length_set, hl, reduceIte, Nat.reduceEqDiff, Nat.reduceLT, f5, f6, e17]
  subst hK
  refine env_gen [(1, s1), (5, gi n), (6, s), (7, .slice none 0 0), (8, bo false), (9, .slice none 0 0), (10, bo false), (11, bo false), (12, bo false), (13, bo false), (14, bo false), (15, gi 0), (16, bo false), (17, gi 0), (18, bo false), (19, .slice none 0 0), (20, bo false), (21, .slice none 0 0), (22, bo false), (23, .slice none 0 0), (24, bo false), (25, .slice none 0 0), (26, bo false), (27, .slice none 0 0), (28, bo false), (29, .slice none 0 0), (30, bo false)] ?_ fun r12 h' => ?_
  · simp only [Hs, gs, List.length_set, hl, reduceIte, Nat.reduceEqDiff, Nat.reduceLT, f1, f5, f6, f7, f8, f9, f10, f11, f12, f13, f14, f15, f16, f17, f18, f19, f20, f21, f22, f23, f24, f25, f26, f27, f28, and_self]
  clear f1 f5 f6 f7 f8 f9 f10 f11 f12 f13 f14 f15 f16 f17 f18 f19 f20 f21 f22 f23 f24 f25 f26 f27 f28 hl
  obtain ⟨f1, f5, f6, f7, f8, f9, f10, f11, f12, f13, f14, f15, f16, f17, f18, f19, f20, f21, f22, f23, f24, f25, f26, f27, f28, f29, f30, (hl : List.length r12 = 493)⟩ := h'
  -- region 16
  refine sqk fun K0 hK0 => ?_
  refine sq2 fun K2 hK2 => ?_
  simp only [fin_reg, List.append_eq, l_mc, l_mn, l_ca, l_na, slim]
  refine opsk 14 fun K hK => ?_
  simp only [go_sem, List.take_succ_cons, List.take_zero, gs, List.length_set, hl, reduceIte, Nat.reduceEqDiff, Nat.reduceLT, f1, f5, f6, f7, f8, f9, f10, f11, f12, f13, f14, f15, f16, f17, f18, f19, f20, f21, f22, f23, f24, f25, f26, f27, f28, f29, f30, w18, w19, w20, w21, w22, bne_self_eq_false, Bool.not_true, Bool.not_false]
  subst hK
  simp only [List.drop_succ_cons, List.drop_zero]
  refine env_gen [(154, bo false), (1, s1), (5, gi n), (6, s), (7, .slice none 0 0), (8, bo false), (9, .slice none 0 0), (10, bo false), (11, bo false), (12, bo false), (13, bo false), (14, bo false), (15, gi 0), (16, bo false), (17, gi 0), (18, bo false), (19, .slice none 0 0), (20, bo false), (21, .slice none 0 0), (22, bo false), (23, .slice none 0 0), (24, bo false), (25, .slice none 0 0), (26, bo false), (27, .slice none 0 0), (28, bo false), (29, .slice none 0 0), (30, bo false)] ?_ fun r13 h' => ?_
  · simp only [Hs, gs, List.length_set, hl, reduceIte, Nat.reduceEqDiff, Nat.reduceLT, f1, f5, f6, f7, f8, f9, f10, f11, f12, f13, f14, f15, f16, f17, f18, f19, f20, f21, f22, f23, f24, f25, f26, f27, f28, f29, f30, and_self]
  clear f1 f5 f6 f7 f8 f9 f10 f11 f12 f13 f14 f15 f16 f17 f18 f19 f20 f21 f22 f23 f24 f25 f26 f27 f28 f29 f30 hl
  obtain ⟨f154, f1, f5, f6, f7, f8, f9, f10, f11, f12, f13, f14, f15, f16, f17, f18, f19, f20, f21, f22, f23, f24, f25, f26, f27, f28, f29, f30, (hl : List.length r13 = 493)⟩ := h'
  refine opsk 10 fun K hK => ?_
  simp only [go_sem, List.take_succ_cons, List.take_zero, gs, List.length_set, hl, reduceIte, Nat.reduceEqDiff, Nat.reduceLT, f154, f1, f5, f6, f7, f8, f9, f10, f11, f12, f13, f14, f15, f16, f17, f18, f19, f20, f21, f22, f23, f24, f25, f26, f27, f28, f29, f30, w18, w19, w20, w21, w22, bne_self_eq_false, Bool.not_true, Bool.not_false]
  subst hK
  simp only [List.drop_succ_cons, List.drop_zero]
  refine env_gen [(164, bo false), (1, s1), (5, gi n), (6, s), (7, .slice none 0 0), (8, bo false), (9, .slice none 0 0), (10, bo false), (11, bo false), (12, bo false), (13, bo false), (14, bo false), (15, gi 0), (16, bo false), (17, gi 0), (18, bo false), (19, .slice none 0 0), (20, bo false), (21, .slice none 0 0), (22, bo false), (23, .slice none 0 0), (24, bo false), (25, .slice none 0 0), (26, bo false), (27, .slice none 0 0), (28, bo false), (29, .slice none 0 0), (30, bo false)] ?_ fun r14 h' => ?_
  · simp only [Hs, gs, List.length_set, hl, reduceIte, Nat.reduceEqDiff, Nat.reduceLT, f154, f1, f5, f6, f7, f8, f9, f10, f11, f12, f13, f14, f15, f16, f17, f18, f19, f20, f21, f22, f23, f24, f25, f26, f27, f28, f29, f30, and_self]
  clear f154 f1 f5 f6 f7 f8 f9 f10 f11 f12 f13 f14 f15 f16 f17 f18 f19 f20 f21 f22 f23 f24 f25 f26 f27 f28 f29 f30 hl
  obtain ⟨f164, f1, f5, f6, f7, f8, f9, f10, f11, f12, f13, f14, f15, f16, f17, f18, f19, f20, f21, f22, f23, f24, f25, f26, f27, f28, f29, f30, (hl : List.length r14 = 493)⟩ := h'
  refine opsk 10 fun K hK => ?_
  simp only [go_sem, List.take_succ_cons, List.take_zero, gs, List.length_set, hl, reduceIte, Nat.reduceEqDiff, Nat.reduceLT, f164, f1, f5, f6, f7, f8, f9, f10, f11, f12, f13, f14, f15, f16, f17, f18, f19, f20, f21, f22, f23, f24, f25, f26, f27, f28, f29, f30, w18, w19, w20, w21, w22, bne_self_eq_false, Bool.not_true, Bool.not_false]
  subst hK
  simp only [List.drop_succ_cons, List.drop_zero]
  refine env_gen [(174, bo false), (1, s1), (5, gi n), (6, s), (7, .slice none 0 0), (8, bo false), (9, .slice none 0 0), (10, bo false), (11, bo false), (12, bo false), (13, bo false), (14, bo false), (15, gi 0), (16, bo false), (17, gi 0), (18, bo false), (19, .slice none 0 0), (20, bo false), (21, .slice none 0 0), (22, bo false), (23, .slice none 0 0), (24, bo false), (25, .slice none 0 0), (26, bo false), (27, .slice none 0 0), (28, bo false), (29, .slice none 0 0), (30, bo false)] ?_ fun r15 h' => ?_
  · simp only [Hs, gs, List.length_set, hl, reduceIte, Nat.reduceEqDiff, Nat.reduceLT, f164, f1, f5, f6, f7, f8, f9, f10, f11, f12, f13, f14, f15, f16, f17, f18, f19, f20, f21, f22, f23, f24, f25, f26, f27, f28, f29, f30, and_self]
  clear f164 f1 f5 f6 f7 f8 f9 f10 f11 f12 f13 f14 f15 f16 f17 f18 f19 f20 f21 f22 f23 f24 f25 f26 f27 f28 f29 f30 hl
  obtain ⟨f174, f1, f5, f6, f7, f8, f9, f10, f11, f12, f13, f14, f15, f16, f17, f18, f19, f20, f21, f22, f23, f24, f25, f26, f27, f28, f29, f30, (hl : List.length r15 = 493)⟩ := h'
  refine opsk 11 fun K hK => ?_
  simp only [go_sem, List.take_succ_cons, List.take_zero, gs, List.length_set, hl, reduceIte, Nat.reduceEqDiff, Nat.reduceLT, f174, f1, f5, f6, f7, f8, f9, f10, f11, f12, f13, f14, f15, f16, f17, f18, f19, f20, f21, f22, f23, f24, f25, f26, f27, f28, f29, f30, w18, w19, w20, w21, w22, bne_self_eq_false, Bool.not_true, Bool.not_false]
  subst hK
  simp only [List.drop_succ_cons, List.drop_zero]
  refine env_gen [(185, bo false), (1, s1), (5, gi n), (6, s), (7, .slice none 0 0), (8, bo false), (9, .slice none 0 0), (10, bo false), (11, bo false), (12, bo false), (13, bo false), (14, bo false), (15, gi 0), (16, bo false), (17, gi 0), (18, bo false), (19, .slice none 0 0), (20, bo false), (21, .slice none 0 0), (22, bo false), (23, .slice none 0 0), (24, bo false), (25, .slice none 0 0), (26, bo false), (27, .slice none 0 0), (28, bo false), (29, .slice none 0 0), (30, bo false)] ?_ fun r16 h' => ?_
  · simp only [Hs, gs, List.length_set, hl, reduceIte, Nat.reduceEqDiff, Nat.reduceLT, f174, f1, f5, f6, f7, f8, f9, f10, f11, f12, f13, f14, f15, f16, f17, f18, f19, f20, f21, f22, f23, f24, f25, f26, f27, f28, f29, f30, and_self]
  clear f174 f1 f5 f6 f7 f8 f9 f10 f11 f12 f13 f14 f15 f16 f17 f18 f19 f20 f21 f22 f23 f24 f25 f26 f27 f28 f29 f30 hl
  obtain ⟨f185, f1, f5, f6, f7, f8, f9, f10, f11, f12, f13, f14, f15, f16, f17, f18, f19, f20, f21, f22, f23, f24, f25, f26, f27, f28, f29, f30, (hl : List.length r16 = 493)⟩ := h'
  refine opsk 11 fun K hK => ?_
  simp only [go_sem, List.take_succ_cons, List.take_zero, gs, List.length_set, hl, reduceIte, Nat.reduceEqDiff, Nat.reduceLT, f185, f1, f5, f6, f7, f8, f9, f10, f11, f12, f13, f14, f15, f16, f17, f18, f19, f20, f21, f22, f23, f24, f25, f26, f27, f28, f29, f30, w18, w19, w20, w21, w22, bne_self_eq_false, Bool.not_true, Bool.not_false]
  subst hK
  simp only [List.drop_succ_cons, List.drop_zero]
  refine env_gen [(196, bo false), (1, s1), (5, gi n), (6, s), (7, .slice none 0 0), (8, bo false), (9, .slice none 0 0), (10, bo false), (11, bo false), (12, bo false), (13, bo false), (14, bo false), (15, gi 0), (16, bo false), (17, gi 0), (18, bo false), (19, .slice none 0 0), (20, bo false), (21, .slice none 0 0), (22, bo false), (23, .slice none 0 0), (24, bo false), (25, .slice none 0 0), (26, bo false), (27, .slice none 0 0), (28, bo false), (29, .slice none 0 0), (30, bo false)] ?_ fun r17 h' => ?_
  · simp only [Hs, gs, List.length_set, hl, reduceIte, Nat.reduceEqDiff, Nat.reduceLT, f185, f1, f5, f6, f7, f8, f9, f10, f11, f12, f13, f14, f15, f16, f17, f18, f19, f20, f21, f22, f23, f24, f25, f26, f27, f28, f29, f30, and_self]
  clear f185 f1 f5 f6 f7 f8 f9 f10 f11 f12 f13 f14 f15 f16 f17 f18 f19 f20 f21 f22 f23 f24 f25 f26 f27 f28 f29 f30 hl
  obtain ⟨f196, f1, f5, f6, f7, f8, f9, f10, f11, f12, f13, f14, f15, f16, f17, f18, f19, f20, f21, f22, f23, f24, f25, f26, f27, f28, f29, f30, (hl : List.length r17 = 493)⟩ := h'
  refine opsk 13 fun K hK => ?_
  simp only [go_sem, List.take_succ_cons, List.take_zero, gs, List.length_set, hl, reduceIte, Nat.reduceEqDiff, Nat.reduceLT, f196, f1, f5, f6, f7, f8, f9, f10, f11, f12, f13, f14, f15, f16, f17, f18, f19, f20, f21, f22, f23, f24, f25, f26, f27, f28, f29, f30, w18, w19, w20, w21, w22, bne_self_eq_false, Bool.not_true, Bool.not_false]
  subst hK
  simp only [List.drop_succ_cons, List.drop_zero]
  refine env_gen [(209, bo false), (1, s1), (5, gi n), (6, s), (7, .slice none 0 0), (8, bo false), (9, .slice none 0 0), (10, bo false), (11, bo false), (12, bo false), (13, bo false), (14, bo false), (15, gi 0), (16, bo false), (17, gi 0), (18, bo false), (19, .slice none 0 0), (20, bo false), (21, .slice none 0 0), (22, bo false), (23, .slice none 0 0), (24, bo false), (25, .slice none 0 0), (26, bo false), (27, .slice none 0 0), (28, bo false), (29, .slice none 0 0), (30, bo false)] ?_ fun r18 h' => ?_
  · simp only [Hs, gs, List.length_set, hl, reduceIte, Nat.reduceEqDiff, Nat.reduceLT, f196, f1, f5, f6, f7, f8, f9, f10, f11, f12, f13, f14, f15, f16, f17, f18, f19, f20, f21, f22, f23, f24, f25, f26, f27, f28, f29, f30, and_self]
  clear f196 f1 f5 f6 f7 f8 f9 f10 f11 f12 f13 f14 f15 f16 f17 f18 f19 f20 f21 f22 f23 f24 f25 f26 f27 f28 f29 f30 hl
  obtain ⟨f209, f1, f5, f6, f7, f8, f9, f10, f11, f12, f13, f14, f15, f16, f17, f18, f19, f20, f21, f22, f23, f24, f25, f26, f27, f28, f29, f30, (hl : List.length r18 = 493)⟩ := h'
  refine opsk 14 fun K hK => ?_
  simp only [go_sem, List.take_succ_cons, List.take_zero, gs, List.length_set, hl, reduceIte, Nat.reduceEqDiff, Nat.reduceLT, f209, f1, f5, f6, f7, f8, f9, f10, f11, f12, f13, f14, f15, f16, f17, f18, f19, f20, f21, f22, f23, f24, f25, f26, f27, f28, f29, f30, w18, w19, w20, w21, w22, bne_self_eq_false, Bool.not_true, Bool.not_false]
  subst hK
  simp only [List.drop_succ_cons, List.drop_zero]
  refine env_gen [(223, bo false), (1, s1), (5, gi n), (6, s), (7, .slice none 0 0), (8, bo false), (9, .slice none 0 0), (10, bo false), (11, bo false), (12, bo false), (13, bo false), (14, bo false), (15, gi 0), (16, bo false), (17, gi 0), (18, bo false), (19, .slice none 0 0), (20, bo false), (21, .slice none 0 0), (22, bo false), (23, .slice none 0 0), (24, bo false), (25, .slice none 0 0), (26, bo false), (27, .slice none 0 0), (28, bo false), (29, .slice none 0 0), (30, bo false)] ?_ fun r19 h' => ?_
  · simp only [Hs, gs, List.length_set, hl, reduceIte, Nat.reduceEqDiff, Nat.reduceLT, f209, f1, f5, f6, f7, f8, f9, f10, f11, f12, f13, f14, f15, f16, f17, f18, f19, f20, f21, f22, f23, f24, f25, f26, f27, f28, f29, f30, and_self]
  clear f209 f1 f5 f6 f7 f8 f9 f10 f11 f12 f13 f14 f15 f16 f17 f18 f19 f20 f21 f22 f23 f24 f25 f26 f27 f28 f29 f30 hl
  obtain ⟨f223, f1, f5, f6, f7, f8, f9, f10, f11, f12, f13, f14, f15, f16, f17, f18, f19, f20, f21, f22, f23, f24, f25, f26, f27, f28, f29, f30, (hl : List.length r19 = 493)⟩ := h'
  refine opsk 13 fun K hK => ?_
  simp only [go_sem, List.take_succ_cons, List.take_zero, gs, List.length_set, hl, reduceIte, Nat.reduceEqDiff, Nat.reduceLT, f223, f1, f5, f6, f7, f8, f9, f10, f11, f12, f13, f14, f15, f16, f17, f18, f19, f20, f21, f22, f23, f24, f25, f26, f27, f28, f29, f30, w18, w19, w20, w21, w22, bne_self_eq_false, Bool.not_true, Bool.not_false]
  subst hK
  simp only [List.drop_succ_cons, List.drop_zero]
  refine env_gen [(236, bo false), (1, s1), (5, gi n), (6, s), (7, .slice none 0 0), (8, bo false), (9, .slice none 0 0), (10, bo false), (11, bo false), (12, bo false), (13, bo false), (14, bo false), (15, gi 0), (16, bo false), (17, gi 0), (18, bo false), (19, .slice none 0 0), (20, bo false), (21, .slice none 0 0), (22, bo false), (23, .slice none 0 0), (24, bo false), (25, .slice none 0 0), (26, bo false), (27, .slice none 0 0), (28, bo false), (29, .slice none 0 0), (30, bo false)] ?_ fun r20 h' => ?_
  · simp only [Hs, gs, List.length_set, hl, reduceIte, Nat.reduceEqDiff, Nat.reduceLT, f223, f1, f5, f6, f7, f8, f9, f10, f11, f12, f13, f14, f15, f16, f17, f18, f19, f20, f21, f22, f23, f24, f25, f26, f27, f28, f29, f30, and_self]
  clear f223 f1 f5 f6 f7 f8 f9 f10 f11 f12 f13 f14 f15 f16 f17 f18 f19 f20 f21 f22 f23 f24 f25 f26 f27 f28 f29 f30 hl
  obtain ⟨f236, f1, f5, f6, f7, f8, f9, f10, f11, f12, f13, f14, f15, f16, f17, f18, f19, f20, f21, f22, f23, f24, f25, f26, f27, f28, f29, f30, (hl : List.length r20 = 493)⟩ := h'
  refine opsk 10 fun K hK => ?_
  simp only [go_sem, List.take_succ_cons, List.take_zero, gs, List.length_set, hl, reduceIte, Nat.reduceEqDiff, Nat.reduceLT, f236, f1, f5, f6, f7, f8, f9, f10, f11, f12, f13, f14, f15, f16, f17, f18, f19, f20, f21, f22, f23, f24, f25, f26, f27, f28, f29, f30, w18, w19, w20, w21, w22, bne_self_eq_false, Bool.not_true, Bool.not_false]
  subst hK
  simp only [List.drop_succ_cons, List.drop_zero, fin_ops_nil]
  refine env_gen [(246, bo false), (1, s1), (5, gi n), (6, s), (8, bo false), (15, gi 0), (16, bo false)] ?_ fun r21 h' => ?_
  · simp only [Hs, gs, List.length_set, hl, reduceIte, Nat.reduceEqDiff, Nat.reduceLT, f236, f1, f5, f6, f7, f8, f9, f10, f11, f12, f13, f14, f15, f16, f17, f18, f19, f20, f21, f22, f23, f24, f25, f26, f27, f28, f29, f30, and_self]
  clear f236 f1 f5 f6 f7 f8 f9 f10 f11 f12 f13 f14 f15 f16 f17 f18 f19 f20 f21 f22 f23 f24 f25 f26 f27 f28 f29 f30 hl
  obtain ⟨f246, f1, f5, f6, f8, f15, f16, (hl : List.length r21 = 493)⟩ := h'
  subst hK2
  refine cdk ?_
  simp only [go_sem, f246]
  subst hK0
  refine env_gen [(1, s1), (5, gi n), (6, s), (8, bo false), (15, gi 0), (16, bo false)] ?_ fun r22 h' => ?_
  · simp only [Hs, gs, List.length_set, hl, reduceIte, Nat.reduceEqDiff, Nat.reduceLT, f246, f1, f5, f6, f8, f15, f16, and_self]
  clear f246 f1 f5 f6 f8 f15 f16 hl
  obtain ⟨f1, f5, f6, f8, f15, f16, (hl : List.length r22 = 493)⟩ := h'
  -- region 18
  refine sqk fun K hK => ?_
  simp only [go_sem, gs, List.length_set, hl, reduceIte, Nat.reduceEqDiff, Nat.reduceLT, f8]
  subst hK
  refine three_ok (s1 := s1) (n := n) (s := s) (need := 0) (th := false) ?_ ?_ ?_ ?_ ?_ ?_ h1 (fun h => by cases h)
  all_goals simp only [gs, List.length_set, hl, reduceIte, Nat.reduceEqDiff, Nat.reduceLT, f1, f5, f6, f15, f16]
end T

