/- The law where there are letters. No conditions. -/
import Derived.Test.YtbpeknbhdphilaaL6
import Derived.Test.YtbpeknbhdphilaaL8
import Derived.Test.YtbpeknbhdphilaaL9
open Go Go.Am
namespace T
open Go.Proofs
set_option maxRecDepth 100000
set_option maxHeartbeats 4000000
set_option linter.unusedSimpArgs false
set_option linter.unusedVariables false
variable {base : Nat} {H : Heap}

theorem good_ok {ρ : Env} {bb m0 N : Nat} {M : List (Nat × Nat)} {s1 s : Value} (hbb : bb ≤ H.length) (f1 : ρ.getD 1 undef = s1) (f5 : ρ.getD 5 undef = gi N) (f6 : ρ.getD 6 undef = s) (hl : List.length ρ = 493) (h1 : Bytes H s1) (hs : SL H s (toZ M)) (hg : Gx N M) :
    Ok (run1 C (cal C) 1001 bb 3 m0 [.tmp 4] (fin C (cal C) 1001 bb [.code fromC] (some (.normal, ρ, H)))) fun v H' => v = bo true := by
  have hN := hg.n10
  have hM := hg.len
  have hZ := toZ_len M
  have hr := hg.good.inN
  have ha := areL_of hg.n0 hN hM hg.good
  obtain ⟨pA, hpA⟩ : ∃ p : Nat → Bool, ∀ k, p k = allK (play N (M.take k)) := ⟨_, fun _ => rfl⟩
  obtain ⟨pI, hpI⟩ : ∃ p : Nat → Bool, ∀ k, p k = (play N (M.take k) == play N (M.take (k + 1))) := ⟨_, fun _ => rfl⟩
  obtain ⟨pN, hpN⟩ : ∃ p : Nat → Bool, ∀ k, p k = (play N (less M k) == play N M) := ⟨_, fun _ => rfl⟩
  obtain ⟨all, hall⟩ : ∃ a, a = allK (play N M) := ⟨_, rfl⟩
  have hth : ndB (nd M.length pA) = all := by
    rw [nd_spec fun k hk h => ?_, hpA, List.take_length, hall]
    rw [hpA] at h
    rw [hpA, List.take_length]; exact play_mono hN hr h
  obtain ⟨v, H2, e6, k2, tI, rfl, r2⟩ := knownI_c (base := bb) (n := N) hs (by omega) hN hr ha
  have s2 := hs.keep k2
  obtain ⟨v, H3, e7, k3, tS, rfl, r3⟩ := knownS_c (base := bb) (n := N) s2 (by omega) hN hr ha
  have s3 := s2.keep k3
  have e8 := all_c (base := bb) (n := N) s3 (by omega) hN hr ha
  have e9 := allS_c (base := bb) (n := N) s3 (by omega) hN hr ha
  rw [← allK_play hN] at e9
  rw [← hall] at e8 e9
  have e10 := need_c (base := bb) (n := N) s3 (by omega) hN hr ha pA hpA
  have e11 := needS_c (base := bb) (n := N) s3 (by omega) hN hr ha pA (fun k => by rw [hpA, allK_play hN])
  rw [hth] at e10 e11
  obtain ⟨v, H4, e12, F4, iV, rfl, rfl, i4⟩ := idle_c (base := bb) (n := N) s3 (by omega) hN hr ha pI hpI
  have s4 := s3.add F4
  obtain ⟨v, H5, e13, F5, iW, rfl, rfl, i5⟩ := idleS_c (base := bb) (n := N) s4 (by omega) hN hr ha pI hpI
  have s5 := s4.add F5
  obtain ⟨v, H6, e14, F6, nV, rfl, rfl, i6⟩ := needl_c (base := bb) (n := N) s5 (by omega) hN hr ha pN hpN
  have s6 := s5.add F6
  obtain ⟨v, H7, e15, F7, nW, rfl, rfl, i7⟩ := needlS_c (base := bb) (n := N) s6 (by omega) hN hr ha pN hpN
  have s7 := s6.add F7
  have hbl : (backL (toZ M)).length = M.length := by rw [backL_len, hZ]
  have e16 := backI_c (base := bb) (n := N) s7 (by omega)
  rw [ha, if_pos rfl, hZ] at e16
  have b7 : SL (H3 ++ F4 ++ F5 ++ F6 ++ F7 ++ [some (66, lc (backL (toZ M)))]) (.slice (some ⟨(H3 ++ F4 ++ F5 ++ F6 ++ F7).length, 0, some 2⟩) M.length M.length) (backL (toZ M)) := by
    unfold SL; rw [hbl]; exact new_shows (by rw [lc_len, hbl])
  have kA : Keeps H3.length H3 (H3 ++ F4 ++ F5 ++ F6 ++ F7) := by rw [List.append_assoc, List.append_assoc, List.append_assoc]; exact .append (Nat.le_refl _) _
  have kB : Keeps (H3 ++ F4).length (H3 ++ F4) (H3 ++ F4 ++ F5 ++ F6 ++ F7) := by rw [List.append_assoc (H3 ++ F4), List.append_assoc (H3 ++ F4)]; exact .append (Nat.le_refl _) _
  have kC : Keeps (H3 ++ F4 ++ F5).length (H3 ++ F4 ++ F5) (H3 ++ F4 ++ F5 ++ F6 ++ F7) := by rw [List.append_assoc (H3 ++ F4 ++ F5)]; exact .append (Nat.le_refl _) _
  have j4 := i4.shows.keep kB
  have j5 := i5.shows.keep kC
  have j6 := i6.shows.add F7
  have j7 := i7.shows
  have kH := (k2.trans (k3.mono k2.1)).trans (kA.mono (Nat.le_trans k2.1 k3.1))
  have y7 := h1.keep kH
  have q2 := ((r2.keep k3).keep kA).shows
  have q3 := (r3.keep kA).shows
  generalize hbV : (Value.slice (some ⟨(H3 ++ F4 ++ F5 ++ F6 ++ F7).length, 0, some 2⟩) M.length M.length) = bV at e16 b7
  generalize hH7 : H3 ++ F4 ++ F5 ++ F6 ++ F7 = H7 at *
  have k8 : Keeps H7.length H7 (H7 ++ [some (66, lc (backL (toZ M)))]) := .append (Nat.le_refl _) _
  have s8 := s7.keep k8
  obtain ⟨v, H9, e17, F9, bW, rfl, rfl, i9⟩ := back_c (base := bb) (n := (N : Int)) s8 ha
  have kZ := k8.trans (.append k8.1 F9)
  have b9 := b7.add F9
  have s9 := s8.add F9
  have j9 := i9.shows
  have x4 := j4.keep kZ
  have x5 := j5.keep kZ
  have x6 := j6.keep kZ
  have x7 := j7.keep kZ
  have q2 := q2.keep kZ
  have q3 := q3.keep kZ
  have y9 := y7.keep kZ
  have kAll := kH.trans (kZ.mono kH.1)
  generalize H7 ++ [some (66, lc (backL (toZ M)))] ++ F9 = H9 at *
  have li := idxLen M.length pI
  have ln := idxLen M.length pN
  have hpl := play_len N M
  have w18 := wRows_c (base := bb) q2 q3 (by rw [List.length_map]; omega) (rowsLen _) true (by simp)
  have w19i := wSame_c (base := bb) x4 x5 (by omega) true (by simp)
  have w19n := wSame_c (base := bb) x6 x7 (by omega) true (by simp)
  have w20 := wLetters_c (base := bb) b9 j9 (by omega) true (by simp)
  have w21 := areL_c (base := bb) (n := (N : Int)) s9 (by omega)
  have w22 := areL2_c (base := bb) (n := (N : Int)) s9 (by omega)
  rw [ha] at w21 w22
  have hx : Fx H9 N M pI pN s1 s tI iV nV bV := ⟨y9, s9, q2, x4, x6, by rw [toZ_back]; exact b9⟩
  obtain ⟨nd', hnd⟩ : ∃ r, r = ndI (nd M.length pA) := ⟨_, rfl⟩
  rw [← hnd] at e10 e11
  refine sqk fun K hK => ?_
  simp only [go_sem, gs, List.length_set, hl, reduceIte, Nat.reduceEqDiff, Nat.reduceLT, f5, f6, e6]
  subst hK
  refine env_gen [(1, s1), (5, gi N), (6, s), (7, tI), (8, bo true)] ?_ fun r23 h' => ?_
  · simp only [Hs, gs, List.length_set, hl, reduceIte, Nat.reduceEqDiff, Nat.reduceLT, f1, f5, f6, and_self]
  clear f1 f5 f6 hl
  obtain ⟨f1, f5, f6, f7, f8, (hl : List.length r23 = 493)⟩ := h'
  refine sqk fun K hK => ?_
  simp only [go_sem, gs, List.length_set, hl, reduceIte, Nat.reduceEqDiff, Nat.reduceLT, f5, f6, e7]
  subst hK
  refine env_gen [(1, s1), (5, gi N), (6, s), (7, tI), (8, bo true), (9, tS), (10, bo true)] ?_ fun r24 h' => ?_
  · simp only [Hs, gs, List.length_set, hl, reduceIte, Nat.reduceEqDiff, Nat.reduceLT, f1, f5, f6, f7, f8, and_self]
  clear f1 f5 f6 f7 f8 hl
  obtain ⟨f1, f5, f6, f7, f8, f9, f10, (hl : List.length r24 = 493)⟩ := h'
  refine sqk fun K hK => ?_
  simp only [go_sem, gs, List.length_set, hl, reduceIte, Nat.reduceEqDiff, Nat.reduceLT, f5, f6, e8]
  subst hK
  refine env_gen [(1, s1), (5, gi N), (6, s), (7, tI), (8, bo true), (9, tS), (10, bo true), (11, bo all), (12, bo true)] ?_ fun r25 h' => ?_
  · simp only [Hs, gs, List.length_set, hl, reduceIte, Nat.reduceEqDiff, Nat.reduceLT, f1, f5, f6, f7, f8, f9, f10, and_self]
  clear f1 f5 f6 f7 f8 f9 f10 hl
  obtain ⟨f1, f5, f6, f7, f8, f9, f10, f11, f12, (hl : List.length r25 = 493)⟩ := h'
  refine sqk fun K hK => ?_
  simp only [go_sem, gs, List.length_set, hl, reduceIte, Nat.reduceEqDiff, Nat.reduceLT, f5, f6, e9]
  subst hK
  refine env_gen [(1, s1), (5, gi N), (6, s), (7, tI), (8, bo true), (9, tS), (10, bo true), (11, bo all), (12, bo true), (13, bo all), (14, bo true)] ?_ fun r26 h' => ?_
  · simp only [Hs, gs, List.length_set, hl, reduceIte, Nat.reduceEqDiff, Nat.reduceLT, f1, f5, f6, f7, f8, f9, f10, f11, f12, and_self]
  clear f1 f5 f6 f7 f8 f9 f10 f11 f12 hl
  obtain ⟨f1, f5, f6, f7, f8, f9, f10, f11, f12, f13, f14, (hl : List.length r26 = 493)⟩ := h'
  refine sqk fun K hK => ?_
  simp only [go_sem, gs, List.length_set, hl, reduceIte, Nat.reduceEqDiff, Nat.reduceLT, f5, f6, e10]
  subst hK
  refine env_gen [(1, s1), (5, gi N), (6, s), (7, tI), (8, bo true), (9, tS), (10, bo true), (11, bo all), (12, bo true), (13, bo all), (14, bo true), (15, gi nd'), (16, bo all)] ?_ fun r27 h' => ?_
  · simp only [Hs, gs, List.length_set, hl, reduceIte, Nat.reduceEqDiff, Nat.reduceLT, f1, f5, f6, f7, f8, f9, f10, f11, f12, f13, f14, and_self]
  clear f1 f5 f6 f7 f8 f9 f10 f11 f12 f13 f14 hl
  obtain ⟨f1, f5, f6, f7, f8, f9, f10, f11, f12, f13, f14, f15, f16, (hl : List.length r27 = 493)⟩ := h'
  refine sqk fun K hK => ?_
  simp only [go_sem, gs, List.length_set, hl, reduceIte, Nat.reduceEqDiff, Nat.reduceLT, f5, f6, e11]
  subst hK
  refine env_gen [(1, s1), (5, gi N), (6, s), (7, tI), (8, bo true), (9, tS), (10, bo true), (11, bo all), (12, bo true), (13, bo all), (14, bo true), (15, gi nd'), (16, bo all), (17, gi nd'), (18, bo all)] ?_ fun r28 h' => ?_
  · simp only [Hs, gs, List.length_set, hl, reduceIte, Nat.reduceEqDiff, Nat.reduceLT, f1, f5, f6, f7, f8, f9, f10, f11, f12, f13, f14, f15, f16, and_self]
  clear f1 f5 f6 f7 f8 f9 f10 f11 f12 f13 f14 f15 f16 hl
  obtain ⟨f1, f5, f6, f7, f8, f9, f10, f11, f12, f13, f14, f15, f16, f17, f18, (hl : List.length r28 = 493)⟩ := h'
  refine sqk fun K hK => ?_
  simp only [go_sem, gs, List.length_set, hl, reduceIte, Nat.reduceEqDiff, Nat.reduceLT, f5, f6, e12]
  subst hK
  refine env_gen [(1, s1), (5, gi N), (6, s), (7, tI), (8, bo true), (9, tS), (10, bo true), (11, bo all), (12, bo true), (13, bo all), (14, bo true), (15, gi nd'), (16, bo all), (17, gi nd'), (18, bo all), (19, iV), (20, bo true)] ?_ fun r29 h' => ?_
  · simp only [Hs, gs, List.length_set, hl, reduceIte, Nat.reduceEqDiff, Nat.reduceLT, f1, f5, f6, f7, f8, f9, f10, f11, f12, f13, f14, f15, f16, f17, f18, and_self]
  clear f1 f5 f6 f7 f8 f9 f10 f11 f12 f13 f14 f15 f16 f17 f18 hl
  obtain ⟨f1, f5, f6, f7, f8, f9, f10, f11, f12, f13, f14, f15, f16, f17, f18, f19, f20, (hl : List.length r29 = 493)⟩ := h'
  refine sqk fun K hK => ?_
  simp only [go_sem, gs, List.length_set, hl, reduceIte, Nat.reduceEqDiff, Nat.reduceLT, f5, f6, e13]
  subst hK
  refine env_gen [(1, s1), (5, gi N), (6, s), (7, tI), (8, bo true), (9, tS), (10, bo true), (11, bo all), (12, bo true), (13, bo all), (14, bo true), (15, gi nd'), (16, bo all), (17, gi nd'), (18, bo all), (19, iV), (20, bo true), (21, iW), (22, bo true)] ?_ fun r30 h' => ?_
  · simp only [Hs, gs, List.length_set, hl, reduceIte, Nat.reduceEqDiff, Nat.reduceLT, f1, f5, f6, f7, f8, f9, f10, f11, f12, f13, f14, f15, f16, f17, f18, f19, f20, and_self]
  clear f1 f5 f6 f7 f8 f9 f10 f11 f12 f13 f14 f15 f16 f17 f18 f19 f20 hl
  obtain ⟨f1, f5, f6, f7, f8, f9, f10, f11, f12, f13, f14, f15, f16, f17, f18, f19, f20, f21, f22, (hl : List.length r30 = 493)⟩ := h'
  refine sqk fun K hK => ?_
  simp only [go_sem, gs, List.length_set, hl, reduceIte, Nat.reduceEqDiff, Nat.reduceLT, f5, f6, e14]
  subst hK
  refine env_gen [(1, s1), (5, gi N), (6, s), (7, tI), (8, bo true), (9, tS), (10, bo true), (11, bo all), (12, bo true), (13, bo all), (14, bo true), (15, gi nd'), (16, bo all), (17, gi nd'), (18, bo all), (19, iV), (20, bo true), (21, iW), (22, bo true), (23, nV), (24, bo true)] ?_ fun r31 h' => ?_
  · simp only [Hs, gs, List.length_set, hl, reduceIte, Nat.reduceEqDiff, Nat.reduceLT, f1, f5, f6, f7, f8, f9, f10, f11, f12, f13, f14, f15, f16, f17, f18, f19, f20, f21, f22, and_self]
  clear f1 f5 f6 f7 f8 f9 f10 f11 f12 f13 f14 f15 f16 f17 f18 f19 f20 f21 f22 hl
  obtain ⟨f1, f5, f6, f7, f8, f9, f10, f11, f12, f13, f14, f15, f16, f17, f18, f19, f20, f21, f22, f23, f24, (hl : List.length r31 = 493)⟩ := h'
  refine sqk fun K hK => ?_
  simp only [go_sem, gs, List.length_set, hl, reduceIte, Nat.reduceEqDiff, Nat.reduceLT, f5, f6, e15]
  subst hK
  refine env_gen [(1, s1), (5, gi N), (6, s), (7, tI), (8, bo true), (9, tS), (10, bo true), (11, bo all), (12, bo true), (13, bo all), (14, bo true), (15, gi nd'), (16, bo all), (17, gi nd'), (18, bo all), (19, iV), (20, bo true), (21, iW), (22, bo true), (23, nV), (24, bo true), (25, nW), (26, bo true)] ?_ fun r32 h' => ?_
  · simp only [Hs, gs, List.length_set, hl, reduceIte, Nat.reduceEqDiff, Nat.reduceLT, f1, f5, f6, f7, f8, f9, f10, f11, f12, f13, f14, f15, f16, f17, f18, f19, f20, f21, f22, f23, f24, and_self]
  clear f1 f5 f6 f7 f8 f9 f10 f11 f12 f13 f14 f15 f16 f17 f18 f19 f20 f21 f22 f23 f24 hl
  obtain ⟨f1, f5, f6, f7, f8, f9, f10, f11, f12, f13, f14, f15, f16, f17, f18, f19, f20, f21, f22, f23, f24, f25, f26, (hl : List.length r32 = 493)⟩ := h'
  refine sqk fun K hK => ?_
  simp only [go_sem, gs, List.length_set, hl, reduceIte, Nat.reduceEqDiff, Nat.reduceLT, f5, f6, e16]
  subst hK
  refine env_gen [(1, s1), (5, gi N), (6, s), (7, tI), (8, bo true), (9, tS), (10, bo true), (11, bo all), (12, bo true), (13, bo all), (14, bo true), (15, gi nd'), (16, bo all), (17, gi nd'), (18, bo all), (19, iV), (20, bo true), (21, iW), (22, bo true), (23, nV), (24, bo true), (25, nW), (26, bo true), (27, bV), (28, bo true)] ?_ fun r33 h' => ?_
  · simp only [Hs, gs, List.length_set, hl, reduceIte, Nat.reduceEqDiff, Nat.reduceLT, f1, f5, f6, f7, f8, f9, f10, f11, f12, f13, f14, f15, f16, f17, f18, f19, f20, f21, f22, f23, f24, f25, f26, and_self]
  clear f1 f5 f6 f7 f8 f9 f10 f11 f12 f13 f14 f15 f16 f17 f18 f19 f20 f21 f22 f23 f24 f25 f26 hl
  obtain ⟨f1, f5, f6, f7, f8, f9, f10, f11, f12, f13, f14, f15, f16, f17, f18, f19, f20, f21, f22, f23, f24, f25, f26, f27, f28, (hl : List.length r33 = 493)⟩ := h'
  refine sqk fun K hK => ?_
  simp only [go_sem, gs, List.length_set, hl, reduceIte, Nat.reduceEqDiff, Nat.reduceLT, f5, f6, e17]
  subst hK
  refine env_gen [(1, s1), (5, gi N), (6, s), (7, tI), (8, bo true), (9, tS), (10, bo true), (11, bo all), (12, bo true), (13, bo all), (14, bo true), (15, gi nd'), (16, bo all), (17, gi nd'), (18, bo all), (19, iV), (20, bo true), (21, iW), (22, bo true), (23, nV), (24, bo true), (25, nW), (26, bo true), (27, bV), (28, bo true), (29, bW), (30, bo true)] ?_ fun r34 h' => ?_
  · simp only [Hs, gs, List.length_set, hl, reduceIte, Nat.reduceEqDiff, Nat.reduceLT, f1, f5, f6, f7, f8, f9, f10, f11, f12, f13, f14, f15, f16, f17, f18, f19, f20, f21, f22, f23, f24, f25, f26, f27, f28, and_self]
  clear f1 f5 f6 f7 f8 f9 f10 f11 f12 f13 f14 f15 f16 f17 f18 f19 f20 f21 f22 f23 f24 f25 f26 f27 f28 hl
  obtain ⟨f1, f5, f6, f7, f8, f9, f10, f11, f12, f13, f14, f15, f16, f17, f18, f19, f20, f21, f22, f23, f24, f25, f26, f27, f28, f29, f30, (hl : List.length r34 = 493)⟩ := h'
  -- region 16
  refine sqk fun K0 hK0 => ?_
  refine sq2 fun K2 hK2 => ?_
  simp only [fin_reg, List.append_eq, l_mc, l_mn, l_ca, l_na, slim]
  refine opsk 14 fun K hK => ?_
  simp only [go_sem, List.take_succ_cons, List.take_zero, gs, List.length_set, hl, reduceIte, Nat.reduceEqDiff, Nat.reduceLT, f1, f5, f6, f7, f8, f9, f10, f11, f12, f13, f14, f15, f16, f17, f18, f19, f20, f21, f22, f23, f24, f25, f26, f27, f28, f29, f30, w18, w19i, w19n, w20, w21, w22, bne_self_eq_false, Bool.not_true, Bool.not_false]
  subst hK
  simp only [List.drop_succ_cons, List.drop_zero]
  refine env_gen [(154, bo false), (1, s1), (5, gi N), (6, s), (7, tI), (8, bo true), (9, tS), (10, bo true), (11, bo all), (12, bo true), (13, bo all), (14, bo true), (15, gi nd'), (16, bo all), (17, gi nd'), (18, bo all), (19, iV), (20, bo true), (21, iW), (22, bo true), (23, nV), (24, bo true), (25, nW), (26, bo true), (27, bV), (28, bo true), (29, bW), (30, bo true)] ?_ fun r35 h' => ?_
  · simp only [Hs, gs, List.length_set, hl, reduceIte, Nat.reduceEqDiff, Nat.reduceLT, f1, f5, f6, f7, f8, f9, f10, f11, f12, f13, f14, f15, f16, f17, f18, f19, f20, f21, f22, f23, f24, f25, f26, f27, f28, f29, f30, and_self]
  clear f1 f5 f6 f7 f8 f9 f10 f11 f12 f13 f14 f15 f16 f17 f18 f19 f20 f21 f22 f23 f24 f25 f26 f27 f28 f29 f30 hl
  obtain ⟨f154, f1, f5, f6, f7, f8, f9, f10, f11, f12, f13, f14, f15, f16, f17, f18, f19, f20, f21, f22, f23, f24, f25, f26, f27, f28, f29, f30, (hl : List.length r35 = 493)⟩ := h'
  refine opsk 10 fun K hK => ?_
  simp only [go_sem, List.take_succ_cons, List.take_zero, gs, List.length_set, hl, reduceIte, Nat.reduceEqDiff, Nat.reduceLT, f154, f1, f5, f6, f7, f8, f9, f10, f11, f12, f13, f14, f15, f16, f17, f18, f19, f20, f21, f22, f23, f24, f25, f26, f27, f28, f29, f30, w18, w19i, w19n, w20, w21, w22, bne_self_eq_false, Bool.not_true, Bool.not_false]
  subst hK
  simp only [List.drop_succ_cons, List.drop_zero]
  refine env_gen [(164, bo false), (1, s1), (5, gi N), (6, s), (7, tI), (8, bo true), (9, tS), (10, bo true), (11, bo all), (12, bo true), (13, bo all), (14, bo true), (15, gi nd'), (16, bo all), (17, gi nd'), (18, bo all), (19, iV), (20, bo true), (21, iW), (22, bo true), (23, nV), (24, bo true), (25, nW), (26, bo true), (27, bV), (28, bo true), (29, bW), (30, bo true)] ?_ fun r36 h' => ?_
  · simp only [Hs, gs, List.length_set, hl, reduceIte, Nat.reduceEqDiff, Nat.reduceLT, f154, f1, f5, f6, f7, f8, f9, f10, f11, f12, f13, f14, f15, f16, f17, f18, f19, f20, f21, f22, f23, f24, f25, f26, f27, f28, f29, f30, and_self]
  clear f154 f1 f5 f6 f7 f8 f9 f10 f11 f12 f13 f14 f15 f16 f17 f18 f19 f20 f21 f22 f23 f24 f25 f26 f27 f28 f29 f30 hl
  obtain ⟨f164, f1, f5, f6, f7, f8, f9, f10, f11, f12, f13, f14, f15, f16, f17, f18, f19, f20, f21, f22, f23, f24, f25, f26, f27, f28, f29, f30, (hl : List.length r36 = 493)⟩ := h'
  refine opsk 10 fun K hK => ?_
  simp only [go_sem, List.take_succ_cons, List.take_zero, gs, List.length_set, hl, reduceIte, Nat.reduceEqDiff, Nat.reduceLT, f164, f1, f5, f6, f7, f8, f9, f10, f11, f12, f13, f14, f15, f16, f17, f18, f19, f20, f21, f22, f23, f24, f25, f26, f27, f28, f29, f30, w18, w19i, w19n, w20, w21, w22, bne_self_eq_false, Bool.not_true, Bool.not_false]
  subst hK
  simp only [List.drop_succ_cons, List.drop_zero]
  refine env_gen [(174, bo false), (1, s1), (5, gi N), (6, s), (7, tI), (8, bo true), (9, tS), (10, bo true), (11, bo all), (12, bo true), (13, bo all), (14, bo true), (15, gi nd'), (16, bo all), (17, gi nd'), (18, bo all), (19, iV), (20, bo true), (21, iW), (22, bo true), (23, nV), (24, bo true), (25, nW), (26, bo true), (27, bV), (28, bo true), (29, bW), (30, bo true)] ?_ fun r37 h' => ?_
  · simp only [Hs, gs, List.length_set, hl, reduceIte, Nat.reduceEqDiff, Nat.reduceLT, f164, f1, f5, f6, f7, f8, f9, f10, f11, f12, f13, f14, f15, f16, f17, f18, f19, f20, f21, f22, f23, f24, f25, f26, f27, f28, f29, f30, and_self]
  clear f164 f1 f5 f6 f7 f8 f9 f10 f11 f12 f13 f14 f15 f16 f17 f18 f19 f20 f21 f22 f23 f24 f25 f26 f27 f28 f29 f30 hl
  obtain ⟨f174, f1, f5, f6, f7, f8, f9, f10, f11, f12, f13, f14, f15, f16, f17, f18, f19, f20, f21, f22, f23, f24, f25, f26, f27, f28, f29, f30, (hl : List.length r37 = 493)⟩ := h'
  refine opsk 11 fun K hK => ?_
  simp only [go_sem, List.take_succ_cons, List.take_zero, gs, List.length_set, hl, reduceIte, Nat.reduceEqDiff, Nat.reduceLT, f174, f1, f5, f6, f7, f8, f9, f10, f11, f12, f13, f14, f15, f16, f17, f18, f19, f20, f21, f22, f23, f24, f25, f26, f27, f28, f29, f30, w18, w19i, w19n, w20, w21, w22, bne_self_eq_false, Bool.not_true, Bool.not_false]
  subst hK
  simp only [List.drop_succ_cons, List.drop_zero]
  refine env_gen [(185, bo false), (1, s1), (5, gi N), (6, s), (7, tI), (8, bo true), (9, tS), (10, bo true), (11, bo all), (12, bo true), (13, bo all), (14, bo true), (15, gi nd'), (16, bo all), (17, gi nd'), (18, bo all), (19, iV), (20, bo true), (21, iW), (22, bo true), (23, nV), (24, bo true), (25, nW), (26, bo true), (27, bV), (28, bo true), (29, bW), (30, bo true)] ?_ fun r38 h' => ?_
  · simp only [Hs, gs, List.length_set, hl, reduceIte, Nat.reduceEqDiff, Nat.reduceLT, f174, f1, f5, f6, f7, f8, f9, f10, f11, f12, f13, f14, f15, f16, f17, f18, f19, f20, f21, f22, f23, f24, f25, f26, f27, f28, f29, f30, and_self]
  clear f174 f1 f5 f6 f7 f8 f9 f10 f11 f12 f13 f14 f15 f16 f17 f18 f19 f20 f21 f22 f23 f24 f25 f26 f27 f28 f29 f30 hl
  obtain ⟨f185, f1, f5, f6, f7, f8, f9, f10, f11, f12, f13, f14, f15, f16, f17, f18, f19, f20, f21, f22, f23, f24, f25, f26, f27, f28, f29, f30, (hl : List.length r38 = 493)⟩ := h'
  refine opsk 11 fun K hK => ?_
  simp only [go_sem, List.take_succ_cons, List.take_zero, gs, List.length_set, hl, reduceIte, Nat.reduceEqDiff, Nat.reduceLT, f185, f1, f5, f6, f7, f8, f9, f10, f11, f12, f13, f14, f15, f16, f17, f18, f19, f20, f21, f22, f23, f24, f25, f26, f27, f28, f29, f30, w18, w19i, w19n, w20, w21, w22, bne_self_eq_false, Bool.not_true, Bool.not_false]
  subst hK
  simp only [List.drop_succ_cons, List.drop_zero]
  refine env_gen [(196, bo false), (1, s1), (5, gi N), (6, s), (7, tI), (8, bo true), (9, tS), (10, bo true), (11, bo all), (12, bo true), (13, bo all), (14, bo true), (15, gi nd'), (16, bo all), (17, gi nd'), (18, bo all), (19, iV), (20, bo true), (21, iW), (22, bo true), (23, nV), (24, bo true), (25, nW), (26, bo true), (27, bV), (28, bo true), (29, bW), (30, bo true)] ?_ fun r39 h' => ?_
  · simp only [Hs, gs, List.length_set, hl, reduceIte, Nat.reduceEqDiff, Nat.reduceLT, f185, f1, f5, f6, f7, f8, f9, f10, f11, f12, f13, f14, f15, f16, f17, f18, f19, f20, f21, f22, f23, f24, f25, f26, f27, f28, f29, f30, and_self]
  clear f185 f1 f5 f6 f7 f8 f9 f10 f11 f12 f13 f14 f15 f16 f17 f18 f19 f20 f21 f22 f23 f24 f25 f26 f27 f28 f29 f30 hl
  obtain ⟨f196, f1, f5, f6, f7, f8, f9, f10, f11, f12, f13, f14, f15, f16, f17, f18, f19, f20, f21, f22, f23, f24, f25, f26, f27, f28, f29, f30, (hl : List.length r39 = 493)⟩ := h'
  refine opsk 13 fun K hK => ?_
  simp only [go_sem, List.take_succ_cons, List.take_zero, gs, List.length_set, hl, reduceIte, Nat.reduceEqDiff, Nat.reduceLT, f196, f1, f5, f6, f7, f8, f9, f10, f11, f12, f13, f14, f15, f16, f17, f18, f19, f20, f21, f22, f23, f24, f25, f26, f27, f28, f29, f30, w18, w19i, w19n, w20, w21, w22, bne_self_eq_false, Bool.not_true, Bool.not_false]
  subst hK
  simp only [List.drop_succ_cons, List.drop_zero]
  refine env_gen [(209, bo false), (1, s1), (5, gi N), (6, s), (7, tI), (8, bo true), (9, tS), (10, bo true), (11, bo all), (12, bo true), (13, bo all), (14, bo true), (15, gi nd'), (16, bo all), (17, gi nd'), (18, bo all), (19, iV), (20, bo true), (21, iW), (22, bo true), (23, nV), (24, bo true), (25, nW), (26, bo true), (27, bV), (28, bo true), (29, bW), (30, bo true)] ?_ fun r40 h' => ?_
  · simp only [Hs, gs, List.length_set, hl, reduceIte, Nat.reduceEqDiff, Nat.reduceLT, f196, f1, f5, f6, f7, f8, f9, f10, f11, f12, f13, f14, f15, f16, f17, f18, f19, f20, f21, f22, f23, f24, f25, f26, f27, f28, f29, f30, and_self]
  clear f196 f1 f5 f6 f7 f8 f9 f10 f11 f12 f13 f14 f15 f16 f17 f18 f19 f20 f21 f22 f23 f24 f25 f26 f27 f28 f29 f30 hl
  obtain ⟨f209, f1, f5, f6, f7, f8, f9, f10, f11, f12, f13, f14, f15, f16, f17, f18, f19, f20, f21, f22, f23, f24, f25, f26, f27, f28, f29, f30, (hl : List.length r40 = 493)⟩ := h'
  refine opsk 14 fun K hK => ?_
  simp only [go_sem, List.take_succ_cons, List.take_zero, gs, List.length_set, hl, reduceIte, Nat.reduceEqDiff, Nat.reduceLT, f209, f1, f5, f6, f7, f8, f9, f10, f11, f12, f13, f14, f15, f16, f17, f18, f19, f20, f21, f22, f23, f24, f25, f26, f27, f28, f29, f30, w18, w19i, w19n, w20, w21, w22, bne_self_eq_false, Bool.not_true, Bool.not_false]
  subst hK
  simp only [List.drop_succ_cons, List.drop_zero]
  refine env_gen [(223, bo false), (1, s1), (5, gi N), (6, s), (7, tI), (8, bo true), (9, tS), (10, bo true), (11, bo all), (12, bo true), (13, bo all), (14, bo true), (15, gi nd'), (16, bo all), (17, gi nd'), (18, bo all), (19, iV), (20, bo true), (21, iW), (22, bo true), (23, nV), (24, bo true), (25, nW), (26, bo true), (27, bV), (28, bo true), (29, bW), (30, bo true)] ?_ fun r41 h' => ?_
  · simp only [Hs, gs, List.length_set, hl, reduceIte, Nat.reduceEqDiff, Nat.reduceLT, f209, f1, f5, f6, f7, f8, f9, f10, f11, f12, f13, f14, f15, f16, f17, f18, f19, f20, f21, f22, f23, f24, f25, f26, f27, f28, f29, f30, and_self]
  clear f209 f1 f5 f6 f7 f8 f9 f10 f11 f12 f13 f14 f15 f16 f17 f18 f19 f20 f21 f22 f23 f24 f25 f26 f27 f28 f29 f30 hl
  obtain ⟨f223, f1, f5, f6, f7, f8, f9, f10, f11, f12, f13, f14, f15, f16, f17, f18, f19, f20, f21, f22, f23, f24, f25, f26, f27, f28, f29, f30, (hl : List.length r41 = 493)⟩ := h'
  refine opsk 13 fun K hK => ?_
  simp only [go_sem, List.take_succ_cons, List.take_zero, gs, List.length_set, hl, reduceIte, Nat.reduceEqDiff, Nat.reduceLT, f223, f1, f5, f6, f7, f8, f9, f10, f11, f12, f13, f14, f15, f16, f17, f18, f19, f20, f21, f22, f23, f24, f25, f26, f27, f28, f29, f30, w18, w19i, w19n, w20, w21, w22, bne_self_eq_false, Bool.not_true, Bool.not_false]
  subst hK
  simp only [List.drop_succ_cons, List.drop_zero]
  refine env_gen [(236, bo false), (1, s1), (5, gi N), (6, s), (7, tI), (8, bo true), (9, tS), (10, bo true), (11, bo all), (12, bo true), (13, bo all), (14, bo true), (15, gi nd'), (16, bo all), (17, gi nd'), (18, bo all), (19, iV), (20, bo true), (21, iW), (22, bo true), (23, nV), (24, bo true), (25, nW), (26, bo true), (27, bV), (28, bo true), (29, bW), (30, bo true)] ?_ fun r42 h' => ?_
  · simp only [Hs, gs, List.length_set, hl, reduceIte, Nat.reduceEqDiff, Nat.reduceLT, f223, f1, f5, f6, f7, f8, f9, f10, f11, f12, f13, f14, f15, f16, f17, f18, f19, f20, f21, f22, f23, f24, f25, f26, f27, f28, f29, f30, and_self]
  clear f223 f1 f5 f6 f7 f8 f9 f10 f11 f12 f13 f14 f15 f16 f17 f18 f19 f20 f21 f22 f23 f24 f25 f26 f27 f28 f29 f30 hl
  obtain ⟨f236, f1, f5, f6, f7, f8, f9, f10, f11, f12, f13, f14, f15, f16, f17, f18, f19, f20, f21, f22, f23, f24, f25, f26, f27, f28, f29, f30, (hl : List.length r42 = 493)⟩ := h'
  refine opsk 10 fun K hK => ?_
  simp only [go_sem, List.take_succ_cons, List.take_zero, gs, List.length_set, hl, reduceIte, Nat.reduceEqDiff, Nat.reduceLT, f236, f1, f5, f6, f7, f8, f9, f10, f11, f12, f13, f14, f15, f16, f17, f18, f19, f20, f21, f22, f23, f24, f25, f26, f27, f28, f29, f30, w18, w19i, w19n, w20, w21, w22, bne_self_eq_false, Bool.not_true, Bool.not_false]
  subst hK
  simp only [List.drop_succ_cons, List.drop_zero, fin_ops_nil]
  refine env_gen [(246, bo false), (8, bo true), (1, s1), (5, gi N), (6, s), (7, tI), (11, bo all), (15, gi nd'), (16, bo all), (19, iV), (23, nV), (27, bV)] ?_ fun r43 h' => ?_
  · simp only [Hs, gs, List.length_set, hl, reduceIte, Nat.reduceEqDiff, Nat.reduceLT, f236, f1, f5, f6, f7, f8, f9, f10, f11, f12, f13, f14, f15, f16, f17, f18, f19, f20, f21, f22, f23, f24, f25, f26, f27, f28, f29, f30, and_self]
  clear f236 f1 f5 f6 f7 f8 f9 f10 f11 f12 f13 f14 f15 f16 f17 f18 f19 f20 f21 f22 f23 f24 f25 f26 f27 f28 f29 f30 hl
  obtain ⟨f246, f8, f1, f5, f6, f7, f11, f15, f16, f19, f23, f27, (hl : List.length r43 = 493)⟩ := h'
  subst hK2
  refine cdk ?_
  simp only [go_sem, f246]
  subst hK0
  refine env_gen [(8, bo true), (1, s1), (5, gi N), (6, s), (7, tI), (11, bo all), (15, gi nd'), (16, bo all), (19, iV), (23, nV), (27, bV)] ?_ fun r44 h' => ?_
  · simp only [Hs, gs, List.length_set, hl, reduceIte, Nat.reduceEqDiff, Nat.reduceLT, f246, f8, f1, f5, f6, f7, f11, f15, f16, f19, f23, f27, and_self]
  clear f246 f8 f1 f5 f6 f7 f11 f15 f16 f19 f23 f27 hl
  obtain ⟨f8, f1, f5, f6, f7, f11, f15, f16, f19, f23, f27, (hl : List.length r44 = 493)⟩ := h'
  -- region 18
  refine sqk fun K hK => ?_
  refine sq2 fun K2 hK2 => ?_
  simp only [go_sem, gs, List.length_set, hl, reduceIte, Nat.reduceEqDiff, Nat.reduceLT, f8]
  subst hK2
  refine env_gen [(247, bo true), (1, s1), (5, gi N), (6, s), (7, tI), (11, bo all), (15, gi nd'), (16, bo all), (19, iV), (23, nV), (27, bV)] ?_ fun r45 h' => ?_
  · simp only [Hs, gs, List.length_set, hl, reduceIte, Nat.reduceEqDiff, Nat.reduceLT, f8, f1, f5, f6, f7, f11, f15, f16, f19, f23, f27, and_self]
  clear f8 f1 f5 f6 f7 f11 f15 f16 f19 f23 f27 hl
  obtain ⟨f247, f1, f5, f6, f7, f11, f15, f16, f19, f23, f27, (hl : List.length r45 = 493)⟩ := h'
  refine cdk ?_
  rw [fin_cond, ev_tmp, f247, br_t]
  refine uncd ?_
  have hv : Hs (vars N s1 s tI iV nV bV all all nd') r45 := ⟨f1, f5, f6, f7, f11, f15, f16, f19, f23, f27, hl⟩
  refine one_ok hv hx hg hall fun ρ1 v1 => two_ok v1 hx hg (Nat.le_trans hbb kAll.1) hpI hpN fun ρ2 H10 k10 v2 => turn_ok v2 (hx.keep k10) hg fun ρ3 H11 tT k11 v3 hT => grid_ok v3 ((hx.keep k10).keep k11) hT hg fun ρ4 v4 => ?_
  subst hK
  obtain ⟨g1, g5, g6, g7, g11, g15, g16, g19, g23, g27, (hl4 : List.length ρ4 = 493)⟩ := v4
  refine three_ok g1 g5 g6 g15 g16 hl4 ((y9.keep k10).keep k11) fun h => ?_
  have hb : ndB (nd M.length pA) = true := by rw [hth]; exact h
  obtain ⟨n1, n2⟩ := nd_get hb
  rw [← hnd] at n1 n2
  exact ⟨N, M, nd', rfl, rfl, hg.n0, hN, (s9.keep k10).keep k11, hM, hg.good, n1, by rw [← hpA]; exact n2⟩
end T

