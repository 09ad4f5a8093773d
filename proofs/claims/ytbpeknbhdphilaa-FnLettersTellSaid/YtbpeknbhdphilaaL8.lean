/- The law: each letter. No conditions. -/
import Derived.Test.YtbpeknbhdphilaaL7
open Go Go.Am
namespace T
open Go.Proofs
set_option maxRecDepth 100000
set_option maxHeartbeats 4000000
set_option linter.unusedSimpArgs false
set_option linter.unusedVariables false
variable {base : Nat} {H : Heap}
theorem two_ok {ρ : Env} {bb m0 N : Nat} {M : List (Nat × Nat)} {pI pN : Nat → Bool} {s1 s tI iV nV bV : Value} {all th : Bool} {need : Int} {k : List It} {Q : Value → Heap → Prop}
    (hv : Hs (vars N s1 s tI iV nV bV all th need) ρ) (hx : Fx H N M pI pN s1 s tI iV nV bV) (hg : Gx N M) (hbb : bb ≤ H.length)
    (hpI : ∀ k, pI k = (play N (M.take k) == play N (M.take (k + 1)))) (hpN : ∀ k, pN k = (play N (less M k) == play N M))
    (next : ∀ ρ H', Keeps H.length H H' → Hs (vars N s1 s tI iV nV bV all th need) ρ → Ok (run1 C (cal C) 1001 bb 3 m0 [.tmp 4] (fin C (cal C) 1001 bb (.code (sndN 3 okA) :: k) (some (.normal, ρ, H')))) Q) :
    Ok (run1 C (cal C) 1001 bb 3 m0 [.tmp 4] (fin C (cal C) 1001 bb (.code (sndN 2 okA) :: k) (some (.normal, ρ, H)))) Q := by
  obtain ⟨f1, f5, f6, f7, f11, f15, f16, f19, f23, f27, (hl : List.length ρ = 493)⟩ := hv
  have hN := hg.n10
  have hM := hg.len
  have hZ := toZ_len M
  obtain ⟨aS, cS, hss⟩ := hx.sl.sl
  rw [hZ] at hss
  refine sqk fun K hK => ?_
  refine sq2 fun K2 hK2 => ?_
  rw [hss] at f6
  simp only [go_sem, gs, List.length_set, hl, f6, reduceIte, Nat.reduceEqDiff, Nat.reduceLT]
  subst hK2
  refine env_gen ((289, gi M.length) :: (290, gi (0 : Nat)) :: vars N s1 s tI iV nV bV all th need) ?_ fun ρ' h' => ?_
  · rw [hss]
    simp only [Hs, gs, List.length_set, hl, f1, f5, f6, f7, f11, f15, f16, f19, f23, f27, reduceIte, Nat.reduceEqDiff, Nat.reduceLT, and_self, and_true, true_and]
    all_goals rfl
  clear f1 f5 f6 f7 f11 f15 f16 f19 f23 f27 hl ρ
  refine cdk ?_
  simp only [fin_block]
  rw [fin_loopk [291, 292, 33, 293, 294, 295, 296, 297, 298, 299, 300, 301, 302, 34, 304, 305, 306, 303, 307, 308, 35, 36, 310, 311, 312, 313, 314, 309, 315, 316, 37, 38, 318, 319, 320, 321, 322, 323, 317, 324, 325, 39, 40, 326, 327, 328, 331, 332, 335, 336, 344, 345, 353, 4, 354] rfl]
  refine lp_env (fun j ρ H' => ∃ i : Nat, i + j = M.length ∧ Keeps H.length H H' ∧ Hs ((289, gi M.length) :: (290, gi i) :: vars N s1 s tI iV nV bV all th need) ρ) ?_ M.length (by omega) ⟨0, by omega, .refl _ _, h'⟩
  rintro j m ρ H' ⟨i, hij, hk, hh⟩ ih
  have hh := hh.wipe (ks := [291, 292, 33, 293, 294, 295, 296, 297, 298, 299, 300, 301, 302, 34, 304, 305, 306, 303, 307, 308, 35, 36, 310, 311, 312, 313, 314, 309, 315, 316, 37, 38, 318, 319, 320, 321, 322, 323, 317, 324, 325, 39, 40, 326, 327, 328, 331, 332, 335, 336, 344, 345, 353, 4, 354]) rfl
  generalize wipe [291, 292, 33, 293, 294, 295, 296, 297, 298, 299, 300, 301, 302, 34, 304, 305, 306, 303, 307, 308, 35, 36, 310, 311, 312, 313, 314, 309, 315, 316, 37, 38, 318, 319, 320, 321, 322, 323, 317, 324, 325, 39, 40, 326, 327, 328, 331, 332, 335, 336, 344, 345, 353, 4, 354] ρ = ρ1 at hh

  obtain ⟨f289, f290, f1, f5, f6, f7, f11, f15, f16, f19, f23, f27, (hl : List.length ρ1 = 493)⟩ := hh
  cases hlt : decide ((i : Int) < (M.length : Int))
  · simp only [go_sem, gs, List.length_set, hl, f289, f290, hlt, reduceIte, Nat.reduceEqDiff, Nat.reduceLT]
    subst hK
    refine env_gen (vars N s1 s tI iV nV bV all th need) ?_ fun ρ h => next ρ H' hk h
    simp only [Hs, gs, List.length_set, hl, f1, f5, f6, f7, f11, f15, f16, f19, f23, f27, reduceIte, Nat.reduceEqDiff, Nat.reduceLT, and_self]
  have hi : i < M.length := by have := of_decide_eq_true hlt; omega
  have hiZ : i < (toZ M).length := by omega
  have hb' : bb ≤ H'.length := Nat.le_trans hbb hk.1
  -- letters without one
  have hx1 := hx.keep hk
  obtain ⟨u1, e1, h1⟩ := SL.to hx1.sl (k := i) (by omega)
  obtain ⟨u2, e2, h2⟩ := SL.from hx1.sl (k := i + 1) (by omega)
  have hn : OwnL H'.length (H' ++ [some (66, [])]) 66 2 (.slice (some ⟨H'.length, 0, some 2⟩) 0 0) 0 [] := .empty H' 66 2 (Nat.le_refl _)
  have hk0 : Keeps H'.length H' (H' ++ [some (66, [])]) := .append (Nat.le_refl _) _
  obtain ⟨v1, H1, e3, ho1, hk1⟩ := hn.apps (base := bb) (h1.keep hk0) ts24 hb' (by simp) (by rw [List.length_take]; unfold room; omega)
  have hk1' := hk0.trans hk1
  obtain ⟨v2, H2, e4, ho2, hk2⟩ := ho1.apps (base := bb) (h2.keep hk1') ts24 hb' hk1'.1 (by rw [List.length_take, List.length_drop]; unfold room; omega)
  have hk2' := hk1'.trans hk2
  rw [List.nil_append, Nat.zero_add, ← lc_app, ← List.eraseIdx_eq_take_drop_succ, ← List.length_append, ← List.eraseIdx_eq_take_drop_succ, toZ_less] at ho2
  -- what is known then
  have gl : Good N (less M i) := hg.good.less i
  have ll := less_len M i
  obtain ⟨v, H3, e5, k3, tL, rfl, r3⟩ := knownI_c (base := bb) (n := N) ho2.shows (by omega) hN gl.inN (areL_of hg.n0 hN (by omega) gl)
  have hkk3 := hk2'.trans (k3.mono hk2'.1)
  have hx3 := hx1.keep hkk3
  obtain ⟨u3, e6, h6⟩ := SL.to hx3.sl (k := i) (by omega)
  obtain rfl : u1 = u3 := by rw [e1] at e6; exact Option.some.inj e6
  rw [toZ_take] at h6
  have g6 : Good N (M.take i) := hg.good.take i
  obtain ⟨v, H4, e7, k4, tB, rfl, r4⟩ := knownI_c (base := bb) (n := N) h6 (by rw [List.length_take]; omega) hN g6.inN (areL_of hg.n0 hN (by rw [List.length_take]; omega) g6)
  have hx4 := hx3.keep k4
  obtain ⟨u4, e8, h8⟩ := SL.to hx4.sl (k := i + 1) (by omega)
  rw [toZ_take] at h8
  have g8 : Good N (M.take (i + 1)) := hg.good.take (i + 1)
  obtain ⟨v, H5, e9, k5, tA, rfl, r5⟩ := knownI_c (base := bb) (n := N) h8 (by rw [List.length_take]; omega) hN g8.inN (areL_of hg.n0 hN (by rw [List.length_take]; omega) g8)
  have hx5 := hx4.keep k5
  have hkk5 := (hkk3.trans (k4.mono hkk3.1)).trans (k5.mono (Nat.le_trans hkk3.1 k4.1))
  have p1 := play_len N (less M i)
  have p2 := play_len N M
  have p3 := play_len N (M.take i)
  have p4 := play_len N (M.take (i + 1))
  have li := idxLen M.length pI
  have ln := idxLen M.length pN
  have w1 := wHas_c (base := bb) (n := i) hx5.nl (by omega) (pN i) (by rw [Bool.eq_iff_iff, decide_eq_true_eq, mem_idx]; exact ⟨fun h => ⟨hi, h⟩, fun h => h.2⟩)
  have w2 := wRows_c (base := bb) ((r3.keep k4).keep k5).shows hx5.kn (by rw [List.length_map]; omega) (rowsLen _) (pN i) (by rw [map_bits (pl16 hN) (pl16 hN)]; exact hpN i)
  have w3 := wHas_c (base := bb) (n := i) hx5.id (by omega) (pI i) (by rw [Bool.eq_iff_iff, decide_eq_true_eq, mem_idx]; exact ⟨fun h => ⟨hi, h⟩, fun h => h.2⟩)
  have w4 := wRows_c (base := bb) (r4.keep k5).shows r5.shows (by rw [List.length_map]; omega) (rowsLen _) (pI i) (by rw [map_bits (pl16 hN) (pl16 hN)]; exact hpI i)
  have hwi : IntKind.i64.wrap ((i : Int) + 1) = ((i + 1 : Nat) : Int) := wrapN (by omega)
  rw [hss] at f6 e1 e2 e6 e8
  refine cdk ?_
  refine sq2 fun K1 hK1 => ?_
  simp only [go_sem, gs, List.length_set, hl, reduceIte, Nat.reduceEqDiff, Nat.reduceLT, f289, f290, hlt]
  subst hK1
  refine env_gen ((291, bo true) :: (289, gi M.length) :: (290, gi i) :: vars N s1 (.slice aS M.length cS) tI iV nV bV all th need) ?_ fun r0 h' => ?_
  · simp only [Hs, gs, List.length_set, hl, reduceIte, Nat.reduceEqDiff, Nat.reduceLT, f289, f290, f1, f5, f6, f7, f11, f15, f16, f19, f23, f27, and_self]
  clear f289 f290 f1 f5 f6 f7 f11 f15 f16 f19 f23 f27 hl
  obtain ⟨f291, f289, f290, f1, f5, f6, f7, f11, f15, f16, f19, f23, f27, (hl : List.length r0 = 493)⟩ := h'
  refine sqk fun K1 hK1 => ?_
  simp only [go_sem, f291]
  subst hK1
  -- the letter's own block
  refine sqk fun K1 hK1 => ?_
  rw [fin_block]
  refine sq2 fun K2 hK2 => ?_
  simp only [go_sem, gs, List.length_set, hl, reduceIte, Nat.reduceEqDiff, Nat.reduceLT, f290]
  subst hK2
  refine env_gen ((33, gi i) :: (289, gi M.length) :: (290, gi i) :: vars N s1 (.slice aS M.length cS) tI iV nV bV all th need) ?_ fun r1 h' => ?_
  · simp only [Hs, gs, List.length_set, hl, reduceIte, Nat.reduceEqDiff, Nat.reduceLT, f291, f289, f290, f1, f5, f6, f7, f11, f15, f16, f19, f23, f27, and_self]
  clear f291 f289 f290 f1 f5 f6 f7 f11 f15 f16 f19 f23 f27 hl
  obtain ⟨f33, f289, f290, f1, f5, f6, f7, f11, f15, f16, f19, f23, f27, (hl : List.length r1 = 493)⟩ := h'
  refine sqk fun K2 hK2 => ?_
  rw [fin_regd]; rotate_left; · decide +kernel
  simp only [go_sem, gs, List.length_set, hl, reduceIte, Nat.reduceEqDiff, Nat.reduceLT, f33, f6, hwi, bs_nil ts24, e1, e2, e3, e4, eo_append (show notInt C.P 24 = true from rfl)]
  subst hK2
  refine env_gen ((34, v2) :: (33, gi i) :: (289, gi M.length) :: (290, gi i) :: vars N s1 (.slice aS M.length cS) tI iV nV bV all th need) ?_ fun r2 h' => ?_
  · simp only [Hs, gs, List.length_set, hl, reduceIte, Nat.reduceEqDiff, Nat.reduceLT, f33, f289, f290, f1, f5, f6, f7, f11, f15, f16, f19, f23, f27, and_self]
  clear f33 f289 f290 f1 f5 f6 f7 f11 f15 f16 f19 f23 f27 hl
  obtain ⟨f34, f33, f289, f290, f1, f5, f6, f7, f11, f15, f16, f19, f23, f27, (hl : List.length r2 = 493)⟩ := h'
  refine sqk fun K2 hK2 => ?_
  simp only [go_sem, gs, List.length_set, hl, reduceIte, Nat.reduceEqDiff, Nat.reduceLT, f5, f34, e5]
  subst hK2
  refine env_gen ((35, tL) :: (36, bo true) :: (33, gi i) :: (289, gi M.length) :: (290, gi i) :: vars N s1 (.slice aS M.length cS) tI iV nV bV all th need) ?_ fun r3 h' => ?_
  · simp only [Hs, gs, List.length_set, hl, reduceIte, Nat.reduceEqDiff, Nat.reduceLT, f34, f33, f289, f290, f1, f5, f6, f7, f11, f15, f16, f19, f23, f27, and_self]
  clear f34 f33 f289 f290 f1 f5 f6 f7 f11 f15 f16 f19 f23 f27 hl
  obtain ⟨f35, f36, f33, f289, f290, f1, f5, f6, f7, f11, f15, f16, f19, f23, f27, (hl : List.length r3 = 493)⟩ := h'
  refine sqk fun K2 hK2 => ?_
  simp only [go_sem, gs, List.length_set, hl, reduceIte, Nat.reduceEqDiff, Nat.reduceLT, f5, f6, f33, e1, e7]
  subst hK2
  refine env_gen ((37, tB) :: (38, bo true) :: (35, tL) :: (36, bo true) :: (33, gi i) :: (289, gi M.length) :: (290, gi i) :: vars N s1 (.slice aS M.length cS) tI iV nV bV all th need) ?_ fun r4 h' => ?_
  · simp only [Hs, gs, List.length_set, hl, reduceIte, Nat.reduceEqDiff, Nat.reduceLT, f35, f36, f33, f289, f290, f1, f5, f6, f7, f11, f15, f16, f19, f23, f27, and_self]
  clear f35 f36 f33 f289 f290 f1 f5 f6 f7 f11 f15 f16 f19 f23 f27 hl
  obtain ⟨f37, f38, f35, f36, f33, f289, f290, f1, f5, f6, f7, f11, f15, f16, f19, f23, f27, (hl : List.length r4 = 493)⟩ := h'
  refine sqk fun K2 hK2 => ?_
  simp only [go_sem, gs, List.length_set, hl, reduceIte, Nat.reduceEqDiff, Nat.reduceLT, f5, f6, f33, hwi, e8, e9]
  subst hK2
  refine env_gen ((39, tA) :: (40, bo true) :: (37, tB) :: (38, bo true) :: (35, tL) :: (36, bo true) :: (33, gi i) :: (289, gi M.length) :: (290, gi i) :: vars N s1 (.slice aS M.length cS) tI iV nV bV all th need) ?_ fun r5 h' => ?_
  · simp only [Hs, gs, List.length_set, hl, reduceIte, Nat.reduceEqDiff, Nat.reduceLT, f37, f38, f35, f36, f33, f289, f290, f1, f5, f6, f7, f11, f15, f16, f19, f23, f27, and_self]
  clear f37 f38 f35 f36 f33 f289 f290 f1 f5 f6 f7 f11 f15 f16 f19 f23 f27 hl
  obtain ⟨f39, f40, f37, f38, f35, f36, f33, f289, f290, f1, f5, f6, f7, f11, f15, f16, f19, f23, f27, (hl : List.length r5 = 493)⟩ := h'
  refine cdk ?_
  simp only [go_sem, gs, List.length_set, hl, reduceIte, Nat.reduceEqDiff, Nat.reduceLT, f7, f19, f23, f33, f35, f36, f37, f38, f39, f40, w1, w2, w3, w4, bne_self_eq_false, Bool.not_true]
  subst hK1
  refine env_gen ((289, gi M.length) :: (290, gi i) :: vars N s1 (.slice aS M.length cS) tI iV nV bV all th need) ?_ fun r6 h' => ?_
  · simp only [Hs, gs, List.length_set, hl, reduceIte, Nat.reduceEqDiff, Nat.reduceLT, f39, f40, f37, f38, f35, f36, f33, f289, f290, f1, f5, f6, f7, f11, f15, f16, f19, f23, f27, and_self]
  clear f39 f40 f37 f38 f35 f36 f33 f289 f290 f1 f5 f6 f7 f11 f15 f16 f19 f23 f27 hl
  obtain ⟨f289, f290, f1, f5, f6, f7, f11, f15, f16, f19, f23, f27, (hl : List.length r6 = 493)⟩ := h'
  refine cdk ?_
  simp only [go_sem, gs, List.length_set, hl, reduceIte, Nat.reduceEqDiff, Nat.reduceLT, f290, hwi]
  refine ih (j - 1) _ _ (by omega) ⟨i + 1, by omega, hk.trans (hkk5.mono hk.1), ?_⟩
  rw [hss]
  simp only [Hs, gs, List.length_set, hl, reduceIte, Nat.reduceEqDiff, Nat.reduceLT, f289, f290, f1, f5, f6, f7, f11, f15, f16, f19, f23, f27, and_self]
end T

