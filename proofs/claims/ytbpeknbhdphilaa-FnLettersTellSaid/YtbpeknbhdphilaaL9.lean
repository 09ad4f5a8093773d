/- The law: letters back. No conditions. -/
import Derived.Test.YtbpeknbhdphilaaL7
open Go Go.Am
namespace T
open Go.Proofs
set_option maxRecDepth 100000
set_option maxHeartbeats 4000000
set_option linter.unusedSimpArgs false
set_option linter.unusedVariables false
variable {base : Nat} {H : Heap}
theorem turn_ok {ρ : Env} {bb m0 N : Nat} {M : List (Nat × Nat)} {pI pN : Nat → Bool} {s1 s tI iV nV bV : Value} {all th : Bool} {need : Int} {k : List It} {Q : Value → Heap → Prop}
    (hv : Hs (vars N s1 s tI iV nV bV all th need) ρ) (hx : Fx H N M pI pN s1 s tI iV nV bV) (hg : Gx N M)
    (next : ∀ ρ H' tT, Keeps H.length H H' → Hs ((41, tT) :: vars N s1 s tI iV nV bV all th need) ρ → RowsS H' tT ((play N (backN M)).map bitsOf) → Ok (run1 C (cal C) 1001 bb 3 m0 [.tmp 4] (fin C (cal C) 1001 bb (.code (sndN 6 okA) :: k) (some (.normal, ρ, H')))) Q) :
    Ok (run1 C (cal C) 1001 bb 3 m0 [.tmp 4] (fin C (cal C) 1001 bb (.code (sndN 3 okA) :: k) (some (.normal, ρ, H)))) Q := by
  obtain ⟨f1, f5, f6, f7, f11, f15, f16, f19, f23, f27, (hl : List.length ρ = 493)⟩ := hv
  have hN := hg.n10
  have hM := hg.len
  have gb := hg.good.back
  have lb := backN_len M
  have ha := areL_of hg.n0 hN (by omega : (backN M).length ≤ 60) gb
  obtain ⟨v, H1, e6, k1, tT, rfl, r1⟩ := knownI_c (base := bb) (n := N) hx.bk (by omega) hN gb.inN ha
  have hx1 := hx.keep k1
  have hz := toZ_len (backN M)
  have e16 := backI_c (base := bb) (n := N) hx1.bk (by omega)
  rw [ha, if_pos rfl, toZ_back, back_back] at e16
  have hL : (backL (toZ M)).length = M.length := by rw [backL_len, toZ_len]
  rw [hL] at e16
  have sn : SL (H1 ++ [some (66, lc (toZ M))]) (.slice (some ⟨H1.length, 0, some 2⟩) M.length M.length) (toZ M) := by
    unfold SL; rw [toZ_len]; exact new_shows (by rw [lc_len, toZ_len])
  have e20 := wLetters_c (base := bb) sn (hx1.sl.add [some (66, lc (toZ M))]) (by rw [toZ_len]; omega) true (by simp)
  have hk : Keeps H.length H (H1 ++ [some (66, lc (toZ M))]) := k1.trans (.append k1.1 _)
  -- region 37
  refine sqk fun K hK => ?_
  simp only [go_sem, gs, List.length_set, hl, f5, f27, e6, reduceIte, Nat.reduceEqDiff, Nat.reduceLT]
  subst hK
  refine env_gen ((41, tT) :: (42, bo true) :: vars N s1 s tI iV nV bV all th need) ?_ fun ρ1 h1 => ?_
  · simp only [Hs, gs, List.length_set, hl, f1, f5, f6, f7, f11, f15, f16, f19, f23, f27, reduceIte, Nat.reduceEqDiff, Nat.reduceLT, and_self]
  clear f1 f5 f6 f7 f11 f15 f16 f19 f23 f27 hl e6
  obtain ⟨f41, f42, f1, f5, f6, f7, f11, f15, f16, f19, f23, f27, (hl : List.length ρ1 = 493)⟩ := h1
  -- region 38
  refine sqk fun K hK => ?_
  simp only [go_sem, gs, List.length_set, hl, f5, f27, e16, reduceIte, Nat.reduceEqDiff, Nat.reduceLT]
  subst hK
  refine env_gen ((43, .slice (some ⟨H1.length, 0, some 2⟩) M.length M.length) :: (44, bo true) :: (41, tT) :: (42, bo true) :: vars N s1 s tI iV nV bV all th need) ?_ fun ρ2 h2 => ?_
  · simp only [Hs, gs, List.length_set, hl, f41, f42, f1, f5, f6, f7, f11, f15, f16, f19, f23, f27, reduceIte, Nat.reduceEqDiff, Nat.reduceLT, and_self]
  clear f41 f42 f1 f5 f6 f7 f11 f15 f16 f19 f23 f27 hl e16
  obtain ⟨f43, f44, f41, f42, f1, f5, f6, f7, f11, f15, f16, f19, f23, f27, (hl : List.length ρ2 = 493)⟩ := h2
  -- region 39
  refine sqk fun K hK => ?_
  simp only [go_sem, gs, List.length_set, hl, f41, f42, f43, f44, f6, e20, Bool.not_true, reduceIte, Nat.reduceEqDiff, Nat.reduceLT]
  subst hK
  refine env_gen ((41, tT) :: vars N s1 s tI iV nV bV all th need) ?_ fun ρ3 h3 => next ρ3 _ tT hk h3 (r1.keep (.append (Nat.le_refl _) _)).shows
  simp only [Hs, gs, List.length_set, hl, f41, f42, f1, f5, f6, f7, f11, f15, f16, f19, f23, f27, reduceIte, Nat.reduceEqDiff, Nat.reduceLT, and_self]
theorem grid_ok {ρ : Env} {bb m0 N : Nat} {M : List (Nat × Nat)} {pI pN : Nat → Bool} {s1 s tI iV nV bV tT : Value} {all th : Bool} {need : Int} {k : List It} {Q : Value → Heap → Prop}
    (hv : Hs ((41, tT) :: vars N s1 s tI iV nV bV all th need) ρ) (hx : Fx H N M pI pN s1 s tI iV nV bV) (hT : RowsS H tT ((play N (backN M)).map bitsOf)) (hg : Gx N M)
    (next : ∀ ρ, Hs (vars N s1 s tI iV nV bV all th need) ρ → Ok (run1 C (cal C) 1001 bb 3 m0 [.tmp 4] (fin C (cal C) 1001 bb k (some (.normal, ρ, H)))) Q) :
    Ok (run1 C (cal C) 1001 bb 3 m0 [.tmp 4] (fin C (cal C) 1001 bb (.code (sndN 6 okA) :: k) (some (.normal, ρ, H)))) Q := by
  obtain ⟨f41, f1, f5, f6, f7, f11, f15, f16, f19, f23, f27, (hl : List.length ρ = 493)⟩ := hv
  have hN := hg.n10
  have hpl := play_len N M
  have hpt := play_len N (backN M)
  obtain ⟨aI, cI, htI⟩ := hx.kn.choose_spec.1.sl
  rw [List.length_map, hpl] at htI
  refine sqk fun K hK => ?_
  rw [htI] at f7
  simp only [go_sem, gs, List.length_set, hl, f7, reduceIte, Nat.reduceEqDiff, Nat.reduceLT]
  subst hK
  refine env_gen ((380, gi N) :: (381, gi (0 : Nat)) :: (41, tT) :: vars N s1 s tI iV nV bV all th need) ?_ fun ρ' h' => ?_
  · rw [htI]
    simp only [Hs, gs, List.length_set, hl, f41, f1, f5, f6, f7, f11, f15, f16, f19, f23, f27, reduceIte, Nat.reduceEqDiff, Nat.reduceLT, and_self, and_true, true_and]
    all_goals rfl
  clear f41 f1 f5 f6 f7 f11 f15 f16 f19 f23 f27 hl ρ
  refine cdk ?_
  simp only [fin_block]
  rw [fin_loopk [382, 383, 45, 384, 385, 386, 387, 388, 46, 389, 390, 391, 392, 393, 394, 395, 396, 397, 398, 399, 400, 401, 4, 402, 403] rfl]
  refine lp_env (fun j ρ H' => ∃ i : Nat, i + j = N ∧ H' = H ∧ Hs ((380, gi N) :: (381, gi i) :: (41, tT) :: vars N s1 s tI iV nV bV all th need) ρ) ?_ N (by omega) ⟨0, by omega, rfl, h'⟩
  rintro j m ρ H' ⟨i, hij, rfl, hh⟩ ih
  have hh := hh.wipe (ks := [382, 383, 45, 384, 385, 386, 387, 388, 46, 389, 390, 391, 392, 393, 394, 395, 396, 397, 398, 399, 400, 401, 4, 402, 403]) rfl
  generalize wipe [382, 383, 45, 384, 385, 386, 387, 388, 46, 389, 390, 391, 392, 393, 394, 395, 396, 397, 398, 399, 400, 401, 4, 402, 403] ρ = ρ1 at hh
  obtain ⟨f380, f381, f41, f1, f5, f6, f7, f11, f15, f16, f19, f23, f27, (hl : List.length ρ1 = 493)⟩ := hh
  cases hlt : decide ((i : Int) < (N : Int))
  · simp only [go_sem, gs, List.length_set, hl, f380, f381, hlt, reduceIte, Nat.reduceEqDiff, Nat.reduceLT]
    refine env_gen (vars N s1 s tI iV nV bV all th need) ?_ fun ρ h => next ρ h
    simp only [Hs, gs, List.length_set, hl, f1, f5, f6, f7, f11, f15, f16, f19, f23, f27, reduceIte, Nat.reduceEqDiff, Nat.reduceLT, and_self]
  have hi : i < N := by have := of_decide_eq_true hlt; omega
  have hip : i < (play N M).length := by rw [hpl]; exact hi
  have hwi : IntKind.i64.wrap ((i : Int) + 1) = ((i + 1 : Nat) : Int) := wrapN (by omega)
  rw [htI] at f7
  simp only [go_sem, gs, List.length_set, hl, f380, f381, f7, hlt, reduceIte, Nat.reduceEqDiff, Nat.reduceLT]
  rw [fin_loopk [387, 388, 46, 389, 390, 391, 392, 393, 394, 395, 396, 397, 398, 399, 400, 401, 4, 402] rfl]
  refine lp_env (fun j ρ H2 => ∃ i2 : Nat, i2 + j = N ∧ H2 = H' ∧ Hs ((385, gi N) :: (386, gi i2) :: (45, gi i) :: (380, gi N) :: (381, gi i) :: (41, tT) :: vars N s1 s tI iV nV bV all th need) ρ) ?_ N (by omega) ⟨0, by omega, rfl, ?_⟩
  rotate_left
  · rw [htI]
    simp only [Hs, gs, List.length_set, hl, f380, f381, f41, f1, f5, f6, f7, f11, f15, f16, f19, f23, f27, reduceIte, Nat.reduceEqDiff, Nat.reduceLT, and_self, and_true, true_and]
    all_goals rfl
  rintro j2 m2 ρ2 H2 ⟨i2, hij2, rfl, hh⟩ ih2
  have hh := hh.wipe (ks := [387, 388, 46, 389, 390, 391, 392, 393, 394, 395, 396, 397, 398, 399, 400, 401, 4, 402]) rfl
  generalize wipe [387, 388, 46, 389, 390, 391, 392, 393, 394, 395, 396, 397, 398, 399, 400, 401, 4, 402] ρ2 = ρ3 at hh
  clear f380 f381 f41 f1 f5 f6 f7 f11 f15 f16 f19 f23 f27 hl
  obtain ⟨f385, f386, f45, f380, f381, f41, f1, f5, f6, f7, f11, f15, f16, f19, f23, f27, (hl : List.length ρ3 = 493)⟩ := hh
  cases hlt2 : decide ((i2 : Int) < (N : Int))
  · simp only [go_sem, gs, List.length_set, hl, f385, f386, f381, hlt2, hwi, reduceIte, Nat.reduceEqDiff, Nat.reduceLT]
    refine ih (j - 1) _ _ (by omega) ⟨i + 1, by omega, rfl, ?_⟩
    simp only [Hs, gs, List.length_set, hl, f380, f381, f41, f1, f5, f6, f7, f11, f15, f16, f19, f23, f27, reduceIte, Nat.reduceEqDiff, Nat.reduceLT, and_self]
  have hi2 : i2 < N := by have := of_decide_eq_true hlt2; omega
  have hip2 : i2 < (play N (backN M)).length := by rw [hpt]; exact hi2
  obtain ⟨b, o, T0, cs, v, k1, k2, k3, k4⟩ := hx.kn.el (i := i) (by rw [List.length_map]; exact hip)
  obtain ⟨b', o', T0', cs', v', k1', k2', k3', k4'⟩ := hT.el (i := i2) (by rw [List.length_map]; exact hip2)
  have er : ((play N M).map bitsOf)[i]'(by rw [List.length_map]; exact hip) = bitsOf (play N M)[i] := by simp
  have er' : ((play N (backN M)).map bitsOf)[i2]'(by rw [List.length_map]; exact hip2) = bitsOf (play N (backN M))[i2] := by simp
  rw [er] at k4
  rw [er'] at k4'
  have hrl := rowLen (x := (play N M)[i])
  have hrl' := rowLen (x := (play N (backN M))[i2])
  have w1 := wHas_c (base := bb) (n := i2) k4 (by omega) _ rfl
  have w2 := wHas_c (base := bb) (n := i) k4' (by omega) (decide (i2 ∈ bitsOf (play N M)[i])) (by rw [Bool.eq_iff_iff, decide_eq_true_eq, decide_eq_true_eq]; exact turned hN hg.good.inN hip hip2)
  have hwi2 : IntKind.i64.wrap ((i2 : Int) + 1) = ((i2 + 1 : Nat) : Int) := wrapN (by omega)
  rw [htI] at k1
  rw [htI] at f7
  generalize decide (i2 ∈ bitsOf (play N M)[i]) = q at w1 w2
  simp only [go_sem, gs, List.length_set, hl, f385, f386, hlt2, reduceIte, Nat.reduceEqDiff, Nat.reduceLT]
  rw [fin_regd]; rotate_left; · decide +kernel
  simp only [go_sem, gs, List.length_set, hl, f385, f386, f45, f41, f7, k1, k2, k3, k1', k2', k3', w1, w2, hwi2, bne_self_eq_false, reduceIte, Nat.reduceEqDiff, Nat.reduceLT]
  refine ih2 (j2 - 1) _ _ (by omega) ⟨i2 + 1, by omega, rfl, ?_⟩
  rw [htI]
  simp only [Hs, gs, List.length_set, hl, f385, f386, f45, f380, f381, f41, f1, f5, f6, f7, f11, f15, f16, f19, f23, f27, reduceIte, Nat.reduceEqDiff, Nat.reduceLT, and_self]
end T

