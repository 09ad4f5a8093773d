/- The law: each call. No conditions. -/
import Derived.Test.YtjoapoebeknddaaW0
import Derived.Test.YtjoapoebeknddaaW2
set_option linter.unusedSimpArgs false
set_option linter.unusedVariables false
open Go Go.Am
namespace T
open Go.Proofs
set_option maxRecDepth 100000
set_option maxHeartbeats 4000000
set_option linter.unusedSimpArgs false
set_option linter.unusedVariables false
variable {base : Nat} {H : Heap}
theorem two_ok {ρ : Env} {bb m0 : Nat} {k : List It} {Q : Value → Heap → Prop} {N : Nat} {M : List (Nat × Nat)} {pI : Nat → Bool} {pN : Nat → Bool} {s1 : Value} {s : Value} {tI : Value} {iV : Value} {nV : Value} {bV : Value} {all : Bool} {cnt : Nat} {nd' : Nat}
    (hv : Hs 572 [(1, s1), (5, gi N), (6, s), (7, tI), (11, bo all), (15, gi cnt), (19, gi nd'), (20, bo all), (23, iV), (27, nV), (39, gi cnt), (40, gi N)] ρ) (hx : Fx H N M pI pN s1 s tI iV nV bV) (hg : Gx N M) (hcnt : cnt = popSum (playC N M)) (hbb : bb ≤ H.length) (hpI : ∀ k, pI k = (lrn N M k == 0)) (hpN : ∀ k, pN k = (playC N (less M k) == playC N M))
    (next : ∀ ρ H', Keeps H.length H H' → Hs 572 [(1, s1), (5, gi N), (6, s), (11, bo all), (15, gi cnt), (19, gi nd'), (20, bo all), (39, gi cnt), (40, gi cnt)] ρ → Ok (run1 C (cal C) 1001 bb 3 m0 [.tmp 4] (fin C (cal C) 1001 bb (k) (some (.normal, ρ, H')))) Q) :
    Ok (run1 C (cal C) 1001 bb 3 m0 [.tmp 4] (fin C (cal C) 1001 bb (.code (nodeC [1, 1, 1, 1, 1, 1, 1, 1, 1, 1, 1, 1, 1, 1, 1, 1, 1, 1, 0, 1, 0, 1, 1, 1, 1, 1, 0] bodyF) :: k) (some (.normal, ρ, H)))) Q := by
  have hN := hg.n10
  have hr := hg.good.inN
  have hM := hg.len
  have hpl := playC_len hN M
  have hZ := toZ_len M
  obtain ⟨aS, cS, rfl⟩ : ∃ a c, s = .slice a M.length c := by
    obtain ⟨a, c, e⟩ := hx.sl.sl
    rw [hZ] at e
    exact ⟨a, c, e⟩
  obtain ⟨f1, f5, f6, f7, f11, f15, f19, f20, f23, f27, f39, f40, (hl : List.length ρ = 572)⟩ := hv
  refine cdk ?_
  refine sq2 fun K1 hK1 => ?_
  -- region 34
  simp only [go_sem, gs, List.length_set, hl, reduceIte, Nat.reduceEqDiff, Nat.reduceLT, f6]
  refine env_gen (N := 572) [(1, s1), (5, gi N), (6, .slice aS M.length cS), (7, tI), (11, bo all), (15, gi cnt), (19, gi nd'), (20, bo all), (23, iV), (27, nV), (39, gi cnt), (40, gi N), (367, gi M.length), (368, gi 0)] ?_ fun r1 h' => ?_
  · simp only [Hs, gs, List.length_set, hl, reduceIte, Nat.reduceEqDiff, Nat.reduceLT, f1, f5, f6, f7, f11, f15, f19, f20, f23, f27, f39, f40, and_self, and_true, true_and]
    all_goals (and_intros <;> rfl)
  clear f1 f5 f6 f7 f11 f15 f19 f20 f23 f27 f39 f40 hl
  obtain ⟨f1, f5, f6, f7, f11, f15, f19, f20, f23, f27, f39, f40, f367, f368, (hl : List.length r1 = 572)⟩ := h'
  subst hK1
  refine cdk ?_
  have hN0 := lk_0 hN M
  have e40 : gi (N : Int) = gi ((lk N M 0 : Nat) : Int) := by rw [hN0]
  rw [e40] at f40
  rw [fin_block]
  rw [fin_loopk [369, 370, 45, 372, 373, 374, 375, 371, 376, 377, 46, 47, 378, 379, 380, 383, 384, 391, 392, 401, 4, 402, 403, 404, 405, 406, 407, 408, 409, 410, 411, 412, 413, 414, 48, 416, 417, 418, 415, 419, 420, 49, 50, 421, 422, 423, 431, 432] rfl]
  refine lp_env (fun j ρ H' => ∃ i : Nat, i + j = M.length ∧ Keeps H.length H H' ∧ Hs 572 [(1, s1), (5, gi N), (6, .slice aS M.length cS), (7, tI), (11, bo all), (15, gi cnt), (19, gi nd'), (20, bo all), (23, iV), (27, nV), (39, gi cnt), (40, gi (lk N M i)), (367, gi M.length), (368, gi i)] ρ) ?_ M.length (by omega) ⟨0, by omega, Keeps.refl _ _, ?_⟩
  rotate_left
  · simp only [Hs, gs, List.length_set, hl, reduceIte, Nat.reduceEqDiff, Nat.reduceLT, f1, f5, f6, f7, f11, f15, f19, f20, f23, f27, f39, f40, f367, f368, and_self, and_true, true_and]
    all_goals (and_intros <;> rfl)
  rintro j m ρ1 H' ⟨i, hij, hk, hh⟩ ih
  have hh := hh.wipe (ks := [369, 370, 45, 372, 373, 374, 375, 371, 376, 377, 46, 47, 378, 379, 380, 383, 384, 391, 392, 401, 4, 402, 403, 404, 405, 406, 407, 408, 409, 410, 411, 412, 413, 414, 48, 416, 417, 418, 415, 419, 420, 49, 50, 421, 422, 423, 431, 432]) rfl
  generalize wipe [369, 370, 45, 372, 373, 374, 375, 371, 376, 377, 46, 47, 378, 379, 380, 383, 384, 391, 392, 401, 4, 402, 403, 404, 405, 406, 407, 408, 409, 410, 411, 412, 413, 414, 48, 416, 417, 418, 415, 419, 420, 49, 50, 421, 422, 423, 431, 432] ρ1 = r2 at hh
  clear f1 f5 f6 f7 f11 f15 f19 f20 f23 f27 f39 f40 f367 f368 hl
  obtain ⟨f1, f5, f6, f7, f11, f15, f19, f20, f23, f27, f39, f40, f367, f368, (hl : List.length r2 = 572)⟩ := hh
  cases hlt : decide ((i : Int) < (M.length : Int))
  · have hie : M.length = i := by have := of_decide_eq_false hlt; omega
    simp only [go_sem, gs, List.length_set, hl, reduceIte, Nat.reduceEqDiff, Nat.reduceLT, f1, f5, f6, f7, f11, f15, f19, f20, f23, f27, f39, f40, f367, f368, hlt]
    subst hie
    have hlk : lk N M M.length = cnt := by rw [hcnt, lk, List.take_length]
    rw [hlk] at f40
    refine env_gen (N := 572) [(1, s1), (5, gi N), (6, .slice aS M.length cS), (11, bo all), (15, gi cnt), (19, gi nd'), (20, bo all), (39, gi cnt), (40, gi cnt)] ?_ fun r3 h' => ?_
    · simp only [Hs, gs, List.length_set, hl, reduceIte, Nat.reduceEqDiff, Nat.reduceLT, f1, f5, f6, f11, f15, f19, f20, f39, f40, and_self, and_true, true_and]
      all_goals (and_intros <;> rfl)
    clear f1 f5 f6 f7 f11 f15 f19 f20 f23 f27 f39 f40 f367 f368 hl
    obtain ⟨f1, f5, f6, f11, f15, f19, f20, f39, f40, (hl : List.length r3 = 572)⟩ := h'
    exact next _ _ hk ⟨f1, f5, f6, f11, f15, f19, f20, f39, f40, hl⟩
  have hi : i < M.length := by have := of_decide_eq_true hlt; omega
  have hwi : IntKind.i64.wrap ((i : Int) + 1) = ((i + 1 : Nat) : Int) := wrapN (by omega)
  have hiZ : i < (toZ M).length := by omega
  have hb' : bb ≤ H'.length := Nat.le_trans hbb hk.1
  have hx1 := hx.keep hk
  have ha := areC_of hg.n0 hN hM hg.good
  obtain ⟨e29, _⟩ := learn_c (base := bb) hN hx1.sl (by omega) hr ha hi
  have li := idxLen M.length pI
  have ln := idxLen M.length pN
  have e28i := wHas_c (base := bb) (n := i) hx1.id (by omega) (pI i) (by rw [Bool.eq_iff_iff, decide_eq_true_eq, mem_idx]; exact ⟨fun h => ⟨hi, h⟩, fun h => h.2⟩)
  have e28n := wHas_c (base := bb) (n := i) hx1.nl (by omega) (pN i) (by rw [Bool.eq_iff_iff, decide_eq_true_eq, mem_idx]; exact ⟨fun h => ⟨hi, h⟩, fun h => h.2⟩)
  obtain ⟨l0, lz⟩ := lrn_or hN hr hi
  have hneg : decide (lrn N M i < 0) = false := decide_eq_false (by omega)
  have hz : (lrn N M i == 0) = pI i := (hpI i).symm
  have hq : pI i = true → pN i = true := fun h => by
    rw [hpI, beq_iff_eq] at h
    rw [hpN, less_same (lz h), beq_self_eq_true]
  have hlk := lk_succ hN M i
  obtain ⟨u1, e1, h1⟩ := SL.to hx1.sl (k := i) (by omega)
  obtain ⟨u2, e2, h2⟩ := SL.from hx1.sl (k := i + 1) (by omega)
  have hn : OwnL H'.length (H' ++ [some (67, [])]) 67 2 (.slice (some ⟨H'.length, 0, some 2⟩) 0 0) 0 [] := .empty H' 67 2 (Nat.le_refl _)
  have hk0 : Keeps H'.length H' (H' ++ [some (67, [])]) := .append (Nat.le_refl _) _
  obtain ⟨v1, H1, e3, ho1, hk1⟩ := hn.apps (base := bb) (h1.keep hk0) ts24 hb' (by simp) (by rw [List.length_take]; unfold room; omega)
  have hk1' := hk0.trans hk1
  obtain ⟨v2, H2, e4, ho2, hk2⟩ := ho1.apps (base := bb) (h2.keep hk1') ts24 hb' hk1'.1 (by rw [List.length_take, List.length_drop]; unfold room; omega)
  have hk2' := hk1'.trans hk2
  rw [List.nil_append, Nat.zero_add, ← lc_app, ← List.eraseIdx_eq_take_drop_succ, ← List.length_append, ← List.eraseIdx_eq_take_drop_succ, toZ_less] at ho2
  have gl : Good N (less M i) := hg.good.less i
  have ll := less_len M i
  have hzl := toZ_len (less M i)
  obtain ⟨v, H3, e6, k3, tL, rfl, r3⟩ := knownAfter_c (base := bb) (n := N) ho2.shows (by omega) hN gl.inN (areC_of hg.n0 hN (by omega) gl)
  have hkk3 := hk2'.trans (k3.mono hk2'.1)
  have hx3 := hx1.keep hkk3
  have p1 := playC_len hN (less M i)
  have e28n' := wHas_c (base := bb) (n := i) hx3.nl (by omega) (pN i) (by rw [Bool.eq_iff_iff, decide_eq_true_eq, mem_idx]; exact ⟨fun h => ⟨hi, h⟩, fun h => h.2⟩)
  have e20 := wRows_c (base := bb) r3.shows hx3.kn (by rw [List.length_map]; omega) (rowsLen _) (pN i) (by rw [map_bits (plC16 hN) (plC16 hN)]; exact hpN i)
  have hkF := hk.trans (hkk3.mono hk.1)
  refine cdk ?_
  refine sq2 fun K2 hK2 => ?_
  -- region 35
  simp only [go_sem, gs, List.length_set, hl, reduceIte, Nat.reduceEqDiff, Nat.reduceLT, f368, f367, hlt]
  refine env_gen (N := 572) [(1, s1), (5, gi N), (6, .slice aS M.length cS), (7, tI), (11, bo all), (15, gi cnt), (19, gi nd'), (20, bo all), (23, iV), (27, nV), (39, gi cnt), (40, gi (lk N M i)), (367, gi M.length), (368, gi i), (369, bo true)] ?_ fun r4 h' => ?_
  · simp only [Hs, gs, List.length_set, hl, reduceIte, Nat.reduceEqDiff, Nat.reduceLT, f1, f5, f6, f7, f11, f15, f19, f20, f23, f27, f39, f40, f367, f368, and_self, and_true, true_and]
    all_goals (and_intros <;> rfl)
  clear f1 f5 f6 f7 f11 f15 f19 f20 f23 f27 f39 f40 f367 f368 hl
  obtain ⟨f1, f5, f6, f7, f11, f15, f19, f20, f23, f27, f39, f40, f367, f368, f369, (hl : List.length r4 = 572)⟩ := h'
  subst hK2
  refine cdk ?_
  refine sq2 fun K3 hK3 => ?_
  rw [cd_t f369]
  rw [fin_skip]
  subst hK3
  refine cdk ?_
  refine sq2 fun K4 hK4 => ?_
  rw [fin_block]
  refine sq2 fun K5 hK5 => ?_
  -- region 36
  simp only [go_sem, gs, List.length_set, hl, reduceIte, Nat.reduceEqDiff, Nat.reduceLT, f368]
  refine env_gen (N := 572) [(1, s1), (5, gi N), (6, .slice aS M.length cS), (7, tI), (11, bo all), (15, gi cnt), (19, gi nd'), (20, bo all), (23, iV), (27, nV), (39, gi cnt), (40, gi (lk N M i)), (367, gi M.length), (368, gi i), (45, gi i)] ?_ fun r5 h' => ?_
  · simp only [Hs, gs, List.length_set, hl, reduceIte, Nat.reduceEqDiff, Nat.reduceLT, f1, f5, f6, f7, f11, f15, f19, f20, f23, f27, f39, f40, f367, f368, and_self, and_true, true_and]
    all_goals (and_intros <;> rfl)
  clear f1 f5 f6 f7 f11 f15 f19 f20 f23 f27 f39 f40 f367 f368 f369 hl
  obtain ⟨f1, f5, f6, f7, f11, f15, f19, f20, f23, f27, f39, f40, f367, f368, f45, (hl : List.length r5 = 572)⟩ := h'
  subst hK5
  refine cdk ?_
  refine sq2 fun K6 hK6 => ?_
  -- region 37
  simp only [go_sem, gs, List.length_set, hl, reduceIte, Nat.reduceEqDiff, Nat.reduceLT, f5, f6, f45, e29]
  refine env_gen (N := 572) [(1, s1), (5, gi N), (6, .slice aS M.length cS), (7, tI), (11, bo all), (15, gi cnt), (19, gi nd'), (20, bo all), (23, iV), (27, nV), (39, gi cnt), (40, gi (lk N M i)), (367, gi M.length), (368, gi i), (45, gi i), (46, gi (lrn N M i)), (47, bo true)] ?_ fun r6 h' => ?_
  · simp only [Hs, gs, List.length_set, hl, reduceIte, Nat.reduceEqDiff, Nat.reduceLT, f1, f5, f6, f7, f11, f15, f19, f20, f23, f27, f39, f40, f367, f368, f45, and_self, and_true, true_and]
    all_goals (and_intros <;> rfl)
  clear f1 f5 f6 f7 f11 f15 f19 f20 f23 f27 f39 f40 f367 f368 f45 hl
  obtain ⟨f1, f5, f6, f7, f11, f15, f19, f20, f23, f27, f39, f40, f367, f368, f45, f46, f47, (hl : List.length r6 = 572)⟩ := h'
  subst hK6
  refine cdk ?_
  refine sq2 fun K7 hK7 => ?_
  refine uncd ?_
  refine r38_ok (s := .slice aS M.length cS) (nd' := nd') (iV := iV) (nV := nV) ⟨f1, f5, f6, f7, f11, f15, f19, f20, f23, f27, f39, f40, f45, f46, f47, f367, f368, hl⟩ hneg hz hq e28i e28n fun r7 h' => ?_
  clear f1 f5 f6 f7 f11 f15 f19 f20 f23 f27 f39 f40 f367 f368 f45 f46 f47 hl
  obtain ⟨f1, f5, f6, f7, f11, f15, f19, f20, f23, f27, f39, f40, f45, f46, f367, f368, (hl : List.length r7 = 572)⟩ := h'
  subst hK7
  refine cdk ?_
  refine sq2 fun K8 hK8 => ?_
  -- region 40
  simp only [go_sem, gs, List.length_set, hl, reduceIte, Nat.reduceEqDiff, Nat.reduceLT, f40, f46, hlk]
  refine env_gen (N := 572) [(1, s1), (5, gi N), (6, .slice aS M.length cS), (7, tI), (11, bo all), (15, gi cnt), (19, gi nd'), (20, bo all), (23, iV), (27, nV), (39, gi cnt), (40, gi (lk N M (i + 1) : Nat)), (45, gi i), (367, gi M.length), (368, gi i)] ?_ fun r8 h' => ?_
  · simp only [Hs, gs, List.length_set, hl, reduceIte, Nat.reduceEqDiff, Nat.reduceLT, f1, f5, f6, f7, f11, f15, f19, f20, f23, f27, f39, f40, f45, f46, f367, f368, and_self, and_true, true_and]
    all_goals (and_intros <;> rfl)
  clear f1 f5 f6 f7 f11 f15 f19 f20 f23 f27 f39 f40 f45 f46 f367 f368 hl
  obtain ⟨f1, f5, f6, f7, f11, f15, f19, f20, f23, f27, f39, f40, f45, f367, f368, (hl : List.length r8 = 572)⟩ := h'
  subst hK8
  refine cdk ?_
  refine sq2 fun K9 hK9 => ?_
  -- region 41
  rw [fin_regd]; rotate_left; · decide +kernel
  simp only [go_sem, gs, List.length_set, hl, reduceIte, Nat.reduceEqDiff, Nat.reduceLT, f6, f45, hwi, bs_nil ts24, e1, e2, e3, e4, eo_append (show notInt C.P 24 = true from rfl)]
  refine env_gen (N := 572) [(1, s1), (5, gi N), (6, .slice aS M.length cS), (7, tI), (11, bo all), (15, gi cnt), (19, gi nd'), (20, bo all), (23, iV), (27, nV), (39, gi cnt), (40, gi (lk N M (i + 1) : Nat)), (45, gi i), (367, gi M.length), (368, gi i), (48, v2)] ?_ fun r9 h' => ?_
  · simp only [Hs, gs, List.length_set, hl, reduceIte, Nat.reduceEqDiff, Nat.reduceLT, f1, f5, f6, f7, f11, f15, f19, f20, f23, f27, f39, f40, f45, f367, f368, and_self, and_true, true_and]
    all_goals (and_intros <;> rfl)
  clear f1 f5 f6 f7 f11 f15 f19 f20 f23 f27 f39 f40 f45 f367 f368 hl
  obtain ⟨f1, f5, f6, f7, f11, f15, f19, f20, f23, f27, f39, f40, f45, f367, f368, f48, (hl : List.length r9 = 572)⟩ := h'
  subst hK9
  refine cdk ?_
  refine sq2 fun K10 hK10 => ?_
  -- region 42
  simp only [go_sem, gs, List.length_set, hl, reduceIte, Nat.reduceEqDiff, Nat.reduceLT, f5, f48, e6]
  refine env_gen (N := 572) [(1, s1), (5, gi N), (6, .slice aS M.length cS), (7, tI), (11, bo all), (15, gi cnt), (19, gi nd'), (20, bo all), (23, iV), (27, nV), (39, gi cnt), (40, gi (lk N M (i + 1) : Nat)), (45, gi i), (367, gi M.length), (368, gi i), (49, tL), (50, bo true)] ?_ fun r10 h' => ?_
  · simp only [Hs, gs, List.length_set, hl, reduceIte, Nat.reduceEqDiff, Nat.reduceLT, f1, f5, f6, f7, f11, f15, f19, f20, f23, f27, f39, f40, f45, f367, f368, f48, and_self, and_true, true_and]
    all_goals (and_intros <;> rfl)
  clear f1 f5 f6 f7 f11 f15 f19 f20 f23 f27 f39 f40 f45 f367 f368 f48 hl
  obtain ⟨f1, f5, f6, f7, f11, f15, f19, f20, f23, f27, f39, f40, f45, f367, f368, f49, f50, (hl : List.length r10 = 572)⟩ := h'
  subst hK10
  refine cdk ?_
  refine sq2 fun K11 hK11 => ?_
  -- region 43
  simp only [go_sem, gs, List.length_set, hl, reduceIte, Nat.reduceEqDiff, Nat.reduceLT, f50, f27, f45, f49, f7, e28n', e20, bne_self_eq_false, Bool.not_true]
  refine env_gen (N := 572) [(1, s1), (5, gi N), (6, .slice aS M.length cS), (7, tI), (11, bo all), (15, gi cnt), (19, gi nd'), (20, bo all), (23, iV), (27, nV), (39, gi cnt), (40, gi (lk N M (i + 1) : Nat)), (367, gi M.length), (368, gi i), (431, bo false)] ?_ fun r11 h' => ?_
  · simp only [Hs, gs, List.length_set, hl, reduceIte, Nat.reduceEqDiff, Nat.reduceLT, f1, f5, f6, f7, f11, f15, f19, f20, f23, f27, f39, f40, f45, f367, f368, f49, f50, and_self, and_true, true_and]
    all_goals (and_intros <;> rfl)
  clear f1 f5 f6 f7 f11 f15 f19 f20 f23 f27 f39 f40 f45 f367 f368 f49 f50 hl
  obtain ⟨f1, f5, f6, f7, f11, f15, f19, f20, f23, f27, f39, f40, f367, f368, f431, (hl : List.length r11 = 572)⟩ := h'
  subst hK11
  refine cdk ?_
  rw [cd_f f431]
  rw [fin_skip]
  try rw [fin_blk_normal]
  subst hK4
  refine cdk ?_
  -- region 45
  simp only [go_sem, gs, List.length_set, hl, reduceIte, Nat.reduceEqDiff, Nat.reduceLT, f368, hwi]
  refine env_gen (N := 572) [(1, s1), (5, gi N), (6, .slice aS M.length cS), (7, tI), (11, bo all), (15, gi cnt), (19, gi nd'), (20, bo all), (23, iV), (27, nV), (39, gi cnt), (40, gi (lk N M (i + 1) : Nat)), (367, gi M.length), (368, gi (i + 1 : Nat))] ?_ fun r12 h' => ?_
  · simp only [Hs, gs, List.length_set, hl, reduceIte, Nat.reduceEqDiff, Nat.reduceLT, f1, f5, f6, f7, f11, f15, f19, f20, f23, f27, f39, f40, f367, f368, and_self, and_true, true_and]
    all_goals (and_intros <;> rfl)
  clear f1 f5 f6 f7 f11 f15 f19 f20 f23 f27 f39 f40 f367 f368 f431 hl
  obtain ⟨f1, f5, f6, f7, f11, f15, f19, f20, f23, f27, f39, f40, f367, f368, (hl : List.length r12 = 572)⟩ := h'
  refine ih (j - 1) _ _ (by omega) ⟨i + 1, by omega, hkF, ?_⟩
  exact ⟨f1, f5, f6, f7, f11, f15, f19, f20, f23, f27, f39, f40, f367, f368, hl⟩
end T

