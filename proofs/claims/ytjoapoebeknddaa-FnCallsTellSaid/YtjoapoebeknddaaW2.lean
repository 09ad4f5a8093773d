/- The law: each friend's list, some tests. No conditions. -/
import Derived.Test.YtjoapoebeknddaaW0
set_option linter.unusedSimpArgs false
set_option linter.unusedVariables false

open Go Go.Am
namespace T
open Go.Proofs
set_option maxRecDepth 100000
set_option maxHeartbeats 4000000
set_option linter.unusedSimpArgs false
set_option linter.unusedVariables false
variable {base : Nat} {H : Heap}
/-- What stands in the memory where the calls are good. -/
structure Fx (H : Heap) (N : Nat) (M : List (Nat × Nat)) (pI pN : Nat → Bool) (s1 s tI iV nV bV : Value) : Prop where
  by1 : Bytes H s1
  sl : SL H s (toZ M)
  kn : RowsS H tI ((playC N M).map bitsOf)
  id : SI H iV (idx M.length pI)
  nl : SI H nV (idx M.length pN)
  bk : SL H bV (toZ M.reverse)
theorem Fx.keep {H' : Heap} {N : Nat} {M : List (Nat × Nat)} {pI pN : Nat → Bool} {s1 s tI iV nV bV : Value} (h : Fx H N M pI pN s1 s tI iV nV bV) (hk : Keeps H.length H H') : Fx H' N M pI pN s1 s tI iV nV bV :=
  ⟨h.by1.keep hk, h.sl.keep hk, h.kn.keep hk, h.id.keep hk, h.nl.keep hk, h.bk.keep hk⟩
/-- The calls are good. -/
structure Gx (N : Nat) (M : List (Nat × Nat)) : Prop where
  n0 : 0 < N
  n10 : N ≤ 10
  len : M.length ≤ 60
  good : Good N M
theorem rowLen {x : Nat} : (bitsOf x).length ≤ 16 := by
  have := List.length_filter_le x.testBit (List.range 16)
  simpa [bitsOf, bitsTo] using this
theorem rowsLen (B : List Nat) : ∀ r ∈ B.map bitsOf, r.length < 1000 := fun r hr => by
  obtain ⟨x, _, rfl⟩ := List.mem_map.1 hr
  have := rowLen (x := x); omega
theorem idxLen (N : Nat) (p : Nat → Bool) : (idx N p).length ≤ N := idx_len N p
theorem mem_idx' {N k : Nat} {p : Nat → Bool} : k ∈ idx N p ↔ k < N ∧ p k = true := mem_idx
theorem one_ok {ρ : Env} {bb m0 : Nat} {k : List It} {Q : Value → Heap → Prop} {N : Nat} {M : List (Nat × Nat)} {pI : Nat → Bool} {pN : Nat → Bool} {s1 : Value} {s : Value} {tI : Value} {iV : Value} {nV : Value} {bV : Value} {tO : Value} {all : Bool} {cnt : Nat} {nd' : Nat}
    (hv : Hs 572 [(1, s1), (5, gi N), (6, s), (7, tI), (11, bo all), (15, gi cnt), (19, gi nd'), (20, bo all), (23, iV), (27, nV), (37, tO), (39, gi 0), (40, gi N)] ρ) (hx : Fx H N M pI pN s1 s tI iV nV bV) (hO : RowsS H tO ((playC N M.reverse).map bitsOf)) (hg : Gx N M) (hcnt : cnt = popSum (playC N M))
    (next : ∀ ρ H', Keeps H.length H H' → Hs 572 [(1, s1), (5, gi N), (6, s), (7, tI), (11, bo all), (15, gi cnt), (19, gi nd'), (20, bo all), (23, iV), (27, nV), (39, gi cnt), (40, gi N)] ρ → Ok (run1 C (cal C) 1001 bb 3 m0 [.tmp 4] (fin C (cal C) 1001 bb (k) (some (.normal, ρ, H')))) Q) :
    Ok (run1 C (cal C) 1001 bb 3 m0 [.tmp 4] (fin C (cal C) 1001 bb (.code (nodeC [1, 1, 1, 1, 1, 1, 1, 1, 1, 1, 1, 1, 1, 1, 1, 1, 1, 1, 0, 1, 0, 1, 1, 1, 1, 0] bodyF) :: k) (some (.normal, ρ, H)))) Q := by
  have hN := hg.n10
  have hr := hg.good.inN
  have hM := hg.len
  have ha := areC_of hg.n0 hN hM hg.good
  have hpl := playC_len hN M
  have hpr := playC_len hN M.reverse
  obtain ⟨aI, cI, htI⟩ : ∃ a c, tI = .slice a N c := by
    obtain ⟨a, c, e⟩ := hx.kn.choose_spec.1.sl
    rw [List.length_map, hpl] at e
    exact ⟨a, c, e⟩
  subst htI
  obtain ⟨f1, f5, f6, f7, f11, f15, f19, f20, f23, f27, f37, f39, f40, (hl : List.length ρ = 572)⟩ := hv
  refine cdk ?_
  refine sq2 fun K1 hK1 => ?_
  -- region 26
  simp only [go_sem, gs, List.length_set, hl, reduceIte, Nat.reduceEqDiff, Nat.reduceLT, f7]
  refine env_gen (N := 572) [(1, s1), (5, gi N), (6, s), (7, .slice aI N cI), (11, bo all), (15, gi cnt), (19, gi nd'), (20, bo all), (23, iV), (27, nV), (37, tO), (39, gi 0), (40, gi N), (325, .slice aI N cI), (326, gi N), (327, gi 0)] ?_ fun r1 h' => ?_
  · simp only [Hs, gs, List.length_set, hl, reduceIte, Nat.reduceEqDiff, Nat.reduceLT, f1, f5, f6, f7, f11, f15, f19, f20, f23, f27, f37, f39, f40, and_self, and_true, true_and]
    all_goals (and_intros <;> rfl)
  clear f1 f5 f6 f7 f11 f15 f19 f20 f23 f27 f37 f39 f40 hl
  obtain ⟨f1, f5, f6, f7, f11, f15, f19, f20, f23, f27, f37, f39, f40, f325, f326, f327, (hl : List.length r1 = 572)⟩ := h'
  subst hK1
  refine cdk ?_
  rw [fin_block]
  rw [fin_loopk [328, 329, 330, 331, 41, 42, 333, 334, 335, 336, 332, 337, 338, 43, 44, 339, 340, 341, 345, 346, 351, 352, 360, 4, 361, 362, 363, 364, 365] rfl]
  refine lp_env (fun j ρ H' => ∃ i : Nat, i + j = N ∧ Keeps H.length H H' ∧ Hs 572 [(1, s1), (5, gi N), (6, s), (7, .slice aI N cI), (11, bo all), (15, gi cnt), (19, gi nd'), (20, bo all), (23, iV), (27, nV), (37, tO), (39, gi (sk (playC N M) i)), (40, gi N), (325, .slice aI N cI), (326, gi N), (327, gi i)] ρ) ?_ N (by omega) ⟨0, by omega, Keeps.refl _ _, ?_⟩
  rotate_left
  · simp only [Hs, gs, List.length_set, hl, reduceIte, Nat.reduceEqDiff, Nat.reduceLT, f1, f5, f6, f7, f11, f15, f19, f20, f23, f27, f37, f39, f40, f325, f326, f327, and_self, and_true, true_and]
    all_goals (and_intros <;> rfl)
  rintro j m ρ1 H' ⟨i, hij, hk, hh⟩ ih
  have hh := hh.wipe (ks := [328, 329, 330, 331, 41, 42, 333, 334, 335, 336, 332, 337, 338, 43, 44, 339, 340, 341, 345, 346, 351, 352, 360, 4, 361, 362, 363, 364, 365]) rfl
  generalize wipe [328, 329, 330, 331, 41, 42, 333, 334, 335, 336, 332, 337, 338, 43, 44, 339, 340, 341, 345, 346, 351, 352, 360, 4, 361, 362, 363, 364, 365] ρ1 = r2 at hh
  clear f1 f5 f6 f7 f11 f15 f19 f20 f23 f27 f37 f39 f40 f325 f326 f327 hl
  obtain ⟨f1, f5, f6, f7, f11, f15, f19, f20, f23, f27, f37, f39, f40, f325, f326, f327, (hl : List.length r2 = 572)⟩ := hh
  cases hlt : decide ((i : Int) < (N : Int))
  · have hie : N = i := by have := of_decide_eq_false hlt; omega
    simp only [go_sem, gs, List.length_set, hl, reduceIte, Nat.reduceEqDiff, Nat.reduceLT, f1, f5, f6, f7, f11, f15, f19, f20, f23, f27, f37, f39, f40, f325, f326, f327, hlt]
    subst hie
    have hsk : sk (playC N M) N = cnt := by rw [hcnt, ← sk_all, hpl]
    rw [hsk] at f39
    refine env_gen (N := 572) [(1, s1), (5, gi N), (6, s), (7, .slice aI N cI), (11, bo all), (15, gi cnt), (19, gi nd'), (20, bo all), (23, iV), (27, nV), (39, gi cnt), (40, gi N)] ?_ fun r3 h' => ?_
    · simp only [Hs, gs, List.length_set, hl, reduceIte, Nat.reduceEqDiff, Nat.reduceLT, f1, f5, f6, f7, f11, f15, f19, f20, f23, f27, f39, f40, and_self, and_true, true_and]
      all_goals (and_intros <;> rfl)
    clear f1 f5 f6 f7 f11 f15 f19 f20 f23 f27 f37 f39 f40 f325 f326 f327 hl
    obtain ⟨f1, f5, f6, f7, f11, f15, f19, f20, f23, f27, f39, f40, (hl : List.length r3 = 572)⟩ := h'
    exact next _ _ hk ⟨f1, f5, f6, f7, f11, f15, f19, f20, f23, f27, f39, f40, hl⟩
  have hi : i < N := by have := of_decide_eq_true hlt; omega
  have hwi : IntKind.i64.wrap ((i : Int) + 1) = ((i + 1 : Nat) : Int) := wrapN (by omega)
  have hir : i < ((playC N M).map bitsOf).length := by rw [List.length_map, hpl]; exact hi
  have hip : i < (playC N M).length := by rw [hpl]; exact hi
  have hiq : i < (playC N M.reverse).length := by rw [hpr]; exact hi
  have hx1 := hx.keep hk
  obtain ⟨b, o, T0, cs, v, k1, k2, k3, k4⟩ := hx1.kn.el hir
  have er : ((playC N M).map bitsOf)[i] = bitsOf (playC N M)[i] := by simp
  rw [er] at k4
  have hrl := rowLen (x := (playC N M)[i])
  obtain ⟨v2, H2, e26, F, tw, rfl, rfl, how⟩ := who_c (base := bb) hx1.sl (by omega) hN hr ha hi (whoP N M i) fun _ => rfl
  obtain ⟨b', o', T0', cs', v', k1', k2', k3', k4'⟩ := (hO.keep (hk.trans (.append hk.1 F))).el (i := i) (by rw [List.length_map]; exact hiq)
  have er' : ((playC N M.reverse).map bitsOf)[i]'(by rw [List.length_map]; exact hiq) = bitsOf (playC N M.reverse)[i] := by simp
  rw [er'] at k4'
  have hil := idx_len N (whoP N M i)
  have e27 := wRises_c (base := bb) (k4.add F) (by omega) true (rises_bits _).symm
  have e28 := wHas_c (base := bb) (n := i) (k4.add F) (by omega) true (decide_eq_true (self_bit hN hr hip)).symm
  have e21 := wSame_c (base := bb) how.shows k4' (by omega) true (by rw [who_back hN hr hi, getD_of hiq]; simp)
  have hsk := sk_succ (B := playC N M) (by omega) hip (pl1024 hN)
  obtain ⟨av, cv, rfl⟩ := k4.sl
  have hkF : Keeps H.length H (H' ++ F) := hk.trans (.append hk.1 F)
  refine cdk ?_
  refine sq2 fun K2 hK2 => ?_
  -- region 27
  simp only [go_sem, gs, List.length_set, hl, reduceIte, Nat.reduceEqDiff, Nat.reduceLT, f327, f326, hlt]
  refine env_gen (N := 572) [(1, s1), (5, gi N), (6, s), (7, .slice aI N cI), (11, bo all), (15, gi cnt), (19, gi nd'), (20, bo all), (23, iV), (27, nV), (37, tO), (39, gi (sk (playC N M) i)), (40, gi N), (325, .slice aI N cI), (326, gi N), (327, gi i), (328, bo true)] ?_ fun r4 h' => ?_
  · simp only [Hs, gs, List.length_set, hl, reduceIte, Nat.reduceEqDiff, Nat.reduceLT, f1, f5, f6, f7, f11, f15, f19, f20, f23, f27, f37, f39, f40, f325, f326, f327, and_self, and_true, true_and]
    all_goals (and_intros <;> rfl)
  clear f1 f5 f6 f7 f11 f15 f19 f20 f23 f27 f37 f39 f40 f325 f326 f327 hl
  obtain ⟨f1, f5, f6, f7, f11, f15, f19, f20, f23, f27, f37, f39, f40, f325, f326, f327, f328, (hl : List.length r4 = 572)⟩ := h'
  subst hK2
  refine cdk ?_
  refine sq2 fun K3 hK3 => ?_
  rw [cd_t f328]
  rw [fin_skip]
  subst hK3
  refine cdk ?_
  refine sq2 fun K4 hK4 => ?_
  rw [fin_block]
  refine sq2 fun K5 hK5 => ?_
  -- region 28
  simp only [go_sem, gs, List.length_set, hl, reduceIte, Nat.reduceEqDiff, Nat.reduceLT, f327, f325, k1, k2, k3]
  refine env_gen (N := 572) [(1, s1), (5, gi N), (6, s), (7, .slice aI N cI), (11, bo all), (15, gi cnt), (19, gi nd'), (20, bo all), (23, iV), (27, nV), (37, tO), (39, gi (sk (playC N M) i)), (40, gi N), (325, .slice aI N cI), (326, gi N), (327, gi i), (41, gi i), (42, .slice av (bitsOf (playC N M)[i]).length cv)] ?_ fun r5 h' => ?_
  · simp only [Hs, gs, List.length_set, hl, reduceIte, Nat.reduceEqDiff, Nat.reduceLT, f1, f5, f6, f7, f11, f15, f19, f20, f23, f27, f37, f39, f40, f325, f326, f327, and_self, and_true, true_and]
    all_goals (and_intros <;> rfl)
  clear f1 f5 f6 f7 f11 f15 f19 f20 f23 f27 f37 f39 f40 f325 f326 f327 f328 hl
  obtain ⟨f1, f5, f6, f7, f11, f15, f19, f20, f23, f27, f37, f39, f40, f325, f326, f327, f41, f42, (hl : List.length r5 = 572)⟩ := h'
  subst hK5
  refine cdk ?_
  refine sq2 fun K6 hK6 => ?_
  -- region 29
  simp only [go_sem, gs, List.length_set, hl, reduceIte, Nat.reduceEqDiff, Nat.reduceLT, f5, f6, f41, e26]
  refine env_gen (N := 572) [(1, s1), (5, gi N), (6, s), (7, .slice aI N cI), (11, bo all), (15, gi cnt), (19, gi nd'), (20, bo all), (23, iV), (27, nV), (37, tO), (39, gi (sk (playC N M) i)), (40, gi N), (325, .slice aI N cI), (326, gi N), (327, gi i), (41, gi i), (42, .slice av (bitsOf (playC N M)[i]).length cv), (43, tw), (44, bo true)] ?_ fun r6 h' => ?_
  · simp only [Hs, gs, List.length_set, hl, reduceIte, Nat.reduceEqDiff, Nat.reduceLT, f1, f5, f6, f7, f11, f15, f19, f20, f23, f27, f37, f39, f40, f325, f326, f327, f41, f42, and_self, and_true, true_and]
    all_goals (and_intros <;> rfl)
  clear f1 f5 f6 f7 f11 f15 f19 f20 f23 f27 f37 f39 f40 f325 f326 f327 f41 f42 hl
  obtain ⟨f1, f5, f6, f7, f11, f15, f19, f20, f23, f27, f37, f39, f40, f325, f326, f327, f41, f42, f43, f44, (hl : List.length r6 = 572)⟩ := h'
  subst hK6
  refine cdk ?_
  refine sq2 fun K7 hK7 => ?_
  refine sq2 fun K8 hK8 => ?_
  -- region 30
  simp only [go_sem, gs, List.length_set, hl, reduceIte, Nat.reduceEqDiff, Nat.reduceLT, f44, f42, f41, f43, f37, e27, e28, e21, k1', k2', k3', Bool.not_true]
  refine env_gen (N := 572) [(1, s1), (5, gi N), (6, s), (7, .slice aI N cI), (11, bo all), (15, gi cnt), (19, gi nd'), (20, bo all), (23, iV), (27, nV), (37, tO), (39, gi (sk (playC N M) i)), (40, gi N), (325, .slice aI N cI), (326, gi N), (327, gi i), (42, .slice av (bitsOf (playC N M)[i]).length cv), (360, bo false)] ?_ fun r7 h' => ?_
  · simp only [Hs, gs, List.length_set, hl, reduceIte, Nat.reduceEqDiff, Nat.reduceLT, f1, f5, f6, f7, f11, f15, f19, f20, f23, f27, f37, f39, f40, f325, f326, f327, f41, f42, f43, f44, and_self, and_true, true_and]
    all_goals (and_intros <;> rfl)
  clear f1 f5 f6 f7 f11 f15 f19 f20 f23 f27 f37 f39 f40 f325 f326 f327 f41 f42 f43 f44 hl
  obtain ⟨f1, f5, f6, f7, f11, f15, f19, f20, f23, f27, f37, f39, f40, f325, f326, f327, f42, f360, (hl : List.length r7 = 572)⟩ := h'
  subst hK8
  refine cdk ?_
  rw [cd_f f360]
  rw [fin_skip]
  subst hK7
  refine cdk ?_
  -- region 32
  simp only [go_sem, gs, List.length_set, hl, reduceIte, Nat.reduceEqDiff, Nat.reduceLT, f39, f42, hsk]
  refine env_gen (N := 572) [(1, s1), (5, gi N), (6, s), (7, .slice aI N cI), (11, bo all), (15, gi cnt), (19, gi nd'), (20, bo all), (23, iV), (27, nV), (37, tO), (39, gi (sk (playC N M) (i + 1) : Nat)), (40, gi N), (325, .slice aI N cI), (326, gi N), (327, gi i)] ?_ fun r8 h' => ?_
  · simp only [Hs, gs, List.length_set, hl, reduceIte, Nat.reduceEqDiff, Nat.reduceLT, f1, f5, f6, f7, f11, f15, f19, f20, f23, f27, f37, f39, f40, f325, f326, f327, f42, and_self, and_true, true_and]
    all_goals (and_intros <;> rfl)
  clear f1 f5 f6 f7 f11 f15 f19 f20 f23 f27 f37 f39 f40 f325 f326 f327 f42 f360 hl
  obtain ⟨f1, f5, f6, f7, f11, f15, f19, f20, f23, f27, f37, f39, f40, f325, f326, f327, (hl : List.length r8 = 572)⟩ := h'
  try rw [fin_blk_normal]
  subst hK4
  refine cdk ?_
  -- region 33
  simp only [go_sem, gs, List.length_set, hl, reduceIte, Nat.reduceEqDiff, Nat.reduceLT, f327, hwi]
  refine env_gen (N := 572) [(1, s1), (5, gi N), (6, s), (7, .slice aI N cI), (11, bo all), (15, gi cnt), (19, gi nd'), (20, bo all), (23, iV), (27, nV), (37, tO), (39, gi (sk (playC N M) (i + 1) : Nat)), (40, gi N), (325, .slice aI N cI), (326, gi N), (327, gi (i + 1 : Nat))] ?_ fun r9 h' => ?_
  · simp only [Hs, gs, List.length_set, hl, reduceIte, Nat.reduceEqDiff, Nat.reduceLT, f1, f5, f6, f7, f11, f15, f19, f20, f23, f27, f37, f39, f40, f325, f326, f327, and_self, and_true, true_and]
    all_goals (and_intros <;> rfl)
  clear f1 f5 f6 f7 f11 f15 f19 f20 f23 f27 f37 f39 f40 f325 f326 f327 hl
  obtain ⟨f1, f5, f6, f7, f11, f15, f19, f20, f23, f27, f37, f39, f40, f325, f326, f327, (hl : List.length r9 = 572)⟩ := h'
  refine ih (j - 1) _ _ (by omega) ⟨i + 1, by omega, hkF, ?_⟩
  exact ⟨f1, f5, f6, f7, f11, f15, f19, f20, f23, f27, f37, f39, f40, f325, f326, f327, hl⟩
end T

open Go Go.Am
namespace T
open Go.Proofs
set_option maxRecDepth 100000
set_option maxHeartbeats 4000000
set_option linter.unusedSimpArgs false
set_option linter.unusedVariables false
variable {base : Nat} {H : Heap}
theorem chk_ok {ρ : Env} {bb m0 : Nat} {k : List It} {Q : Value → Heap → Prop} {N : Nat} {M : List (Nat × Nat)} {pI : Nat → Bool} {pN : Nat → Bool} {s1 : Value} {s : Value} {tI : Value} {iV : Value} {nV : Value} {bV : Value} {tO : Value} {all : Bool} {cnt : Nat} {nd' : Nat} {few : Nat}
    (hv : Hs 572 [(1, s1), (5, gi N), (6, s), (7, tI), (11, bo all), (15, gi cnt), (19, gi nd'), (20, bo all), (23, iV), (27, nV), (35, gi few), (36, bo true), (37, tO), (38, bo true)] ρ) (hx : Fx H N M pI pN s1 s tI iV nV bV) (hg : Gx N M) (hlo : all = true → few ≤ nd' ∧ nd' ≤ M.length)
    (next : ∀ ρ, Hs 572 [(1, s1), (5, gi N), (6, s), (7, tI), (11, bo all), (15, gi cnt), (19, gi nd'), (20, bo all), (23, iV), (27, nV), (37, tO)] ρ → Ok (run1 C (cal C) 1001 bb 3 m0 [.tmp 4] (fin C (cal C) 1001 bb (k) (some (.normal, ρ, H)))) Q) :
    Ok (run1 C (cal C) 1001 bb 3 m0 [.tmp 4] (fin C (cal C) 1001 bb (.code (nodeC [1, 1, 1, 1, 1, 1, 1, 1, 1, 1, 1, 1, 1, 1, 1, 1, 1, 1, 0, 1, 0, 1, 1, 0] bodyF) :: k) (some (.normal, ρ, H)))) Q := by
  have hN := hg.n10
  have hpl := playC_len hN M
  have hZ := toZ_len M
  obtain ⟨aI, cI, rfl⟩ : ∃ a c, tI = .slice a N c := by
    obtain ⟨a, c, e⟩ := hx.kn.choose_spec.1.sl
    rw [List.length_map, hpl] at e
    exact ⟨a, c, e⟩
  obtain ⟨aS, cS, rfl⟩ : ∃ a c, s = .slice a M.length c := by
    obtain ⟨a, c, e⟩ := hx.sl.sl
    rw [hZ] at e
    exact ⟨a, c, e⟩
  obtain ⟨f1, f5, f6, f7, f11, f15, f19, f20, f23, f27, f35, f36, f37, f38, (hl : List.length ρ = 572)⟩ := hv
  refine cdk ?_
  cases all
  · skip
    refine sq2 fun K1 hK1 => ?_
    -- region 23
    simp only [go_sem, gs, List.length_set, hl, reduceIte, Nat.reduceEqDiff, Nat.reduceLT, f36, f38, f20, f19, f35, f6, f7, f5, bne_self_eq_false, Bool.not_true]
    refine env_gen (N := 572) [(1, s1), (5, gi N), (6, .slice aS M.length cS), (7, .slice aI N cI), (11, bo false), (15, gi cnt), (19, gi nd'), (20, bo false), (23, iV), (27, nV), (37, tO), (323, bo false)] ?_ fun r1 h' => ?_
    · simp only [Hs, gs, List.length_set, hl, reduceIte, Nat.reduceEqDiff, Nat.reduceLT, f1, f5, f6, f7, f11, f15, f19, f20, f23, f27, f35, f36, f37, f38, and_self, and_true, true_and]
      all_goals (and_intros <;> rfl)
    clear f1 f5 f6 f7 f11 f15 f19 f20 f23 f27 f35 f36 f37 f38 hl
    obtain ⟨f1, f5, f6, f7, f11, f15, f19, f20, f23, f27, f37, f323, (hl : List.length r1 = 572)⟩ := h'
    subst hK1
    refine cdk ?_
    rw [cd_f f323]
    rw [fin_skip]
    exact next _ ⟨f1, f5, f6, f7, f11, f15, f19, f20, f23, f27, f37, hl⟩
  · skip
    obtain ⟨h1, h2⟩ := hlo rfl
    have c1 : decide ((nd' : Int) < (few : Int)) = false := decide_eq_false (by omega)
    have c2 : decide ((M.length : Int) < (nd' : Int)) = false := decide_eq_false (by omega)
    refine sq2 fun K2 hK2 => ?_
    -- region 23
    simp only [go_sem, gs, List.length_set, hl, reduceIte, Nat.reduceEqDiff, Nat.reduceLT, f36, f38, f20, f19, f35, f6, f7, f5, bne_self_eq_false, Bool.not_true, c1, c2]
    refine env_gen (N := 572) [(1, s1), (5, gi N), (6, .slice aS M.length cS), (7, .slice aI N cI), (11, bo true), (15, gi cnt), (19, gi nd'), (20, bo true), (23, iV), (27, nV), (37, tO), (323, bo false)] ?_ fun r2 h' => ?_
    · simp only [Hs, gs, List.length_set, hl, reduceIte, Nat.reduceEqDiff, Nat.reduceLT, f1, f5, f6, f7, f11, f15, f19, f20, f23, f27, f35, f36, f37, f38, and_self, and_true, true_and]
      all_goals (and_intros <;> rfl)
    clear f1 f5 f6 f7 f11 f15 f19 f20 f23 f27 f35 f36 f37 f38 hl
    obtain ⟨f1, f5, f6, f7, f11, f15, f19, f20, f23, f27, f37, f323, (hl : List.length r2 = 572)⟩ := h'
    subst hK2
    refine cdk ?_
    rw [cd_f f323]
    rw [fin_skip]
    exact next _ ⟨f1, f5, f6, f7, f11, f15, f19, f20, f23, f27, f37, hl⟩
theorem r38_ok {ρ : Env} {bb m0 : Nat} {k : List It} {Q : Value → Heap → Prop} {N : Nat} {M : List (Nat × Nat)} {s1 : Value} {s : Value} {tI : Value} {iV : Value} {nV : Value} {all : Bool} {cnt : Nat} {nd' : Nat} {lkv : Nat} {i : Nat} {z : Int} {q : Bool} {q2 : Bool}
    (hv : Hs 572 [(1, s1), (5, gi N), (6, s), (7, tI), (11, bo all), (15, gi cnt), (19, gi nd'), (20, bo all), (23, iV), (27, nV), (39, gi cnt), (40, gi lkv), (45, gi i), (46, gi z), (47, bo true), (367, gi M.length), (368, gi i)] ρ) (hneg : decide (z < 0) = false) (hz : (z == 0) = q) (hq : q = true → q2 = true) (e28i : cal C bb 28 [iV, gi i] H = some (bo q, H)) (e28n : cal C bb 28 [nV, gi i] H = some (bo q2, H))
    (next : ∀ ρ, Hs 572 [(1, s1), (5, gi N), (6, s), (7, tI), (11, bo all), (15, gi cnt), (19, gi nd'), (20, bo all), (23, iV), (27, nV), (39, gi cnt), (40, gi lkv), (45, gi i), (46, gi z), (367, gi M.length), (368, gi i)] ρ → Ok (run1 C (cal C) 1001 bb 3 m0 [.tmp 4] (fin C (cal C) 1001 bb (k) (some (.normal, ρ, H)))) Q) :
    Ok (run1 C (cal C) 1001 bb 3 m0 [.tmp 4] (fin C (cal C) 1001 bb (.code (nodeC [1, 1, 1, 1, 1, 1, 1, 1, 1, 1, 1, 1, 1, 1, 1, 1, 1, 1, 0, 1, 0, 1, 1, 1, 1, 1, 0, 1, 0, 0, 1, 1, 0, 0, 1, 1, 0] bodyF) :: k) (some (.normal, ρ, H)))) Q := by
  obtain ⟨f1, f5, f6, f7, f11, f15, f19, f20, f23, f27, f39, f40, f45, f46, f47, f367, f368, (hl : List.length ρ = 572)⟩ := hv
  refine cdk ?_
  cases q
  · skip
    refine sq2 fun K1 hK1 => ?_
    -- region 38
    simp only [go_sem, gs, List.length_set, hl, reduceIte, Nat.reduceEqDiff, Nat.reduceLT, f47, f46, f23, f45, f27, hneg, hz, e28i, bne_self_eq_false, Bool.not_true]
    refine env_gen (N := 572) [(1, s1), (5, gi N), (6, s), (7, tI), (11, bo all), (15, gi cnt), (19, gi nd'), (20, bo all), (23, iV), (27, nV), (39, gi cnt), (40, gi lkv), (45, gi i), (46, gi z), (367, gi M.length), (368, gi i), (401, bo false)] ?_ fun r1 h' => ?_
    · simp only [Hs, gs, List.length_set, hl, reduceIte, Nat.reduceEqDiff, Nat.reduceLT, f1, f5, f6, f7, f11, f15, f19, f20, f23, f27, f39, f40, f45, f46, f47, f367, f368, and_self, and_true, true_and]
      all_goals (and_intros <;> rfl)
    clear f1 f5 f6 f7 f11 f15 f19 f20 f23 f27 f39 f40 f45 f46 f47 f367 f368 hl
    obtain ⟨f1, f5, f6, f7, f11, f15, f19, f20, f23, f27, f39, f40, f45, f46, f367, f368, f401, (hl : List.length r1 = 572)⟩ := h'
    subst hK1
    refine cdk ?_
    rw [cd_f f401]
    rw [fin_skip]
    exact next _ ⟨f1, f5, f6, f7, f11, f15, f19, f20, f23, f27, f39, f40, f45, f46, f367, f368, hl⟩
  · skip
    obtain rfl := hq rfl
    refine sq2 fun K2 hK2 => ?_
    -- region 38
    simp only [go_sem, gs, List.length_set, hl, reduceIte, Nat.reduceEqDiff, Nat.reduceLT, f47, f46, f23, f45, f27, hneg, hz, e28i, e28n, bne_self_eq_false, Bool.not_true]
    refine env_gen (N := 572) [(1, s1), (5, gi N), (6, s), (7, tI), (11, bo all), (15, gi cnt), (19, gi nd'), (20, bo all), (23, iV), (27, nV), (39, gi cnt), (40, gi lkv), (45, gi i), (46, gi z), (367, gi M.length), (368, gi i), (401, bo false)] ?_ fun r2 h' => ?_
    · simp only [Hs, gs, List.length_set, hl, reduceIte, Nat.reduceEqDiff, Nat.reduceLT, f1, f5, f6, f7, f11, f15, f19, f20, f23, f27, f39, f40, f45, f46, f47, f367, f368, and_self, and_true, true_and]
      all_goals (and_intros <;> rfl)
    clear f1 f5 f6 f7 f11 f15 f19 f20 f23 f27 f39 f40 f45 f46 f47 f367 f368 hl
    obtain ⟨f1, f5, f6, f7, f11, f15, f19, f20, f23, f27, f39, f40, f45, f46, f367, f368, f401, (hl : List.length r2 = 572)⟩ := h'
    subst hK2
    refine cdk ?_
    rw [cd_f f401]
    rw [fin_skip]
    exact next _ ⟨f1, f5, f6, f7, f11, f15, f19, f20, f23, f27, f39, f40, f45, f46, f367, f368, hl⟩
theorem r46_ok {ρ : Env} {bb m0 : Nat} {k : List It} {Q : Value → Heap → Prop} {N : Nat} {s1 : Value} {s : Value} {all : Bool} {cnt : Nat} {nd' : Nat}
    (hv : Hs 572 [(1, s1), (5, gi N), (6, s), (11, bo all), (15, gi cnt), (19, gi nd'), (20, bo all), (39, gi cnt), (40, gi cnt)] ρ) (hsq : ((cnt : Int) == IntKind.i64.wrap ((N : Int) * (N : Int))) = all)
    (next : ∀ ρ, Hs 572 [(1, s1), (5, gi N), (6, s), (19, gi nd'), (20, bo all)] ρ → Ok (run1 C (cal C) 1001 bb 3 m0 [.tmp 4] (fin C (cal C) 1001 bb (k) (some (.normal, ρ, H)))) Q) :
    Ok (run1 C (cal C) 1001 bb 3 m0 [.tmp 4] (fin C (cal C) 1001 bb (.code (nodeC [1, 1, 1, 1, 1, 1, 1, 1, 1, 1, 1, 1, 1, 1, 1, 1, 1, 1, 0, 1, 0, 1, 1, 1, 1, 1, 1, 0] bodyF) :: k) (some (.normal, ρ, H)))) Q := by
  obtain ⟨f1, f5, f6, f11, f15, f19, f20, f39, f40, (hl : List.length ρ = 572)⟩ := hv
  refine cdk ?_
  refine sq2 fun K1 hK1 => ?_
  -- region 46
  simp only [go_sem, gs, List.length_set, hl, reduceIte, Nat.reduceEqDiff, Nat.reduceLT, f39, f15, f40, f11, f5, bne_self_eq_false, Bool.not_true, hsq]
  refine env_gen (N := 572) [(1, s1), (5, gi N), (6, s), (19, gi nd'), (20, bo all), (449, bo false)] ?_ fun r1 h' => ?_
  · simp only [Hs, gs, List.length_set, hl, reduceIte, Nat.reduceEqDiff, Nat.reduceLT, f1, f5, f6, f11, f15, f19, f20, f39, f40, and_self, and_true, true_and]
    all_goals (and_intros <;> rfl)
  clear f1 f5 f6 f11 f15 f19 f20 f39 f40 hl
  obtain ⟨f1, f5, f6, f19, f20, f449, (hl : List.length r1 = 572)⟩ := h'
  subst hK1
  refine cdk ?_
  rw [cd_f f449]
  rw [fin_skip]
  exact next _ ⟨f1, f5, f6, f19, f20, hl⟩
theorem r48_ok {ρ : Env} {bb m0 : Nat} {k : List It} {Q : Value → Heap → Prop} {N : Nat} {M : List (Nat × Nat)} {s1 : Value} {s : Value} {all : Bool} {nd' : Nat}
    (hv : Hs 572 [(1, s1), (5, gi N), (6, s), (19, gi nd'), (20, bo all)] ρ) (hs : SL H s (toZ M)) (hg : Gx N M) (hall : all = true → nd' ≤ M.length ∧ allK (playC N (M.take nd')) = true ∧ (0 < nd' → allK (playC N (M.take (nd' - 1))) = false))
    (next : ∀ ρ, Hs 572 [(1, s1)] ρ → Ok (run1 C (cal C) 1001 bb 3 m0 [.tmp 4] (fin C (cal C) 1001 bb (k) (some (.normal, ρ, H)))) Q) :
    Ok (run1 C (cal C) 1001 bb 3 m0 [.tmp 4] (fin C (cal C) 1001 bb (.code (nodeC [1, 1, 1, 1, 1, 1, 1, 1, 1, 1, 1, 1, 1, 1, 1, 1, 1, 1, 0, 1, 0, 1, 1, 1, 1, 1, 1, 1] bodyF) :: k) (some (.normal, ρ, H)))) Q := by
  have hN := hg.n10
  have hM := hg.len
  have hZ := toZ_len M
  have hsl := hs.sl
  rw [hZ] at hsl
  obtain ⟨aS, cS, rfl⟩ := hsl
  obtain ⟨f1, f5, f6, f19, f20, (hl : List.length ρ = 572)⟩ := hv
  refine cdk ?_
  cases all
  · skip
    refine sq2 fun K1 hK1 => ?_
    -- region 48
    simp only [go_sem, gs, List.length_set, hl, reduceIte, Nat.reduceEqDiff, Nat.reduceLT, f20, f19, Bool.not_true]
    refine env_gen (N := 572) [(1, s1), (5, gi N), (6, .slice aS M.length cS), (19, gi nd'), (454, bo false)] ?_ fun r1 h' => ?_
    · simp only [Hs, gs, List.length_set, hl, reduceIte, Nat.reduceEqDiff, Nat.reduceLT, f1, f5, f6, f19, f20, and_self, and_true, true_and]
      all_goals (and_intros <;> rfl)
    clear f1 f5 f6 f19 f20 hl
    obtain ⟨f1, f5, f6, f19, f454, (hl : List.length r1 = 572)⟩ := h'
    subst hK1
    refine cdk ?_
    rw [cd_f f454]
    rw [fin_skip]
    exact next _ ⟨f1, hl⟩
  · skip
    cases h0 : decide ((0 : Int) < (nd' : Int))
    · skip
      refine sq2 fun K2 hK2 => ?_
      -- region 48
      simp only [go_sem, gs, List.length_set, hl, reduceIte, Nat.reduceEqDiff, Nat.reduceLT, f20, f19, Bool.not_true, h0]
      refine env_gen (N := 572) [(1, s1), (5, gi N), (6, .slice aS M.length cS), (19, gi nd'), (454, bo false)] ?_ fun r2 h' => ?_
      · simp only [Hs, gs, List.length_set, hl, reduceIte, Nat.reduceEqDiff, Nat.reduceLT, f1, f5, f6, f19, f20, and_self, and_true, true_and]
        all_goals (and_intros <;> rfl)
      clear f1 f5 f6 f19 f20 hl
      obtain ⟨f1, f5, f6, f19, f454, (hl : List.length r2 = 572)⟩ := h'
      subst hK2
      refine cdk ?_
      rw [cd_f f454]
      rw [fin_skip]
      exact next _ ⟨f1, hl⟩
    · skip
      have hpos : 0 < nd' := by have := of_decide_eq_true h0; omega
      obtain ⟨hle, hb, hf⟩ := hall rfl
      have hf := hf hpos
      obtain ⟨u1, e1, h1⟩ := SL.to hs (k := nd' - 1) (by omega)
      obtain ⟨u2, e2, h2⟩ := SL.to hs (k := nd') (by omega)
      rw [toZ_take] at h1 h2
      have g1 := hg.good.take (nd' - 1)
      have g2 := hg.good.take nd'
      have e8 := all_c (base := bb) (n := N) h1 (by rw [List.length_take]; omega) hN g1.inN (areC_of hg.n0 hN (by rw [List.length_take]; omega) g1)
      have e8' := all_c (base := bb) (n := N) h2 (by rw [List.length_take]; omega) hN g2.inN (areC_of hg.n0 hN (by rw [List.length_take]; omega) g2)
      rw [hf] at e8
      rw [hb] at e8'
      have hw : IntKind.i64.wrap ((nd' : Int) - 1) = ((nd' - 1 : Nat) : Int) := by rw [IntKind.wrap_i64]; omega
      refine sq2 fun K3 hK3 => ?_
      -- region 48
      simp only [go_sem, gs, List.length_set, hl, reduceIte, Nat.reduceEqDiff, Nat.reduceLT, f20, f19, Bool.not_true, h0]
      refine env_gen (N := 572) [(1, s1), (5, gi N), (6, .slice aS M.length cS), (19, gi nd'), (454, bo true)] ?_ fun r3 h' => ?_
      · simp only [Hs, gs, List.length_set, hl, reduceIte, Nat.reduceEqDiff, Nat.reduceLT, f1, f5, f6, f19, f20, and_self, and_true, true_and]
        all_goals (and_intros <;> rfl)
      clear f1 f5 f6 f19 f20 hl
      obtain ⟨f1, f5, f6, f19, f454, (hl : List.length r3 = 572)⟩ := h'
      subst hK3
      refine cdk ?_
      rw [cd_t f454]
      refine sq2 fun K4 hK4 => ?_
      -- region 49
      simp only [go_sem, gs, List.length_set, hl, reduceIte, Nat.reduceEqDiff, Nat.reduceLT, f5, f6, f19, hw, e1, e8]
      refine env_gen (N := 572) [(1, s1), (5, gi N), (6, .slice aS M.length cS), (19, gi nd'), (51, bo false), (52, bo true)] ?_ fun r4 h' => ?_
      · simp only [Hs, gs, List.length_set, hl, reduceIte, Nat.reduceEqDiff, Nat.reduceLT, f1, f5, f6, f19, and_self, and_true, true_and]
        all_goals (and_intros <;> rfl)
      clear f1 f5 f6 f19 f454 hl
      obtain ⟨f1, f5, f6, f19, f51, f52, (hl : List.length r4 = 572)⟩ := h'
      subst hK4
      refine cdk ?_
      refine sq2 fun K5 hK5 => ?_
      -- region 50
      simp only [go_sem, gs, List.length_set, hl, reduceIte, Nat.reduceEqDiff, Nat.reduceLT, f5, f6, f19, e2, e8']
      refine env_gen (N := 572) [(1, s1), (51, bo false), (52, bo true), (53, bo true), (54, bo true)] ?_ fun r5 h' => ?_
      · simp only [Hs, gs, List.length_set, hl, reduceIte, Nat.reduceEqDiff, Nat.reduceLT, f1, f5, f6, f19, f51, f52, and_self, and_true, true_and]
        all_goals (and_intros <;> rfl)
      clear f1 f5 f6 f19 f51 f52 hl
      obtain ⟨f1, f51, f52, f53, f54, (hl : List.length r5 = 572)⟩ := h'
      subst hK5
      refine cdk ?_
      refine sq2 fun K6 hK6 => ?_
      -- region 51
      simp only [go_sem, gs, List.length_set, hl, reduceIte, Nat.reduceEqDiff, Nat.reduceLT, f52, f51, f54, f53, Bool.not_true, Bool.not_false]
      refine env_gen (N := 572) [(1, s1), (484, bo false)] ?_ fun r6 h' => ?_
      · simp only [Hs, gs, List.length_set, hl, reduceIte, Nat.reduceEqDiff, Nat.reduceLT, f1, f51, f52, f53, f54, and_self, and_true, true_and]
        all_goals (and_intros <;> rfl)
      clear f1 f51 f52 f53 f54 hl
      obtain ⟨f1, f484, (hl : List.length r6 = 572)⟩ := h'
      subst hK6
      refine cdk ?_
      rw [cd_f f484]
      rw [fin_skip]
      exact next _ ⟨f1, hl⟩
end T

