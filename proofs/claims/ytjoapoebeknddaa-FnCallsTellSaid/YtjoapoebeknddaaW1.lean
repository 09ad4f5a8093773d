/- The law's tail. No conditions. -/
import Derived.Test.YtjoapoebeknddaaW0
set_option linter.unusedSimpArgs false
set_option linter.unusedVariables false

open Go Go.Am
namespace T
open Go.Proofs
set_option maxRecDepth 100000
set_option maxHeartbeats 4000000
set_option linter.unusedSimpArgs false
set_option linter.unusedVariables false
variable {base : Nat} {H : Heap}
theorem tail_ok {ρ : Env} {bb m0 : Nat} {s1 : Value} (hv : Hs 572 [(1, s1)] ρ) (h1 : Bytes H s1) :
    Ok (run1 C (cal C) 1001 bb 3 m0 [.tmp 4] (fin C (cal C) 1001 bb ([.code (nodeC [1, 1, 1, 1, 1, 1, 1, 1, 1, 1, 1, 1, 1, 1, 1, 1, 1, 1, 1] bodyF)]) (some (.normal, ρ, H)))) fun v H' => v = bo true := by
  obtain ⟨f1, (hl : List.length ρ = 572)⟩ := hv
  obtain ⟨v, H1, e30, F, n, t, L, x, rfl, rfl, hL, ht⟩ := draw30_c (base := bb) h1
  have hs := ht.shows
  obtain ⟨v1, v2, B, H2, H3, e26, e31, k3, i1, i2, hB⟩ := who2 (base := bb) (n := n) (x := x) hs (by omega)
  obtain ⟨v3, v4, B', H4, H5, e32, e33, k5, i3, i4, hB'⟩ := of2 (base := bb) (n := n) (x := x) (hs.keep k3) hL
  have kk : Keeps H.length H H5 := ((Keeps.append (Nat.le_refl _) F).trans (k3.mono (by simp))).trans (k5.mono (by have := k3.1; simp at this; omega))
  obtain ⟨v, H6, e34, F2, n2, t2, L2, x2, rfl, rfl, hL2, ht2⟩ := draw34_c (base := bb) (h1.keep kk)
  obtain ⟨z, q2, e29, e35⟩ := learn2 (base := bb) (n := n2) (k := x2) ht2.shows hL2
  have e21 := wSame_c (base := bb) ((i1.keep k5).add F2) ((i2.keep k5).add F2) hB true (by simp)
  have e21b := wSame_c (base := bb) (i3.add F2) (i4.add F2) hB' true (by simp)
  generalize (areC n L && inF n x) = q at *
  refine cdk ?_
  refine sq2 fun K1 hK1 => ?_
  -- region 53
  simp only [go_sem, gs, List.length_set, hl, reduceIte, Nat.reduceEqDiff, Nat.reduceLT, f1, e30]
  refine env_gen (N := 572) [(1, s1), (55, gi n), (56, t), (57, gi x)] ?_ fun r1 h' => ?_
  · simp only [Hs, gs, List.length_set, hl, reduceIte, Nat.reduceEqDiff, Nat.reduceLT, f1, and_self, and_true, true_and]
    all_goals rfl
  clear f1 hl
  obtain ⟨f1, f55, f56, f57, (hl : List.length r1 = 572)⟩ := h'
  subst hK1
  refine cdk ?_
  refine sq2 fun K2 hK2 => ?_
  -- region 54
  simp only [go_sem, gs, List.length_set, hl, reduceIte, Nat.reduceEqDiff, Nat.reduceLT, f55, f56, f57, e26]
  refine env_gen (N := 572) [(1, s1), (55, gi n), (56, t), (57, gi x), (58, v1), (59, bo q)] ?_ fun r2 h' => ?_
  · simp only [Hs, gs, List.length_set, hl, reduceIte, Nat.reduceEqDiff, Nat.reduceLT, f1, f55, f56, f57, and_self, and_true, true_and]
    all_goals rfl
  clear f1 f55 f56 f57 hl
  obtain ⟨f1, f55, f56, f57, f58, f59, (hl : List.length r2 = 572)⟩ := h'
  subst hK2
  refine cdk ?_
  refine sq2 fun K3 hK3 => ?_
  -- region 55
  simp only [go_sem, gs, List.length_set, hl, reduceIte, Nat.reduceEqDiff, Nat.reduceLT, f55, f56, f57, e31]
  refine env_gen (N := 572) [(1, s1), (55, gi n), (56, t), (57, gi x), (58, v1), (59, bo q), (60, v2), (61, bo q)] ?_ fun r3 h' => ?_
  · simp only [Hs, gs, List.length_set, hl, reduceIte, Nat.reduceEqDiff, Nat.reduceLT, f1, f55, f56, f57, f58, f59, and_self, and_true, true_and]
    all_goals rfl
  clear f1 f55 f56 f57 f58 f59 hl
  obtain ⟨f1, f55, f56, f57, f58, f59, f60, f61, (hl : List.length r3 = 572)⟩ := h'
  subst hK3
  refine cdk ?_
  refine sq2 fun K4 hK4 => ?_
  -- region 56
  simp only [go_sem, gs, List.length_set, hl, reduceIte, Nat.reduceEqDiff, Nat.reduceLT, f55, f56, f57, e32]
  refine env_gen (N := 572) [(1, s1), (55, gi n), (56, t), (57, gi x), (58, v1), (59, bo q), (60, v2), (61, bo q), (62, v3), (63, bo q)] ?_ fun r4 h' => ?_
  · simp only [Hs, gs, List.length_set, hl, reduceIte, Nat.reduceEqDiff, Nat.reduceLT, f1, f55, f56, f57, f58, f59, f60, f61, and_self, and_true, true_and]
    all_goals rfl
  clear f1 f55 f56 f57 f58 f59 f60 f61 hl
  obtain ⟨f1, f55, f56, f57, f58, f59, f60, f61, f62, f63, (hl : List.length r4 = 572)⟩ := h'
  subst hK4
  refine cdk ?_
  refine sq2 fun K5 hK5 => ?_
  -- region 57
  simp only [go_sem, gs, List.length_set, hl, reduceIte, Nat.reduceEqDiff, Nat.reduceLT, f55, f56, f57, e33]
  refine env_gen (N := 572) [(1, s1), (58, v1), (59, bo q), (60, v2), (61, bo q), (62, v3), (63, bo q), (64, v4), (65, bo q)] ?_ fun r5 h' => ?_
  · simp only [Hs, gs, List.length_set, hl, reduceIte, Nat.reduceEqDiff, Nat.reduceLT, f1, f55, f56, f57, f58, f59, f60, f61, f62, f63, and_self, and_true, true_and]
    all_goals rfl
  clear f1 f55 f56 f57 f58 f59 f60 f61 f62 f63 hl
  obtain ⟨f1, f58, f59, f60, f61, f62, f63, f64, f65, (hl : List.length r5 = 572)⟩ := h'
  subst hK5
  refine cdk ?_
  refine sq2 fun K6 hK6 => ?_
  -- region 58
  simp only [go_sem, gs, List.length_set, hl, reduceIte, Nat.reduceEqDiff, Nat.reduceLT, f1, e34]
  refine env_gen (N := 572) [(58, v1), (59, bo q), (60, v2), (61, bo q), (62, v3), (63, bo q), (64, v4), (65, bo q), (66, gi n2), (67, t2), (68, gi x2)] ?_ fun r6 h' => ?_
  · simp only [Hs, gs, List.length_set, hl, reduceIte, Nat.reduceEqDiff, Nat.reduceLT, f1, f58, f59, f60, f61, f62, f63, f64, f65, and_self, and_true, true_and]
    all_goals rfl
  clear f1 f58 f59 f60 f61 f62 f63 f64 f65 hl
  obtain ⟨f58, f59, f60, f61, f62, f63, f64, f65, f66, f67, f68, (hl : List.length r6 = 572)⟩ := h'
  subst hK6
  refine cdk ?_
  refine sq2 fun K7 hK7 => ?_
  -- region 59
  simp only [go_sem, gs, List.length_set, hl, reduceIte, Nat.reduceEqDiff, Nat.reduceLT, f66, f67, f68, e29]
  refine env_gen (N := 572) [(58, v1), (59, bo q), (60, v2), (61, bo q), (62, v3), (63, bo q), (64, v4), (65, bo q), (66, gi n2), (67, t2), (68, gi x2), (69, gi z), (70, bo q2)] ?_ fun r7 h' => ?_
  · simp only [Hs, gs, List.length_set, hl, reduceIte, Nat.reduceEqDiff, Nat.reduceLT, f58, f59, f60, f61, f62, f63, f64, f65, f66, f67, f68, and_self, and_true, true_and]
    all_goals rfl
  clear f58 f59 f60 f61 f62 f63 f64 f65 f66 f67 f68 hl
  obtain ⟨f58, f59, f60, f61, f62, f63, f64, f65, f66, f67, f68, f69, f70, (hl : List.length r7 = 572)⟩ := h'
  subst hK7
  refine cdk ?_
  refine sq2 fun K8 hK8 => ?_
  -- region 60
  simp only [go_sem, gs, List.length_set, hl, reduceIte, Nat.reduceEqDiff, Nat.reduceLT, f66, f67, f68, e35]
  refine env_gen (N := 572) [(58, v1), (59, bo q), (60, v2), (61, bo q), (62, v3), (63, bo q), (64, v4), (65, bo q), (69, gi z), (70, bo q2), (71, gi z), (72, bo q2)] ?_ fun r8 h' => ?_
  · simp only [Hs, gs, List.length_set, hl, reduceIte, Nat.reduceEqDiff, Nat.reduceLT, f58, f59, f60, f61, f62, f63, f64, f65, f66, f67, f68, f69, f70, and_self, and_true, true_and]
    all_goals rfl
  clear f58 f59 f60 f61 f62 f63 f64 f65 f66 f67 f68 f69 f70 hl
  obtain ⟨f58, f59, f60, f61, f62, f63, f64, f65, f69, f70, f71, f72, (hl : List.length r8 = 572)⟩ := h'
  subst hK8
  refine cdk ?_
  refine sq2 fun K9 hK9 => ?_
  -- region 61
  simp only [go_sem, gs, List.length_set, hl, reduceIte, Nat.reduceEqDiff, Nat.reduceLT, f59, f61, f58, f60, f63, f65, f62, f64, f70, f72, f69, f71, e21, e21b, beq_self_eq_true]
  refine env_gen (N := 572) [(4, bo true)] ?_ fun r9 h' => ?_
  · simp only [Hs, gs, List.length_set, hl, reduceIte, Nat.reduceEqDiff, Nat.reduceLT, f58, f59, f60, f61, f62, f63, f64, f65, f69, f70, f71, f72, and_self, and_true, true_and]
    all_goals rfl
  clear f58 f59 f60 f61 f62 f63 f64 f65 f69 f70 f71 f72 hl
  obtain ⟨f4, (hl : List.length r9 = 572)⟩ := h'
  subst hK9
  refine cdk ?_
  simp only [go_sem, f4, Chb (show wrF 3 = false from rfl)]
  exact .some rfl
end T

