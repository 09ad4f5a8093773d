/- The law: each friend's list. No conditions. -/
import Derived.Test.YtbpeknbhdphilaaL6
open Go Go.Am
namespace T
open Go.Proofs
set_option maxRecDepth 100000
set_option maxHeartbeats 4000000
set_option linter.unusedSimpArgs false
set_option linter.unusedVariables false
variable {base : Nat} {H : Heap}
/-- What stands in the memory where the letters are good. -/
structure Fx (H : Heap) (N : Nat) (M : List (Nat × Nat)) (pI pN : Nat → Bool) (s1 s tI iV nV bV : Value) : Prop where
  by1 : Bytes H s1
  sl : SL H s (toZ M)
  kn : RowsS H tI ((play N M).map bitsOf)
  id : Shows H 1 iV (idx M.length pI).length (ni (idx M.length pI))
  nl : Shows H 1 nV (idx M.length pN).length (ni (idx M.length pN))
  bk : SL H bV (toZ (backN M))
theorem Bytes.keep {H' : Heap} {s : Value} (h : Bytes H s) (hk : Keeps H.length H H') : Bytes H' s := by obtain ⟨m, cs, h1, h2⟩ := h; exact ⟨m, cs, h1.keep hk, h2⟩
theorem Fx.keep {H' : Heap} {N : Nat} {M : List (Nat × Nat)} {pI pN : Nat → Bool} {s1 s tI iV nV bV : Value} (h : Fx H N M pI pN s1 s tI iV nV bV) (hk : Keeps H.length H H') : Fx H' N M pI pN s1 s tI iV nV bV :=
  ⟨h.by1.keep hk, h.sl.keep hk, h.kn.keep hk, h.id.keep hk, h.nl.keep hk, h.bk.keep hk⟩
/-- The letters are good. -/
structure Gx (N : Nat) (M : List (Nat × Nat)) : Prop where
  n0 : 0 < N
  n10 : N ≤ 10
  len : M.length ≤ 60
  good : Good N M
def thenOf : Code → Code
  | .seq (.seq _ (.cond _ a _)) _ => a
  | c => c
noncomputable def okA : Code := thenOf (sndN 16 bodyF)
/-- The named variables of the law. -/
abbrev vars (N : Nat) (s1 s tI iV nV bV : Value) (all th : Bool) (need : Int) : List (Nat × Value) :=
  [(1, s1), (5, gi N), (6, s), (7, tI), (11, bo all), (15, gi need), (16, bo th), (19, iV), (23, nV), (27, bV)]
theorem rowLen {x : Nat} : (bitsOf x).length ≤ 16 := by
  have := List.length_filter_le x.testBit (List.range 16)
  simpa [bitsOf, bitsTo] using this
theorem rowsLen (B : List Nat) : ∀ r ∈ B.map bitsOf, r.length < 1000 := fun r hr => by
  obtain ⟨x, _, rfl⟩ := List.mem_map.1 hr
  have := rowLen (x := x); omega
theorem idxLen (N : Nat) (p : Nat → Bool) : (idx N p).length ≤ N := by
  have := List.length_filter_le p (List.range N); simpa [idx] using this
theorem one_ok {ρ : Env} {bb m0 N : Nat} {M : List (Nat × Nat)} {pI pN : Nat → Bool} {s1 s tI iV nV bV : Value} {all th : Bool} {need : Int} {k : List It} {Q : Value → Heap → Prop}
    (hv : Hs (vars N s1 s tI iV nV bV all th need) ρ) (hx : Fx H N M pI pN s1 s tI iV nV bV) (hg : Gx N M) (hall : all = allK (play N M))
    (next : ∀ ρ, Hs (vars N s1 s tI iV nV bV all th need) ρ → Ok (run1 C (cal C) 1001 bb 3 m0 [.tmp 4] (fin C (cal C) 1001 bb (.code (sndN 2 okA) :: k) (some (.normal, ρ, H)))) Q) :
    Ok (run1 C (cal C) 1001 bb 3 m0 [.tmp 4] (fin C (cal C) 1001 bb (.code okA :: k) (some (.normal, ρ, H)))) Q := by
  obtain ⟨f1, f5, f6, f7, f11, f15, f16, f19, f23, f27, (hl : List.length ρ = 493)⟩ := hv
  have hpl := play_len N M
  have hN := hg.n10
  have e23i := wRises_c (base := bb) hx.id (by have := idxLen M.length pI; have := hg.len; omega) true (rises_idx _ _).symm
  have e23n := wRises_c (base := bb) hx.nl (by have := idxLen M.length pN; have := hg.len; omega) true (rises_idx _ _).symm
  obtain ⟨at', ct, htI⟩ := hx.kn.choose_spec.1.sl
  rw [List.length_map, hpl] at htI
  -- region 19
  refine sqk fun K hK => ?_
  rw [htI] at f7
  simp only [go_sem, gs, List.length_set, hl, f5, f7, f19, f23, e23i, e23n, bne_self_eq_false, Bool.not_true, reduceIte, Nat.reduceEqDiff, Nat.reduceLT]
  subst hK
  -- region 21
  refine sqk fun K hK => ?_
  refine sq2 fun K2 hK2 => ?_
  simp only [go_sem, gs, List.length_set, hl, f7, reduceIte, Nat.reduceEqDiff, Nat.reduceLT]
  subst hK2
  refine env_gen ((262, tI) :: (263, gi N) :: (264, gi (0 : Nat)) :: vars N s1 s tI iV nV bV all th need) ?_ fun ρ' h' => ?_
  · rw [htI]
    simp only [Hs, gs, List.length_set, hl, f1, f5, f6, f7, f11, f15, f16, f19, f23, f27, reduceIte, Nat.reduceEqDiff, Nat.reduceLT, and_self, and_true, true_and]
    all_goals rfl
  clear f1 f5 f6 f7 f11 f15 f16 f19 f23 f27 hl ρ
  -- the loop
  refine cdk ?_
  simp only [fin_block]
  rw [fin_loopk [265, 266, 267, 268, 31, 32, 269, 270, 271, 272, 277, 278, 286, 4, 287] rfl]
  refine lp_env (fun j ρ H' => ∃ i : Nat, i + j = N ∧ H' = H ∧ Hs ((262, tI) :: (263, gi N) :: (264, gi i) :: vars N s1 s tI iV nV bV all th need) ρ) ?_ N (by omega) ⟨0, by omega, rfl, h'⟩
  rintro j m ρ H' ⟨i, hij, rfl, hh⟩ ih
  have hh := hh.wipe (ks := [265, 266, 267, 268, 31, 32, 269, 270, 271, 272, 277, 278, 286, 4, 287]) rfl
  generalize wipe [265, 266, 267, 268, 31, 32, 269, 270, 271, 272, 277, 278, 286, 4, 287] ρ = ρ1 at hh
  obtain ⟨f262, f263, f264, f1, f5, f6, f7, f11, f15, f16, f19, f23, f27, (hl : List.length ρ1 = 493)⟩ := hh
  cases hlt : decide ((i : Int) < (N : Int))
  · simp only [go_sem, gs, List.length_set, hl, f262, f263, f264, hlt, reduceIte, Nat.reduceEqDiff, Nat.reduceLT]
    subst hK
    refine env_gen (vars N s1 s tI iV nV bV all th need) ?_ fun ρ h => next ρ h
    simp only [Hs, gs, List.length_set, hl, f1, f5, f6, f7, f11, f15, f16, f19, f23, f27, reduceIte, Nat.reduceEqDiff, Nat.reduceLT, and_self]
  · have hi : i < N := by have := of_decide_eq_true hlt; omega
    have hir : i < ((play N M).map bitsOf).length := by rw [List.length_map, hpl]; exact hi
    have hip : i < (play N M).length := by rw [hpl]; exact hi
    obtain ⟨b, o, T0, cs, v, k1, k2, k3, k4⟩ := hx.kn.el hir
    have er : ((play N M).map bitsOf)[i] = bitsOf (play N M)[i] := by simp
    rw [er] at k4
    have hrl := rowLen (x := (play N M)[i])
    have e23 := wRises_c (base := bb) k4 (by omega) true (rises_bits _).symm
    have e24 := wHas_c (base := bb) (n := i) k4 (by omega) true (decide_eq_true (self_bit hN hg.good.inN hip)).symm
    obtain ⟨av, cv, rfl⟩ := k4.sl
    have hwi : IntKind.i64.wrap ((i : Int) + 1) = ((i + 1 : Nat) : Int) := wrapN (by omega)
    cases all
    case false =>
      simp only [go_sem, gs, List.length_set, hl, f262, f263, f264, f11, hlt, k1, k2, k3, e23, e24, hwi, Bool.not_true, reduceIte, Nat.reduceEqDiff, Nat.reduceLT]
      refine ih (j - 1) _ _ (by omega) ⟨i + 1, by omega, rfl, ?_⟩
      simp only [Hs, gs, List.length_set, hl, f262, f263, f264, f1, f5, f6, f7, f11, f15, f16, f19, f23, f27, reduceIte, Nat.reduceEqDiff, Nat.reduceLT, and_self]
    case true =>
      have hrow := row_full hN hall.symm hip
      have hne : (((bitsOf (play N M)[i]).length : Int) != (N : Int)) = false := by rw [hrow]; exact bne_self_eq_false _
      simp only [go_sem, gs, List.length_set, hl, f262, f263, f264, f11, f5, hlt, k1, k2, k3, e23, e24, hwi, hne, Bool.not_true, reduceIte, Nat.reduceEqDiff, Nat.reduceLT]
      refine ih (j - 1) _ _ (by omega) ⟨i + 1, by omega, rfl, ?_⟩
      simp only [Hs, gs, List.length_set, hl, f262, f263, f264, f1, f5, f6, f7, f11, f15, f16, f19, f23, f27, reduceIte, Nat.reduceEqDiff, Nat.reduceLT, and_self]
end T

