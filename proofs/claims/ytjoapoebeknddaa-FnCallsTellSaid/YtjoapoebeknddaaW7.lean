/- The law answers true, in the small machine and in the real one. No conditions. -/
import Derived.Test.YtjoapoebeknddaaW0
import Derived.Test.YtjoapoebeknddaaW5
import Derived.Test.YtjoapoebeknddaaW6
set_option linter.unusedSimpArgs false
set_option linter.unusedVariables false
open Go Go.Am
namespace T
open Go.Proofs
set_option maxRecDepth 100000
set_option maxHeartbeats 4000000
set_option linter.unusedSimpArgs false
set_option linter.unusedVariables false
variable {base : Nat} {H : Heap}
theorem law_c {s0 s1 : Value} (h0 : Bytes H s0) (h1 : Bytes H s1) : Ok (cal C base 3 [s0, s1] H) fun v H' => v = bo true := by
  refine ok_fn Try.func3 rfl rfl (res := [.tmp 4]) rfl Try.ntmps3 1001 base _ H ?_
  refine env_gen (N := 572) [(0, s0), (1, s1)] ⟨rfl, rfl, (rfl : List.length _ = 572)⟩ fun r0 ⟨f0, f1, (hl : List.length r0 = 572)⟩ => ?_
  rw [show (if C.wr 3 then base else H.length) = H.length from rfl]
  obtain ⟨q, e4⟩ : ∃ q, cal C H.length 4 [s0, s1] H = some (bo q, H) := by
    obtain ⟨a, m, c, rfl, _⟩ := h0
    obtain ⟨a', m', c', rfl, _⟩ := h1
    exact big_c
  obtain ⟨v, H1, e5, F, n, s, L, rfl, rfl, hL, ht⟩ := draw_c (base := H.length) h0
  refine cdk ?_
  refine sq2 fun Ka hKa => ?_
  -- region 0
  simp only [go_sem, gs, List.length_set, hl, reduceIte, Nat.reduceEqDiff, Nat.reduceLT]
  refine env_gen (N := 572) [(0, s0), (1, s1)] ?_ fun r1 h' => ?_
  · simp only [Hs, gs, List.length_set, hl, reduceIte, Nat.reduceEqDiff, Nat.reduceLT, f0, f1, and_self, and_true, true_and]
    all_goals (and_intros <;> rfl)
  clear f0 f1 hl
  obtain ⟨f0, f1, (hl : List.length r1 = 572)⟩ := h'
  subst hKa
  refine cdk ?_
  refine sq2 fun Kb hKb => ?_
  refine sq2 fun Kc hKc => ?_
  -- region 1
  simp only [go_sem, gs, List.length_set, hl, reduceIte, Nat.reduceEqDiff, Nat.reduceLT, f0, f1, e4]
  refine env_gen (N := 572) [(0, s0), (1, s1), (75, bo q)] ?_ fun r2 h' => ?_
  · simp only [Hs, gs, List.length_set, hl, reduceIte, Nat.reduceEqDiff, Nat.reduceLT, f0, f1, and_self, and_true, true_and]
    all_goals (and_intros <;> rfl)
  clear f0 f1 hl
  obtain ⟨f0, f1, f75, (hl : List.length r2 = 572)⟩ := h'
  subst hKc
  refine cdk ?_
  cases q
  · skip
    rw [cd_f f75, fin_skip]
    subst hKb
    refine cdk ?_
    refine sq2 fun K1 hK1 => ?_
    -- region 3
    simp only [go_sem, gs, List.length_set, hl, reduceIte, Nat.reduceEqDiff, Nat.reduceLT, f0, e5]
    refine env_gen (N := 572) [(1, s1), (5, gi n), (6, s)] ?_ fun r3 h' => ?_
    · simp only [Hs, gs, List.length_set, hl, reduceIte, Nat.reduceEqDiff, Nat.reduceLT, f0, f1, and_self, and_true, true_and]
      all_goals (and_intros <;> rfl)
    clear f0 f1 f75 hl
    obtain ⟨f1, f5, f6, (hl : List.length r3 = 572)⟩ := h'
    subst hK1
    refine cdk ?_
    refine uncd ?_
    have hs : SL (H ++ F) s L := ht.shows
    cases hq : areC n L
    · exact bad_ok ⟨f1, f5, f6, hl⟩ (h1.add F) hs hL hq
    · obtain ⟨N, M, rfl, hN, hN0, rfl, hM, hg⟩ := areC_lt hq
      exact good_ok (by simp) ⟨f1, f5, f6, hl⟩ (h1.add F) hs ⟨hN0, hN, hM, hg⟩
  · skip
    rw [cd_t f75]
    refine sq2 fun K2 hK2 => ?_
    -- region 2
    simp only [go_sem, gs, List.length_set, hl, reduceIte, Nat.reduceEqDiff, Nat.reduceLT]
    refine env_gen (N := 572) [(4, bo true)] ?_ fun r4 h' => ?_
    · simp only [Hs, gs, List.length_set, hl, reduceIte, Nat.reduceEqDiff, Nat.reduceLT, and_self, and_true, true_and]
      all_goals (and_intros <;> rfl)
    clear f0 f1 f75 hl
    obtain ⟨f4, (hl : List.length r4 = 572)⟩ := h'
    subst hK2
    refine cdk ?_
    subst hKb
    simp only [go_sem, f4, Chb (show wrF 3 = false from rfl)]
    exact .some rfl
end T

/- The small machine's answer is the real one's, for the law FnCallsTell. No conditions. -/
open Go Go.Am
namespace T
open Go.Proofs Go.RowKit
set_option maxRecDepth 100000
set_option linter.unusedVariables false
/-- A row of whole numbers of an argument. -/
def RowAt (k : IntKind) (w : World) (a : Option Addr) (len cap : Nat) (zs : List Int) : Prop :=
  (a = none ∧ len = 0 ∧ cap = 0 ∧ zs = []) ∨
  ∃ x, a = some x ∧ len ≤ cap ∧ cap ≤ maxLen ∧ zs.length = cap ∧ (∀ i, i < zs.length → w.cell? (x.add i) = some (.int k (zs.getD i 0))) ∧ ∀ n ∈ zs, (Lit.int k n).wf = true
/-- What the small machine has for it. -/
theorem rowS {W : World} {a : Option Addr} {len cap : Nat} {zs : List Int} (h : RowAt .u8 W a len cap zs) (b : Nat) (H : Heap) (hb : ∃ cs, hget H b = some (5, cs) ∧ cs = (zs.take len).map (.int .u8 ·)) :
    ∃ (v : Value) (m : Option (Nat × Nat × Nat)), Bytes H v ∧ (∀ β : Beta, (∀ z, m = some z → β b = some z) → VR β v (.slice a len cap)) ∧
      (∀ B s N, m = some (B, s, N) → B < W.heap.size ∧ ∀ i, i < (zs.take len).length → ∃ u, W.cell? ⟨B, s + i, none⟩ = some u ∧ u = .int .u8 ((zs.take len).getD i 0)) := by
  by_cases hc : cap = 0
  · subst hc
    have hl : len = 0 := by rcases h with ⟨_, h, _⟩ | ⟨x, _, h, _⟩ <;> omega
    subst hl
    exact ⟨.slice none 0 1, none, ⟨none, 0, 1, rfl, .inl rfl⟩, fun β _ => .semp a, fun B s N e => nomatch e⟩
  · rcases h with ⟨_, _, h, _⟩ | ⟨x, rfl, h1, h2, h3, h4, h5⟩
    · exact absurd h hc
    obtain ⟨B, s, sp⟩ := x
    have hsp : sp = none := by
      have := h4 0 (by omega)
      cases sp with
      | none => rfl
      | some q => simp [World.cell?, Addr.add] at this; split at this <;> simp_all
    subst hsp
    have hadd : ∀ i, (⟨B, s, none⟩ : Addr).add i = ⟨B, s + i, none⟩ := fun i => by
      unfold Addr.add; split
      · rename_i e; have e : i = 0 := by simpa using e
        subst e; rfl
      · rfl
    have hcell : ∀ i, i < cap → W.cell? ⟨B, s + i, none⟩ = some (.int .u8 (zs.getD i 0)) := fun i hi => by rw [← hadd]; exact h4 i (by omega)
    have hB : B < W.heap.size := by
      have := hcell 0 (by omega)
      unfold World.cell? at this
      rcases Nat.lt_or_ge B W.heap.size with h | h
      · exact h
      · simp only [Array.getElem?_eq_none h] at this; cases this
    obtain ⟨cs, hg, rfl⟩ := hb
    have hlen : (zs.take len).length = len := by simp; omega
    refine ⟨.slice (some ⟨b, 0, some 1⟩) len len, some (B, s, s + cap), ⟨some ⟨b, 0, some 1⟩, len, len, rfl, .inr ⟨(zs.take len).map (.int .u8 ·), .inr ⟨b, 0, len, 5, _, rfl, hg, by rw [List.length_map, hlen]; omega, by rw [List.drop_zero, Nat.mul_one, List.take_of_length_le (by rw [List.length_map, hlen]; exact Nat.le_refl _)], Nat.le_refl _⟩, fun i hi => ?_⟩⟩, fun β hβ => ?_, fun B' s' N' e => ?_⟩
    · have hi' : i < zs.length := by omega
      have hw := h5 zs[i] (List.getElem_mem hi')
      simp only [Lit.wf, Bool.and_eq_true, decide_eq_true_eq] at hw
      have hmin : IntKind.u8.min = 0 := rfl
      have hmax : IntKind.u8.max = 255 := rfl
      rw [hmin, hmax] at hw
      refine ⟨zs[i].toNat, by omega, ?_⟩
      rw [List.getElem?_map, List.getElem?_take, if_pos hi, List.getElem?_eq_getElem hi', Option.map_some, Int.toNat_of_nonneg hw.1]
    · exact .sl (hβ _ rfl) (Nat.le_refl _) h1 (fun _ => rfl) (by omega)
    · cases e
      refine ⟨hB, fun i hi => ⟨_, hcell i (by omega), ?_⟩⟩
      have hi1 : i < len := by omega
      have hi2 : i < zs.length := by omega
      simp [hi1, hi2]
theorem walk_c (a0 : Option Addr) (len0 cap0 : Nat) (z0 : List Int) (a1 : Option Addr) (len1 cap1 : Nat) (z1 : List Int) (W : World) (w0 : RowAt .u8 W a0 len0 cap0 z0) (w1 : RowAt .u8 W a1 len1 cap1 z1) :
    Calls Try.prog 3 #[.slice a0 len0 cap0, .slice a1 len1 cap1] W fun e W' => e = .returned (.bool true) ∧ Below W.heap.size W W' := by
  obtain ⟨H0, hH⟩ : ∃ H : Heap, H = [some (5, (z0.take len0).map (.int .u8 ·)), some (5, (z1.take len1).map (.int .u8 ·))] := ⟨_, rfl⟩
  obtain ⟨v0, m0, b0, r0, c0⟩ := rowS w0 0 H0 ⟨_, by rw [hH]; rfl, rfl⟩
  obtain ⟨v1, m1, b1, r1, c1⟩ := rowS w1 1 H0 ⟨_, by rw [hH]; rfl, rfl⟩
  obtain ⟨β, hβ⟩ : ∃ β : Beta, β = fun b => if b = 0 then m0 else if b = 1 then m1 else none := ⟨_, rfl⟩
  have g0 : β 0 = m0 := by rw [hβ]; rfl
  have g1 : β 1 = m1 := by rw [hβ]; rfl
  have g2 : ∀ b, 2 ≤ b → β b = none := fun b hb => by rw [hβ]; simp only; rw [if_neg (by omega), if_neg (by omega)]
  have hlen : H0.length = 2 := by rw [hH]; rfl
  have hcase : ∀ b, 2 ≤ b ∨ b = 0 ∨ b = 1 := fun b => by omega
  have hs : Sim 2 β H0 W := by
    refine ⟨fun b x h => ?_, fun b B s N _ h => ?_, fun b T cs B s N h h' i hi => ?_, fun b T cs B s N hb _ h => ?_, fun b b' B s N s' N' hb _ _ h => ?_⟩
    · rcases hcase b with hb | rfl | rfl
      · rw [g2 b hb] at h; cases h
      · omega
      · omega
    · rcases hcase b with hb | rfl | rfl
      · rw [g2 b hb] at h; cases h
      · rw [g0] at h; exact (c0 B s N h).1
      · rw [g1] at h; exact (c1 B s N h).1
    · have cell : ∀ (z : List Int) (u : Value), i < z.length → u = .int .u8 (z.getD i 0) → isCell ((z.map (.int .u8 ·)).getD i undef) = true ∧ VR β ((z.map (.int .u8 ·)).getD i undef) u := by
        intro z u hz hu
        have e : (z.map (Value.int .u8 ·)).getD i undef = .int .u8 (z.getD i 0) := by simp [hz]
        rw [e, hu]; exact ⟨rfl, .sc rfl⟩
      rcases hcase b with hb | rfl | rfl
      · rw [g2 b hb] at h'; cases h'
      · rw [g0] at h'
        rw [hH] at h
        simp only [List.getElem?_cons_zero, Option.some.injEq, Prod.mk.injEq] at h
        obtain ⟨rfl, rfl⟩ := h
        have hi' : i < (z0.take len0).length := by simpa using hi
        obtain ⟨u, k1, k2⟩ := (c0 B s N h').2 i hi'
        exact ⟨(cell _ u hi' k2).1, u, k1, (cell _ u hi' k2).2⟩
      · rw [g1] at h'
        rw [hH] at h
        simp only [List.getElem?_cons_succ, List.getElem?_cons_zero, Option.some.injEq, Prod.mk.injEq] at h
        obtain ⟨rfl, rfl⟩ := h
        have hi' : i < (z1.take len1).length := by simpa using hi
        obtain ⟨u, k1, k2⟩ := (c1 B s N h').2 i hi'
        exact ⟨(cell _ u hi' k2).1, u, k1, (cell _ u hi' k2).2⟩
    · rw [g2 b hb] at h; cases h
    · rw [g2 b hb] at h; cases h
  obtain ⟨v, H', hcal, rfl⟩ := law_c (base := H0.length) b0 b1
  have hargs : VRL β [v0, v1] (#[Value.slice a0 len0 cap0, .slice a1 len1 cap1] : Array Value).toList := .cons (r0 β fun z hz => by rw [g0, hz]) (.cons (r1 β fun z hz => by rw [g1, hz]) (.nil _))
  refine (cal_ok (C := C) (show C.P.follows .mixedOrders = true by kernel_rfl) (fun _ _ _ _ _ _ h => nomatch h) (FrnOk.none fun _ => rfl) (nf := 2) (by omega) (Nat.le_refl _) hcal hs hargs).mono ?_
  rintro e W' ⟨v', β', rfl, hv, hp⟩
  rw [hv.of_sc rfl]
  exact ⟨rfl, hp.below hs⟩
end T

