/- The law FnNewsDelayed in plain Lean: it returns true at every input. No conditions. -/
import Derived.Test.YtjkjdlpmbpgjgaaPFnNewsDelayedx
import Derived.Test.YtjkjdlpmbpgjgaaGr
import Derived.Test.YtjkjdlpmbpgjgaaGp
namespace Go.Proofs.Ytjkjdlpmbpgjgaa.Pure
open Go.RowKit Go.Proofs.Ytjkjdlpmbpgjgaa.PFnNewsDelayed Go.Proofs.YtjkjdlpmbpgjgaaW.PrintWords Go.Proofs.YtjkjdlpmbpgjgaaW.PrintLast Go.Proofs.YtjkjdlpmbpgjgaaW.PrintMore Go.Proofs.Ytjkjdlpmbpgjgaa.Gr Go.Proofs.Ytjkjdlpmbpgjgaa.Gp
set_option linter.unusedVariables false
set_option linter.unusedSimpArgs false


def lD : List Int := [1, 2, 3, 4, 10, 11, 0]
def lM : List Int := [0, 1, 2, 3, 5, 8, 13, 60, 61, -1]
def lP : List Int := [1, 2, 3, 4, 5, 8, 100, 1000000, 1000001, 0, -1]
/-- the numbers of rounds that are enough at all that is drawn -/
abbrev KK : Nat := 400
def vI (d m : Int) : Int × Bool := (impl_InformedAt.f KK d m).getD (0, false)
def vN (d m : Int) : Int × Bool := (impl_NewAt.f KK d m).getD (0, false)
def vM (d p : Int) : Int × Bool := (impl_MinutesFor.f KK d p).getD (0, false)
def vG (p m : Int) : Int × Bool := (impl_GreatestDelay.f KK p m).getD (0, false)
def vQ (e q : Int) : List S36 × Bool := (impl_QuickSends.f KK e q).getD ([], false)
def vE (e q : Int) : List S36 × Bool := (spec_QuickSends.f KK e q).getD ([], false)
set_option maxRecDepth 100000 in
theorem tI : ∀ d ∈ lD, ∀ m ∈ lM, impl_InformedAt.f KK d m = some (vI d m) ∧ spec_InformedAt.f KK d m = some (vI d m) ∧ impl_NewAt.f KK d m = some (vN d m) ∧ spec_NewAt.f KK d m = some (vN d m) ∧ (vN d m).2 = (vI d m).2 := by decide +kernel
set_option maxRecDepth 100000 in
theorem tI2 : ∀ d ∈ lD, ∀ m ∈ lM, (vI d m).2 = true → smallI d ∧ smallI m ∧ smallI (vI d m).1 ∧ smallI (vI d (m - 1)).1 ∧ (0 < m → impl_InformedAt.f KK d (m - 1) = some ((vI d (m - 1)).1, true)) ∧ (¬ 0 < m → (vI d (m - 1)).1 = 0) ∧ (vN d m).1 = (vI d m).1 - (vI d (m - 1)).1 ∧ 1 ≤ (vI d m).1 ∧ (d ≤ m → impl_InformedAt.f KK d (m - d) = some ((vN d m).1, true)) := by decide +kernel
set_option maxRecDepth 100000 in
theorem tI3 : ∀ d ∈ lD, ∀ m ∈ lM, (vI d m).2 = true → (vI d m).1 ≤ 1000000 → impl_MinutesFor.f KK d (vI d m).1 = some ((vM d (vI d m).1).1, true) ∧ (vM d (vI d m).1).1 ≤ m ∧ (0 < (vN d m).1 → (vM d (vI d m).1).1 = m) := by decide +kernel
set_option maxRecDepth 100000 in
theorem tM : ∀ d ∈ lD, ∀ p ∈ lP, impl_MinutesFor.f KK d p = some (vM d p) ∧ spec_MinutesFor.f KK d p = some (vM d p) := by decide +kernel
set_option maxRecDepth 100000 in
theorem tM2 : ∀ d ∈ lD, ∀ p ∈ lP, (vM d p).2 = true → smallI (vM d p).1 ∧ ((vM d p).1 ≤ 60 → impl_InformedAt.f KK d (vM d p).1 = some ((vI d (vM d p).1).1, true) ∧ p ≤ (vI d (vM d p).1).1 ∧ (0 < (vM d p).1 → impl_InformedAt.f KK d ((vM d p).1 - 1) = some ((vI d ((vM d p).1 - 1)).1, true) ∧ (vI d ((vM d p).1 - 1)).1 < p)) := by decide +kernel
set_option maxRecDepth 100000 in
theorem tG : ∀ p ∈ lP, ∀ m ∈ lM, impl_GreatestDelay.f KK p m = some (vG p m) ∧ spec_GreatestDelay.f KK p m = some (vG p m) := by decide +kernel
set_option maxRecDepth 100000 in
theorem tG2 : ∀ p ∈ lP, ∀ m ∈ lM, (vG p m).2 = true → smallI (vG p m).1 ∧ impl_MinutesFor.f KK (vG p m).1 p = some ((vM (vG p m).1 p).1, true) ∧ (vM (vG p m).1 p).1 ≤ m ∧ ((vG p m).1 < 10 → impl_MinutesFor.f KK ((vG p m).1 + 1) p = some ((vM ((vG p m).1 + 1) p).1, true) ∧ m < (vM ((vG p m).1 + 1) p).1) := by decide +kernel
def lE : List Int := [0, 1, 10, 11, -1, 2, 3, 4]
def lQ : List Int := [0, 1, 40, 41, -1, 2, 3, 4, 5, 6, 7, 8]
instance (l : List S36) (i : Nat) : Decidable (qOk l i) := by unfold qOk; infer_instance
set_option maxRecDepth 100000 in
theorem tQ : ∀ e ∈ lE, ∀ q ∈ lQ, (impl_QuickSends.f KK e q).isSome = true ∧ (spec_QuickSends.f KK e q).isSome = true ∧ (vE e q).2 = (vQ e q).2 ∧ laws_dSends.f KK (vQ e q).1 (vE e q).1 = some true := by decide +kernel
set_option maxRecDepth 100000 in
theorem tQ2 : ∀ e ∈ lE, ∀ q ∈ lQ, (vQ e q).2 = true → smallI q ∧ impl_AreSends.f e q (vQ e q).1 = some (true, true) ∧ impl_LateBy.f KK e q (vQ e q).1 = some (0, true) ∧ ((vQ e q).1.length : Int) = q - 1 ∧ (vQ e q).1.length ≤ 1000 ∧ ∀ i, i < (vQ e q).1.length → qOk (vQ e q).1 i := by decide +kernel
theorem some_of {α : Type} {o : Option α} {z : α} (h : o.isSome = true) : o = some (o.getD z) := by
  cases o with
  | none => cases h
  | some x => rfl
/-! what is drawn -/
theorem among_mem {l0 : List Int} (hb : byteOk l0 = true) (a s : Int) (xs : List Int) (h0 : 0 ≤ a) (h1 : a ≤ 900000) (hn : 1 ≤ xs.length) (hn2 : xs.length ≤ 200) : ∃ v a' s', spec_l1Cur_among.f l0 a s xs = some (v, a', s') ∧ v ∈ xs ∧ a ≤ a' ∧ a' ≤ a + 1 := by
  obtain ⟨r, a', s', hf, r0, r1, a0, a1⟩ := pick_ok hb a s (xs.length : Int) h0 h1 (by omega) (by omega)
  obtain ⟨i, rfl⟩ := Int.eq_ofNat_of_zero_le r0
  have hi : i < xs.length := by omega
  refine ⟨xs[i], a', s', ?_, List.getElem_mem hi, a0, a1⟩
  unfold spec_l1Cur_among.f
  rw [hf, Option.bind_some, if_pos r0, if_pos r1]
  unfold rd
  rw [Int.toNat_natCast, getD_at _ i hi]
theorem drawI {l0 : List Int} (hb : byteOk l0 = true) : ∃ d m, spec_DrawInformedAt.f l0 = some (d, m) ∧ d ∈ lD ∧ m ∈ lM := by
  obtain ⟨d, a1, s1, h1, m1, a10, a11⟩ := among_mem hb 0 0 [1, 2, 3, 4, 10, 11, 0] (by omega) (by omega) (by decide) (by decide)
  obtain ⟨m, a2, s2, h2, m2, _, _⟩ := among_mem hb a1 s1 [0, 1, 2, 3, 5, 8, 13, 60, 61, -1] (by omega) (by omega) (by decide) (by decide)
  refine ⟨d, m, ?_, m1, m2⟩
  unfold spec_DrawInformedAt.f
  rw [h1, Option.bind_some, h2]
  rfl
theorem drawM {l0 : List Int} (hb : byteOk l0 = true) : ∃ d p, spec_DrawMinutesFor.f l0 = some (d, p) ∧ d ∈ lD ∧ p ∈ lP := by
  obtain ⟨d, a1, s1, h1, m1, a10, a11⟩ := among_mem hb 0 0 [1, 2, 3, 4, 10, 11, 0] (by omega) (by omega) (by decide) (by decide)
  obtain ⟨m, a2, s2, h2, m2, _, _⟩ := among_mem hb a1 s1 [1, 2, 3, 4, 5, 8, 100, 1000000, 1000001, 0, -1] (by omega) (by omega) (by decide) (by decide)
  refine ⟨d, m, ?_, m1, m2⟩
  unfold spec_DrawMinutesFor.f
  rw [h1, Option.bind_some, h2]
  rfl
theorem drawG {l0 : List Int} (hb : byteOk l0 = true) : ∃ p m, spec_DrawGreatestDelay.f l0 = some (p, m) ∧ p ∈ lP ∧ m ∈ lM := by
  obtain ⟨d, p, h1, _, hp⟩ := drawM hb
  obtain ⟨d2, m, h2, _, hm⟩ := drawI hb
  refine ⟨p, m, ?_, hp, hm⟩
  unfold spec_DrawGreatestDelay.f
  rw [h1, Option.bind_some, h2]
  rfl
theorem lE_of : ∀ i : Fin 4, 1 + ((i : Nat) : Int) ∈ lE := by decide
theorem lQ_of : ∀ i : Fin 8, 1 + ((i : Nat) : Int) ∈ lQ := by decide
theorem lE_5 : ∀ x ∈ ([0, 1, 10, 11, -1] : List Int), x ∈ lE := by decide
theorem lQ_5 : ∀ x ∈ ([0, 1, 40, 41, -1] : List Int), x ∈ lQ := by decide
theorem drawQ {l0 : List Int} (hb : byteOk l0 = true) : ∃ e q, spec_DrawQuickSends.f l0 = some (e, q) ∧ e ∈ lE ∧ q ∈ lQ := by
  obtain ⟨d, a1, s1, h1, d0, d1, a10, a11⟩ := pick_ok hb 0 0 4 (by omega) (by omega) (by omega) (by omega)
  obtain ⟨p, a2, s2, h2, p0, p1, a20, a21⟩ := pick_ok hb a1 s1 8 (by omega) (by omega) (by omega) (by omega)
  obtain ⟨q, a3, s3, h3, q0, q1, a30, a31⟩ := pick_ok hb a2 s2 14 (by omega) (by omega) (by omega) (by omega)
  have ho : spec_l1Cur_one.f l0 a2 s2 14 = some (q == 0, a3, s3) := by unfold spec_l1Cur_one.f; rw [h3]; rfl
  unfold spec_DrawQuickSends.f
  rw [if_pos hb]
  unfold delD
  rw [h1, Option.bind_some, h2, Option.bind_some, ho, Option.bind_some]
  cases hq : (q == 0) with
  | true =>
    obtain ⟨u, a4, s4, h4, m4, a40, a41⟩ := among_mem hb a3 s3 [0, 1, 10, 11, -1] (by omega) (by omega) (by decide) (by decide)
    obtain ⟨v, a5, s5, h5, m5, _, _⟩ := among_mem hb a4 s4 [0, 1, 40, 41, -1] (by omega) (by omega) (by decide) (by decide)
    refine ⟨u, v, ?_, lE_5 u m4, lQ_5 v m5⟩
    rw [if_pos rfl]
    simp only
    rw [h4, Option.bind_some, h5]
    rfl
  | false =>
    obtain ⟨D, rfl⟩ := Int.eq_ofNat_of_zero_le d0
    obtain ⟨Q, rfl⟩ := Int.eq_ofNat_of_zero_le p0
    exact ⟨1 + (D : Int), 1 + (Q : Int), by rw [if_neg Bool.false_ne_true], lE_of ⟨D, by omega⟩, lQ_of ⟨Q, by omega⟩⟩
theorem byteOk_of {l : List Int} (h : ∀ x ∈ l, (Lit.int .u8 x).wf = true) : byteOk l = true := by
  unfold byteOk
  rw [List.all_eq_true]
  intro x hx
  have h2 := h x hx
  simp only [Lit.wf, IntKind.min, IntKind.max, IntKind.signed, IntKind.bits, Bool.and_eq_true, decide_eq_true_eq, if_true, Bool.false_eq_true, if_false] at h2
  rw [decide_eq_true_eq]
  omega
theorem big_tot (l0 l1 : List Int) : laws_big.f l0 l1 = some true ∨ laws_big.f l0 l1 = some false := by
  unfold laws_big.f
  split
  · exact .inl rfl
  · cases h : decide ((l1.length : Int) > wrap64 (1048576 - (l0.length : Int))) with
    | true => exact .inl rfl
    | false => exact .inr rfl
theorem FnNewsDelayed : laws_FnNewsDelayed.Pure := by
  intro l0 l1 _ _ h0 _ _ h1
  rcases big_tot l0 l1 with h | h
  · exact .inl h
  · refine .inr ⟨h, KK, ?_⟩
    obtain ⟨d, m, D1, hd, hm⟩ := drawI (byteOk_of h0)
    obtain ⟨d2, p, D2, hd2, hp⟩ := drawM (byteOk_of h1)
    obtain ⟨p3, m3, D3, hp3, hm3⟩ := drawG (byteOk_of h1)
    obtain ⟨e, q, D4, he, hq⟩ := drawQ (byteOk_of h1)
    obtain ⟨i1, i2, i3, i4, i5⟩ := tI d hd m hm
    obtain ⟨m1, m2⟩ := tM d2 hd2 p hp
    obtain ⟨g1, g2⟩ := tG p3 hp3 m3 hm3
    obtain ⟨q1, q2, q3, q4⟩ := tQ e he q hq
    refine ⟨d, m, (vI d m).1, (vN d m).1, (vI d (m - 1)).1, (vM d (vI d m).1).1, (vI d m).2, d2, p, (vM d2 p).1, (vI d2 (vM d2 p).1).1, (vI d2 ((vM d2 p).1 - 1)).1, (vM d2 p).2, p3, m3, (vG p3 m3).1, (vM (vG p3 m3).1 p3).1, (vM ((vG p3 m3).1 + 1) p3).1, (vG p3 m3).2, e, q, (vQ e q).1, (vE e q).1, (vQ e q).2, D1, ⟨i1, i2, ?_, ?_, fun hk => ?_⟩, D2, ⟨m1, m2, fun hk => tM2 d2 hd2 p hp hk⟩, D3, ⟨g1, g2, fun hk => tG2 p3 hp3 m3 hm3 hk⟩, D4, ⟨some_of q1, ?_, q4, fun hk => tQ2 e he q hq hk⟩⟩
    · rw [i3, ← i5]
    · rw [i4, ← i5]
    · obtain ⟨j1, j2, j3, j4, j5, j6, j7, j8, j9⟩ := tI2 d hd m hm hk
      exact ⟨j1, j2, j3, j4, j5, j6, j7, j8, j9, fun ha => tI3 d hd m hm hk ha⟩
    · rw [← q3]
      exact some_of q2

end Go.Proofs.Ytjkjdlpmbpgjgaa.Pure
