/- Letters needed, idle ones, needless ones. No conditions. -/
import Derived.Test.YtbpeknbhdphilaaL2
import Derived.Test.YtbpeknbhdphilaaA5
open Go Go.Am
namespace T
open Go.Proofs
set_option maxRecDepth 100000
set_option maxHeartbeats 4000000
set_option linter.unusedSimpArgs false
set_option linter.unusedVariables false
variable {base : Nat} {H : Heap}
@[go_sem] theorem ex_0 {x y : Value} : ext1 H 0 (.tuple #[x, y]) = some (x, H) := rfl
@[go_sem] theorem ex_1 {x y : Value} : ext1 H 1 (.tuple #[x, y]) = some (y, H) := rfl
theorem toZ_take (M : List (Nat × Nat)) (k : Nat) : (toZ M).take k = toZ (M.take k) := by simp [toZ, List.map_take]
theorem toZ_drop (M : List (Nat × Nat)) (k : Nat) : (toZ M).drop k = toZ (M.drop k) := by simp [toZ, List.map_drop]
theorem toZ_len (M : List (Nat × Nat)) : (toZ M).length = M.length := by simp [toZ]
theorem lc_tk (L : List (Int × Int)) (k : Nat) : (lc L).take (k * 2) = lc (L.take k) := by
  induction L generalizing k with
  | nil => simp [lc]
  | cons a l ih => cases k with
    | zero => simp [lc]
    | succ k => rw [show (k + 1) * 2 = k * 2 + 2 by omega]; simp [lc] at ih ⊢; exact ih k
theorem lc_dr (L : List (Int × Int)) (k : Nat) : (lc L).drop (k * 2) = lc (L.drop k) := by
  induction L generalizing k with
  | nil => simp [lc]
  | cons a l ih => cases k with
    | zero => simp [lc]
    | succ k => rw [show (k + 1) * 2 = k * 2 + 2 by omega]; simp [lc] at ih ⊢; exact ih k
theorem SL.to {s : Value} {L : List (Int × Int)} (h : SL H s L) {k : Nat} (hk : k ≤ L.length) : ∃ s', sliceA C.P 24 s none (some (gi k)) none = some s' ∧ SL H s' (L.take k) := by
  obtain ⟨s', h1, h2⟩ := Shows.cut (P := C.P) (t := 24) (el := 66) (lo := 0) (hi := k) (l := none) (h' := some (gi k)) h rfl rfl rfl rfl (Nat.zero_le _) hk
  refine ⟨s', h1, ?_⟩
  rw [Nat.sub_zero, Nat.zero_mul, List.drop_zero, lc_tk] at h2
  unfold SL; rw [List.length_take, Nat.min_eq_left hk]; exact h2
theorem SL.from {s : Value} {L : List (Int × Int)} (h : SL H s L) {k : Nat} (hk : k ≤ L.length) : ∃ s', sliceA C.P 24 s (some (gi k)) none none = some s' ∧ SL H s' (L.drop k) := by
  obtain ⟨a, c, rfl⟩ := h.sl
  obtain ⟨s', h1, h2⟩ := Shows.cut (P := C.P) (t := 24) (el := 66) (lo := k) (hi := L.length) (l := some (gi k)) (h' := none) h rfl rfl rfl rfl hk (Nat.le_refl _)
  refine ⟨s', h1, ?_⟩
  rw [lc_dr, List.take_of_length_le (by rw [lc_len, List.length_drop]; exact Nat.le_refl _)] at h2
  unfold SL; rw [List.length_drop]; exact h2
abbrev pt (b : Nat) : Value := .pointer (some ⟨b, 0, none⟩)
theorem ltn39_c {n k b2 b3 : Nat} (hn : n ≤ 10) {s : Value} {M : List (Nat × Nat)} (h2 : hget H b2 = some (3, [gi n])) (h3 : hget H b3 = some (24, [s])) (hs : SL H s (toZ M)) (hM : M.length < 1000) (hr : ∀ l ∈ M, l.1 < n ∧ l.2 < n) (hk : k ≤ M.length) :
    Ok (cal C base 39 [gi k, pt b2, pt b3] H) fun s H' => ∃ F, H' = H ++ F ∧ OwnL H.length H' 62 1 s n (nu (play n (M.take k))) := by
  refine ok_fn Try.func39 rfl rfl (res := [.tmp 4]) rfl Try.ntmps39 1 base _ H ?_
  obtain ⟨s', e1, hs'⟩ := hs.to (k := k) (by rw [toZ_len]; exact hk)
  rw [toZ_take] at hs'
  obtain ⟨v, H1, e2, F, rfl, ho⟩ := byL_c (base := H.length) hn hs' (by rw [List.length_take]; omega) (fun l hl => hr l (List.mem_of_mem_take hl))
  obtain ⟨a, c, rfl⟩ := hs.sl
  simp only [go_sem, show C.wr 39 = false from rfl]
  rw [fin_regd]; rotate_left; · decide +kernel
  obtain ⟨s2, F2, old, e3, ho'⟩ := ho.hand (P := C.P) (acc := H) (l := []) (show tySize C.P 62 = some 1 from rfl) (by simp [isG, sc, nu])
  simp only [go_sem, h2, h3, e1, e2, Chb (show wrF 39 = false from rfl), e3]
  exact .some ⟨F2, rfl, ho'⟩
/-- The least k up to N for which p holds. -/
def nd (N : Nat) (p : Nat → Bool) : Option Nat := (List.range (N + 1)).find? p
theorem nd_none {N : Nat} {p : Nat → Bool} (h : ∀ k ≤ N, p k = false) : nd N p = none := by
  unfold nd; rw [List.find?_eq_none]; intro k hk; rw [h k (by have := List.mem_range.1 hk; omega)]; decide
theorem nd_some {N i : Nat} {p : Nat → Bool} (hi : i ≤ N) (hp : p i = true) (h : ∀ k < i, p k = false) : nd N p = some i := by
  unfold nd; rw [List.find?_range_eq_some]; exact ⟨hp, List.mem_range.2 (by omega), fun k hk => by rw [h k hk]; rfl⟩
def ndI (o : Option Nat) : Nat := o.getD 0
def ndB (o : Option Nat) : Bool := o.isSome
theorem needed_g {g : FuncId} {caps : Array Value} {N : Nat} (hN : N < 1000) (p : Nat → Bool)
    (hc : ∀ k, k ≤ N → ∀ base H', Keeps H.length H H' → ∃ s F, cal C base g (gi k :: caps.toList) H' = some (s, H' ++ F) ∧ ∀ base, cal C base 36 [s] (H' ++ F) = some (bo (p k), H' ++ F)) :
    cal C base 38 [gi N, .func (.func g) #[] caps] H = some (.tuple #[gi (ndI (nd N p)), bo (ndB (nd N p))], H) := by
  refine cal_fn Try.func38 rfl rfl (res := [.tmp 4, .tmp 5]) rfl Try.ntmps38 1001 base _ H ?_
  simp only [go_sem, show C.wr 38 = false from rfl]
  rw [fin_loopk [10, 11, 6, 12, 13, 14, 15, 16, 4, 5, 17] rfl, wrapN (by omega)]
  refine lp_run [9] (fun j vs H' => ∃ i : Nat, i + j = N + 1 ∧ vs = [gi i] ∧ (∀ k < i, p k = false) ∧ Keeps H.length H H') ?_ (N + 1) [gi 0] (by omega) (by simp only [go_sem]) ⟨0, by omega, rfl, fun k h => absurd h (Nat.not_lt_zero _), .refl _ _⟩
  rintro j m vs H' ⟨i, hij, rfl, hno, hk⟩ ih
  cases hlt : decide ((i : Int) < ((N + 1 : Nat) : Int))
  · simp only [go_sem, hlt, Chb (show wrF 38 = false from rfl), take_keeps hk, nd_none (N := N) (p := p) (fun k hk => hno k (by have := of_decide_eq_false hlt; omega)), ndI, ndB]
    rfl
  · have hi : i ≤ N := by have := of_decide_eq_true hlt; omega
    obtain ⟨s, F, e1, e2⟩ := hc i hi H.length H' hk
    cases hpi : p i
    · rw [hpi] at e2
      simp only [go_sem, hlt, e1, e2]
      rw [wrapN (by omega)]
      refine ih (j - 1) [gi (i + 1 : Nat)] _ _ (by omega) (by simp only [go_sem]) ⟨i + 1, by omega, rfl, fun k hk => ?_, hk.trans (.append hk.1 F)⟩
      by_cases e : k = i
      · subst e; exact hpi
      · exact hno k (by omega)
    · rw [hpi] at e2
      simp only [go_sem, hlt, e1, e2, Chb (show wrF 38 = false from rfl), take_keeps (hk.trans (.append hk.1 F)), nd_some hi hpi hno, ndI, ndB]
      rfl
theorem need_no {n : Int} {s : Value} {L : List (Int × Int)} (hs : SL H s L) (hL : L.length < 1000) (h : areL n L = false) : cal C base 10 [gi n, s] H = some (.tuple #[gi 0, bo false], H) ∧ cal C base 11 [gi n, s] H = some (.tuple #[gi 0, bo false], H) := by
  constructor
  · refine cal_fn Try.func10 rfl rfl (res := [.tmp 4, .tmp 5]) rfl Try.ntmps10 1 base _ H ?_
    obtain ⟨a, c, rfl⟩ := hs.sl
    have h2 := (hs.add [some (3, [gi n])]).add [some (24, [.slice a L.length c])]
    have e := areL_c (base := H.length) (n := n) h2 hL
    simp only [List.append_assoc, List.cons_append, List.nil_append] at e
    simp only [go_sem, hget_0, hget_1, List.append_assoc, List.length_append, e, h, show C.wr 10 = false from rfl, Chb (show wrF 10 = false from rfl)]
  · refine cal_fn Try.func11 rfl rfl (res := [.tmp 4, .tmp 5]) rfl Try.ntmps11 1 base _ H ?_
    simp only [go_sem, leGood_c hs hL, h, Chb (show wrF 11 = false from rfl)]
theorem need_c {n : Nat} {s : Value} {M : List (Nat × Nat)} (hs : SL H s (toZ M)) (hM : M.length < 1000) (hn : n ≤ 10) (hr : ∀ l ∈ M, l.1 < n ∧ l.2 < n) (h : areL n (toZ M) = true) (p : Nat → Bool) (hp : ∀ k, p k = allK (play n (M.take k))) :
    cal C base 10 [gi n, s] H = some (.tuple #[gi (ndI (nd M.length p)), bo (ndB (nd M.length p))], H) := by
  refine cal_fn Try.func10 rfl rfl (res := [.tmp 4, .tmp 5]) rfl Try.ntmps10 1 base _ H ?_
  have hsl := hs.sl
  rw [toZ_len] at hsl
  obtain ⟨a, c, rfl⟩ := hsl
  have h2 := (hs.add [some (3, [gi n])]).add [some (24, [.slice a M.length c])]
  have e := areL_c (base := H.length) (n := n) h2 (by rw [toZ_len]; exact hM)
  simp only [List.append_assoc, List.cons_append, List.nil_append] at e h2
  have hnd := needed_g (base := H.length) (H := H ++ [some (3, [gi n]), some (24, [.slice a M.length c])]) (g := 39) (caps := #[pt H.length, pt (H.length + 1)]) hM p (fun k hk base H' hkp => by
    obtain ⟨F0, rfl⟩ := keeps_append hkp
    obtain ⟨v, H1, e1, F, rfl, ho⟩ := ltn39_c (base := base) (k := k) hn (hget_old (hget_0 (H := H)) F0) (hget_old hget_1 F0) (h2.add F0) hM hr hk
    refine ⟨v, F, e1, fun base => ?_⟩
    have hl := (play_ok hn (M.take k)).1
    rw [hp]
    exact allKnow_c (base := base) (by rw [hl]; exact ho.shows) (by omega) (pl16 hn))
  simp only [go_sem, hget_0, hget_1, List.append_assoc, List.length_append, e, h, show C.wr 10 = false from rfl, hnd, Chb (show wrF 10 = false from rfl)]
end T

open Go Go.Am
namespace T
open Go.Proofs
set_option maxRecDepth 100000
set_option maxHeartbeats 4000000
set_option linter.unusedSimpArgs false
set_option linter.unusedVariables false
variable {base : Nat} {H : Heap}
theorem needS_c {n : Nat} {s : Value} {M : List (Nat × Nat)} (hs : SL H s (toZ M)) (hM : M.length < 1000) (hn : n ≤ 10) (hr : ∀ l ∈ M, l.1 < n ∧ l.2 < n) (h : areL n (toZ M) = true) (p : Nat → Bool) (hp : ∀ k, p k = full n (play n (M.take k))) :
    cal C base 11 [gi n, s] H = some (.tuple #[gi (ndI (nd M.length p)), bo (ndB (nd M.length p))], H) := by
  refine cal_fn Try.func11 rfl rfl (res := [.tmp 4, .tmp 5]) rfl Try.ntmps11 1001 base _ H ?_
  have hsl := hs.sl
  rw [toZ_len] at hsl
  obtain ⟨a, c, rfl⟩ := hsl
  simp only [go_sem, leGood_c hs (by rw [toZ_len]; exact hM), h, show C.wr 11 = false from rfl]
  rw [fin_loopk [11, 12, 13, 14, 17, 18, 19, 20, 21, 22, 23, 4, 5, 15, 16] rfl]
  refine lp_run [6] (fun j vs H' => ∃ i : Nat, i + j = M.length + 1 ∧ vs = [gi i] ∧ (∀ k < i, p k = false) ∧ Keeps H.length H H') ?_ (M.length + 1) [gi 0] (by omega) (by simp only [go_sem]) ⟨0, by omega, rfl, fun k h => absurd h (Nat.not_lt_zero _), .refl _ _⟩
  rintro j m vs H' ⟨i, hij, rfl, hno, hk⟩ ih
  cases hlt : decide ((i : Int) ≤ (M.length : Int))
  · simp only [go_sem, hlt, Chb (show wrF 11 = false from rfl), take_keeps hk, nd_none (N := M.length) (p := p) (fun k hk => hno k (by have := of_decide_eq_false hlt; omega)), ndI, ndB]
    rfl
  · have hi : i ≤ M.length := by have := of_decide_eq_true hlt; omega
    obtain ⟨s', e1, hs'⟩ := SL.to (hs.keep hk) (k := i) (by rw [toZ_len]; exact hi)
    rw [toZ_take] at hs'
    obtain ⟨v, H1, e2, F, rfl, ho⟩ := lePlay_c (base := H.length) hn hs' (by rw [List.length_take]; omega) (fun l hl => hr l (List.mem_of_mem_take hl))
    have hl := (play_ok hn (M.take i)).1
    have hca := caAll_c (base := H.length) (B := play n (M.take i)) (by rw [hl]; exact ho.shows) (by omega)
    rw [hl, ← hp] at hca
    cases hpi : p i
    · rw [hpi] at hca
      simp only [go_sem, hlt, e1, e2, hca]
      rw [wrapN (by omega)]
      refine ih (j - 1) [gi (i + 1 : Nat)] _ _ (by omega) (by simp only [go_sem]) ⟨i + 1, by omega, rfl, fun k hk => ?_, hk.trans (.append hk.1 F)⟩
      by_cases e : k = i
      · subst e; exact hpi
      · exact hno k (by omega)
    · rw [hpi] at hca
      simp only [go_sem, hlt, e1, e2, hca, Chb (show wrF 11 = false from rfl), take_keeps (hk.trans (.append hk.1 F)), nd_some hi hpi hno, ndI, ndB]
      rfl
/-- The indices below N for which p holds. -/
def idx (N : Nat) (p : Nat → Bool) : List Nat := (List.range N).filter p
theorem idx_succ (i : Nat) (p : Nat → Bool) : idx (i + 1) p = if p i then idx i p ++ [i] else idx i p := by
  unfold idx; rw [List.range_succ, List.filter_append]; cases h : p i <;> simp [h]
theorem idx_len (N : Nat) (p : Nat → Bool) : (idx N p).length ≤ N := by
  have := List.length_filter_le p (List.range N); simpa [idx] using this
theorem indices_g {g : FuncId} {caps : Array Value} {N : Nat} (hN : N < 1000) (p : Nat → Bool)
    (hc : ∀ k, k < N → ∀ base H', Keeps H.length H H' → cal C base g (gi k :: caps.toList) H' = some (bo (p k), H')) :
    Ok (cal C base 40 [gi N, .func (.func g) #[] caps] H) fun s H' => ∃ F, H' = H ++ F ∧ OwnL H.length H' 3 1 s (idx N p).length (ni (idx N p)) := by
  refine ok_fn Try.func40 rfl rfl (res := [.tmp 4]) rfl Try.ntmps40 1001 base _ H ?_
  simp only [go_sem, show C.wr 40 = false from rfl, bs_nil ts34]
  rw [fin_loopk [10, 11, 6, 12, 13, 14, 15, 16, 17, 18, 19] rfl]
  refine lp_ok [5, 9] (fun j vs H' => ∃ (i : Nat) (s : Value), i + j = N ∧ vs = [s, gi i] ∧ OwnL H.length H' 3 1 s (idx i p).length (ni (idx i p)) ∧ Keeps H.length H H') N [.slice (some ⟨H.length, 0, some 1⟩) 0 0, gi 0] ?_ (by omega) (by simp only [go_sem]) ⟨0, _, by omega, rfl, .empty _ _ _ (Nat.le_refl _), .append (Nat.le_refl _) _⟩
  rintro j m vs H' ⟨i, s, hij, rfl, ho, hk⟩ ih
  have hil := idx_len i p
  cases hlt : decide ((i : Int) < (N : Int))
  · obtain rfl : i = N := by have := of_decide_eq_false hlt; omega
    obtain ⟨s', F, old, e, ho'⟩ := ho.hand (P := C.P) (acc := H) (l := []) (show tySize C.P 3 = some 1 from rfl) (by simp [isG, sc, ni])
    simp only [go_sem, hlt, Chb (show wrF 40 = false from rfl), take_keeps hk, e]
    exact .some ⟨F, rfl, ho'⟩
  · have hi : i < N := by have := of_decide_eq_true hlt; omega
    have e1 := hc i hi H.length H' hk
    have e2 := idx_succ i p
    cases hpi : p i
    · rw [hpi] at e1 e2
      simp only [go_sem, hlt, e1]
      rw [wrapN (by omega)]
      exact ih (j - 1) [s, gi (i + 1 : Nat)] _ _ (by omega) (by simp only [go_sem]) ⟨i + 1, s, by omega, rfl, by rw [e2]; exact ho, hk⟩
    · rw [hpi] at e1 e2
      have hap := ho.app (base := H.length) ts34 (Nat.le_refl _) (ys := [.int .i64 (i : Int)]) rfl (by unfold room; omega)
      simp only [go_sem, hlt, e1, bs_one ts34 (x := Value.int .i64 _) rfl rfl, eo_append (show notInt C.P 34 = true from rfl), hap]
      rw [wrapN (by omega)]
      refine ih (j - 1) [_, gi (i + 1 : Nat)] _ _ (by omega) (by simp only [go_sem]) ⟨i + 1, .slice (some ⟨H'.length + 1, 0, some 1⟩) ((idx i p).length + 1) ((idx i p).length + 1), by omega, rfl, ?_, ho.keeps hk (Nat.le_refl _)⟩
      rw [e2, if_pos rfl, List.length_append, show ni (idx i p ++ [i]) = ni (idx i p) ++ [.int .i64 (i : Int)] by simp [ni]]
      exact ho.next hk.1 rfl
theorem eqlen {a b : Nat} : ((a : Int) != (b : Int)) = (a != b) := by
  rw [Bool.eq_iff_iff, bne_iff_ne, bne_iff_ne]; exact not_congr Int.ofNat_inj
theorem eqU_c {s1 s2 : Value} {B1 B2 : List Nat} (h1 : Shows H 1 s1 B1.length (nu B1)) (h2 : Shows H 1 s2 B2.length (nu B2)) (hB : B1.length < 1000) (q : Bool) (hq : q = (B1 == B2)) : cal C base 42 [s1, s2] H = some (bo q, H) := by
  refine cal_fn Try.func42 rfl rfl (res := [.tmp 4]) rfl Try.ntmps42 1001 base _ H ?_
  obtain ⟨a, c, rfl⟩ := h1.sl
  obtain ⟨a2, c2, rfl⟩ := h2.sl
  cases hl : B1.length != B2.length
  · simp only [go_sem, show C.wr 42 = false from rfl, eqlen, hl]
    have hle : B1.length = B2.length := by simpa using hl
    rw [fin_loopk [14, 15, 5, 16, 17, 18, 19, 20, 21, 22, 23, 24, 4, 25] rfl]
    refine lp_run [13] (fun j vs H' => ∃ i : Nat, i + j = B1.length ∧ vs = [gi i] ∧ (∀ k (h : k < B1.length), k < i → B1[k] = B2[k]'(by omega)) ∧ H' = H) ?_ B1.length [gi 0] (by omega) (by simp only [go_sem]) ⟨0, by omega, rfl, fun k _ h => absurd h (Nat.not_lt_zero _), rfl⟩
    rintro j m vs H' ⟨i, hij, rfl, hno, rfl⟩ ih
    cases hlt : decide ((i : Int) < (B1.length : Int))
    · have : q = true := by
        rw [hq, beq_iff_eq]
        exact List.ext_getElem hle fun k hk1 hk2 => hno k hk1 (by have := of_decide_eq_false hlt; omega)
      simp only [go_sem, hlt, Chb (show wrF 42 = false from rfl), this]
    · have hi : i < B1.length := by have := of_decide_eq_true hlt; omega
      obtain ⟨b, o, T, cs, k1, k2, k3⟩ := ElU h1 hi
      obtain ⟨b', o', T', cs', k1', k2', k3'⟩ := ElU h2 (hle ▸ hi)
      have hg1 : B1.getD i 0 = B1[i] := by simp [hi]
      have hg2 : B2.getD i 0 = B2[i]'(by omega) := by simp [show i < B2.length by omega]
      rw [hg1] at k3
      rw [hg2] at k3'
      cases hpi : B1[i] != B2[i]'(by omega)
      · simp only [go_sem, hlt]
        rw [fin_regd]; rotate_left; · decide +kernel
        simp only [go_sem, k1, k2, k3, k1', k2', k3', eqlen, hpi]
        rw [wrapN (by omega)]
        refine ih (j - 1) [gi (i + 1 : Nat)] _ _ (by omega) (by simp only [go_sem]) ⟨i + 1, by omega, rfl, fun k hk hki => ?_, rfl⟩
        by_cases e : k = i
        · subst e; exact bne_eq_false_iff_eq.1 hpi
        · exact hno k hk (by omega)
      · have : q = false := by
          rw [hq, beq_eq_false_iff_ne]
          intro e
          have hne := bne_iff_ne.1 hpi
          apply hne
          simp [e]
        simp only [go_sem, hlt]
        rw [fin_regd]; rotate_left; · decide +kernel
        simp only [go_sem, k1, k2, k3, k1', k2', k3', eqlen, hpi, Chb (show wrF 42 = false from rfl), this]
  · have : q = false := by
      rw [hq, beq_eq_false_iff_ne]
      intro e
      rw [e] at hl
      simp at hl
    simp only [go_sem, show C.wr 42 = false from rfl, eqlen, hl, Chb (show wrF 42 = false from rfl), this]
theorem eqI_c {s1 s2 : Value} {B1 B2 : List Nat} (h1 : Shows H 1 s1 B1.length (ni B1)) (h2 : Shows H 1 s2 B2.length (ni B2)) (hB : B1.length < 1000) (q : Bool) (hq : q = (B1 == B2)) : cal C base 43 [s1, s2] H = some (bo q, H) := by
  refine cal_fn Try.func43 rfl rfl (res := [.tmp 4]) rfl Try.ntmps43 1001 base _ H ?_
  obtain ⟨a, c, rfl⟩ := h1.sl
  obtain ⟨a2, c2, rfl⟩ := h2.sl
  cases hl : B1.length != B2.length
  · simp only [go_sem, show C.wr 43 = false from rfl, eqlen, hl]
    have hle : B1.length = B2.length := by simpa using hl
    rw [fin_loopk [14, 15, 5, 16, 17, 18, 19, 20, 21, 22, 23, 24, 4, 25] rfl]
    refine lp_run [13] (fun j vs H' => ∃ i : Nat, i + j = B1.length ∧ vs = [gi i] ∧ (∀ k (h : k < B1.length), k < i → B1[k] = B2[k]'(by omega)) ∧ H' = H) ?_ B1.length [gi 0] (by omega) (by simp only [go_sem]) ⟨0, by omega, rfl, fun k _ h => absurd h (Nat.not_lt_zero _), rfl⟩
    rintro j m vs H' ⟨i, hij, rfl, hno, rfl⟩ ih
    cases hlt : decide ((i : Int) < (B1.length : Int))
    · have : q = true := by
        rw [hq, beq_iff_eq]
        exact List.ext_getElem hle fun k hk1 hk2 => hno k hk1 (by have := of_decide_eq_false hlt; omega)
      simp only [go_sem, hlt, Chb (show wrF 43 = false from rfl), this]
    · have hi : i < B1.length := by have := of_decide_eq_true hlt; omega
      obtain ⟨b, o, T, cs, k1, k2, k3⟩ := ElI h1 hi
      obtain ⟨b', o', T', cs', k1', k2', k3'⟩ := ElI h2 (hle ▸ hi)
      have hg1 : B1.getD i 0 = B1[i] := by simp [hi]
      have hg2 : B2.getD i 0 = B2[i]'(by omega) := by simp [show i < B2.length by omega]
      rw [hg1] at k3
      rw [hg2] at k3'
      cases hpi : B1[i] != B2[i]'(by omega)
      · simp only [go_sem, hlt]
        rw [fin_regd]; rotate_left; · decide +kernel
        simp only [go_sem, k1, k2, k3, k1', k2', k3', eqlen, hpi]
        rw [wrapN (by omega)]
        refine ih (j - 1) [gi (i + 1 : Nat)] _ _ (by omega) (by simp only [go_sem]) ⟨i + 1, by omega, rfl, fun k hk hki => ?_, rfl⟩
        by_cases e : k = i
        · subst e; exact bne_eq_false_iff_eq.1 hpi
        · exact hno k hk (by omega)
      · have : q = false := by
          rw [hq, beq_eq_false_iff_ne]
          intro e
          have hne := bne_iff_ne.1 hpi
          apply hne
          simp [e]
        simp only [go_sem, hlt]
        rw [fin_regd]; rotate_left; · decide +kernel
        simp only [go_sem, k1, k2, k3, k1', k2', k3', eqlen, hpi, Chb (show wrF 43 = false from rfl), this]
  · have : q = false := by
      rw [hq, beq_eq_false_iff_ne]
      intro e
      rw [e] at hl
      simp at hl
    simp only [go_sem, show C.wr 43 = false from rfl, eqlen, hl, Chb (show wrF 43 = false from rfl), this]
end T

open Go Go.Am
namespace T
open Go.Proofs
set_option maxRecDepth 100000
set_option maxHeartbeats 4000000
set_option linter.unusedSimpArgs false
set_option linter.unusedVariables false
variable {base : Nat} {H : Heap}
theorem all_tk {M : List (Nat × Nat)} {n : Nat} (hr : ∀ l ∈ M, l.1 < n ∧ l.2 < n) (k : Nat) : ∀ l ∈ M.take k, l.1 < n ∧ l.2 < n := fun l hl => hr l (List.mem_of_mem_take hl)
theorem idle41_c {n k b2 b3 : Nat} (hn : n ≤ 10) {s : Value} {M : List (Nat × Nat)} (h2 : hget H b2 = some (3, [gi n])) (h3 : hget H b3 = some (24, [s])) (hs : SL H s (toZ M)) (hM : M.length < 1000) (hr : ∀ l ∈ M, l.1 < n ∧ l.2 < n) (hk : k < M.length) (q : Bool) (hq : q = (play n (M.take k) == play n (M.take (k + 1)))) :
    cal C base 41 [gi k, pt b2, pt b3] H = some (bo q, H) := by
  refine cal_fn Try.func41 rfl rfl (res := [.tmp 4]) rfl Try.ntmps41 1 base _ H ?_
  obtain ⟨s', e1, hs'⟩ := hs.to (k := k) (by rw [toZ_len]; omega)
  rw [toZ_take] at hs'
  obtain ⟨s2, e2, hs2⟩ := hs.to (k := k + 1) (by rw [toZ_len]; omega)
  rw [toZ_take] at hs2
  obtain ⟨v, H1, e3, F, rfl, ho⟩ := byL_c (base := H.length) hn hs' (by rw [List.length_take]; omega) (all_tk hr k)
  obtain ⟨v2, H2, e4, F2, rfl, ho2⟩ := byL_c (base := H.length) (H := H ++ F) hn (hs2.add F) (by rw [List.length_take]; omega) (all_tk hr (k + 1))
  have l1 := (play_ok hn (M.take k)).1
  have l2 := (play_ok hn (M.take (k + 1))).1
  have e5 := eqU_c (base := H.length) (B1 := play n (M.take k)) (B2 := play n (M.take (k + 1))) (by rw [l1]; exact ho.shows.add F2) (by rw [l2]; exact ho2.shows) (by omega) q hq
  obtain ⟨a, c, rfl⟩ := hs.sl
  simp only [go_sem, show C.wr 41 = false from rfl]
  rw [fin_regd]; rotate_left; · decide +kernel
  rw [← wrapN (i := k) (by omega)] at e2
  have hk2 : Keeps H.length H (H ++ F ++ F2) := (Keeps.append (Nat.le_refl _) F).trans (.append (by simp) F2)
  simp only [go_sem, h2, h3, e1, e2, e3, hget_old h2 F, hget_old h3 F, e4, e5, Chb (show wrF 41 = false from rfl), take_keeps hk2]
theorem idle_no {n : Int} {s : Value} {L : List (Int × Int)} (hs : SL H s L) (hL : L.length < 1000) (h : areL n L = false) : cal C base 12 [gi n, s] H = some (.tuple #[.slice none 0 0, bo false], H) ∧ cal C base 13 [gi n, s] H = some (.tuple #[.slice none 0 0, bo false], H) ∧ cal C base 14 [gi n, s] H = some (.tuple #[.slice none 0 0, bo false], H) ∧ cal C base 15 [gi n, s] H = some (.tuple #[.slice none 0 0, bo false], H) := by
  refine ⟨?_, ?_, ?_, ?_⟩
  · refine cal_fn Try.func12 rfl rfl (res := [.tmp 4, .tmp 5]) rfl Try.ntmps12 1 base _ H ?_
    obtain ⟨a, c, rfl⟩ := hs.sl
    have h2 := (hs.add [some (3, [gi n])]).add [some (24, [.slice a L.length c])]
    have e := areL_c (base := H.length) (n := n) h2 hL
    simp only [List.append_assoc, List.cons_append, List.nil_append] at e
    simp only [go_sem, hget_0, hget_1, List.append_assoc, List.length_append, e, h, show C.wr 12 = false from rfl, Chb (show wrF 12 = false from rfl)]
  · refine cal_fn Try.func13 rfl rfl (res := [.tmp 4, .tmp 5]) rfl Try.ntmps13 1 base _ H ?_
    simp only [go_sem, leGood_c hs hL, h, Chb (show wrF 13 = false from rfl)]
  · refine cal_fn Try.func14 rfl rfl (res := [.tmp 4, .tmp 5]) rfl Try.ntmps14 1 base _ H ?_
    obtain ⟨a, c, rfl⟩ := hs.sl
    have h2 := (hs.add [some (3, [gi n])]).add [some (24, [.slice a L.length c])]
    have e := areL_c (base := H.length) (n := n) h2 hL
    simp only [List.append_assoc, List.cons_append, List.nil_append] at e
    simp only [go_sem, hget_0, hget_1, List.append_assoc, List.length_append, e, h, show C.wr 14 = false from rfl, Chb (show wrF 14 = false from rfl)]
  · refine cal_fn Try.func15 rfl rfl (res := [.tmp 4, .tmp 5]) rfl Try.ntmps15 1 base _ H ?_
    simp only [go_sem, leGood_c hs hL, h, Chb (show wrF 15 = false from rfl)]
theorem idle_c {n : Nat} {s : Value} {M : List (Nat × Nat)} (hs : SL H s (toZ M)) (hM : M.length < 1000) (hn : n ≤ 10) (hr : ∀ l ∈ M, l.1 < n ∧ l.2 < n) (h : areL n (toZ M) = true) (p : Nat → Bool) (hp : ∀ k, p k = (play n (M.take k) == play n (M.take (k + 1)))) :
    Ok (cal C base 12 [gi n, s] H) fun v H' => ∃ F t, H' = H ++ F ∧ v = .tuple #[t, bo true] ∧ OwnL H.length H' 3 1 t (idx M.length p).length (ni (idx M.length p)) := by
  refine ok_fn Try.func12 rfl rfl (res := [.tmp 4, .tmp 5]) rfl Try.ntmps12 1 base _ H ?_
  have hsl := hs.sl
  rw [toZ_len] at hsl
  obtain ⟨a, c, rfl⟩ := hsl
  have h2 := (hs.add [some (3, [gi n])]).add [some (24, [.slice a M.length c])]
  have e := areL_c (base := H.length) (n := n) h2 (by rw [toZ_len]; exact hM)
  simp only [List.append_assoc, List.cons_append, List.nil_append] at e h2
  obtain ⟨v, H1, e1, F, rfl, ho⟩ := indices_g (base := H.length) (H := H ++ [some (3, [gi n]), some (24, [.slice a M.length c])]) (g := 41) (caps := #[pt H.length, pt (H.length + 1)]) hM p (fun k hk base H' hkp => by
    obtain ⟨F0, rfl⟩ := keeps_append hkp
    exact idle41_c hn (hget_old (hget_0 (H := H)) F0) (hget_old hget_1 F0) (h2.add F0) hM hr hk (p k) (hp k))
  have hk : Keeps H.length H (H ++ [some (3, [gi n]), some (24, [.slice a M.length c])] ++ F) := by rw [List.append_assoc]; exact .append (Nat.le_refl _) _
  obtain ⟨s', F', old, e4, ho'⟩ := (ho.low (k' := H.length) (by simp)).hand (P := C.P) (acc := H) (l := [bo true]) (show tySize C.P 3 = some 1 from rfl) (by simp [isG, sc, ni])
  simp only [go_sem, hget_0, hget_1, List.append_assoc, List.length_append, e, h, show C.wr 12 = false from rfl] 
  simp only [List.append_assoc, List.cons_append, List.nil_append] at e1 e4 hk
  simp only [go_sem, e1, Chb (show wrF 12 = false from rfl), take_keeps hk, e4]
  exact .some ⟨F', s', rfl, rfl, ho'⟩
theorem idleS_c {n : Nat} {s : Value} {M : List (Nat × Nat)} (hs : SL H s (toZ M)) (hM : M.length < 1000) (hn : n ≤ 10) (hr : ∀ l ∈ M, l.1 < n ∧ l.2 < n) (h : areL n (toZ M) = true) (p : Nat → Bool) (hp : ∀ k, p k = (play n (M.take k) == play n (M.take (k + 1)))) :
    Ok (cal C base 13 [gi n, s] H) fun v H' => ∃ F t, H' = H ++ F ∧ v = .tuple #[t, bo true] ∧ OwnL H.length H' 3 1 t (idx M.length p).length (ni (idx M.length p)) := by
  refine ok_fn Try.func13 rfl rfl (res := [.tmp 4, .tmp 5]) rfl Try.ntmps13 1001 base _ H ?_
  have hsl := hs.sl
  rw [toZ_len] at hsl
  obtain ⟨a, c, rfl⟩ := hsl
  simp only [go_sem, leGood_c hs (by rw [toZ_len]; exact hM), h, show C.wr 13 = false from rfl]
  rw [fin_loopk [15, 16, 7, 17, 18, 19, 20, 21, 22, 23, 24, 25, 26, 27, 28, 29, 30, 31, 32, 33] rfl]
  refine lp_ok [6, 14] (fun j vs H' => ∃ (i : Nat) (t : Value), i + j = M.length ∧ vs = [t, gi i] ∧ OwnL H.length H' 3 1 t (idx i p).length (ni (idx i p)) ∧ Keeps H.length H H') M.length [.slice none 0 0, gi 0] ?_ (by omega) (by simp only [go_sem]) ⟨0, _, by omega, rfl, .nil _ _ _ _, .refl _ _⟩
  rintro j m vs H' ⟨i, t, hij, rfl, ho, hk⟩ ih
  have hil := idx_len i p
  cases hlt : decide ((i : Int) < (M.length : Int))
  · obtain rfl : i = M.length := by have := of_decide_eq_false hlt; omega
    obtain ⟨s', F, old, e, ho'⟩ := ho.hand (P := C.P) (acc := H) (l := [bo true]) (show tySize C.P 3 = some 1 from rfl) (by simp [isG, sc, ni])
    simp only [go_sem, hlt, Chb (show wrF 13 = false from rfl), take_keeps hk, e]
    exact .some ⟨F, s', rfl, rfl, ho'⟩
  · have hi : i < M.length := by have := of_decide_eq_true hlt; omega
    obtain ⟨s', e1, hs'⟩ := SL.to (hs.keep hk) (k := i) (by rw [toZ_len]; omega)
    rw [toZ_take] at hs'
    obtain ⟨s2, e2, hs2⟩ := SL.to (hs.keep hk) (k := i + 1) (by rw [toZ_len]; omega)
    rw [toZ_take] at hs2
    obtain ⟨v, H1, e3, F, rfl, hv⟩ := lePlay_c (base := H.length) hn hs' (by rw [List.length_take]; omega) (all_tk hr i)
    obtain ⟨v2, H2, e4, F2, rfl, hv2⟩ := lePlay_c (base := H.length) (H := H' ++ F) hn (hs2.add F) (by rw [List.length_take]; omega) (all_tk hr (i + 1))
    have l1 := (play_ok hn (M.take i)).1
    have l2 := (play_ok hn (M.take (i + 1))).1
    have e5 := eqI_c (base := H.length) (B1 := play n (M.take i)) (B2 := play n (M.take (i + 1))) (by rw [l1]; exact hv.shows.add F2) (by rw [l2]; exact hv2.shows) (by omega) (p i) (hp i)
    rw [← wrapN (i := i) (by omega)] at e2
    have e6 := idx_succ i p
    have ho2 := (ho.keep (.append (Nat.le_refl _) F)).keep (.append (Nat.le_refl _) F2)
    have hk2 := (hk.trans (.append hk.1 F)).trans (.append (show H.length ≤ (H' ++ F).length by have := hk.1; simp; omega) F2)
    simp only [go_sem, hlt]
    rw [fin_regd]; rotate_left; · decide +kernel
    cases hpi : p i
    · rw [hpi] at e5 e6
      simp only [go_sem, e1, e2, e3, e4, e5]
      rw [wrapN (by omega)]
      exact ih (j - 1) [t, gi (i + 1 : Nat)] _ _ (by omega) (by simp only [go_sem]) ⟨i + 1, t, by omega, rfl, by rw [e6]; exact ho2, hk2⟩
    · rw [hpi] at e5 e6
      have hap := ho2.app (base := H.length) ts34 (Nat.le_refl _) (ys := [.int .i64 (i : Int)]) rfl (by unfold room; omega)
      simp only [go_sem, e1, e2, e3, e4, e5, bs_one ts34 (x := Value.int .i64 _) rfl rfl, eo_append (show notInt C.P 34 = true from rfl), hap]
      rw [wrapN (by omega)]
      refine ih (j - 1) [_, gi (i + 1 : Nat)] _ _ (by omega) (by simp only [go_sem]) ⟨i + 1, .slice (some ⟨(H' ++ F ++ F2).length + 1, 0, some 1⟩) ((idx i p).length + 1) ((idx i p).length + 1), by omega, rfl, ?_, ho2.keeps hk2 (Nat.le_refl _)⟩
      rw [e6, if_pos rfl, show (idx i p ++ [i]).length = (idx i p).length + 1 by simp, show ni (idx i p ++ [i]) = ni (idx i p) ++ [.int .i64 (i : Int)] by simp [ni]]
      exact ho2.next (ys := [.int .i64 (i : Int)]) hk2.1 rfl
end T

namespace Go.Am
theorem setAll_gen : ∀ (ys : List Value) (cs : List Value) (o : Nat), o + ys.length ≤ cs.length → setAll cs o ys = cs.take o ++ ys ++ cs.drop (o + ys.length) := by
  intro ys
  induction ys with
  | nil => intro cs o h; simp [setAll]
  | cons a l ih =>
    intro cs o h
    rw [List.length_cons] at h
    rw [setAll, ih _ _ (by rw [List.length_set]; omega)]
    have h1 : (cs.set o a).take (o + 1) = cs.take o ++ [a] := by
      rw [List.take_succ_eq_append_getElem (by rw [List.length_set]; omega), List.getElem_set_self, List.take_set_of_le (Nat.le_refl _)]
    have h2 : (cs.set o a).drop (o + 1 + l.length) = cs.drop (o + (a :: l).length) := by
      rw [List.drop_set_of_lt (by omega), List.length_cons]; congr 1; omega
    rw [h1, h2]; simp
section
variable {C : Cfg} {P : Program} {call : Nat → CallF} {base : Nat} {dr : Bool} {ρ : Env} {H : Heap} {d : Option Tmp} {t u el : TypeId} {p : String} {e : Array Edge} {g : Option (Nat × Bool)}
theorem eo_clear {x : Operand} : evalOp C call base dr ⟨d, .call ⟨.builtin .clear, #[x], #[t]⟩, u, p, e, g⟩ ρ H = (clearA C.P base H t (ev ρ x)).map fun H' => (.tuple #[], H') := by
  simp [evalOp, builtinA]
theorem sa_at {b o es m cap lo hi : Nat} {l h : Option Value} (h1 : tyElem P t = some el) (h2 : tySize P el = some es) (hl : optI l 0 = some (lo : Int)) (hh : optI h m = some (hi : Int)) (hlh : lo ≤ hi) (hhc : hi ≤ cap) :
    sliceA P t (.slice (some ⟨b, o, some es⟩) m cap) l h none = some (.slice (some ⟨b, o + lo * es, some es⟩) (hi - lo) (cap - lo)) := by
  have hm : optI none (cap : Int) = some (cap : Int) := rfl
  simp only [sliceA, hl, hh, hm, Option.bind_some, h1, h2]
  rw [if_pos ⟨trivial, by omega, by omega, by omega, by omega, rfl⟩, if_neg (by simp)]
  congr 2 <;> omega
theorem sa_at3 {b o es m cap lo hi mx : Nat} {l h x : Value} (h1 : tyElem P t = some el) (h2 : tySize P el = some es) (hl : optI (some l) 0 = some (lo : Int)) (hh : optI (some h) m = some (hi : Int)) (hx : optI (some x) cap = some (mx : Int)) (hlh : lo ≤ hi) (hlm : lo < mx) (hhc : hi ≤ mx) (hmc : mx ≤ cap) :
    sliceA P t (.slice (some ⟨b, o, some es⟩) m cap) (some l) (some h) (some x) = some (.slice (some ⟨b, o + lo * es, some es⟩) (hi - lo) (mx - lo)) := by
  simp only [sliceA, hl, hh, hx, Option.bind_some, h1, h2]
  rw [if_pos ⟨trivial, by omega, by omega, by omega, by omega, rfl⟩, if_neg (by simp; omega)]
  congr 2 <;> omega
theorem ap_in {z : Value} {es b m m2 cap : Nat} {T : TypeId} {cs ys : List Value} {x : Value} (h : TyS P t el es z) (hb : base ≤ b) (hg : hget H b = some (T, cs)) (hy : cellsA H es x = some (m2, ys)) (h0 : m2 ≠ 0) (hr : m + m2 ≤ cap) (hl : (m + m2) * es ≤ cs.length) :
    appendA P base H t (.slice (some ⟨b, 0, some es⟩) m cap) x = some (.slice (some ⟨b, 0, some es⟩) (m + m2) cap, H.set b (some (T, setAll cs (m * es) ys))) := by
  have hz : (tyZero P el).any (fun z => decide (z.cells.size = es ∧ isC z = true)) = true := by rw [h.zero]; simp [h.ok]
  have hb2 := h.bytes
  unfold appendA
  simp only [h.elem, h.size, Option.bind_some, hy, hb2, h.ok, hz, true_and, and_self, if_true]
  rw [if_neg (by simp), if_neg h0, if_pos hb, hg, Option.bind_some, if_pos hr, if_pos (by simpa using hl), Nat.zero_add]
theorem ap_0 {z : Value} {es b m cap : Nat} {ys : List Value} {x : Value} (h : TyS P t el es z) (hy : cellsA H es x = some (0, ys)) :
    appendA P base H t (.slice (some ⟨b, 0, some es⟩) m cap) x = some (.slice (some ⟨b, 0, some es⟩) m cap, H) := by
  have hz : (tyZero P el).any (fun z => decide (z.cells.size = es ∧ isC z = true)) = true := by rw [h.zero]; simp [h.ok]
  have hb2 := h.bytes
  unfold appendA
  simp only [h.elem, h.size, Option.bind_some, hy, hb2, h.ok, hz, true_and, and_self, if_true]
  rw [if_neg (by simp)]
end
end Go.Am
open Go Go.Am
namespace T
open Go.Proofs
set_option maxRecDepth 100000
set_option maxHeartbeats 4000000
set_option linter.unusedSimpArgs false
set_option linter.unusedVariables false
variable {base : Nat} {H : Heap}
theorem lcG (L : List (Int × Int)) : (lc L).all isG = true := by
  induction L with
  | nil => rfl
  | cons a l ih => simp only [lc, List.flatMap_cons, List.all_append] at ih ⊢; rw [ih]; rfl
theorem SL.some {s : Value} {L : List (Int × Int)} (h : SL H s L) (hL : 0 < L.length) : ∃ a c, s = .slice (.some a) L.length c := by
  rcases h with ⟨_, h, _⟩ | ⟨b, o, cap, T, cs0, h1, _⟩
  · omega
  · exact ⟨_, _, h1⟩
theorem clone_c {s : Value} {L : List (Int × Int)} (hs : SL H s L) (h0 : 0 < L.length) (hL : L.length < 1000) : Ok (cal C base 65 [s] H) fun s H' => ∃ F, H' = H ++ F ∧ OwnL H.length H' 66 2 s L.length (lc L) := by
  refine ok_fn Try.func65 rfl rfl (res := [.tmp 2]) rfl Try.ntmps65 1 base _ H ?_
  obtain ⟨a, c, rfl⟩ := hs.some h0
  have hn : OwnL H.length (H ++ [Option.some (66, [])]) 66 2 (.slice (Option.some ⟨H.length, 0, Option.some 2⟩) 0 0) 0 [] := .empty H 66 2 (Nat.le_refl _)
  obtain ⟨s', H1, e, ho, hk⟩ := hn.apps (base := H.length) (hs.add _) ts24 (Nat.le_refl _) (by simp) (by unfold room; omega)
  rw [List.nil_append, Nat.zero_add] at ho
  have hk2 : Keeps H.length H H1 := (Keeps.append (Nat.le_refl _) _).trans hk
  obtain ⟨s2, F, old, e2, ho'⟩ := ho.hand (P := C.P) (acc := H) (l := []) (show tySize C.P 66 = Option.some 2 from rfl) (lcG L)
  simp only [go_sem, b_eqnil (show isSlT C.P 24 = true from rfl), show C.wr 65 = false from rfl, bs_nil ts24, eo_append (show notInt C.P 24 = true from rfl), e, Chb (show wrF 65 = false from rfl), take_keeps hk2, e2]
  exact .some ⟨F, rfl, ho'⟩
theorem wrapS {m k : Nat} (h : m < 2 ^ 62) (hk : k ≤ m) : IntKind.i64.wrap ((m : Int) - (k : Int)) = ((m - k : Nat) : Int) := by rw [IntKind.wrap_i64]; omega
theorem lc_app (L M : List (Int × Int)) : lc (L ++ M) = lc L ++ lc M := by simp [lc]
theorem del_c {b i : Nat} {L : List (Int × Int)} (hb : base ≤ b) (hg : hget H b = Option.some (66, lc L)) (hi : i < L.length) (hL : L.length < 1000) :
    cal C base 64 [.slice (Option.some ⟨b, 0, Option.some 2⟩) L.length L.length, gi i, gi (i + 1 : Nat)] H = Option.some (.slice (Option.some ⟨b, 0, Option.some 2⟩) (L.length - 1) L.length, H.set b (Option.some (66, lc (L.eraseIdx i) ++ [gi 0, gi 0]))) := by
  refine cal_fn Try.func64 rfl rfl (res := [.tmp 6]) rfl Try.ntmps64 1 base _ H ?_
  have hll := lc_len L
  have e1 := sa_at3 (P := C.P) (t := 24) (el := 66) (es := 2) (b := b) (o := 0) (m := L.length) (cap := L.length) (lo := i) (hi := i + 1) (mx := L.length) (l := gi i) (h := gi (i + 1 : Nat)) (x := gi L.length) rfl rfl rfl rfl rfl (by omega) hi (by omega) (Nat.le_refl _)
  have e2 := sa_at (P := C.P) (t := 24) (el := 66) (es := 2) (b := b) (o := 0) (m := L.length) (cap := L.length) (lo := 0) (hi := i) (l := none) (h := Option.some (gi i)) rfl rfl rfl rfl (by omega) (by omega)
  have e3 := sa_at (P := C.P) (t := 24) (el := 66) (es := 2) (b := b) (o := 0) (m := L.length) (cap := L.length) (lo := i + 1) (hi := L.length) (l := Option.some (gi (i + 1 : Nat))) (h := none) rfl rfl rfl rfl (by omega) (by omega)
  have hy : cellsA H 2 (.slice (Option.some ⟨b, 0 + (i + 1) * 2, Option.some 2⟩) (L.length - (i + 1)) (L.length - (i + 1))) = Option.some (L.length - (i + 1), lc (L.drop (i + 1))) := by
    simp only [cellsA, hg, Option.bind_some, if_true]
    rw [if_pos (by omega), ← lc_dr, Nat.zero_add, List.take_of_length_le (by rw [List.length_drop]; omega)]
  have hne : ((i : Int) == ((i + 1 : Nat) : Int)) = false := by rw [beq_eq_false_iff_ne]; omega
  have hld : (lc (L.drop (i + 1))).length = (L.length - (i + 1)) * 2 := by rw [lc_len, List.length_drop]
  have hbl := hget_lt hg
  have e4 : ∃ rest, rest.length = 2 ∧ appendA C.P base H 24 (.slice (Option.some ⟨b, 0, Option.some 2⟩) i L.length) (.slice (Option.some ⟨b, 0 + (i + 1) * 2, Option.some 2⟩) (L.length - (i + 1)) (L.length - (i + 1))) = Option.some (.slice (Option.some ⟨b, 0, Option.some 2⟩) (L.length - 1) L.length, H.set b (Option.some (66, lc (L.eraseIdx i) ++ rest))) := by
    have hq : lc (L.eraseIdx i) = (lc L).take (i * 2) ++ lc (L.drop (i + 1)) := by rw [List.eraseIdx_eq_take_drop_succ, lc_app, lc_tk]
    by_cases h0 : L.length - (i + 1) = 0
    · rw [h0] at hy ⊢
      refine ⟨(lc L).drop (i * 2), by rw [List.length_drop]; omega, ?_⟩
      rw [ap_0 ts24 hy, hq, List.append_assoc, show lc (L.drop (i + 1)) = [] from List.eq_nil_of_length_eq_zero (by omega), List.nil_append, List.take_append_drop]
      rw [show i = L.length - 1 by omega]
      congr 2
      unfold hget at hg
      have : H[b]? = Option.some (Option.some (66, lc L)) := by
        cases hq : H[b]? with
        | none => rw [hq] at hg; cases hg
        | some y => rw [hq] at hg; exact congrArg Option.some hg
      refine (List.ext_getElem? fun k => ?_).symm
      by_cases e : b = k
      · subst e; rw [List.getElem?_set_self hbl, this]
      · rw [List.getElem?_set_ne e]
    · refine ⟨(lc L).drop (i * 2 + (lc (L.drop (i + 1))).length), by rw [List.length_drop]; omega, ?_⟩
      rw [ap_in ts24 hb hg hy h0 (by omega) (by omega), setAll_gen _ _ _ (by omega), hq]
      congr 3
      omega
  obtain ⟨rest, hr, e4⟩ := e4
  have hee : (lc (L.eraseIdx i)).length = (L.length - 1) * 2 := by rw [lc_len, List.length_eraseIdx_of_lt hi]
  have e5 := sa_at (P := C.P) (t := 24) (el := 66) (es := 2) (b := b) (o := 0) (m := L.length - 1) (cap := L.length) (lo := L.length - 1) (hi := L.length) (l := Option.some (gi (L.length - 1 : Nat))) (h := Option.some (gi L.length)) rfl rfl rfl rfl (by omega) (by omega)
  have e6 : clearA C.P base (H.set b (Option.some (66, lc (L.eraseIdx i) ++ rest))) 24 (.slice (Option.some ⟨b, 0 + (L.length - 1) * 2, Option.some 2⟩) (L.length - (L.length - 1)) (L.length - (L.length - 1))) = Option.some (H.set b (Option.some (66, lc (L.eraseIdx i) ++ [gi 0, gi 0]))) := by
    have hz := ts24
    have hcz : (Value.agg #[gi 0, gi 0]).cells.toList = [gi 0, gi 0] := rfl
    unfold clearA
    simp only [hz.elem, hz.size, hz.zero, Option.bind_some, hz.ok, and_self, if_true, hcz]
    rw [show L.length - (L.length - 1) = 1 by omega, if_neg (by decide), if_pos hb]
    have hg2 : hget (H.set b (Option.some (66, lc (L.eraseIdx i) ++ rest))) b = Option.some (66, lc (L.eraseIdx i) ++ rest) := by simp [hget, hbl]
    rw [hg2, Option.bind_some, if_pos (by simp [hee, hr]), setAll_gen _ _ _ (by simp [hee, hr])]
    rw [List.set_set]
    congr 4
    rw [Nat.zero_add, ← hee]
    simp [hr, List.drop_eq_nil_of_le]
  simp only [Nat.zero_add, Nat.zero_mul, Nat.sub_zero] at e1 e2 e3 e4 e5 e6
  simp only [go_sem, show C.wr 64 = true from rfl, e1, hne]
  rw [fin_regd]; rotate_left; · decide +kernel
  simp only [go_sem, e2, e3, eo_append (show notInt C.P 24 = true from rfl), e4, e5, eo_clear, e6, Chr (show (rawF 64 || wrF 64) = true from rfl)]
end T

open Go Go.Am
namespace T
open Go.Proofs
set_option maxRecDepth 100000
set_option maxHeartbeats 4000000
set_option linter.unusedSimpArgs false
set_option linter.unusedVariables false
variable {base : Nat} {H : Heap}
@[go_sem] theorem ld52 {o T cs} : ld1 C.P 52 o (some (T, cs)) = cs[o]? := ld_sc rfl
theorem al52 {call : Nat → CallF} {base : Nat} {dr : Bool} {ρ : Env} {d : Option Tmp} {u : TypeId} {p : String} {e : Array Edge} {g : Option (Nat × Bool)} : evalOp C call base dr ⟨d, .alloc 52, u, p, e, g⟩ ρ H = some (.pointer (some ⟨H.length, 0, none⟩), H ++ [some (52, [.slice none 0 0])]) := eo_alloc (z := .slice none 0 0) rfl rfl
theorem without_c {s : Value} {L : List (Int × Int)} {k : Nat} (hs : SL H s L) (hL : L.length < 1000) (hk : k < L.length) : Ok (cal C base 45 [s, gi k] H) fun s H' => ∃ F, H' = H ++ F ∧ OwnL H.length H' 66 2 s (L.eraseIdx k).length (lc (L.eraseIdx k)) := by
  refine ok_fn Try.func45 rfl rfl (res := [.tmp 4]) rfl Try.ntmps45 1 base _ H ?_
  obtain ⟨v, H1, e1, F, rfl, ho⟩ := clone_c (base := H.length) hs (by omega) hL
  obtain ⟨h0, ⟨_, h, _⟩ | ⟨b, hb, rfl, hg⟩⟩ := ho
  · omega
  have e2 := del_c (base := H.length) hb hg hk hL
  have hkk : Keeps H.length H ((H ++ F).set b (some (66, lc (L.eraseIdx k) ++ [gi 0, gi 0]))) := (Keeps.append (Nat.le_refl _) F).trans (.set hb _)
  have hbl := hget_lt hg
  have hee : (lc (L.eraseIdx k)).length = (L.length - 1) * 2 := by rw [lc_len, List.length_eraseIdx_of_lt hk]
  have hcut : ((lc (L.eraseIdx k) ++ [gi 0, gi 0]).drop 0).take ((L.length - 1) * 2) = lc (L.eraseIdx k) := by rw [List.drop_zero, ← hee, List.take_left]
  have e3 := tv_sl (P := C.P) (m := H.length) (b := b) (o := 0) (es := 2) (q := L.length - 1) (c := L.length) (l := []) (old := (H ++ F).set b (some (66, lc (L.eraseIdx k) ++ [gi 0, gi 0]))) (acc := H) (T := 66) (cs := lc (L.eraseIdx k) ++ [gi 0, gi 0]) hb (by unfold hget; rw [List.getElem?_set_self hbl]; rfl) (by simp [hee]) rfl (by rw [hcut]; exact lcG _)
  rw [hcut] at e3
  simp only [go_sem, show C.wr 45 = false from rfl, e1]
  rw [wrapN (by omega)]
  simp only [go_sem, e2, Chb (show wrF 45 = false from rfl), take_keeps hkk, e3]
  refine .some ⟨_, rfl, ?_⟩
  rw [List.length_eraseIdx_of_lt hk]
  exact ⟨hee, .inr ⟨H.length, Nat.le_refl _, rfl, by simp [hget]⟩⟩
theorem leLess_c {s : Value} {L : List (Int × Int)} {k : Nat} (hs : SL H s L) (hL : L.length < 1000) (hk : k < L.length) : Ok (cal C base 46 [s, gi k] H) fun s H' => ∃ F, H' = H ++ F ∧ OwnL H.length H' 66 2 s (L.eraseIdx k).length (lc (L.eraseIdx k)) := by
  refine ok_fn Try.func46 rfl rfl (res := [.tmp 4]) rfl Try.ntmps46 1 base _ H ?_
  obtain ⟨s1, e1, h1⟩ := SL.to hs (k := k) (by omega)
  obtain ⟨s2, e2, h2⟩ := SL.from hs (k := k + 1) (by omega)
  have hn : OwnL H.length (H ++ [some (66, [])]) 66 2 (.slice (some ⟨H.length, 0, some 2⟩) 0 0) 0 [] := .empty H 66 2 (Nat.le_refl _)
  have hk0 : Keeps H.length H (H ++ [some (66, [])]) := .append (Nat.le_refl _) _
  obtain ⟨v1, H1, e3, ho1, hk1⟩ := hn.apps (base := H.length) (h1.keep hk0) ts24 (Nat.le_refl _) (by simp) (by rw [List.length_take]; unfold room; omega)
  have hk1' := hk0.trans hk1
  obtain ⟨v2, H2, e4, ho2, hk2⟩ := ho1.apps (base := H.length) (h2.keep hk1') ts24 (Nat.le_refl _) hk1'.1 (by rw [List.length_take, List.length_drop]; unfold room; omega)
  have hk2' := hk1'.trans hk2
  rw [List.nil_append, Nat.zero_add, ← lc_app, ← List.eraseIdx_eq_take_drop_succ, ← List.length_append, ← List.eraseIdx_eq_take_drop_succ] at ho2
  obtain ⟨s3, F, old, e5, ho'⟩ := ho2.hand (P := C.P) (acc := H) (l := []) (show tySize C.P 66 = some 2 from rfl) (lcG _)
  obtain ⟨a, c, rfl⟩ := hs.sl
  simp only [go_sem, show C.wr 46 = false from rfl]
  rw [fin_regd]; rotate_left; · decide +kernel
  rw [← wrapN (i := k) (by omega)] at e2
  simp only [go_sem, bs_nil ts24, e1, e2, e3, e4, eo_append (show notInt C.P 24 = true from rfl), Chb (show wrF 46 = false from rfl), take_keeps hk2', e5]
  exact .some ⟨F, rfl, ho'⟩
def less (M : List (Nat × Nat)) (k : Nat) : List (Nat × Nat) := M.eraseIdx k
theorem toZ_less (M : List (Nat × Nat)) (k : Nat) : (toZ M).eraseIdx k = toZ (less M k) := by simp [toZ, less, List.eraseIdx_eq_take_drop_succ, List.map_take, List.map_drop]
theorem less_r {M : List (Nat × Nat)} {n : Nat} (hr : ∀ l ∈ M, l.1 < n ∧ l.2 < n) (k : Nat) : ∀ l ∈ less M k, l.1 < n ∧ l.2 < n := fun l hl => hr l (List.mem_of_mem_eraseIdx hl)
theorem less_len (M : List (Nat × Nat)) (k : Nat) : (less M k).length ≤ M.length := List.length_eraseIdx_le _ _
theorem needl44_c {n k b2 b3 b4 : Nat} (hn : n ≤ 10) {s w : Value} {M : List (Nat × Nat)} (h2 : hget H b2 = some (3, [gi n])) (h3 : hget H b3 = some (24, [s])) (h4 : hget H b4 = some (52, [w])) (hs : SL H s (toZ M)) (hw : Shows H 1 w n (nu (play n M))) (hM : M.length < 1000) (hr : ∀ l ∈ M, l.1 < n ∧ l.2 < n) (hk : k < M.length) (q : Bool) (hq : q = (play n (less M k) == play n M)) :
    cal C base 44 [gi k, pt b2, pt b3, pt b4] H = some (bo q, H) := by
  refine cal_fn Try.func44 rfl rfl (res := [.tmp 5]) rfl Try.ntmps44 1 base _ H ?_
  obtain ⟨s', H1, e1, F, rfl, ho⟩ := without_c (base := H.length) hs (by rw [toZ_len]; exact hM) (k := k) (by rw [toZ_len]; exact hk)
  rw [toZ_less] at ho
  have ll := less_len M k
  obtain ⟨v, H1, e3, F2, rfl, hv⟩ := byL_c (base := H.length) (H := H ++ F) hn ho.shows (by omega) (less_r hr k)
  have l1 := (play_ok hn (less M k)).1
  have l2 := (play_ok hn M).1
  have e5 := eqU_c (base := H.length) (B1 := play n (less M k)) (B2 := play n M) (by rw [l1]; exact hv.shows) (by rw [l2]; exact (hw.add F).add F2) (by omega) q hq
  have hk2 : Keeps H.length H (H ++ F ++ F2) := (Keeps.append (Nat.le_refl _) F).trans (.append (by simp) F2)
  obtain ⟨a, c, rfl⟩ := hs.sl
  simp only [go_sem, show C.wr 44 = false from rfl]
  rw [fin_regd]; rotate_left; · decide +kernel
  simp only [go_sem, h2, h3, e1, e3, hget_old (hget_old h4 F) F2, e5, Chb (show wrF 44 = false from rfl), take_keeps hk2]
theorem needl_c {n : Nat} {s : Value} {M : List (Nat × Nat)} (hs : SL H s (toZ M)) (hM : M.length < 1000) (hn : n ≤ 10) (hr : ∀ l ∈ M, l.1 < n ∧ l.2 < n) (h : areL n (toZ M) = true) (p : Nat → Bool) (hp : ∀ k, p k = (play n (less M k) == play n M)) :
    Ok (cal C base 14 [gi n, s] H) fun v H' => ∃ F t, H' = H ++ F ∧ v = .tuple #[t, bo true] ∧ OwnL H.length H' 3 1 t (idx M.length p).length (ni (idx M.length p)) := by
  refine ok_fn Try.func14 rfl rfl (res := [.tmp 4, .tmp 5]) rfl Try.ntmps14 1 base _ H ?_
  have hsl := hs.sl
  rw [toZ_len] at hsl
  obtain ⟨a, c, rfl⟩ := hsl
  have h2 := (hs.add [some (3, [gi n])]).add [some (24, [.slice a M.length c])]
  have e := areL_c (base := H.length) (n := n) h2 (by rw [toZ_len]; exact hM)
  simp only [List.append_assoc, List.cons_append, List.nil_append] at e h2
  obtain ⟨v, H1, e1, F, rfl, ho⟩ := byL_c (base := H.length) (n := n) hn h2 hM hr
  obtain ⟨av, cv, rfl⟩ := ho.shows.sl
  have hH2 : H.length + 2 ≤ (H ++ [some (3, [gi n]), some (24, [.slice a M.length c])] ++ F).length := by simp
  generalize hq : H ++ [some (3, [gi n]), some (24, [.slice a M.length c])] ++ F = H2 at *
  have g0 : hget H2 H.length = some (3, [gi n]) := by rw [← hq]; exact hget_old hget_0 F
  have g1 : hget H2 (H.length + 1) = some (24, [.slice a M.length c]) := by rw [← hq]; exact hget_old hget_1 F
  have hk0 : Keeps H.length H H2 := by rw [← hq, List.append_assoc]; exact .append (Nat.le_refl _) _
  have hst := st_new (P := C.P) (base := H.length) (t := 52) (H := H2) (T := 52) (cs := [.slice none 0 0]) (v := .slice av n cv) (by omega) rfl rfl rfl
  have hk1 : Keeps H.length H (H2 ++ [some (52, [.slice av n cv])]) := hk0.trans (.append (by omega) _)
  obtain ⟨v, H1, e2, F3, rfl, ho2⟩ := indices_g (base := H.length) (H := H2 ++ [some (52, [.slice av n cv])]) (g := 44) (caps := #[pt H.length, pt (H.length + 1), pt H2.length]) hM p (fun k hk base H' hkp => by
    obtain ⟨F0, rfl⟩ := keeps_append hkp
    exact needl44_c hn (hget_old (hget_old g0 _) F0) (hget_old (hget_old g1 _) F0) (hget_old hget_0 F0) ((hs.keep hk1).add F0) ((ho.shows.add _).add F0) hM hr hk (p k) (hp k))
  have hk : Keeps H.length H (H2 ++ [some (52, [.slice av n cv])] ++ F3) := hk1.trans (.append (by simp; omega) _)
  obtain ⟨s', F', old, e4, ho'⟩ := (ho2.low (k' := H.length) (by simp; omega)).hand (P := C.P) (acc := H) (l := [bo true]) (show tySize C.P 3 = some 1 from rfl) (by simp [isG, sc, ni])
  simp only [go_sem, hget_0, hget_1, List.append_assoc, List.length_append, e, h, e1, show C.wr 14 = false from rfl, al52, hst, hget_old g0, hget_old g1]
  simp only [List.append_assoc, List.cons_append, List.nil_append] at e2 e4 hk
  simp only [go_sem, e2, Chb (show wrF 14 = false from rfl), take_keeps hk, e4]
  exact .some ⟨F', s', rfl, rfl, ho'⟩
theorem needlS_c {n : Nat} {s : Value} {M : List (Nat × Nat)} (hs : SL H s (toZ M)) (hM : M.length < 1000) (hn : n ≤ 10) (hr : ∀ l ∈ M, l.1 < n ∧ l.2 < n) (h : areL n (toZ M) = true) (p : Nat → Bool) (hp : ∀ k, p k = (play n (less M k) == play n M)) :
    Ok (cal C base 15 [gi n, s] H) fun v H' => ∃ F t, H' = H ++ F ∧ v = .tuple #[t, bo true] ∧ OwnL H.length H' 3 1 t (idx M.length p).length (ni (idx M.length p)) := by
  refine ok_fn Try.func15 rfl rfl (res := [.tmp 4, .tmp 5]) rfl Try.ntmps15 1001 base _ H ?_
  have hsl := hs.sl
  rw [toZ_len] at hsl
  obtain ⟨a, c, rfl⟩ := hsl
  simp only [go_sem, leGood_c hs (by rw [toZ_len]; exact hM), h, show C.wr 15 = false from rfl]
  rw [fin_loopk [15, 16, 7, 17, 18, 19, 20, 21, 22, 23, 24, 25, 26, 27, 28, 29, 30] rfl]
  refine lp_ok [6, 14] (fun j vs H' => ∃ (i : Nat) (t : Value), i + j = M.length ∧ vs = [t, gi i] ∧ OwnL H.length H' 3 1 t (idx i p).length (ni (idx i p)) ∧ Keeps H.length H H') M.length [.slice none 0 0, gi 0] ?_ (by omega) (by simp only [go_sem]) ⟨0, _, by omega, rfl, .nil _ _ _ _, .refl _ _⟩
  rintro j m vs H' ⟨i, t, hij, rfl, ho, hk⟩ ih
  have hil := idx_len i p
  cases hlt : decide ((i : Int) < (M.length : Int))
  · obtain rfl : i = M.length := by have := of_decide_eq_false hlt; omega
    obtain ⟨s', F, old, e, ho'⟩ := ho.hand (P := C.P) (acc := H) (l := [bo true]) (show tySize C.P 3 = some 1 from rfl) (by simp [isG, sc, ni])
    simp only [go_sem, hlt, Chb (show wrF 15 = false from rfl), take_keeps hk, e]
    exact .some ⟨F, s', rfl, rfl, ho'⟩
  · have hi : i < M.length := by have := of_decide_eq_true hlt; omega
    have hs1 := hs.keep hk
    obtain ⟨s', H1, e1, F0, rfl, hx⟩ := leLess_c (base := H.length) hs1 (by rw [toZ_len]; exact hM) (k := i) (by rw [toZ_len]; exact hi)
    rw [toZ_less] at hx
    have ll := less_len M i
    have hl0 := hk.1
    obtain ⟨v, H1, e3, F, rfl, hv⟩ := lePlay_c (base := H.length) hn hx.shows (by omega) (less_r hr i)
    obtain ⟨v2, H2, e4, F2, rfl, hv2⟩ := lePlay_c (base := H.length) (H := H' ++ F0 ++ F) hn ((hs1.add F0).add F) hM hr
    have l1 := (play_ok hn (less M i)).1
    have l2 := (play_ok hn M).1
    have e5 := eqI_c (base := H.length) (B1 := play n (less M i)) (B2 := play n M) (by rw [l1]; exact hv.shows.add F2) (by rw [l2]; exact hv2.shows) (by omega) (p i) (hp i)
    have e6 := idx_succ i p
    have ho2 := ((ho.keep (.append (Nat.le_refl _) F0)).keep (.append (Nat.le_refl _) F)).keep (.append (Nat.le_refl _) F2)
    have hk2 : Keeps H.length H (H' ++ F0 ++ F ++ F2) := by rw [List.append_assoc, List.append_assoc]; exact hk.trans (.append hk.1 _)
    simp only [go_sem, hlt]
    cases hpi : p i
    · rw [hpi] at e5 e6
      simp only [go_sem, e1, e3, e4, e5]
      rw [wrapN (by omega)]
      exact ih (j - 1) [t, gi (i + 1 : Nat)] _ _ (by omega) (by simp only [go_sem]) ⟨i + 1, t, by omega, rfl, by rw [e6]; exact ho2, hk2⟩
    · rw [hpi] at e5 e6
      have hap := ho2.app (base := H.length) ts34 (Nat.le_refl _) (ys := [.int .i64 (i : Int)]) rfl (by unfold room; omega)
      simp only [go_sem, e1, e3, e4, e5, bs_one ts34 (x := Value.int .i64 _) rfl rfl, eo_append (show notInt C.P 34 = true from rfl), hap]
      rw [wrapN (by omega)]
      refine ih (j - 1) [_, gi (i + 1 : Nat)] _ _ (by omega) (by simp only [go_sem]) ⟨i + 1, .slice (some ⟨(H' ++ F0 ++ F ++ F2).length + 1, 0, some 1⟩) ((idx i p).length + 1) ((idx i p).length + 1), by omega, rfl, ?_, ho2.keeps hk2 (Nat.le_refl _)⟩
      rw [e6, if_pos rfl, show (idx i p ++ [i]).length = (idx i p).length + 1 by simp, show ni (idx i p ++ [i]) = ni (idx i p) ++ [.int .i64 (i : Int)] by simp [ni]]
      exact ho2.next (ys := [.int .i64 (i : Int)]) hk2.1 rfl
end T

