/- Calls: who knows what, needed, idle and needless calls. No conditions. -/
import Derived.Test.YtjoapoebeknddaaK1
set_option linter.unusedSimpArgs false
set_option linter.unusedVariables false
open Go Go.Am
namespace T
open Go.Proofs
set_option maxRecDepth 100000
set_option maxHeartbeats 4000000
set_option linter.unusedSimpArgs false
set_option linter.unusedVariables false
variable {base : Nat} {H : Heap}
theorem areC_lt {n : Int} {L : List (Int × Int)} (h : areC n L = true) : ∃ (m : Nat) (M : List (Nat × Nat)), n = m ∧ m ≤ 10 ∧ 0 < m ∧ L = toZ M ∧ M.length ≤ 60 ∧ ∀ l ∈ M, l.1 < m ∧ l.2 < m ∧ l.1 < l.2 := by
  simp only [areC, areF, Bool.and_eq_true, decide_eq_true_eq] at h
  obtain ⟨⟨⟨h1, h2⟩, h3⟩, h4⟩ := h
  obtain ⟨m, rfl⟩ := Int.eq_ofNat_of_zero_le (show 0 ≤ n by omega)
  refine ⟨m, L.map fun l => (l.1.toNat, l.2.toNat), rfl, by omega, by omega, ?_, by simpa using h3, ?_⟩
  · have : ∀ l ∈ L, ((l.1.toNat : Int), (l.2.toNat : Int)) = l := by
      intro l hl
      have := List.all_eq_true.1 h4 l hl
      simp only [isC, Bool.and_eq_true, decide_eq_true_eq] at this
      obtain ⟨⟨a1, b1⟩, c1⟩ := this
      rw [Int.toNat_of_nonneg a1, Int.toNat_of_nonneg (by omega)]
    unfold toZ
    rw [List.map_map]
    have e : List.map ((fun l : Nat × Nat => ((l.1 : Int), (l.2 : Int))) ∘ fun l : Int × Int => (l.1.toNat, l.2.toNat)) L = List.map id L := List.map_congr_left fun l hl => this l hl
    rw [e, List.map_id]
  · intro l hl
    obtain ⟨q, hq, rfl⟩ := List.mem_map.1 hl
    have := List.all_eq_true.1 h4 q hq
    simp only [isC, Bool.and_eq_true, decide_eq_true_eq] at this
    obtain ⟨⟨a1, b1⟩, c1⟩ := this
    refine ⟨?_, ?_, ?_⟩
    · show q.1.toNat < m; omega
    · show q.2.toNat < m; omega
    · show q.1.toNat < q.2.toNat; omega
def full (n : Nat) (B : List Nat) : Bool := B.all fun x => x == 2 ^ n - 1
theorem sub64 {P : Program} {ρ : Env} {o : Oper} {n : Nat} (h : n < 16) : bin2 P ρ o H .sub (.int .i64 ((2 ^ n : Nat) : Int)) (.int .i64 1) = some (.int .i64 ((2 ^ n - 1 : Nat) : Int), H) := by
  rw [b_sub]
  have h1 := Nat.pow_lt_pow_right (show 1 < 2 by decide) h
  have h2 := Nat.two_pow_pos n
  have e : IntKind.i64.wrap (((2 ^ n : Nat) : Int) - 1) = ((2 ^ n - 1 : Nat) : Int) := by rw [IntKind.wrap_i64]; omega
  rw [e]
theorem caAll_c {s : Value} {B : List Nat} (hs : Shows H 1 s B.length (ni B)) (hB : B.length ≤ 10) : cal C base 43 [s] H = some (bo (full B.length B), H) := by
  refine cal_fn Try.func43 rfl rfl (res := [.tmp 2]) rfl Try.ntmps43 1001 base _ H ?_
  obtain ⟨a, c, rfl⟩ := hs.sl
  simp only [go_sem, show C.wr 43 = false from rfl]
  rw [fin_loopk [8, 9, 10, 4, 11, 12, 13, 14, 15, 16, 2, 17] rfl]
  refine lp_run [7] (fun j vs H' => ∃ i : Nat, i + j = B.length ∧ vs = [gi i] ∧ (∀ k (h : k < B.length), k < i → B[k] = 2 ^ B.length - 1) ∧ H' = H) ?_ B.length [gi 0] (by omega) (by simp only [go_sem]) ⟨0, by omega, rfl, fun k _ h => absurd h (Nat.not_lt_zero _), rfl⟩
  rintro j m vs H' ⟨i, hij, rfl, hno, rfl⟩ ih
  cases hlt : decide ((i : Int) < (B.length : Int))
  · simp only [go_sem, hlt, Chb (show wrF 43 = false from rfl)]
    have : full B.length B = true := by
      unfold full
      rw [List.all_eq_true]
      intro x hx
      obtain ⟨k, hk, rfl⟩ := List.getElem_of_mem hx
      rw [beq_iff_eq]
      exact hno k hk (by have := of_decide_eq_false hlt; omega)
    rw [this]
  · have hi : i < B.length := by have := of_decide_eq_true hlt; omega
    obtain ⟨b, o, T, cs, h1, h2, h3⟩ := ElI hs hi
    have hg : B.getD i 0 = B[i] := by simp [hi]
    rw [hg] at h3
    cases hpi : ((B[i] : Nat) : Int) != ((2 ^ B.length - 1 : Nat) : Int)
    · simp only [go_sem, hlt, h1, h2, h3, b_shl (Int.natCast_nonneg _), sh64 B.length (by omega), sub64 (show B.length < 16 by omega), hpi]
      rw [wrapN (by omega)]
      refine ih (j - 1) [gi (i + 1 : Nat)] _ _ (by omega) (by simp only [go_sem]) ⟨i + 1, by omega, rfl, fun k hk hki => ?_, rfl⟩
      by_cases e : k = i
      · subst e
        have := bne_eq_false_iff_eq.1 hpi
        exact_mod_cast this
      · exact hno k hk (by omega)
    · simp only [go_sem, hlt, h1, h2, h3, b_shl (Int.natCast_nonneg _), sh64 B.length (by omega), sub64 (show B.length < 16 by omega), hpi, Chb (show wrF 43 = false from rfl)]
      have : full B.length B = false := by
        unfold full
        rw [List.all_eq_false]
        refine ⟨_, List.getElem_mem hi, ?_⟩
        rw [beq_iff_eq]
        intro e
        rw [e] at hpi
        simp at hpi
      rw [this]
theorem afterNo_c {n : Int} {s : Value} {L : List (Int × Int)} (hs : SL H s L) (hL : L.length < 1000) (h : areC n L = false) : cal C base 6 [gi n, s] H = some (.tuple #[.slice none 0 0, bo false], H) := by
  refine cal_fn Try.func6 rfl rfl (res := [.tmp 4, .tmp 5]) rfl Try.ntmps6 1 base _ H ?_
  simp only [go_sem, areC_c hs hL, h, Chr (show (rawF 6 || wrF 6) = true from rfl)]
theorem knownAfter_c {n : Nat} {s : Value} {M : List (Nat × Nat)} (hs : SL H s (toZ M)) (hM : M.length < 1000) (hn : n ≤ 10) (hr : ∀ l ∈ M, l.1 < n ∧ l.2 < n) (h : areC n (toZ M) = true) :
    Ok (cal C base 6 [gi n, s] H) fun v H' => Keeps H.length H H' ∧ ∃ t, v = .tuple #[t, bo true] ∧ RowsL H.length H' t ((playC n M).map bitsOf) := by
  refine ok_fn Try.func6 rfl rfl (res := [.tmp 4, .tmp 5]) rfl Try.ntmps6 1 base _ H ?_
  have hZ : (toZ M).length = M.length := by simp [toZ]
  obtain ⟨v, H1, e1, F, rfl, ho⟩ := after_c (base := H.length) hn hs hM hr
  have hl := (playC_ok hn M).1
  have hsh : Shows (H ++ F) 1 v (playC n M).length (nu (playC n M)) := by rw [hl]; exact ho.shows
  obtain ⟨t, H2, e2, hk, hR⟩ := lists_c (base := H.length) hsh (by omega) (plC16 hn)
  simp only [go_sem, show C.wr 6 = false from rfl, areC_c hs (by rw [hZ]; exact hM), h, e1, e2, Chr (show (rawF 6 || wrF 6) = true from rfl)]
  refine .some ⟨(Keeps.append (Nat.le_refl _) F).trans (hk.mono (by simp)), t, rfl, ?_⟩
  obtain ⟨cs, h1, h2⟩ := hR
  exact ⟨cs, h1.low (by simp), fun i r hr => by obtain ⟨v, k1, k2⟩ := h2 i r hr; exact ⟨v, k1, k2.low (by simp)⟩⟩
theorem knownNoS_c {n : Int} {s : Value} {L : List (Int × Int)} (hs : SL H s L) (hL : L.length < 1000) (h : areC n L = false) : cal C base 7 [gi n, s] H = some (.tuple #[.slice none 0 0, bo false], H) := by
  refine cal_fn Try.func7 rfl rfl (res := [.tmp 4, .tmp 5]) rfl Try.ntmps7 1 base _ H ?_
  simp only [go_sem, caGood_c hs hL, h, Chr (show (rawF 7 || wrF 7) = true from rfl)]
theorem knownS_c {n : Nat} {s : Value} {M : List (Nat × Nat)} (hs : SL H s (toZ M)) (hM : M.length < 1000) (hn : n ≤ 10) (hr : ∀ l ∈ M, l.1 < n ∧ l.2 < n) (h : areC n (toZ M) = true) :
    Ok (cal C base 7 [gi n, s] H) fun v H' => Keeps H.length H H' ∧ ∃ t, v = .tuple #[t, bo true] ∧ RowsL H.length H' t ((playC n M).map bitsOf) := by
  refine ok_fn Try.func7 rfl rfl (res := [.tmp 4, .tmp 5]) rfl Try.ntmps7 1001 base _ H ?_
  have hZ : (toZ M).length = M.length := by simp [toZ]
  obtain ⟨v, H1, e1, F, rfl, ho⟩ := caPlay_c (base := H.length) hn hs hM hr
  have hl := (playC_ok hn M).1
  have hsh : Shows (H ++ F) 1 v (playC n M).length (ni (playC n M)) := by rw [hl]; exact ho.shows
  have hx := plC16 hn (M := M)
  generalize playC n M = B at *
  obtain ⟨a, c, rfl⟩ := hsh.sl
  have hHF : H.length ≤ (H ++ F).length := by simp
  have hk1 : Keeps H.length H (H ++ F) := .append (Nat.le_refl _) _
  simp only [go_sem, show C.wr 7 = false from rfl, caGood_c hs (by rw [hZ]; exact hM), h, e1]
  rw [fin_loopk [18, 19, 20, 8, 21, 22, 23, 24, 25, 26] rfl]
  refine lp_ok [6, 17] (fun j vs H' => ∃ (i : Nat) (s : Value), i + j = B.length ∧ vs = [s, gi i] ∧ Keeps (H ++ F).length (H ++ F) H' ∧ RowsL (H ++ F).length H' s ((B.take i).map bitsOf)) B.length [.slice none 0 0, gi 0] ?_ (by omega) (by simp only [go_sem]) ⟨0, _, by omega, rfl, .refl _ _, [], .nil _ _ _ _, fun i r hr => by simp at hr⟩
  rintro j m vs H' ⟨i, s, hij, rfl, hk, hR⟩ ih
  cases hlt : decide ((i : Int) < (B.length : Int))
  · obtain rfl : i = B.length := by have := of_decide_eq_false hlt; omega
    simp only [go_sem, hlt, Chr (show (rawF 7 || wrF 7) = true from rfl)]
    rw [List.take_length] at hR
    obtain ⟨cs, h1, h2⟩ := hR
    exact .some ⟨hk1.trans (hk.mono hHF), s, rfl, cs, h1.low hHF, fun i r hr => by obtain ⟨v, k1, k2⟩ := h2 i r hr; exact ⟨v, k1, k2.low hHF⟩⟩
  · have hi : i < B.length := by have := of_decide_eq_true hlt; omega
    obtain ⟨b, o, T, cs, h1, h2, h3⟩ := ElI (hsh.keep hk) hi
    have hxi : B.getD i 0 < 65536 := by simp [hi]; exact hx _ (List.getElem_mem hi)
    obtain ⟨v, H2, e, F2, rfl, hv⟩ := caBits_c (base := H.length) (H := H') hxi
    obtain ⟨cs2, ho2, hr2⟩ := hR
    have hkF : Keeps H'.length H' (H' ++ F2) := .append (Nat.le_refl _) _
    have hHk := hk.1
    have hap := (ho2.keep hkF).app (base := H.length) ts27 (by omega) (ys := [v]) rfl (by simp; unfold room; omega)
    have hvs : ∃ a c, v = .slice a c c := by
      obtain ⟨_, ⟨rfl, h, _⟩ | ⟨b', _, rfl, _⟩⟩ := hv <;> exact ⟨_, _, rfl⟩
    have hbs : buildSliceA C.P (H' ++ F2) 27 1 [(0, v)] = some (.slice (some ⟨(H' ++ F2).length, 0, some 1⟩) 1 1, H' ++ F2 ++ [some (34, [v])]) := by
      obtain ⟨a', c', rfl⟩ := hvs
      exact bs_one ts27 rfl rfl
    simp only [go_sem, hlt, h1, h2, h3, ld62, ld3, e, hbs, eo_append (show notInt C.P 27 = true from rfl), hap]
    rw [wrapN (by omega)]
    refine ih (j - 1) [_, gi (i + 1 : Nat)] _ _ (by omega) ?_ ⟨i + 1, .slice (some ⟨(H' ++ F2).length + 1, 0, some 1⟩) (((B.take i).map bitsOf).length + 1) (((B.take i).map bitsOf).length + 1), by omega, rfl, (ho2.keep hkF).keeps (hk.trans (.append hk.1 _)) (Nat.le_refl _), ?_⟩
    · simp only [go_sem]
    · rw [List.take_succ_eq_append_getElem hi, List.map_append]
      have hg : B.getD i 0 = B[i] := by simp [hi]
      rw [hg] at hv
      exact RowsL.next (r := bitsOf B[i]) (ho2.keep hkF) (fun i r h => by obtain ⟨v, k1, k2⟩ := hr2 i r h; exact ⟨v, k1, k2.keep hkF⟩) (hv.low hk.1) (by have := hk.1; simp at this ⊢; omega)
end T

open Go Go.Am
namespace T
open Go.Proofs
set_option maxRecDepth 100000
set_option maxHeartbeats 4000000
set_option linter.unusedSimpArgs false
set_option linter.unusedVariables false
variable {base : Nat} {H : Heap}
def pop8 (x : Nat) : Nat := x % 2 + x / 2 % 2 + x / 4 % 2 + x / 8 % 2 + x / 16 % 2 + x / 32 % 2 + x / 64 % 2 + x / 128 % 2
def pop (x : Nat) : Nat := pop8 (x / 256) + pop8 (x % 256)
theorem sh8 {P : Program} {ρ : Env} {o : Oper} {x : Nat} (hx : x < 65536) : bin2 P ρ o H .shr (.int .u16 (x : Int)) (.int .i64 8) = some (.int .u16 ((x / 256 : Nat) : Int), H) := by
  have := bit16 (H := H) (P := P) (ρ := ρ) (o := o) (o' := o) hx (i := 8) (by decide)
  rw [Nat.shiftRight_eq_div_pow] at this
  exact this
theorem sh8' {P : Program} {ρ : Env} {o : Oper} {x : Nat} {K : IntKind} (hx : x < 65536) : bin2 P ρ o H .shr (.int .u16 (x : Int)) (.int K 8) = some (.int .u16 ((x / 256 : Nat) : Int), H) := by
  rw [b_shr (by decide)]
  have e : ((x : Int).fdiv (2 ^ min (8 : Int).toNat IntKind.u16.bits)) = ((x / 256 : Nat) : Int) := by
    rw [show (2 : Int) ^ min (8 : Int).toNat IntKind.u16.bits = 256 by decide, Int.fdiv_eq_ediv_of_nonneg _ (by decide)]
    rfl
  rw [e]
theorem and8 {P : Program} {ρ : Env} {o : Oper} {x : Nat} (hx : x < 65536) : bin2 P ρ o H .and (.int .u16 (x : Int)) (.int .u16 255) = some (.int .u16 ((x % 256 : Nat) : Int), H) := by
  rw [b_and]
  refine congrArg (fun z => some (Value.int .u16 z, H)) ?_
  have e : (BitVec.ofInt 16 (x : Int) &&& BitVec.ofInt 16 255).toNat = x % 256 := by
    rw [BitVec.toNat_and, BitVec.toNat_ofInt, BitVec.toNat_ofInt, show ((255 : Int) % ((2 ^ 16 : Nat) : Int)).toNat = 2 ^ 8 - 1 by decide, show ((x : Int) % ((2 ^ 16 : Nat) : Int)).toNat = x by omega, Nat.and_two_pow_sub_one_eq_mod]
  show IntKind.u16.wrap ((BitVec.ofInt 16 (x : Int) &&& BitVec.ofInt 16 255).toNat : Int) = _
  rw [e]; simp only [IntKind.wrap, IntKind.bits, IntKind.signed, Bool.false_and, Bool.false_eq_true, if_false]; omega
theorem ones_c {x : Nat} (hx : x < 65536) : cal C base 77 [.int .u16 (x : Int)] H = some (gi (pop x), H) := by
  refine cal_fn Try.func77 rfl rfl (res := [.tmp 2]) rfl Try.ntmps77 1 base _ H ?_
  simp only [go_sem, show C.wr 77 = false from rfl]
  rw [fin_regd]
  rotate_left; · decide +kernel
  simp only [go_sem, sh8' hx, and8 hx]
  have h1 : x / 256 < 256 := by omega
  have h2 : x % 256 < 256 := Nat.mod_lt _ (by decide)
  have l8 : ∀ y : Nat, y < 256 → pop8 y ≤ 8 := by intro y _; unfold pop8; omega
  rw [eo_index (i := x / 256) (K := .u16) (b := UInt8.ofNat (pop8 (x / 256))) rfl rfl ?hb rfl]
  case hb => generalize x / 256 = y at *; clear hx h2 l8; revert y; decide +kernel
  simp only [go_sem, and8 hx]
  rw [eo_index (i := x % 256) (K := .u16) (b := UInt8.ofNat (pop8 (x % 256))) rfl rfl ?hb rfl]
  case hb => generalize x % 256 = y at *; clear hx h1 l8; revert y; decide +kernel
  simp only [go_sem]
  rw [eo_convI (K := .i64) (K' := .u8) rfl ⟨.u8, rfl⟩ rfl]
  simp only [go_sem, Chb (show wrF 77 = false from rfl)]
  have e : IntKind.i64.wrap (IntKind.u8.wrap (((UInt8.ofNat (pop8 (x / 256))).toNat : Int) + ((UInt8.ofNat (pop8 (x % 256))).toNat : Int))) = ((pop x : Nat) : Int) := by
    have a1 := l8 _ h1
    have a2 := l8 _ h2
    rw [UInt8.toNat_ofNat', UInt8.toNat_ofNat', IntKind.wrap_i64]
    unfold pop
    simp only [IntKind.wrap, IntKind.bits, IntKind.signed, Bool.false_and, Bool.false_eq_true, if_false]
    omega
  rw [e]
end T

open Go Go.Am
namespace T
open Go.Proofs
set_option maxRecDepth 100000
set_option maxHeartbeats 4000000
set_option linter.unusedSimpArgs false
set_option linter.unusedVariables false
variable {base : Nat} {H : Heap}
def popSum (B : List Nat) : Nat := (B.map pop).sum
theorem pop_le (x : Nat) : pop x ≤ 16 := by unfold pop pop8; omega
theorem addN {a b : Nat} (ha : a < 1000000) (hb : b < 1000000) : IntKind.i64.wrap ((a : Int) + (b : Int)) = ((a + b : Nat) : Int) := by rw [IntKind.wrap_i64]; omega
theorem popSum_le (B : List Nat) : popSum B ≤ 16 * B.length := by
  induction B with
  | nil => exact Nat.zero_le _
  | cons a l ih => have := pop_le a; simp only [popSum, List.map_cons, List.sum_cons, List.length_cons] at ih ⊢; omega
theorem count_g (f : List Nat → Nat) {s : Value} {B : List Nat} (h0 : f [] = 0) (h1 : ∀ (i : Nat) (h : i < B.length), IntKind.i64.wrap (((f (B.take i) : Nat) : Int) + ((pop B[i] : Nat) : Int)) = ((f (B.take (i + 1)) : Nat) : Int)) (hs : Shows H 1 s B.length (nu B)) (hB : B.length < 1000) (hx : ∀ x ∈ B, x < 65536) : cal C base 44 [s] H = some (gi (f B), H) := by
  refine cal_fn Try.func44 rfl rfl (res := [.tmp 2]) rfl Try.ntmps44 1001 base _ H ?_
  obtain ⟨a, c, rfl⟩ := hs.sl
  simp only [go_sem, show C.wr 44 = false from rfl]
  rw [fin_loopk [9, 10, 11, 5, 12, 13, 14, 15, 16] rfl]
  refine lp_run [3, 8] (fun j vs H' => ∃ i : Nat, i + j = B.length ∧ vs = [gi (f (B.take i)), gi i] ∧ H' = H) ?_ B.length [gi 0, gi 0] (by omega) (by simp only [go_sem]) ⟨0, by omega, by rw [List.take_zero, h0]; rfl, rfl⟩
  rintro j m vs H' ⟨i, hij, rfl, rfl⟩ ih
  cases hlt : decide ((i : Int) < (B.length : Int))
  · obtain rfl : i = B.length := by have := of_decide_eq_false hlt; omega
    simp only [go_sem, hlt, Chb (show wrF 44 = false from rfl), List.take_length]
  · have hi : i < B.length := by have := of_decide_eq_true hlt; omega
    obtain ⟨b, o, T, cs, k1, k2, k3⟩ := ElU hs hi
    have hg : B.getD i 0 = B[i] := by simp [hi]
    rw [hg] at k3
    simp only [go_sem, hlt, k1, k2, k3, ones_c (hx _ (List.getElem_mem hi)), h1 i hi]
    rw [wrapN (by omega)]
    exact ih (j - 1) [gi (f (B.take (i + 1))), gi (i + 1 : Nat)] _ _ (by omega) (by simp only [go_sem]) ⟨i + 1, by omega, rfl, rfl⟩
theorem count_c {s : Value} {B : List Nat} (hs : Shows H 1 s B.length (nu B)) (hB : B.length < 1000) (hx : ∀ x ∈ B, x < 65536) : cal C base 44 [s] H = some (gi (popSum B), H) := by
  refine count_g popSum rfl (fun i hi => ?_) hs hB hx
  have a1 := popSum_le (B.take i)
  have a2 := pop_le B[i]
  have a3 : (B.take i).length ≤ 1000 := by simp; omega
  have a4 : popSum (B.take (i + 1)) = popSum (B.take i) + pop B[i] := by
    rw [List.take_succ_eq_append_getElem hi]; simp only [popSum, List.map_append, List.sum_append, List.map_cons, List.map_nil, List.sum_cons, List.sum_nil, Nat.add_zero]
  rw [a4]; exact addN (by omega) (by omega)
def allK (B : List Nat) : Bool := popSum B == B.length * B.length
theorem allKnow_c {s : Value} {B : List Nat} (hs : Shows H 1 s B.length (nu B)) (hB : B.length < 1000) (hx : ∀ x ∈ B, x < 65536) : cal C base 42 [s] H = some (bo (allK B), H) := by
  refine cal_fn Try.func42 rfl rfl (res := [.tmp 2]) rfl Try.ntmps42 1 base _ H ?_
  have hc := count_c (base := H.length) hs hB hx
  obtain ⟨a, c, rfl⟩ := hs.sl
  have e : IntKind.i64.wrap ((B.length : Int) * (B.length : Int)) = ((B.length * B.length : Nat) : Int) := by
    have : B.length * B.length < 1000 * 1000 := Nat.mul_lt_mul'' hB hB
    rw [IntKind.wrap_i64]
    push_cast
    have h2 : ((B.length : Int) * (B.length : Int)) = ((B.length * B.length : Nat) : Int) := by push_cast; rfl
    rw [h2]
    generalize B.length * B.length = q at *
    omega
  have e2 : (((popSum B : Nat) : Int) == ((B.length * B.length : Nat) : Int)) = allK B := by
    unfold allK
    rw [Bool.eq_iff_iff, beq_iff_eq, beq_iff_eq]
    exact Int.ofNat_inj
  simp only [go_sem, hc, show C.wr 42 = false from rfl, e, e2, Chb (show wrF 42 = false from rfl)]
theorem all_no {n : Int} {s : Value} {L : List (Int × Int)} (hs : SL H s L) (hL : L.length < 1000) (h : areC n L = false) : cal C base 8 [gi n, s] H = some (.tuple #[bo false, bo false], H) ∧ cal C base 9 [gi n, s] H = some (.tuple #[bo false, bo false], H) := by
  constructor
  · refine cal_fn Try.func8 rfl rfl (res := [.tmp 4, .tmp 5]) rfl Try.ntmps8 1 base _ H ?_
    simp only [go_sem, areC_c hs hL, h, Chb (show wrF 8 = false from rfl)]
  · refine cal_fn Try.func9 rfl rfl (res := [.tmp 4, .tmp 5]) rfl Try.ntmps9 1 base _ H ?_
    simp only [go_sem, caGood_c hs hL, h, Chb (show wrF 9 = false from rfl)]
theorem all_c {n : Nat} {s : Value} {M : List (Nat × Nat)} (hs : SL H s (toZ M)) (hM : M.length < 1000) (hn : n ≤ 10) (hr : ∀ l ∈ M, l.1 < n ∧ l.2 < n) (h : areC n (toZ M) = true) :
    cal C base 8 [gi n, s] H = some (.tuple #[bo (allK (playC n M)), bo true], H) := by
  refine cal_fn Try.func8 rfl rfl (res := [.tmp 4, .tmp 5]) rfl Try.ntmps8 1 base _ H ?_
  have hZ : (toZ M).length = M.length := by simp [toZ]
  obtain ⟨v, H1, e1, F, rfl, ho⟩ := after_c (base := H.length) hn hs hM hr
  have hl := (playC_ok hn M).1
  have hsh : Shows (H ++ F) 1 v (playC n M).length (nu (playC n M)) := by rw [hl]; exact ho.shows
  simp only [go_sem, show C.wr 8 = false from rfl, areC_c hs (by rw [hZ]; exact hM), h, e1, allKnow_c hsh (by omega) (plC16 hn), Chb (show wrF 8 = false from rfl)]
theorem allS_c {n : Nat} {s : Value} {M : List (Nat × Nat)} (hs : SL H s (toZ M)) (hM : M.length < 1000) (hn : n ≤ 10) (hr : ∀ l ∈ M, l.1 < n ∧ l.2 < n) (h : areC n (toZ M) = true) :
    cal C base 9 [gi n, s] H = some (.tuple #[bo (full n (playC n M)), bo true], H) := by
  refine cal_fn Try.func9 rfl rfl (res := [.tmp 4, .tmp 5]) rfl Try.ntmps9 1 base _ H ?_
  have hZ : (toZ M).length = M.length := by simp [toZ]
  obtain ⟨v, H1, e1, F, rfl, ho⟩ := caPlay_c (base := H.length) hn hs hM hr
  have hl := (playC_ok hn M).1
  have hsh : Shows (H ++ F) 1 v (playC n M).length (ni (playC n M)) := by rw [hl]; exact ho.shows
  have hca := caAll_c (base := H.length) hsh (by omega)
  rw [hl] at hca
  simp only [go_sem, show C.wr 9 = false from rfl, caGood_c hs (by rw [hZ]; exact hM), h, e1, hca, Chb (show wrF 9 = false from rfl)]
def len16 (B : List Nat) : Nat := (B.map fun x => (bitsOf x).length).sum
theorem bits_le (x : Nat) : (bitsOf x).length ≤ 16 := bitsTo_len x 16
theorem len16_le (B : List Nat) : len16 B ≤ 16 * B.length := by
  induction B with
  | nil => exact Nat.zero_le _
  | cons a l ih => have := bits_le a; simp only [len16, List.map_cons, List.sum_cons, List.length_cons] at ih ⊢; omega
theorem caCount_c {s : Value} {B : List Nat} (hs : Shows H 1 s B.length (ni B)) (hB : B.length < 1000) (hx : ∀ x ∈ B, x < 65536) : cal C base 45 [s] H = some (gi (len16 B), H) := by
  refine cal_fn Try.func45 rfl rfl (res := [.tmp 2]) rfl Try.ntmps45 1001 base _ H ?_
  obtain ⟨a, c, rfl⟩ := hs.sl
  simp only [go_sem, show C.wr 45 = false from rfl]
  rw [fin_loopk [9, 10, 11, 5, 12, 13, 14, 15, 16, 17] rfl]
  refine lp_run [3, 8] (fun j vs H' => ∃ i : Nat, i + j = B.length ∧ vs = [gi (len16 (B.take i)), gi i] ∧ Keeps H.length H H') ?_ B.length [gi 0, gi 0] (by omega) (by simp only [go_sem]) ⟨0, by omega, by rw [List.take_zero]; rfl, .refl _ _⟩
  rintro j m vs H' ⟨i, hij, rfl, hk⟩ ih
  cases hlt : decide ((i : Int) < (B.length : Int))
  · obtain rfl : i = B.length := by have := of_decide_eq_false hlt; omega
    simp only [go_sem, hlt, Chb (show wrF 45 = false from rfl), List.take_length, take_keeps hk]
  · have hi : i < B.length := by have := of_decide_eq_true hlt; omega
    obtain ⟨b, o, T, cs, k1, k2, k3⟩ := ElI (hs.keep hk) hi
    have hxi : B.getD i 0 < 65536 := by simp [hi]; exact hx _ (List.getElem_mem hi)
    obtain ⟨v, H2, e, F2, rfl, hv⟩ := caBits_c (base := H.length) (H := H') hxi
    have hvs : ∃ a, v = .slice a (bitsOf (B.getD i 0)).length (bitsOf (B.getD i 0)).length := by
      obtain ⟨_, ⟨rfl, h, _⟩ | ⟨b', _, rfl, _⟩⟩ := hv
      · exact ⟨none, by rw [h]⟩
      · exact ⟨_, rfl⟩
    obtain ⟨a', rfl⟩ := hvs
    have a1 := len16_le (B.take i)
    have a2 := bits_le (B.getD i 0)
    have a3 : (B.take i).length ≤ 1000 := by simp; omega
    have a4 : len16 (B.take (i + 1)) = len16 (B.take i) + (bitsOf (B.getD i 0)).length := by
      have hg : B.getD i 0 = B[i] := by simp [hi]
      rw [hg, List.take_succ_eq_append_getElem hi]; simp only [len16, List.map_append, List.sum_append, List.map_cons, List.map_nil, List.sum_cons, List.sum_nil, Nat.add_zero]
    simp only [go_sem, hlt, k1, k2, k3, e, addN (show len16 (B.take i) < 1000000 by omega) (show (bitsOf (B.getD i 0)).length < 1000000 by omega), ← a4]
    rw [wrapN (by omega)]
    exact ih (j - 1) [gi (len16 (B.take (i + 1))), gi (i + 1 : Nat)] _ _ (by omega) (by simp only [go_sem]) ⟨i + 1, by omega, rfl, hk.trans (.append hk.1 _)⟩
theorem count_no {n : Int} {s : Value} {L : List (Int × Int)} (hs : SL H s L) (hL : L.length < 1000) (h : areC n L = false) : cal C base 10 [gi n, s] H = some (.tuple #[gi 0, bo false], H) ∧ cal C base 11 [gi n, s] H = some (.tuple #[gi 0, bo false], H) := by
  constructor
  · refine cal_fn Try.func10 rfl rfl (res := [.tmp 4, .tmp 5]) rfl Try.ntmps10 1 base _ H ?_
    simp only [go_sem, areC_c hs hL, h, Chb (show wrF 10 = false from rfl)]
  · refine cal_fn Try.func11 rfl rfl (res := [.tmp 4, .tmp 5]) rfl Try.ntmps11 1 base _ H ?_
    simp only [go_sem, caGood_c hs hL, h, Chb (show wrF 11 = false from rfl)]
theorem countK_c {n : Nat} {s : Value} {M : List (Nat × Nat)} (hs : SL H s (toZ M)) (hM : M.length < 1000) (hn : n ≤ 10) (hr : ∀ l ∈ M, l.1 < n ∧ l.2 < n) (h : areC n (toZ M) = true) :
    cal C base 10 [gi n, s] H = some (.tuple #[gi (popSum (playC n M)), bo true], H) := by
  refine cal_fn Try.func10 rfl rfl (res := [.tmp 4, .tmp 5]) rfl Try.ntmps10 1 base _ H ?_
  have hZ : (toZ M).length = M.length := by simp [toZ]
  obtain ⟨v, H1, e1, F, rfl, ho⟩ := after_c (base := H.length) hn hs hM hr
  have hl := (playC_ok hn M).1
  have hsh : Shows (H ++ F) 1 v (playC n M).length (nu (playC n M)) := by rw [hl]; exact ho.shows
  simp only [go_sem, show C.wr 10 = false from rfl, areC_c hs (by rw [hZ]; exact hM), h, e1, count_c hsh (by omega) (plC16 hn), Chb (show wrF 10 = false from rfl)]
theorem countKS_c {n : Nat} {s : Value} {M : List (Nat × Nat)} (hs : SL H s (toZ M)) (hM : M.length < 1000) (hn : n ≤ 10) (hr : ∀ l ∈ M, l.1 < n ∧ l.2 < n) (h : areC n (toZ M) = true) :
    cal C base 11 [gi n, s] H = some (.tuple #[gi (len16 (playC n M)), bo true], H) := by
  refine cal_fn Try.func11 rfl rfl (res := [.tmp 4, .tmp 5]) rfl Try.ntmps11 1 base _ H ?_
  have hZ : (toZ M).length = M.length := by simp [toZ]
  obtain ⟨v, H1, e1, F, rfl, ho⟩ := caPlay_c (base := H.length) hn hs hM hr
  have hl := (playC_ok hn M).1
  have hsh : Shows (H ++ F) 1 v (playC n M).length (ni (playC n M)) := by rw [hl]; exact ho.shows
  simp only [go_sem, show C.wr 11 = false from rfl, caGood_c hs (by rw [hZ]; exact hM), h, e1, caCount_c hsh (by omega) (plC16 hn), Chb (show wrF 11 = false from rfl)]
end T

open Go Go.Am
namespace T
open Go.Proofs
set_option maxRecDepth 100000
set_option maxHeartbeats 4000000
set_option linter.unusedSimpArgs false
set_option linter.unusedVariables false
variable {base : Nat} {H : Heap}
@[go_sem] theorem ex_0 {x y : Value} : ext1 H 0 (.tuple #[x, y]) = some (x, H) := rfl
@[go_sem] theorem ex_1 {x y : Value} : ext1 H 1 (.tuple #[x, y]) = some (y, H) := rfl
theorem toZ_take (M : List (Nat × Nat)) (k : Nat) : (toZ M).take k = toZ (M.take k) := by simp [toZ, List.map_take]
theorem toZ_drop (M : List (Nat × Nat)) (k : Nat) : (toZ M).drop k = toZ (M.drop k) := by simp [toZ, List.map_drop]
theorem toZ_len (M : List (Nat × Nat)) : (toZ M).length = M.length := by simp [toZ]
theorem lc_tk (L : List (Int × Int)) (k : Nat) : (lc L).take (k * 2) = lc (L.take k) := by
  induction L generalizing k with
  | nil => simp [lc]
  | cons a l ih => cases k with
    | zero => simp [lc]
    | succ k => rw [show (k + 1) * 2 = k * 2 + 2 by omega]; simp [lc] at ih ⊢; exact ih k
theorem lc_dr (L : List (Int × Int)) (k : Nat) : (lc L).drop (k * 2) = lc (L.drop k) := by
  induction L generalizing k with
  | nil => simp [lc]
  | cons a l ih => cases k with
    | zero => simp [lc]
    | succ k => rw [show (k + 1) * 2 = k * 2 + 2 by omega]; simp [lc] at ih ⊢; exact ih k
theorem SL.to {s : Value} {L : List (Int × Int)} (h : SL H s L) {k : Nat} (hk : k ≤ L.length) : ∃ s', sliceA C.P 24 s none (some (gi k)) none = some s' ∧ SL H s' (L.take k) := by
  obtain ⟨s', h1, h2⟩ := Shows.cut (P := C.P) (t := 24) (el := 67) (lo := 0) (hi := k) (l := none) (h' := some (gi k)) h rfl rfl rfl rfl (Nat.zero_le _) hk
  refine ⟨s', h1, ?_⟩
  rw [Nat.sub_zero, Nat.zero_mul, List.drop_zero, lc_tk] at h2
  unfold SL; rw [List.length_take, Nat.min_eq_left hk]; exact h2
theorem SL.from {s : Value} {L : List (Int × Int)} (h : SL H s L) {k : Nat} (hk : k ≤ L.length) : ∃ s', sliceA C.P 24 s (some (gi k)) none none = some s' ∧ SL H s' (L.drop k) := by
  obtain ⟨a, c, rfl⟩ := h.sl
  obtain ⟨s', h1, h2⟩ := Shows.cut (P := C.P) (t := 24) (el := 67) (lo := k) (hi := L.length) (l := some (gi k)) (h' := none) h rfl rfl rfl rfl hk (Nat.le_refl _)
  refine ⟨s', h1, ?_⟩
  rw [lc_dr, List.take_of_length_le (by rw [lc_len, List.length_drop]; exact Nat.le_refl _)] at h2
  unfold SL; rw [List.length_drop]; exact h2
abbrev pt (b : Nat) : Value := .pointer (some ⟨b, 0, none⟩)
theorem ltn39_c {n k b2 b3 : Nat} (hn : n ≤ 10) {s : Value} {M : List (Nat × Nat)} (h2 : hget H b2 = some (3, [gi n])) (h3 : hget H b3 = some (24, [s])) (hs : SL H s (toZ M)) (hM : M.length < 1000) (hr : ∀ l ∈ M, l.1 < n ∧ l.2 < n) (hk : k ≤ M.length) :
    Ok (cal C base 47 [gi k, pt b2, pt b3] H) fun s H' => ∃ F, H' = H ++ F ∧ OwnL H.length H' 64 1 s n (nu (playC n (M.take k))) := by
  refine ok_fn Try.func47 rfl rfl (res := [.tmp 4]) rfl Try.ntmps47 1 base _ H ?_
  obtain ⟨s', e1, hs'⟩ := hs.to (k := k) (by rw [toZ_len]; exact hk)
  rw [toZ_take] at hs'
  obtain ⟨v, H1, e2, F, rfl, ho⟩ := after_c (base := H.length) hn hs' (by rw [List.length_take]; omega) (fun l hl => hr l (List.mem_of_mem_take hl))
  obtain ⟨a, c, rfl⟩ := hs.sl
  simp only [go_sem, show C.wr 47 = false from rfl]
  rw [fin_regd]; rotate_left; · decide +kernel
  obtain ⟨s2, F2, old, e3, ho'⟩ := ho.hand (P := C.P) (acc := H) (l := []) (show tySize C.P 64 = some 1 from rfl) (by simp [isG, sc, nu])
  simp only [go_sem, h2, h3, e1, e2, Chb (show wrF 47 = false from rfl), e3]
  exact .some ⟨F2, rfl, ho'⟩
/-- The least k up to N for which p holds. -/
def nd (N : Nat) (p : Nat → Bool) : Option Nat := (List.range (N + 1)).find? p
theorem nd_none {N : Nat} {p : Nat → Bool} (h : ∀ k ≤ N, p k = false) : nd N p = none := by
  unfold nd; rw [List.find?_eq_none]; intro k hk; rw [h k (by have := List.mem_range.1 hk; omega)]; decide
theorem nd_some {N i : Nat} {p : Nat → Bool} (hi : i ≤ N) (hp : p i = true) (h : ∀ k < i, p k = false) : nd N p = some i := by
  unfold nd; rw [List.find?_range_eq_some]; exact ⟨hp, List.mem_range.2 (by omega), fun k hk => by rw [h k hk]; rfl⟩
def ndI (o : Option Nat) : Nat := o.getD 0
def ndB (o : Option Nat) : Bool := o.isSome
theorem needed_g {g : FuncId} {caps : Array Value} {N : Nat} (hN : N < 1000) (p : Nat → Bool)
    (hc : ∀ k, k ≤ N → ∀ base H', Keeps H.length H H' → ∃ s F, cal C base g (gi k :: caps.toList) H' = some (s, H' ++ F) ∧ ∀ base, cal C base 42 [s] (H' ++ F) = some (bo (p k), H' ++ F)) :
    cal C base 46 [gi N, .func (.func g) #[] caps] H = some (.tuple #[gi (ndI (nd N p)), bo (ndB (nd N p))], H) := by
  refine cal_fn Try.func46 rfl rfl (res := [.tmp 4, .tmp 5]) rfl Try.ntmps46 1001 base _ H ?_
  simp only [go_sem, show C.wr 46 = false from rfl]
  rw [fin_loopk [10, 11, 6, 12, 13, 14, 15, 16, 4, 5, 17] rfl, wrapN (by omega)]
  refine lp_run [9] (fun j vs H' => ∃ i : Nat, i + j = N + 1 ∧ vs = [gi i] ∧ (∀ k < i, p k = false) ∧ Keeps H.length H H') ?_ (N + 1) [gi 0] (by omega) (by simp only [go_sem]) ⟨0, by omega, rfl, fun k h => absurd h (Nat.not_lt_zero _), .refl _ _⟩
  rintro j m vs H' ⟨i, hij, rfl, hno, hk⟩ ih
  cases hlt : decide ((i : Int) < ((N + 1 : Nat) : Int))
  · simp only [go_sem, hlt, Chb (show wrF 46 = false from rfl), take_keeps hk, nd_none (N := N) (p := p) (fun k hk => hno k (by have := of_decide_eq_false hlt; omega)), ndI, ndB]
    rfl
  · have hi : i ≤ N := by have := of_decide_eq_true hlt; omega
    obtain ⟨s, F, e1, e2⟩ := hc i hi H.length H' hk
    cases hpi : p i
    · rw [hpi] at e2
      simp only [go_sem, hlt, e1, e2]
      rw [wrapN (by omega)]
      refine ih (j - 1) [gi (i + 1 : Nat)] _ _ (by omega) (by simp only [go_sem]) ⟨i + 1, by omega, rfl, fun k hk => ?_, hk.trans (.append hk.1 F)⟩
      by_cases e : k = i
      · subst e; exact hpi
      · exact hno k (by omega)
    · rw [hpi] at e2
      simp only [go_sem, hlt, e1, e2, Chb (show wrF 46 = false from rfl), take_keeps (hk.trans (.append hk.1 F)), nd_some hi hpi hno, ndI, ndB]
      rfl
theorem need_no {n : Int} {s : Value} {L : List (Int × Int)} (hs : SL H s L) (hL : L.length < 1000) (h : areC n L = false) : cal C base 12 [gi n, s] H = some (.tuple #[gi 0, bo false], H) ∧ cal C base 13 [gi n, s] H = some (.tuple #[gi 0, bo false], H) := by
  constructor
  · refine cal_fn Try.func12 rfl rfl (res := [.tmp 4, .tmp 5]) rfl Try.ntmps12 1 base _ H ?_
    obtain ⟨a, c, rfl⟩ := hs.sl
    have h2 := (hs.add [some (3, [gi n])]).add [some (24, [.slice a L.length c])]
    have e := areC_c (base := H.length) (n := n) h2 hL
    simp only [List.append_assoc, List.cons_append, List.nil_append] at e
    simp only [go_sem, hget_0, hget_1, List.append_assoc, List.length_append, e, h, show C.wr 12 = false from rfl, Chb (show wrF 12 = false from rfl)]
  · refine cal_fn Try.func13 rfl rfl (res := [.tmp 4, .tmp 5]) rfl Try.ntmps13 1 base _ H ?_
    simp only [go_sem, caGood_c hs hL, h, Chb (show wrF 13 = false from rfl)]
theorem need_c {n : Nat} {s : Value} {M : List (Nat × Nat)} (hs : SL H s (toZ M)) (hM : M.length < 1000) (hn : n ≤ 10) (hr : ∀ l ∈ M, l.1 < n ∧ l.2 < n) (h : areC n (toZ M) = true) (p : Nat → Bool) (hp : ∀ k, p k = allK (playC n (M.take k))) :
    cal C base 12 [gi n, s] H = some (.tuple #[gi (ndI (nd M.length p)), bo (ndB (nd M.length p))], H) := by
  refine cal_fn Try.func12 rfl rfl (res := [.tmp 4, .tmp 5]) rfl Try.ntmps12 1 base _ H ?_
  have hsl := hs.sl
  rw [toZ_len] at hsl
  obtain ⟨a, c, rfl⟩ := hsl
  have h2 := (hs.add [some (3, [gi n])]).add [some (24, [.slice a M.length c])]
  have e := areC_c (base := H.length) (n := n) h2 (by rw [toZ_len]; exact hM)
  simp only [List.append_assoc, List.cons_append, List.nil_append] at e h2
  have hnd := needed_g (base := H.length) (H := H ++ [some (3, [gi n]), some (24, [.slice a M.length c])]) (g := 47) (caps := #[pt H.length, pt (H.length + 1)]) hM p (fun k hk base H' hkp => by
    obtain ⟨F0, rfl⟩ := keeps_append hkp
    obtain ⟨v, H1, e1, F, rfl, ho⟩ := ltn39_c (base := base) (k := k) hn (hget_old (hget_0 (H := H)) F0) (hget_old hget_1 F0) (h2.add F0) hM hr hk
    refine ⟨v, F, e1, fun base => ?_⟩
    have hl := (playC_ok hn (M.take k)).1
    rw [hp]
    exact allKnow_c (base := base) (by rw [hl]; exact ho.shows) (by omega) (plC16 hn))
  simp only [go_sem, hget_0, hget_1, List.append_assoc, List.length_append, e, h, show C.wr 12 = false from rfl, hnd, Chb (show wrF 12 = false from rfl)]
end T

open Go Go.Am
namespace T
open Go.Proofs
set_option maxRecDepth 100000
set_option maxHeartbeats 4000000
set_option linter.unusedSimpArgs false
set_option linter.unusedVariables false
variable {base : Nat} {H : Heap}
theorem needS_c {n : Nat} {s : Value} {M : List (Nat × Nat)} (hs : SL H s (toZ M)) (hM : M.length < 1000) (hn : n ≤ 10) (hr : ∀ l ∈ M, l.1 < n ∧ l.2 < n) (h : areC n (toZ M) = true) (p : Nat → Bool) (hp : ∀ k, p k = full n (playC n (M.take k))) :
    cal C base 13 [gi n, s] H = some (.tuple #[gi (ndI (nd M.length p)), bo (ndB (nd M.length p))], H) := by
  refine cal_fn Try.func13 rfl rfl (res := [.tmp 4, .tmp 5]) rfl Try.ntmps13 1001 base _ H ?_
  have hsl := hs.sl
  rw [toZ_len] at hsl
  obtain ⟨a, c, rfl⟩ := hsl
  simp only [go_sem, caGood_c hs (by rw [toZ_len]; exact hM), h, show C.wr 13 = false from rfl]
  rw [fin_loopk [11, 12, 13, 14, 17, 18, 19, 20, 21, 22, 23, 4, 5, 15, 16] rfl]
  refine lp_run [6] (fun j vs H' => ∃ i : Nat, i + j = M.length + 1 ∧ vs = [gi i] ∧ (∀ k < i, p k = false) ∧ Keeps H.length H H') ?_ (M.length + 1) [gi 0] (by omega) (by simp only [go_sem]) ⟨0, by omega, rfl, fun k h => absurd h (Nat.not_lt_zero _), .refl _ _⟩
  rintro j m vs H' ⟨i, hij, rfl, hno, hk⟩ ih
  cases hlt : decide ((i : Int) ≤ (M.length : Int))
  · simp only [go_sem, hlt, Chb (show wrF 13 = false from rfl), take_keeps hk, nd_none (N := M.length) (p := p) (fun k hk => hno k (by have := of_decide_eq_false hlt; omega)), ndI, ndB]
    rfl
  · have hi : i ≤ M.length := by have := of_decide_eq_true hlt; omega
    obtain ⟨s', e1, hs'⟩ := SL.to (hs.keep hk) (k := i) (by rw [toZ_len]; exact hi)
    rw [toZ_take] at hs'
    obtain ⟨v, H1, e2, F, rfl, ho⟩ := caPlay_c (base := H.length) hn hs' (by rw [List.length_take]; omega) (fun l hl => hr l (List.mem_of_mem_take hl))
    have hl := (playC_ok hn (M.take i)).1
    have hca := caAll_c (base := H.length) (B := playC n (M.take i)) (by rw [hl]; exact ho.shows) (by omega)
    rw [hl, ← hp] at hca
    cases hpi : p i
    · rw [hpi] at hca
      simp only [go_sem, hlt, e1, e2, hca]
      rw [wrapN (by omega)]
      refine ih (j - 1) [gi (i + 1 : Nat)] _ _ (by omega) (by simp only [go_sem]) ⟨i + 1, by omega, rfl, fun k hk => ?_, hk.trans (.append hk.1 F)⟩
      by_cases e : k = i
      · subst e; exact hpi
      · exact hno k (by omega)
    · rw [hpi] at hca
      simp only [go_sem, hlt, e1, e2, hca, Chb (show wrF 13 = false from rfl), take_keeps (hk.trans (.append hk.1 F)), nd_some hi hpi hno, ndI, ndB]
      rfl
/-- The indices below N for which p holds. -/
def idx (N : Nat) (p : Nat → Bool) : List Nat := (List.range N).filter p
theorem idx_succ (i : Nat) (p : Nat → Bool) : idx (i + 1) p = if p i then idx i p ++ [i] else idx i p := by
  unfold idx; rw [List.range_succ, List.filter_append]; cases h : p i <;> simp [h]
theorem idx_len (N : Nat) (p : Nat → Bool) : (idx N p).length ≤ N := by
  have := List.length_filter_le p (List.range N); simpa [idx] using this
theorem indices_g {g : FuncId} {caps : Array Value} {N : Nat} (hN : N < 1000) (p : Nat → Bool)
    (hc : ∀ k, k < N → ∀ base H', Keeps H.length H H' → cal C base g (gi k :: caps.toList) H' = some (bo (p k), H')) :
    Ok (cal C base 50 [gi N, .func (.func g) #[] caps] H) fun s H' => ∃ F, H' = H ++ F ∧ OwnL H.length H' 3 1 s (idx N p).length (ni (idx N p)) := by
  refine ok_fn Try.func50 rfl rfl (res := [.tmp 4]) rfl Try.ntmps50 1001 base _ H ?_
  simp only [go_sem, show C.wr 50 = false from rfl, bs_nil ts34]
  rw [fin_loopk [10, 11, 6, 12, 13, 14, 15, 16, 17, 18, 19] rfl]
  refine lp_ok [5, 9] (fun j vs H' => ∃ (i : Nat) (s : Value), i + j = N ∧ vs = [s, gi i] ∧ OwnL H.length H' 3 1 s (idx i p).length (ni (idx i p)) ∧ Keeps H.length H H') N [.slice (some ⟨H.length, 0, some 1⟩) 0 0, gi 0] ?_ (by omega) (by simp only [go_sem]) ⟨0, _, by omega, rfl, .empty _ _ _ (Nat.le_refl _), .append (Nat.le_refl _) _⟩
  rintro j m vs H' ⟨i, s, hij, rfl, ho, hk⟩ ih
  have hil := idx_len i p
  cases hlt : decide ((i : Int) < (N : Int))
  · obtain rfl : i = N := by have := of_decide_eq_false hlt; omega
    obtain ⟨s', F, old, e, ho'⟩ := ho.hand (P := C.P) (acc := H) (l := []) (show tySize C.P 3 = some 1 from rfl) (by simp [isG, sc, ni])
    simp only [go_sem, hlt, Chb (show wrF 50 = false from rfl), take_keeps hk, e]
    exact .some ⟨F, rfl, ho'⟩
  · have hi : i < N := by have := of_decide_eq_true hlt; omega
    have e1 := hc i hi H.length H' hk
    have e2 := idx_succ i p
    cases hpi : p i
    · rw [hpi] at e1 e2
      simp only [go_sem, hlt, e1]
      rw [wrapN (by omega)]
      exact ih (j - 1) [s, gi (i + 1 : Nat)] _ _ (by omega) (by simp only [go_sem]) ⟨i + 1, s, by omega, rfl, by rw [e2]; exact ho, hk⟩
    · rw [hpi] at e1 e2
      have hap := ho.app (base := H.length) ts34 (Nat.le_refl _) (ys := [.int .i64 (i : Int)]) rfl (by unfold room; omega)
      simp only [go_sem, hlt, e1, bs_one ts34 (x := Value.int .i64 _) rfl rfl, eo_append (show notInt C.P 34 = true from rfl), hap]
      rw [wrapN (by omega)]
      refine ih (j - 1) [_, gi (i + 1 : Nat)] _ _ (by omega) (by simp only [go_sem]) ⟨i + 1, .slice (some ⟨H'.length + 1, 0, some 1⟩) ((idx i p).length + 1) ((idx i p).length + 1), by omega, rfl, ?_, ho.keeps hk (Nat.le_refl _)⟩
      rw [e2, if_pos rfl, List.length_append, show ni (idx i p ++ [i]) = ni (idx i p) ++ [.int .i64 (i : Int)] by simp [ni]]
      exact ho.next hk.1 rfl
theorem eqlen {a b : Nat} : ((a : Int) != (b : Int)) = (a != b) := by
  rw [Bool.eq_iff_iff, bne_iff_ne, bne_iff_ne]; exact not_congr Int.ofNat_inj
theorem eqU_c {s1 s2 : Value} {B1 B2 : List Nat} (h1 : Shows H 1 s1 B1.length (nu B1)) (h2 : Shows H 1 s2 B2.length (nu B2)) (hB : B1.length < 1000) (q : Bool) (hq : q = (B1 == B2)) : cal C base 52 [s1, s2] H = some (bo q, H) := by
  refine cal_fn Try.func52 rfl rfl (res := [.tmp 4]) rfl Try.ntmps52 1001 base _ H ?_
  obtain ⟨a, c, rfl⟩ := h1.sl
  obtain ⟨a2, c2, rfl⟩ := h2.sl
  cases hl : B1.length != B2.length
  · simp only [go_sem, show C.wr 52 = false from rfl, eqlen, hl]
    have hle : B1.length = B2.length := by simpa using hl
    rw [fin_loopk [14, 15, 5, 16, 17, 18, 19, 20, 21, 22, 23, 24, 4, 25] rfl]
    refine lp_run [13] (fun j vs H' => ∃ i : Nat, i + j = B1.length ∧ vs = [gi i] ∧ (∀ k (h : k < B1.length), k < i → B1[k] = B2[k]'(by omega)) ∧ H' = H) ?_ B1.length [gi 0] (by omega) (by simp only [go_sem]) ⟨0, by omega, rfl, fun k _ h => absurd h (Nat.not_lt_zero _), rfl⟩
    rintro j m vs H' ⟨i, hij, rfl, hno, rfl⟩ ih
    cases hlt : decide ((i : Int) < (B1.length : Int))
    · have : q = true := by
        rw [hq, beq_iff_eq]
        exact List.ext_getElem hle fun k hk1 hk2 => hno k hk1 (by have := of_decide_eq_false hlt; omega)
      simp only [go_sem, hlt, Chb (show wrF 52 = false from rfl), this]
    · have hi : i < B1.length := by have := of_decide_eq_true hlt; omega
      obtain ⟨b, o, T, cs, k1, k2, k3⟩ := ElU h1 hi
      obtain ⟨b', o', T', cs', k1', k2', k3'⟩ := ElU h2 (hle ▸ hi)
      have hg1 : B1.getD i 0 = B1[i] := by simp [hi]
      have hg2 : B2.getD i 0 = B2[i]'(by omega) := by simp [show i < B2.length by omega]
      rw [hg1] at k3
      rw [hg2] at k3'
      cases hpi : B1[i] != B2[i]'(by omega)
      · simp only [go_sem, hlt]
        rw [fin_regd]; rotate_left; · decide +kernel
        simp only [go_sem, k1, k2, k3, k1', k2', k3', eqlen, hpi]
        rw [wrapN (by omega)]
        refine ih (j - 1) [gi (i + 1 : Nat)] _ _ (by omega) (by simp only [go_sem]) ⟨i + 1, by omega, rfl, fun k hk hki => ?_, rfl⟩
        by_cases e : k = i
        · subst e; exact bne_eq_false_iff_eq.1 hpi
        · exact hno k hk (by omega)
      · have : q = false := by
          rw [hq, beq_eq_false_iff_ne]
          intro e
          have hne := bne_iff_ne.1 hpi
          apply hne
          simp [e]
        simp only [go_sem, hlt]
        rw [fin_regd]; rotate_left; · decide +kernel
        simp only [go_sem, k1, k2, k3, k1', k2', k3', eqlen, hpi, Chb (show wrF 52 = false from rfl), this]
  · have : q = false := by
      rw [hq, beq_eq_false_iff_ne]
      intro e
      rw [e] at hl
      simp at hl
    simp only [go_sem, show C.wr 52 = false from rfl, eqlen, hl, Chb (show wrF 52 = false from rfl), this]
theorem eqI_c {s1 s2 : Value} {B1 B2 : List Nat} (h1 : Shows H 1 s1 B1.length (ni B1)) (h2 : Shows H 1 s2 B2.length (ni B2)) (hB : B1.length < 1000) (q : Bool) (hq : q = (B1 == B2)) : cal C base 54 [s1, s2] H = some (bo q, H) := by
  refine cal_fn Try.func54 rfl rfl (res := [.tmp 4]) rfl Try.ntmps54 1001 base _ H ?_
  obtain ⟨a, c, rfl⟩ := h1.sl
  obtain ⟨a2, c2, rfl⟩ := h2.sl
  cases hl : B1.length != B2.length
  · simp only [go_sem, show C.wr 54 = false from rfl, eqlen, hl]
    have hle : B1.length = B2.length := by simpa using hl
    rw [fin_loopk [14, 15, 5, 16, 17, 18, 19, 20, 21, 22, 23, 24, 4, 25] rfl]
    refine lp_run [13] (fun j vs H' => ∃ i : Nat, i + j = B1.length ∧ vs = [gi i] ∧ (∀ k (h : k < B1.length), k < i → B1[k] = B2[k]'(by omega)) ∧ H' = H) ?_ B1.length [gi 0] (by omega) (by simp only [go_sem]) ⟨0, by omega, rfl, fun k _ h => absurd h (Nat.not_lt_zero _), rfl⟩
    rintro j m vs H' ⟨i, hij, rfl, hno, rfl⟩ ih
    cases hlt : decide ((i : Int) < (B1.length : Int))
    · have : q = true := by
        rw [hq, beq_iff_eq]
        exact List.ext_getElem hle fun k hk1 hk2 => hno k hk1 (by have := of_decide_eq_false hlt; omega)
      simp only [go_sem, hlt, Chb (show wrF 54 = false from rfl), this]
    · have hi : i < B1.length := by have := of_decide_eq_true hlt; omega
      obtain ⟨b, o, T, cs, k1, k2, k3⟩ := ElI h1 hi
      obtain ⟨b', o', T', cs', k1', k2', k3'⟩ := ElI h2 (hle ▸ hi)
      have hg1 : B1.getD i 0 = B1[i] := by simp [hi]
      have hg2 : B2.getD i 0 = B2[i]'(by omega) := by simp [show i < B2.length by omega]
      rw [hg1] at k3
      rw [hg2] at k3'
      cases hpi : B1[i] != B2[i]'(by omega)
      · simp only [go_sem, hlt]
        rw [fin_regd]; rotate_left; · decide +kernel
        simp only [go_sem, k1, k2, k3, k1', k2', k3', eqlen, hpi]
        rw [wrapN (by omega)]
        refine ih (j - 1) [gi (i + 1 : Nat)] _ _ (by omega) (by simp only [go_sem]) ⟨i + 1, by omega, rfl, fun k hk hki => ?_, rfl⟩
        by_cases e : k = i
        · subst e; exact bne_eq_false_iff_eq.1 hpi
        · exact hno k hk (by omega)
      · have : q = false := by
          rw [hq, beq_eq_false_iff_ne]
          intro e
          have hne := bne_iff_ne.1 hpi
          apply hne
          simp [e]
        simp only [go_sem, hlt]
        rw [fin_regd]; rotate_left; · decide +kernel
        simp only [go_sem, k1, k2, k3, k1', k2', k3', eqlen, hpi, Chb (show wrF 54 = false from rfl), this]
  · have : q = false := by
      rw [hq, beq_eq_false_iff_ne]
      intro e
      rw [e] at hl
      simp at hl
    simp only [go_sem, show C.wr 54 = false from rfl, eqlen, hl, Chb (show wrF 54 = false from rfl), this]
end T

namespace Go.Am
theorem setAll_gen : ∀ (ys : List Value) (cs : List Value) (o : Nat), o + ys.length ≤ cs.length → setAll cs o ys = cs.take o ++ ys ++ cs.drop (o + ys.length) := by
  intro ys
  induction ys with
  | nil => intro cs o h; simp [setAll]
  | cons a l ih =>
    intro cs o h
    rw [List.length_cons] at h
    rw [setAll, ih _ _ (by rw [List.length_set]; omega)]
    have h1 : (cs.set o a).take (o + 1) = cs.take o ++ [a] := by
      rw [List.take_succ_eq_append_getElem (by rw [List.length_set]; omega), List.getElem_set_self, List.take_set_of_le (Nat.le_refl _)]
    have h2 : (cs.set o a).drop (o + 1 + l.length) = cs.drop (o + (a :: l).length) := by
      rw [List.drop_set_of_lt (by omega), List.length_cons]; congr 1; omega
    rw [h1, h2]; simp
section
variable {C : Cfg} {P : Program} {call : Nat → CallF} {base : Nat} {dr : Bool} {ρ : Env} {H : Heap} {d : Option Tmp} {t u el : TypeId} {p : String} {e : Array Edge} {g : Option (Nat × Bool)}
theorem eo_clear {x : Operand} : evalOp C call base dr ⟨d, .call ⟨.builtin .clear, #[x], #[t]⟩, u, p, e, g⟩ ρ H = (clearA C.P base H t (ev ρ x)).map fun H' => (.tuple #[], H') := by
  simp [evalOp, builtinA]
theorem sa_at {b o es m cap lo hi : Nat} {l h : Option Value} (h1 : tyElem P t = some el) (h2 : tySize P el = some es) (hl : optI l 0 = some (lo : Int)) (hh : optI h m = some (hi : Int)) (hlh : lo ≤ hi) (hhc : hi ≤ cap) :
    sliceA P t (.slice (some ⟨b, o, some es⟩) m cap) l h none = some (.slice (some ⟨b, o + lo * es, some es⟩) (hi - lo) (cap - lo)) := by
  have hm : optI none (cap : Int) = some (cap : Int) := rfl
  simp only [sliceA, hl, hh, hm, Option.bind_some, h1, h2]
  rw [if_pos ⟨trivial, by omega, by omega, by omega, by omega, rfl⟩]
  congr 2 <;> omega
theorem sa_at3 {b o es m cap lo hi mx : Nat} {l h x : Value} (h1 : tyElem P t = some el) (h2 : tySize P el = some es) (hl : optI (some l) 0 = some (lo : Int)) (hh : optI (some h) m = some (hi : Int)) (hx : optI (some x) cap = some (mx : Int)) (hlh : lo ≤ hi) (hlm : lo < mx) (hhc : hi ≤ mx) (hmc : mx ≤ cap) :
    sliceA P t (.slice (some ⟨b, o, some es⟩) m cap) (some l) (some h) (some x) = some (.slice (some ⟨b, o + lo * es, some es⟩) (hi - lo) (mx - lo)) := by
  simp only [sliceA, hl, hh, hx, Option.bind_some, h1, h2]
  rw [if_pos ⟨trivial, by omega, by omega, by omega, by omega, rfl⟩]
  congr 2 <;> omega
theorem ap_in {z : Value} {es b m m2 cap : Nat} {T : TypeId} {cs ys : List Value} {x : Value} (h : TyS P t el es z) (hb : base ≤ b) (hg : hget H b = some (T, cs)) (hy : cellsA H es x = some (m2, ys)) (h0 : m2 ≠ 0) (hr : m + m2 ≤ cap) (hl : (m + m2) * es ≤ cs.length) :
    appendA P base H t (.slice (some ⟨b, 0, some es⟩) m cap) x = some (.slice (some ⟨b, 0, some es⟩) (m + m2) cap, H.set b (some (T, setAll cs (m * es) ys))) := by
  have hz : (tyZero P el).any (fun z => decide (z.cells.size = es ∧ isC z = true)) = true := by rw [h.zero]; simp [h.ok]
  have hb2 := h.bytes
  unfold appendA
  simp only [h.elem, h.size, Option.bind_some, hy, hb2, h.ok, hz, true_and, and_self, if_true]
  rw [if_neg (by simp), if_neg h0, if_pos hb, hg, Option.bind_some, if_pos hr, if_pos (by simpa using hl), Nat.zero_add]
theorem ap_0 {z : Value} {es b m cap : Nat} {ys : List Value} {x : Value} (h : TyS P t el es z) (hy : cellsA H es x = some (0, ys)) :
    appendA P base H t (.slice (some ⟨b, 0, some es⟩) m cap) x = some (.slice (some ⟨b, 0, some es⟩) m cap, H) := by
  have hz : (tyZero P el).any (fun z => decide (z.cells.size = es ∧ isC z = true)) = true := by rw [h.zero]; simp [h.ok]
  have hb2 := h.bytes
  unfold appendA
  simp only [h.elem, h.size, Option.bind_some, hy, hb2, h.ok, hz, true_and, and_self, if_true]
  rw [if_neg (by simp)]
end
end Go.Am
open Go Go.Am
namespace T
open Go.Proofs
set_option maxRecDepth 100000
set_option maxHeartbeats 4000000
set_option linter.unusedSimpArgs false
set_option linter.unusedVariables false
variable {base : Nat} {H : Heap}
theorem lcG (L : List (Int × Int)) : (lc L).all isG = true := by
  induction L with
  | nil => rfl
  | cons a l ih => simp only [lc, List.flatMap_cons, List.all_append] at ih ⊢; rw [ih]; rfl
theorem SL.some {s : Value} {L : List (Int × Int)} (h : SL H s L) (hL : 0 < L.length) : ∃ a c, s = .slice (.some a) L.length c := by
  rcases h with ⟨_, h, _⟩ | ⟨b, o, cap, T, cs0, h1, _⟩
  · omega
  · exact ⟨_, _, h1⟩
theorem clone_c {s : Value} {L : List (Int × Int)} (hs : SL H s L) (h0 : 0 < L.length) (hL : L.length < 1000) : Ok (cal C base 56 [s] H) fun s H' => ∃ F, H' = H ++ F ∧ OwnL H.length H' 67 2 s L.length (lc L) := by
  refine ok_fn Try.func56 rfl rfl (res := [.tmp 2]) rfl Try.ntmps56 1 base _ H ?_
  obtain ⟨a, c, rfl⟩ := hs.some h0
  have hn : OwnL H.length (H ++ [Option.some (67, [])]) 67 2 (.slice (Option.some ⟨H.length, 0, Option.some 2⟩) 0 0) 0 [] := .empty H 67 2 (Nat.le_refl _)
  obtain ⟨s', H1, e, ho, hk⟩ := hn.apps (base := H.length) (hs.add _) ts24 (Nat.le_refl _) (by simp) (by unfold room; omega)
  rw [List.nil_append, Nat.zero_add] at ho
  have hk2 : Keeps H.length H H1 := (Keeps.append (Nat.le_refl _) _).trans hk
  obtain ⟨s2, F, old, e2, ho'⟩ := ho.hand (P := C.P) (acc := H) (l := []) (show tySize C.P 67 = Option.some 2 from rfl) (lcG L)
  simp only [go_sem, b_eqnil (show isSlT C.P 24 = true from rfl), show C.wr 56 = false from rfl, bs_nil ts24, eo_append (show notInt C.P 24 = true from rfl), e, Chb (show wrF 56 = false from rfl), take_keeps hk2, e2]
  exact .some ⟨F, rfl, ho'⟩
theorem wrapS {m k : Nat} (h : m < 2 ^ 62) (hk : k ≤ m) : IntKind.i64.wrap ((m : Int) - (k : Int)) = ((m - k : Nat) : Int) := by rw [IntKind.wrap_i64]; omega
theorem lc_app (L M : List (Int × Int)) : lc (L ++ M) = lc L ++ lc M := by simp [lc]
theorem del_c {b i : Nat} {L : List (Int × Int)} (hb : base ≤ b) (hg : hget H b = Option.some (67, lc L)) (hi : i < L.length) (hL : L.length < 1000) :
    cal C base 79 [.slice (Option.some ⟨b, 0, Option.some 2⟩) L.length L.length, gi i, gi (i + 1 : Nat)] H = Option.some (.slice (Option.some ⟨b, 0, Option.some 2⟩) (L.length - 1) L.length, H.set b (Option.some (67, lc (L.eraseIdx i) ++ [gi 0, gi 0]))) := by
  refine cal_fn Try.func79 rfl rfl (res := [.tmp 6]) rfl Try.ntmps79 1 base _ H ?_
  have hll := lc_len L
  have e1 := sa_at3 (P := C.P) (t := 24) (el := 67) (es := 2) (b := b) (o := 0) (m := L.length) (cap := L.length) (lo := i) (hi := i + 1) (mx := L.length) (l := gi i) (h := gi (i + 1 : Nat)) (x := gi L.length) rfl rfl rfl rfl rfl (by omega) hi (by omega) (Nat.le_refl _)
  have e2 := sa_at (P := C.P) (t := 24) (el := 67) (es := 2) (b := b) (o := 0) (m := L.length) (cap := L.length) (lo := 0) (hi := i) (l := none) (h := Option.some (gi i)) rfl rfl rfl rfl (by omega) (by omega)
  have e3 := sa_at (P := C.P) (t := 24) (el := 67) (es := 2) (b := b) (o := 0) (m := L.length) (cap := L.length) (lo := i + 1) (hi := L.length) (l := Option.some (gi (i + 1 : Nat))) (h := none) rfl rfl rfl rfl (by omega) (by omega)
  have hy : cellsA H 2 (.slice (Option.some ⟨b, 0 + (i + 1) * 2, Option.some 2⟩) (L.length - (i + 1)) (L.length - (i + 1))) = Option.some (L.length - (i + 1), lc (L.drop (i + 1))) := by
    simp only [cellsA, hg, Option.bind_some, if_true]
    rw [if_pos (by omega), ← lc_dr, Nat.zero_add, List.take_of_length_le (by rw [List.length_drop]; omega)]
  have hne : ((i : Int) == ((i + 1 : Nat) : Int)) = false := by rw [beq_eq_false_iff_ne]; omega
  have hld : (lc (L.drop (i + 1))).length = (L.length - (i + 1)) * 2 := by rw [lc_len, List.length_drop]
  have hbl := hget_lt hg
  have e4 : ∃ rest, rest.length = 2 ∧ appendA C.P base H 24 (.slice (Option.some ⟨b, 0, Option.some 2⟩) i L.length) (.slice (Option.some ⟨b, 0 + (i + 1) * 2, Option.some 2⟩) (L.length - (i + 1)) (L.length - (i + 1))) = Option.some (.slice (Option.some ⟨b, 0, Option.some 2⟩) (L.length - 1) L.length, H.set b (Option.some (67, lc (L.eraseIdx i) ++ rest))) := by
    have hq : lc (L.eraseIdx i) = (lc L).take (i * 2) ++ lc (L.drop (i + 1)) := by rw [List.eraseIdx_eq_take_drop_succ, lc_app, lc_tk]
    by_cases h0 : L.length - (i + 1) = 0
    · rw [h0] at hy ⊢
      refine ⟨(lc L).drop (i * 2), by rw [List.length_drop]; omega, ?_⟩
      rw [ap_0 ts24 hy, hq, List.append_assoc, show lc (L.drop (i + 1)) = [] from List.eq_nil_of_length_eq_zero (by omega), List.nil_append, List.take_append_drop]
      rw [show i = L.length - 1 by omega]
      congr 2
      unfold hget at hg
      have : H[b]? = Option.some (Option.some (67, lc L)) := by
        cases hq : H[b]? with
        | none => rw [hq] at hg; cases hg
        | some y => rw [hq] at hg; exact congrArg Option.some hg
      refine (List.ext_getElem? fun k => ?_).symm
      by_cases e : b = k
      · subst e; rw [List.getElem?_set_self hbl, this]
      · rw [List.getElem?_set_ne e]
    · refine ⟨(lc L).drop (i * 2 + (lc (L.drop (i + 1))).length), by rw [List.length_drop]; omega, ?_⟩
      rw [ap_in ts24 hb hg hy h0 (by omega) (by omega), setAll_gen _ _ _ (by omega), hq]
      congr 3
      omega
  obtain ⟨rest, hr, e4⟩ := e4
  have hee : (lc (L.eraseIdx i)).length = (L.length - 1) * 2 := by rw [lc_len, List.length_eraseIdx_of_lt hi]
  have e5 := sa_at (P := C.P) (t := 24) (el := 67) (es := 2) (b := b) (o := 0) (m := L.length - 1) (cap := L.length) (lo := L.length - 1) (hi := L.length) (l := Option.some (gi (L.length - 1 : Nat))) (h := Option.some (gi L.length)) rfl rfl rfl rfl (by omega) (by omega)
  have e6 : clearA C.P base (H.set b (Option.some (67, lc (L.eraseIdx i) ++ rest))) 24 (.slice (Option.some ⟨b, 0 + (L.length - 1) * 2, Option.some 2⟩) (L.length - (L.length - 1)) (L.length - (L.length - 1))) = Option.some (H.set b (Option.some (67, lc (L.eraseIdx i) ++ [gi 0, gi 0]))) := by
    have hz := ts24
    have hcz : (Value.agg #[gi 0, gi 0]).cells.toList = [gi 0, gi 0] := rfl
    unfold clearA
    simp only [hz.elem, hz.size, hz.zero, Option.bind_some, hz.ok, and_self, if_true, hcz]
    rw [show L.length - (L.length - 1) = 1 by omega, if_neg (by decide), if_pos hb]
    have hg2 : hget (H.set b (Option.some (67, lc (L.eraseIdx i) ++ rest))) b = Option.some (67, lc (L.eraseIdx i) ++ rest) := by simp [hget, hbl]
    rw [hg2, Option.bind_some, if_pos (by simp [hee, hr]), setAll_gen _ _ _ (by simp [hee, hr])]
    rw [List.set_set]
    congr 4
    rw [Nat.zero_add, ← hee]
    simp [hr, List.drop_eq_nil_of_le]
  simp only [Nat.zero_add, Nat.zero_mul, Nat.sub_zero] at e1 e2 e3 e4 e5 e6
  simp only [go_sem, show C.wr 79 = true from rfl, e1, hne]
  rw [fin_regd]; rotate_left; · decide +kernel
  simp only [go_sem, e2, e3, eo_append (show notInt C.P 24 = true from rfl), e4, e5, eo_clear, e6, Chr (show (rawF 79 || wrF 79) = true from rfl)]
end T

open Go Go.Am
namespace T
open Go.Proofs
set_option maxRecDepth 100000
set_option maxHeartbeats 4000000
set_option linter.unusedSimpArgs false
set_option linter.unusedVariables false
variable {base : Nat} {H : Heap}
theorem all_tk {M : List (Nat × Nat)} {n : Nat} (hr : ∀ l ∈ M, l.1 < n ∧ l.2 < n) (k : Nat) : ∀ l ∈ M.take k, l.1 < n ∧ l.2 < n := fun l hl => hr l (List.mem_of_mem_take hl)
theorem idle_no {n : Int} {s : Value} {L : List (Int × Int)} (hs : SL H s L) (hL : L.length < 1000) (h : areC n L = false) : cal C base 14 [gi n, s] H = some (.tuple #[.slice none 0 0, bo false], H) ∧ cal C base 15 [gi n, s] H = some (.tuple #[.slice none 0 0, bo false], H) ∧ cal C base 16 [gi n, s] H = some (.tuple #[.slice none 0 0, bo false], H) ∧ cal C base 17 [gi n, s] H = some (.tuple #[.slice none 0 0, bo false], H) := by
  refine ⟨?_, ?_, ?_, ?_⟩
  · refine cal_fn Try.func14 rfl rfl (res := [.tmp 4, .tmp 5]) rfl Try.ntmps14 1 base _ H ?_
    simp only [go_sem, areC_c hs hL, h, Chb (show wrF 14 = false from rfl)]
  · refine cal_fn Try.func15 rfl rfl (res := [.tmp 4, .tmp 5]) rfl Try.ntmps15 1 base _ H ?_
    simp only [go_sem, caGood_c hs hL, h, Chb (show wrF 15 = false from rfl)]
  · refine cal_fn Try.func16 rfl rfl (res := [.tmp 4, .tmp 5]) rfl Try.ntmps16 1 base _ H ?_
    obtain ⟨a, c, rfl⟩ := hs.sl
    have h2 := (hs.add [some (3, [gi n])]).add [some (24, [.slice a L.length c])]
    have e := areC_c (base := H.length) (n := n) h2 hL
    simp only [List.append_assoc, List.cons_append, List.nil_append] at e
    simp only [go_sem, hget_0, hget_1, List.append_assoc, List.length_append, e, h, show C.wr 16 = false from rfl, Chb (show wrF 16 = false from rfl)]
  · refine cal_fn Try.func17 rfl rfl (res := [.tmp 4, .tmp 5]) rfl Try.ntmps17 1 base _ H ?_
    simp only [go_sem, caGood_c hs hL, h, Chb (show wrF 17 = false from rfl)]
@[go_sem] theorem ld52 {o T cs} : ld1 C.P 51 o (some (T, cs)) = cs[o]? := ld_sc rfl
theorem al52 {call : Nat → CallF} {base : Nat} {dr : Bool} {ρ : Env} {d : Option Tmp} {u : TypeId} {p : String} {e : Array Edge} {g : Option (Nat × Bool)} : evalOp C call base dr ⟨d, .alloc 51, u, p, e, g⟩ ρ H = some (.pointer (some ⟨H.length, 0, none⟩), H ++ [some (51, [.slice none 0 0])]) := eo_alloc (z := .slice none 0 0) rfl rfl
theorem without_c {s : Value} {L : List (Int × Int)} {k : Nat} (hs : SL H s L) (hL : L.length < 1000) (hk : k < L.length) : Ok (cal C base 53 [s, gi k] H) fun s H' => ∃ F, H' = H ++ F ∧ OwnL H.length H' 67 2 s (L.eraseIdx k).length (lc (L.eraseIdx k)) := by
  refine ok_fn Try.func53 rfl rfl (res := [.tmp 4]) rfl Try.ntmps53 1 base _ H ?_
  obtain ⟨v, H1, e1, F, rfl, ho⟩ := clone_c (base := H.length) hs (by omega) hL
  obtain ⟨h0, ⟨_, h, _⟩ | ⟨b, hb, rfl, hg⟩⟩ := ho
  · omega
  have e2 := del_c (base := H.length) hb hg hk hL
  have hkk : Keeps H.length H ((H ++ F).set b (some (67, lc (L.eraseIdx k) ++ [gi 0, gi 0]))) := (Keeps.append (Nat.le_refl _) F).trans (.set hb _)
  have hbl := hget_lt hg
  have hee : (lc (L.eraseIdx k)).length = (L.length - 1) * 2 := by rw [lc_len, List.length_eraseIdx_of_lt hk]
  have hcut : ((lc (L.eraseIdx k) ++ [gi 0, gi 0]).drop 0).take ((L.length - 1) * 2) = lc (L.eraseIdx k) := by rw [List.drop_zero, ← hee, List.take_left]
  have e3 := tv_sl (P := C.P) (m := H.length) (b := b) (o := 0) (es := 2) (q := L.length - 1) (c := L.length) (l := []) (old := (H ++ F).set b (some (67, lc (L.eraseIdx k) ++ [gi 0, gi 0]))) (acc := H) (T := 67) (cs := lc (L.eraseIdx k) ++ [gi 0, gi 0]) hb (by unfold hget; rw [List.getElem?_set_self hbl]; rfl) (by simp [hee]) rfl (by rw [hcut]; exact lcG _)
  rw [hcut] at e3
  simp only [go_sem, show C.wr 53 = false from rfl, e1]
  rw [wrapN (by omega)]
  simp only [go_sem, e2, Chb (show wrF 53 = false from rfl), take_keeps hkk, e3]
  refine .some ⟨_, rfl, ?_⟩
  rw [List.length_eraseIdx_of_lt hk]
  exact ⟨hee, .inr ⟨H.length, Nat.le_refl _, rfl, by simp [hget]⟩⟩
theorem caLess_c {s : Value} {L : List (Int × Int)} {k : Nat} (hs : SL H s L) (hL : L.length < 1000) (hk : k < L.length) : Ok (cal C base 55 [s, gi k] H) fun s H' => ∃ F, H' = H ++ F ∧ OwnL H.length H' 67 2 s (L.eraseIdx k).length (lc (L.eraseIdx k)) := by
  refine ok_fn Try.func55 rfl rfl (res := [.tmp 4]) rfl Try.ntmps55 1 base _ H ?_
  obtain ⟨s1, e1, h1⟩ := SL.to hs (k := k) (by omega)
  obtain ⟨s2, e2, h2⟩ := SL.from hs (k := k + 1) (by omega)
  have hn : OwnL H.length (H ++ [some (67, [])]) 67 2 (.slice (some ⟨H.length, 0, some 2⟩) 0 0) 0 [] := .empty H 67 2 (Nat.le_refl _)
  have hk0 : Keeps H.length H (H ++ [some (67, [])]) := .append (Nat.le_refl _) _
  obtain ⟨v1, H1, e3, ho1, hk1⟩ := hn.apps (base := H.length) (h1.keep hk0) ts24 (Nat.le_refl _) (by simp) (by rw [List.length_take]; unfold room; omega)
  have hk1' := hk0.trans hk1
  obtain ⟨v2, H2, e4, ho2, hk2⟩ := ho1.apps (base := H.length) (h2.keep hk1') ts24 (Nat.le_refl _) hk1'.1 (by rw [List.length_take, List.length_drop]; unfold room; omega)
  have hk2' := hk1'.trans hk2
  rw [List.nil_append, Nat.zero_add, ← lc_app, ← List.eraseIdx_eq_take_drop_succ, ← List.length_append, ← List.eraseIdx_eq_take_drop_succ] at ho2
  obtain ⟨s3, F, old, e5, ho'⟩ := ho2.hand (P := C.P) (acc := H) (l := []) (show tySize C.P 67 = some 2 from rfl) (lcG _)
  obtain ⟨a, c, rfl⟩ := hs.sl
  simp only [go_sem, show C.wr 55 = false from rfl]
  rw [fin_regd]; rotate_left; · decide +kernel
  rw [← wrapN (i := k) (by omega)] at e2
  simp only [go_sem, bs_nil ts24, e1, e2, e3, e4, eo_append (show notInt C.P 24 = true from rfl), Chb (show wrF 55 = false from rfl), take_keeps hk2', e5]
  exact .some ⟨F, rfl, ho'⟩
def less (M : List (Nat × Nat)) (k : Nat) : List (Nat × Nat) := M.eraseIdx k
theorem toZ_less (M : List (Nat × Nat)) (k : Nat) : (toZ M).eraseIdx k = toZ (less M k) := by simp [toZ, less, List.eraseIdx_eq_take_drop_succ, List.map_take, List.map_drop]
theorem less_r {M : List (Nat × Nat)} {n : Nat} (hr : ∀ l ∈ M, l.1 < n ∧ l.2 < n) (k : Nat) : ∀ l ∈ less M k, l.1 < n ∧ l.2 < n := fun l hl => hr l (List.mem_of_mem_eraseIdx hl)
theorem less_len (M : List (Nat × Nat)) (k : Nat) : (less M k).length ≤ M.length := List.length_eraseIdx_le _ _
theorem needl44_c {n k b2 b3 b4 : Nat} (hn : n ≤ 10) {s w : Value} {M : List (Nat × Nat)} (h2 : hget H b2 = some (3, [gi n])) (h3 : hget H b3 = some (24, [s])) (h4 : hget H b4 = some (51, [w])) (hs : SL H s (toZ M)) (hw : Shows H 1 w n (nu (playC n M))) (hM : M.length < 1000) (hr : ∀ l ∈ M, l.1 < n ∧ l.2 < n) (hk : k < M.length) (q : Bool) (hq : q = (playC n (less M k) == playC n M)) :
    cal C base 51 [gi k, pt b2, pt b3, pt b4] H = some (bo q, H) := by
  refine cal_fn Try.func51 rfl rfl (res := [.tmp 5]) rfl Try.ntmps51 1 base _ H ?_
  obtain ⟨s', H1, e1, F, rfl, ho⟩ := without_c (base := H.length) hs (by rw [toZ_len]; exact hM) (k := k) (by rw [toZ_len]; exact hk)
  rw [toZ_less] at ho
  have ll := less_len M k
  obtain ⟨v, H1, e3, F2, rfl, hv⟩ := after_c (base := H.length) (H := H ++ F) hn ho.shows (by omega) (less_r hr k)
  have l1 := (playC_ok hn (less M k)).1
  have l2 := (playC_ok hn M).1
  have e5 := eqU_c (base := H.length) (B1 := playC n (less M k)) (B2 := playC n M) (by rw [l1]; exact hv.shows) (by rw [l2]; exact (hw.add F).add F2) (by omega) q hq
  have hk2 : Keeps H.length H (H ++ F ++ F2) := (Keeps.append (Nat.le_refl _) F).trans (.append (by simp) F2)
  obtain ⟨a, c, rfl⟩ := hs.sl
  simp only [go_sem, show C.wr 51 = false from rfl]
  rw [fin_regd]; rotate_left; · decide +kernel
  simp only [go_sem, h2, h3, e1, e3, hget_old (hget_old h4 F) F2, e5, Chb (show wrF 51 = false from rfl), take_keeps hk2]
theorem needl_c {n : Nat} {s : Value} {M : List (Nat × Nat)} (hs : SL H s (toZ M)) (hM : M.length < 1000) (hn : n ≤ 10) (hr : ∀ l ∈ M, l.1 < n ∧ l.2 < n) (h : areC n (toZ M) = true) (p : Nat → Bool) (hp : ∀ k, p k = (playC n (less M k) == playC n M)) :
    Ok (cal C base 16 [gi n, s] H) fun v H' => ∃ F t, H' = H ++ F ∧ v = .tuple #[t, bo true] ∧ OwnL H.length H' 3 1 t (idx M.length p).length (ni (idx M.length p)) := by
  refine ok_fn Try.func16 rfl rfl (res := [.tmp 4, .tmp 5]) rfl Try.ntmps16 1 base _ H ?_
  have hsl := hs.sl
  rw [toZ_len] at hsl
  obtain ⟨a, c, rfl⟩ := hsl
  have h2 := (hs.add [some (3, [gi n])]).add [some (24, [.slice a M.length c])]
  have e := areC_c (base := H.length) (n := n) h2 (by rw [toZ_len]; exact hM)
  simp only [List.append_assoc, List.cons_append, List.nil_append] at e h2
  obtain ⟨v, H1, e1, F, rfl, ho⟩ := after_c (base := H.length) (n := n) hn h2 hM hr
  obtain ⟨av, cv, rfl⟩ := ho.shows.sl
  have hH2 : H.length + 2 ≤ (H ++ [some (3, [gi n]), some (24, [.slice a M.length c])] ++ F).length := by simp
  generalize hq : H ++ [some (3, [gi n]), some (24, [.slice a M.length c])] ++ F = H2 at *
  have g0 : hget H2 H.length = some (3, [gi n]) := by rw [← hq]; exact hget_old hget_0 F
  have g1 : hget H2 (H.length + 1) = some (24, [.slice a M.length c]) := by rw [← hq]; exact hget_old hget_1 F
  have hk0 : Keeps H.length H H2 := by rw [← hq, List.append_assoc]; exact .append (Nat.le_refl _) _
  have hst := st_new (P := C.P) (base := H.length) (t := 51) (H := H2) (T := 51) (cs := [.slice none 0 0]) (v := .slice av n cv) (by omega) rfl rfl rfl
  have hk1 : Keeps H.length H (H2 ++ [some (51, [.slice av n cv])]) := hk0.trans (.append (by omega) _)
  obtain ⟨v, H1, e2, F3, rfl, ho2⟩ := indices_g (base := H.length) (H := H2 ++ [some (51, [.slice av n cv])]) (g := 51) (caps := #[pt H.length, pt (H.length + 1), pt H2.length]) hM p (fun k hk base H' hkp => by
    obtain ⟨F0, rfl⟩ := keeps_append hkp
    exact needl44_c hn (hget_old (hget_old g0 _) F0) (hget_old (hget_old g1 _) F0) (hget_old hget_0 F0) ((hs.keep hk1).add F0) ((ho.shows.add _).add F0) hM hr hk (p k) (hp k))
  have hk : Keeps H.length H (H2 ++ [some (51, [.slice av n cv])] ++ F3) := hk1.trans (.append (by simp; omega) _)
  obtain ⟨s', F', old, e4, ho'⟩ := (ho2.low (k' := H.length) (by simp; omega)).hand (P := C.P) (acc := H) (l := [bo true]) (show tySize C.P 3 = some 1 from rfl) (by simp [isG, sc, ni])
  simp only [go_sem, hget_0, hget_1, List.append_assoc, List.length_append, e, h, e1, show C.wr 16 = false from rfl, al52, hst, hget_old g0, hget_old g1]
  simp only [List.append_assoc, List.cons_append, List.nil_append] at e2 e4 hk
  simp only [go_sem, e2, Chb (show wrF 16 = false from rfl), take_keeps hk, e4]
  exact .some ⟨F', s', rfl, rfl, ho'⟩
theorem needlS_c {n : Nat} {s : Value} {M : List (Nat × Nat)} (hs : SL H s (toZ M)) (hM : M.length < 1000) (hn : n ≤ 10) (hr : ∀ l ∈ M, l.1 < n ∧ l.2 < n) (h : areC n (toZ M) = true) (p : Nat → Bool) (hp : ∀ k, p k = (playC n (less M k) == playC n M)) :
    Ok (cal C base 17 [gi n, s] H) fun v H' => ∃ F t, H' = H ++ F ∧ v = .tuple #[t, bo true] ∧ OwnL H.length H' 3 1 t (idx M.length p).length (ni (idx M.length p)) := by
  refine ok_fn Try.func17 rfl rfl (res := [.tmp 4, .tmp 5]) rfl Try.ntmps17 1001 base _ H ?_
  have hsl := hs.sl
  rw [toZ_len] at hsl
  obtain ⟨a, c, rfl⟩ := hsl
  simp only [go_sem, caGood_c hs (by rw [toZ_len]; exact hM), h, show C.wr 17 = false from rfl]
  rw [fin_loopk [15, 16, 7, 17, 18, 19, 20, 21, 22, 23, 24, 25, 26, 27, 28, 29, 30] rfl]
  refine lp_ok [6, 14] (fun j vs H' => ∃ (i : Nat) (t : Value), i + j = M.length ∧ vs = [t, gi i] ∧ OwnL H.length H' 3 1 t (idx i p).length (ni (idx i p)) ∧ Keeps H.length H H') M.length [.slice none 0 0, gi 0] ?_ (by omega) (by simp only [go_sem]) ⟨0, _, by omega, rfl, .nil _ _ _ _, .refl _ _⟩
  rintro j m vs H' ⟨i, t, hij, rfl, ho, hk⟩ ih
  have hil := idx_len i p
  cases hlt : decide ((i : Int) < (M.length : Int))
  · obtain rfl : i = M.length := by have := of_decide_eq_false hlt; omega
    obtain ⟨s', F, old, e, ho'⟩ := ho.hand (P := C.P) (acc := H) (l := [bo true]) (show tySize C.P 3 = some 1 from rfl) (by simp [isG, sc, ni])
    simp only [go_sem, hlt, Chb (show wrF 17 = false from rfl), take_keeps hk, e]
    exact .some ⟨F, s', rfl, rfl, ho'⟩
  · have hi : i < M.length := by have := of_decide_eq_true hlt; omega
    have hs1 := hs.keep hk
    obtain ⟨s', H1, e1, F0, rfl, hx⟩ := caLess_c (base := H.length) hs1 (by rw [toZ_len]; exact hM) (k := i) (by rw [toZ_len]; exact hi)
    rw [toZ_less] at hx
    have ll := less_len M i
    have hl0 := hk.1
    obtain ⟨v, H1, e3, F, rfl, hv⟩ := caPlay_c (base := H.length) hn hx.shows (by omega) (less_r hr i)
    obtain ⟨v2, H2, e4, F2, rfl, hv2⟩ := caPlay_c (base := H.length) (H := H' ++ F0 ++ F) hn ((hs1.add F0).add F) hM hr
    have l1 := (playC_ok hn (less M i)).1
    have l2 := (playC_ok hn M).1
    have e5 := eqI_c (base := H.length) (B1 := playC n (less M i)) (B2 := playC n M) (by rw [l1]; exact hv.shows.add F2) (by rw [l2]; exact hv2.shows) (by omega) (p i) (hp i)
    have e6 := idx_succ i p
    have ho2 := ((ho.keep (.append (Nat.le_refl _) F0)).keep (.append (Nat.le_refl _) F)).keep (.append (Nat.le_refl _) F2)
    have hk2 : Keeps H.length H (H' ++ F0 ++ F ++ F2) := by rw [List.append_assoc, List.append_assoc]; exact hk.trans (.append hk.1 _)
    simp only [go_sem, hlt]
    cases hpi : p i
    · rw [hpi] at e5 e6
      simp only [go_sem, e1, e3, e4, e5]
      rw [wrapN (by omega)]
      exact ih (j - 1) [t, gi (i + 1 : Nat)] _ _ (by omega) (by simp only [go_sem]) ⟨i + 1, t, by omega, rfl, by rw [e6]; exact ho2, hk2⟩
    · rw [hpi] at e5 e6
      have hap := ho2.app (base := H.length) ts34 (Nat.le_refl _) (ys := [.int .i64 (i : Int)]) rfl (by unfold room; omega)
      simp only [go_sem, e1, e3, e4, e5, bs_one ts34 (x := Value.int .i64 _) rfl rfl, eo_append (show notInt C.P 34 = true from rfl), hap]
      rw [wrapN (by omega)]
      refine ih (j - 1) [_, gi (i + 1 : Nat)] _ _ (by omega) (by simp only [go_sem]) ⟨i + 1, .slice (some ⟨(H' ++ F0 ++ F ++ F2).length + 1, 0, some 1⟩) ((idx i p).length + 1) ((idx i p).length + 1), by omega, rfl, ?_, ho2.keeps hk2 (Nat.le_refl _)⟩
      rw [e6, if_pos rfl, show (idx i p ++ [i]).length = (idx i p).length + 1 by simp, show ni (idx i p ++ [i]) = ni (idx i p) ++ [.int .i64 (i : Int)] by simp [ni]]
      exact ho2.next (ys := [.int .i64 (i : Int)]) hk2.1 rfl
end T

open Go Go.Am
namespace T
open Go.Proofs
set_option maxRecDepth 100000
set_option maxHeartbeats 4000000
set_option linter.unusedSimpArgs false
set_option linter.unusedVariables false
variable {base : Nat} {H : Heap}
theorem len_pop : ∀ x, x < 1024 → (bitsOf x).length = pop x := by decide +kernel
theorem len16_pop {B : List Nat} (h : ∀ x ∈ B, x < 1024) : len16 B = popSum B := by
  unfold len16 popSum
  rw [List.map_congr_left fun x hx => len_pop x (h x hx)]
theorem pl1024 {n : Nat} (hn : n ≤ 10) {M : List (Nat × Nat)} : ∀ x ∈ playC n M, x < 1024 := fun x hx => Nat.lt_of_lt_of_le ((playC_ok hn M).2 x hx) (Nat.le_trans (Nat.pow_le_pow_right (by decide) hn) (by decide))
/-- How many news are learned by a call. -/
def lrn (n : Nat) (M : List (Nat × Nat)) (k : Nat) : Int := ((popSum (playC n (M.take (k + 1))) : Nat) : Int) - ((popSum (playC n (M.take k)) : Nat) : Int)
theorem popS_le {n : Nat} (hn : n ≤ 10) (M : List (Nat × Nat)) : popSum (playC n M) ≤ 160 := by
  have h1 := popSum_le (playC n M)
  have h2 := (playC_ok hn M).1
  omega
theorem wrap_lrn {n : Nat} (hn : n ≤ 10) (M : List (Nat × Nat)) (k : Nat) : IntKind.i64.wrap (((popSum (playC n (M.take (k + 1))) : Nat) : Int) - ((popSum (playC n (M.take k)) : Nat) : Int)) = lrn n M k := by
  have h1 := popS_le hn (M.take (k + 1))
  have h2 := popS_le hn (M.take k)
  unfold lrn
  rw [IntKind.wrap_i64]; omega
theorem learned_c {n k : Nat} (hn : n ≤ 10) {s : Value} {M : List (Nat × Nat)} (hs : SL H s (toZ M)) (hM : M.length < 1000) (hr : ∀ l ∈ M, l.1 < n ∧ l.2 < n) (hk : k < M.length) :
    cal C base 65 [gi n, s, gi k] H = some (gi (lrn n M k), H) := by
  refine cal_fn Try.func65 rfl rfl (res := [.tmp 6]) rfl Try.ntmps65 1 base _ H ?_
  obtain ⟨s', e1, hs'⟩ := hs.to (k := k) (by rw [toZ_len]; omega)
  rw [toZ_take] at hs'
  obtain ⟨s2, e2, hs2⟩ := hs.to (k := k + 1) (by rw [toZ_len]; omega)
  rw [toZ_take] at hs2
  obtain ⟨v2, H2, e4, F2, rfl, ho2⟩ := after_c (base := H.length) hn hs2 (by rw [List.length_take]; omega) (all_tk hr (k + 1))
  obtain ⟨v, H1, e3, F, rfl, ho⟩ := after_c (base := H.length) (H := H ++ F2) hn (hs'.add F2) (by rw [List.length_take]; omega) (all_tk hr k)
  have l1 := (playC_ok hn (M.take k)).1
  have l2 := (playC_ok hn (M.take (k + 1))).1
  have c2 := count_c (base := H.length) (B := playC n (M.take (k + 1))) (by rw [l2]; exact ho2.shows) (by omega) (plC16 hn)
  have c1 := count_c (base := H.length) (B := playC n (M.take k)) (by rw [l1]; exact ho.shows) (by omega) (plC16 hn)
  obtain ⟨a, c, rfl⟩ := hs.sl
  simp only [go_sem, show C.wr 65 = false from rfl]
  rw [fin_regd]; rotate_left; · decide +kernel
  rw [← wrapN (i := k) (by omega)] at e2
  have hk2 : Keeps H.length H (H ++ F2 ++ F) := (Keeps.append (Nat.le_refl _) F2).trans (.append (by simp) F)
  simp only [go_sem, e1, e2, e3, e4, c1, c2, wrap_lrn hn, Chb (show wrF 65 = false from rfl), take_keeps hk2]
theorem caLearned_c {n k : Nat} (hn : n ≤ 10) {s : Value} {M : List (Nat × Nat)} (hs : SL H s (toZ M)) (hM : M.length < 1000) (hr : ∀ l ∈ M, l.1 < n ∧ l.2 < n) (hk : k < M.length) :
    cal C base 49 [gi n, s, gi k] H = some (gi (lrn n M k), H) := by
  refine cal_fn Try.func49 rfl rfl (res := [.tmp 6]) rfl Try.ntmps49 1 base _ H ?_
  obtain ⟨s', e1, hs'⟩ := hs.to (k := k) (by rw [toZ_len]; omega)
  rw [toZ_take] at hs'
  obtain ⟨s2, e2, hs2⟩ := hs.to (k := k + 1) (by rw [toZ_len]; omega)
  rw [toZ_take] at hs2
  obtain ⟨v2, H2, e4, F2, rfl, ho2⟩ := caPlay_c (base := H.length) hn hs2 (by rw [List.length_take]; omega) (all_tk hr (k + 1))
  obtain ⟨v, H1, e3, F, rfl, ho⟩ := caPlay_c (base := H.length) (H := H ++ F2) hn (hs'.add F2) (by rw [List.length_take]; omega) (all_tk hr k)
  have l1 := (playC_ok hn (M.take k)).1
  have l2 := (playC_ok hn (M.take (k + 1))).1
  have c2 := caCount_c (base := H.length) (B := playC n (M.take (k + 1))) (by rw [l2]; exact ho2.shows) (by omega) (plC16 hn)
  have c1 := caCount_c (base := H.length) (B := playC n (M.take k)) (by rw [l1]; exact ho.shows) (by omega) (plC16 hn)
  rw [len16_pop (pl1024 hn)] at c1 c2
  obtain ⟨a, c, rfl⟩ := hs.sl
  simp only [go_sem, show C.wr 49 = false from rfl]
  rw [fin_regd]; rotate_left; · decide +kernel
  rw [← wrapN (i := k) (by omega)] at e2
  have hk2 : Keeps H.length H (H ++ F2 ++ F) := (Keeps.append (Nat.le_refl _) F2).trans (.append (by simp) F)
  simp only [go_sem, e1, e2, e3, e4, c1, c2, wrap_lrn hn, Chb (show wrF 49 = false from rfl), take_keeps hk2]
theorem idle1_c {n k b2 b3 : Nat} (hn : n ≤ 10) {s : Value} {M : List (Nat × Nat)} (h2 : hget H b2 = some (3, [gi n])) (h3 : hget H b3 = some (24, [s])) (hs : SL H s (toZ M)) (hM : M.length < 1000) (hr : ∀ l ∈ M, l.1 < n ∧ l.2 < n) (hk : k < M.length) :
    cal C base 78 [gi k, pt b2, pt b3] H = some (bo (lrn n M k == 0), H) := by
  refine cal_fn Try.func78 rfl rfl (res := [.tmp 4]) rfl Try.ntmps78 1 base _ H ?_
  have e := learned_c (base := H.length) hn hs hM hr hk
  obtain ⟨a, c, rfl⟩ := hs.sl
  simp only [go_sem, h2, h3, e, show C.wr 78 = false from rfl, Chb (show wrF 78 = false from rfl)]
theorem idleL_c {n : Nat} {s : Value} {M : List (Nat × Nat)} (hs : SL H s (toZ M)) (hM : M.length < 1000) (hn : n ≤ 10) (hr : ∀ l ∈ M, l.1 < n ∧ l.2 < n) (p : Nat → Bool) (hp : ∀ k, p k = (lrn n M k == 0)) :
    Ok (cal C base 48 [gi n, s] H) fun t H' => ∃ F, H' = H ++ F ∧ OwnL H.length H' 3 1 t (idx M.length p).length (ni (idx M.length p)) := by
  refine ok_fn Try.func48 rfl rfl (res := [.tmp 4]) rfl Try.ntmps48 1 base _ H ?_
  have hsl := hs.sl
  rw [toZ_len] at hsl
  obtain ⟨a, c, rfl⟩ := hsl
  have h2 := (hs.add [some (3, [gi n])]).add [some (24, [.slice a M.length c])]
  simp only [List.append_assoc, List.cons_append, List.nil_append] at h2
  obtain ⟨v, H1, e1, F, rfl, ho⟩ := indices_g (base := H.length) (H := H ++ [some (3, [gi n]), some (24, [.slice a M.length c])]) (g := 78) (caps := #[pt H.length, pt (H.length + 1)]) hM p (fun k hk base H' hkp => by
    obtain ⟨F0, rfl⟩ := keeps_append hkp
    rw [hp]
    exact idle1_c hn (hget_old (hget_0 (H := H)) F0) (hget_old hget_1 F0) (h2.add F0) hM hr hk)
  have hk : Keeps H.length H (H ++ [some (3, [gi n]), some (24, [.slice a M.length c])] ++ F) := by rw [List.append_assoc]; exact .append (Nat.le_refl _) _
  obtain ⟨s', F', old, e4, ho'⟩ := (ho.low (k' := H.length) (by simp)).hand (P := C.P) (acc := H) (l := []) (show tySize C.P 3 = some 1 from rfl) (by simp [isG, sc, ni])
  simp only [go_sem, hget_0, hget_1, List.append_assoc, List.length_append, show C.wr 48 = false from rfl] 
  simp only [List.append_assoc, List.cons_append, List.nil_append] at e1 e4 hk
  simp only [go_sem, e1, Chb (show wrF 48 = false from rfl), take_keeps hk, e4]
  exact .some ⟨F', rfl, ho'⟩
theorem idle_c {n : Nat} {s : Value} {M : List (Nat × Nat)} (hs : SL H s (toZ M)) (hM : M.length < 1000) (hn : n ≤ 10) (hr : ∀ l ∈ M, l.1 < n ∧ l.2 < n) (h : areC n (toZ M) = true) (p : Nat → Bool) (hp : ∀ k, p k = (lrn n M k == 0)) :
    Ok (cal C base 14 [gi n, s] H) fun v H' => ∃ F t, H' = H ++ F ∧ v = .tuple #[t, bo true] ∧ OwnL H.length H' 3 1 t (idx M.length p).length (ni (idx M.length p)) := by
  refine ok_fn Try.func14 rfl rfl (res := [.tmp 4, .tmp 5]) rfl Try.ntmps14 1 base _ H ?_
  obtain ⟨t, H1, e1, F, rfl, ho⟩ := idleL_c (base := H.length) hs hM hn hr p hp
  obtain ⟨s', F', old, e4, ho'⟩ := ho.hand (P := C.P) (acc := H) (l := [bo true]) (show tySize C.P 3 = some 1 from rfl) (by simp [isG, sc, ni])
  have hk : Keeps H.length H (H ++ F) := .append (Nat.le_refl _) _
  simp only [go_sem, areC_c hs (by rw [toZ_len]; exact hM), h, e1, show C.wr 14 = false from rfl, Chb (show wrF 14 = false from rfl), take_keeps hk, e4]
  exact .some ⟨F', s', rfl, rfl, ho'⟩
theorem idleS_c {n : Nat} {s : Value} {M : List (Nat × Nat)} (hs : SL H s (toZ M)) (hM : M.length < 1000) (hn : n ≤ 10) (hr : ∀ l ∈ M, l.1 < n ∧ l.2 < n) (h : areC n (toZ M) = true) (p : Nat → Bool) (hp : ∀ k, p k = (lrn n M k == 0)) :
    Ok (cal C base 15 [gi n, s] H) fun v H' => ∃ F t, H' = H ++ F ∧ v = .tuple #[t, bo true] ∧ OwnL H.length H' 3 1 t (idx M.length p).length (ni (idx M.length p)) := by
  refine ok_fn Try.func15 rfl rfl (res := [.tmp 4, .tmp 5]) rfl Try.ntmps15 1001 base _ H ?_
  have hsl := hs.sl
  rw [toZ_len] at hsl
  obtain ⟨a, c, rfl⟩ := hsl
  simp only [go_sem, caGood_c hs (by rw [toZ_len]; exact hM), h, show C.wr 15 = false from rfl]
  rw [fin_loopk [15, 16, 7, 17, 18, 19, 20, 21, 22, 23, 24, 25, 26] rfl]
  refine lp_ok [6, 14] (fun j vs H' => ∃ (i : Nat) (t : Value), i + j = M.length ∧ vs = [t, gi i] ∧ OwnL H.length H' 3 1 t (idx i p).length (ni (idx i p)) ∧ Keeps H.length H H') M.length [.slice none 0 0, gi 0] ?_ (by omega) (by simp only [go_sem]) ⟨0, _, by omega, rfl, .nil _ _ _ _, .refl _ _⟩
  rintro j m vs H' ⟨i, t, hij, rfl, ho, hk⟩ ih
  have hil := idx_len i p
  cases hlt : decide ((i : Int) < (M.length : Int))
  · obtain rfl : i = M.length := by have := of_decide_eq_false hlt; omega
    obtain ⟨s', F, old, e, ho'⟩ := ho.hand (P := C.P) (acc := H) (l := [bo true]) (show tySize C.P 3 = some 1 from rfl) (by simp [isG, sc, ni])
    simp only [go_sem, hlt, Chb (show wrF 15 = false from rfl), take_keeps hk, e]
    exact .some ⟨F, s', rfl, rfl, ho'⟩
  · have hi : i < M.length := by have := of_decide_eq_true hlt; omega
    have hl0 := hk.1
    have e5 := caLearned_c (base := H.length) hn (hs.keep hk) hM hr hi
    have e6 := idx_succ i p
    simp only [go_sem, hlt]
    cases hpi : p i
    · have e7 : (lrn n M i == 0) = false := by rw [← hp, hpi]
      rw [hpi] at e6
      simp only [go_sem, e5, e7]
      rw [wrapN (by omega)]
      exact ih (j - 1) [t, gi (i + 1 : Nat)] _ _ (by omega) (by simp only [go_sem]) ⟨i + 1, t, by omega, rfl, by rw [e6]; exact ho, hk⟩
    · have e7 : (lrn n M i == 0) = true := by rw [← hp, hpi]
      rw [hpi] at e6
      have hap := ho.app (base := H.length) ts34 (Nat.le_refl _) (ys := [.int .i64 (i : Int)]) rfl (by unfold room; omega)
      simp only [go_sem, e5, e7, bs_one ts34 (x := Value.int .i64 _) rfl rfl, eo_append (show notInt C.P 34 = true from rfl), hap]
      rw [wrapN (by omega)]
      refine ih (j - 1) [_, gi (i + 1 : Nat)] _ _ (by omega) (by simp only [go_sem]) ⟨i + 1, .slice (some ⟨H'.length + 1, 0, some 1⟩) ((idx i p).length + 1) ((idx i p).length + 1), by omega, rfl, ?_, ho.keeps hk (Nat.le_refl _)⟩
      rw [e6, if_pos rfl, show (idx i p ++ [i]).length = (idx i p).length + 1 by simp, show ni (idx i p ++ [i]) = ni (idx i p) ++ [.int .i64 (i : Int)] by simp [ni]]
      exact ho.next (ys := [.int .i64 (i : Int)]) hk.1 rfl
end T

