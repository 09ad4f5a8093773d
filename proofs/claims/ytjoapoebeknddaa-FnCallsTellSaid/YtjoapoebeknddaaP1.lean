/- The plain law of calls. No conditions. -/
import Derived.Test.YtjoapoebeknddaaK4
import Derived.Test.YtjoapoebeknddaaG1
set_option linter.unusedSimpArgs false
set_option linter.unusedVariables false
/- The plain law of calls: what words of bits say of who knows what. No conditions. -/
open Go Go.Am
namespace T
set_option linter.unusedVariables false
set_option linter.unusedSimpArgs false
set_option maxRecDepth 100000
theorem snocI {P : List (Nat × Nat) → Prop} (h0 : P []) (h1 : ∀ L l, P L → P (L ++ [l])) (L : List (Nat × Nat)) : P L := Gs.snocI h0 h1 L
theorem getD_set {B : List Nat} {i j v : Nat} (hi : i < B.length) : (B.set i v).getD j 0 = if j = i then v else B.getD j 0 := by
  rw [List.getD_eq_getElem?_getD, List.getD_eq_getElem?_getD, List.getElem?_set]
  by_cases h : i = j
  · subst h; simp [hi]
  · rw [if_neg h, if_neg (fun e => h e.symm)]
/-- Calls of so many friends. -/
def InN (n : Nat) (M : List (Nat × Nat)) : Prop := ∀ l ∈ M, l.1 < n ∧ l.2 < n
theorem getD_of {B : List Nat} {i : Nat} (h : i < B.length) : B.getD i 0 = B[i] := by simp [h]
theorem ext_words {n : Nat} (hn : n ≤ 10) {A B : List Nat} (hA : A.length = n) (hB : B.length = n) (hA2 : ∀ x ∈ A, x < 2 ^ n) (hB2 : ∀ x ∈ B, x < 2 ^ n) (h : ∀ x j, x < n → j < n → ((A.getD x 0).testBit j = true ↔ (B.getD x 0).testBit j = true)) : A = B := by
  refine List.ext_getElem (hA.trans hB.symm) fun i h1 h2 => ?_
  refine Nat.eq_of_testBit_eq fun j => ?_
  by_cases hj : j < n
  · have := h i j (by omega) hj
    rw [getD_of h1, getD_of h2] at this
    exact Bool.eq_iff_iff.2 this
  · have a := hA2 _ (List.getElem_mem h1)
    have b := hB2 _ (List.getElem_mem h2)
    rw [Nat.testBit_lt_two_pow (Nat.lt_of_lt_of_le a (Nat.pow_le_pow_right (by decide) (by omega))), Nat.testBit_lt_two_pow (Nat.lt_of_lt_of_le b (Nat.pow_le_pow_right (by decide) (by omega)))]
theorem full_word {n x : Nat} (hx : x < 2 ^ n) : x = 2 ^ n - 1 ↔ ∀ j, j < n → x.testBit j = true := by
  constructor
  · rintro rfl j hj; rw [Nat.testBit_two_pow_sub_one]; exact decide_eq_true hj
  · intro h
    refine Nat.eq_of_testBit_eq fun j => ?_
    rw [Nat.testBit_two_pow_sub_one]
    by_cases hj : j < n
    · rw [h j hj, decide_eq_true hj]
    · rw [decide_eq_false hj]
      exact Nat.testBit_lt_two_pow (Nat.lt_of_lt_of_le hx (Nat.pow_le_pow_right (by decide) (by omega)))
/-- Do all know all? -/
theorem full_iff {n : Nat} {B : List Nat} (hB2 : ∀ x ∈ B, x < 2 ^ n) (hB : B.length = n) : full n B = true ↔ ∀ x j, x < n → j < n → (B.getD x 0).testBit j = true := by
  unfold full
  rw [List.all_eq_true]
  constructor
  · intro h x j hx hj
    have hm : B[x]'(by omega) ∈ B := List.getElem_mem _
    rw [getD_of (by omega)]
    exact (full_word (hB2 _ hm)).1 (beq_iff_eq.1 (h _ hm)) j hj
  · intro h x hx
    obtain ⟨i, hi, rfl⟩ := List.getElem_of_mem hx
    rw [beq_iff_eq, full_word (hB2 _ hx)]
    intro j hj
    have := h i j (by omega) hj
    rwa [getD_of hi] at this
theorem pop_full : ∀ n, n < 11 → ∀ x, x < 2 ^ n → pop x ≤ n ∧ (pop x = n → x = 2 ^ n - 1) ∧ pop (2 ^ n - 1) = n := by decide +kernel
theorem sum_rep (k n : Nat) : (List.replicate k n).sum = k * n := by
  induction k with
  | zero => simp
  | succ k ih => rw [List.replicate_succ, List.sum_cons, ih, Nat.succ_mul]; omega
theorem sum_full {n : Nat} : ∀ {l : List Nat}, (∀ x ∈ l, x ≤ n) → l.sum ≤ l.length * n ∧ (l.sum = l.length * n → ∀ x ∈ l, x = n)
  | [], _ => ⟨by simp, fun _ x hx => by simp at hx⟩
  | a :: l, h => by
    obtain ⟨h1, h2⟩ := sum_full (l := l) fun x hx => h x (List.mem_cons_of_mem _ hx)
    have ha := h a List.mem_cons_self
    rw [List.sum_cons, List.length_cons, Nat.succ_mul]
    refine ⟨by omega, fun e x hx => ?_⟩
    rcases List.mem_cons.1 hx with rfl | hx
    · omega
    · exact h2 (by omega) x hx
theorem allK_full {n : Nat} (hn : n ≤ 10) {B : List Nat} (hB2 : ∀ x ∈ B, x < 2 ^ n) (hB : B.length = n) : allK B = full n B := by
  rw [Bool.eq_iff_iff]
  unfold allK popSum full
  rw [beq_iff_eq, List.all_eq_true]
  have hle : ∀ y ∈ B.map pop, y ≤ n := fun y hy => by
    obtain ⟨x, hx, rfl⟩ := List.mem_map.1 hy
    exact (pop_full n (by omega) x (hB2 x hx)).1
  obtain ⟨s1, s2⟩ := sum_full hle
  rw [List.length_map, hB] at s1 s2
  rw [hB]
  constructor
  · intro e x hx
    rw [beq_iff_eq]
    exact (pop_full n (by omega) x (hB2 x hx)).2.1 (s2 e _ (List.mem_map_of_mem hx))
  · intro h
    have : B.map pop = List.replicate n n := by
      refine List.eq_replicate_iff.2 ⟨by simp [hB], fun y hy => ?_⟩
      obtain ⟨x, hx, rfl⟩ := List.mem_map.1 hy
      have e := beq_iff_eq.1 (h x hx)
      rw [e]; exact (pop_full n (by omega) x (hB2 x hx)).2.2
    rw [this, sum_rep]
theorem nd_spec {N : Nat} {p : Nat → Bool} (hmono : ∀ k ≤ N, p k = true → p N = true) : ndB (nd N p) = p N := by
  cases h : p N
  · have : nd N p = none := nd_none fun k hk => by
      cases hk2 : p k
      · rfl
      · rw [hmono k hk hk2] at h; cases h
    rw [this]; rfl
  · unfold nd ndB
    rw [List.find?_isSome]
    exact ⟨N, List.mem_range.2 (by omega), h⟩
theorem nd_get {N : Nat} {p : Nat → Bool} (h : ndB (nd N p) = true) : ndI (nd N p) ≤ N ∧ p (ndI (nd N p)) = true := by
  unfold ndB at h
  obtain ⟨r, hr⟩ := Option.isSome_iff_exists.1 h
  rw [hr]
  have h1 := List.find?_some hr
  have h2 := List.mem_of_find?_eq_some hr
  exact ⟨by have := List.mem_range.1 h2; simp only [ndI, Option.getD_some]; omega, h1⟩
theorem rises_pw {l : List Nat} (h : l.Pairwise (· < ·)) : rises l = true := by
  unfold rises
  rw [List.all_eq_true]
  intro i hi
  have hi := List.mem_range.1 hi
  rw [decide_eq_true_eq, getD_of (by omega), getD_of (by omega)]
  exact List.pairwise_iff_getElem.1 h i (i + 1) (by omega) (by omega) (by omega)
theorem range_pw (n : Nat) : (List.range n).Pairwise (· < ·) := List.pairwise_lt_range
theorem rises_idx (N : Nat) (p : Nat → Bool) : rises (idx N p) = true := rises_pw ((range_pw N).filter p)
theorem rises_bits (x : Nat) : rises (bitsOf x) = true := rises_pw ((range_pw 16).filter _)
theorem mem_idx {N k : Nat} {p : Nat → Bool} : k ∈ idx N p ↔ k < N ∧ p k = true := by unfold idx; rw [List.mem_filter, List.mem_range]
theorem mem_bits {x j : Nat} : j ∈ bitsOf x ↔ j < 16 ∧ x.testBit j = true := by unfold bitsOf bitsTo; rw [List.mem_filter, List.mem_range]
theorem bits_inj {x y : Nat} (hx : x < 65536) (hy : y < 65536) (h : bitsOf x = bitsOf y) : x = y := by
  refine Nat.eq_of_testBit_eq fun j => ?_
  by_cases hj : j < 16
  · have : (j ∈ bitsOf x) ↔ (j ∈ bitsOf y) := by rw [h]
    rw [mem_bits, mem_bits] at this
    rw [Bool.eq_iff_iff]
    exact ⟨fun k => (this.1 ⟨hj, k⟩).2, fun k => (this.2 ⟨hj, k⟩).2⟩
  · have e : ∀ z, z < 65536 → z.testBit j = false := fun z hz => Nat.testBit_lt_two_pow (Nat.lt_of_lt_of_le hz (Nat.le_trans (by decide : 65536 ≤ 2 ^ 16) (Nat.pow_le_pow_right (by decide) (by omega))))
    rw [e x hx, e y hy]
theorem map_bits {A B : List Nat} (hA : ∀ x ∈ A, x < 65536) (hB : ∀ x ∈ B, x < 65536) : (A.map bitsOf == B.map bitsOf) = (A == B) := by
  rw [Bool.eq_iff_iff, beq_iff_eq, beq_iff_eq]
  refine ⟨fun h => ?_, fun h => by rw [h]⟩
  have hl : A.length = B.length := by have := congrArg List.length h; simpa using this
  refine List.ext_getElem hl fun i h1 h2 => ?_
  have e : (A.map bitsOf)[i]'(by simpa using h1) = (B.map bitsOf)[i]'(by simpa using h2) := by simp only [h]
  rw [List.getElem_map, List.getElem_map] at e
  exact bits_inj (hA _ (List.getElem_mem h1)) (hB _ (List.getElem_mem h2)) e
end T

/- The plain law of calls: the rest. No conditions. -/
open Go Go.Am
namespace T
set_option linter.unusedVariables false
set_option linter.unusedSimpArgs false
set_option maxRecDepth 100000
theorem InN.take {n : Nat} {M : List (Nat × Nat)} (h : InN n M) (k : Nat) : InN n (M.take k) := fun l hl => h l (List.mem_of_mem_take hl)
theorem InN.less {n : Nat} {M : List (Nat × Nat)} (h : InN n M) (k : Nat) : InN n (less M k) := fun l hl => h l (List.mem_of_mem_eraseIdx hl)
theorem InN.rev {n : Nat} {M : List (Nat × Nat)} (h : InN n M) : InN n M.reverse := fun l hl => h l (List.mem_reverse.1 hl)
/-- Good calls. -/
def Good (n : Nat) (M : List (Nat × Nat)) : Prop := ∀ l ∈ M, l.1 < n ∧ l.2 < n ∧ l.1 < l.2
theorem Good.inN {n : Nat} {M : List (Nat × Nat)} (h : Good n M) : InN n M := fun l hl => ⟨(h l hl).1, (h l hl).2.1⟩
theorem Good.take {n : Nat} {M : List (Nat × Nat)} (h : Good n M) (k : Nat) : Good n (M.take k) := fun l hl => h l (List.mem_of_mem_take hl)
theorem Good.less {n : Nat} {M : List (Nat × Nat)} (h : Good n M) (k : Nat) : Good n (T.less M k) := fun l hl => h l (List.mem_of_mem_eraseIdx hl)
theorem Good.rev {n : Nat} {M : List (Nat × Nat)} (h : Good n M) : Good n M.reverse := fun l hl => h l (List.mem_reverse.1 hl)
theorem areC_of {m : Nat} {M : List (Nat × Nat)} (h1 : 0 < m) (h2 : m ≤ 10) (h3 : M.length ≤ 60) (h4 : Good m M) : areC (m : Int) (toZ M) = true := by
  simp only [areC, areF, Bool.and_eq_true, decide_eq_true_eq]
  refine ⟨⟨⟨by omega, by omega⟩, by rw [toZ_len]; exact h3⟩, ?_⟩
  rw [List.all_eq_true]
  intro l hl
  obtain ⟨q, hq, rfl⟩ := List.mem_map.1 hl
  obtain ⟨k1, k2, k3⟩ := h4 q hq
  simp only [isC, Bool.and_eq_true, decide_eq_true_eq]
  refine ⟨⟨by omega, by omega⟩, by omega⟩
theorem playC_len {n : Nat} (hn : n ≤ 10) (M : List (Nat × Nat)) : (playC n M).length = n := (playC_ok hn M).1
theorem playC_app (n : Nat) (L : List (Nat × Nat)) (l : Nat × Nat) : playC n (L ++ [l]) = stepC (playC n L) l := by
  unfold playC; rw [List.foldl_append]; rfl
theorem bit_playC {n : Nat} (hn : n ≤ 10) (M : List (Nat × Nat)) : InN n M → ∀ x j, x < n → (((playC n M).getD x 0).testBit j = true ↔ Gs.K M x j) := by
  refine snocI (P := fun M => InN n M → ∀ x j, x < n → (((playC n M).getD x 0).testBit j = true ↔ Gs.K M x j)) ?_ ?_ M
  · intro _ x j hx
    have : (playC n []).getD x 0 = 2 ^ x := by
      show (sN n).getD x 0 = _
      rw [List.getD_eq_getElem?_getD]; simp [sN, hx]
    rw [this, Nat.testBit_two_pow]
    exact ⟨fun h => (show x = j by simpa using h), fun h => by have h : x = j := h; simp [h]⟩
  · intro L l ih hr x j hx
    have hr' : InN n L := fun q hq => hr q (List.mem_append_left _ hq)
    obtain ⟨h1, h2⟩ := hr l (List.mem_append_right _ List.mem_cons_self)
    have hl := playC_len hn L
    rw [playC_app, Gs.K_snoc]
    unfold stepC
    have e1 := ih hr' l.1 j h1
    have e2 := ih hr' l.2 j h2
    rw [getD_set (by simp [hl]; exact h2)]
    by_cases c2 : x = l.2
    · rw [if_pos c2, Nat.testBit_or, Bool.or_eq_true, e1, e2]
      subst c2
      constructor
      · rintro (h | h)
        · exact .inr (.inr ⟨rfl, h⟩)
        · exact .inl h
      · rintro (h | ⟨e, h⟩ | ⟨_, h⟩)
        · exact .inr h
        · exact .inr h
        · exact .inl h
    rw [if_neg c2, getD_set (by rw [hl]; exact h1)]
    by_cases c1 : x = l.1
    · rw [if_pos c1, Nat.testBit_or, Bool.or_eq_true, e1, e2]
      subst c1
      constructor
      · rintro (h | h)
        · exact .inl h
        · exact .inr (.inl ⟨rfl, h⟩)
      · rintro (h | ⟨_, h⟩ | ⟨e, h⟩)
        · exact .inl h
        · exact .inr h
        · exact absurd e c2
    · rw [if_neg c1, ih hr' x j hx]
      exact ⟨.inl, fun h => by
        rcases h with h | ⟨e, _⟩ | ⟨e, _⟩
        · exact h
        · exact absurd e c1
        · exact absurd e c2⟩
theorem allK_playC {n : Nat} (hn : n ≤ 10) (M : List (Nat × Nat)) : allK (playC n M) = full n (playC n M) := allK_full hn (playC_ok hn M).2 (playC_ok hn M).1
theorem playC_full {n : Nat} (hn : n ≤ 10) {M : List (Nat × Nat)} (hr : InN n M) : allK (playC n M) = true ↔ Gs.All (List.range n) M := by
  rw [allK_playC hn, full_iff (playC_ok hn M).2 (playC_ok hn M).1]
  exact ⟨fun h x hx j hj => (bit_playC hn M hr x j (List.mem_range.1 hx)).1 (h x j (List.mem_range.1 hx) (List.mem_range.1 hj)), fun h x j hx hj => (bit_playC hn M hr x j hx).2 (h x (List.mem_range.2 hx) j (List.mem_range.2 hj))⟩
theorem playC_mono {n : Nat} (hn : n ≤ 10) {M : List (Nat × Nat)} (hr : InN n M) {k : Nat} (h : allK (playC n (M.take k)) = true) : allK (playC n M) = true := by
  rw [playC_full hn hr]
  rw [playC_full hn (hr.take k)] at h
  intro x hx j hj
  have := Gs.K_app (M.take k) (M.drop k) (h x hx j hj)
  rwa [List.take_append_drop] at this
theorem few_low {n : Nat} (hn : n ≤ 10) (h1 : 1 ≤ n) {M : List (Nat × Nat)} (hg : Good n M) {r : Nat} (h : allK (playC n (M.take r)) = true) : fewN n ≤ r := by
  have g := hg.take r
  rw [playC_full hn g.inN] at h
  have := Gs.fewest_low (S := List.range n) List.nodup_range (M := M.take r) (fun c hc => ⟨List.mem_range.2 (g c hc).1, List.mem_range.2 (g c hc).2.1, by have := (g c hc).2.2; omega⟩) h
  rw [List.length_range, List.length_take] at this
  unfold Gs.fewest at this
  unfold fewN
  repeat' split
  all_goals (repeat' split at this)
  all_goals omega
theorem self_bit {n : Nat} (hn : n ≤ 10) {M : List (Nat × Nat)} (hr : InN n M) {i : Nat} (hi : i < (playC n M).length) : i ∈ bitsOf (playC n M)[i] := by
  have hin : i < n := by rw [playC_len hn] at hi; exact hi
  rw [mem_bits, ← getD_of hi]
  exact ⟨by omega, (bit_playC hn M hr i i hin).2 (Gs.K_self M i)⟩
/-- Who knows x's news is told by the calls the other way round. -/
theorem who_back {n : Nat} (hn : n ≤ 10) {M : List (Nat × Nat)} (hr : InN n M) {x : Nat} (hx : x < n) : idx n (whoP n M x) = bitsOf ((playC n M.reverse).getD x 0) := by
  have hok := playC_ok hn M.reverse
  have hlt : (playC n M.reverse).getD x 0 < 2 ^ n := by rw [getD_of (by rw [hok.1]; exact hx)]; exact hok.2 _ (List.getElem_mem _)
  rw [← bits_end (x := (playC n M.reverse).getD x 0) (i := n) (by rw [Nat.shiftRight_eq_div_pow]; exact Nat.div_eq_of_lt hlt) (by omega)]
  unfold idx bitsTo
  refine List.filter_congr fun i hi => ?_
  have hi := List.mem_range.1 hi
  unfold whoP
  rw [Bool.eq_iff_iff, bit_playC hn M hr i x hi, bit_playC hn _ hr.rev x i hx]
  exact (Gs.K_rev M i x).symm
-- counts
theorem count_le {p q : Nat → Bool} : ∀ (l : List Nat), (∀ a ∈ l, p a = true → q a = true) → (l.filter p).length ≤ (l.filter q).length ∧ ((l.filter p).length = (l.filter q).length → ∀ a ∈ l, q a = true → p a = true)
  | [], _ => ⟨Nat.le_refl _, fun _ a h => by cases h⟩
  | a :: l, h => by
    obtain ⟨h1, h2⟩ := count_le l fun b hb => h b (List.mem_cons_of_mem _ hb)
    have ha := h a List.mem_cons_self
    cases hp : p a <;> cases hq : q a <;> simp only [List.filter_cons, hp, hq, if_true, if_false, Bool.false_eq_true, List.length_cons]
    · exact ⟨h1, fun e b hb hqb => by
        rcases List.mem_cons.1 hb with rfl | hb
        · rw [hq] at hqb; cases hqb
        · exact h2 e b hb hqb⟩
    · exact ⟨by omega, fun e => by omega⟩
    · rw [ha hp] at hq; cases hq
    · exact ⟨by omega, fun e b hb hqb => by
        rcases List.mem_cons.1 hb with rfl | hb
        · exact hp
        · exact h2 (by omega) b hb hqb⟩
theorem pop_or {x y : Nat} (hx : x < 1024) (hy : y < 1024) (h : ∀ j, x.testBit j = true → y.testBit j = true) : pop x ≤ pop y ∧ (pop x = pop y → x = y) := by
  rw [← len_pop x hx, ← len_pop y hy]
  obtain ⟨h1, h2⟩ := count_le (p := x.testBit) (q := y.testBit) (List.range 16) fun a _ => h a
  refine ⟨h1, fun e => Nat.eq_of_testBit_eq fun j => ?_⟩
  by_cases hj : j < 16
  · rw [Bool.eq_iff_iff]
    exact ⟨h j, h2 e j (List.mem_range.2 hj)⟩
  · have e : ∀ z, z < 1024 → z.testBit j = false := fun z hz => Nat.testBit_lt_two_pow (Nat.lt_of_lt_of_le hz (Nat.le_trans (by decide : 1024 ≤ 2 ^ 10) (Nat.pow_le_pow_right (by decide) (by omega))))
    rw [e x hx, e y hy]
theorem pops_le : ∀ (A B : List Nat), A.length = B.length → (∀ x ∈ A, x < 1024) → (∀ x ∈ B, x < 1024) → (∀ i j, (A.getD i 0).testBit j = true → (B.getD i 0).testBit j = true) → popSum A ≤ popSum B ∧ (popSum A = popSum B → A = B)
  | [], [], _, _, _, _ => ⟨Nat.le_refl _, fun _ => rfl⟩
  | [], b :: B, h, _, _, _ => by simp at h
  | a :: A, [], h, _, _, _ => by simp at h
  | a :: A, b :: B, h, hA, hB, hb => by
    obtain ⟨h1, h2⟩ := pops_le A B (by simpa using h) (fun x hx => hA x (List.mem_cons_of_mem _ hx)) (fun x hx => hB x (List.mem_cons_of_mem _ hx)) fun i j => hb (i + 1) j
    obtain ⟨k1, k2⟩ := pop_or (hA a List.mem_cons_self) (hB b List.mem_cons_self) (hb 0)
    simp only [popSum, List.map_cons, List.sum_cons] at h1 h2 ⊢
    exact ⟨by omega, fun e => by rw [k2 (by omega), h2 (by omega)]⟩
theorem lrn_or {n : Nat} (hn : n ≤ 10) {M : List (Nat × Nat)} (hr : InN n M) {k : Nat} (hk : k < M.length) : 0 ≤ lrn n M k ∧ (lrn n M k = 0 → playC n (M.take k) = playC n (M.take (k + 1))) := by
  obtain ⟨h1, h2⟩ := pops_le (playC n (M.take k)) (playC n (M.take (k + 1))) (by rw [playC_len hn, playC_len hn]) (pl1024 hn) (pl1024 hn) fun i j h => by
    by_cases hi : i < n
    · rw [bit_playC hn _ (hr.take k) i j hi] at h
      rw [bit_playC hn _ (hr.take (k + 1)) i j hi, List.take_succ_eq_append_getElem hk]
      exact Gs.K_app _ _ h
    · rw [List.getD_eq_getElem?_getD, List.getElem?_eq_none (by rw [playC_len hn]; omega)] at h
      simp at h
  unfold lrn
  exact ⟨by omega, fun e => h2 (by omega)⟩
theorem less_same {n : Nat} {M : List (Nat × Nat)} {k : Nat} (h : playC n (M.take k) = playC n (M.take (k + 1))) : playC n (less M k) = playC n M := by
  unfold less
  rw [List.eraseIdx_eq_take_drop_succ]
  have e : playC n M = List.foldl stepC (playC n (M.take (k + 1))) (M.drop (k + 1)) := by
    unfold playC; rw [← List.foldl_append, List.take_append_drop]
  rw [e, ← h]
  unfold playC; rw [List.foldl_append]
theorem pop_start : ∀ n, n < 11 → popSum (sN n) = n := by decide +kernel
/-- How many news are known behind k calls. -/
def lk (n : Nat) (M : List (Nat × Nat)) (k : Nat) : Nat := popSum (playC n (M.take k))
theorem lk_0 {n : Nat} (hn : n ≤ 10) (M : List (Nat × Nat)) : lk n M 0 = n := by unfold lk; rw [List.take_zero]; exact pop_start n (by omega)
theorem lk_succ {n : Nat} (hn : n ≤ 10) (M : List (Nat × Nat)) (k : Nat) : IntKind.i64.wrap ((lk n M k : Int) + lrn n M k) = (lk n M (k + 1) : Nat) := by
  have h1 := popS_le hn (M.take k)
  have h2 := popS_le hn (M.take (k + 1))
  unfold lk lrn
  rw [IntKind.wrap_i64]; omega
/-- How many news the first i friends know. -/
def sk (B : List Nat) (i : Nat) : Nat := popSum (B.take i)
theorem sk_0 (B : List Nat) : sk B 0 = 0 := rfl
theorem sk_all (B : List Nat) : sk B B.length = popSum B := by unfold sk; rw [List.take_length]
theorem sk_succ {B : List Nat} (hB : B.length ≤ 10) {i : Nat} (hi : i < B.length) (hx : ∀ x ∈ B, x < 1024) : IntKind.i64.wrap ((sk B i : Int) + ((bitsOf B[i]).length : Int)) = (sk B (i + 1) : Nat) := by
  have h1 := popSum_le (B.take i)
  have h2 := List.length_take_le i B
  have h3 := len_pop B[i] (hx _ (List.getElem_mem hi))
  have h4 := pop_le B[i]
  have e : sk B (i + 1) = sk B i + pop B[i] := by
    unfold sk popSum
    rw [List.take_succ_eq_append_getElem hi, List.map_append, List.sum_append]; simp
  rw [h3, e]
  unfold sk at *
  rw [IntKind.wrap_i64]; omega
theorem nd_before {N : Nat} {p : Nat → Bool} {k : Nat} (h : k < ndI (nd N p)) : p k = false := by
  unfold nd ndI at h
  cases hf : (List.range (N + 1)).find? p with
  | none => rw [hf] at h; simp at h
  | some r =>
    rw [hf] at h
    simp only [Option.getD_some] at h
    have h2 := List.mem_of_find?_eq_some hf
    have hr := List.mem_range.1 h2
    obtain ⟨_, l1, l2, e, hno⟩ := List.find?_eq_some_iff_append.1 hf
    have hlen : l1.length = r := by
      have e1 : (List.range (N + 1))[l1.length]? = some r := by rw [e]; simp
      rw [List.getElem?_range (by have := congrArg List.length e; simp at this; omega)] at e1
      exact Option.some.inj e1
    have e2 : (List.range (N + 1))[k]? = some k := List.getElem?_range (by omega)
    rw [e, List.getElem?_append_left (by omega)] at e2
    have := hno k (List.mem_of_getElem? e2)
    simpa using this
end T

