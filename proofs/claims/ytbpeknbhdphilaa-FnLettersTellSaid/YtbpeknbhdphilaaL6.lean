/- The plain law of letters, and the law's tail. No conditions. -/
import Derived.Test.YtbpeknbhdphilaaL5
import Derived.Test.YtbpeknbhdphilaaL1
open Go Go.Am
namespace T
open Go.Proofs
set_option maxRecDepth 100000
set_option maxHeartbeats 4000000
set_option linter.unusedSimpArgs false
set_option linter.unusedVariables false
variable {base : Nat} {H : Heap}
theorem frn_c {args : List Value} : cal C base 16 args H = back16 args H := by
  cases h : back16 args H with
  | none =>
    cases h2 : cal C base 16 args H with
    | none => rfl
    | some r =>
      obtain ⟨k, hk⟩ := cal_run.1 h2
      cases k with
      | zero => simp [run] at hk
      | succ k =>
        have e : run C (k + 1) base 16 args H = back16 args H := rfl
        rw [e, h] at hk; cases hk
  | some r => exact cal_run.2 ⟨1, h⟩
theorem backI_c {n : Int} {s : Value} {L : List (Int × Int)} (hs : SL H s L) (hL : L.length < 1000) : cal C base 16 [gi n, s] H = if areL n L then some (.tuple #[.slice (some ⟨H.length, 0, some 2⟩) L.length L.length, bo true], H ++ [some (66, lc (backL L))]) else some (.tuple #[.slice none 0 0, bo false], H) := by
  rw [frn_c]
  unfold back16
  simp only [hs.cells, Option.bind_some, pairs_lc, if_pos hL]
-- frames that are not written out
def Hs : List (Nat × Value) → Env → Prop
  | [], ρ => List.length ρ = 493
  | (i, v) :: l, ρ => ρ.getD i undef = v ∧ Hs l ρ
theorem Hs.len : ∀ {l : List (Nat × Value)} {ρ : Env}, Hs l ρ → List.length ρ = 493
  | [], _, h => h
  | _ :: _, _, h => Hs.len h.2
theorem gs {ρ : Env} {i j : Nat} {v u : Value} : (List.set ρ i v).getD j u = if i = j then (if i < List.length ρ then v else ρ.getD j u) else ρ.getD j u := by
  rw [List.getD_eq_getElem?_getD, List.getD_eq_getElem?_getD, List.getElem?_set]
  by_cases h : i = j
  · subst h
    by_cases h2 : i < List.length ρ
    · simp [h2]
    · simp [h2]
  · simp [h]
section
variable {call : Nat → CallF} {n m0 : Nat} {ρ E : Env} {k : List It} {a b c : Code} {f : FuncId} {res : List ResultVar} {ks : List Tmp} {Q : Value → Heap → Prop}
theorem sqk (h : ∀ K, K = .code b :: k → Ok (run1 C call n base f m0 res (fin C call n base K (exec C call n base a ρ H))) Q) : Ok (run1 C call n base f m0 res (fin C call n base (.code (.seq a b) :: k) (some (.normal, ρ, H)))) Q := by
  rw [fin_code, fin_seq]; exact h _ rfl
theorem sq2 (h : ∀ K, K = .code b :: k → Ok (run1 C call n base f m0 res (fin C call n base K (exec C call n base a ρ H))) Q) : Ok (run1 C call n base f m0 res (fin C call n base k (exec C call n base (.seq a b) ρ H))) Q := by
  rw [fin_seq]; exact h _ rfl
theorem cdk (h : Ok (run1 C call n base f m0 res (fin C call n base k (exec C call n base c ρ H))) Q) : Ok (run1 C call n base f m0 res (fin C call n base (.code c :: k) (some (.normal, ρ, H)))) Q := by
  rw [fin_code]; exact h
theorem env_gen (l : List (Nat × Value)) (hP : Hs l E) (h : ∀ ρ, Hs l ρ → Ok (run1 C call n base f m0 res (fin C call n base k (some (.normal, ρ, H)))) Q) : Ok (run1 C call n base f m0 res (fin C call n base k (some (.normal, E, H)))) Q := h E hP
theorem lp_env (I : Nat → Env → Heap → Prop) (step : ∀ (j m : Nat) (ρ : Env) (H : Heap), I j ρ H → (∀ (j' : Nat) (ρ' : Env) (H' : Heap), j' < j → I j' ρ' H' → Ok (run1 C call n base f m0 res (fin C call n base (.lp c ks m :: k) (some (.normal, ρ', H')))) Q) →
      Ok (run1 C call n base f m0 res (fin C call n base (.code c :: .lp c ks m :: k) (some (.normal, wipe ks ρ, H)))) Q) (j : Nat)
    {m : Nat} (hm : j < m) (h : I j ρ H) : Ok (run1 C call n base f m0 res (fin C call n base (.lp c ks m :: k) (some (.normal, ρ, H)))) Q := by
  have key : ∀ (j : Nat) (ρ' : Env) (H : Heap) (m : Nat), j < m → I j ρ' H → Ok (run1 C call n base f m0 res (fin C call n base (.lp c ks m :: k) (some (.normal, ρ', H)))) Q := by
    intro j
    induction j using Nat.strongRecOn with
    | _ j ih =>
      intro ρ' H m hm h
      obtain ⟨m, rfl⟩ : ∃ m', m = m' + 1 := ⟨m - 1, by omega⟩
      rw [fin_lp]
      exact step j m ρ' H h fun j' ρ'' H' hj h' => ih j' hj ρ'' H' m (by omega) h'
  exact key j ρ H m hm h
theorem wipe_len : ∀ (ks : List Tmp) (ρ : Env), List.length (wipe ks ρ) = List.length ρ
  | [], _ => rfl
  | i :: ks, ρ => by rw [wipe_cons, wipe_len ks]; simp
theorem wipe_get {i : Nat} {u : Value} : ∀ {ks : List Tmp} {ρ : Env}, ¬ i ∈ ks → (wipe ks ρ).getD i u = ρ.getD i u
  | [], _, _ => rfl
  | j :: ks, ρ, h => by
    rw [wipe_cons, wipe_get (fun e => h (List.mem_cons_of_mem _ e)), gs, if_neg (fun e => h (by rw [e]; exact List.mem_cons_self))]
theorem Hs.wipe' {ks : List Tmp} : ∀ {l : List (Nat × Value)} {ρ : Env}, Hs l ρ → (∀ p ∈ l, ¬ p.1 ∈ ks) → Hs l (Am.wipe ks ρ)
  | [], ρ, h, _ => (wipe_len ks ρ).trans h
  | (i, v) :: l, ρ, h, hk => ⟨(wipe_get (hk (i, v) List.mem_cons_self)).trans h.1, Hs.wipe' h.2 fun p hp => hk p (List.mem_cons_of_mem _ hp)⟩
theorem Hs.wipe {ks : List Tmp} {l : List (Nat × Value)} {ρ : Env} (h : Hs l ρ) (hk : (l.all fun p => !(ks.contains p.1)) = true) : Hs l (Am.wipe ks ρ) :=
  h.wipe' fun p hp hm => by
    have := List.all_eq_true.1 hk p hp
    simp at this
    exact this hm
end
end T

/- The plain law of letters: what words of bits say of who knows what. No conditions. -/
open Go Go.Am
namespace T
set_option linter.unusedVariables false
set_option linter.unusedSimpArgs false
/-- What friends know, as a relation: behind one letter. -/
def stepK (K : Nat → Nat → Prop) (l : Nat × Nat) : Nat → Nat → Prop := fun x j => K x j ∨ (x = l.2 ∧ K l.1 j)
def runK (L : List (Nat × Nat)) : Nat → Nat → Prop := L.foldl stepK (fun x j => x = j)
theorem snocI {P : List (Nat × Nat) → Prop} (h0 : P []) (h1 : ∀ L l, P L → P (L ++ [l])) (L : List (Nat × Nat)) : P L := by
  have h : ∀ M : List (Nat × Nat), P M.reverse := by
    intro M
    induction M with
    | nil => exact h0
    | cons l M ih => rw [List.reverse_cons]; exact h1 _ _ ih
  have := h L.reverse
  rwa [List.reverse_reverse] at this
theorem runK_snoc (L : List (Nat × Nat)) (l : Nat × Nat) : runK (L ++ [l]) = stepK (runK L) l := by
  unfold runK; rw [List.foldl_append]; rfl
theorem runK_from (L : List (Nat × Nat)) : ∀ (K : Nat → Nat → Prop) (x j : Nat), L.foldl stepK K x j ↔ ∃ y, runK L x y ∧ K y j := by
  refine snocI (P := fun L => ∀ (K : Nat → Nat → Prop) (x j : Nat), L.foldl stepK K x j ↔ ∃ y, runK L x y ∧ K y j) ?_ ?_ L
  · intro K x j; exact ⟨fun h => ⟨x, rfl, h⟩, fun ⟨y, hy, h⟩ => by cases hy; exact h⟩
  · intro L l ih K x j
    rw [List.foldl_append, runK_snoc]
    show (L.foldl stepK K x j ∨ (x = l.2 ∧ L.foldl stepK K l.1 j)) ↔ _
    rw [ih, ih]
    constructor
    · rintro (⟨y, h, k⟩ | ⟨e, y, h, k⟩)
      · exact ⟨y, .inl h, k⟩
      · exact ⟨y, .inr ⟨e, h⟩, k⟩
    · rintro ⟨y, h | ⟨e, h⟩, k⟩
      · exact .inl ⟨y, h, k⟩
      · exact .inr ⟨e, y, h, k⟩
theorem runK_cons (l : Nat × Nat) (L : List (Nat × Nat)) (x j : Nat) : runK (l :: L) x j ↔ (runK L x j ∨ (j = l.1 ∧ runK L x l.2)) := by
  show L.foldl stepK (stepK (fun x j => x = j) l) x j ↔ _
  rw [runK_from]
  constructor
  · rintro ⟨y, h, e | ⟨e, f⟩⟩
    · cases e; exact .inl h
    · subst e; exact .inr ⟨f.symm, h⟩
  · rintro (h | ⟨e, h⟩)
    · exact ⟨j, h, .inl rfl⟩
    · exact ⟨l.2, h, .inr ⟨rfl, e.symm⟩⟩
/-- The letters the other way round tell the other way round. -/
theorem runK_back (L : List (Nat × Nat)) (x j : Nat) : runK (L.reverse.map fun l => (l.2, l.1)) j x ↔ runK L x j := by
  induction L generalizing x j with
  | nil => exact ⟨fun h => Eq.symm h, fun h => Eq.symm h⟩
  | cons l L ih =>
    rw [List.reverse_cons, List.map_append, List.map_cons, List.map_nil, runK_snoc, runK_cons]
    show (runK _ j x ∨ (j = l.1 ∧ runK _ l.2 x)) ↔ _
    rw [ih, ih]
theorem runK_self (L : List (Nat × Nat)) (x : Nat) : runK L x x := by
  refine snocI (P := fun L => runK L x x) rfl ?_ L
  intro L l ih; rw [runK_snoc]; exact .inl ih
/-- What some friends know together stood with so few at first. -/
theorem runK_few (L : List (Nat × Nat)) : ∀ S : List Nat, ∃ T : List Nat, T.length ≤ S.length + L.length ∧ ∀ x ∈ S, ∀ j, runK L x j → j ∈ T := by
  refine snocI (P := fun L => ∀ S : List Nat, ∃ T : List Nat, T.length ≤ S.length + L.length ∧ ∀ x ∈ S, ∀ j, runK L x j → j ∈ T) ?_ ?_ L
  · intro S; exact ⟨S, Nat.le_refl _, fun x hx j h => by cases h; exact hx⟩
  · intro L l ih S
    obtain ⟨T, hT, hh⟩ := ih (l.1 :: S)
    refine ⟨T, ?_, fun x hx j h => ?_⟩
    · rw [List.length_append]; rw [List.length_cons] at hT
      show T.length ≤ S.length + (L.length + 1); omega
    · rw [runK_snoc] at h
      rcases h with h | ⟨_, h⟩
      · exact hh x (List.mem_cons_of_mem _ hx) j h
      · exact hh l.1 List.mem_cons_self j h
theorem coverN (n : Nat) : ∀ T : List Nat, (∀ j, j < n → j ∈ T) → n ≤ T.length := by
  induction n with
  | zero => intro T _; exact Nat.zero_le _
  | succ n ih =>
    intro T h
    have hn := h n (Nat.lt_succ_self n)
    have := ih (T.erase n) fun j hj => (List.mem_erase_of_ne (by omega)).mpr (h j (by omega))
    rw [List.length_erase_of_mem hn] at this
    have : 0 < T.length := List.length_pos_of_mem hn
    omega
def Full (n : Nat) (L : List (Nat × Nat)) (x : Nat) : Prop := ∀ j, j < n → runK L x j
theorem full_far {n : Nat} {L : List (Nat × Nat)} {x : Nat} (h : Full n L x) : n ≤ L.length + 1 := by
  obtain ⟨T, hT, hh⟩ := runK_few L [x]
  have := coverN n T fun j hj => hh x List.mem_cons_self j (h j hj)
  rw [List.length_singleton] at hT
  omega
theorem full_count (n : Nat) (L : List (Nat × Nat)) : (∀ x, x < n → ¬ Full n L x) ∨ ∃ F : List Nat, F.length + n ≤ L.length + 2 ∧ ∀ x, x < n → Full n L x → x ∈ F := by
  refine snocI (P := fun L => (∀ x, x < n → ¬ Full n L x) ∨ ∃ F : List Nat, F.length + n ≤ L.length + 2 ∧ ∀ x, x < n → Full n L x → x ∈ F) ?_ ?_ L
  · by_cases h : ∃ x, x < n ∧ Full n [] x
    · obtain ⟨x, hx, h⟩ := h
      have := full_far h
      refine .inr ⟨[0], ?_, fun y hy _ => ?_⟩
      · simp at this ⊢; omega
      · simp at this ⊢; omega
    · exact .inl fun x hx hf => h ⟨x, hx, hf⟩
  · intro L l ih
    have key : ∀ x, Full n (L ++ [l]) x → x ≠ l.2 → Full n L x := by
      intro x h hne j hj
      have := h j hj
      rw [runK_snoc] at this
      rcases this with h | ⟨e, _⟩
      · exact h
      · exact absurd e hne
    rcases ih with h0 | ⟨F, hF, hh⟩
    · by_cases h : ∃ x, x < n ∧ Full n (L ++ [l]) x
      · obtain ⟨x, hx, h⟩ := h
        have := full_far h
        rw [List.length_append, List.length_singleton] at this
        refine .inr ⟨[l.2], ?_, fun y hy hf => ?_⟩
        · rw [List.length_append, List.length_singleton, List.length_singleton]; omega
        · by_cases e : y = l.2
          · rw [e]; exact List.mem_cons_self
          · exact absurd (key y hf e) (h0 y hy)
      · exact .inl fun x hx hf => h ⟨x, hx, hf⟩
    · refine .inr ⟨l.2 :: F, ?_, fun y hy hf => ?_⟩
      · rw [List.length_cons, List.length_append, List.length_singleton]; omega
      · by_cases e : y = l.2
        · rw [e]; exact List.mem_cons_self
        · exact List.mem_cons_of_mem _ (hh y hy (key y hf e))
/-- All know all by 2(n-1) letters at least. -/
theorem full_least (n : Nat) (L : List (Nat × Nat)) (h : ∀ x, x < n → Full n L x) : 2 * (n - 1) ≤ L.length := by
  by_cases hn : n = 0
  · subst hn; exact Nat.zero_le _
  rcases full_count n L with h0 | ⟨F, hF, hh⟩
  · exact absurd (h 0 (by omega)) (h0 0 (by omega))
  · have := coverN n F fun j hj => hh j hj (h j hj)
    omega
/-- Two letters are a call. -/
theorem runK_mono (L : List (Nat × Nat)) (l : Nat × Nat) {x j : Nat} (h : runK L x j) : runK (L ++ [l]) x j := by rw [runK_snoc]; exact .inl h
-- words of bits
theorem stepP_len (B : List Nat) (l : Nat × Nat) : (stepP B l).length = B.length := by simp [stepP]
theorem play_len (n : Nat) (M : List (Nat × Nat)) : (play n M).length = n := by
  refine snocI (P := fun M => (play n M).length = n) ?_ ?_ M
  · simp [play, sN]
  · intro L l ih
    show (List.foldl stepP (sN n) (L ++ [l])).length = n
    rw [List.foldl_append]; exact (stepP_len _ _).trans ih
theorem play_app (n : Nat) (L : List (Nat × Nat)) (l : Nat × Nat) : play n (L ++ [l]) = stepP (play n L) l := by
  unfold play; rw [List.foldl_append]; rfl
theorem getD_set {B : List Nat} {i j v : Nat} (hi : i < B.length) : (B.set i v).getD j 0 = if j = i then v else B.getD j 0 := by
  rw [List.getD_eq_getElem?_getD, List.getD_eq_getElem?_getD, List.getElem?_set]
  by_cases h : i = j
  · subst h; simp [hi]
  · rw [if_neg h, if_neg (fun e => h e.symm)]
/-- Letters of so many friends. -/
def InN (n : Nat) (M : List (Nat × Nat)) : Prop := ∀ l ∈ M, l.1 < n ∧ l.2 < n
theorem bit_play {n : Nat} (M : List (Nat × Nat)) : InN n M → ∀ x j, x < n → (((play n M).getD x 0).testBit j = true ↔ runK M x j) := by
  refine snocI (P := fun M => InN n M → ∀ x j, x < n → (((play n M).getD x 0).testBit j = true ↔ runK M x j)) ?_ ?_ M
  · intro _ x j hx
    have : (play n []).getD x 0 = 2 ^ x := by
      show (sN n).getD x 0 = _
      rw [List.getD_eq_getElem?_getD]; simp [sN, hx]
    rw [this, Nat.testBit_two_pow]
    exact ⟨fun h => (show x = j by simpa using h), fun h => by have h : x = j := h; simp [h]⟩
  · intro L l ih hr x j hx
    have hr' : InN n L := fun q hq => hr q (List.mem_append_left _ hq)
    obtain ⟨h1, h2⟩ := hr l (List.mem_append_right _ List.mem_cons_self)
    rw [play_app, runK_snoc]
    unfold stepP
    rw [getD_set (by rw [play_len]; exact h2)]
    show _ ↔ (runK L x j ∨ (x = l.2 ∧ runK L l.1 j))
    by_cases e : x = l.2
    · subst e
      rw [if_pos rfl, Nat.testBit_or, Bool.or_eq_true, ih hr' _ j h2, ih hr' _ j h1]
      exact ⟨fun h => h.imp id fun h => ⟨rfl, h⟩, fun h => h.imp id fun h => h.2⟩
    · rw [if_neg e, ih hr' x j hx]
      exact ⟨.inl, fun h => h.elim id fun h => absurd h.1 e⟩
theorem getD_of {B : List Nat} {i : Nat} (h : i < B.length) : B.getD i 0 = B[i] := by simp [h]
theorem ext_words {n : Nat} (hn : n ≤ 10) {A B : List Nat} (hA : A.length = n) (hB : B.length = n) (hA2 : ∀ x ∈ A, x < 2 ^ n) (hB2 : ∀ x ∈ B, x < 2 ^ n) (h : ∀ x j, x < n → j < n → ((A.getD x 0).testBit j = true ↔ (B.getD x 0).testBit j = true)) : A = B := by
  refine List.ext_getElem (hA.trans hB.symm) fun i h1 h2 => ?_
  refine Nat.eq_of_testBit_eq fun j => ?_
  by_cases hj : j < n
  · have := h i j (by omega) hj
    rw [getD_of h1, getD_of h2] at this
    exact Bool.eq_iff_iff.2 this
  · have a := hA2 _ (List.getElem_mem h1)
    have b := hB2 _ (List.getElem_mem h2)
    rw [Nat.testBit_lt_two_pow (Nat.lt_of_lt_of_le a (Nat.pow_le_pow_right (by decide) (by omega))), Nat.testBit_lt_two_pow (Nat.lt_of_lt_of_le b (Nat.pow_le_pow_right (by decide) (by omega)))]
theorem full_word {n x : Nat} (hx : x < 2 ^ n) : x = 2 ^ n - 1 ↔ ∀ j, j < n → x.testBit j = true := by
  constructor
  · rintro rfl j hj; rw [Nat.testBit_two_pow_sub_one]; exact decide_eq_true hj
  · intro h
    refine Nat.eq_of_testBit_eq fun j => ?_
    rw [Nat.testBit_two_pow_sub_one]
    by_cases hj : j < n
    · rw [h j hj, decide_eq_true hj]
    · rw [decide_eq_false hj]
      exact Nat.testBit_lt_two_pow (Nat.lt_of_lt_of_le hx (Nat.pow_le_pow_right (by decide) (by omega)))
/-- Do all know all? -/
theorem full_iff {n : Nat} {B : List Nat} (hB2 : ∀ x ∈ B, x < 2 ^ n) (hB : B.length = n) : full n B = true ↔ ∀ x j, x < n → j < n → (B.getD x 0).testBit j = true := by
  unfold full
  rw [List.all_eq_true]
  constructor
  · intro h x j hx hj
    have hm : B[x]'(by omega) ∈ B := List.getElem_mem _
    rw [getD_of (by omega)]
    exact (full_word (hB2 _ hm)).1 (beq_iff_eq.1 (h _ hm)) j hj
  · intro h x hx
    obtain ⟨i, hi, rfl⟩ := List.getElem_of_mem hx
    rw [beq_iff_eq, full_word (hB2 _ hx)]
    intro j hj
    have := h i j (by omega) hj
    rwa [getD_of hi] at this
theorem pop_full : ∀ n, n < 11 → ∀ x, x < 2 ^ n → pop x ≤ n ∧ (pop x = n → x = 2 ^ n - 1) ∧ pop (2 ^ n - 1) = n := by decide +kernel
theorem sum_rep (k n : Nat) : (List.replicate k n).sum = k * n := by
  induction k with
  | zero => simp
  | succ k ih => rw [List.replicate_succ, List.sum_cons, ih, Nat.succ_mul]; omega
theorem sum_full {n : Nat} : ∀ {l : List Nat}, (∀ x ∈ l, x ≤ n) → l.sum ≤ l.length * n ∧ (l.sum = l.length * n → ∀ x ∈ l, x = n)
  | [], _ => ⟨by simp, fun _ x hx => by simp at hx⟩
  | a :: l, h => by
    obtain ⟨h1, h2⟩ := sum_full (l := l) fun x hx => h x (List.mem_cons_of_mem _ hx)
    have ha := h a List.mem_cons_self
    rw [List.sum_cons, List.length_cons, Nat.succ_mul]
    refine ⟨by omega, fun e x hx => ?_⟩
    rcases List.mem_cons.1 hx with rfl | hx
    · omega
    · exact h2 (by omega) x hx
theorem allK_full {n : Nat} (hn : n ≤ 10) {B : List Nat} (hB2 : ∀ x ∈ B, x < 2 ^ n) (hB : B.length = n) : allK B = full n B := by
  rw [Bool.eq_iff_iff]
  unfold allK popSum full
  rw [beq_iff_eq, List.all_eq_true]
  have hle : ∀ y ∈ B.map pop, y ≤ n := fun y hy => by
    obtain ⟨x, hx, rfl⟩ := List.mem_map.1 hy
    exact (pop_full n (by omega) x (hB2 x hx)).1
  obtain ⟨s1, s2⟩ := sum_full hle
  rw [List.length_map, hB] at s1 s2
  rw [hB]
  constructor
  · intro e x hx
    rw [beq_iff_eq]
    exact (pop_full n (by omega) x (hB2 x hx)).2.1 (s2 e _ (List.mem_map_of_mem hx))
  · intro h
    have : B.map pop = List.replicate n n := by
      refine List.eq_replicate_iff.2 ⟨by simp [hB], fun y hy => ?_⟩
      obtain ⟨x, hx, rfl⟩ := List.mem_map.1 hy
      have e := beq_iff_eq.1 (h x hx)
      rw [e]; exact (pop_full n (by omega) x (hB2 x hx)).2.2
    rw [this, sum_rep]
end T

/- The plain law of letters: the rest. No conditions. -/
open Go Go.Am
namespace T
set_option linter.unusedVariables false
set_option linter.unusedSimpArgs false
theorem InN.take {n : Nat} {M : List (Nat × Nat)} (h : InN n M) (k : Nat) : InN n (M.take k) := fun l hl => h l (List.mem_of_mem_take hl)
theorem InN.less {n : Nat} {M : List (Nat × Nat)} (h : InN n M) (k : Nat) : InN n (less M k) := fun l hl => h l (List.mem_of_mem_eraseIdx hl)
def backN (M : List (Nat × Nat)) : List (Nat × Nat) := M.reverse.map fun l => (l.2, l.1)
theorem backN_len (M : List (Nat × Nat)) : (backN M).length = M.length := by simp [backN]
theorem InN.back {n : Nat} {M : List (Nat × Nat)} (h : InN n M) : InN n (backN M) := fun l hl => by
  obtain ⟨q, hq, rfl⟩ := List.mem_map.1 hl
  have := h q (List.mem_reverse.1 hq)
  exact ⟨this.2, this.1⟩
theorem toZ_back (M : List (Nat × Nat)) : toZ (backN M) = backL (toZ M) := by simp [toZ, backN, backL, List.map_reverse]
theorem back_back (L : List (Int × Int)) : backL (backL L) = L := by
  have e : ((fun l : Int × Int => (l.2, l.1)) ∘ fun l : Int × Int => (l.2, l.1)) = id := rfl
  simp [backL, List.map_reverse, e]
theorem allK_play {n : Nat} (hn : n ≤ 10) (M : List (Nat × Nat)) : allK (play n M) = full n (play n M) := allK_full hn (play_ok hn M).2 (play_ok hn M).1
theorem play_full {n : Nat} (hn : n ≤ 10) {M : List (Nat × Nat)} (hr : InN n M) : allK (play n M) = true ↔ ∀ x, x < n → Full n M x := by
  rw [allK_play hn, full_iff (play_ok hn M).2 (play_ok hn M).1]
  exact ⟨fun h x hx j hj => (bit_play M hr x j hx).1 (h x j hx hj), fun h x j hx hj => (bit_play M hr x j hx).2 (h x hx j hj)⟩
theorem runK_app (L : List (Nat × Nat)) (M : List (Nat × Nat)) {x j : Nat} (h : runK L x j) : runK (L ++ M) x j := by
  refine snocI (P := fun M => runK (L ++ M) x j) (by rw [List.append_nil]; exact h) ?_ M
  intro M l ih
  rw [← List.append_assoc]; exact runK_mono _ _ ih
theorem play_mono {n : Nat} (hn : n ≤ 10) {M : List (Nat × Nat)} (hr : InN n M) {k : Nat} (h : allK (play n (M.take k)) = true) : allK (play n M) = true := by
  rw [play_full hn hr]
  rw [play_full hn (hr.take k)] at h
  intro x hx j hj
  have := runK_app (M.take k) (M.drop k) (h x hx j hj)
  rwa [List.take_append_drop] at this
theorem nd_spec {N : Nat} {p : Nat → Bool} (hmono : ∀ k ≤ N, p k = true → p N = true) : ndB (nd N p) = p N := by
  cases h : p N
  · have : nd N p = none := nd_none fun k hk => by
      cases hk2 : p k
      · rfl
      · rw [hmono k hk hk2] at h; cases h
    rw [this]; rfl
  · unfold nd ndB
    rw [List.find?_isSome]
    exact ⟨N, List.mem_range.2 (by omega), h⟩
theorem nd_get {N : Nat} {p : Nat → Bool} (h : ndB (nd N p) = true) : ndI (nd N p) ≤ N ∧ p (ndI (nd N p)) = true := by
  unfold ndB at h
  obtain ⟨r, hr⟩ := Option.isSome_iff_exists.1 h
  rw [hr]
  have h1 := List.find?_some hr
  have h2 := List.mem_of_find?_eq_some hr
  exact ⟨by have := List.mem_range.1 h2; simp only [ndI, Option.getD_some]; omega, h1⟩
theorem least_need {n : Nat} (hn : n ≤ 10) {M : List (Nat × Nat)} (hr : InN n M) {r : Nat} (h : allK (play n (M.take r)) = true) : 2 * (n - 1) ≤ r := by
  rw [play_full hn (hr.take r)] at h
  have := full_least n _ h
  rw [List.length_take] at this; omega
theorem rises_pw {l : List Nat} (h : l.Pairwise (· < ·)) : rises l = true := by
  unfold rises
  rw [List.all_eq_true]
  intro i hi
  have hi := List.mem_range.1 hi
  rw [decide_eq_true_eq, getD_of (by omega), getD_of (by omega)]
  exact List.pairwise_iff_getElem.1 h i (i + 1) (by omega) (by omega) (by omega)
theorem range_pw (n : Nat) : (List.range n).Pairwise (· < ·) := List.pairwise_lt_range
theorem rises_idx (N : Nat) (p : Nat → Bool) : rises (idx N p) = true := rises_pw ((range_pw N).filter p)
theorem rises_bits (x : Nat) : rises (bitsOf x) = true := rises_pw ((range_pw 16).filter _)
theorem mem_idx {N k : Nat} {p : Nat → Bool} : k ∈ idx N p ↔ k < N ∧ p k = true := by unfold idx; rw [List.mem_filter, List.mem_range]
theorem mem_bits {x j : Nat} : j ∈ bitsOf x ↔ j < 16 ∧ x.testBit j = true := by unfold bitsOf bitsTo; rw [List.mem_filter, List.mem_range]
theorem bits_inj {x y : Nat} (hx : x < 65536) (hy : y < 65536) (h : bitsOf x = bitsOf y) : x = y := by
  refine Nat.eq_of_testBit_eq fun j => ?_
  by_cases hj : j < 16
  · have : (j ∈ bitsOf x) ↔ (j ∈ bitsOf y) := by rw [h]
    rw [mem_bits, mem_bits] at this
    rw [Bool.eq_iff_iff]
    exact ⟨fun k => (this.1 ⟨hj, k⟩).2, fun k => (this.2 ⟨hj, k⟩).2⟩
  · have e : ∀ z, z < 65536 → z.testBit j = false := fun z hz => Nat.testBit_lt_two_pow (Nat.lt_of_lt_of_le hz (Nat.le_trans (by decide : 65536 ≤ 2 ^ 16) (Nat.pow_le_pow_right (by decide) (by omega))))
    rw [e x hx, e y hy]
theorem map_bits {A B : List Nat} (hA : ∀ x ∈ A, x < 65536) (hB : ∀ x ∈ B, x < 65536) : (A.map bitsOf == B.map bitsOf) = (A == B) := by
  rw [Bool.eq_iff_iff, beq_iff_eq, beq_iff_eq]
  refine ⟨fun h => ?_, fun h => by rw [h]⟩
  have hl : A.length = B.length := by have := congrArg List.length h; simpa using this
  refine List.ext_getElem hl fun i h1 h2 => ?_
  have e : (A.map bitsOf)[i]'(by simpa using h1) = (B.map bitsOf)[i]'(by simpa using h2) := by simp only [h]
  rw [List.getElem_map, List.getElem_map] at e
  exact bits_inj (hA _ (List.getElem_mem h1)) (hB _ (List.getElem_mem h2)) e
theorem len_full : ∀ n, n < 11 → (bitsOf (2 ^ n - 1)).length = n := by decide +kernel
theorem row_full {n : Nat} (hn : n ≤ 10) {M : List (Nat × Nat)} (h : allK (play n M) = true) {i : Nat} (hi : i < (play n M).length) : (bitsOf (play n M)[i]).length = n := by
  rw [allK_play hn] at h
  unfold full at h
  rw [List.all_eq_true] at h
  rw [beq_iff_eq.1 (h _ (List.getElem_mem hi))]
  exact len_full n (by omega)
theorem self_bit {n : Nat} (hn : n ≤ 10) {M : List (Nat × Nat)} (hr : InN n M) {i : Nat} (hi : i < (play n M).length) : i ∈ bitsOf (play n M)[i] := by
  have hin : i < n := by rw [play_len] at hi; exact hi
  rw [mem_bits, ← getD_of hi]
  exact ⟨by omega, (bit_play M hr i i hin).2 (runK_self M i)⟩
theorem turned {n : Nat} (hn : n ≤ 10) {M : List (Nat × Nat)} (hr : InN n M) {i j : Nat} (hi : i < (play n M).length) (hj : j < (play n (backN M)).length) : j ∈ bitsOf (play n M)[i] ↔ i ∈ bitsOf (play n (backN M))[j] := by
  have hin : i < n := by rw [play_len] at hi; exact hi
  have hjn : j < n := by rw [play_len] at hj; exact hj
  rw [mem_bits, mem_bits, ← getD_of hi, ← getD_of hj, bit_play M hr i j hin, bit_play _ hr.back j i hjn]
  have := runK_back M i j
  exact ⟨fun h => ⟨by omega, this.2 h.2⟩, fun h => ⟨by omega, this.1 h.2⟩⟩
-- letters of letters
theorem areL_of {m : Nat} {M : List (Nat × Nat)} (h1 : 0 < m) (h2 : m ≤ 10) (h3 : M.length ≤ 60) (h4 : ∀ l ∈ M, l.1 < m ∧ l.2 < m ∧ l.1 ≠ l.2) : areL (m : Int) (toZ M) = true := by
  simp only [areL, areF, Bool.and_eq_true, decide_eq_true_eq]
  refine ⟨⟨⟨by omega, by omega⟩, by rw [toZ_len]; exact h3⟩, ?_⟩
  rw [List.all_eq_true]
  intro l hl
  obtain ⟨q, hq, rfl⟩ := List.mem_map.1 hl
  obtain ⟨k1, k2, k3⟩ := h4 q hq
  have hw : IntKind.i64.wrap ((m : Int) - 1) = (m : Int) - 1 := by rw [IntKind.wrap_i64]; omega
  simp only [isL, inF, Bool.and_eq_true, decide_eq_true_eq, bne_iff_ne, hw]
  refine ⟨⟨⟨by omega, by omega⟩, by omega, by omega⟩, by omega⟩
/-- Good letters. -/
def Good (n : Nat) (M : List (Nat × Nat)) : Prop := ∀ l ∈ M, l.1 < n ∧ l.2 < n ∧ l.1 ≠ l.2
theorem Good.inN {n : Nat} {M : List (Nat × Nat)} (h : Good n M) : InN n M := fun l hl => ⟨(h l hl).1, (h l hl).2.1⟩
theorem Good.take {n : Nat} {M : List (Nat × Nat)} (h : Good n M) (k : Nat) : Good n (M.take k) := fun l hl => h l (List.mem_of_mem_take hl)
theorem Good.less {n : Nat} {M : List (Nat × Nat)} (h : Good n M) (k : Nat) : Good n (T.less M k) := fun l hl => h l (List.mem_of_mem_eraseIdx hl)
theorem Good.back {n : Nat} {M : List (Nat × Nat)} (h : Good n M) : Good n (backN M) := fun l hl => by
  obtain ⟨q, hq, rfl⟩ := List.mem_map.1 hl
  have := h q (List.mem_reverse.1 hq)
  exact ⟨this.2.1, this.1, this.2.2.symm⟩
-- calls
def callsN (M : List (Nat × Nat)) : List (Nat × Nat) := M.flatMap fun c => [(c.1, c.2), (c.2, c.1)]
theorem toZ_calls (M : List (Nat × Nat)) : toZ (callsN M) = callsL (toZ M) := by
  induction M with
  | nil => rfl
  | cons a l ih => simp only [callsN, toZ, callsL, List.flatMap_cons, List.map_append, List.map_cons, List.map_nil] at ih ⊢; rw [ih]
theorem callsN_len (M : List (Nat × Nat)) : (callsN M).length = 2 * M.length := by
  rw [← toZ_len, toZ_calls, callsL_len, toZ_len]
theorem Good.calls {n : Nat} {M : List (Nat × Nat)} (h : Good n M) : Good n (callsN M) := fun l hl => by
  obtain ⟨q, hq, hl⟩ := List.mem_flatMap.1 hl
  have := h q hq
  rcases List.mem_cons.1 hl with rfl | hl
  · exact this
  · rcases List.mem_cons.1 hl with rfl | hl
    · exact ⟨this.2.1, this.1, this.2.2.symm⟩
    · cases hl
theorem areC_lt {n : Int} {L : List (Int × Int)} (h : areC n L = true) : ∃ (m : Nat) (M : List (Nat × Nat)), n = m ∧ m ≤ 10 ∧ 0 < m ∧ L = toZ M ∧ M.length ≤ 60 ∧ Good m M := by
  simp only [areC, areF, Bool.and_eq_true, decide_eq_true_eq] at h
  obtain ⟨⟨⟨h1, h2⟩, h3⟩, h4⟩ := h
  obtain ⟨m, rfl⟩ := Int.eq_ofNat_of_zero_le (show 0 ≤ n by omega)
  have key : ∀ l ∈ L, 0 ≤ l.1 ∧ l.1 < l.2 ∧ l.2 < (m : Int) := fun l hl => by
    have := List.all_eq_true.1 h4 l hl
    simp only [isC, Bool.and_eq_true, decide_eq_true_eq] at this
    exact ⟨this.1.1, this.1.2, this.2⟩
  refine ⟨m, L.map fun l => (l.1.toNat, l.2.toNat), rfl, by omega, by omega, ?_, by simpa using h3, fun l hl => ?_⟩
  · unfold toZ
    rw [List.map_map]
    have e : List.map ((fun l : Nat × Nat => ((l.1 : Int), (l.2 : Int))) ∘ fun l : Int × Int => (l.1.toNat, l.2.toNat)) L = List.map id L := List.map_congr_left fun l hl => by
      obtain ⟨k1, k2, k3⟩ := key l hl
      show ((l.1.toNat : Int), (l.2.toNat : Int)) = l
      rw [Int.toNat_of_nonneg k1, Int.toNat_of_nonneg (by omega)]
    rw [e, List.map_id]
  · obtain ⟨q, hq, rfl⟩ := List.mem_map.1 hl
    obtain ⟨k1, k2, k3⟩ := key q hq
    refine ⟨?_, ?_, ?_⟩
    · show q.1.toNat < m; omega
    · show q.2.toNat < m; omega
    · show q.1.toNat ≠ q.2.toNat; omega
theorem two_step {B : List Nat} {a b : Nat} (ha : a < B.length) (hb : b < B.length) (hab : a ≠ b) : stepP (stepP B (a, b)) (b, a) = stepC B (a, b) := by
  unfold stepP stepC
  show (B.set b (B.getD b 0 ||| B.getD a 0)).set a ((B.set b (B.getD b 0 ||| B.getD a 0)).getD a 0 ||| (B.set b (B.getD b 0 ||| B.getD a 0)).getD b 0) = (B.set a (B.getD a 0 ||| B.getD b 0)).set b (B.getD a 0 ||| B.getD b 0)
  rw [getD_set hb, getD_set hb, if_neg hab, if_pos rfl, List.set_comm _ _ (Ne.symm hab)]
  have e1 : B.getD a 0 ||| (B.getD b 0 ||| B.getD a 0) = B.getD a 0 ||| B.getD b 0 := by
    rw [Nat.or_comm (B.getD b 0), ← Nat.or_assoc, Nat.or_self]
  rw [e1, Nat.or_comm (B.getD b 0)]
theorem calls_play {n : Nat} (M : List (Nat × Nat)) : Good n M → play n (callsN M) = playC n M := by
  refine snocI (P := fun M => Good n M → play n (callsN M) = playC n M) (fun _ => rfl) ?_ M
  intro L l ih h
  have hl := h l (List.mem_append_right _ List.mem_cons_self)
  have e : callsN (L ++ [l]) = callsN L ++ [(l.1, l.2)] ++ [(l.2, l.1)] := by simp [callsN]
  have e2 : playC n (L ++ [l]) = stepC (playC n L) l := by unfold playC; rw [List.foldl_append]; rfl
  have hlen := play_len n (callsN L)
  rw [e, play_app, play_app, e2, ← ih fun q hq => h q (List.mem_append_left _ hq)]
  exact two_step (by rw [hlen]; exact hl.1) (by rw [hlen]; exact hl.2.1) hl.2.2
end T

open Go Go.Am
namespace T
open Go.Proofs
set_option maxRecDepth 100000
set_option maxHeartbeats 4000000
set_option linter.unusedSimpArgs false
set_option linter.unusedVariables false
variable {base : Nat} {H : Heap}
@[go_sem] theorem bneb {ρ : Env} {d : Option Tmp} {u u' : TypeId} {p : String} {e : Array Edge} {g : Option (Nat × Bool)} {a b : Bool} {x y : Operand} : bin2 C.P ρ ⟨d, .binOp .neq 4 x y u, u', p, e, g⟩ H .neq (.bool a) (.bool b) = some (.bool (a != b), H) := b_neb rfl
def sndN : Nat → Code → Code
  | 0, c => c
  | n + 1, .seq _ b => sndN n b
  | _, c => c
noncomputable def bodyF : Code := (Try.f3.body).getD .skip
noncomputable def tailC : Code := sndN 18 bodyF
theorem tail_ok {ρ : Env} {bb m0 : Nat} {s1 : Value} (f1 : ρ.getD 1 undef = s1) (hl : List.length ρ = 493) (h1 : Bytes H s1) :
    Ok (run1 C (cal C) 1001 bb 3 m0 [.tmp 4] (fin C (cal C) 1001 bb [.code tailC] (some (.normal, ρ, H)))) fun v H' => v = bo true := by
  obtain ⟨v, H1, e26, F, n, t, L, rfl, rfl, hL, ht⟩ := drawC_c (base := bb) h1
  have hs : SL (H ++ F) t L := ht.shows
  generalize H ++ F = H1 at *
  -- region 58
  refine sqk fun K hK => ?_
  simp only [go_sem, gs, List.length_set, hl, f1, e26, reduceIte, Nat.reduceEqDiff, Nat.reduceLT]
  subst hK
  refine env_gen [(51, gi n), (52, t)] ?_ fun ρ' h' => ?_
  · simp only [Hs, gs, List.length_set, hl, reduceIte, Nat.reduceEqDiff, Nat.reduceLT, and_self]
  clear f1 hl ρ e26
  obtain ⟨f51, f52, (hl : List.length ρ' = 493)⟩ := h'
  cases hq : areC n L && decide (2 * L.length ≤ 60)
  · obtain ⟨e27, e28⟩ := lofc_no (base := bb) hs (by omega) hq
    have e20 : cal C bb 20 [.slice none 0 0, .slice none 0 0] H1 = some (bo true, H1) := wLetters_c (B1 := []) (B2 := []) (.inl ⟨rfl, rfl, rfl⟩) (.inl ⟨rfl, rfl, rfl⟩) (by decide) true rfl
    refine sqk fun K hK => ?_
    simp only [go_sem, gs, List.length_set, hl, f51, f52, e27, reduceIte, Nat.reduceEqDiff, Nat.reduceLT]
    subst hK
    refine sqk fun K hK => ?_
    simp only [go_sem, gs, List.length_set, hl, f51, f52, e28, reduceIte, Nat.reduceEqDiff, Nat.reduceLT]
    subst hK
    refine sqk fun K hK => ?_
    simp only [go_sem, gs, List.length_set, hl, f51, f52, e20, reduceIte, Nat.reduceEqDiff, Nat.reduceLT, bne_self_eq_false, Bool.not_true]
    subst hK
    refine sqk fun K hK => ?_
    simp only [go_sem, gs, List.length_set, hl, reduceIte, Nat.reduceEqDiff, Nat.reduceLT]
    subst hK
    simp only [go_sem, gs, List.length_set, hl, reduceIte, Nat.reduceEqDiff, Nat.reduceLT, Chb (show wrF 3 = false from rfl)]
    exact .some rfl
  · rw [Bool.and_eq_true, decide_eq_true_eq] at hq
    obtain ⟨hc, hl2⟩ := hq
    obtain ⟨m, M, rfl, hm, hm0, rfl, hM60, hg⟩ := areC_lt hc
    have hZ := toZ_len M
    rw [hZ] at hl2
    obtain ⟨v, H2, e27, F2, a, rfl, rfl, ha⟩ := lofc_c (base := bb) hs hc (by omega)
    obtain ⟨v, H3, e28, F3, b, rfl, rfl, hb⟩ := lofcS_c (base := bb) (hs.add F2) hc (by omega)
    have hcl := callsL_len (toZ M)
    have hcn := callsN_len M
    have sa : SL (H1 ++ F2 ++ F3) a (callsL (toZ M)) := ha.shows.add F3
    have sb : SL (H1 ++ F2 ++ F3) b (callsL (toZ M)) := hb.shows
    have e20 := wLetters_c (base := bb) sa sb (by omega) true (by simp)
    have hgc : Good m (callsN M) := hg.calls
    have sa' : SL (H1 ++ F2 ++ F3) a (toZ (callsN M)) := by rw [toZ_calls]; exact sa
    obtain ⟨v, H4, e6, k4, t4, rfl, r4⟩ := knownI_c (base := bb) (n := m) sa' (by omega) hm hgc.inN (areL_of hm0 hm (by omega) hgc)
    have st := (hs.add F2).add F3
    generalize H1 ++ F2 ++ F3 = H3 at *
    obtain ⟨v, H5, e29, k5, t5, rfl, r5⟩ := knownAfter_c (base := bb) (n := m) (st.keep k4) (by omega) hm hg.inN hc
    have hpl := play_len m (callsN M)
    have e18 := wRows_c (base := bb) ((r4.keep k5).shows) r5.shows (by simp; omega) (fun r hr => by
      obtain ⟨x, _, rfl⟩ := List.mem_map.1 hr
      have := List.length_filter_le x.testBit (List.range 16)
      simp only [bitsOf, bitsTo]; simp at this; omega) true (by rw [calls_play M hg]; simp)
    obtain ⟨aa, ca, rfl⟩ := sa.sl
    obtain ⟨at', ct, rfl⟩ := st.sl
    have hw : IntKind.i64.wrap (2 * ((toZ M).length : Int)) = ((callsL (toZ M)).length : Int) := by rw [IntKind.wrap_i64, hcl]; omega
    refine sqk fun K hK => ?_
    simp only [go_sem, gs, List.length_set, hl, f51, f52, e27, reduceIte, Nat.reduceEqDiff, Nat.reduceLT]
    subst hK
    refine env_gen [(51, gi m), (52, .slice at' (toZ M).length ct), (53, .slice aa (callsL (toZ M)).length ca), (54, bo true)] ?_ fun ρ h' => ?_
    · simp only [Hs, gs, List.length_set, hl, f51, f52, reduceIte, Nat.reduceEqDiff, Nat.reduceLT, and_self]
    clear f51 f52 hl e27
    obtain ⟨f51, f52, f53, f54, (hl : List.length ρ = 493)⟩ := h'
    refine sqk fun K hK => ?_
    simp only [go_sem, gs, List.length_set, hl, f51, f52, e28, reduceIte, Nat.reduceEqDiff, Nat.reduceLT]
    subst hK
    refine sqk fun K hK => ?_
    simp only [go_sem, gs, List.length_set, hl, f53, f54, e20, reduceIte, Nat.reduceEqDiff, Nat.reduceLT, bne_self_eq_false, Bool.not_true]
    subst hK
    refine env_gen [(51, gi m), (52, .slice at' (toZ M).length ct), (53, .slice aa (callsL (toZ M)).length ca), (54, bo true)] ?_ fun ρ' h' => ?_
    · simp only [Hs, gs, List.length_set, hl, f51, f52, f53, f54, reduceIte, Nat.reduceEqDiff, Nat.reduceLT, and_self]
    clear f51 f52 f53 f54 hl e28
    obtain ⟨f51, f52, f53, f54, (hl : List.length ρ' = 493)⟩ := h'
    refine sqk fun K hK => ?_
    subst hK
    simp only [go_sem, gs, List.length_set, hl, f51, f52, f53, f54, e6, e29, e18, hw, beq_self_eq_true, reduceIte, Nat.reduceEqDiff, Nat.reduceLT, Chb (show wrF 3 = false from rfl)]
    exact .some rfl
end T

/- The operations of a region, in pieces. No conditions. -/
open Go Go.Am
namespace T
section
variable {base : Nat} {H : Heap} {call : Nat → CallF} {n m0 : Nat} {ρ E : Env} {k : List It} {f : FuncId} {res : List ResultVar} {Q : Value → Heap → Prop}
theorem ops_app (dr : Bool) (gs : List (Option Tmp)) (l1 l2 : List Oper) : fin C call n base (.ops dr gs (l1 ++ l2) :: k) (some (.normal, ρ, H)) = fin C call n base (.ops dr gs l1 :: .ops dr gs l2 :: k) (some (.normal, ρ, H)) := by
  have key : ∀ (l1 : List Oper) (ρ : Env) (H : Heap), runG C call base dr gs (l1 ++ l2) ρ H = (runG C call base dr gs l1 ρ H).bind fun x => runG C call base dr gs l2 x.1 x.2 := by
    intro l1
    induction l1 with
    | nil => intro ρ H; rfl
    | cons o l1 ih =>
      intro ρ H
      show runG C call base dr gs (o :: (l1 ++ l2)) ρ H = _
      simp only [runG]
      cases wantG gs o ρ with
      | none => rfl
      | some q => cases q with
        | false => exact ih _ _
        | true =>
          simp only [Option.bind_some]
          cases evalOp C call base dr o ρ H with
          | none => rfl
          | some y => exact ih _ _
  simp only [fin, thenN, Option.bind_some, key]
  cases runG C call base dr gs l1 ρ H with
  | none => rfl
  | some x => rfl
theorem opsk (i : Nat) {dr : Bool} {gs : List (Option Tmp)} {l : List Oper} (h : ∀ K, K = .ops dr gs (l.drop i) :: k → Ok (run1 C call n base f m0 res (fin C call n base (.ops dr gs (l.take i) :: K) (some (.normal, ρ, H)))) Q) : Ok (run1 C call n base f m0 res (fin C call n base (.ops dr gs l :: k) (some (.normal, ρ, H)))) Q := by
  have := h _ rfl
  rwa [← ops_app, List.take_append_drop] at this
theorem uncd {c : Code} (h : Ok (run1 C call n base f m0 res (fin C call n base (.code c :: k) (some (.normal, ρ, H)))) Q) : Ok (run1 C call n base f m0 res (fin C call n base k (exec C call n base c ρ H))) Q := by
  rw [fin_code] at h; exact h
end
noncomputable def fromC : Code := sndN 3 bodyF
end T

open Go Go.Am
namespace T
open Go.Proofs
set_option maxRecDepth 100000
set_option maxHeartbeats 4000000
set_option linter.unusedSimpArgs false
set_option linter.unusedVariables false
variable {base : Nat} {H : Heap}
theorem three_ok {ρ : Env} {bb m0 : Nat} {s1 s : Value} {n need : Int} {th : Bool} (f1 : ρ.getD 1 undef = s1) (f5 : ρ.getD 5 undef = gi n) (f6 : ρ.getD 6 undef = s) (f15 : ρ.getD 15 undef = gi need) (f16 : ρ.getD 16 undef = bo th) (hl : List.length ρ = 493) (h1 : Bytes H s1)
    (h3 : th = true → ∃ (N : Nat) (M : List (Nat × Nat)) (r : Nat), n = N ∧ need = r ∧ 0 < N ∧ N ≤ 10 ∧ SL H s (toZ M) ∧ M.length ≤ 60 ∧ Good N M ∧ r ≤ M.length ∧ allK (play N (M.take r)) = true) :
    Ok (run1 C (cal C) 1001 bb 3 m0 [.tmp 4] (fin C (cal C) 1001 bb [.code (sndN 17 bodyF)] (some (.normal, ρ, H)))) fun v H' => v = bo true := by
  cases th
  case false =>
    refine sqk fun K hK => ?_
    simp only [go_sem, gs, List.length_set, hl, f16, reduceIte, Nat.reduceEqDiff, Nat.reduceLT]
    subst hK
    refine tail_ok (s1 := s1) ?_ ?_ h1
    · simp only [gs, List.length_set, hl, f1, reduceIte, Nat.reduceEqDiff, Nat.reduceLT]
    · simp only [List.length_set, hl]
  case true =>
    obtain ⟨N, M, r, rfl, rfl, hN0, hN, hs, hM, hg, hr, hall⟩ := h3 rfl
    have hZ := toZ_len M
    have hlow := least_need hN hg.inN hall
    have e25 := fewest_c (base := bb) (H := H) (n := N) (by omega) hN
    obtain ⟨s', esl, hs'⟩ := hs.to (k := r) (by omega)
    rw [toZ_take] at hs'
    have e8 := all_c (base := bb) (n := N) hs' (by rw [List.length_take]; omega) hN (hg.take r).inN (areL_of hN0 hN (by rw [List.length_take]; omega) (hg.take r))
    rw [hall] at e8
    obtain ⟨a, c, rfl⟩ := hs.sl
    have c1 : decide (((r : Nat) : Int) < ((2 * (N - 1) : Nat) : Int)) = false := decide_eq_false (by omega)
    have c2 : decide (((toZ M).length : Int) < ((r : Nat) : Int)) = false := decide_eq_false (by omega)
    refine sqk fun K hK => ?_
    simp only [go_sem, gs, List.length_set, hl, f5, f6, f15, f16, e25, c1, c2, esl, e8, Bool.not_true, reduceIte, Nat.reduceEqDiff, Nat.reduceLT]
    subst hK
    refine tail_ok (s1 := s1) ?_ ?_ h1
    · simp only [gs, List.length_set, hl, f1, reduceIte, Nat.reduceEqDiff, Nat.reduceLT]
    · simp only [List.length_set, hl]
end T

