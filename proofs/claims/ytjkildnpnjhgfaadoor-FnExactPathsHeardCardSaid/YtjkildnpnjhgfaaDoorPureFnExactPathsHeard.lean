/- The law FnExactPathsHeard in plain Lean: it returns true at every input. No conditions. -/
import Derived.Test.YtjkildnpnjhgfaaDoorPFnExactPathsHeardx
import Derived.Test.YtjkildnpnjhgfaaDoorGr
import Derived.Test.YtjkildnpnjhgfaaDoorGp
namespace Go.Proofs.YtjkildnpnjhgfaaDoor.Pure
open Go.RowKit Go.Proofs.YtjkildnpnjhgfaaDoor.PFnExactPathsHeard Go.Proofs.YtjkildnpnjhgfaaDoorW.PrintWords Go.Proofs.YtjkildnpnjhgfaaDoorW.PrintLast Go.Proofs.YtjkildnpnjhgfaaDoorW.PrintMore Go.Proofs.YtjkildnpnjhgfaaDoor.Gr Go.Proofs.YtjkildnpnjhgfaaDoor.Gp
set_option linter.unusedVariables false
set_option linter.unusedSimpArgs false

theorem l1In_v (x lo hi : Int) : spec_l1In.f x lo hi = some (decide (lo ≤ x ∧ x ≤ hi)) := by
  unfold spec_l1In.f
  by_cases h1 : lo ≤ x
  · rw [if_pos h1]
    by_cases h2 : x ≤ hi
    · rw [decide_eq_true h2, decide_eq_true (⟨h1, h2⟩ : lo ≤ x ∧ x ≤ hi)]
    · rw [decide_eq_false h2, decide_eq_false (fun h : lo ≤ x ∧ x ≤ hi => h2 h.2)]
  · rw [if_neg h1, decide_eq_false (fun h : lo ≤ x ∧ x ≤ hi => h1 h.1)]
theorem within_v (x lo hi : Int) : impl_within.f x lo hi = some (decide (lo ≤ x ∧ x ≤ hi)) := by
  unfold impl_within.f
  by_cases h1 : lo ≤ x
  · rw [if_pos h1]
    by_cases h2 : x ≤ hi
    · rw [decide_eq_true h2, decide_eq_true (⟨h1, h2⟩ : lo ≤ x ∧ x ≤ hi)]
    · rw [decide_eq_false h2, decide_eq_false (fun h : lo ≤ x ∧ x ≤ hi => h2 h.2)]
  · rw [if_neg h1, decide_eq_false (fun h : lo ≤ x ∧ x ≤ hi => h1 h.1)]
def castOk (s : ByteArray) : Bool := decide (1 ≤ s.size ∧ s.size ≤ 8) && castB s.data.toList
theorem liCast_v (s : ByteArray) : spec_liCast.f s = some (castOk s) := rfl
theorem isCast_v (s : ByteArray) : impl_isCast.f s = some (castOk s) := rfl
theorem castOk_size {s : ByteArray} (h : castOk s = true) : 1 ≤ s.size ∧ s.size ≤ 8 := by
  unfold castOk at h
  simp only [Bool.and_eq_true, decide_eq_true_eq] at h
  exact h.1
theorem castOk_bt {s : ByteArray} (h : castOk s = true) (i : Int) (h0 : 0 ≤ i) (h1 : i < s.size) : bt s i = 104 ∨ bt s i = 108 := by
  unfold castOk at h
  simp only [Bool.and_eq_true] at h
  have h2 := h.2
  unfold castB at h2
  have hi : i.toNat < s.size := by omega
  have hm : s[i.toNat] ∈ s.data.toList := by
    have e : s.data.toList[i.toNat]'(by simpa using hi) = s[i.toNat] := rfl
    rw [← e]
    exact List.getElem_mem _
  have h3 := List.all_eq_true.1 h2 _ hm
  rw [← bt_at s i hi]
  simp only [Bool.or_eq_true, beq_iff_eq] at h3
  rcases h3 with h3 | h3
  · left; rw [h3]; rfl
  · right; rw [h3]; rfl
theorem says_hl {x y : Int} (hx : x = 104 ∨ x = 108) (hy : y = 104 ∨ y = 108) : ((y == 104) == (x == 104)) = (x == y) := by
  rcases hx with rfl | rfl <;> rcases hy with rfl | rfl <;> rfl
theorem nneq {b c : Bool} (h : b = c) : ¬ (b != c) = true := by
  subst h
  simp

theorem eqIntS_ev (l : List Int) (h : l.length ≤ 1048576) : Ev (fun k => laws_eqIntS.f k l l) true := by
  unfold laws_eqIntS.f
  refine ev_pos rfl (ev_same l (fun k i => laws_eqIntS.l0 k l l i) (fun k i hi => ?_) (fun k => ?_))
  · simp only [laws_eqIntS.l0]
    rw [if_pos (by omega), if_pos (by omega), if_pos (by omega), if_pos trivial, w64 (by omega) (by omega)]
    rfl
  · simp only [laws_eqIntS.l0]
    rw [if_neg (by omega)]

theorem markIntS_ev (l : List Int) (h : l.length ≤ 1048576) : Ev (fun k => laws_markIntS.f k l 1) (1 + (l.length : Int), (List.range l.length).map fun i : Nat => 1 + (i : Int)) := by
  unfold laws_markIntS.f
  refine ev_tab l.length (fun i : Nat => 1 + (i : Int)) (fun k st a i => laws_markIntS.l0 k st a i) 1 (fun st i r hi hst hr => ?_) (fun k st hst => ?_) l rfl
  · refine Ev.step (fun k => ?_) hr
    simp only [laws_markIntS.l0]
    rw [if_pos (by omega), if_pos (by omega), w64 (n := 1 + (i : Int) + 1) (by omega) (by omega), w64 (n := (i : Int) + 1) (by omega) (by omega), show 1 + (i : Int) + 1 = 1 + ((i + 1 : Nat) : Int) by omega, show (i : Int) + 1 = ((i + 1 : Nat) : Int) by omega, Int.toNat_natCast]
  · simp only [laws_markIntS.l0]
    rw [if_neg (by omega)]

theorem heldIntS_ev (n : Nat) (h : n ≤ 1048576) : Ev (fun k => laws_heldIntS.f k ((List.range n).map fun i : Nat => 1 + (i : Int)) 1) (1 + (n : Int)) := by
  unfold laws_heldIntS.f
  have hl : ((List.range n).map fun i : Nat => 1 + (i : Int)).length = n := by simp
  have := ev_down n (fun i k => laws_heldIntS.l0 k ((List.range n).map fun i : Nat => 1 + (i : Int)) (1 + (i : Int)) (i : Int)) (fun _ => 1 + (n : Int)) (Ev.step (f := fun _ => some _) (fun k => by simp only [laws_heldIntS.l0]; rw [if_neg (by rw [hl]; omega)]) (Ev.now _)) (fun i hi ih => ?_) 0 (Nat.zero_le _)
  · simpa using this
  · refine Ev.step (fun k => ?_) ih
    have e : rd ((List.range n).map fun i : Nat => 1 + (i : Int)) (i : Int) = 1 + (i : Int) := by
      unfold rd
      rw [Int.toNat_natCast, getD_at _ i (by rw [hl]; exact hi)]
      simp
    simp only [laws_heldIntS.l0]
    rw [if_pos (by rw [hl]; omega), if_pos (by omega), e, if_pos rfl, w64 (n := 1 + (i : Int) + 1) (by omega) (by omega), w64 (n := (i : Int) + 1) (by omega) (by omega), show 1 + (i : Int) + 1 = 1 + ((i + 1 : Nat) : Int) by omega, show (i : Int) + 1 = ((i + 1 : Nat) : Int) by omega]

theorem castW_v (s : ByteArray) : castW s = castOk s := rfl
/-- the first i, one after the other -/
def loopP (g : List Int → Nat → List Int) (c : List Int) : Nat → List Int
  | 0 => c
  | i + 1 => g (loopP g c i) i
theorem loopP_len (g : List Int → Nat → List Int) (h : ∀ a b, (g a b).length = a.length) (c : List Int) : ∀ i, (loopP g c i).length = c.length := by
  intro i
  induction i with
  | zero => rfl
  | succ i ih => exact (h _ _).trans ih
/-- the counts behind all lists that go on from now, L told: who is on the list -/
def pathL (s : ByteArray) (tg : Nat) : Nat → Nat → List Bool → Bool → List Int → List Int
  | 0, _, _, _, c => c
  | m + 1, now, L, t, c => if now = tg then bump (t != (bt s (now : Int) == 108)) c else loopP (fun c j => if (L.set now true).getD j false = true then c else pathL s tg m j (L.set now true) (t != (bt s (now : Int) == 108)) c) c s.size
theorem bump_len (t : Bool) (c : List Int) : (bump t c).length = c.length := by simp [bump]
theorem pathL_len (s : ByteArray) (tg : Nat) : ∀ (m now : Nat) (L : List Bool) (t : Bool) (c : List Int), (pathL s tg m now L t c).length = c.length := by
  intro m
  induction m with
  | zero => intro _ _ _ c; rfl
  | succ m ih =>
    intro now L t c
    unfold pathL
    split
    · exact bump_len _ _
    · refine loopP_len _ (fun a b => ?_) c _
      show (if _ then a else _).length = a.length
      split
      · rfl
      · exact ih _ _ _ _
theorem step_len (s : ByteArray) (tg m : Nat) (L : List Bool) (t : Bool) (a : List Int) (b : Nat) : (if L.getD b false = true then a else pathL s tg m b L t a).length = a.length := by
  split
  · rfl
  · exact pathL_len _ _ _ _ _ _ _
theorem count_mark : ∀ (L : List Bool) (i : Nat) (h : i < L.length), L[i] = false → (L.set i true).count false + 1 = L.count false := by
  intro L
  induction L with
  | nil => intro i h; cases h
  | cons x L ih =>
    intro i h hx
    cases i with
    | zero =>
      have hx : x = false := hx
      subst hx
      simp
    | succ i =>
      have := ih i (by simpa using h) (by simpa using hx)
      rw [List.set_cons_succ, List.count_cons, List.count_cons]
      omega
theorem getD_b (L : List Bool) (i : Nat) (h : i < L.length) : L.getD i false = L[i] := getD_at L i h false
theorem count_none {L : List Bool} {i : Nat} (h : i < L.length) (hx : L.getD i false = false) : ¬ L.count false ≤ 0 := by
  rw [getD_b L i h] at hx
  have := List.count_pos_iff.2 (show false ∈ L from hx ▸ List.getElem_mem h)
  omega
theorem spec_p (s : ByteArray) (tg : Nat) (hz : s.size ≤ 8) : ∀ (m now : Nat) (L : List Bool) (t : Bool) (c : List Int), L.length = s.size → now < s.size → L.getD now false = false → L.count false ≤ m → c.length = 2 →
    Ev (fun k => spec_liPaths.f k s (now : Int) (tg : Int) L t c) (L, pathL s tg m now L t c) := by
  intro m
  induction m with
  | zero => intro now L t c hL hn hx hc _; exact absurd hc (count_none (by omega) hx)
  | succ m ih =>
    intro now L t c hL hn hx hc h2
    have hx' := hx
    rw [getD_b L now (by omega)] at hx'
    have hcm := count_mark L now (by omega) hx'
    unfold pathL
    generalize ht1 : (t != (bt s (now : Int) == 108)) = t1
    by_cases ht : now = tg
    · rw [if_pos ht]
      refine Ev.step (f := fun _ => some (L, bump t1 c)) (fun k => ?_) (Ev.now _)
      have e1 : (1 : Int) < (c.length : Int) := by omega
      have e0 : (0 : Int) < (c.length : Int) := by omega
      have g1 : (0 : Int) ≤ (now : Int) := by omega
      have g2 : (now : Int) < (s.size : Int) := by omega
      have g3 : (now : Int) = (tg : Int) := by omega
      clear ih hx hx' hcm hc hz hL hn h2 ht
      unfold spec_liPaths.f
      rw [if_pos g1, if_pos g2, if_pos g3, ht1]
      cases t1 with
      | true => rw [if_pos rfl, if_pos e1]; rfl
      | false => rw [if_neg (by simp), if_pos e0]; rfl
    · rw [if_neg ht]
      have hl1 : (L.set now true).length = s.size := by simpa using hL
      have hback : (L.set now true).set now false = L := by
        rw [List.set_set, ← hx']
        exact List.set_getElem_self (by omega)
      have hcm1 : (L.set now true).count false ≤ m := by omega
      have hlL : (L.length : Int) = (s.size : Int) := by omega
      have hset : (L.set now true).length = L.length := by simp
      generalize hS : L.set now true = L1 at hl1 hback hcm1 hset ⊢
      refine Ev.step (f := fun k => spec_liPaths.l0 k s (now : Int) (tg : Int) L1 t1 c (s.size : Int) 0) (fun k => ?_) ?_
      · have g0 : (now : Int) < (L.length : Int) := by omega
        have g1 : (0 : Int) ≤ (now : Int) := by omega
        have g2 : (now : Int) < (s.size : Int) := by omega
        have g3 : ¬ (now : Int) = (tg : Int) := by omega
        clear ih hx hx' hcm hc hz hL hn h2 ht hback hcm1
        unfold spec_liPaths.f
        rw [if_pos g1, if_pos g2, if_neg g3, if_pos g0, ht1, Int.toNat_natCast, hS, hlL]
      · obtain ⟨g, hg⟩ : ∃ g : List Int → Nat → List Int, g = fun c j => if L1.getD j false = true then c else pathL s tg m j L1 t1 c := ⟨_, rfl⟩
        have hgl : ∀ a b, (g a b).length = a.length := fun a b => by rw [hg]; exact step_len s tg m L1 t1 a b
        have hgt : ∀ a b, L1.getD b false = true → g a b = a := fun a b hb => by rw [hg]; exact if_pos hb
        have hgf : ∀ a b, ¬ L1.getD b false = true → g a b = pathL s tg m b L1 t1 a := fun a b hb => by rw [hg]; exact if_neg hb
        rw [← hg]
        clear hg hc hcm hx hx'
        have hend : ∀ k a, spec_liPaths.l0 (k + 1) s (now : Int) (tg : Int) L1 t1 a (s.size : Int) (s.size : Int) = some (L, a) := fun k a => by
          have g1 : (0 : Int) ≤ (now : Int) := by omega
          have g2 : (now : Int) < (L1.length : Int) := by omega
          unfold spec_liPaths.l0
          rw [if_neg (by omega), if_pos g1, if_pos g2, Int.toNat_natCast, hback]
        refine ev_down s.size (fun i k => spec_liPaths.l0 k s (now : Int) (tg : Int) L1 t1 (loopP g c i) (s.size : Int) (i : Int)) (fun _ => (L, loopP g c s.size)) (Ev.step (f := fun _ => some (L, _)) (fun k => hend k _) (Ev.now _)) (fun i hi ih2 => ?_) 0 (Nat.zero_le _)
        have hfl := loopP_len g hgl c i
        have hsu : loopP g c (i + 1) = g (loopP g c i) i := rfl
        rw [hsu] at ih2
        clear hend hsu
        generalize loopP g c i = ci at hfl ih2 ⊢
        have hw : wrap64 ((i : Int) + 1) = ((i + 1 : Nat) : Int) := by rw [w64 (by omega) (by omega)]; omega
        have hr : rdOf false L1 (i : Int) = L1.getD i false := by unfold rdOf; rw [Int.toNat_natCast]
        have g1 : (0 : Int) ≤ (i : Int) := by omega
        have g2 : (i : Int) < (L1.length : Int) := by omega
        have g3 : (i : Int) < (s.size : Int) := by omega
        by_cases hb : L1.getD i false = true
        · rw [hgt ci i hb] at ih2
          refine Ev.step (fun k => ?_) ih2
          conv => lhs; unfold spec_liPaths.l0
          rw [if_pos g3, if_pos g1, if_pos g2, hr, if_pos hb, hw]
        · rw [hgf ci i hb] at ih2
          refine Ev.step (f := fun k => (spec_liPaths.f k s (i : Int) (tg : Int) L1 t1 ci).bind fun b => spec_liPaths.l0 k s (now : Int) (tg : Int) b.1 t1 b.2 (s.size : Int) ((i + 1 : Nat) : Int)) (fun k => ?_) (Ev.bind (ih i L1 t1 ci hl1 hi (by simpa using hb) hcm1 (hfl.trans h2)) ih2)
          conv => lhs; unfold spec_liPaths.l0
          rw [if_pos g3, if_pos g1, if_pos g2, hr, if_neg hb, hw]
theorem loopN_fold (f : Nat → List Int → Option (List Int)) (g : List Int → Nat → List Int) (c : List Int) : ∀ n, (∀ j c, j < n → f j c = some (g c j)) → loopN f n c = some (loopP g c n) := by
  intro n
  induction n with
  | zero => intro _; rfl
  | succ n ih =>
    intro h
    unfold loopN
    rw [ih (fun j c hj => h j c (by omega)), Option.bind_some, h n _ (by omega)]
    rfl
theorem or_bit (a n j : Nat) : (a ||| 2 ^ n).testBit j = (a.testBit j || decide (n = j)) := by rw [Nat.testBit_or, Nat.testBit_two_pow]
theorem impl_p (s : ByteArray) (tg : Nat) : ∀ (m now seen : Nat) (L : List Bool) (t : Bool) (c : List Int), L.length = s.size → now < s.size → (∀ i, i < s.size → L.getD i false = seen.testBit i) → L.getD now false = false → L.count false ≤ m →
    pathN s tg m now seen t c = some (pathL s tg m now L t c) := by
  intro m
  induction m with
  | zero => intro now seen L t c hL hn _ hx hc; exact absurd hc (count_none (by omega) hx)
  | succ m ih =>
    intro now seen L t c hL hn hs hx hc
    have hx' := hx
    rw [getD_b L now (by omega)] at hx'
    have hcm := count_mark L now (by omega) hx'
    unfold pathL pathN
    by_cases ht : now = tg
    · rw [if_pos ht, if_pos ht]
    · rw [if_neg ht, if_neg ht]
      have hl1 : (L.set now true).length = s.size := by simpa using hL
      have hcm1 : (L.set now true).count false ≤ m := by omega
      have hs1 : ∀ i, i < s.size → (L.set now true).getD i false = (seen ||| 2 ^ now).testBit i := fun i hi => by
        rw [or_bit, ← hs i hi, getD_b _ i (by omega), getD_b _ i (by omega), List.getElem_set]
        by_cases e : now = i
        · rw [if_pos e, decide_eq_true e, Bool.or_true]
        · rw [if_neg e, decide_eq_false e, Bool.or_false]
      generalize L.set now true = L1 at hl1 hcm1 hs1 ⊢
      generalize (seen ||| 2 ^ now) = seen1 at hs1 ⊢
      refine loopN_fold _ (fun c j => if L1.getD j false = true then c else pathL s tg m j L1 (t != (bt s (now : Int) == 108)) c) c s.size (fun j c hj => ?_)
      have hb := hs1 j hj
      rw [Nat.testBit_eq_decide_div_mod_eq] at hb
      show (if seen1 / 2 ^ j % 2 = 0 then _ else _) = some (if L1.getD j false = true then c else _)
      by_cases h0 : seen1 / 2 ^ j % 2 = 0
      · have hf : L1.getD j false = false := by rw [hb]; simp; omega
        rw [if_pos h0, if_neg (by rw [hf]; simp)]
        exact ih j seen1 L1 _ c hl1 hj hs1 hf hcm1
      · have hf : L1.getD j false = true := by rw [hb]; simp; omega
        rw [if_neg h0, if_pos hf]
def pathV (s : ByteArray) (a1 a2 : Int) : List Int × Bool := if pathOk s a1 a2 = true then (pathL s a2.toNat 9 a1.toNat (List.replicate s.size false) false [0, 0], true) else ([], false)
theorem pathV_len (s : ByteArray) (a1 a2 : Int) : (pathV s a1 a2).1.length ≤ 2 := by
  unfold pathV
  split
  · exact Nat.le_of_eq (pathL_len _ _ _ _ _ _ _)
  · exact Nat.zero_le _
theorem rep_get (n i : Nat) : (List.replicate n false).getD i false = false := by
  rw [List.getD_eq_getElem?_getD, List.getElem?_replicate]
  split <;> rfl
theorem pathOk_c {s : ByteArray} {a1 a2 : Int} (h : pathOk s a1 a2 = true) : castOk s = true ∧ (0 ≤ a1 ∧ a1 < s.size) ∧ (0 ≤ a2 ∧ a2 < s.size) ∧ ¬ a1 = a2 := by
  unfold pathOk at h
  simp only [Bool.and_eq_true, Bool.not_eq_true', beq_eq_false_iff_ne, decide_eq_true_eq] at h
  exact h
theorem impl_v (s : ByteArray) (a1 a2 : Int) : impl_PathsHeard.f s a1 a2 = some (pathV s a1 a2) := by
  unfold impl_PathsHeard.f pathV
  by_cases h : pathOk s a1 a2 = true
  · obtain ⟨hc, h1, h2, h3⟩ := pathOk_c h
    have hz := castOk_size hc
    rw [if_pos h, if_pos h, impl_p s a2.toNat 9 a1.toNat 0 (List.replicate s.size false) false [0, 0] (by simp) (by omega) (fun i _ => by rw [rep_get]; simp) (rep_get _ _) (by rw [List.count_replicate_self]; omega)]
    rfl
  · rw [if_neg h, if_neg h]
theorem spec_v (s : ByteArray) (a1 a2 : Int) (hs : s.size ≤ 1048576) : Ev (fun k => spec_PathsHeard.f k s a1 a2) (pathV s a1 a2) := by
  unfold spec_PathsHeard.f
  rw [show wrap64 ((s.size : Int) - 1) = (s.size : Int) - 1 from w64 (by omega) (by omega)]
  refine ev_call (liCast_v s) ?_
  unfold pathV
  by_cases h : pathOk s a1 a2 = true
  · obtain ⟨hc, h1, h2, h3⟩ := pathOk_c h
    have hz := castOk_size hc
    have e1 : decide (0 ≤ a1 ∧ a1 ≤ (s.size : Int) - 1) = true := decide_eq_true (by omega)
    have e2 : decide (0 ≤ a2 ∧ a2 ≤ (s.size : Int) - 1) = true := decide_eq_true (by omega)
    have hp := spec_p s a2.toNat hz.2 9 a1.toNat (List.replicate s.size false) false [0, 0] (by simp) (by omega) (rep_get _ _) (by rw [List.count_replicate_self]; omega) rfl
    rw [Int.toNat_of_nonneg h1.1, Int.toNat_of_nonneg h2.1] at hp
    rw [if_pos h]
    refine ev_pos hc (ev_call (l1In_v _ _ _) (ev_pos e1 (ev_call (l1In_v _ _ _) (ev_pos e2 (ev_neg h3 (ev_pos (by omega) (ev_pos (by omega) (ev_pos (by omega) ?_))))))))
    rw [Int.toNat_natCast]
    exact Ev.bind hp (Ev.now _)
  · rw [if_neg h]
    refine ev_if (fun hc => ev_call (l1In_v _ _ _) (ev_if (fun e1 => ev_call (l1In_v _ _ _) (ev_if (fun e2 => ev_if (fun _ => Ev.now _) (fun e3 => absurd ?_ h)) (fun _ => Ev.now _))) (fun _ => Ev.now _))) (fun _ => Ev.now _)
    have e1 := of_decide_eq_true e1
    have e2 := of_decide_eq_true e2
    unfold pathOk
    rw [castW_v, hc, decide_eq_true (show 0 ≤ a1 ∧ a1 < (s.size : Int) by omega), decide_eq_true (show 0 ≤ a2 ∧ a2 < (s.size : Int) by omega), beq_false_of_ne e3]
    rfl
theorem FnExactPathsHeard : laws_FnExactPathsHeard.Pure := by
  intro s a1 a2 _ _ _
  refine Ev.rounds ?_
  unfold laws_FnExactPathsHeard.f
  by_cases hz : (s.size : Int) > 1048576
  · exact ev_pos hz (Ev.now _)
  refine ev_neg hz ?_
  have hV := impl_v s a1 a2
  have hl := pathV_len s a1 a2
  have hS := spec_v s a1 a2 (by omega)
  generalize pathV s a1 a2 = v at hV hl hS
  have hE := eqIntS_ev v.1 (by omega)
  refine Ev.bind hS (ev_call hV (Ev.bind hE (ev_pos rfl ?_)))
  refine Ev.step (fun k => by simp only [laws_FnExactPathsHeard.j0]; rfl) ?_
  refine (ev_neg (by simp) (Ev.bind (markIntS_ev v.1 (by omega)) (Ev.bind (heldIntS_ev v.1.length (by omega)) (ev_neg (by first | omega | (simp only; omega)) (ev_pos rfl (ev_call hV (Ev.bind hE (ev_pos rfl ?_))))))))
  refine Ev.step (fun k => by simp only [laws_FnExactPathsHeard.j1]; rfl) ?_
  exact (ev_neg (by simp) (Ev.bind (heldIntS_ev v.1.length (by omega)) (ev_neg (by omega) (ev_pos rfl (Ev.now _)))))

end Go.Proofs.YtjkildnpnjhgfaaDoor.Pure
