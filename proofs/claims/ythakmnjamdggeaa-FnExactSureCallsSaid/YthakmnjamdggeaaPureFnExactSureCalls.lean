/- The law FnExactSureCalls in plain Lean: it returns true at every input. No conditions. -/
import Derived.Test.YthakmnjamdggeaaStFnExactSureCalls
import Derived.Test.YthakmnjamdggeaaGr
import Derived.Test.YthakmnjamdggeaaGp
namespace Go.Proofs.Ythakmnjamdggeaa.Pure
open Go.RowKit Go.Proofs.Ythakmnjamdggeaa.PFnExactSureCalls Go.Proofs.YthakmnjamdggeaaW.PrintWords Go.Proofs.YthakmnjamdggeaaW.PrintLast Go.Proofs.YthakmnjamdggeaaW.PrintMore Go.Proofs.Ythakmnjamdggeaa.Gr Go.Proofs.Ythakmnjamdggeaa.Gp
set_option linter.unusedVariables false
set_option linter.unusedSimpArgs false

theorem szClueS_val (l : List S26) (h : l.length ≤ 9223372036854775807) : laws_szClueS.f l 1048576 = some (if l.length ≤ 1048576 then 1048576 - (l.length : Int) else -1) := by
  unfold laws_szClueS.f
  rw [w64 (by omega) (by omega)]
  by_cases hl : l.length ≤ 1048576
  · rw [if_neg (by omega), if_pos hl]
  · rw [if_pos (by omega), if_neg hl]

def cvClue (y : S26) : S31 := ⟨y.f0, y.f1, y.f2, y.f3⟩
theorem toClueS_ev (l : List S26) (h : l.length ≤ 1048576) : Ev (fun k => laws_toClueS.f k l) (l.map cvClue) := by
  unfold laws_toClueS.f
  refine ev_pos (by omega) (ev_pos (by omega) ?_)
  refine ev_fill l z31 cvClue (fun k st i => laws_toClueS.l0 k l st i) (fun k st i hi hst => ?_) (fun k st hst => ?_)
  · have e : l.getD i z26 = l[i] := getD_at l i hi _
    simp only [laws_toClueS.l0, rd_T26, Int.toNat_natCast]
    rw [if_pos (by omega), if_pos (by omega), e]
    simp only [laws_toClue.f, Option.bind_some, cvClue]
    rw [if_pos (by omega), w64 (by omega) (by omega)]
    rfl
  · simp only [laws_toClueS.l0]
    rw [if_neg (by omega)]

theorem eqClueS_ev (l : List S31) (h : l.length ≤ 1048576) : Ev (fun k => laws_eqClueS.f k l l) true := by
  unfold laws_eqClueS.f
  refine ev_pos rfl (ev_same l (fun k i => laws_eqClueS.l0 k l l i) (fun k i hi => ?_) (fun k => ?_))
  · simp only [laws_eqClueS.l0]
    rw [if_pos (by omega), if_pos (by omega), if_pos (by omega)]
    unfold laws_eqClue.f
    rw [if_pos rfl, if_pos rfl, if_pos rfl, if_pos rfl]
    simp only [Option.bind_some, if_true]
    rw [w64 (by omega) (by omega)]
    rfl
  · simp only [laws_eqClueS.l0]
    rw [if_neg (by omega)]

theorem szPuzzle_val (a b : Int) (l : List S26) (h : l.length ≤ 9223372036854775807) : laws_szPuzzle.f a b l 1048576 = some (if l.length ≤ 1048576 then 1048576 - (l.length : Int) else -1) := by
  unfold laws_szPuzzle.f
  rw [szClueS_val l h]
  simp only [Option.bind_some]
  by_cases hl : l.length ≤ 1048576
  · rw [if_pos hl, if_neg (by omega)]
  · rw [if_neg hl, if_pos (by omega)]
theorem toPuzzle_ev (a b : Int) (l : List S26) (h : l.length ≤ 1048576) : Ev (fun k => laws_toPuzzle.f k a b l) (a, b, l.map cvClue) := Ev.bind (toClueS_ev l h) (Ev.now _)
theorem eqPuzzle_ev (a b : Int) (l : List S31) (h : l.length ≤ 1048576) : Ev (fun k => laws_eqPuzzle.f k a b l a b l) true := ev_pos rfl (ev_pos rfl (Ev.bind (eqClueS_ev l h) (ev_pos rfl (Ev.now _))))

theorem l1In_eq (a b c : Int) : spec_l1In.f a b c = some (decide (b ≤ a ∧ a ≤ c)) := by
  unfold spec_l1In.f
  by_cases h : b ≤ a <;> simp [h]

theorem rd_call (l : List S74) (i : Nat) (hi : i < l.length) : rd_T74 l (i : Int) = l[i] := by
  unfold rd_T74
  rw [Int.toNat_natCast]
  exact getD_at l i hi _
/-- are these calls of so many friends? -/
def areCa (n : Int) (l : List S74) : Bool := decide (1 ≤ n ∧ n ≤ 10) && decide (l.length ≤ 60) && l.all (impl_AreCalls.ok n)
theorem implCalls (n : Int) (l : List S74) : impl_AreCalls.f n l = some (areCa n l) := by
  unfold impl_AreCalls.f areCa
  rw [show (l.all (impl_AreCalls.ok n)) = !l.any fun c => !impl_AreCalls.ok n c by simp [List.any_eq_not_all_not]]

theorem or16 : ∀ x y : Fin 16, Go.bits .or .u16 ((x : Nat) : Int) ((y : Nat) : Int) = Go.bits .or .i64 ((x : Nat) : Int) ((y : Nat) : Int) ∧ 0 ≤ Go.bits .or .u16 ((x : Nat) : Int) ((y : Nat) : Int) ∧ Go.bits .or .u16 ((x : Nat) : Int) ((y : Nat) : Int) < 16 := by decide +kernel
def small (t : List Int) : Prop := ∀ x, x ∈ t → 0 ≤ x ∧ x < 16
theorem or_small {x y : Int} (hx : 0 ≤ x ∧ x < 16) (hy : 0 ≤ y ∧ y < 16) : Go.bits .or .u16 x y = Go.bits .or .i64 x y ∧ 0 ≤ Go.bits .or .u16 x y ∧ Go.bits .or .u16 x y < 16 := by
  obtain ⟨i, rfl⟩ := Int.eq_ofNat_of_zero_le hx.1
  obtain ⟨j, rfl⟩ := Int.eq_ofNat_of_zero_le hy.1
  exact or16 ⟨i, by omega⟩ ⟨j, by omega⟩
theorem rd_nat (t : List Int) (i : Nat) (h : i < t.length) : rd t (i : Int) = t[i] := by
  unfold rd
  rw [Int.toNat_natCast]
  exact getD_at t i h _
theorem rd_small {t : List Int} (h : small t) (i : Int) (h0 : 0 ≤ i) (h1 : i < t.length) : 0 ≤ rd t i ∧ rd t i < 16 := by
  obtain ⟨j, rfl⟩ := Int.eq_ofNat_of_zero_le h0
  rw [rd_nat t j (by omega)]
  exact h _ (List.getElem_mem _)
theorem meetL_small {t : List Int} {c : S74} (h : small t) (h0 : 0 ≤ c.f0) (h1 : c.f0 < c.f1) (h2 : c.f1 < t.length) : small (meetL t c) := by
  have hv := or_small (rd_small h c.f0 h0 (by omega)) (rd_small h c.f1 (by omega) h2)
  intro x hx
  unfold meetL at hx
  rcases List.mem_or_eq_of_mem_set hx with hx | rfl
  · rcases List.mem_or_eq_of_mem_set hx with hx | rfl
    · exact h x hx
    · exact hv.2
  · exact hv.2
theorem caMake_v {t : List Int} {c : S74} (h : small t) (hl : t.length ≤ 1048576) (h0 : 0 ≤ c.f0) (h1 : c.f0 < c.f1) (h2 : c.f1 < t.length) : spec_caMake.f t c.f0 c.f1 = some (meetL t c) := by
  unfold spec_caMake.f spec_l1Own.f
  rw [Option.bind_some, if_pos (by simp only [List.length_nil]; omega), List.nil_append, Option.bind_some, if_pos h0, if_pos (by omega), if_pos (by omega), if_pos h2, if_pos (by omega), if_pos h2, ← (or_small (rd_small h c.f0 h0 (by omega)) (rd_small h c.f1 (by omega) h2)).1]
  rfl
def startV (N : Nat) : List Int := (List.range N).map fun i => ((2 ^ i : Nat) : Int)
theorem startV_len (N : Nat) : (startV N).length = N := by simp [startV]
theorem startV_small (N : Nat) (hN : N ≤ 4) : small (startV N) := by
  intro x hx
  obtain ⟨i, hi, rfl⟩ := List.mem_map.1 hx
  have h := List.mem_range.1 hi
  have h2 : 2 ^ i ≤ 2 ^ 3 := Nat.pow_le_pow_right (by omega) (by omega)
  have h3 : (2 : Nat) ^ 3 = 8 := by decide
  have h4 : ((2 ^ i : Nat) : Int) ≤ 8 := Int.ofNat_le.2 (by omega)
  exact ⟨Int.natCast_nonneg _, Int.lt_of_le_of_lt h4 (by decide)⟩
theorem caStart5 : ∀ i : Fin 5, spec_caStart.f 10 ((i : Nat) : Int) = some (startV i) := by decide +kernel
theorem first5 : ∀ i : Fin 5, impl_first.f 10 ((i : Nat) : Int) = some (startV i) := by decide +kernel
theorem caStart_ev (N : Nat) (hN : N ≤ 4) : Ev (fun k => spec_caStart.f k (N : Int)) (startV N) := Ev.of (fun k => spec_caStart.mono _ k) (caStart5 ⟨N, by omega⟩)
theorem first_ev (N : Nat) (hN : N ≤ 4) : Ev (fun k => impl_first.f k (N : Int)) (startV N) := Ev.of (fun k => impl_first.mono _ k) (first5 ⟨N, by omega⟩)
def play (N : Nat) (cs : List S74) : List Int := cs.foldl meetL (startV N)
theorem play_len (N : Nat) (cs : List S74) : (play N cs).length = N := by
  unfold play
  rw [meets_len, startV_len]
def okCs (N : Nat) (cs : List S74) : Prop := ∀ c, c ∈ cs → 0 ≤ c.f0 ∧ c.f0 < c.f1 ∧ c.f1 < (N : Int)
theorem okCs_take {N : Nat} {cs : List S74} (h : okCs N cs) (j : Nat) : okCs N (cs.take j) := fun c hc => h c (List.mem_of_mem_take hc)
theorem play_small (N : Nat) (hN : N ≤ 4) (cs : List S74) (h : okCs N cs) : small (play N cs) := by
  have key : ∀ (cs : List S74) (t : List Int), okCs N cs → t.length = N → small t → small (cs.foldl meetL t) := by
    intro cs
    induction cs with
    | nil => exact fun t _ _ h => h
    | cons c cs ih =>
      intro t hc hl hs
      have h1 := hc c List.mem_cons_self
      exact ih _ (fun d hd => hc d (List.mem_cons_of_mem _ hd)) (by rw [meetL_len, hl]) (meetL_small hs h1.1 h1.2.1 (by omega))
  exact key cs _ h (startV_len N) (startV_small N hN)
theorem caPlay_ev (N : Nat) (hN : N ≤ 4) (cs : List S74) (h : okCs N cs) (hl : cs.length ≤ 1048576) : Ev (fun k => spec_caPlay.f k (N : Int) cs) (play N cs) := by
  unfold spec_caPlay.f
  refine Ev.bind (caStart_ev N hN) ?_
  refine (ev_down cs.length (fun i k => spec_caPlay.l0 k (play N (cs.take i)) cs (cs.length : Int) (i : Int)) (fun _ => play N cs) (Ev.step (f := fun _ => some (play N cs)) (fun k => by simp only [spec_caPlay.l0]; rw [if_neg (by omega), List.take_length]) (Ev.now _)) (fun i hi ih => ?_)) 0 (Nat.zero_le _)
  have hc := h cs[i] (List.getElem_mem hi)
  refine Ev.step (f := fun k => spec_caPlay.l0 k (play N (cs.take (i + 1))) cs (cs.length : Int) ((i + 1 : Nat) : Int)) (fun k => ?_) ih
  have hm := caMake_v (c := cs[i]) (play_small N hN (cs.take i) (okCs_take h i)) (by rw [play_len]; omega) hc.1 hc.2.1 (by rw [play_len]; exact hc.2.2)
  simp only [spec_caPlay.l0, rd_call cs i hi]
  rw [if_pos (by omega), if_pos (by omega), if_pos (by omega), hm, Option.bind_some, w64 (n := (i : Int) + 1) (by omega) (by omega)]
  unfold play
  rw [meets_succ cs _ i hi]
  rfl
theorem after_ev (N : Nat) (hN : N ≤ 4) (cs : List S74) (h : okCs N cs) (hl : cs.length ≤ 1048576) : Ev (fun k => impl_after.f k (N : Int) cs) (play N cs) := by
  unfold impl_after.f
  exact Ev.bind (first_ev N hN) (ev_pos ⟨hl, fun c hc => by rw [startV_len]; exact h c hc⟩ (Ev.now _))

def pop (x : Int) : Int := popTab.getD x.toNat 0
theorem pop16 : ∀ i : Fin 16, 0 ≤ popTab.getD i 0 ∧ popTab.getD i 0 ≤ 4 := by decide +kernel
theorem pop_le {x : Int} (h : 0 ≤ x ∧ x < 16) : 0 ≤ pop x ∧ pop x ≤ 4 := pop16 ⟨x.toNat, by omega⟩
theorem caBits16 : ∀ i : Fin 16, (spec_caBits.f 8 ((i : Nat) : Int)).map (fun l => (l.length : Int)) = some (popTab.getD i 0) := by decide +kernel
theorem listed16 : ∀ i : Fin 16, (impl_listed.f 20 ((i : Nat) : Int)).map (fun l => (l.length : Int)) = some (popTab.getD i 0) := by decide +kernel
theorem caBits_ev {x : Int} (h : 0 ≤ x ∧ x < 16) : ∃ l, Ev (fun k => spec_caBits.f k x) l ∧ (l.length : Int) = pop x := by
  obtain ⟨i, rfl⟩ := Int.eq_ofNat_of_zero_le h.1
  obtain ⟨l, h1, h2⟩ := Option.map_eq_some_iff.1 (caBits16 ⟨i, by omega⟩)
  exact ⟨l, Ev.of (fun k => spec_caBits.mono _ k) h1, h2⟩
theorem listed_ev {x : Int} (h : 0 ≤ x ∧ x < 16) : ∃ l, Ev (fun k => impl_listed.f k x) l ∧ (l.length : Int) = pop x := by
  obtain ⟨i, rfl⟩ := Int.eq_ofNat_of_zero_le h.1
  obtain ⟨l, h1, h2⟩ := Option.map_eq_some_iff.1 (listed16 ⟨i, by omega⟩)
  exact ⟨l, Ev.of (fun k => impl_listed.mono _ k) h1, h2⟩
def cntN (t : List Int) (i : Nat) : Int := ((t.take i).map pop).sum
def cnt (t : List Int) : Int := cntN t t.length
theorem cntN_succ (t : List Int) (i : Nat) (h : i < t.length) : cntN t (i + 1) = cntN t i + pop t[i] := by
  unfold cntN
  rw [List.take_succ_eq_append_getElem h, List.map_append, List.sum_append]
  simp
theorem cntN_le {t : List Int} (hs : small t) (i : Nat) (h : i ≤ t.length) : 0 ≤ cntN t i ∧ cntN t i ≤ 4 * i := by
  induction i with
  | zero => simp [cntN]
  | succ i ih =>
    have h1 := ih (by omega)
    have h2 := pop_le (hs t[i] (List.getElem_mem (by omega)))
    rw [cntN_succ t i (by omega)]
    omega
theorem caCount_ev {t : List Int} (hs : small t) (hl : t.length ≤ 1048576) : Ev (fun k => spec_caCount.f k t) (cnt t) := by
  unfold spec_caCount.f
  refine (ev_down t.length (fun i k => spec_caCount.l0 k (cntN t i) t (t.length : Int) (i : Int)) (fun _ => cnt t) (Ev.step (f := fun _ => some (cnt t)) (fun k => by simp only [spec_caCount.l0]; rw [if_neg (by omega)]; rfl) (Ev.now _)) (fun i hi ih => ?_)) 0 (Nat.zero_le _)
  obtain ⟨b, hb, hbl⟩ := caBits_ev (hs t[i] (List.getElem_mem hi))
  refine Ev.step (f := fun k => (spec_caBits.f k t[i]).bind fun b => spec_caCount.l0 k (wrap64 (cntN t i + (b.length : Int))) t (t.length : Int) ((i + 1 : Nat) : Int)) (fun k => ?_) (Ev.bind hb ?_)
  · simp only [spec_caCount.l0]
    rw [if_pos (by omega), if_pos (by omega), if_pos (by omega), rd_nat t i hi, w64 (n := (i : Int) + 1) (by omega) (by omega)]
    rfl
  · have h1 := cntN_le hs i (by omega)
    have h2 := pop_le (hs t[i] (List.getElem_mem hi))
    rw [hbl, w64 (n := cntN t i + pop t[i]) (by omega) (by omega), ← cntN_succ t i hi]
    exact ih
theorem count_ev {t : List Int} (hs : small t) (hl : t.length ≤ 1048576) : Ev (fun k => impl_news_count.f k t) (cnt t) := by
  unfold impl_news_count.f
  refine (ev_down t.length (fun i k => impl_news_count.l0 k (cntN t i) t (t.length : Int) (i : Int)) (fun _ => cnt t) (Ev.step (f := fun _ => some (cnt t)) (fun k => by simp only [impl_news_count.l0]; rw [if_neg (by omega)]; rfl) (Ev.now _)) (fun i hi ih => ?_)) 0 (Nat.zero_le _)
  have h1 := cntN_le hs i (by omega)
  have h3 := hs t[i] (List.getElem_mem hi)
  have h2 := pop_le h3
  refine Ev.step (f := fun k => impl_news_count.l0 k (cntN t (i + 1)) t (t.length : Int) ((i + 1 : Nat) : Int)) (fun k => ?_) ih
  have ho : bits_OnesCount16.f t[i] = some (pop t[i]) := by unfold bits_OnesCount16.f; rw [if_pos h3]; rfl
  simp only [impl_news_count.l0]
  rw [if_pos (by omega), if_pos (by omega), if_pos (by omega), rd_nat t i hi, ho, Option.bind_some, w64 (n := cntN t i + pop t[i]) (by omega) (by omega), ← cntN_succ t i hi, w64 (n := (i : Int) + 1) (by omega) (by omega)]
  rfl
def learnedV (N : Nat) (cs : List S74) (j : Nat) : Int := cnt (play N (cs.take (j + 1))) - cnt (play N (cs.take j))
theorem cnt_le {t : List Int} (hs : small t) (hl : t.length ≤ 1048576) : 0 ≤ cnt t ∧ cnt t ≤ 4194304 := by
  have := cntN_le hs t.length (Nat.le_refl _)
  unfold cnt
  omega
theorem caLearned_ev (N : Nat) (hN : N ≤ 4) (cs : List S74) (h : okCs N cs) (hl : cs.length ≤ 1048576) (j : Nat) (hj : j < cs.length) : Ev (fun k => spec_caLearned.f k (N : Int) cs (j : Int)) (learnedV N cs j) := by
  have s1 := play_small N hN _ (okCs_take h (j + 1))
  have s2 := play_small N hN _ (okCs_take h j)
  have b1 := cnt_le s1 (by rw [play_len]; omega)
  have b2 := cnt_le s2 (by rw [play_len]; omega)
  unfold spec_caLearned.f
  rw [w64 (n := (j : Int) + 1) (by omega) (by omega), show ((j : Int) + 1).toNat = j + 1 by omega, Int.toNat_natCast]
  refine ev_pos (by omega) (ev_pos (by omega) (Ev.bind (caPlay_ev N hN _ (okCs_take h (j + 1)) (by rw [List.length_take]; omega)) (Ev.bind (caCount_ev s1 (by rw [play_len]; omega)) (ev_pos (by omega) (ev_pos (by omega) (Ev.bind (caPlay_ev N hN _ (okCs_take h j) (by rw [List.length_take]; omega)) (Ev.bind (caCount_ev s2 (by rw [play_len]; omega)) (ev_eq ?_ (Ev.now _)))))))))
  exact w64 (by omega) (by omega)
theorem learned_ev (N : Nat) (hN : N ≤ 4) (cs : List S74) (h : okCs N cs) (hl : cs.length ≤ 1048576) (j : Nat) (hj : j < cs.length) : Ev (fun k => impl_learned.f k (N : Int) cs (j : Int)) (learnedV N cs j) := by
  have s1 := play_small N hN _ (okCs_take h (j + 1))
  have s2 := play_small N hN _ (okCs_take h j)
  have b1 := cnt_le s1 (by rw [play_len]; omega)
  have b2 := cnt_le s2 (by rw [play_len]; omega)
  unfold impl_learned.f
  rw [w64 (n := (j : Int) + 1) (by omega) (by omega), show ((j : Int) + 1).toNat = j + 1 by omega, Int.toNat_natCast]
  refine ev_pos (by omega) (ev_pos (by omega) (Ev.bind (after_ev N hN _ (okCs_take h (j + 1)) (by rw [List.length_take]; omega)) (Ev.bind (count_ev s1 (by rw [play_len]; omega)) (ev_pos (by omega) (ev_pos (by omega) (Ev.bind (after_ev N hN _ (okCs_take h j) (by rw [List.length_take]; omega)) (Ev.bind (count_ev s2 (by rw [play_len]; omega)) (ev_eq ?_ (Ev.now _)))))))))
  exact w64 (by omega) (by omega)

theorem ev_forall {α : Type} (l : List α) (Q : Nat → α → Prop) (h : ∀ x, x ∈ l → ∃ K, ∀ k, K ≤ k → Q k x) : ∃ K, ∀ k, K ≤ k → ∀ x, x ∈ l → Q k x := by
  induction l with
  | nil => exact ⟨0, fun _ _ _ hx => by cases hx⟩
  | cons a l ih =>
    obtain ⟨K1, h1⟩ := h a List.mem_cons_self
    obtain ⟨K2, h2⟩ := ih fun x hx => h x (List.mem_cons_of_mem _ hx)
    refine ⟨max K1 K2, fun k hk x hx => ?_⟩
    rcases List.mem_cons.1 hx with rfl | hx
    · exact h1 k (by omega)
    · exact h2 k (by omega) x hx

theorem bit16 : ∀ (x : Fin 16) (b : Fin 4), Go.bits .and .u16 (shr .u16 ((x : Nat) : Int) ((b : Nat) : Int)) 1 = ((x / 2 ^ (b : Nat) % 2 : Nat) : Int) ∧ Go.bits .and .i64 (shr .i64 ((x : Nat) : Int) ((b : Nat) : Int)) 1 = ((x / 2 ^ (b : Nat) % 2 : Nat) : Int) := by decide +kernel
def bitV (x b : Int) : Int := ((x.toNat / 2 ^ b.toNat % 2 : Nat) : Int)
theorem bit_v {x b : Int} (hx : 0 ≤ x ∧ x < 16) (hb : 0 ≤ b ∧ b < 4) : Go.bits .and .u16 (shr .u16 x b) 1 = bitV x b ∧ Go.bits .and .i64 (shr .i64 x b) 1 = bitV x b := by
  obtain ⟨i, rfl⟩ := Int.eq_ofNat_of_zero_le hx.1
  obtain ⟨j, rfl⟩ := Int.eq_ofNat_of_zero_le hb.1
  exact bit16 ⟨i, by omega⟩ ⟨j, by omega⟩
theorem bitV_le (x b : Int) : 0 ≤ bitV x b ∧ bitV x b ≤ 1 := by
  unfold bitV
  omega
def cntIdx (p : Int → Bool) (n : Nat) : Int := ((idxs p n).length : Int)
theorem cntIdx_succ (p : Int → Bool) (n : Nat) : cntIdx p (n + 1) = cntIdx p n + if p (n : Int) = true then 1 else 0 := by
  unfold cntIdx
  rw [idxs_succ, List.length_append]
  split <;> simp
theorem cntIdx_le (p : Int → Bool) (n : Nat) : 0 ≤ cntIdx p n ∧ cntIdx p n ≤ n := by
  have := idxs_len p n
  unfold cntIdx
  omega
def idleV (N : Nat) (cs : List S74) (j : Int) : Bool := learnedV N cs j.toNat == 0
/-- what a clue of a kind tells -/
def valueV (N : Nat) (kind a b : Int) (cs : List S74) : Int :=
  if kind = 0 then cntIdx (inCall cs a) cs.length
  else if kind = 1 then pop (rd (play N cs) a)
  else if kind = 2 then bitV (rd (play N cs) a) b
  else if kind = 3 then cntIdx (idleV N cs) cs.length
  else if kind = 4 then (if inCall cs b a = true then 1 else 0)
  else cnt (play N cs)
/-- what is asked is there -/
structure Asked (N M : Nat) (kind a b : Int) : Prop where
  k0 : kind = 0 → 0 ≤ a ∧ a < N
  k1 : kind = 1 → 0 ≤ a ∧ a < N
  k2 : kind = 2 → (0 ≤ a ∧ a < N) ∧ 0 ≤ b ∧ b < N
  k4 : kind = 4 → 0 ≤ a ∧ a < M
theorem pzIn_v (c : S74) (x : Int) : spec_pzIn.f c.f0 c.f1 x = some (if (c.f0 == x || c.f1 == x) = true then 1 else 0) := by
  unfold spec_pzIn.f
  by_cases h0 : c.f0 = x <;> by_cases h1 : c.f1 = x <;> simp [h0, h1]
theorem inCall_at (cs : List S74) (x : Int) (i : Nat) (h : i < cs.length) : inCall cs x (i : Int) = (cs[i].f0 == x || cs[i].f1 == x) := by
  unfold inCall
  rw [rd_call cs i h]
theorem pzValue_0 (cs : List S74) (x : Int) (hl : cs.length ≤ 1048576) : Ev (fun k => spec_pzValue.l0 k x 0 cs (cs.length : Int) 0) (cntIdx (inCall cs x) cs.length) := by
  refine (ev_down cs.length (fun i k => spec_pzValue.l0 k x (cntIdx (inCall cs x) i) cs (cs.length : Int) (i : Int)) (fun _ => cntIdx (inCall cs x) cs.length) (Ev.step (f := fun _ => some (cntIdx (inCall cs x) cs.length)) (fun k => by simp only [spec_pzValue.l0]; rw [if_neg (by omega)]) (Ev.now _)) (fun i hi ih => ?_)) 0 (Nat.zero_le _)
  have h1 := cntIdx_le (inCall cs x) i
  have h2 := cntIdx_le (inCall cs x) (i + 1)
  refine Ev.step (f := fun k => spec_pzValue.l0 k x (cntIdx (inCall cs x) (i + 1)) cs (cs.length : Int) ((i + 1 : Nat) : Int)) (fun k => ?_) ih
  simp only [spec_pzValue.l0, rd_call cs i hi]
  rw [if_pos (by omega), if_pos (by omega), if_pos (by omega), pzIn_v, Option.bind_some, ← inCall_at cs x i hi, ← cntIdx_succ, w64 (n := cntIdx (inCall cs x) (i + 1)) (by omega) (by omega), w64 (n := (i : Int) + 1) (by omega) (by omega)]
  rfl
theorem pzValue_3 (N : Nat) (hN : N ≤ 4) (cs : List S74) (h : okCs N cs) (hl : cs.length ≤ 1048576) : Ev (fun k => spec_pzValue.l1 k (N : Int) cs 0 (cs.length : Int) 0) (cntIdx (idleV N cs) cs.length) := by
  refine (ev_down cs.length (fun i k => spec_pzValue.l1 k (N : Int) cs (cntIdx (idleV N cs) i) (cs.length : Int) (i : Int)) (fun _ => cntIdx (idleV N cs) cs.length) (Ev.step (f := fun _ => some (cntIdx (idleV N cs) cs.length)) (fun k => by simp only [spec_pzValue.l1]; rw [if_neg (by omega)]) (Ev.now _)) (fun i hi ih => ?_)) 0 (Nat.zero_le _)
  have h1 := cntIdx_le (idleV N cs) i
  have h3 := cntIdx_succ (idleV N cs) i
  have hv : idleV N cs (i : Int) = (learnedV N cs i == 0) := by unfold idleV; rw [Int.toNat_natCast]
  rw [hv] at h3
  refine Ev.step (f := fun k => (spec_caLearned.f k (N : Int) cs (i : Int)).bind fun t => if t = 0 then spec_pzValue.l1 k (N : Int) cs (wrap64 (cntIdx (idleV N cs) i + 1)) (cs.length : Int) ((i + 1 : Nat) : Int) else spec_pzValue.l1 k (N : Int) cs (cntIdx (idleV N cs) i) (cs.length : Int) ((i + 1 : Nat) : Int)) (fun k => ?_) (Ev.bind (caLearned_ev N hN cs h hl i hi) ?_)
  · simp only [spec_pzValue.l1]
    rw [if_pos (by omega), w64 (n := (i : Int) + 1) (by omega) (by omega)]
    rfl
  · by_cases h0 : learnedV N cs i = 0
    · rw [h0] at h3
      refine ev_pos h0 ?_
      rw [w64 (n := cntIdx (idleV N cs) i + 1) (by omega) (by omega), show cntIdx (idleV N cs) i + 1 = cntIdx (idleV N cs) (i + 1) by rw [h3]; rfl]
      exact ih
    · refine ev_neg h0 ?_
      rw [show cntIdx (idleV N cs) i = cntIdx (idleV N cs) (i + 1) by rw [h3, if_neg (by simpa using h0), Int.add_zero]]
      exact ih
theorem pzValue_ev (N : Nat) (hN : N ≤ 4) (cs : List S74) (h : okCs N cs) (hl : cs.length ≤ 1048576) (kind a b : Int) (hA : Asked N cs.length kind a b) : Ev (fun k => spec_pzValue.f k (N : Int) kind a b cs) (valueV N kind a b cs) := by
  have hs := play_small N hN cs h
  have hpl := play_len N cs
  unfold spec_pzValue.f valueV
  refine Ev.bind (caPlay_ev N hN cs h hl) ?_
  by_cases k0 : kind = 0
  · rw [if_pos k0]
    exact ev_pos k0 (pzValue_0 cs a hl)
  · rw [if_neg k0]
    refine ev_neg k0 ?_
    by_cases k1 : kind = 1
    · rw [if_pos k1]
      have ha := hA.k1 k1
      obtain ⟨l, h1, h2⟩ := caBits_ev (rd_small hs a ha.1 (by omega))
      exact ev_pos k1 (ev_pos ha.1 (ev_pos (by omega) (Ev.bind h1 (ev_eq h2 (Ev.now _)))))
    · rw [if_neg k1]
      refine ev_neg k1 ?_
      by_cases k2 : kind = 2
      · rw [if_pos k2]
        have ha := hA.k2 k2
        exact ev_pos k2 (ev_pos ha.1.1 (ev_pos (by omega) (ev_pos ha.2.1 (ev_eq (bit_v (rd_small hs a ha.1.1 (by omega)) ⟨ha.2.1, by omega⟩).2 (Ev.now _)))))
      · rw [if_neg k2]
        refine ev_neg k2 ?_
        by_cases k3 : kind = 3
        · rw [if_pos k3]
          exact ev_pos k3 (pzValue_3 N hN cs h hl)
        · rw [if_neg k3]
          refine ev_neg k3 ?_
          by_cases k4 : kind = 4
          · rw [if_pos k4]
            have ha := hA.k4 k4
            obtain ⟨i, rfl⟩ := Int.eq_ofNat_of_zero_le ha.1
            have hi : i < cs.length := by omega
            refine ev_pos k4 (ev_pos ha.1 (ev_pos (by omega) (ev_call (pzIn_v _ _) (ev_eq ?_ (Ev.now _)))))
            rw [inCall_at cs b i hi, rd_call cs i hi]
          · rw [if_neg k4]
            exact ev_neg k4 (Ev.bind (caCount_ev hs (by omega)) (Ev.now _))
theorem bit_f (b : Bool) : impl_bit.f b = some (if b = true then 1 else 0) := by cases b <;> rfl
theorem told_ev (N : Nat) (hN : N ≤ 4) (cs : List S74) (hc : areCa (N : Int) cs = true) (kind a b : Int) (hA : Asked N cs.length kind a b) : Ev (fun k => impl_told.f k (N : Int) kind a b cs) (valueV N kind a b cs) := by
  have h : okCs N cs := fun c hm => by
    unfold areCa at hc
    simp only [Bool.and_eq_true, List.all_eq_true] at hc
    simpa [impl_AreCalls.ok] using hc.2 c hm
  have hl : cs.length ≤ 60 := by
    unfold areCa at hc
    simp only [Bool.and_eq_true, decide_eq_true_eq] at hc
    exact hc.1.2
  have hs := play_small N hN cs h
  have hpl := play_len N cs
  unfold impl_told.f valueV
  refine Ev.bind (after_ev N hN cs h (by omega)) ?_
  by_cases k0 : kind = 0
  · rw [if_pos k0]
    have ha := hA.k0 k0
    have hf : impl_isFriend.f (N : Int) a = some true := by
      unfold impl_isFriend.f impl_within.f
      rw [w64 (n := (N : Int) - 1) (by omega) (by omega), if_pos ha.1]
      simp
      omega
    have hcf : impl_CallsOf.f (N : Int) cs a = some (idxs (inCall cs a) cs.length, true) := by
      unfold impl_CallsOf.f
      rw [if_pos ⟨by rw [implCalls, hc], hf, by omega⟩]
    exact ev_pos k0 (ev_call hcf (Ev.now _))
  · rw [if_neg k0]
    refine ev_neg k0 ?_
    by_cases k1 : kind = 1
    · rw [if_pos k1]
      have ha := hA.k1 k1
      obtain ⟨l, h1, h2⟩ := listed_ev (rd_small hs a ha.1 (by omega))
      exact ev_pos k1 (ev_pos ha.1 (ev_pos (by omega) (Ev.bind h1 (ev_eq h2 (Ev.now _)))))
    · rw [if_neg k1]
      refine ev_neg k1 ?_
      by_cases k2 : kind = 2
      · rw [if_pos k2]
        have ha := hA.k2 k2
        have hb := (bit_v (rd_small hs a ha.1.1 (by omega)) ⟨ha.2.1, (by omega : b < 4)⟩).1
        have hb2 := bitV_le (rd (play N cs) a) b
        refine ev_pos k2 (ev_pos ha.1.1 (ev_pos (by omega) (ev_pos ha.2.1 (ev_call (bit_f _) (ev_eq ?_ (Ev.now _))))))
        rw [hb]
        by_cases h1 : bitV (rd (play N cs) a) b = 1
        · rw [h1]; rfl
        · rw [if_neg (by simpa using h1)]; omega
      · rw [if_neg k2]
        refine ev_neg k2 ?_
        by_cases k3 : kind = 3
        · rw [if_pos k3]
          refine ev_pos k3 ?_
          have he := ev_forall (List.range cs.length) (fun k i => impl_learned.f k (N : Int) cs (i : Int) = some (learnedV N cs i)) (fun i hi => learned_ev N hN cs h (by omega) i (List.mem_range.1 hi))
          obtain ⟨K, hK⟩ := he
          refine ⟨K, fun k hk => ?_⟩
          have hk2 : ∀ i : Nat, i < cs.length → impl_learned.f k (N : Int) cs (i : Int) = some (learnedV N cs i) := fun i hi => hK k hk i (List.mem_range.2 hi)
          have hid : impl_idle.f k (N : Int) cs = some (idxs (idleV N cs) cs.length) := by
            unfold impl_idle.f
            rw [if_pos ⟨by omega, fun i hi => by rw [hk2 i hi]; rfl⟩, idxs_congr' (p := idleAt k (N : Int) cs) (q := idleV N cs) (fun i hi => by unfold idleAt idleV; rw [hk2 i hi, Int.toNat_natCast]; rfl)]
          show (impl_idle.f k (N : Int) cs).bind _ = _
          rw [hid]
          rfl
        · rw [if_neg k3]
          refine ev_neg k3 ?_
          by_cases k4 : kind = 4
          · rw [if_pos k4]
            have ha := hA.k4 k4
            obtain ⟨i, rfl⟩ := Int.eq_ofNat_of_zero_le ha.1
            have hi : i < cs.length := by omega
            refine ev_pos k4 (ev_pos ha.1 (ev_pos (by omega) ?_))
            rw [inCall_at cs b i hi]
            simp only [rd_call cs i hi]
            by_cases h0 : cs[i].f0 = b
            · exact ev_pos h0 (ev_call (bit_f _) (ev_eq (by simp [h0]) (Ev.now _)))
            · exact ev_neg h0 (ev_call (bit_f _) (ev_eq (by simp [h0]) (Ev.now _)))
          · rw [if_neg k4]
            exact ev_neg k4 (Ev.bind (count_ev hs (by omega)) (Ev.now _))

def prs (N : Nat) : List S74 := (List.range N).flatMap fun a => (List.range (N - (a + 1))).map fun q => ⟨(a : Int), ((a + 1 + q : Nat) : Int)⟩
theorem allPairs_0 : impl_allPairs.f 40 0 = some (prs 0) := by kernel_rfl
theorem allPairs_1 : impl_allPairs.f 40 1 = some (prs 1) := by kernel_rfl
theorem allPairs_2 : impl_allPairs.f 40 2 = some (prs 2) := by kernel_rfl
theorem allPairs_3 : impl_allPairs.f 40 3 = some (prs 3) := by kernel_rfl
theorem allPairs_4 : impl_allPairs.f 40 4 = some (prs 4) := by kernel_rfl
theorem allPairs_ev (N : Nat) (hN : N ≤ 4) : Ev (fun k => impl_allPairs.f k (N : Int)) (prs N) := by
  refine Ev.of (fun k => impl_allPairs.mono _ k) (k := 40) ?_
  have h : N = 0 ∨ N = 1 ∨ N = 2 ∨ N = 3 ∨ N = 4 := by omega
  rcases h with rfl | rfl | rfl | rfl | rfl
  · exact allPairs_0
  · exact allPairs_1
  · exact allPairs_2
  · exact allPairs_3
  · exact allPairs_4
theorem prs_len : ∀ i : Fin 5, (prs i).length ≤ 6 := by decide +kernel
theorem prs_ok (N : Nat) (p : S74) (hp : p ∈ prs N) : 0 ≤ p.f0 ∧ p.f0 < p.f1 ∧ p.f1 < (N : Int) := by
  unfold prs at hp
  obtain ⟨a, ha, h2⟩ := List.mem_flatMap.1 hp
  obtain ⟨q, hq, rfl⟩ := List.mem_map.1 h2
  have h3 := List.mem_range.1 ha
  have h4 := List.mem_range.1 hq
  refine ⟨by simp, ?_, ?_⟩
  · show (a : Int) < ((a + 1 + q : Nat) : Int)
    omega
  · show ((a + 1 + q : Nat) : Int) < (N : Int)
    omega
theorem prs_flat {β : Type} (N : Nat) (f : S74 → List β) : (prs N).flatMap f = (List.range N).flatMap fun a => (List.range (N - (a + 1))).flatMap fun q => f ⟨(a : Int), ((a + 1 + q : Nat) : Int)⟩ := by
  unfold prs
  rw [List.flatMap_assoc]
  congr 1
  funext a
  rw [List.flatMap_map]
def fitsV (N : Nat) (l : List S74) (c : S31) : Bool := valueV N c.f0 c.f1 c.f2 l == c.f3
/-- the lists that begin so, with m calls more, and fit all clues -/
def valL (N : Nat) (cs : List S31) : Nat → List S74 → List (List S74)
  | 0, l => if (cs.any fun c => !fitsV N l c) = true then [] else [l]
  | m + 1, l => (prs N).flatMap fun p => valL N cs m (l ++ [p])
theorem valL_mem (N : Nat) (cs : List S31) : ∀ (m : Nat) (l x : List S74), x ∈ valL N cs m l → x.length = l.length + m := by
  intro m
  induction m with
  | zero =>
    intro l x hx
    unfold valL at hx
    split at hx
    · cases hx
    · rw [List.mem_singleton.1 hx]
      rfl
  | succ m ih =>
    intro l x hx
    unfold valL at hx
    obtain ⟨p, _, h2⟩ := List.mem_flatMap.1 hx
    rw [ih _ _ h2, List.length_append, List.length_singleton]
    omega
theorem okCs_snoc {N : Nat} {l : List S74} (h : okCs N l) {p : S74} (hp : 0 ≤ p.f0 ∧ p.f0 < p.f1 ∧ p.f1 < (N : Int)) : okCs N (l ++ [p]) := by
  intro c hc
  rcases List.mem_append.1 hc with hc | hc
  · exact h c hc
  · rw [List.mem_singleton.1 hc]
    exact hp
theorem areCa_of {N : Nat} {l : List S74} (h1 : 1 ≤ N) (h2 : N ≤ 4) (h : okCs N l) (hl : l.length ≤ 60) : areCa (N : Int) l = true := by
  unfold areCa
  simp only [Bool.and_eq_true, decide_eq_true_eq, List.all_eq_true]
  exact ⟨⟨⟨by omega, by omega⟩, hl⟩, fun c hc => by simpa [impl_AreCalls.ok] using h c hc⟩
theorem implFits_ev (N : Nat) (h1 : 1 ≤ N) (h2 : N ≤ 4) (l : List S74) (h : okCs N l) (hl : l.length ≤ 60) (c : S31) (hA : Asked N l.length c.f0 c.f1 c.f2) : Ev (fun k => impl_Clue_fits.f k c.f0 c.f1 c.f2 c.f3 (N : Int) l) (fitsV N l c) := Ev.bind (told_ev N h2 l (areCa_of h1 h2 h hl) _ _ _ hA) (Ev.now _)
theorem specFits_ev (N : Nat) (h2 : N ≤ 4) (l : List S74) (h : okCs N l) (hl : l.length ≤ 60) (c : S31) (hA : Asked N l.length c.f0 c.f1 c.f2) : Ev (fun k => spec_pzFits.f k (N : Int) c.f0 c.f1 c.f2 c.f3 l) (fitsV N l c) := Ev.bind (pzValue_ev N h2 l h (by omega) _ _ _ hA) (Ev.now _)
theorem hid_v (N M : Nat) (h1 : 1 ≤ N) (h2 : N ≤ 4) (hM : M ≤ 3) (cs : List S31) (hA : ∀ c, c ∈ cs → Asked N M c.f0 c.f1 c.f2) : ∀ (m : Nat) (l : List S74), okCs N l → l.length + m = M → ∃ K, ∀ k, K ≤ k → hidOk k (N : Int) cs (prs N) m l = true ∧ hidL k (N : Int) cs (prs N) m l = valL N cs m l := by
  intro m
  induction m with
  | zero =>
    intro l hl hm
    have hm' : l.length = M := by omega
    obtain ⟨K, hK⟩ := ev_forall cs (fun k c => impl_Clue_fits.f k c.f0 c.f1 c.f2 c.f3 (N : Int) l = some (fitsV N l c)) (fun c hc => implFits_ev N h1 h2 l hl (by omega) c (by rw [hm']; exact hA c hc))
    refine ⟨K, fun k hk => ⟨?_, ?_⟩⟩
    · unfold hidOk
      rw [List.all_eq_true]
      exact fun c hc => by rw [hK k hk c hc]; rfl
    · unfold hidL valL
      have e : (cs.any fun c => !fitsB k (N : Int) l c) = cs.any fun c => !fitsV N l c := by
        rw [Bool.eq_iff_iff, List.any_eq_true, List.any_eq_true]
        constructor
        · rintro ⟨c, hc, h⟩
          exact ⟨c, hc, by unfold fitsB at h; rw [hK k hk c hc] at h; exact h⟩
        · rintro ⟨c, hc, h⟩
          exact ⟨c, hc, by unfold fitsB; rw [hK k hk c hc]; exact h⟩
      rw [e]
  | succ m ih =>
    intro l hl hm
    obtain ⟨K, hK⟩ := ev_forall (prs N) (fun k p => hidOk k (N : Int) cs (prs N) m (l ++ [p]) = true ∧ hidL k (N : Int) cs (prs N) m (l ++ [p]) = valL N cs m (l ++ [p])) (fun p hp => ih _ (okCs_snoc hl (prs_ok N p hp)) (by rw [List.length_append, List.length_singleton]; omega))
    refine ⟨K, fun k hk => ⟨?_, ?_⟩⟩
    · unfold hidOk
      rw [List.all_eq_true]
      exact fun p hp => (hK k hk p hp).1
    · unfold hidL valL
      rw [List.flatMap_def, List.flatMap_def]
      exact congrArg _ (List.map_congr_left fun p hp => (hK k hk p hp).2)
theorem look_v (N M : Nat) (h2 : N ≤ 4) (hM : M ≤ 3) (cs : List S31) (hA : ∀ c, c ∈ cs → Asked N M c.f0 c.f1 c.f2) : ∀ (m : Nat) (l : List S74), okCs N l → l.length + m = M → ∃ K, ∀ k, K ≤ k → lookOk k N cs m l = true ∧ lookL k N cs m l = valL N cs m l := by
  intro m
  induction m with
  | zero =>
    intro l hl hm
    have hm' : l.length = M := by omega
    obtain ⟨K, hK⟩ := ev_forall cs (fun k c => spec_pzFits.f k (N : Int) c.f0 c.f1 c.f2 c.f3 l = some (fitsV N l c)) (fun c hc => specFits_ev N h2 l hl (by omega) c (by rw [hm']; exact hA c hc))
    refine ⟨K, fun k hk => ⟨?_, ?_⟩⟩
    · unfold lookOk
      rw [List.all_eq_true]
      exact fun c hc => by rw [hK k hk c hc]; rfl
    · unfold lookL valL
      have e : (cs.any fun c => !fitsS k (N : Int) l c) = cs.any fun c => !fitsV N l c := by
        rw [Bool.eq_iff_iff, List.any_eq_true, List.any_eq_true]
        constructor
        · rintro ⟨c, hc, h⟩
          exact ⟨c, hc, by unfold fitsS at h; rw [hK k hk c hc] at h; exact h⟩
        · rintro ⟨c, hc, h⟩
          exact ⟨c, hc, by unfold fitsS; rw [hK k hk c hc]; exact h⟩
      rw [e]
  | succ m ih =>
    intro l hl hm
    obtain ⟨K, hK⟩ := ev_forall (prs N) (fun k p => lookOk k N cs m (l ++ [p]) = true ∧ lookL k N cs m (l ++ [p]) = valL N cs m (l ++ [p])) (fun p hp => ih _ (okCs_snoc hl (prs_ok N p hp)) (by rw [List.length_append, List.length_singleton]; omega))
    have hin : ∀ a q, a < N → q < N - (a + 1) → (⟨(a : Int), ((a + 1 + q : Nat) : Int)⟩ : S74) ∈ prs N := fun a q ha hq => by
      unfold prs
      exact List.mem_flatMap.2 ⟨a, List.mem_range.2 ha, List.mem_map.2 ⟨q, List.mem_range.2 hq, rfl⟩⟩
    refine ⟨K, fun k hk => ⟨?_, ?_⟩⟩
    · unfold lookOk
      rw [List.all_eq_true]
      intro a ha
      rw [List.all_eq_true]
      exact fun q hq => (hK k hk _ (hin a q (List.mem_range.1 ha) (List.mem_range.1 hq))).1
    · unfold lookL valL
      rw [← prs_flat N (fun p => lookL k N cs m (l ++ [p])), List.flatMap_def, List.flatMap_def]
      exact congrArg _ (List.map_congr_left fun p hp => (hK k hk p hp).2)
theorem hidden_ev (N M : Nat) (h1 : 1 ≤ N) (h2 : N ≤ 4) (hM : M ≤ 3) (cs : List S31) (hc : cs.length ≤ 1048576) (hA : ∀ c, c ∈ cs → Asked N M c.f0 c.f1 c.f2) : Ev (fun k => impl_hidden.f k (N : Int) (M : Int) cs) (valL N cs M []) := by
  unfold impl_hidden.f
  refine Ev.bind (allPairs_ev N h2) ?_
  obtain ⟨K, hK⟩ := hid_v N M h1 h2 hM cs hA M [] (fun c hc => by cases hc) (by simp)
  refine ⟨K, fun k hk => ?_⟩
  obtain ⟨h3, h4⟩ := hK k hk
  show (if _ then _ else _) = _
  rw [Int.toNat_natCast, if_pos ⟨Int.natCast_nonneg _, by omega, prs_len ⟨N, by omega⟩, hc, h3⟩, h4]
theorem pzAll_ev (N M : Nat) (h2 : N ≤ 4) (hM : M ≤ 3) (ls cs : List S31) (hA : ∀ c, c ∈ cs → Asked N M c.f0 c.f1 c.f2) : Ev (fun k => spec_pzAll.f k (N : Int) (M : Int) ls cs) (valL N cs M []) := by
  obtain ⟨K, hK⟩ := look_v N M h2 hM cs hA M [] (fun c hc => by cases hc) (by simp)
  refine ⟨K, fun k hk => ?_⟩
  obtain ⟨h3, h4⟩ := hK k hk
  show spec_pzAll.f k (N : Int) (M : Int) ls cs = _
  unfold spec_pzAll.f
  rw [Int.toNat_natCast, Int.toNat_natCast, if_pos ⟨Int.natCast_nonneg _, by omega, Int.natCast_nonneg _, by omega, h3⟩, h4]

theorem rd_clue (l : List S31) (i : Nat) (hi : i < l.length) : rd_T31 l (i : Int) = l[i] := by
  unfold rd_T31
  rw [Int.toNat_natCast]
  exact getD_at l i hi _
theorem within_eq (a b c : Int) : impl_within.f a b c = some (decide (b ≤ a ∧ a ≤ c)) := by
  unfold impl_within.f
  by_cases h : b ≤ a <;> simp [h]
theorem isBelow_eq (a n : Int) : impl_isBelow.f a n = some (decide (0 ≤ a ∧ a < n)) := by
  unfold impl_isBelow.f
  by_cases h : 0 ≤ a <;> simp [h]
def okSize (a b : Int) : Bool := decide (2 ≤ a ∧ a ≤ 4) && decide (0 ≤ b ∧ b ≤ 3)
theorem areHidden_v (a b : Int) : impl_areHidden.f a b = some (okSize a b) := by
  unfold impl_areHidden.f okSize
  simp only [within_eq, Option.bind_some]
  by_cases h : 2 ≤ a ∧ a ≤ 4 <;> simp [h]
theorem pzSize_v (a b : Int) : spec_pzSize.f a b = some (okSize a b) := by
  unfold spec_pzSize.f okSize
  simp only [l1In_eq, Option.bind_some]
  by_cases h : 2 ≤ a ∧ a ≤ 4 <;> simp [h]
theorem sameClue (a b k x y z : Int) (h : okSize a b = true) : impl_IsClue.f a b k x y z = spec_pzClue.f a b k x y z := by
  have hs := h
  unfold okSize at hs
  simp only [Bool.and_eq_true, decide_eq_true_eq] at hs
  obtain ⟨ha, hb⟩ := hs
  unfold impl_IsClue.f spec_pzClue.f
  rw [areHidden_v, Option.bind_some, h, Bool.true_and]
  unfold clueB
  simp only [l1In_eq, Option.bind_some]
  have e1 : wrap64 (a - 1) = a - 1 := by unfold wrap64; omega
  have e2 : wrap64 (b - 1) = b - 1 := by unfold wrap64; omega
  have q : ∀ u v : Int, (u ≤ v - 1) = (u < v) := fun u v => propext ⟨fun h => by omega, fun h => by omega⟩
  simp only [e1, e2, q]
  by_cases k0 : k = 0
  · subst k0
    by_cases h0 : 0 ≤ x ∧ x < a <;> by_cases h4 : y = 0 <;> simp [h0, h4]
  by_cases k1 : k = 1
  · subst k1
    by_cases h0 : 0 ≤ x ∧ x < a <;> by_cases h4 : y = 0 <;> simp [h0, h4]
  by_cases k2 : k = 2
  · subst k2
    by_cases h0 : 0 ≤ x ∧ x < a <;> by_cases h1 : 0 ≤ y ∧ y < a <;> simp [h0, h1]
  by_cases k3 : k = 3
  · subst k3
    by_cases h3 : x = 0 <;> by_cases h4 : y = 0 <;> simp [h3, h4]
  by_cases k4 : k = 4
  · subst k4
    by_cases h2 : 0 ≤ x ∧ x < b <;> by_cases h1 : 0 ≤ y ∧ y < a <;> simp [h1, h2]
  by_cases k5 : k = 5
  · subst k5
    by_cases h3 : x = 0 <;> by_cases h4 : y = 0 <;> simp [h3, h4]
  simp [k0, k1, k2, k3, k4, k5]
theorem clue_tot (a b k x y z : Int) : Tot (impl_IsClue.f a b k x y z) := by
  unfold impl_IsClue.f
  rw [areHidden_v]
  exact Tot.some _
theorem clue_v (a b : Int) (c : S31) : impl_IsClue.f a b c.f0 c.f1 c.f2 c.f3 = some (clueOk a b c) := by
  obtain ⟨r, hr⟩ := clue_tot a b c.f0 c.f1 c.f2 c.f3
  unfold clueOk
  rw [hr]
  rfl
theorem pzClue_v (a b : Int) (c : S31) (h : okSize a b = true) : spec_pzClue.f a b c.f0 c.f1 c.f2 c.f3 = some (clueOk a b c) := by
  rw [← sameClue a b _ _ _ _ h, clue_v]

def okPz (a b : Int) (l : List S31) : Bool := okSize a b && decide (l.length ≤ 6) && l.all (clueOk a b)
theorem isPuzzle_v (a b : Int) (l : List S31) : impl_IsPuzzle.f a b l = some (okPz a b l) := by
  unfold impl_IsPuzzle.f okPz
  rw [areHidden_v]
  simp only [Option.bind_some]
  rw [if_pos (fun c _ => by rw [clue_v]; rfl), show (l.all (clueOk a b)) = !l.any fun c => !clueOk a b c by simp [List.any_eq_not_all_not]]
theorem pzGood_l (a b : Int) (l : List S31) (hs : okSize a b = true) (hl : l.length ≤ 6) : ∀ i, i ≤ l.length → Ev (fun k => spec_pzGood.l0 k l (l.length : Int) (i : Int) a b l) ((l.drop i).all (clueOk a b)) := by
  refine ev_down l.length _ _ (Ev.step (f := fun _ => some true) (fun k => by simp only [spec_pzGood.l0]; rw [if_neg (by omega)]) (ev_eq (by simp) (Ev.now true))) (fun i hi ih => ?_)
  have hd : l.drop i = l[i] :: l.drop (i + 1) := List.drop_eq_getElem_cons hi
  refine Ev.step (f := fun k => if clueOk a b l[i] = true then spec_pzGood.l0 k l (l.length : Int) ((i + 1 : Nat) : Int) a b l else some false) (fun k => ?_) ?_
  · have hg := rd_clue l i hi
    simp only [spec_pzGood.l0, hg, pzClue_v a b l[i] hs, Option.bind_some]
    rw [if_pos (by omega), if_pos (by omega), if_pos (by omega), w64 (n := (i : Int) + 1) (by omega) (by omega)]
    rfl
  · rw [hd, List.all_cons]
    by_cases ha : clueOk a b l[i] = true
    · exact ev_pos ha (ev_eq (by rw [ha, Bool.true_and]) ih)
    · exact ev_neg ha (ev_eq (by rw [Bool.eq_false_iff.2 ha, Bool.false_and]) (Ev.now false))
theorem pzGood_ev (a b : Int) (l : List S31) (hb : l.length ≤ 9223372036854775807) : Ev (fun k => spec_pzGood.f k a b l) (okPz a b l) := by
  unfold spec_pzGood.f okPz
  refine ev_call (pzSize_v a b) ?_
  by_cases h : okSize a b = true
  · refine ev_pos h ?_
    by_cases hl : l.length ≤ 6
    · refine Ev.step (f := fun k => spec_pzGood.l0 k l (l.length : Int) 0 a b l) (fun k => ?_) (ev_eq ?_ (pzGood_l a b l h hl 0 (Nat.zero_le _)))
      · simp only [spec_pzGood.j0]
        rw [if_neg (by simp; omega)]
      · simp [h, hl]
    · refine Ev.step (f := fun k => some false) (fun k => ?_) (ev_eq (by simp [hl]) (Ev.now false))
      simp only [spec_pzGood.j0]
      rw [if_pos (by simp; omega)]
  · refine ev_neg h (Ev.step (f := fun k => some false) (fun k => ?_) (ev_eq (by rw [Bool.eq_false_iff.2 h, Bool.false_and, Bool.false_and]) (Ev.now false)))
    simp only [spec_pzGood.j0]
    first | rw [if_pos rfl] | rw [if_pos trivial]

theorem asked (N : Nat) (M : Nat) (k x y z : Int) (h : impl_IsClue.f (N : Int) (M : Int) k x y z = some true) : Asked N M k x y := by
  unfold impl_IsClue.f at h
  rw [areHidden_v, Option.bind_some] at h
  have h2 := Option.some.inj h
  rw [Bool.and_eq_true] at h2
  have h3 := h2.2
  unfold clueB at h3
  refine ⟨?_, ?_, ?_, ?_⟩
  · rintro rfl
    simp only [if_true, Bool.and_eq_true, decide_eq_true_eq] at h3
    exact h3.1.1
  · rintro rfl
    simp only [show ¬ ((1 : Int) = 0) by omega, if_true, if_false, Bool.and_eq_true, decide_eq_true_eq] at h3
    exact h3.1.1
  · rintro rfl
    simp only [show ¬ ((2 : Int) = 0) by omega, show ¬ ((2 : Int) = 1) by omega, if_true, if_false, Bool.and_eq_true, decide_eq_true_eq] at h3
    exact ⟨h3.1.1, h3.1.2⟩
  · rintro rfl
    simp only [show ¬ ((4 : Int) = 0) by omega, show ¬ ((4 : Int) = 1) by omega, show ¬ ((4 : Int) = 2) by omega, show ¬ ((4 : Int) = 3) by omega, if_true, if_false, Bool.and_eq_true, decide_eq_true_eq] at h3
    exact h3.1.1
theorem okPz_of {a b : Int} {l : List S31} (h : okPz a b l = true) : ∃ N M : Nat, a = N ∧ b = M ∧ 2 ≤ N ∧ N ≤ 4 ∧ M ≤ 3 ∧ l.length ≤ 6 ∧ ∀ c, c ∈ l → Asked N M c.f0 c.f1 c.f2 := by
  unfold okPz at h
  simp only [Bool.and_eq_true, decide_eq_true_eq, List.all_eq_true] at h
  obtain ⟨⟨h1, h2⟩, h3⟩ := h
  have hs := h1
  unfold okSize at hs
  simp only [Bool.and_eq_true, decide_eq_true_eq] at hs
  obtain ⟨N, rfl⟩ := Int.eq_ofNat_of_zero_le (show 0 ≤ a by omega)
  obtain ⟨M, rfl⟩ := Int.eq_ofNat_of_zero_le (show 0 ≤ b by omega)
  refine ⟨N, M, rfl, rfl, by omega, by omega, by omega, h2, fun c hc => asked N M c.f0 c.f1 c.f2 c.f3 ?_⟩
  rw [clue_v, h3 c hc]
def solV (a b : Int) (cs : List S31) : List (List S74) := valL a.toNat cs b.toNat []
theorem sol_impl {a b : Int} {l : List S31} (h : okPz a b l = true) (cs : List S31) (hcs : cs.length ≤ 1048576) (hsub : ∀ c, c ∈ cs → c ∈ l) : Ev (fun k => impl_hidden.f k a b cs) (solV a b cs) := by
  obtain ⟨N, M, rfl, rfl, h1, h2, h3, h4, h5⟩ := okPz_of h
  exact hidden_ev N M (by omega) h2 h3 cs hcs (fun c hc => h5 c (hsub c hc))
theorem sol_spec {a b : Int} {l : List S31} (h : okPz a b l = true) (ls cs : List S31) (hsub : ∀ c, c ∈ cs → c ∈ l) : Ev (fun k => spec_pzAll.f k a b ls cs) (solV a b cs) := by
  obtain ⟨N, M, rfl, rfl, h1, h2, h3, h4, h5⟩ := okPz_of h
  exact pzAll_ev N M h2 h3 ls cs (fun c hc => h5 c (hsub c hc))

theorem implSolutions_ev (a b : Int) (l : List S31) (hl : l.length ≤ 1048576) : Ev (fun k => impl_Solutions.f k a b l) (if okPz a b l = true then (solV a b l, true) else ([], false)) := by
  unfold impl_Solutions.f
  refine ev_call (isPuzzle_v a b l) ?_
  by_cases h : okPz a b l = true
  · rw [if_pos h]
    exact ev_pos h (Ev.bind (sol_impl h l hl (fun _ hc => hc)) (Ev.now _))
  · rw [if_neg h]
    exact ev_neg h (Ev.now _)

def solsV (a b : Int) (l : List S31) : List (List S74) × Bool := if okPz a b l = true then (solV a b l, true) else ([], false)
theorem flat_len {α β : Type} (f : α → List β) (n : Nat) (h : ∀ x, (f x).length ≤ n) (l : List α) : (l.flatMap f).length ≤ l.length * n := by
  induction l with
  | nil => simp
  | cons x l ih =>
    rw [List.flatMap_cons, List.length_append, List.length_cons, Nat.add_mul, Nat.one_mul]
    have := h x
    omega
theorem valL_len (N : Nat) (cs : List S31) : ∀ (m : Nat) (l : List S74), (valL N cs m l).length ≤ (prs N).length ^ m := by
  intro m
  induction m with
  | zero => intro l; unfold valL; split <;> simp
  | succ m ih =>
    intro l
    unfold valL
    refine Nat.le_trans (flat_len _ _ (fun p => ih (l ++ [p])) (prs N)) ?_
    rw [Nat.pow_succ, Nat.mul_comm]
    exact Nat.le_refl _
theorem prs_six : ∀ N, N ≤ 4 → (prs N).length ≤ 6 := by
  intro N h
  have : N = 0 ∨ N = 1 ∨ N = 2 ∨ N = 3 ∨ N = 4 := by omega
  rcases this with rfl | rfl | rfl | rfl | rfl <;> decide
theorem solsV_len (a b : Int) (l : List S31) : (solsV a b l).1.length ≤ 216 ∧ ∀ x, x ∈ (solsV a b l).1 → x.length ≤ 3 := by
  unfold solsV
  by_cases h : okPz a b l = true
  · rw [if_pos h]
    obtain ⟨N, M, rfl, rfl, h1, h2, h3, h4, h5⟩ := okPz_of h
    unfold solV
    rw [Int.toNat_natCast, Int.toNat_natCast]
    refine ⟨Nat.le_trans (valL_len N l M []) (Nat.le_trans (Nat.pow_le_pow_left (prs_six N h2) M) (Nat.le_trans (Nat.pow_le_pow_right (by omega) h3) (by decide))), fun x hx => ?_⟩
    have := valL_mem N l M [] x hx
    simp only [List.length_nil] at this
    omega
  · rw [if_neg h]
    exact ⟨Nat.zero_le _, fun x hx => by cases hx⟩
theorem prs_in {N : Nat} {c : S74} (h : c ∈ prs N) : 0 ≤ c.f0 ∧ c.f0 < N ∧ 0 ≤ c.f1 ∧ c.f1 < N := by
  unfold prs at h
  obtain ⟨a, ha, h⟩ := List.mem_flatMap.1 h
  obtain ⟨q, hq, rfl⟩ := List.mem_map.1 h
  have h1 := List.mem_range.1 ha
  have h2 := List.mem_range.1 hq
  show 0 ≤ ((a : Nat) : Int) ∧ ((a : Nat) : Int) < N ∧ 0 ≤ ((a + 1 + q : Nat) : Int) ∧ ((a + 1 + q : Nat) : Int) < N
  omega
theorem valL_in (N : Nat) (cs : List S31) : ∀ (m : Nat) (l x : List S74), x ∈ valL N cs m l → ∀ c, c ∈ x → c ∈ l ∨ c ∈ prs N := by
  intro m
  induction m with
  | zero =>
    intro l x hx c hc
    unfold valL at hx
    split at hx
    · cases hx
    · rw [List.mem_singleton.1 hx] at hc
      exact .inl hc
  | succ m ih =>
    intro l x hx c hc
    unfold valL at hx
    obtain ⟨p, hp, hx⟩ := List.mem_flatMap.1 hx
    rcases ih _ _ hx c hc with h | h
    · rcases List.mem_append.1 h with h | h
      · exact .inl h
      · rw [List.mem_singleton.1 h]
        exact .inr hp
    · exact .inr h

theorem data_app (a b : ByteArray) : (a ++ b).data.toList = a.data.toList ++ b.data.toList := by simp [ByteArray.data_append]
theorem joinB_snoc (l : List ByteArray) (x s : ByteArray) : joinB (l ++ [x]) s = if l = [] then x.data.toList else joinB l s ++ s.data.toList ++ x.data.toList := by
  cases l with
  | nil => simp [joinB, Lib.join_one]
  | cons y r =>
    rw [if_neg (by simp)]
    unfold joinB
    rw [List.cons_append, List.map_cons, List.map_cons, Lib.join_cons, Lib.join_cons]
    unfold Lib.joinTail
    simp [List.map_append, List.flatten_append, List.append_assoc]

/-- a digit -/
def dg (x : Int) : ByteArray := strOfNums [(wrap64 (48 + x)) % 256]
/-- the two friends of a call -/
def twoV (c : S74) : ByteArray := dg c.f0 ++ dg c.f1
def anyV (ls : List (List S74)) (j : Nat) (c : S74) : Bool := ls.any fun l => neqC (l.getD j ⟨0, 0⟩) c
/-- what is told of call j -/
def partV (ls : List (List S74)) (x : List S74) (j : Nat) : ByteArray := if anyV ls j (x.getD j ⟨0, 0⟩) = true then ⟨#[63, 63]⟩ else twoV (x.getD j ⟨0, 0⟩)
def out2V (p : Nat → ByteArray) : Nat → ByteArray
  | 0 => ⟨#[]⟩
  | i + 1 => (if i = 0 then out2V p i else out2V p i ++ (⟨#[45]⟩ : ByteArray)) ++ p i
def smallC (c : S74) : Prop := 0 ≤ c.f0 ∧ c.f0 < 4 ∧ 0 ≤ c.f1 ∧ c.f1 < 4
theorem l1Dig_ev {x : Int} (h : x < 10) : Ev (fun k => spec_l1Num.f k x) (dg x) := Ev.step (f := fun _ => some (dg x)) (fun k => by
  simp only [spec_l1Num.f]
  rw [if_pos h]
  rfl) (Ev.now _)
theorem two_v (c : S74) : strOfNums [(wrap64 (48 + c.f0)) % 256, (wrap64 (48 + c.f1)) % 256] = twoV c ∧ (twoV c).size = 2 ∧ (dg c.f0).size = 1 ∧ (dg c.f1).size = 1 := by
  refine ⟨?_, ?_, rfl, rfl⟩
  · apply ByteArray.ext
    simp [strOfNums, twoV, dg]
  · unfold twoV
    rw [ByteArray.size_append]
    rfl
theorem callsText_ev (c : S74) : Ev (fun k => impl_callsText.f k [c]) (twoV c) := by
  unfold impl_callsText.f
  have h2 := two_v c
  have hj : strings_Join.f [twoV c] (⟨#[45]⟩ : ByteArray) = some (twoV c) := by
    have e : joinB [twoV c] (⟨#[45]⟩ : ByteArray) = (twoV c).data.toList := by
      have := joinB_snoc [] (twoV c) (⟨#[45]⟩ : ByteArray)
      rw [if_pos rfl] at this
      exact this
    unfold strings_Join.f
    have hq : (twoV c).data.toList.length = (twoV c).size := by simp
    rw [e, if_pos ⟨by simp, by omega⟩]
  refine Ev.step (f := fun k => impl_callsText.l0 k [twoV c] [c] 1 1) (fun k => ?_) (Ev.step (f := fun _ => some (twoV c)) (fun k => ?_) (Ev.now _))
  · have e0 : rd_T74 [c] 0 = c := rfl
    have w : wrap64 (0 + 1) = 1 := w64 (by omega) (by omega)
    simp only [impl_callsText.l0, List.length_cons, List.length_nil, e0, w]
    rw [if_pos (by omega), if_pos (by omega), if_pos (by omega), if_pos (by omega), h2.1]
    rfl
  · simp only [impl_callsText.l0]
    rw [if_neg (by omega), hj]
    rfl
theorem partV_size {ls : List (List S74)} {x : List S74} {j : Nat} (hx : ∀ c, c ∈ x → smallC c) (hj : j < x.length) : (partV ls x j).size = 2 := by
  unfold partV
  split
  · rfl
  · exact (two_v _).2.1
theorem out2V_size (p : Nat → ByteArray) (n : Nat) (h : ∀ j, j < n → (p j).size = 2) : ∀ i, i ≤ n → (out2V p i).size ≤ 3 * i := by
  intro i
  induction i with
  | zero => intro _; exact Nat.le_refl _
  | succ i ih =>
    intro hi
    have h1 := ih (by omega)
    have h2 := h i (by omega)
    unfold out2V
    rw [ByteArray.size_append, h2]
    split
    · omega
    · rw [ByteArray.size_append, size1]
      omega
theorem out2V_join (p : Nat → ByteArray) (i : Nat) : (out2V p i).data.toList = joinB ((List.range i).map p) ⟨#[45]⟩ := by
  induction i with
  | zero => rfl
  | succ i ih =>
    unfold out2V
    rw [data_app, List.range_succ, List.map_append, List.map_cons, List.map_nil, joinB_snoc]
    by_cases h0 : i = 0
    · subst h0
      rw [if_pos rfl, if_pos (by simp)]
      rfl
    · rw [if_neg h0, if_neg (by simp [h0]), data_app, ih]
theorem l1_ev (ls : List (List S74)) (n : Nat) (hls : ∀ l, l ∈ ls → l.length = n) (hll : ls.length ≤ 1000) (x : List S74) (j : Nat) (hj : j < n) (hn : n ≤ 3) (c : S74) (x5 two : ByteArray) (h5 : x5.size ≤ 100) (h2 : two.size = 2) (R : ByteArray × Bool) :
    ∀ d i, ls.length - i = d → i ≤ ls.length → Ev (fun k => spec_SureCalls.l0 k ls ((if j = 0 then x5 else x5 ++ (⟨#[45]⟩ : ByteArray)) ++ (if anyV (ls.drop i) j c = true then (⟨#[63, 63]⟩ : ByteArray) else two)) x (n : Int) ((j + 1 : Nat) : Int)) R →
      Ev (fun k => spec_SureCalls.l1 k ls x5 (j : Int) two x (n : Int) (j : Int) ls (ls.length : Int) (i : Int) c.f0 c.f1) R := by
  have hw : wrap64 ((j : Int) + 1) = ((j + 1 : Nat) : Int) := by rw [w64 (by omega) (by omega)]; omega
  have j0 : (0 : Int) ≤ (j : Int) := Int.natCast_nonneg _
  have s1 : x5.size + 1 ≤ 9223372036854775807 := by omega
  have s2 : x5.size + 2 ≤ 9223372036854775807 := by omega
  have s3 : (x5 ++ (⟨#[45]⟩ : ByteArray)).size + 2 ≤ 9223372036854775807 := by rw [ByteArray.size_append, size1]; omega
  have s4 : (x5 ++ (⟨#[45]⟩ : ByteArray)).size + two.size ≤ 9223372036854775807 := by rw [h2]; exact s3
  have s5 : x5.size + two.size ≤ 9223372036854775807 := by rw [h2]; exact s2
  have jp : ¬ j = 0 → (j : Int) > 0 := fun h0 => by omega
  have jz : ¬ ((0 : Nat) : Int) > 0 := by omega
  intro d
  induction d with
  | zero =>
    intro i hd hi h
    obtain rfl : i = ls.length := by omega
    have e : anyV (ls.drop ls.length) j c = false := by simp [anyV]
    rw [e, if_neg Bool.false_ne_true] at h
    refine Ev.step (fun k => ?_) h
    simp only [spec_SureCalls.l1]
    rw [if_neg (Int.lt_irrefl _), hw]
    by_cases h0 : j = 0
    · subst h0
      rw [if_neg jz, if_pos s5, if_pos rfl]
    · rw [if_pos (jp h0), if_pos s1, if_pos s4, if_neg h0]
  | succ d ih =>
    intro i hd hi h
    have hlt : i < ls.length := by omega
    have d1 : ls.length - (i + 1) = d := by omega
    have i0 : (0 : Int) ≤ (i : Int) := Int.natCast_nonneg _
    have i1 : (i : Int) < (ls.length : Int) := Int.ofNat_lt.2 hlt
    have hw2 : wrap64 ((i : Int) + 1) = ((i + 1 : Nat) : Int) := by rw [w64 (by omega) (by omega)]; omega
    have hdr : ls.drop i = ls[i] :: ls.drop (i + 1) := List.drop_eq_getElem_cons hlt
    have hat : rd_L5 ls (i : Int) = ls[i] := by
      unfold rd_L5
      rw [Int.toNat_natCast]
      exact getD_at ls i hlt _
    have hlen := hls ls[i] (List.getElem_mem hlt)
    have hrd : rd_T74 ls[i] (j : Int) = ls[i].getD j ⟨0, 0⟩ := by
      unfold rd_T74
      rw [Int.toNat_natCast, getD_at _ j (Nat.lt_of_lt_of_eq hj hlen.symm), getD_at _ j (Nat.lt_of_lt_of_eq hj hlen.symm)]
    have j1 : (j : Int) < (ls[i].length : Int) := Int.ofNat_lt.2 (Nat.lt_of_lt_of_eq hj hlen.symm)
    have hneq : (!((ls[i].getD j ⟨0, 0⟩).f0 == c.f0) || !((ls[i].getD j ⟨0, 0⟩).f1 == c.f1)) = neqC (ls[i].getD j ⟨0, 0⟩) c := by
      unfold neqC
      cases ((ls[i].getD j ⟨0, 0⟩).f0 == c.f0) <;> rfl
    have ha : anyV (ls.drop i) j c = (neqC (ls[i].getD j ⟨0, 0⟩) c || anyV (ls.drop (i + 1)) j c) := by
      unfold anyV
      rw [hdr, List.any_cons]
    cases hb : neqC (ls[i].getD j ⟨0, 0⟩) c with
    | true =>
      rw [ha, hb, Bool.true_or, if_pos rfl] at h
      refine Ev.step (fun k => ?_) h
      simp only [spec_SureCalls.l1, hat, hrd, hneq, hb]
      rw [if_pos i1, if_pos i0, if_pos i1, if_pos j0, if_pos j1, if_pos trivial, hw]
      by_cases h0 : j = 0
      · subst h0
        rw [if_neg jz, if_pos s2, if_pos rfl]
      · rw [if_pos (jp h0), if_pos s1, if_pos s3, if_neg h0]
    | false =>
      rw [ha, hb, Bool.false_or] at h
      refine Ev.step (fun k => ?_) (ih (i + 1) d1 hlt h)
      simp only [spec_SureCalls.l1, hat, hrd, hneq, hb]
      rw [if_pos i1, if_pos i0, if_pos i1, if_pos j0, if_pos j1, if_neg Bool.false_ne_true, hw2]
theorem l0_ev (ls : List (List S74)) (n : Nat) (hls : ∀ l, l ∈ ls → l.length = n) (hll : ls.length ≤ 1000) (x : List S74) (hx : ∀ c, c ∈ x → smallC c) (hxn : x.length = n) (hn : n ≤ 3) :
    Ev (fun k => spec_SureCalls.l0 k ls (⟨#[]⟩ : ByteArray) x (n : Int) 0) (out2V (partV ls x) n, true) := by
  refine ev_down n (fun j k => spec_SureCalls.l0 k ls (out2V (partV ls x) j) x (n : Int) (j : Int)) (fun _ => (out2V (partV ls x) n, true)) (Ev.step (f := fun _ => some (out2V (partV ls x) n, true)) (fun k => by simp only [spec_SureCalls.l0]; rw [if_neg (by omega)]) (Ev.now _)) (fun j hj ih => ?_) 0 (Nat.zero_le _)
  have hjx : j < x.length := by omega
  obtain ⟨c, hc⟩ : ∃ c, c = x[j] := ⟨_, rfl⟩
  have hsm : smallC c := by rw [hc]; exact hx _ (List.getElem_mem hjx)
  have hrd : rd_T74 x (j : Int) = c := by
    unfold rd_T74
    rw [Int.toNat_natCast, getD_at _ j hjx, hc]
  have hgd : x.getD j ⟨0, 0⟩ = c := by rw [getD_at _ j hjx, hc]
  have h2 := two_v c
  have hs := out2V_size (partV ls x) n (fun i hi => partV_size hx (by omega)) j (by omega)
  have hl1 := l1_ev ls n hls hll x j hj hn c (out2V (partV ls x) j) (twoV c) (by omega) h2.2.1 (out2V (partV ls x) n, true) ls.length 0 (by omega) (Nat.zero_le _) (by
    have e : (if j = 0 then out2V (partV ls x) j else out2V (partV ls x) j ++ (⟨#[45]⟩ : ByteArray)) ++ (if anyV (ls.drop 0) j c = true then (⟨#[63, 63]⟩ : ByteArray) else twoV c) = out2V (partV ls x) (j + 1) := by
      rw [out2V, partV, hgd, List.drop_zero]
    rw [e]
    exact ih)
  refine Ev.step (f := fun k => (spec_l1Num.f k c.f0).bind fun t => (spec_l1Num.f k c.f1).bind fun t2 => if t.size + t2.size ≤ 9223372036854775807 then spec_SureCalls.l1 k ls (out2V (partV ls x) j) (j : Int) (t ++ t2) x (n : Int) (j : Int) ls (ls.length : Int) 0 c.f0 c.f1 else none) (fun k => ?_) (Ev.bind (l1Dig_ev (by have := hsm.2.1; omega)) (Ev.bind (l1Dig_ev (by have := hsm.2.2.2; omega)) (ev_pos (by omega) hl1)))
  simp only [spec_SureCalls.l0, hrd]
  rw [if_pos (by omega), if_pos (by omega), if_pos (by omega)]
theorem sureN_ev (ls : List (List S74)) (n : Nat) (hls : ∀ l, l ∈ ls → l.length = n) (x : List S74) (hx : ∀ c, c ∈ x → smallC c) (hxn : x.length = n) :
    Ev (fun k => sureN k ls 0 x []) ((List.range n).map (partV ls x)) := by
  have h := ev_down n (fun j k => sureN k ls j (x.drop j) ((List.range j).map (partV ls x))) (fun _ => (List.range n).map (partV ls x)) (ev_eq rfl (by
    rw [List.drop_of_length_le (by omega)]
    exact Ev.now _)) (fun j hj ih => ?_) 0 (Nat.zero_le _)
  · simpa using h
  · have hjx : j < x.length := by omega
    have hsm : smallC x[j] := hx _ (List.getElem_mem hjx)
    have hall : (ls.all fun l => decide (j < l.length)) = true := by
      rw [List.all_eq_true]
      intro l hl
      have := hls l hl
      simp only [decide_eq_true_eq]
      omega
    rw [List.drop_eq_getElem_cons hjx]
    refine Ev.bind (callsText_ev x[j]) (ev_pos hall ?_)
    refine Ev.congr ?_ ih
    intro k
    have e : (List.range (j + 1)).map (partV ls x) = (List.range j).map (partV ls x) ++ [if (ls.any fun l => neqC (l.getD j ⟨0, 0⟩) x[j]) = true then (⟨#[63, 63]⟩ : ByteArray) else twoV x[j]] := by
      rw [List.range_succ, List.map_append, List.map_cons, List.map_nil]
      unfold partV
      rw [getD_at x j hjx]
      rfl
    rw [e]
/-- what both come to -/
def sureV (a b : Int) (l : List S31) : ByteArray × Bool := match (solsV a b l).1 with
  | [] => (⟨#[]⟩, false)
  | x :: xs => (out2V (partV (x :: xs) x) x.length, true)
theorem solsV_same (a b : Int) (l : List S31) : ∃ n, n ≤ 3 ∧ ∀ x, x ∈ (solsV a b l).1 → x.length = n ∧ ∀ c, c ∈ x → smallC c := by
  unfold solsV
  by_cases h : okPz a b l = true
  · rw [if_pos h]
    obtain ⟨N, M, rfl, rfl, h1, h2, h3, h4, h5⟩ := okPz_of h
    unfold solV
    rw [Int.toNat_natCast, Int.toNat_natCast]
    refine ⟨M, h3, fun x hx => ⟨?_, fun c hc => ?_⟩⟩
    · have := valL_mem N l M [] x hx
      simpa using this
    · rcases valL_in N l M [] x hx c hc with h | h
      · cases h
      · have := prs_in h
        unfold smallC
        omega
  · rw [if_neg h]
    exact ⟨0, by decide, fun x hx => by cases hx⟩
theorem sureV_size (a b : Int) (l : List S31) : (sureV a b l).1.size ≤ 9 := by
  obtain ⟨n, hn, h⟩ := solsV_same a b l
  unfold sureV
  cases hs : (solsV a b l).1 with
  | nil => exact Nat.zero_le _
  | cons x xs =>
    obtain ⟨hx, hc⟩ := h x (by rw [hs]; exact List.mem_cons_self)
    have := out2V_size (partV (x :: xs) x) x.length (fun j hj => partV_size hc hj) x.length (Nat.le_refl _)
    simp only
    omega
theorem spec_sure (a b : Int) (l : List S31) (hl : l.length ≤ 1048576) : Ev (fun k => spec_SureCalls.f k a b l) (sureV a b l) := by
  obtain ⟨n, hn, h⟩ := solsV_same a b l
  have h200 := (solsV_len a b l).1
  unfold spec_SureCalls.f
  refine Ev.bind (pzGood_ev a b l (by omega)) ?_
  by_cases hp : okPz a b l = true
  · have e : (solsV a b l).1 = solV a b l := by unfold solsV; rw [if_pos hp]
    refine ev_pos hp (Ev.bind (sol_spec hp l l (fun _ hc => hc)) ?_)
    unfold sureV
    rw [← e]
    cases hs : (solsV a b l).1 with
    | nil => exact ev_pos rfl (Ev.now _)
    | cons x xs =>
      rw [hs] at h h200
      obtain ⟨hx, hc⟩ := h x List.mem_cons_self
      have e0 : rd_L5 (x :: xs) 0 = x := rfl
      refine ev_neg (by simp only [List.length_cons]; omega) (ev_pos (by simp only [List.length_cons]; omega) ?_)
      rw [e0]
      show Ev _ (out2V (partV (x :: xs) x) x.length, true)
      rw [hx]
      exact l0_ev (x :: xs) n (fun l hl => (h l hl).1) (by omega) x hc hx hn
  · have e : (solsV a b l).1 = [] := by unfold solsV; rw [if_neg hp]
    refine ev_neg hp ?_
    unfold sureV
    rw [e]
    exact Ev.now _
theorem impl_sure (a b : Int) (l : List S31) (hl : l.length ≤ 1048576) : Ev (fun k => impl_SureCalls.f k a b l) (sureV a b l) := by
  obtain ⟨n, hn, h⟩ := solsV_same a b l
  have hz := sureV_size a b l
  unfold impl_SureCalls.f
  refine Ev.bind (implSolutions_ev a b l hl) ?_
  change Ev (fun k => match (solsV a b l).1 with
    | [] => some (⟨#[]⟩, false)
    | x :: _ => if x.length ≤ 1000000 then (sureN k (solsV a b l).1 0 x []).bind fun ps => (strings_Join.f ps ⟨#[45]⟩).bind fun s => some (s, true) else none) _
  unfold sureV at hz ⊢
  cases hs : (solsV a b l).1 with
  | nil => exact Ev.now _
  | cons x xs =>
    rw [hs] at h hz
    obtain ⟨hx, hc⟩ := h x List.mem_cons_self
    refine ev_pos (by omega) (Ev.bind (sureN_ev (x :: xs) n (fun l hl => (h l hl).1) x hc hx) ?_)
    refine ev_call ?_ (Ev.now _)
    have hj := out2V_join (partV (x :: xs) x) n
    simp only [hx] at hz
    have hq : (out2V (partV (x :: xs) x) n).data.toList.length = (out2V (partV (x :: xs) x) n).size := by simp
    unfold strings_Join.f
    rw [← hj, if_pos ⟨by simp; omega, by omega⟩, hx]
theorem FnExactSureCalls : laws_FnExactSureCalls.Pure := by
  intro a b l _ _ hl _
  refine Ev.rounds ?_
  unfold laws_FnExactSureCalls.f
  refine ev_call (szPuzzle_val a b l hl) ?_
  by_cases hs : l.length ≤ 1048576
  · rw [if_pos hs]
    have hc : (l.map cvClue).length ≤ 1048576 := by simpa using hs
    have hT := toPuzzle_ev a b l hs
    have hS := spec_sure a b (l.map cvClue) hc
    have hI := impl_sure a b (l.map cvClue) hc
    refine ev_neg (by omega) (Ev.bind hT (Ev.bind hS (Ev.bind hT (Ev.bind hI (ev_pos rfl ?_)))))
    refine Ev.step (fun k => by simp only [laws_FnExactSureCalls.j0]; rfl) ?_
    exact (ev_neg (by simp) (Ev.bind hT (Ev.bind (eqPuzzle_ev a b _ hc) (ev_pos rfl (Ev.now _)))))
  · rw [if_neg hs]
    exact ev_pos (by omega) (Ev.now _)

end Go.Proofs.Ythakmnjamdggeaa.Pure
