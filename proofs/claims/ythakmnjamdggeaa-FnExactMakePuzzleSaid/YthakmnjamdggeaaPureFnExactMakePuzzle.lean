/- The law FnExactMakePuzzle in plain Lean: it returns true at every input. No conditions. -/
import Derived.Test.YthakmnjamdggeaaStFnExactMakePuzzle
import Derived.Test.YthakmnjamdggeaaGr
import Derived.Test.YthakmnjamdggeaaGp
namespace Go.Proofs.Ythakmnjamdggeaa.Pure
open Go.RowKit Go.Proofs.Ythakmnjamdggeaa.PFnExactMakePuzzle Go.Proofs.YthakmnjamdggeaaW.PrintWords Go.Proofs.YthakmnjamdggeaaW.PrintLast Go.Proofs.YthakmnjamdggeaaW.PrintMore Go.Proofs.Ythakmnjamdggeaa.Gr Go.Proofs.Ythakmnjamdggeaa.Gp
set_option linter.unusedVariables false
set_option linter.unusedSimpArgs false

theorem szCallS_val (l : List S76) (h : l.length ≤ 9223372036854775807) : laws_szCallS.f l 1048576 = some (if l.length ≤ 1048576 then 1048576 - (l.length : Int) else -1) := by
  unfold laws_szCallS.f
  rw [w64 (by omega) (by omega)]
  by_cases hl : l.length ≤ 1048576
  · rw [if_neg (by omega), if_pos hl]
  · rw [if_pos (by omega), if_neg hl]

def cvCall (y : S76) : S74 := ⟨y.f0, y.f1⟩
theorem toCallS_ev (l : List S76) (h : l.length ≤ 1048576) : Ev (fun k => laws_toCallS.f k l) (l.map cvCall) := by
  unfold laws_toCallS.f
  refine ev_pos (by omega) (ev_pos (by omega) ?_)
  refine ev_fill l z74 cvCall (fun k st i => laws_toCallS.l0 k l st i) (fun k st i hi hst => ?_) (fun k st hst => ?_)
  · have e : l.getD i z76 = l[i] := getD_at l i hi _
    simp only [laws_toCallS.l0, rd_T76, Int.toNat_natCast]
    rw [if_pos (by omega), if_pos (by omega), e]
    simp only [laws_toCall.f, Option.bind_some, cvCall]
    rw [if_pos (by omega), w64 (by omega) (by omega)]
    rfl
  · simp only [laws_toCallS.l0]
    rw [if_neg (by omega)]

theorem eqCallS_ev (l : List S74) (h : l.length ≤ 1048576) : Ev (fun k => laws_eqCallS.f k l l) true := by
  unfold laws_eqCallS.f
  refine ev_pos rfl (ev_same l (fun k i => laws_eqCallS.l0 k l l i) (fun k i hi => ?_) (fun k => ?_))
  · simp only [laws_eqCallS.l0]
    rw [if_pos (by omega), if_pos (by omega), if_pos (by omega)]
    unfold laws_eqCall.f
    rw [if_pos rfl, if_pos rfl]
    simp only [Option.bind_some, if_true]
    rw [w64 (by omega) (by omega)]
    rfl
  · simp only [laws_eqCallS.l0]
    rw [if_neg (by omega)]

theorem eqClueS_ev (l : List S31) (h : l.length ≤ 1048576) : Ev (fun k => laws_eqClueS.f k l l) true := by
  unfold laws_eqClueS.f
  refine ev_pos rfl (ev_same l (fun k i => laws_eqClueS.l0 k l l i) (fun k i hi => ?_) (fun k => ?_))
  · simp only [laws_eqClueS.l0]
    rw [if_pos (by omega), if_pos (by omega), if_pos (by omega)]
    unfold laws_eqClue.f
    rw [if_pos rfl, if_pos rfl, if_pos rfl, if_pos rfl]
    simp only [Option.bind_some, if_true]
    rw [w64 (by omega) (by omega)]
    rfl
  · simp only [laws_eqClueS.l0]
    rw [if_neg (by omega)]

theorem l1In_eq (a b c : Int) : spec_l1In.f a b c = some (decide (b ≤ a ∧ a ≤ c)) := by
  unfold spec_l1In.f
  by_cases h : b ≤ a <;> simp [h]

theorem rd_call (l : List S74) (i : Nat) (hi : i < l.length) : rd_T74 l (i : Int) = l[i] := by
  unfold rd_T74
  rw [Int.toNat_natCast]
  exact getD_at l i hi _
/-- are these calls of so many friends? -/
def areCa (n : Int) (l : List S74) : Bool := decide (1 ≤ n ∧ n ≤ 10) && decide (l.length ≤ 60) && l.all (impl_AreCalls.ok n)
theorem implCalls (n : Int) (l : List S74) : impl_AreCalls.f n l = some (areCa n l) := by
  unfold impl_AreCalls.f areCa
  rw [show (l.all (impl_AreCalls.ok n)) = !l.any fun c => !impl_AreCalls.ok n c by simp [List.any_eq_not_all_not]]

theorem caCall_v (n x y : Int) (h1 : 1 ≤ n) (h2 : n ≤ 10) : spec_caCall.f n x y = some (decide (0 ≤ x ∧ x < y ∧ y < n)) := by
  unfold spec_caCall.f
  simp only [l1In_eq, Option.bind_some]
  rw [w64 (n := n - 1) (by omega) (by omega)]
  by_cases h : 0 ≤ x ∧ x ≤ n - 1
  · rw [if_pos (by simpa using h), w64 (n := x + 1) (by omega) (by omega)]
    congr 1
    rw [decide_eq_decide]
    omega
  · rw [if_neg (by simpa using h)]
    congr 1
    symm
    rw [decide_eq_false_iff_not]
    omega
theorem caGood_l (n : Int) (l : List S74) (h1 : 1 ≤ n) (h2 : n ≤ 10) (hl : l.length ≤ 60) : ∀ i, i ≤ l.length → Ev (fun k => spec_caGood.l0 k n l (l.length : Int) (i : Int)) ((l.drop i).all (impl_AreCalls.ok n)) := by
  refine ev_down l.length _ _ (Ev.step (f := fun _ => some true) (fun k => by simp only [spec_caGood.l0]; rw [if_neg (by omega)]) (ev_eq (by simp) (Ev.now true))) (fun i hi ih => ?_)
  have hd : l.drop i = l[i] :: l.drop (i + 1) := List.drop_eq_getElem_cons hi
  refine Ev.step (f := fun k => if decide (0 ≤ l[i].f0 ∧ l[i].f0 < l[i].f1 ∧ l[i].f1 < n) = true then spec_caGood.l0 k n l (l.length : Int) ((i + 1 : Nat) : Int) else some false) (fun k => ?_) ?_
  · have hg := rd_call l i hi
    simp only [spec_caGood.l0, caCall_v n _ _ h1 h2, hg, Option.bind_some]
    rw [if_pos (by omega), if_pos (by omega), if_pos (by omega), w64 (n := (i : Int) + 1) (by omega) (by omega)]
    rfl
  · rw [hd, List.all_cons]
    unfold impl_AreCalls.ok at ih ⊢
    by_cases ha : 0 ≤ l[i].f0 ∧ l[i].f0 < l[i].f1 ∧ l[i].f1 < n
    · exact ev_pos (by simpa using ha) (ev_eq (by simp [ha]) ih)
    · exact ev_neg (by simpa using ha) (ev_eq (by simp [ha]) (Ev.now false))
theorem caGood_ev (n : Int) (l : List S74) (hb : l.length ≤ 9223372036854775807) : Ev (fun k => spec_caGood.f k n l) (areCa n l) := by
  unfold spec_caGood.f spec_caFriends.f areCa
  simp only [l1In_eq, Option.bind_some]
  by_cases h : 1 ≤ n ∧ n ≤ 10
  · refine ev_pos (by simp [h]) ?_
    by_cases hl : l.length ≤ 60
    · refine Ev.step (f := fun k => spec_caGood.l0 k n l (l.length : Int) 0) (fun k => ?_) (ev_eq ?_ (caGood_l n l h.1 h.2 hl 0 (Nat.zero_le _)))
      · simp only [spec_caGood.j0]
        rw [if_neg (by simp; omega)]
      · simp [h, hl]
    · refine Ev.step (f := fun k => some false) (fun k => ?_) (ev_eq (by simp [hl]) (Ev.now false))
      simp only [spec_caGood.j0]
      rw [if_pos (by simp; omega)]
  · refine ev_neg (by simpa using h) (Ev.step (f := fun k => some false) (fun k => ?_) (ev_eq (by simp [h]) (Ev.now false)))
    simp only [spec_caGood.j0]
    first | rw [if_pos rfl] | rw [if_pos trivial]

theorem or16 : ∀ x y : Fin 16, Go.bits .or .u16 ((x : Nat) : Int) ((y : Nat) : Int) = Go.bits .or .i64 ((x : Nat) : Int) ((y : Nat) : Int) ∧ 0 ≤ Go.bits .or .u16 ((x : Nat) : Int) ((y : Nat) : Int) ∧ Go.bits .or .u16 ((x : Nat) : Int) ((y : Nat) : Int) < 16 := by decide +kernel
def small (t : List Int) : Prop := ∀ x, x ∈ t → 0 ≤ x ∧ x < 16
theorem or_small {x y : Int} (hx : 0 ≤ x ∧ x < 16) (hy : 0 ≤ y ∧ y < 16) : Go.bits .or .u16 x y = Go.bits .or .i64 x y ∧ 0 ≤ Go.bits .or .u16 x y ∧ Go.bits .or .u16 x y < 16 := by
  obtain ⟨i, rfl⟩ := Int.eq_ofNat_of_zero_le hx.1
  obtain ⟨j, rfl⟩ := Int.eq_ofNat_of_zero_le hy.1
  exact or16 ⟨i, by omega⟩ ⟨j, by omega⟩
theorem rd_nat (t : List Int) (i : Nat) (h : i < t.length) : rd t (i : Int) = t[i] := by
  unfold rd
  rw [Int.toNat_natCast]
  exact getD_at t i h _
theorem rd_small {t : List Int} (h : small t) (i : Int) (h0 : 0 ≤ i) (h1 : i < t.length) : 0 ≤ rd t i ∧ rd t i < 16 := by
  obtain ⟨j, rfl⟩ := Int.eq_ofNat_of_zero_le h0
  rw [rd_nat t j (by omega)]
  exact h _ (List.getElem_mem _)
theorem meetL_small {t : List Int} {c : S74} (h : small t) (h0 : 0 ≤ c.f0) (h1 : c.f0 < c.f1) (h2 : c.f1 < t.length) : small (meetL t c) := by
  have hv := or_small (rd_small h c.f0 h0 (by omega)) (rd_small h c.f1 (by omega) h2)
  intro x hx
  unfold meetL at hx
  rcases List.mem_or_eq_of_mem_set hx with hx | rfl
  · rcases List.mem_or_eq_of_mem_set hx with hx | rfl
    · exact h x hx
    · exact hv.2
  · exact hv.2
theorem caMake_v {t : List Int} {c : S74} (h : small t) (hl : t.length ≤ 1048576) (h0 : 0 ≤ c.f0) (h1 : c.f0 < c.f1) (h2 : c.f1 < t.length) : spec_caMake.f t c.f0 c.f1 = some (meetL t c) := by
  unfold spec_caMake.f spec_l1Own.f
  rw [Option.bind_some, if_pos (by simp only [List.length_nil]; omega), List.nil_append, Option.bind_some, if_pos h0, if_pos (by omega), if_pos (by omega), if_pos h2, if_pos (by omega), if_pos h2, ← (or_small (rd_small h c.f0 h0 (by omega)) (rd_small h c.f1 (by omega) h2)).1]
  rfl
def startV (N : Nat) : List Int := (List.range N).map fun i => ((2 ^ i : Nat) : Int)
theorem startV_len (N : Nat) : (startV N).length = N := by simp [startV]
theorem startV_small (N : Nat) (hN : N ≤ 4) : small (startV N) := by
  intro x hx
  obtain ⟨i, hi, rfl⟩ := List.mem_map.1 hx
  have h := List.mem_range.1 hi
  have h2 : 2 ^ i ≤ 2 ^ 3 := Nat.pow_le_pow_right (by omega) (by omega)
  have h3 : (2 : Nat) ^ 3 = 8 := by decide
  have h4 : ((2 ^ i : Nat) : Int) ≤ 8 := Int.ofNat_le.2 (by omega)
  exact ⟨Int.natCast_nonneg _, Int.lt_of_le_of_lt h4 (by decide)⟩
theorem caStart5 : ∀ i : Fin 5, spec_caStart.f 10 ((i : Nat) : Int) = some (startV i) := by decide +kernel
theorem first5 : ∀ i : Fin 5, impl_first.f 10 ((i : Nat) : Int) = some (startV i) := by decide +kernel
theorem caStart_ev (N : Nat) (hN : N ≤ 4) : Ev (fun k => spec_caStart.f k (N : Int)) (startV N) := Ev.of (fun k => spec_caStart.mono _ k) (caStart5 ⟨N, by omega⟩)
theorem first_ev (N : Nat) (hN : N ≤ 4) : Ev (fun k => impl_first.f k (N : Int)) (startV N) := Ev.of (fun k => impl_first.mono _ k) (first5 ⟨N, by omega⟩)
def play (N : Nat) (cs : List S74) : List Int := cs.foldl meetL (startV N)
theorem play_len (N : Nat) (cs : List S74) : (play N cs).length = N := by
  unfold play
  rw [meets_len, startV_len]
def okCs (N : Nat) (cs : List S74) : Prop := ∀ c, c ∈ cs → 0 ≤ c.f0 ∧ c.f0 < c.f1 ∧ c.f1 < (N : Int)
theorem okCs_take {N : Nat} {cs : List S74} (h : okCs N cs) (j : Nat) : okCs N (cs.take j) := fun c hc => h c (List.mem_of_mem_take hc)
theorem play_small (N : Nat) (hN : N ≤ 4) (cs : List S74) (h : okCs N cs) : small (play N cs) := by
  have key : ∀ (cs : List S74) (t : List Int), okCs N cs → t.length = N → small t → small (cs.foldl meetL t) := by
    intro cs
    induction cs with
    | nil => exact fun t _ _ h => h
    | cons c cs ih =>
      intro t hc hl hs
      have h1 := hc c List.mem_cons_self
      exact ih _ (fun d hd => hc d (List.mem_cons_of_mem _ hd)) (by rw [meetL_len, hl]) (meetL_small hs h1.1 h1.2.1 (by omega))
  exact key cs _ h (startV_len N) (startV_small N hN)
theorem caPlay_ev (N : Nat) (hN : N ≤ 4) (cs : List S74) (h : okCs N cs) (hl : cs.length ≤ 1048576) : Ev (fun k => spec_caPlay.f k (N : Int) cs) (play N cs) := by
  unfold spec_caPlay.f
  refine Ev.bind (caStart_ev N hN) ?_
  refine (ev_down cs.length (fun i k => spec_caPlay.l0 k (play N (cs.take i)) cs (cs.length : Int) (i : Int)) (fun _ => play N cs) (Ev.step (f := fun _ => some (play N cs)) (fun k => by simp only [spec_caPlay.l0]; rw [if_neg (by omega), List.take_length]) (Ev.now _)) (fun i hi ih => ?_)) 0 (Nat.zero_le _)
  have hc := h cs[i] (List.getElem_mem hi)
  refine Ev.step (f := fun k => spec_caPlay.l0 k (play N (cs.take (i + 1))) cs (cs.length : Int) ((i + 1 : Nat) : Int)) (fun k => ?_) ih
  have hm := caMake_v (c := cs[i]) (play_small N hN (cs.take i) (okCs_take h i)) (by rw [play_len]; omega) hc.1 hc.2.1 (by rw [play_len]; exact hc.2.2)
  simp only [spec_caPlay.l0, rd_call cs i hi]
  rw [if_pos (by omega), if_pos (by omega), if_pos (by omega), hm, Option.bind_some, w64 (n := (i : Int) + 1) (by omega) (by omega)]
  unfold play
  rw [meets_succ cs _ i hi]
  rfl
theorem after_ev (N : Nat) (hN : N ≤ 4) (cs : List S74) (h : okCs N cs) (hl : cs.length ≤ 1048576) : Ev (fun k => impl_after.f k (N : Int) cs) (play N cs) := by
  unfold impl_after.f
  exact Ev.bind (first_ev N hN) (ev_pos ⟨hl, fun c hc => by rw [startV_len]; exact h c hc⟩ (Ev.now _))

def pop (x : Int) : Int := popTab.getD x.toNat 0
theorem pop16 : ∀ i : Fin 16, 0 ≤ popTab.getD i 0 ∧ popTab.getD i 0 ≤ 4 := by decide +kernel
theorem pop_le {x : Int} (h : 0 ≤ x ∧ x < 16) : 0 ≤ pop x ∧ pop x ≤ 4 := pop16 ⟨x.toNat, by omega⟩
theorem caBits16 : ∀ i : Fin 16, (spec_caBits.f 8 ((i : Nat) : Int)).map (fun l => (l.length : Int)) = some (popTab.getD i 0) := by decide +kernel
theorem listed16 : ∀ i : Fin 16, (impl_listed.f 20 ((i : Nat) : Int)).map (fun l => (l.length : Int)) = some (popTab.getD i 0) := by decide +kernel
theorem caBits_ev {x : Int} (h : 0 ≤ x ∧ x < 16) : ∃ l, Ev (fun k => spec_caBits.f k x) l ∧ (l.length : Int) = pop x := by
  obtain ⟨i, rfl⟩ := Int.eq_ofNat_of_zero_le h.1
  obtain ⟨l, h1, h2⟩ := Option.map_eq_some_iff.1 (caBits16 ⟨i, by omega⟩)
  exact ⟨l, Ev.of (fun k => spec_caBits.mono _ k) h1, h2⟩
theorem listed_ev {x : Int} (h : 0 ≤ x ∧ x < 16) : ∃ l, Ev (fun k => impl_listed.f k x) l ∧ (l.length : Int) = pop x := by
  obtain ⟨i, rfl⟩ := Int.eq_ofNat_of_zero_le h.1
  obtain ⟨l, h1, h2⟩ := Option.map_eq_some_iff.1 (listed16 ⟨i, by omega⟩)
  exact ⟨l, Ev.of (fun k => impl_listed.mono _ k) h1, h2⟩
def cntN (t : List Int) (i : Nat) : Int := ((t.take i).map pop).sum
def cnt (t : List Int) : Int := cntN t t.length
theorem cntN_succ (t : List Int) (i : Nat) (h : i < t.length) : cntN t (i + 1) = cntN t i + pop t[i] := by
  unfold cntN
  rw [List.take_succ_eq_append_getElem h, List.map_append, List.sum_append]
  simp
theorem cntN_le {t : List Int} (hs : small t) (i : Nat) (h : i ≤ t.length) : 0 ≤ cntN t i ∧ cntN t i ≤ 4 * i := by
  induction i with
  | zero => simp [cntN]
  | succ i ih =>
    have h1 := ih (by omega)
    have h2 := pop_le (hs t[i] (List.getElem_mem (by omega)))
    rw [cntN_succ t i (by omega)]
    omega
theorem caCount_ev {t : List Int} (hs : small t) (hl : t.length ≤ 1048576) : Ev (fun k => spec_caCount.f k t) (cnt t) := by
  unfold spec_caCount.f
  refine (ev_down t.length (fun i k => spec_caCount.l0 k (cntN t i) t (t.length : Int) (i : Int)) (fun _ => cnt t) (Ev.step (f := fun _ => some (cnt t)) (fun k => by simp only [spec_caCount.l0]; rw [if_neg (by omega)]; rfl) (Ev.now _)) (fun i hi ih => ?_)) 0 (Nat.zero_le _)
  obtain ⟨b, hb, hbl⟩ := caBits_ev (hs t[i] (List.getElem_mem hi))
  refine Ev.step (f := fun k => (spec_caBits.f k t[i]).bind fun b => spec_caCount.l0 k (wrap64 (cntN t i + (b.length : Int))) t (t.length : Int) ((i + 1 : Nat) : Int)) (fun k => ?_) (Ev.bind hb ?_)
  · simp only [spec_caCount.l0]
    rw [if_pos (by omega), if_pos (by omega), if_pos (by omega), rd_nat t i hi, w64 (n := (i : Int) + 1) (by omega) (by omega)]
    rfl
  · have h1 := cntN_le hs i (by omega)
    have h2 := pop_le (hs t[i] (List.getElem_mem hi))
    rw [hbl, w64 (n := cntN t i + pop t[i]) (by omega) (by omega), ← cntN_succ t i hi]
    exact ih
theorem count_ev {t : List Int} (hs : small t) (hl : t.length ≤ 1048576) : Ev (fun k => impl_news_count.f k t) (cnt t) := by
  unfold impl_news_count.f
  refine (ev_down t.length (fun i k => impl_news_count.l0 k (cntN t i) t (t.length : Int) (i : Int)) (fun _ => cnt t) (Ev.step (f := fun _ => some (cnt t)) (fun k => by simp only [impl_news_count.l0]; rw [if_neg (by omega)]; rfl) (Ev.now _)) (fun i hi ih => ?_)) 0 (Nat.zero_le _)
  have h1 := cntN_le hs i (by omega)
  have h3 := hs t[i] (List.getElem_mem hi)
  have h2 := pop_le h3
  refine Ev.step (f := fun k => impl_news_count.l0 k (cntN t (i + 1)) t (t.length : Int) ((i + 1 : Nat) : Int)) (fun k => ?_) ih
  have ho : bits_OnesCount16.f t[i] = some (pop t[i]) := by unfold bits_OnesCount16.f; rw [if_pos h3]; rfl
  simp only [impl_news_count.l0]
  rw [if_pos (by omega), if_pos (by omega), if_pos (by omega), rd_nat t i hi, ho, Option.bind_some, w64 (n := cntN t i + pop t[i]) (by omega) (by omega), ← cntN_succ t i hi, w64 (n := (i : Int) + 1) (by omega) (by omega)]
  rfl
def learnedV (N : Nat) (cs : List S74) (j : Nat) : Int := cnt (play N (cs.take (j + 1))) - cnt (play N (cs.take j))
theorem cnt_le {t : List Int} (hs : small t) (hl : t.length ≤ 1048576) : 0 ≤ cnt t ∧ cnt t ≤ 4194304 := by
  have := cntN_le hs t.length (Nat.le_refl _)
  unfold cnt
  omega
theorem caLearned_ev (N : Nat) (hN : N ≤ 4) (cs : List S74) (h : okCs N cs) (hl : cs.length ≤ 1048576) (j : Nat) (hj : j < cs.length) : Ev (fun k => spec_caLearned.f k (N : Int) cs (j : Int)) (learnedV N cs j) := by
  have s1 := play_small N hN _ (okCs_take h (j + 1))
  have s2 := play_small N hN _ (okCs_take h j)
  have b1 := cnt_le s1 (by rw [play_len]; omega)
  have b2 := cnt_le s2 (by rw [play_len]; omega)
  unfold spec_caLearned.f
  rw [w64 (n := (j : Int) + 1) (by omega) (by omega), show ((j : Int) + 1).toNat = j + 1 by omega, Int.toNat_natCast]
  refine ev_pos (by omega) (ev_pos (by omega) (Ev.bind (caPlay_ev N hN _ (okCs_take h (j + 1)) (by rw [List.length_take]; omega)) (Ev.bind (caCount_ev s1 (by rw [play_len]; omega)) (ev_pos (by omega) (ev_pos (by omega) (Ev.bind (caPlay_ev N hN _ (okCs_take h j) (by rw [List.length_take]; omega)) (Ev.bind (caCount_ev s2 (by rw [play_len]; omega)) (ev_eq ?_ (Ev.now _)))))))))
  exact w64 (by omega) (by omega)
theorem learned_ev (N : Nat) (hN : N ≤ 4) (cs : List S74) (h : okCs N cs) (hl : cs.length ≤ 1048576) (j : Nat) (hj : j < cs.length) : Ev (fun k => impl_learned.f k (N : Int) cs (j : Int)) (learnedV N cs j) := by
  have s1 := play_small N hN _ (okCs_take h (j + 1))
  have s2 := play_small N hN _ (okCs_take h j)
  have b1 := cnt_le s1 (by rw [play_len]; omega)
  have b2 := cnt_le s2 (by rw [play_len]; omega)
  unfold impl_learned.f
  rw [w64 (n := (j : Int) + 1) (by omega) (by omega), show ((j : Int) + 1).toNat = j + 1 by omega, Int.toNat_natCast]
  refine ev_pos (by omega) (ev_pos (by omega) (Ev.bind (after_ev N hN _ (okCs_take h (j + 1)) (by rw [List.length_take]; omega)) (Ev.bind (count_ev s1 (by rw [play_len]; omega)) (ev_pos (by omega) (ev_pos (by omega) (Ev.bind (after_ev N hN _ (okCs_take h j) (by rw [List.length_take]; omega)) (Ev.bind (count_ev s2 (by rw [play_len]; omega)) (ev_eq ?_ (Ev.now _)))))))))
  exact w64 (by omega) (by omega)

theorem ev_forall {α : Type} (l : List α) (Q : Nat → α → Prop) (h : ∀ x, x ∈ l → ∃ K, ∀ k, K ≤ k → Q k x) : ∃ K, ∀ k, K ≤ k → ∀ x, x ∈ l → Q k x := by
  induction l with
  | nil => exact ⟨0, fun _ _ _ hx => by cases hx⟩
  | cons a l ih =>
    obtain ⟨K1, h1⟩ := h a List.mem_cons_self
    obtain ⟨K2, h2⟩ := ih fun x hx => h x (List.mem_cons_of_mem _ hx)
    refine ⟨max K1 K2, fun k hk x hx => ?_⟩
    rcases List.mem_cons.1 hx with rfl | hx
    · exact h1 k (by omega)
    · exact h2 k (by omega) x hx

theorem bit16 : ∀ (x : Fin 16) (b : Fin 4), Go.bits .and .u16 (shr .u16 ((x : Nat) : Int) ((b : Nat) : Int)) 1 = ((x / 2 ^ (b : Nat) % 2 : Nat) : Int) ∧ Go.bits .and .i64 (shr .i64 ((x : Nat) : Int) ((b : Nat) : Int)) 1 = ((x / 2 ^ (b : Nat) % 2 : Nat) : Int) := by decide +kernel
def bitV (x b : Int) : Int := ((x.toNat / 2 ^ b.toNat % 2 : Nat) : Int)
theorem bit_v {x b : Int} (hx : 0 ≤ x ∧ x < 16) (hb : 0 ≤ b ∧ b < 4) : Go.bits .and .u16 (shr .u16 x b) 1 = bitV x b ∧ Go.bits .and .i64 (shr .i64 x b) 1 = bitV x b := by
  obtain ⟨i, rfl⟩ := Int.eq_ofNat_of_zero_le hx.1
  obtain ⟨j, rfl⟩ := Int.eq_ofNat_of_zero_le hb.1
  exact bit16 ⟨i, by omega⟩ ⟨j, by omega⟩
theorem bitV_le (x b : Int) : 0 ≤ bitV x b ∧ bitV x b ≤ 1 := by
  unfold bitV
  omega
def cntIdx (p : Int → Bool) (n : Nat) : Int := ((idxs p n).length : Int)
theorem cntIdx_succ (p : Int → Bool) (n : Nat) : cntIdx p (n + 1) = cntIdx p n + if p (n : Int) = true then 1 else 0 := by
  unfold cntIdx
  rw [idxs_succ, List.length_append]
  split <;> simp
theorem cntIdx_le (p : Int → Bool) (n : Nat) : 0 ≤ cntIdx p n ∧ cntIdx p n ≤ n := by
  have := idxs_len p n
  unfold cntIdx
  omega
def idleV (N : Nat) (cs : List S74) (j : Int) : Bool := learnedV N cs j.toNat == 0
/-- what a clue of a kind tells -/
def valueV (N : Nat) (kind a b : Int) (cs : List S74) : Int :=
  if kind = 0 then cntIdx (inCall cs a) cs.length
  else if kind = 1 then pop (rd (play N cs) a)
  else if kind = 2 then bitV (rd (play N cs) a) b
  else if kind = 3 then cntIdx (idleV N cs) cs.length
  else if kind = 4 then (if inCall cs b a = true then 1 else 0)
  else cnt (play N cs)
/-- what is asked is there -/
structure Asked (N M : Nat) (kind a b : Int) : Prop where
  k0 : kind = 0 → 0 ≤ a ∧ a < N
  k1 : kind = 1 → 0 ≤ a ∧ a < N
  k2 : kind = 2 → (0 ≤ a ∧ a < N) ∧ 0 ≤ b ∧ b < N
  k4 : kind = 4 → 0 ≤ a ∧ a < M
theorem pzIn_v (c : S74) (x : Int) : spec_pzIn.f c.f0 c.f1 x = some (if (c.f0 == x || c.f1 == x) = true then 1 else 0) := by
  unfold spec_pzIn.f
  by_cases h0 : c.f0 = x <;> by_cases h1 : c.f1 = x <;> simp [h0, h1]
theorem inCall_at (cs : List S74) (x : Int) (i : Nat) (h : i < cs.length) : inCall cs x (i : Int) = (cs[i].f0 == x || cs[i].f1 == x) := by
  unfold inCall
  rw [rd_call cs i h]
theorem pzValue_0 (cs : List S74) (x : Int) (hl : cs.length ≤ 1048576) : Ev (fun k => spec_pzValue.l0 k x 0 cs (cs.length : Int) 0) (cntIdx (inCall cs x) cs.length) := by
  refine (ev_down cs.length (fun i k => spec_pzValue.l0 k x (cntIdx (inCall cs x) i) cs (cs.length : Int) (i : Int)) (fun _ => cntIdx (inCall cs x) cs.length) (Ev.step (f := fun _ => some (cntIdx (inCall cs x) cs.length)) (fun k => by simp only [spec_pzValue.l0]; rw [if_neg (by omega)]) (Ev.now _)) (fun i hi ih => ?_)) 0 (Nat.zero_le _)
  have h1 := cntIdx_le (inCall cs x) i
  have h2 := cntIdx_le (inCall cs x) (i + 1)
  refine Ev.step (f := fun k => spec_pzValue.l0 k x (cntIdx (inCall cs x) (i + 1)) cs (cs.length : Int) ((i + 1 : Nat) : Int)) (fun k => ?_) ih
  simp only [spec_pzValue.l0, rd_call cs i hi]
  rw [if_pos (by omega), if_pos (by omega), if_pos (by omega), pzIn_v, Option.bind_some, ← inCall_at cs x i hi, ← cntIdx_succ, w64 (n := cntIdx (inCall cs x) (i + 1)) (by omega) (by omega), w64 (n := (i : Int) + 1) (by omega) (by omega)]
  rfl
theorem pzValue_3 (N : Nat) (hN : N ≤ 4) (cs : List S74) (h : okCs N cs) (hl : cs.length ≤ 1048576) : Ev (fun k => spec_pzValue.l1 k (N : Int) cs 0 (cs.length : Int) 0) (cntIdx (idleV N cs) cs.length) := by
  refine (ev_down cs.length (fun i k => spec_pzValue.l1 k (N : Int) cs (cntIdx (idleV N cs) i) (cs.length : Int) (i : Int)) (fun _ => cntIdx (idleV N cs) cs.length) (Ev.step (f := fun _ => some (cntIdx (idleV N cs) cs.length)) (fun k => by simp only [spec_pzValue.l1]; rw [if_neg (by omega)]) (Ev.now _)) (fun i hi ih => ?_)) 0 (Nat.zero_le _)
  have h1 := cntIdx_le (idleV N cs) i
  have h3 := cntIdx_succ (idleV N cs) i
  have hv : idleV N cs (i : Int) = (learnedV N cs i == 0) := by unfold idleV; rw [Int.toNat_natCast]
  rw [hv] at h3
  refine Ev.step (f := fun k => (spec_caLearned.f k (N : Int) cs (i : Int)).bind fun t => if t = 0 then spec_pzValue.l1 k (N : Int) cs (wrap64 (cntIdx (idleV N cs) i + 1)) (cs.length : Int) ((i + 1 : Nat) : Int) else spec_pzValue.l1 k (N : Int) cs (cntIdx (idleV N cs) i) (cs.length : Int) ((i + 1 : Nat) : Int)) (fun k => ?_) (Ev.bind (caLearned_ev N hN cs h hl i hi) ?_)
  · simp only [spec_pzValue.l1]
    rw [if_pos (by omega), w64 (n := (i : Int) + 1) (by omega) (by omega)]
    rfl
  · by_cases h0 : learnedV N cs i = 0
    · rw [h0] at h3
      refine ev_pos h0 ?_
      rw [w64 (n := cntIdx (idleV N cs) i + 1) (by omega) (by omega), show cntIdx (idleV N cs) i + 1 = cntIdx (idleV N cs) (i + 1) by rw [h3]; rfl]
      exact ih
    · refine ev_neg h0 ?_
      rw [show cntIdx (idleV N cs) i = cntIdx (idleV N cs) (i + 1) by rw [h3, if_neg (by simpa using h0), Int.add_zero]]
      exact ih
theorem pzValue_ev (N : Nat) (hN : N ≤ 4) (cs : List S74) (h : okCs N cs) (hl : cs.length ≤ 1048576) (kind a b : Int) (hA : Asked N cs.length kind a b) : Ev (fun k => spec_pzValue.f k (N : Int) kind a b cs) (valueV N kind a b cs) := by
  have hs := play_small N hN cs h
  have hpl := play_len N cs
  unfold spec_pzValue.f valueV
  refine Ev.bind (caPlay_ev N hN cs h hl) ?_
  by_cases k0 : kind = 0
  · rw [if_pos k0]
    exact ev_pos k0 (pzValue_0 cs a hl)
  · rw [if_neg k0]
    refine ev_neg k0 ?_
    by_cases k1 : kind = 1
    · rw [if_pos k1]
      have ha := hA.k1 k1
      obtain ⟨l, h1, h2⟩ := caBits_ev (rd_small hs a ha.1 (by omega))
      exact ev_pos k1 (ev_pos ha.1 (ev_pos (by omega) (Ev.bind h1 (ev_eq h2 (Ev.now _)))))
    · rw [if_neg k1]
      refine ev_neg k1 ?_
      by_cases k2 : kind = 2
      · rw [if_pos k2]
        have ha := hA.k2 k2
        exact ev_pos k2 (ev_pos ha.1.1 (ev_pos (by omega) (ev_pos ha.2.1 (ev_eq (bit_v (rd_small hs a ha.1.1 (by omega)) ⟨ha.2.1, by omega⟩).2 (Ev.now _)))))
      · rw [if_neg k2]
        refine ev_neg k2 ?_
        by_cases k3 : kind = 3
        · rw [if_pos k3]
          exact ev_pos k3 (pzValue_3 N hN cs h hl)
        · rw [if_neg k3]
          refine ev_neg k3 ?_
          by_cases k4 : kind = 4
          · rw [if_pos k4]
            have ha := hA.k4 k4
            obtain ⟨i, rfl⟩ := Int.eq_ofNat_of_zero_le ha.1
            have hi : i < cs.length := by omega
            refine ev_pos k4 (ev_pos ha.1 (ev_pos (by omega) (ev_call (pzIn_v _ _) (ev_eq ?_ (Ev.now _)))))
            rw [inCall_at cs b i hi, rd_call cs i hi]
          · rw [if_neg k4]
            exact ev_neg k4 (Ev.bind (caCount_ev hs (by omega)) (Ev.now _))
theorem bit_f (b : Bool) : impl_bit.f b = some (if b = true then 1 else 0) := by cases b <;> rfl
theorem told_ev (N : Nat) (hN : N ≤ 4) (cs : List S74) (hc : areCa (N : Int) cs = true) (kind a b : Int) (hA : Asked N cs.length kind a b) : Ev (fun k => impl_told.f k (N : Int) kind a b cs) (valueV N kind a b cs) := by
  have h : okCs N cs := fun c hm => by
    unfold areCa at hc
    simp only [Bool.and_eq_true, List.all_eq_true] at hc
    simpa [impl_AreCalls.ok] using hc.2 c hm
  have hl : cs.length ≤ 60 := by
    unfold areCa at hc
    simp only [Bool.and_eq_true, decide_eq_true_eq] at hc
    exact hc.1.2
  have hs := play_small N hN cs h
  have hpl := play_len N cs
  unfold impl_told.f valueV
  refine Ev.bind (after_ev N hN cs h (by omega)) ?_
  by_cases k0 : kind = 0
  · rw [if_pos k0]
    have ha := hA.k0 k0
    have hf : impl_isFriend.f (N : Int) a = some true := by
      unfold impl_isFriend.f impl_within.f
      rw [w64 (n := (N : Int) - 1) (by omega) (by omega), if_pos ha.1]
      simp
      omega
    have hcf : impl_CallsOf.f (N : Int) cs a = some (idxs (inCall cs a) cs.length, true) := by
      unfold impl_CallsOf.f
      rw [if_pos ⟨by rw [implCalls, hc], hf, by omega⟩]
    exact ev_pos k0 (ev_call hcf (Ev.now _))
  · rw [if_neg k0]
    refine ev_neg k0 ?_
    by_cases k1 : kind = 1
    · rw [if_pos k1]
      have ha := hA.k1 k1
      obtain ⟨l, h1, h2⟩ := listed_ev (rd_small hs a ha.1 (by omega))
      exact ev_pos k1 (ev_pos ha.1 (ev_pos (by omega) (Ev.bind h1 (ev_eq h2 (Ev.now _)))))
    · rw [if_neg k1]
      refine ev_neg k1 ?_
      by_cases k2 : kind = 2
      · rw [if_pos k2]
        have ha := hA.k2 k2
        have hb := (bit_v (rd_small hs a ha.1.1 (by omega)) ⟨ha.2.1, (by omega : b < 4)⟩).1
        have hb2 := bitV_le (rd (play N cs) a) b
        refine ev_pos k2 (ev_pos ha.1.1 (ev_pos (by omega) (ev_pos ha.2.1 (ev_call (bit_f _) (ev_eq ?_ (Ev.now _))))))
        rw [hb]
        by_cases h1 : bitV (rd (play N cs) a) b = 1
        · rw [h1]; rfl
        · rw [if_neg (by simpa using h1)]; omega
      · rw [if_neg k2]
        refine ev_neg k2 ?_
        by_cases k3 : kind = 3
        · rw [if_pos k3]
          refine ev_pos k3 ?_
          have he := ev_forall (List.range cs.length) (fun k i => impl_learned.f k (N : Int) cs (i : Int) = some (learnedV N cs i)) (fun i hi => learned_ev N hN cs h (by omega) i (List.mem_range.1 hi))
          obtain ⟨K, hK⟩ := he
          refine ⟨K, fun k hk => ?_⟩
          have hk2 : ∀ i : Nat, i < cs.length → impl_learned.f k (N : Int) cs (i : Int) = some (learnedV N cs i) := fun i hi => hK k hk i (List.mem_range.2 hi)
          have hid : impl_idle.f k (N : Int) cs = some (idxs (idleV N cs) cs.length) := by
            unfold impl_idle.f
            rw [if_pos ⟨by omega, fun i hi => by rw [hk2 i hi]; rfl⟩, idxs_congr' (p := idleAt k (N : Int) cs) (q := idleV N cs) (fun i hi => by unfold idleAt idleV; rw [hk2 i hi, Int.toNat_natCast]; rfl)]
          show (impl_idle.f k (N : Int) cs).bind _ = _
          rw [hid]
          rfl
        · rw [if_neg k3]
          refine ev_neg k3 ?_
          by_cases k4 : kind = 4
          · rw [if_pos k4]
            have ha := hA.k4 k4
            obtain ⟨i, rfl⟩ := Int.eq_ofNat_of_zero_le ha.1
            have hi : i < cs.length := by omega
            refine ev_pos k4 (ev_pos ha.1 (ev_pos (by omega) ?_))
            rw [inCall_at cs b i hi]
            simp only [rd_call cs i hi]
            by_cases h0 : cs[i].f0 = b
            · exact ev_pos h0 (ev_call (bit_f _) (ev_eq (by simp [h0]) (Ev.now _)))
            · exact ev_neg h0 (ev_call (bit_f _) (ev_eq (by simp [h0]) (Ev.now _)))
          · rw [if_neg k4]
            exact ev_neg k4 (Ev.bind (count_ev hs (by omega)) (Ev.now _))

/-- A loop that puts a mark into each index, c numbers further each time. -/
theorem ev_tabC {β : Type} (n : Nat) (c : Int) (m : Nat → β) (L : Nat → List β → Int → Int → Option (Int × List β)) (a : Int)
    (hstep : ∀ (st : List β) (i : Nat) r, i < n → st.length = n → Ev (fun k => L k (st.set i (m i)) (a + c * (i + 1 : Nat)) ((i + 1 : Nat) : Int)) r → Ev (fun k => L k st (a + c * i) (i : Int)) r)
    (hend : ∀ k st, st.length = n → L (k + 1) st (a + c * n) (n : Int) = some (a + c * n, st)) (l : List β) (hl : l.length = n) : Ev (fun k => L k l a 0) (a + c * n, (List.range n).map m) := by
  have key : ∀ d i, n - i = d → i ≤ n → ∀ st : List β, st.length = n → st.take i = (List.range i).map m → Ev (fun k => L k st (a + c * i) (i : Int)) (a + c * n, (List.range n).map m) := by
    intro d
    induction d with
    | zero =>
      intro i hd hi st hst hp
      obtain rfl : i = n := by omega
      rw [List.take_of_length_le (by omega)] at hp
      exact Ev.step (f := fun _ => some _) (fun k => by rw [hend k st hst, hp]) (Ev.now _)
    | succ d ih =>
      intro i hd hi st hst hp
      exact hstep st i _ (by omega) hst (ih (i + 1) (by omega) (by omega) _ (by simpa using hst) (tab_set n m st hst i (by omega) hp))
  simpa using key n 0 rfl (Nat.zero_le _) l hl (by simp)

def mkCall (i : Nat) : S74 := ⟨1 + 2 * (i : Int), 1 + 2 * (i : Int) + 1⟩
theorem rd_setCall (l : List S74) (i : Nat) (x : S74) (h : i < l.length) : rd_T74 (l.set i x) (i : Int) = x := by
  unfold rd_T74
  rw [Int.toNat_natCast, getD_at _ i (by simpa using h)]
  simp
theorem markCallS_ev (l : List S74) (h : l.length ≤ 1048576) : Ev (fun k => laws_markCallS.f k l 1) (1 + 2 * (l.length : Int), (List.range l.length).map mkCall) := by
  unfold laws_markCallS.f
  refine ev_tabC l.length 2 mkCall (fun k st a i => laws_markCallS.l0 k st a i) 1 (fun st i r hi hst hr => ?_) (fun k st hst => ?_) l rfl
  · refine Ev.step (fun k => ?_) hr
    have w1 : wrap64 (1 + 2 * (i : Int) + 1) = 1 + 2 * (i : Int) + 1 := w64 (by omega) (by omega)
    have w2 : wrap64 (1 + 2 * (i : Int) + 1 + 1) = 1 + 2 * ((i + 1 : Nat) : Int) := by rw [w64 (by omega) (by omega)]; omega
    have w5 : wrap64 ((i : Int) + 1) = ((i + 1 : Nat) : Int) := by rw [w64 (by omega) (by omega)]; omega
    rw [laws_markCallS.l0, if_pos (by omega), if_pos (by omega), Option.bind_some, Int.toNat_natCast, w1, w2, w5]
    have hi' : i < st.length := by omega
    simp only [List.set_set, rd_setCall st i _ hi']
    rfl
  · rw [laws_markCallS.l0, if_neg (by omega)]

def mkClue (i : Nat) : S31 := ⟨1 + 4 * (i : Int), 1 + 4 * (i : Int) + 1, 1 + 4 * (i : Int) + 2, 1 + 4 * (i : Int) + 3⟩
theorem rd_set (l : List S31) (i : Nat) (x : S31) (h : i < l.length) : rd_T31 (l.set i x) (i : Int) = x := by
  unfold rd_T31
  rw [Int.toNat_natCast, getD_at _ i (by simpa using h)]
  simp
theorem markClueS_ev (l : List S31) (h : l.length ≤ 1048576) : Ev (fun k => laws_markClueS.f k l 1) (1 + 4 * (l.length : Int), (List.range l.length).map mkClue) := by
  unfold laws_markClueS.f
  refine ev_tabC l.length 4 mkClue (fun k st a i => laws_markClueS.l0 k st a i) 1 (fun st i r hi hst hr => ?_) (fun k st hst => ?_) l rfl
  · refine Ev.step (fun k => ?_) hr
    have w1 : wrap64 (1 + 4 * (i : Int) + 1) = 1 + 4 * (i : Int) + 1 := w64 (by omega) (by omega)
    have w2 : wrap64 (1 + 4 * (i : Int) + 1 + 1) = 1 + 4 * (i : Int) + 2 := by rw [w64 (by omega) (by omega)]; omega
    have w3 : wrap64 (1 + 4 * (i : Int) + 2 + 1) = 1 + 4 * (i : Int) + 3 := by rw [w64 (by omega) (by omega)]; omega
    have w4 : wrap64 (1 + 4 * (i : Int) + 3 + 1) = 1 + 4 * ((i + 1 : Nat) : Int) := by rw [w64 (by omega) (by omega)]; omega
    have w5 : wrap64 ((i : Int) + 1) = ((i + 1 : Nat) : Int) := by rw [w64 (by omega) (by omega)]; omega
    rw [laws_markClueS.l0, if_pos (by omega), if_pos (by omega), Option.bind_some, Option.bind_some, Option.bind_some, Int.toNat_natCast, w1, w2, w3, w4, w5]
    have hi' : i < st.length := by omega
    simp only [List.set_set, rd_set st i _ hi']
    rfl
  · rw [laws_markClueS.l0, if_neg (by omega)]

theorem markPuzzle_ev (a b : Int) (l : List S31) (h : l.length ≤ 1048576) : Ev (fun k => laws_markPuzzle.f k a b l 1) (1 + 4 * (l.length : Int), (List.range l.length).map mkClue) := Ev.bind (markClueS_ev l h) (Ev.now _)

theorem heldClueS_ev (n : Nat) (h : n ≤ 1048576) : Ev (fun k => laws_heldClueS.f k ((List.range n).map mkClue) 1) (1 + 4 * (n : Int)) := by
  unfold laws_heldClueS.f
  have hl : ((List.range n).map mkClue).length = n := by simp
  have := ev_down n (fun i k => laws_heldClueS.l0 k ((List.range n).map mkClue) (1 + 4 * (i : Int)) (i : Int)) (fun _ => 1 + 4 * (n : Int)) (Ev.step (f := fun _ => some _) (fun k => by rw [laws_heldClueS.l0, if_neg (by rw [hl]; omega)]) (Ev.now _)) (fun i hi ih => ?_) 0 (Nat.zero_le _)
  · simpa using this
  · refine Ev.step (fun k => ?_) ih
    have e : rd_T31 ((List.range n).map mkClue) (i : Int) = mkClue i := by
      unfold rd_T31
      rw [Int.toNat_natCast, getD_at _ i (by rw [hl]; exact hi)]
      simp
    have w1 : wrap64 (1 + 4 * (i : Int) + 1) = 1 + 4 * (i : Int) + 1 := w64 (by omega) (by omega)
    have w2 : wrap64 (1 + 4 * (i : Int) + 1 + 1) = 1 + 4 * (i : Int) + 2 := by rw [w64 (by omega) (by omega)]; omega
    have w3 : wrap64 (1 + 4 * (i : Int) + 2 + 1) = 1 + 4 * (i : Int) + 3 := by rw [w64 (by omega) (by omega)]; omega
    have w4 : wrap64 (1 + 4 * (i : Int) + 3 + 1) = 1 + 4 * ((i + 1 : Nat) : Int) := by rw [w64 (by omega) (by omega)]; omega
    have w5 : wrap64 ((i : Int) + 1) = ((i + 1 : Nat) : Int) := by rw [w64 (by omega) (by omega)]; omega
    rw [laws_heldClueS.l0, if_pos (by rw [hl]; omega), if_pos (by omega), e, w1, w2, w3, w4, w5]
    unfold mkClue
    rw [if_pos rfl, if_pos rfl, if_pos rfl, if_pos rfl]

theorem heldPuzzle_ev (a b : Int) (n : Nat) (h : n ≤ 1048576) : Ev (fun k => laws_heldPuzzle.f k a b ((List.range n).map mkClue) 1) (1 + 4 * (n : Int)) := Ev.bind (heldClueS_ev n h) (ev_neg (by omega) (Ev.now _))

theorem within_eq (a b c : Int) : impl_within.f a b c = some (decide (b ≤ a ∧ a ≤ c)) := by
  unfold impl_within.f
  by_cases h : b ≤ a <;> simp [h]
def okSize (a b : Int) : Bool := decide (2 ≤ a ∧ a ≤ 4) && decide (0 ≤ b ∧ b ≤ 3)
theorem areHidden_v (a b : Int) : impl_areHidden.f a b = some (okSize a b) := by
  unfold impl_areHidden.f okSize
  simp only [within_eq, Option.bind_some]
  by_cases h : 2 ≤ a ∧ a ≤ 4 <;> simp [h]
theorem pzSize_v (a b : Int) : spec_pzSize.f a b = some (okSize a b) := by
  unfold spec_pzSize.f okSize
  simp only [l1In_eq, Option.bind_some]
  by_cases h : 2 ≤ a ∧ a ≤ 4 <;> simp [h]
theorem isHidden_v (n : Int) (cs : List S74) : impl_isHidden.f n cs = some (okSize n cs.length && areCa n cs) := by
  unfold impl_isHidden.f
  rw [areHidden_v, Option.bind_some]
  by_cases h : okSize n cs.length = true
  · rw [if_pos h, implCalls, h]
    rfl
  · rw [if_neg h, Bool.eq_false_iff.2 h]
    rfl
theorem pzHidden_ev (n : Int) (cs : List S74) (hl : cs.length ≤ 9223372036854775807) : Ev (fun k => spec_pzHidden.f k n cs) (okSize n cs.length && areCa n cs) := by
  unfold spec_pzHidden.f
  refine ev_call (pzSize_v n _) ?_
  by_cases h : okSize n cs.length = true
  · exact ev_pos h (Ev.bind (caGood_ev n cs hl) (ev_eq (by rw [h]; rfl) (Ev.now _)))
  · exact ev_neg h (ev_eq (by rw [Bool.eq_false_iff.2 h]; rfl) (Ev.now _))
theorem eqPz_ev (a b : Int) (l : List S31) (h : l.length ≤ 1048576) : Ev (fun k => laws_eqPuzzle.f k a b l a b l) true := ev_pos rfl (ev_pos rfl (Ev.bind (eqClueS_ev l h) (ev_pos rfl (Ev.now _))))
theorem nxt_ok {z : Int} (h0 : 0 ≤ z) (h1 : z ≤ 10006) : 0 ≤ nxt z ∧ nxt z ≤ 10006 := by
  unfold nxt
  rw [w64 (n := z * 197) (by omega) (by omega), w64 (n := z * 197 + 2531) (by omega) (by omega)]
  have h1 := Int.tmod_nonneg 10007 (show 0 ≤ z * 197 + 2531 by omega)
  have h2 := Int.tmod_lt_of_pos (z * 197 + 2531) (show (0 : Int) < 10007 by omega)
  omega
theorem next_v {z : Int} : spec_pzNext.f z = some (nxt z) := by
  unfold spec_pzNext.f nxt
  rw [Int.mul_comm]
theorem tmod_ok {y n : Int} (hy : 0 ≤ y) (hn : 0 < n) : 0 ≤ Int.tmod y n ∧ Int.tmod y n < n := ⟨Int.tmod_nonneg _ hy, Int.tmod_lt_of_pos _ hn⟩
theorem seven_ok {y : Int} (hy : 0 ≤ y) (h1 : y ≤ 10006) : 0 ≤ wrap64 (Int.tdiv y 7) := by
  have h : 0 ≤ Int.tdiv y 7 ∧ Int.tdiv y 7 ≤ 10006 := by
    obtain ⟨n, rfl⟩ := Int.eq_ofNat_of_zero_le hy
    rw [show Int.tdiv (n : Int) 7 = ((n / 7 : Nat) : Int) from rfl]
    omega
  rw [w64 (by omega) (by omega)]
  exact h.1
theorem kind_four {cs : List S74} {z : Int} (h : mkKind cs z = 4) : ¬ cs.length = 0 := fun hl => by
  unfold mkKind at h
  by_cases hc : Int.tmod z 6 = 4 ∧ cs.length = 0
  · rw [if_pos hc] at h
    cases h
  · rw [if_neg hc] at h
    exact hc ⟨h, hl⟩
theorem asked_mk (N : Nat) (hN : 0 < N) (cs : List S74) (z y : Int) (hy : 0 ≤ y) (h1 : y ≤ 10006) : Asked N cs.length (mkKind cs z) (mkA (N : Int) cs (mkKind cs z) y) (mkB (N : Int) (mkKind cs z) y) := by
  have hn := tmod_ok hy (show (0 : Int) < (N : Int) by omega)
  have h7 := tmod_ok (seven_ok hy h1) (show (0 : Int) < (N : Int) by omega)
  have h4 := kind_four (cs := cs) (z := z)
  generalize mkKind cs z = K at h4
  unfold mkA mkB
  refine ⟨fun h => ?_, fun h => ?_, fun h => ?_, fun h => ?_⟩
  · rw [if_pos (Or.inl h)]
    exact hn
  · rw [if_pos (Or.inr (Or.inl h))]
    exact hn
  · rw [if_pos (Or.inr (Or.inr h)), if_pos (Or.inl h)]
    exact ⟨hn, h7⟩
  · rw [if_neg (by omega), if_pos h]
    have := h4 h
    exact tmod_ok hy (by omega)
/-- the clue that two numbers tell -/
def clueV (N : Nat) (cs : List S74) (z1 y : Int) : S31 := ⟨mkKind cs z1, mkA (N : Int) cs (mkKind cs z1) y, mkB (N : Int) (mkKind cs z1) y, valueV N (mkKind cs z1) (mkA (N : Int) cs (mkKind cs z1) y) (mkB (N : Int) (mkKind cs z1) y) cs⟩
def mkL (N : Nat) (cs : List S74) : Nat → Int → List S31 → List S31
  | 0, _, ds => ds
  | m + 1, z, ds => mkL N cs m (nxt (nxt z)) (ds ++ [clueV N cs (nxt z) (nxt (nxt z))])
theorem mkL_len (N : Nat) (cs : List S74) : ∀ (m : Nat) (z : Int) (ds : List S31), (mkL N cs m z ds).length = ds.length + m := by
  intro m
  induction m with
  | zero => intro z ds; rfl
  | succ m ih =>
    intro z ds
    unfold mkL
    rw [ih, List.length_append]
    simp only [List.length_cons, List.length_nil]
    omega
theorem mkN_ev (N : Nat) (h0 : 0 < N) (hN : N ≤ 4) (cs : List S74) (hc : areCa (N : Int) cs = true) : ∀ (m : Nat) (z : Int) (ds : List S31), 0 ≤ z → z ≤ 10006 → Ev (fun k => mkN k (N : Int) cs m z ds) (mkL N cs m z ds) := by
  intro m
  induction m with
  | zero => intro z ds _ _; exact Ev.now _
  | succ m ih =>
    intro z ds hz hz1
    have n1 := nxt_ok hz hz1
    have n2 := nxt_ok n1.1 n1.2
    unfold mkL
    exact Ev.bind (told_ev N hN cs hc _ _ _ (asked_mk N h0 cs (nxt z) (nxt (nxt z)) n2.1 n2.2)) (ih _ _ n2.1 n2.2)
theorem pzOf1_ev (N : Nat) (h0 : 0 < N) (hN : N ≤ 4) (cs : List S74) (h : okCs N cs) (hl : cs.length ≤ 1048576) (K y : Int) (h4 : K = 4 → ¬ cs.length = 0) (hA : Asked N cs.length K (mkA (N : Int) cs K y) (mkB (N : Int) K y)) :
    Ev (fun k => spec_pzOf.j1 k (N : Int) K y cs) (K, mkA (N : Int) cs K y, mkB (N : Int) K y, valueV N K (mkA (N : Int) cs K y) (mkB (N : Int) K y) cs) := by
  have hN0 : ¬ (N : Int) = 0 := by omega
  have hV := pzValue_ev N hN cs h hl K _ _ hA
  clear hA h
  by_cases k0 : K = 0
  · subst k0
    have eA : mkA (N : Int) cs 0 y = Int.tmod y (N : Int) := if_pos (Or.inl rfl)
    have eB : mkB (N : Int) 0 y = 0 := if_neg (by decide)
    rw [eA, eB] at hV ⊢
    refine Ev.step (f := fun k => spec_pzOf.j2 k (N : Int) 0 y cs 0 true 0 0 0 0) (fun k => by simp only [spec_pzOf.j1]; rw [if_pos trivial]; rfl) ?_
    refine Ev.step (fun k => by simp only [spec_pzOf.j2]; rw [if_pos trivial, if_neg hN0, if_neg (by decide), if_neg (by decide)]) (Ev.bind hV (Ev.now _))
  by_cases k1 : K = 1
  · subst k1
    have eA : mkA (N : Int) cs 1 y = Int.tmod y (N : Int) := if_pos (Or.inr (Or.inl rfl))
    have eB : mkB (N : Int) 1 y = 0 := if_neg (by decide)
    rw [eA, eB] at hV ⊢
    refine Ev.step (f := fun k => spec_pzOf.j2 k (N : Int) 1 y cs 1 true 1 0 0 0) (fun k => by simp only [spec_pzOf.j1]; rw [if_neg (by decide), if_pos trivial]; rfl) ?_
    refine Ev.step (fun k => by simp only [spec_pzOf.j2]; rw [if_pos trivial, if_neg hN0, if_neg (by decide), if_neg (by decide)]) (Ev.bind hV (Ev.now _))
  by_cases k2 : K = 2
  · subst k2
    have eA : mkA (N : Int) cs 2 y = Int.tmod y (N : Int) := if_pos (Or.inr (Or.inr rfl))
    have eB : mkB (N : Int) 2 y = Int.tmod (wrap64 (Int.tdiv y 7)) (N : Int) := if_pos (Or.inl rfl)
    rw [eA, eB] at hV ⊢
    refine Ev.step (f := fun k => spec_pzOf.j2 k (N : Int) 2 y cs 2 true 2 0 0 0) (fun k => by simp only [spec_pzOf.j1]; rw [if_neg (by decide), if_neg (by decide)]; rfl) ?_
    refine Ev.step (fun k => by simp only [spec_pzOf.j2]; rw [if_pos trivial, if_neg hN0, if_pos trivial]) (Ev.bind hV (Ev.now _))
  have e2 : (K == (2 : Int)) = false := beq_eq_false_iff_ne.mpr k2
  by_cases k4 : K = 4
  · subst k4
    have hl0 : ¬ (cs.length : Int) = 0 := by have := h4 rfl; omega
    have eA : mkA (N : Int) cs 4 y = Int.tmod y (cs.length : Int) := by unfold mkA; rw [if_neg (by decide), if_pos rfl]
    have eB : mkB (N : Int) 4 y = Int.tmod (wrap64 (Int.tdiv y 7)) (N : Int) := if_pos (Or.inr rfl)
    rw [eA, eB] at hV ⊢
    refine Ev.step (f := fun k => spec_pzOf.j2 k (N : Int) 4 y cs 4 false 4 0 0 0) (fun k => by simp only [spec_pzOf.j1]; rw [if_neg (by decide), if_neg (by decide)]; rfl) ?_
    refine Ev.step (fun k => by simp only [spec_pzOf.j2]; rw [if_neg (by simp), if_pos trivial, if_neg hl0, if_neg (by decide), if_pos trivial, if_neg hN0]) (Ev.bind hV (Ev.now _))
  · have eA : mkA (N : Int) cs K y = 0 := by unfold mkA; rw [if_neg (by omega), if_neg k4]
    have eB : mkB (N : Int) K y = 0 := by unfold mkB; rw [if_neg (by omega)]
    rw [eA, eB] at hV ⊢
    refine Ev.step (f := fun k => spec_pzOf.j2 k (N : Int) K y cs K false K 0 0 0) (fun k => by simp only [spec_pzOf.j1]; rw [if_neg k0, if_neg k1, e2]) ?_
    refine Ev.step (fun k => by simp only [spec_pzOf.j2]; rw [if_neg (by simp), if_neg k4, if_neg k2, if_neg k4]) (Ev.bind hV (Ev.now _))
theorem pzOf_ev (N : Nat) (h0 : 0 < N) (hN : N ≤ 4) (cs : List S74) (h : okCs N cs) (hl : cs.length ≤ 1048576) (z1 y : Int) (hy : 0 ≤ y) (hy1 : y ≤ 10006) :
    Ev (fun k => spec_pzOf.f k (N : Int) (Int.tmod z1 6) y cs) ((clueV N cs z1 y).f0, (clueV N cs z1 y).f1, (clueV N cs z1 y).f2, (clueV N cs z1 y).f3) := by
  have h1 := pzOf1_ev N h0 hN cs h hl (mkKind cs z1) y kind_four (asked_mk N h0 cs z1 y hy hy1)
  unfold spec_pzOf.f
  unfold clueV
  generalize hK : mkKind cs z1 = K at h1 ⊢
  unfold mkKind at hK
  by_cases k4 : Int.tmod z1 6 = 4
  · refine ev_pos k4 ?_
    by_cases hz : cs.length = 0
    · rw [if_pos ⟨k4, hz⟩] at hK
      subst hK
      refine Ev.step (fun k => by simp only [spec_pzOf.j0]; rw [if_pos (by rw [hz]; rfl)]) h1
    · rw [if_neg (fun h => hz h.2)] at hK
      subst hK
      have e : ((cs.length : Int) == 0) = false := beq_eq_false_iff_ne.mpr (by omega)
      refine Ev.step (fun k => by simp only [spec_pzOf.j0]; rw [e, if_neg (by simp)]) h1
  · rw [if_neg (fun h => k4 h.1)] at hK
    subst hK
    exact ev_neg k4 (Ev.step (fun k => by simp only [spec_pzOf.j0]; rw [if_neg (by simp)]) h1)
theorem mk_spec (N : Nat) (h0 : 0 < N) (hN : N ≤ 4) (cs : List S74) (h : okCs N cs) (hl : cs.length ≤ 1048576) (a b : Int) : ∀ (m : Nat) (z : Int) (ds : List S31), m ≤ 6 → ds.length + m ≤ 6 → 0 ≤ z → z ≤ 10006 → Ev (fun k => spec_MakePuzzle.l0 k (N : Int) cs (m : Int) z a b ds) (a, b, mkL N cs m z ds, true) := by
  intro m
  induction m with
  | zero => intro z ds _ _ _ _; exact Ev.step (f := fun _ => some (a, b, ds, true)) (fun k => by simp only [spec_MakePuzzle.l0]; rw [if_neg (by omega)]) (Ev.now _)
  | succ m ih =>
    intro z ds hm hd hz hz1
    have n1 := nxt_ok hz hz1
    have n2 := nxt_ok n1.1 n1.2
    have hw : wrap64 (((m + 1 : Nat) : Int) - 1) = (m : Int) := by rw [w64 (by omega) (by omega)]; omega
    have hlt : ds.length < 4398046511104 := by omega
    unfold mkL
    have h2 := ih (nxt (nxt z)) (ds ++ [clueV N cs (nxt z) (nxt (nxt z))]) (by omega) (by rw [List.length_append]; simp only [List.length_cons, List.length_nil]; omega) n2.1 n2.2
    refine Ev.step (f := fun k => (spec_pzOf.f k (N : Int) (Int.tmod (nxt z) 6) (nxt (nxt z)) cs).bind fun t => if ds.length < 4398046511104 then spec_MakePuzzle.l0 k (N : Int) cs (m : Int) (nxt (nxt z)) a b (ds ++ [(⟨t.1, t.2.1, t.2.2.1, t.2.2.2⟩ : S31)]) else none) (fun k => ?_) (Ev.bind (pzOf_ev N h0 hN cs h hl (nxt z) (nxt (nxt z)) n2.1 n2.2) (ev_pos hlt h2))
    conv => lhs; unfold spec_MakePuzzle.l0
    rw [if_pos (by omega), next_v, Option.bind_some, next_v, Option.bind_some, hw]
def makeV (n : Int) (cs : List S74) (c s : Int) : Int × Int × List S31 × Bool := if (okSize n cs.length && areCa n cs && mkOk c s) = true then (n, (cs.length : Int), mkL n.toNat cs c.toNat s [], true) else (0, 0, [], false)
theorem makeV_len (n : Int) (cs : List S74) (c s : Int) : (makeV n cs c s).2.2.1.length ≤ 6 := by
  unfold makeV
  by_cases h : (okSize n cs.length && areCa n cs && mkOk c s) = true
  · rw [if_pos h]
    simp only [Bool.and_eq_true] at h
    have h2 := h.2
    unfold mkOk at h2
    simp only [Bool.and_eq_true, decide_eq_true_eq] at h2
    show (mkL _ _ _ _ _).length ≤ 6
    rw [mkL_len]
    simp only [List.length_nil]
    omega
  · rw [if_neg h]
    exact Nat.zero_le _
theorem makeV_of {n : Int} {cs : List S74} {c s : Int} (h : (okSize n cs.length && areCa n cs && mkOk c s) = true) : ∃ N M : Nat, n = N ∧ c = M ∧ 0 < N ∧ N ≤ 4 ∧ M ≤ 6 ∧ 0 ≤ s ∧ s ≤ 9999 ∧ areCa (N : Int) cs = true ∧ okCs N cs := by
  simp only [Bool.and_eq_true] at h
  obtain ⟨⟨h1, h2⟩, h3⟩ := h
  unfold okSize at h1
  unfold mkOk at h3
  simp only [Bool.and_eq_true, decide_eq_true_eq] at h1 h3
  obtain ⟨N, rfl⟩ := Int.eq_ofNat_of_zero_le (show 0 ≤ n by omega)
  obtain ⟨M, rfl⟩ := Int.eq_ofNat_of_zero_le (show 0 ≤ c by omega)
  refine ⟨N, M, rfl, rfl, by omega, by omega, by omega, by omega, by omega, h2, fun x hm => ?_⟩
  unfold areCa at h2
  simp only [Bool.and_eq_true, List.all_eq_true] at h2
  simpa [impl_AreCalls.ok] using h2.2 x hm
theorem impl_v (n : Int) (cs : List S74) (c s : Int) : Ev (fun k => impl_MakePuzzle.f k n cs c s) (makeV n cs c s) := by
  unfold impl_MakePuzzle.f makeV
  refine ev_call (isHidden_v n cs) ?_
  by_cases h : (okSize n cs.length && areCa n cs && mkOk c s) = true
  · rw [if_pos h]
    obtain ⟨N, M, rfl, rfl, h0, hN, hM, s0, s1, hc, _⟩ := makeV_of h
    refine ev_pos h (ev_neg (by omega) ?_)
    rw [Int.toNat_natCast, Int.toNat_natCast]
    exact Ev.bind (mkN_ev N h0 hN cs hc M s [] s0 (by omega)) (Ev.now _)
  · rw [if_neg h]
    exact ev_neg h (Ev.now _)
theorem spec_v (n : Int) (cs : List S74) (hl : cs.length ≤ 1048576) (c s : Int) : Ev (fun k => spec_MakePuzzle.f k n cs c s) (makeV n cs c s) := by
  have no : Ev (fun k => spec_MakePuzzle.j0 k n cs c s true) (0, 0, [], false) := Ev.step (f := fun _ => some (0, 0, [], false)) (fun k => by simp only [spec_MakePuzzle.j0]; first | rw [if_pos rfl] | rw [if_pos trivial]) (Ev.now _)
  unfold spec_MakePuzzle.f
  refine Ev.bind (pzHidden_ev n cs (by omega)) ?_
  by_cases h : (okSize n cs.length && areCa n cs && mkOk c s) = true
  · have hv : makeV n cs c s = (n, (cs.length : Int), mkL n.toNat cs c.toNat s [], true) := if_pos h
    rw [hv]
    obtain ⟨N, M, rfl, rfl, h0, hN, hM, s0, s1, hc, hk⟩ := makeV_of h
    rw [Int.toNat_natCast, Int.toNat_natCast]
    simp only [Bool.and_eq_true] at h
    have e1 : decide (0 ≤ (M : Int) ∧ (M : Int) ≤ 6) = true := decide_eq_true (by omega)
    have e2 : decide (0 ≤ s ∧ s ≤ 9999) = true := decide_eq_true (by omega)
    refine ev_pos (by rw [h.1.1, h.1.2]; rfl) (ev_call (l1In_eq _ _ _) (ev_pos e1 (ev_call (l1In_eq _ _ _) ?_)))
    rw [e2]
    exact Ev.step (fun k => by simp only [spec_MakePuzzle.j0]; rw [if_neg (by simp)]) (mk_spec N h0 hN cs hk hl _ _ M s [] hM (by simpa using hM) s0 (by omega))
  · have hv : makeV n cs c s = (0, 0, [], false) := if_neg h
    rw [hv]
    refine ev_if (fun g1 => ev_call (l1In_eq _ _ _) (ev_if (fun g2 => ev_call (l1In_eq _ _ _) ?_) (fun _ => no))) (fun _ => no)
    have e3 : decide (0 ≤ s ∧ s ≤ 9999) = false := Bool.eq_false_iff.mpr (fun g3 => h (by unfold mkOk; rw [g1, g2, g3]; rfl))
    rw [e3]
    exact no
theorem FnExactMakePuzzle : laws_FnExactMakePuzzle.Pure := by
  intro n l c s _ hl _ _ _
  refine Ev.rounds ?_
  unfold laws_FnExactMakePuzzle.f
  refine ev_call (szCallS_val l hl) ?_
  by_cases hs : l.length ≤ 1048576
  · rw [if_pos hs]
    have hc : (l.map cvCall).length ≤ 1048576 := by simpa using hs
    have hT := toCallS_ev l hs
    have hS := spec_v n (l.map cvCall) hc c s
    have hI := impl_v n (l.map cvCall) c s
    have hv := makeV_len n (l.map cvCall) c s
    generalize makeV n (l.map cvCall) c s = v at hS hI hv
    obtain ⟨v1, v2, v3, v4⟩ := v
    simp only at hv
    have hv3 : v3.length ≤ 1048576 := by omega
    have hE := eqPz_ev v1 v2 v3 hv3
    refine ev_neg (by omega) (Ev.bind hT (Ev.bind hS (Ev.bind hT (Ev.bind hI (Ev.bind hE (ev_pos rfl ?_))))))
    refine Ev.step (fun k => by simp only [laws_FnExactMakePuzzle.j0]; rfl) ?_
    refine (ev_neg (by simp) (Ev.bind hT (Ev.bind (eqCallS_ev _ hc) (ev_pos rfl (Ev.bind (markCallS_ev _ hc) (ev_neg (by first | omega | (simp only; omega)) (Ev.bind hE (ev_pos rfl ?_))))))))
    refine Ev.step (fun k => by simp only [laws_FnExactMakePuzzle.j1]; rfl) ?_
    refine (ev_neg (by simp) (Ev.bind (markPuzzle_ev v1 v2 v3 hv3) (Ev.bind (heldPuzzle_ev v1 v2 v3.length hv3) (ev_neg (by first | omega | (simp only; omega)) (ev_pos rfl (Ev.bind hT (Ev.bind hI (Ev.bind hE (ev_pos rfl ?_)))))))))
    refine Ev.step (fun k => by simp only [laws_FnExactMakePuzzle.j2]; rfl) ?_
    exact (ev_neg (by simp) (Ev.bind (heldPuzzle_ev v1 v2 v3.length hv3) (ev_neg (by omega) (ev_pos rfl (Ev.now _)))))
  · rw [if_neg hs]
    exact ev_pos (by omega) (Ev.now _)

end Go.Proofs.Ythakmnjamdggeaa.Pure
