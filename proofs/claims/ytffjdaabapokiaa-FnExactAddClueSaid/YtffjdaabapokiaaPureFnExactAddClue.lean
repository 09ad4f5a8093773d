/- The law FnExactAddClue in plain Lean: it returns true at every input. No conditions. -/
import Derived.Test.YtffjdaabapokiaaStFnExactAddClue
import Derived.Test.YtffjdaabapokiaaGr
import Derived.Test.YtffjdaabapokiaaGp
namespace Go.Proofs.Ytffjdaabapokiaa.Pure
open Go.RowKit Go.Proofs.Ytffjdaabapokiaa.PFnExactAddClue Go.Proofs.YtffjdaabapokiaaW.PrintWords Go.Proofs.YtffjdaabapokiaaW.PrintLast Go.Proofs.YtffjdaabapokiaaW.PrintMore Go.Proofs.Ytffjdaabapokiaa.Gr Go.Proofs.Ytffjdaabapokiaa.Gp
set_option linter.unusedVariables false
set_option linter.unusedSimpArgs false

theorem szClueS_val (l : List S34) (h : l.length ≤ 9223372036854775807) : laws_szClueS.f l 1048576 = some (if l.length ≤ 1048576 then 1048576 - (l.length : Int) else -1) := by
  unfold laws_szClueS.f
  rw [w64 (by omega) (by omega)]
  by_cases hl : l.length ≤ 1048576
  · rw [if_neg (by omega), if_pos hl]
  · rw [if_pos (by omega), if_neg hl]

def cvClue (y : S34) : S37 := ⟨y.f0, y.f1, y.f2, y.f3⟩
theorem toClueS_ev (l : List S34) (h : l.length ≤ 1048576) : Ev (fun k => laws_toClueS.f k l) (l.map cvClue) := by
  unfold laws_toClueS.f
  refine ev_pos (by omega) (ev_pos (by omega) ?_)
  refine ev_fill l z37 cvClue (fun k st i => laws_toClueS.l0 k l st i) (fun k st i hi hst => ?_) (fun k st hst => ?_)
  · have e : l.getD i z34 = l[i] := getD_at l i hi _
    simp only [laws_toClueS.l0, rd_T34, Int.toNat_natCast]
    rw [if_pos (by omega), if_pos (by omega), e]
    simp only [laws_toClue.f, Option.bind_some, cvClue]
    rw [if_pos (by omega), w64 (by omega) (by omega)]
    rfl
  · simp only [laws_toClueS.l0]
    rw [if_neg (by omega)]

theorem eqClueS_ev (l : List S37) (h : l.length ≤ 1048576) : Ev (fun k => laws_eqClueS.f k l l) true := by
  unfold laws_eqClueS.f
  refine ev_pos rfl (ev_same l (fun k i => laws_eqClueS.l0 k l l i) (fun k i hi => ?_) (fun k => ?_))
  · simp only [laws_eqClueS.l0]
    rw [if_pos (by omega), if_pos (by omega), if_pos (by omega)]
    unfold laws_eqClue.f
    rw [if_pos rfl, if_pos rfl, if_pos rfl, if_pos rfl]
    simp only [Option.bind_some, if_true]
    rw [w64 (by omega) (by omega)]
    rfl
  · simp only [laws_eqClueS.l0]
    rw [if_neg (by omega)]

theorem szPuzzle_val (a b : Int) (l : List S34) (h : l.length ≤ 9223372036854775807) : laws_szPuzzle.f a b l 1048576 = some (if l.length ≤ 1048576 then 1048576 - (l.length : Int) else -1) := by
  unfold laws_szPuzzle.f
  rw [szClueS_val l h]
  simp only [Option.bind_some]
  by_cases hl : l.length ≤ 1048576
  · rw [if_pos hl, if_neg (by omega)]
  · rw [if_neg hl, if_pos (by omega)]
theorem toPuzzle_ev (a b : Int) (l : List S34) (h : l.length ≤ 1048576) : Ev (fun k => laws_toPuzzle.f k a b l) (a, b, l.map cvClue) := Ev.bind (toClueS_ev l h) (Ev.now _)
theorem eqPuzzle_ev (a b : Int) (l : List S37) (h : l.length ≤ 1048576) : Ev (fun k => laws_eqPuzzle.f k a b l a b l) true := ev_pos rfl (ev_pos rfl (Ev.bind (eqClueS_ev l h) (ev_pos rfl (Ev.now _))))

theorem l1In_eq (a b c : Int) : spec_l1In.f a b c = some (decide (b ≤ a ∧ a ≤ c)) := by
  unfold spec_l1In.f
  by_cases h : b ≤ a <;> simp [h]

theorem rd_clue (l : List S37) (i : Nat) (hi : i < l.length) : rd_T37 l (i : Int) = l[i] := by
  unfold rd_T37
  rw [Int.toNat_natCast]
  exact getD_at l i hi _
theorem within_eq (a b c : Int) : impl_within.f a b c = some (decide (b ≤ a ∧ a ≤ c)) := by
  unfold impl_within.f
  by_cases h : b ≤ a <;> simp [h]
theorem isBelow_eq (a n : Int) : impl_isBelow.f a n = some (decide (0 ≤ a ∧ a < n)) := by
  unfold impl_isBelow.f
  by_cases h : 0 ≤ a <;> simp [h]
def okSize (a b : Int) : Bool := decide (2 ≤ a ∧ a ≤ 4) && decide (0 ≤ b ∧ b ≤ 3)
theorem areHidden_v (a b : Int) : impl_areHidden.f a b = some (okSize a b) := by
  unfold impl_areHidden.f okSize
  simp only [within_eq, Option.bind_some]
  by_cases h : 2 ≤ a ∧ a ≤ 4 <;> simp [h]
theorem pzSize_v (a b : Int) : spec_pzSize.f a b = some (okSize a b) := by
  unfold spec_pzSize.f okSize
  simp only [l1In_eq, Option.bind_some]
  by_cases h : 2 ≤ a ∧ a ≤ 4 <;> simp [h]
theorem sameClue (a b k x y z : Int) (h : okSize a b = true) : impl_IsClue.f a b k x y z = spec_pzClue.f a b k x y z := by
  have hs := h
  unfold okSize at hs
  simp only [Bool.and_eq_true, decide_eq_true_eq] at hs
  obtain ⟨ha, hb⟩ := hs
  unfold impl_IsClue.f spec_pzClue.f
  rw [areHidden_v, Option.bind_some, h, Bool.true_and]
  unfold clueB
  simp only [l1In_eq, Option.bind_some]
  have e1 : wrap64 (a - 1) = a - 1 := by unfold wrap64; omega
  have e2 : wrap64 (b - 1) = b - 1 := by unfold wrap64; omega
  have q : ∀ u v : Int, (u ≤ v - 1) = (u < v) := fun u v => propext ⟨fun h => by omega, fun h => by omega⟩
  simp only [e1, e2, q]
  by_cases k0 : k = 0
  · subst k0
    by_cases h0 : 0 ≤ x ∧ x < a <;> by_cases h4 : y = 0 <;> simp [h0, h4]
  by_cases k1 : k = 1
  · subst k1
    by_cases h0 : 0 ≤ x ∧ x < a <;> by_cases h4 : y = 0 <;> simp [h0, h4]
  by_cases k2 : k = 2
  · subst k2
    by_cases h0 : 0 ≤ x ∧ x < a <;> by_cases h1 : 0 ≤ y ∧ y < a <;> simp [h0, h1]
  by_cases k3 : k = 3
  · subst k3
    by_cases h3 : x = 0 <;> by_cases h4 : y = 0 <;> simp [h3, h4]
  by_cases k4 : k = 4
  · subst k4
    by_cases h2 : 0 ≤ x ∧ x < b <;> by_cases h1 : 0 ≤ y ∧ y < a <;> simp [h1, h2]
  by_cases k5 : k = 5
  · subst k5
    by_cases h3 : x = 0 <;> by_cases h4 : y = 0 <;> simp [h3, h4]
  simp [k0, k1, k2, k3, k4, k5]
theorem clue_tot (a b k x y z : Int) : Tot (impl_IsClue.f a b k x y z) := by
  unfold impl_IsClue.f
  rw [areHidden_v]
  exact Tot.some _
theorem clue_v (a b : Int) (c : S37) : impl_IsClue.f a b c.f0 c.f1 c.f2 c.f3 = some (clueOk a b c) := by
  obtain ⟨r, hr⟩ := clue_tot a b c.f0 c.f1 c.f2 c.f3
  unfold clueOk
  rw [hr]
  rfl
theorem pzClue_v (a b : Int) (c : S37) (h : okSize a b = true) : spec_pzClue.f a b c.f0 c.f1 c.f2 c.f3 = some (clueOk a b c) := by
  rw [← sameClue a b _ _ _ _ h, clue_v]

def okPz (a b : Int) (l : List S37) : Bool := okSize a b && decide (l.length ≤ 6) && l.all (clueOk a b)
theorem isPuzzle_v (a b : Int) (l : List S37) : impl_IsPuzzle.f a b l = some (okPz a b l) := by
  unfold impl_IsPuzzle.f okPz
  rw [areHidden_v]
  simp only [Option.bind_some]
  rw [if_pos (fun c _ => by rw [clue_v]; rfl), show (l.all (clueOk a b)) = !l.any fun c => !clueOk a b c by simp [List.any_eq_not_all_not]]
theorem pzGood_l (a b : Int) (l : List S37) (hs : okSize a b = true) (hl : l.length ≤ 6) : ∀ i, i ≤ l.length → Ev (fun k => spec_pzGood.l0 k l (l.length : Int) (i : Int) a b l) ((l.drop i).all (clueOk a b)) := by
  refine ev_down l.length _ _ (Ev.step (f := fun _ => some true) (fun k => by simp only [spec_pzGood.l0]; rw [if_neg (by omega)]) (ev_eq (by simp) (Ev.now true))) (fun i hi ih => ?_)
  have hd : l.drop i = l[i] :: l.drop (i + 1) := List.drop_eq_getElem_cons hi
  refine Ev.step (f := fun k => if clueOk a b l[i] = true then spec_pzGood.l0 k l (l.length : Int) ((i + 1 : Nat) : Int) a b l else some false) (fun k => ?_) ?_
  · have hg := rd_clue l i hi
    simp only [spec_pzGood.l0, hg, pzClue_v a b l[i] hs, Option.bind_some]
    rw [if_pos (by omega), if_pos (by omega), if_pos (by omega), w64 (n := (i : Int) + 1) (by omega) (by omega)]
    rfl
  · rw [hd, List.all_cons]
    by_cases ha : clueOk a b l[i] = true
    · exact ev_pos ha (ev_eq (by rw [ha, Bool.true_and]) ih)
    · exact ev_neg ha (ev_eq (by rw [Bool.eq_false_iff.2 ha, Bool.false_and]) (Ev.now false))
theorem pzGood_ev (a b : Int) (l : List S37) (hb : l.length ≤ 9223372036854775807) : Ev (fun k => spec_pzGood.f k a b l) (okPz a b l) := by
  unfold spec_pzGood.f okPz
  refine ev_call (pzSize_v a b) ?_
  by_cases h : okSize a b = true
  · refine ev_pos h ?_
    by_cases hl : l.length ≤ 6
    · refine Ev.step (f := fun k => spec_pzGood.l0 k l (l.length : Int) 0 a b l) (fun k => ?_) (ev_eq ?_ (pzGood_l a b l h hl 0 (Nat.zero_le _)))
      · simp only [spec_pzGood.j0]
        rw [if_neg (by simp; omega)]
      · simp [h, hl]
    · refine Ev.step (f := fun k => some false) (fun k => ?_) (ev_eq (by simp [hl]) (Ev.now false))
      simp only [spec_pzGood.j0]
      rw [if_pos (by simp; omega)]
  · refine ev_neg h (Ev.step (f := fun k => some false) (fun k => ?_) (ev_eq (by rw [Bool.eq_false_iff.2 h, Bool.false_and, Bool.false_and]) (Ev.now false)))
    simp only [spec_pzGood.j0]
    first | rw [if_pos rfl] | rw [if_pos trivial]

/-- A loop that puts a mark into each index, c numbers further each time. -/
theorem ev_tabC {β : Type} (n : Nat) (c : Int) (m : Nat → β) (L : Nat → List β → Int → Int → Option (Int × List β)) (a : Int)
    (hstep : ∀ (st : List β) (i : Nat) r, i < n → st.length = n → Ev (fun k => L k (st.set i (m i)) (a + c * (i + 1 : Nat)) ((i + 1 : Nat) : Int)) r → Ev (fun k => L k st (a + c * i) (i : Int)) r)
    (hend : ∀ k st, st.length = n → L (k + 1) st (a + c * n) (n : Int) = some (a + c * n, st)) (l : List β) (hl : l.length = n) : Ev (fun k => L k l a 0) (a + c * n, (List.range n).map m) := by
  have key : ∀ d i, n - i = d → i ≤ n → ∀ st : List β, st.length = n → st.take i = (List.range i).map m → Ev (fun k => L k st (a + c * i) (i : Int)) (a + c * n, (List.range n).map m) := by
    intro d
    induction d with
    | zero =>
      intro i hd hi st hst hp
      obtain rfl : i = n := by omega
      rw [List.take_of_length_le (by omega)] at hp
      exact Ev.step (f := fun _ => some _) (fun k => by rw [hend k st hst, hp]) (Ev.now _)
    | succ d ih =>
      intro i hd hi st hst hp
      exact hstep st i _ (by omega) hst (ih (i + 1) (by omega) (by omega) _ (by simpa using hst) (tab_set n m st hst i (by omega) hp))
  simpa using key n 0 rfl (Nat.zero_le _) l hl (by simp)

def mkClue (i : Nat) : S37 := ⟨1 + 4 * (i : Int), 1 + 4 * (i : Int) + 1, 1 + 4 * (i : Int) + 2, 1 + 4 * (i : Int) + 3⟩
theorem rd_set (l : List S37) (i : Nat) (x : S37) (h : i < l.length) : rd_T37 (l.set i x) (i : Int) = x := by
  unfold rd_T37
  rw [Int.toNat_natCast, getD_at _ i (by simpa using h)]
  simp
theorem markClueS_ev (l : List S37) (h : l.length ≤ 1048576) : Ev (fun k => laws_markClueS.f k l 1) (1 + 4 * (l.length : Int), (List.range l.length).map mkClue) := by
  unfold laws_markClueS.f
  refine ev_tabC l.length 4 mkClue (fun k st a i => laws_markClueS.l0 k st a i) 1 (fun st i r hi hst hr => ?_) (fun k st hst => ?_) l rfl
  · refine Ev.step (fun k => ?_) hr
    have w1 : wrap64 (1 + 4 * (i : Int) + 1) = 1 + 4 * (i : Int) + 1 := w64 (by omega) (by omega)
    have w2 : wrap64 (1 + 4 * (i : Int) + 1 + 1) = 1 + 4 * (i : Int) + 2 := by rw [w64 (by omega) (by omega)]; omega
    have w3 : wrap64 (1 + 4 * (i : Int) + 2 + 1) = 1 + 4 * (i : Int) + 3 := by rw [w64 (by omega) (by omega)]; omega
    have w4 : wrap64 (1 + 4 * (i : Int) + 3 + 1) = 1 + 4 * ((i + 1 : Nat) : Int) := by rw [w64 (by omega) (by omega)]; omega
    have w5 : wrap64 ((i : Int) + 1) = ((i + 1 : Nat) : Int) := by rw [w64 (by omega) (by omega)]; omega
    rw [laws_markClueS.l0, if_pos (by omega), if_pos (by omega), Option.bind_some, Option.bind_some, Option.bind_some, Int.toNat_natCast, w1, w2, w3, w4, w5]
    have hi' : i < st.length := by omega
    simp only [List.set_set, rd_set st i _ hi']
    rfl
  · rw [laws_markClueS.l0, if_neg (by omega)]

theorem heldClueS_ev (n : Nat) (h : n ≤ 1048576) : Ev (fun k => laws_heldClueS.f k ((List.range n).map mkClue) 1) (1 + 4 * (n : Int)) := by
  unfold laws_heldClueS.f
  have hl : ((List.range n).map mkClue).length = n := by simp
  have := ev_down n (fun i k => laws_heldClueS.l0 k ((List.range n).map mkClue) (1 + 4 * (i : Int)) (i : Int)) (fun _ => 1 + 4 * (n : Int)) (Ev.step (f := fun _ => some _) (fun k => by rw [laws_heldClueS.l0, if_neg (by rw [hl]; omega)]) (Ev.now _)) (fun i hi ih => ?_) 0 (Nat.zero_le _)
  · simpa using this
  · refine Ev.step (fun k => ?_) ih
    have e : rd_T37 ((List.range n).map mkClue) (i : Int) = mkClue i := by
      unfold rd_T37
      rw [Int.toNat_natCast, getD_at _ i (by rw [hl]; exact hi)]
      simp
    have w1 : wrap64 (1 + 4 * (i : Int) + 1) = 1 + 4 * (i : Int) + 1 := w64 (by omega) (by omega)
    have w2 : wrap64 (1 + 4 * (i : Int) + 1 + 1) = 1 + 4 * (i : Int) + 2 := by rw [w64 (by omega) (by omega)]; omega
    have w3 : wrap64 (1 + 4 * (i : Int) + 2 + 1) = 1 + 4 * (i : Int) + 3 := by rw [w64 (by omega) (by omega)]; omega
    have w4 : wrap64 (1 + 4 * (i : Int) + 3 + 1) = 1 + 4 * ((i + 1 : Nat) : Int) := by rw [w64 (by omega) (by omega)]; omega
    have w5 : wrap64 ((i : Int) + 1) = ((i + 1 : Nat) : Int) := by rw [w64 (by omega) (by omega)]; omega
    rw [laws_heldClueS.l0, if_pos (by rw [hl]; omega), if_pos (by omega), e, w1, w2, w3, w4, w5]
    unfold mkClue
    rw [if_pos rfl, if_pos rfl, if_pos rfl, if_pos rfl]

theorem markPuzzle_ev (a b : Int) (l : List S37) (h : l.length ≤ 1048576) : Ev (fun k => laws_markPuzzle.f k a b l 1) (1 + 4 * (l.length : Int), (List.range l.length).map mkClue) := Ev.bind (markClueS_ev l h) (Ev.now _)

theorem heldPuzzle_ev (a b : Int) (n : Nat) (h : n ≤ 1048576) : Ev (fun k => laws_heldPuzzle.f k a b ((List.range n).map mkClue) 1) (1 + 4 * (n : Int)) := Ev.bind (heldClueS_ev n h) (ev_neg (by omega) (Ev.now _))

def addV (a b : Int) (l : List S37) (c : S37) : Int × Int × List S37 × Bool := if (okPz a b l = true ∧ clueOk a b c = true) ∧ ¬ (l.length : Int) = 6 then (a, b, l ++ [c], true) else (0, 0, [], false)
theorem addV_len (a b : Int) (l : List S37) (c : S37) : (addV a b l c).2.2.1.length ≤ 6 := by
  unfold addV
  split
  · rename_i h
    have h1 := h.1.1
    unfold okPz at h1
    simp only [Bool.and_eq_true, decide_eq_true_eq] at h1
    have h2 := h1.1.2
    have h3 := h.2
    simp only [List.length_append, List.length_cons, List.length_nil]
    omega
  · simp
theorem okPz_size {a b : Int} {l : List S37} (h : okPz a b l = true) : okSize a b = true ∧ l.length ≤ 6 := by
  unfold okPz at h
  simp only [Bool.and_eq_true, decide_eq_true_eq] at h
  exact h.1
theorem addV_yes {a b : Int} {l : List S37} {c : S37} (h : okPz a b l = true) (hc : clueOk a b c = true) (hn : ¬ (l.length : Int) = 6) : addV a b l c = (a, b, l ++ [c], true) := if_pos ⟨⟨h, hc⟩, hn⟩
theorem addV_no {a b : Int} {l : List S37} {c : S37} (h : ¬ ((okPz a b l = true ∧ clueOk a b c = true) ∧ ¬ (l.length : Int) = 6)) : addV a b l c = (0, 0, [], false) := if_neg h
theorem spec_v (a b : Int) (l : List S37) (c : S37) (hl : l.length ≤ 1048576) : Ev (fun k => spec_AddClue.f k a b l c.f0 c.f1 c.f2 c.f3) (addV a b l c) := by
  unfold spec_AddClue.f
  refine Ev.bind (pzGood_ev a b l (by omega)) ?_
  by_cases h : okPz a b l = true
  · obtain ⟨hs, h6⟩ := okPz_size h
    refine ev_pos h (ev_call (pzClue_v a b c hs) ?_)
    by_cases hc : clueOk a b c = true
    · refine ev_pos hc ?_
      by_cases hn : (l.length : Int) = 6
      · rw [addV_no (fun hh => hh.2 hn)]
        exact ev_pos hn (Ev.now _)
      · rw [addV_yes h hc hn]
        refine ev_neg hn ?_
        refine ev_call rfl (ev_pos (by simp only [List.length_nil]; omega) (ev_call rfl (ev_call rfl (ev_pos (by simp only [List.length_append, List.length_cons, List.length_nil]; omega) ?_))))
        exact Ev.now _
    · rw [addV_no (fun hh => hc hh.1.2)]
      exact ev_neg hc (Ev.now _)
  · rw [addV_no (fun hh => h hh.1.1)]
    exact ev_neg h (Ev.now _)
theorem impl_v (a b : Int) (l : List S37) (c : S37) (hl : l.length ≤ 1048576) : Ev (fun k => impl_AddClue.f k a b l c.f0 c.f1 c.f2 c.f3) (addV a b l c) := by
  have no : Ev (fun k => impl_AddClue.j0 k true a b l c.f0 c.f1 c.f2 c.f3) (0, 0, [], false) := Ev.step (f := fun _ => some (0, 0, [], false)) (fun k => by simp only [impl_AddClue.j0]; first | rw [if_pos rfl] | rw [if_pos trivial]) (Ev.now _)
  unfold impl_AddClue.f
  refine ev_call (isPuzzle_v a b l) ?_
  by_cases h : okPz a b l = true
  · obtain ⟨hs, h6⟩ := okPz_size h
    refine ev_pos h (ev_call (clue_v a b c) ?_)
    by_cases hc : clueOk a b c = true
    · refine ev_pos hc ?_
      by_cases hn : (l.length : Int) = 6
      · rw [addV_no (fun hh => hh.2 hn), show ((l.length : Int) == 6) = true by simpa using hn]
        exact no
      · rw [addV_yes h hc hn, show ((l.length : Int) == 6) = false by simpa using hn]
        have hcl : impl_Clue_29.f l = some l := by unfold impl_Clue_29.f; rw [if_pos (by omega)]
        refine Ev.step (f := fun _ => some (a, b, l ++ [c], true)) (fun k => ?_) (Ev.now _)
        rw [impl_AddClue.j0, if_neg (by simp), hcl, Option.bind_some, Option.bind_some, if_pos (by simp only [List.length_cons, List.length_nil]; omega)]
        rfl
    · rw [addV_no (fun hh => hc hh.1.2)]
      exact ev_neg hc no
  · rw [addV_no (fun hh => h hh.1.1)]
    exact ev_neg h no
theorem FnExactAddClue : laws_FnExactAddClue.Pure := by
  intro a b l c0 c1 c2 c3 _ _ hl _ _ _ _ _
  refine Ev.rounds ?_
  unfold laws_FnExactAddClue.f
  refine ev_call (szPuzzle_val a b l hl) ?_
  by_cases hs : l.length ≤ 1048576
  · rw [if_pos hs]
    have hc : (l.map cvClue).length ≤ 1048576 := by simpa using hs
    have hT := toPuzzle_ev a b l hs
    have hK : laws_toClue.f c0 c1 c2 c3 = some (c0, c1, c2, c3) := rfl
    have hS := spec_v a b (l.map cvClue) ⟨c0, c1, c2, c3⟩ hc
    have hI := impl_v a b (l.map cvClue) ⟨c0, c1, c2, c3⟩ hc
    have hv := addV_len a b (l.map cvClue) ⟨c0, c1, c2, c3⟩
    generalize addV a b (l.map cvClue) ⟨c0, c1, c2, c3⟩ = v at hS hI hv
    obtain ⟨v1, v2, v3, v4⟩ := v
    have hv3 : v3.length ≤ 1048576 := Nat.le_trans hv (by decide)
    have hE := eqPuzzle_ev v1 v2 v3 hv3
    refine ev_neg (by omega) (Ev.bind hT (ev_call hK (Ev.bind hS (Ev.bind hT (ev_call hK (Ev.bind hI (Ev.bind hE (ev_pos rfl ?_))))))))
    refine Ev.step (fun k => by simp only [laws_FnExactAddClue.j0]; rfl) ?_
    refine (ev_neg (by simp) (Ev.bind hT (Ev.bind (eqPuzzle_ev a b _ hc) (ev_pos rfl (Ev.bind (markPuzzle_ev a b _ hc) (ev_neg (by first | omega | (simp only; omega)) (Ev.bind hE (ev_pos rfl ?_))))))))
    refine Ev.step (fun k => by simp only [laws_FnExactAddClue.j1]; rfl) ?_
    refine (ev_neg (by simp) (Ev.bind (markPuzzle_ev v1 v2 v3 hv3) (Ev.bind (heldPuzzle_ev v1 v2 v3.length hv3) (ev_neg (by first | omega | (simp only; omega)) (ev_pos rfl (Ev.bind hT (ev_call hK (Ev.bind hI (Ev.bind hE (ev_pos rfl ?_))))))))))
    refine Ev.step (fun k => by simp only [laws_FnExactAddClue.j2]; rfl) ?_
    exact (ev_neg (by simp) (Ev.bind (heldPuzzle_ev v1 v2 v3.length hv3) (ev_neg (by omega) (ev_pos rfl (Ev.now _)))))
  · rw [if_neg hs]
    exact ev_pos (by omega) (Ev.now _)

end Go.Proofs.Ytffjdaabapokiaa.Pure
