/- The law FnExactClaimsOfCast in plain Lean: it returns true at every input. No conditions. -/
import Derived.Test.YtjkildnpnjhgfaaDoorPFnExactClaimsOfCastx
import Derived.Test.YtjkildnpnjhgfaaDoorGr
import Derived.Test.YtjkildnpnjhgfaaDoorGp
namespace Go.Proofs.YtjkildnpnjhgfaaDoor.Pure
open Go.RowKit Go.Proofs.YtjkildnpnjhgfaaDoor.PFnExactClaimsOfCast Go.Proofs.YtjkildnpnjhgfaaDoorW.PrintWords Go.Proofs.YtjkildnpnjhgfaaDoorW.PrintLast Go.Proofs.YtjkildnpnjhgfaaDoorW.PrintMore Go.Proofs.YtjkildnpnjhgfaaDoor.Gr Go.Proofs.YtjkildnpnjhgfaaDoor.Gp
set_option linter.unusedVariables false
set_option linter.unusedSimpArgs false

theorem l1In_v (x lo hi : Int) : spec_l1In.f x lo hi = some (decide (lo ≤ x ∧ x ≤ hi)) := by
  unfold spec_l1In.f
  by_cases h1 : lo ≤ x
  · rw [if_pos h1]
    by_cases h2 : x ≤ hi
    · rw [decide_eq_true h2, decide_eq_true (⟨h1, h2⟩ : lo ≤ x ∧ x ≤ hi)]
    · rw [decide_eq_false h2, decide_eq_false (fun h : lo ≤ x ∧ x ≤ hi => h2 h.2)]
  · rw [if_neg h1, decide_eq_false (fun h : lo ≤ x ∧ x ≤ hi => h1 h.1)]
theorem within_v (x lo hi : Int) : impl_within.f x lo hi = some (decide (lo ≤ x ∧ x ≤ hi)) := by
  unfold impl_within.f
  by_cases h1 : lo ≤ x
  · rw [if_pos h1]
    by_cases h2 : x ≤ hi
    · rw [decide_eq_true h2, decide_eq_true (⟨h1, h2⟩ : lo ≤ x ∧ x ≤ hi)]
    · rw [decide_eq_false h2, decide_eq_false (fun h : lo ≤ x ∧ x ≤ hi => h2 h.2)]
  · rw [if_neg h1, decide_eq_false (fun h : lo ≤ x ∧ x ≤ hi => h1 h.1)]
def castOk (s : ByteArray) : Bool := decide (1 ≤ s.size ∧ s.size ≤ 8) && castB s.data.toList
theorem liCast_v (s : ByteArray) : spec_liCast.f s = some (castOk s) := rfl
theorem isCast_v (s : ByteArray) : impl_isCast.f s = some (castOk s) := rfl
theorem castOk_size {s : ByteArray} (h : castOk s = true) : 1 ≤ s.size ∧ s.size ≤ 8 := by
  unfold castOk at h
  simp only [Bool.and_eq_true, decide_eq_true_eq] at h
  exact h.1
theorem castOk_bt {s : ByteArray} (h : castOk s = true) (i : Int) (h0 : 0 ≤ i) (h1 : i < s.size) : bt s i = 104 ∨ bt s i = 108 := by
  unfold castOk at h
  simp only [Bool.and_eq_true] at h
  have h2 := h.2
  unfold castB at h2
  have hi : i.toNat < s.size := by omega
  have hm : s[i.toNat] ∈ s.data.toList := by
    have e : s.data.toList[i.toNat]'(by simpa using hi) = s[i.toNat] := rfl
    rw [← e]
    exact List.getElem_mem _
  have h3 := List.all_eq_true.1 h2 _ hm
  rw [← bt_at s i hi]
  simp only [Bool.or_eq_true, beq_iff_eq] at h3
  rcases h3 with h3 | h3
  · left; rw [h3]; rfl
  · right; rw [h3]; rfl
theorem says_hl {x y : Int} (hx : x = 104 ∨ x = 108) (hy : y = 104 ∨ y = 108) : ((y == 104) == (x == 104)) = (x == y) := by
  rcases hx with rfl | rfl <;> rcases hy with rfl | rfl <;> rfl
theorem nneq {b c : Bool} (h : b = c) : ¬ (b != c) = true := by
  subst h
  simp

theorem liSays_v {s : ByteArray} (h : castOk s = true) (a b : Int) (a0 : 0 ≤ a) (a1 : a < s.size) (b0 : 0 ≤ b) (b1 : b < s.size) : spec_liSays.f s a b = some (bt s a == bt s b) := by
  unfold spec_liSays.f
  rw [if_pos b0, if_pos b1, if_pos a0, if_pos a1, says_hl (castOk_bt h a a0 a1) (castOk_bt h b b0 b1)]
theorem says_v {s : ByteArray} (a b : Int) (a0 : 0 ≤ a) (a1 : a < s.size) (b0 : 0 ≤ b) (b1 : b < s.size) : impl_says.f s a b = some (bt s a == bt s b) := by
  unfold impl_says.f
  rw [if_pos a0, if_pos a1, if_pos b0, if_pos b1]

/-- A loop that puts a mark into each index, c numbers further each time. -/
theorem ev_tabC {β : Type} (n : Nat) (c : Int) (m : Nat → β) (L : Nat → List β → Int → Int → Option (Int × List β)) (a : Int)
    (hstep : ∀ (st : List β) (i : Nat) r, i < n → st.length = n → Ev (fun k => L k (st.set i (m i)) (a + c * (i + 1 : Nat)) ((i + 1 : Nat) : Int)) r → Ev (fun k => L k st (a + c * i) (i : Int)) r)
    (hend : ∀ k st, st.length = n → L (k + 1) st (a + c * n) (n : Int) = some (a + c * n, st)) (l : List β) (hl : l.length = n) : Ev (fun k => L k l a 0) (a + c * n, (List.range n).map m) := by
  have key : ∀ d i, n - i = d → i ≤ n → ∀ st : List β, st.length = n → st.take i = (List.range i).map m → Ev (fun k => L k st (a + c * i) (i : Int)) (a + c * n, (List.range n).map m) := by
    intro d
    induction d with
    | zero =>
      intro i hd hi st hst hp
      obtain rfl : i = n := by omega
      rw [List.take_of_length_le (by omega)] at hp
      exact Ev.step (f := fun _ => some _) (fun k => by rw [hend k st hst, hp]) (Ev.now _)
    | succ d ih =>
      intro i hd hi st hst hp
      exact hstep st i _ (by omega) hst (ih (i + 1) (by omega) (by omega) _ (by simpa using hst) (tab_set n m st hst i (by omega) hp))
  simpa using key n 0 rfl (Nat.zero_le _) l hl (by simp)

def mkClaim (i : Nat) : S49 := ⟨1 + 3 * (i : Int), 1 + 3 * (i : Int) + 1, Int.tmod (1 + 3 * (i : Int) + 2) 3 == 0⟩
theorem rd_setClaim (l : List S49) (i : Nat) (x : S49) (h : i < l.length) : rd_T49 (l.set i x) (i : Int) = x := by
  unfold rd_T49
  rw [Int.toNat_natCast, getD_at _ i (by simpa using h)]
  simp
theorem markClaims_ev (l : List S49) (h : l.length ≤ 1048576) : Ev (fun k => laws_markClaimS.f k l 1) (1 + 3 * (l.length : Int), (List.range l.length).map mkClaim) := by
  unfold laws_markClaimS.f
  refine ev_tabC l.length 3 mkClaim (fun k st a i => laws_markClaimS.l0 k st a i) 1 (fun st i r hi hst hr => ?_) (fun k st hst => ?_) l rfl
  · refine Ev.step (fun k => ?_) hr
    have w1 : wrap64 (1 + 3 * (i : Int) + 1) = 1 + 3 * (i : Int) + 1 := w64 (by omega) (by omega)
    have w2 : wrap64 (1 + 3 * (i : Int) + 1 + 1) = 1 + 3 * (i : Int) + 2 := by rw [w64 (by omega) (by omega)]; omega
    have w4 : wrap64 (1 + 3 * (i : Int) + 2 + 1) = 1 + 3 * ((i + 1 : Nat) : Int) := by rw [w64 (by omega) (by omega)]; omega
    have w5 : wrap64 ((i : Int) + 1) = ((i + 1 : Nat) : Int) := by rw [w64 (by omega) (by omega)]; omega
    rw [laws_markClaimS.l0, if_pos (by omega), if_pos (by omega), Option.bind_some, Option.bind_some, Int.toNat_natCast, w1, w2, w4, w5]
    have hi' : i < st.length := by omega
    simp only [List.set_set, rd_setClaim st i _ hi']
    rfl
  · rw [laws_markClaimS.l0, if_neg (by omega)]
theorem heldClaims_ev (n : Nat) (h : n ≤ 1048576) : Ev (fun k => laws_heldClaimS.f k ((List.range n).map mkClaim) 1) (1 + 3 * (n : Int)) := by
  unfold laws_heldClaimS.f
  have hl : ((List.range n).map mkClaim).length = n := by simp
  have := ev_down n (fun i k => laws_heldClaimS.l0 k ((List.range n).map mkClaim) (1 + 3 * (i : Int)) (i : Int)) (fun _ => 1 + 3 * (n : Int)) (Ev.step (f := fun _ => some _) (fun k => by rw [laws_heldClaimS.l0, if_neg (by rw [hl]; omega)]) (Ev.now _)) (fun i hi ih => ?_) 0 (Nat.zero_le _)
  · simpa using this
  · refine Ev.step (fun k => ?_) ih
    have e : rd_T49 ((List.range n).map mkClaim) (i : Int) = mkClaim i := by
      unfold rd_T49
      rw [Int.toNat_natCast, getD_at _ i (by rw [hl]; exact hi)]
      simp
    have w1 : wrap64 (1 + 3 * (i : Int) + 1) = 1 + 3 * (i : Int) + 1 := w64 (by omega) (by omega)
    have w2 : wrap64 (1 + 3 * (i : Int) + 1 + 1) = 1 + 3 * (i : Int) + 2 := by rw [w64 (by omega) (by omega)]; omega
    have w4 : wrap64 (1 + 3 * (i : Int) + 2 + 1) = 1 + 3 * ((i + 1 : Nat) : Int) := by rw [w64 (by omega) (by omega)]; omega
    have w5 : wrap64 ((i : Int) + 1) = ((i + 1 : Nat) : Int) := by rw [w64 (by omega) (by omega)]; omega
    rw [laws_heldClaimS.l0, if_pos (by rw [hl]; omega), if_pos (by omega), e, w1, w2, w4, w5]
    unfold mkClaim
    rw [if_pos rfl, if_pos rfl, if_neg (by simp)]

theorem eqClaimS_ev (l : List S49) (h : l.length ≤ 1048576) : Ev (fun k => laws_eqClaimS.f k l l) true := by
  unfold laws_eqClaimS.f
  refine ev_pos rfl (ev_same l (fun k i => laws_eqClaimS.l0 k l l i) (fun k i hi => ?_) (fun k => ?_))
  · simp only [laws_eqClaimS.l0]
    rw [if_pos (by omega), if_pos (by omega), if_pos (by omega)]
    unfold laws_eqClaim.f
    rw [if_pos rfl, if_pos rfl, if_neg (by simp)]
    simp only [Option.bind_some, if_true]
    rw [w64 (by omega) (by omega)]
    rfl
  · simp only [laws_eqClaimS.l0]
    rw [if_neg (by omega)]

def pairC (s : ByteArray) (i : Nat) : S49 := ⟨(i : Int), ((i + 1 : Nat) : Int), bt s (i : Int) == bt s ((i + 1 : Nat) : Int)⟩
def cocL (s : ByteArray) (n : Nat) : List S49 := (List.range n).map (pairC s)
theorem cocL_succ (s : ByteArray) (n : Nat) : cocL s (n + 1) = cocL s n ++ [pairC s n] := by
  unfold cocL
  rw [List.range_succ, List.map_append]
  rfl
theorem cocL_len (s : ByteArray) (n : Nat) : (cocL s n).length = n := by simp [cocL]
def cocV (s : ByteArray) : List S49 × Bool := if castOk s = true then (cocL s (s.size - 1), true) else ([], false)
theorem cocV_len (s : ByteArray) : (cocV s).1.length ≤ 1048576 := by
  unfold cocV
  by_cases h : castOk s = true
  · rw [if_pos h]
    have := castOk_size h
    simp only [cocL_len]
    omega
  · rw [if_neg h]
    exact Nat.zero_le _
theorem spec_v (s : ByteArray) : Ev (fun k => spec_ClaimsOfCast.f k s) (cocV s) := by
  unfold spec_ClaimsOfCast.f cocV
  refine ev_call (liCast_v s) ?_
  by_cases h : castOk s = true
  · have hz := castOk_size h
    rw [if_pos h]
    refine ev_pos h ?_
    have := ev_down (s.size - 1) (fun i k => spec_ClaimsOfCast.l0 k s (cocL s i) (i : Int)) (fun _ => (cocL s (s.size - 1), true)) (Ev.step (f := fun _ => some _) (fun k => by
      simp only [spec_ClaimsOfCast.l0]
      rw [w64 (by omega) (by omega), if_neg (by omega)]) (Ev.now _)) (fun i hi ih => ?_) 0 (Nat.zero_le _)
    · exact this
    · refine Ev.step (fun k => ?_) ih
      have w1 : wrap64 ((i : Int) + 1) = ((i + 1 : Nat) : Int) := by rw [w64 (by omega) (by omega)]; omega
      simp only [spec_ClaimsOfCast.l0]
      rw [w1, if_pos (by omega), liSays_v h (i : Int) ((i + 1 : Nat) : Int) (by omega) (by omega) (by omega) (by omega), Option.bind_some, if_pos (by rw [cocL_len]; omega), cocL_succ]
      rfl
  · rw [if_neg h]
    exact ev_neg h (Ev.now _)
theorem impl_v (s : ByteArray) : Ev (fun k => impl_ClaimsOfCast.f k s) (cocV s) := by
  unfold impl_ClaimsOfCast.f cocV
  refine ev_call (isCast_v s) ?_
  by_cases h : castOk s = true
  · have hz := castOk_size h
    rw [if_pos h]
    refine ev_pos h ?_
    have e : wrap64 ((s.size : Int) - 1) = ((s.size - 1 : Nat) : Int) := by rw [w64 (by omega) (by omega)]; omega
    simp only [e]
    have := ev_down (s.size - 1) (fun i k => impl_ClaimsOfCast.l0 k s (cocL s i) ((s.size - 1 : Nat) : Int) (i : Int)) (fun _ => (cocL s (s.size - 1), true)) (Ev.step (f := fun _ => some _) (fun k => by
      simp only [impl_ClaimsOfCast.l0]
      rw [if_neg (by omega)]) (Ev.now _)) (fun i hi ih => ?_) 0 (Nat.zero_le _)
    · exact this
    · refine Ev.step (fun k => ?_) ih
      have w1 : wrap64 ((i : Int) + 1) = ((i + 1 : Nat) : Int) := by rw [w64 (by omega) (by omega)]; omega
      simp only [impl_ClaimsOfCast.l0]
      rw [if_pos (by omega), w1, says_v (i : Int) ((i + 1 : Nat) : Int) (by omega) (by omega) (by omega) (by omega), Option.bind_some, if_pos (by rw [cocL_len]; omega), cocL_succ]
      rfl
  · rw [if_neg h]
    exact ev_neg h (Ev.now _)
theorem FnExactClaimsOfCast : laws_FnExactClaimsOfCast.Pure := by
  intro s _
  refine Ev.rounds ?_
  unfold laws_FnExactClaimsOfCast.f
  by_cases hs : (s.size : Int) > 1048576
  · exact ev_pos hs (Ev.now _)
  refine ev_neg hs ?_
  have hS := spec_v s
  have hI := impl_v s
  have hl := cocV_len s
  generalize cocV s = v at hS hI hl
  obtain ⟨l, b⟩ := v
  have hE := eqClaimS_ev l hl
  refine Ev.bind hS (Ev.bind hI (Ev.bind hE (ev_pos rfl ?_)))
  refine Ev.step (fun k => by simp only [laws_FnExactClaimsOfCast.j0]; rfl) ?_
  refine ev_neg (by simp) (Ev.bind (markClaims_ev l hl) (Ev.bind (heldClaims_ev l.length hl) (ev_neg (by first | omega | (simp only; omega)) (ev_pos rfl (Ev.bind hI (Ev.bind hE (ev_pos rfl ?_)))))))
  refine Ev.step (fun k => by simp only [laws_FnExactClaimsOfCast.j1]; rfl) ?_
  exact ev_neg (by simp) (Ev.bind (heldClaims_ev l.length hl) (ev_neg (by omega) (ev_pos rfl (Ev.now _))))

end Go.Proofs.YtjkildnpnjhgfaaDoor.Pure
