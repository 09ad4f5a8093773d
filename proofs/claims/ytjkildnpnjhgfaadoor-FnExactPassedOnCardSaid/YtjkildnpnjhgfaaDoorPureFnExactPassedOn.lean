/- The law FnExactPassedOn in plain Lean: it returns true at every input. No conditions. -/
import Derived.Test.YtjkildnpnjhgfaaDoorPFnExactPassedOnx
import Derived.Test.YtjkildnpnjhgfaaDoorGr
import Derived.Test.YtjkildnpnjhgfaaDoorGp
namespace Go.Proofs.YtjkildnpnjhgfaaDoor.Pure
open Go.RowKit Go.Proofs.YtjkildnpnjhgfaaDoor.PFnExactPassedOn Go.Proofs.YtjkildnpnjhgfaaDoorW.PrintWords Go.Proofs.YtjkildnpnjhgfaaDoorW.PrintLast Go.Proofs.YtjkildnpnjhgfaaDoorW.PrintMore Go.Proofs.YtjkildnpnjhgfaaDoor.Gr Go.Proofs.YtjkildnpnjhgfaaDoor.Gp
set_option linter.unusedVariables false
set_option linter.unusedSimpArgs false

theorem l1In_v (x lo hi : Int) : spec_l1In.f x lo hi = some (decide (lo ≤ x ∧ x ≤ hi)) := by
  unfold spec_l1In.f
  by_cases h1 : lo ≤ x
  · rw [if_pos h1]
    by_cases h2 : x ≤ hi
    · rw [decide_eq_true h2, decide_eq_true (⟨h1, h2⟩ : lo ≤ x ∧ x ≤ hi)]
    · rw [decide_eq_false h2, decide_eq_false (fun h : lo ≤ x ∧ x ≤ hi => h2 h.2)]
  · rw [if_neg h1, decide_eq_false (fun h : lo ≤ x ∧ x ≤ hi => h1 h.1)]
theorem within_v (x lo hi : Int) : impl_within.f x lo hi = some (decide (lo ≤ x ∧ x ≤ hi)) := by
  unfold impl_within.f
  by_cases h1 : lo ≤ x
  · rw [if_pos h1]
    by_cases h2 : x ≤ hi
    · rw [decide_eq_true h2, decide_eq_true (⟨h1, h2⟩ : lo ≤ x ∧ x ≤ hi)]
    · rw [decide_eq_false h2, decide_eq_false (fun h : lo ≤ x ∧ x ≤ hi => h2 h.2)]
  · rw [if_neg h1, decide_eq_false (fun h : lo ≤ x ∧ x ≤ hi => h1 h.1)]
def castOk (s : ByteArray) : Bool := decide (1 ≤ s.size ∧ s.size ≤ 8) && castB s.data.toList
theorem liCast_v (s : ByteArray) : spec_liCast.f s = some (castOk s) := rfl
theorem isCast_v (s : ByteArray) : impl_isCast.f s = some (castOk s) := rfl
theorem castOk_size {s : ByteArray} (h : castOk s = true) : 1 ≤ s.size ∧ s.size ≤ 8 := by
  unfold castOk at h
  simp only [Bool.and_eq_true, decide_eq_true_eq] at h
  exact h.1
theorem castOk_bt {s : ByteArray} (h : castOk s = true) (i : Int) (h0 : 0 ≤ i) (h1 : i < s.size) : bt s i = 104 ∨ bt s i = 108 := by
  unfold castOk at h
  simp only [Bool.and_eq_true] at h
  have h2 := h.2
  unfold castB at h2
  have hi : i.toNat < s.size := by omega
  have hm : s[i.toNat] ∈ s.data.toList := by
    have e : s.data.toList[i.toNat]'(by simpa using hi) = s[i.toNat] := rfl
    rw [← e]
    exact List.getElem_mem _
  have h3 := List.all_eq_true.1 h2 _ hm
  rw [← bt_at s i hi]
  simp only [Bool.or_eq_true, beq_iff_eq] at h3
  rcases h3 with h3 | h3
  · left; rw [h3]; rfl
  · right; rw [h3]; rfl
theorem says_hl {x y : Int} (hx : x = 104 ∨ x = 108) (hy : y = 104 ∨ y = 108) : ((y == 104) == (x == 104)) = (x == y) := by
  rcases hx with rfl | rfl <;> rcases hy with rfl | rfl <;> rfl
theorem nneq {b c : Bool} (h : b = c) : ¬ (b != c) = true := by
  subst h
  simp

theorem rdInt (l : List Int) (i : Nat) (hi : i < l.length) : rd l (i : Int) = l[i] := by
  unfold rd
  rw [Int.toNat_natCast]
  exact getD_at l i hi _
theorem toIntS_ev (l : List Int) (h : l.length ≤ 1048576) : Ev (fun k => laws_toIntS.f k l) l := by
  unfold laws_toIntS.f
  refine ev_pos (by omega) (ev_pos (by omega) ?_)
  have := ev_fill l (0 : Int) id (fun k st i => laws_toIntS.l0 k l st i) (fun k st i hi hst => ?_) (fun k st hst => ?_)
  · simpa using this
  · simp only [laws_toIntS.l0, rdInt l i hi]
    rw [if_pos (by omega), if_pos (by omega), if_pos (by omega), w64 (by omega) (by omega), Int.toNat_natCast]
    rfl
  · simp only [laws_toIntS.l0]
    rw [if_neg (by omega)]

theorem l1All_ev (l : List Int) (lo hi : Int) (h : l.length ≤ 1048576) : Ev (fun k => spec_l1All.f k l lo hi) (l.all fun x => decide (lo ≤ x ∧ x ≤ hi)) := by
  unfold spec_l1All.f
  have := ev_down l.length (fun i k => spec_l1All.l0 k lo hi l (l.length : Int) (i : Int)) (fun i => (l.drop i).all fun x => decide (lo ≤ x ∧ x ≤ hi))
    (Ev.step (f := fun _ => some true) (fun k => by simp only [spec_l1All.l0]; rw [if_neg (by omega)]) (ev_eq (by simp) (Ev.now true))) (fun i hi' ih => ?_) 0 (Nat.zero_le _)
  · exact this
  · have hd : l.drop i = l[i] :: l.drop (i + 1) := List.drop_eq_getElem_cons hi'
    refine Ev.step (f := fun k => if decide (lo ≤ l[i] ∧ l[i] ≤ hi) = true then spec_l1All.l0 k lo hi l (l.length : Int) ((i + 1 : Nat) : Int) else some false) (fun k => ?_) ?_
    · simp only [spec_l1All.l0, rdInt l i hi']
      rw [if_pos (by omega), if_pos (by omega), if_pos (by omega), l1In_v, Option.bind_some, w64 (n := (i : Int) + 1) (by omega) (by omega)]
      rfl
    · rw [hd, List.all_cons]
      by_cases hc : decide (lo ≤ l[i] ∧ l[i] ≤ hi) = true
      · exact ev_pos hc (ev_eq (by rw [hc, Bool.true_and]) ih)
      · exact ev_neg hc (ev_eq (by rw [Bool.not_eq_true _ |>.mp hc, Bool.false_and]) (Ev.now false))

theorem eqIntS_ev (l : List Int) (h : l.length ≤ 1048576) : Ev (fun k => laws_eqIntS.f k l l) true := by
  unfold laws_eqIntS.f
  refine ev_pos rfl (ev_same l (fun k i => laws_eqIntS.l0 k l l i) (fun k i hi => ?_) (fun k => ?_))
  · simp only [laws_eqIntS.l0]
    rw [if_pos (by omega), if_pos (by omega), if_pos (by omega), if_pos trivial, w64 (by omega) (by omega)]
    rfl
  · simp only [laws_eqIntS.l0]
    rw [if_neg (by omega)]

def passL (s : ByteArray) : List Int → Bool → Bool
  | [], y => y
  | x :: l, y => passL s l (y != (bt s x == 108))
def inC (s : ByteArray) (l : List Int) : Bool := l.all fun x => decide (0 ≤ x ∧ x ≤ (s.size : Int) - 1)
def passV (s : ByteArray) (l : List Int) (y : Bool) : Bool × Bool := if castOk s = true then (if l.length ≤ 30 then (if inC s l = true then (passL s l y, true) else (false, false)) else (false, false)) else (false, false)
theorem inC_at {s : ByteArray} {l : List Int} (h : inC s l = true) (i : Nat) (hi : i < l.length) : 0 ≤ l[i] ∧ l[i] < (s.size : Int) := by
  have := of_decide_eq_true (List.all_eq_true.1 h l[i] (List.getElem_mem hi))
  omega
theorem spec_l (s : ByteArray) (l : List Int) (h : inC s l = true) (hl : l.length ≤ 1048576) : ∀ i, i ≤ l.length → ∀ y, Ev (fun k => spec_PassedOn.l0 k s y l (l.length : Int) (i : Int)) (passL s (l.drop i) y, true) := by
  intro i hi
  obtain ⟨d, hd⟩ : ∃ d, l.length - i = d := ⟨_, rfl⟩
  induction d generalizing i with
  | zero =>
    intro y
    obtain rfl : i = l.length := by omega
    exact Ev.step (f := fun _ => some (y, true)) (fun k => by simp only [spec_PassedOn.l0]; rw [if_neg (by omega)]) (ev_eq (by rw [List.drop_length, passL]) (Ev.now _))
  | succ d ih =>
    intro y
    have hlt : i < l.length := by omega
    have hd' : l.drop i = l[i] :: l.drop (i + 1) := List.drop_eq_getElem_cons hlt
    have hb := inC_at h i hlt
    refine Ev.step (f := fun k => spec_PassedOn.l0 k s (y != (bt s l[i] == 108)) l (l.length : Int) ((i + 1 : Nat) : Int)) (fun k => ?_) (ev_eq (by rw [hd', passL]) (ih (i + 1) (by omega) (by omega) _))
    simp only [spec_PassedOn.l0, rdInt l i hlt]
    rw [if_pos (by omega), if_pos (by omega), if_pos (by omega), if_pos hb.1, if_pos hb.2, w64 (n := (i : Int) + 1) (by omega) (by omega)]
    by_cases hc : bt s l[i] = 108
    · rw [if_pos hc, show (bt s l[i] == 108) = true by rw [hc]; rfl]
      cases y <;> rfl
    · rw [if_neg hc, show (bt s l[i] == 108) = false by simpa using hc]
      cases y <;> rfl
theorem impl_l (s : ByteArray) (l : List Int) (h : inC s l = true) (hl : l.length ≤ 1048576) : ∀ i, i ≤ l.length → ∀ y, Ev (fun k => impl_PassedOn.l0 k s y l (l.length : Int) (i : Int)) (passL s (l.drop i) y, true) := by
  intro i hi
  obtain ⟨d, hd⟩ : ∃ d, l.length - i = d := ⟨_, rfl⟩
  induction d generalizing i with
  | zero =>
    intro y
    obtain rfl : i = l.length := by omega
    exact Ev.step (f := fun _ => some (y, true)) (fun k => by simp only [impl_PassedOn.l0]; rw [if_neg (by omega)]) (ev_eq (by rw [List.drop_length, passL]) (Ev.now _))
  | succ d ih =>
    intro y
    have hlt : i < l.length := by omega
    have hd' : l.drop i = l[i] :: l.drop (i + 1) := List.drop_eq_getElem_cons hlt
    have hb := inC_at h i hlt
    refine Ev.step (f := fun k => impl_PassedOn.l0 k s (y != (bt s l[i] == 108)) l (l.length : Int) ((i + 1 : Nat) : Int)) (fun k => ?_) (ev_eq (by rw [hd', passL]) (ih (i + 1) (by omega) (by omega) _))
    simp only [impl_PassedOn.l0, rdInt l i hlt]
    rw [if_pos (by omega), if_pos (by omega), if_pos (by omega), if_pos hb.1, if_pos hb.2, w64 (n := (i : Int) + 1) (by omega) (by omega)]
    rfl
theorem spec_v (s : ByteArray) (l : List Int) (y : Bool) (hl : l.length ≤ 1048576) : Ev (fun k => spec_PassedOn.f k s l y) (passV s l y) := by
  have no : Ev (fun k => spec_PassedOn.j0 k s l y true) (false, false) := Ev.step (f := fun _ => some (false, false)) (fun k => by simp only [spec_PassedOn.j0]; first | rw [if_pos rfl] | rw [if_pos trivial]) (Ev.now _)
  unfold spec_PassedOn.f passV
  refine ev_call (liCast_v s) ?_
  by_cases h : castOk s = true
  · have hz := castOk_size h
    rw [if_pos h]
    refine ev_pos h ?_
    by_cases h30 : l.length ≤ 30
    · rw [if_pos h30, show wrap64 ((s.size : Int) - 1) = (s.size : Int) - 1 from w64 (by omega) (by omega)]
      refine ev_neg (by omega) (Ev.bind (l1All_ev l 0 _ hl) ?_)
      show Ev (fun k => spec_PassedOn.j0 k s l y (!inC s l)) _
      by_cases hi : inC s l = true
      · rw [if_pos hi, hi]
        refine Ev.step (fun k => by simp only [spec_PassedOn.j0]; rw [if_neg (by simp)]; rfl) (spec_l s l hi hl 0 (Nat.zero_le _) y)
      · rw [if_neg hi, Bool.not_eq_true _ |>.mp hi]
        exact no
    · rw [if_neg h30]
      exact ev_pos (by omega) no
  · rw [if_neg h]
    exact ev_neg h no
theorem impl_v (s : ByteArray) (l : List Int) (y : Bool) (hl : l.length ≤ 1048576) : Ev (fun k => impl_PassedOn.f k s l y) (passV s l y) := by
  have no : Ev (fun k => impl_PassedOn.j0 k s l y true) (false, false) := Ev.step (f := fun _ => some (false, false)) (fun k => by simp only [impl_PassedOn.j0]; first | rw [if_pos rfl] | rw [if_pos trivial]) (Ev.now _)
  unfold impl_PassedOn.f passV
  refine ev_call (isCast_v s) ?_
  by_cases h : castOk s = true
  · have hz := castOk_size h
    rw [if_pos h]
    refine ev_pos h ?_
    by_cases h30 : l.length ≤ 30
    · rw [if_pos h30, show wrap64 ((s.size : Int) - 1) = (s.size : Int) - 1 from w64 (by omega) (by omega)]
      refine ev_neg (by omega) (ev_call (a := inC s l) rfl ?_)
      by_cases hi : inC s l = true
      · rw [if_pos hi, hi]
        refine Ev.step (fun k => by simp only [impl_PassedOn.j0]; rw [if_neg (by simp)]; rfl) (impl_l s l hi hl 0 (Nat.zero_le _) y)
      · rw [if_neg hi, Bool.not_eq_true _ |>.mp hi]
        exact no
    · rw [if_neg h30]
      exact ev_pos (by omega) no
  · rw [if_neg h]
    exact ev_neg h no
theorem FnExactPassedOn : laws_FnExactPassedOn.Pure := by
  intro s l y _ _ _ _
  refine Ev.rounds ?_
  unfold laws_FnExactPassedOn.f
  by_cases hz : (s.size : Int) > 1048576
  · exact ev_pos hz (Ev.now _)
  refine ev_neg hz ?_
  by_cases hl : (l.length : Int) > 1048576
  · exact ev_pos hl (Ev.now _)
  have hs : l.length ≤ 1048576 := by omega
  have hT := toIntS_ev l hs
  refine ev_neg hl (Ev.bind hT (Ev.bind (spec_v s l y hs) (Ev.bind hT (Ev.bind (impl_v s l y hs) (ev_neg (nneq rfl) ?_)))))
  refine Ev.step (fun k => by simp only [laws_FnExactPassedOn.j0]; rfl) ?_
  exact ev_neg (nneq rfl) (Ev.bind hT (Ev.bind (eqIntS_ev l hs) (ev_pos rfl (Ev.now _))))

end Go.Proofs.YtjkildnpnjhgfaaDoor.Pure
