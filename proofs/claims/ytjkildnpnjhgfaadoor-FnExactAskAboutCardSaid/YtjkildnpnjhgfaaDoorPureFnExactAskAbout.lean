/- The law FnExactAskAbout in plain Lean: it returns true at every input. No conditions. -/
import Derived.Test.YtjkildnpnjhgfaaDoorPFnExactAskAboutx
import Derived.Test.YtjkildnpnjhgfaaDoorGr
import Derived.Test.YtjkildnpnjhgfaaDoorGp
namespace Go.Proofs.YtjkildnpnjhgfaaDoor.Pure
open Go.RowKit Go.Proofs.YtjkildnpnjhgfaaDoor.PFnExactAskAbout Go.Proofs.YtjkildnpnjhgfaaDoorW.PrintWords Go.Proofs.YtjkildnpnjhgfaaDoorW.PrintLast Go.Proofs.YtjkildnpnjhgfaaDoorW.PrintMore Go.Proofs.YtjkildnpnjhgfaaDoor.Gr Go.Proofs.YtjkildnpnjhgfaaDoor.Gp
set_option linter.unusedVariables false
set_option linter.unusedSimpArgs false

theorem l1In_v (x lo hi : Int) : spec_l1In.f x lo hi = some (decide (lo ≤ x ∧ x ≤ hi)) := by
  unfold spec_l1In.f
  by_cases h1 : lo ≤ x
  · rw [if_pos h1]
    by_cases h2 : x ≤ hi
    · rw [decide_eq_true h2, decide_eq_true (⟨h1, h2⟩ : lo ≤ x ∧ x ≤ hi)]
    · rw [decide_eq_false h2, decide_eq_false (fun h : lo ≤ x ∧ x ≤ hi => h2 h.2)]
  · rw [if_neg h1, decide_eq_false (fun h : lo ≤ x ∧ x ≤ hi => h1 h.1)]
theorem within_v (x lo hi : Int) : impl_within.f x lo hi = some (decide (lo ≤ x ∧ x ≤ hi)) := by
  unfold impl_within.f
  by_cases h1 : lo ≤ x
  · rw [if_pos h1]
    by_cases h2 : x ≤ hi
    · rw [decide_eq_true h2, decide_eq_true (⟨h1, h2⟩ : lo ≤ x ∧ x ≤ hi)]
    · rw [decide_eq_false h2, decide_eq_false (fun h : lo ≤ x ∧ x ≤ hi => h2 h.2)]
  · rw [if_neg h1, decide_eq_false (fun h : lo ≤ x ∧ x ≤ hi => h1 h.1)]
def castOk (s : ByteArray) : Bool := decide (1 ≤ s.size ∧ s.size ≤ 8) && castB s.data.toList
theorem liCast_v (s : ByteArray) : spec_liCast.f s = some (castOk s) := rfl
theorem isCast_v (s : ByteArray) : impl_isCast.f s = some (castOk s) := rfl
theorem castOk_size {s : ByteArray} (h : castOk s = true) : 1 ≤ s.size ∧ s.size ≤ 8 := by
  unfold castOk at h
  simp only [Bool.and_eq_true, decide_eq_true_eq] at h
  exact h.1
theorem castOk_bt {s : ByteArray} (h : castOk s = true) (i : Int) (h0 : 0 ≤ i) (h1 : i < s.size) : bt s i = 104 ∨ bt s i = 108 := by
  unfold castOk at h
  simp only [Bool.and_eq_true] at h
  have h2 := h.2
  unfold castB at h2
  have hi : i.toNat < s.size := by omega
  have hm : s[i.toNat] ∈ s.data.toList := by
    have e : s.data.toList[i.toNat]'(by simpa using hi) = s[i.toNat] := rfl
    rw [← e]
    exact List.getElem_mem _
  have h3 := List.all_eq_true.1 h2 _ hm
  rw [← bt_at s i hi]
  simp only [Bool.or_eq_true, beq_iff_eq] at h3
  rcases h3 with h3 | h3
  · left; rw [h3]; rfl
  · right; rw [h3]; rfl
theorem says_hl {x y : Int} (hx : x = 104 ∨ x = 108) (hy : y = 104 ∨ y = 108) : ((y == 104) == (x == 104)) = (x == y) := by
  rcases hx with rfl | rfl <;> rcases hy with rfl | rfl <;> rfl
theorem nneq {b c : Bool} (h : b = c) : ¬ (b != c) = true := by
  subst h
  simp

theorem isFriend_v (n : Nat) (h1 : 1 ≤ n) (h2 : n ≤ 8) (x : Int) : impl_isFriend.f (n : Int) x = some (decide (0 ≤ x ∧ x ≤ (n : Int) - 1)) := by
  unfold impl_isFriend.f
  rw [w64 (by omega) (by omega), within_v]
  rfl

theorem liSays_v {s : ByteArray} (h : castOk s = true) (a b : Int) (a0 : 0 ≤ a) (a1 : a < s.size) (b0 : 0 ≤ b) (b1 : b < s.size) : spec_liSays.f s a b = some (bt s a == bt s b) := by
  unfold spec_liSays.f
  rw [if_pos b0, if_pos b1, if_pos a0, if_pos a1, says_hl (castOk_bt h a a0 a1) (castOk_bt h b b0 b1)]
theorem says_v {s : ByteArray} (a b : Int) (a0 : 0 ≤ a) (a1 : a < s.size) (b0 : 0 ≤ b) (b1 : b < s.size) : impl_says.f s a b = some (bt s a == bt s b) := by
  unfold impl_says.f
  rw [if_pos a0, if_pos a1, if_pos b0, if_pos b1]

def askV (s : ByteArray) (a b : Int) (c : Bool) : Bool × Bool := if castOk s = true then (if 0 ≤ a ∧ a ≤ (s.size : Int) - 1 then (if 0 ≤ b ∧ b ≤ (s.size : Int) - 1 then ((bt s a == bt s b) == c, true) else (false, false)) else (false, false)) else (false, false)
theorem spec_v (s : ByteArray) (a b : Int) (c : Bool) : spec_AskAbout.f s a b c = some (askV s a b c) := by
  unfold spec_AskAbout.f askV
  rw [liCast_v, Option.bind_some]
  by_cases h : castOk s = true
  · have hz := castOk_size h
    rw [if_pos h, if_pos h, w64 (by omega) (by omega), l1In_v, l1In_v, Option.bind_some]
    by_cases ha : 0 ≤ a ∧ a ≤ (s.size : Int) - 1
    · rw [decide_eq_true ha, if_pos rfl, if_pos ha, Option.bind_some]
      by_cases hb : 0 ≤ b ∧ b ≤ (s.size : Int) - 1
      · rw [decide_eq_true hb, if_pos rfl, if_pos hb, liSays_v h a b ha.1 (by omega) hb.1 (by omega), Option.bind_some]
      · rw [decide_eq_false hb, if_neg (by simp), if_neg hb]
    · rw [decide_eq_false ha, if_neg (by simp), if_neg ha]
  · rw [if_neg h, if_neg h]
theorem impl_v (s : ByteArray) (a b : Int) (c : Bool) : impl_AskAbout.f s a b c = some (askV s a b c) := by
  unfold impl_AskAbout.f askV
  rw [isCast_v, Option.bind_some]
  by_cases h : castOk s = true
  · have hz := castOk_size h
    rw [if_pos h, if_pos h, isFriend_v _ hz.1 hz.2, isFriend_v _ hz.1 hz.2, Option.bind_some]
    by_cases ha : 0 ≤ a ∧ a ≤ (s.size : Int) - 1
    · rw [decide_eq_true ha, if_pos rfl, if_pos ha, Option.bind_some]
      by_cases hb : 0 ≤ b ∧ b ≤ (s.size : Int) - 1
      · rw [decide_eq_true hb, if_pos rfl, if_pos hb, says_v a b ha.1 (by omega) hb.1 (by omega), Option.bind_some]
      · rw [decide_eq_false hb, if_neg (by simp), if_neg hb]
    · rw [decide_eq_false ha, if_neg (by simp), if_neg ha]
  · rw [if_neg h, if_neg h]
theorem FnExactAskAbout : laws_FnExactAskAbout.Pure := by
  intro s a b c _ _ _
  unfold laws_FnExactAskAbout.f
  rw [spec_v, impl_v]
  by_cases h : (s.size : Int) > 1048576
  · rw [if_pos h]
  · rw [if_neg h, Option.bind_some, Option.bind_some, if_neg (nneq rfl), if_neg (nneq rfl)]

end Go.Proofs.YtjkildnpnjhgfaaDoor.Pure
