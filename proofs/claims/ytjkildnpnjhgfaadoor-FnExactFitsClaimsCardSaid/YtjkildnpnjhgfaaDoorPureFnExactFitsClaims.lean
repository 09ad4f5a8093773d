/- The law FnExactFitsClaims in plain Lean: it returns true at every input. No conditions. -/
import Derived.Test.YtjkildnpnjhgfaaDoorStFnExactFitsClaims
import Derived.Test.YtjkildnpnjhgfaaDoorGr
import Derived.Test.YtjkildnpnjhgfaaDoorGp
namespace Go.Proofs.YtjkildnpnjhgfaaDoor.Pure
open Go.RowKit Go.Proofs.YtjkildnpnjhgfaaDoor.PFnExactFitsClaims Go.Proofs.YtjkildnpnjhgfaaDoorW.PrintWords Go.Proofs.YtjkildnpnjhgfaaDoorW.PrintLast Go.Proofs.YtjkildnpnjhgfaaDoorW.PrintMore Go.Proofs.YtjkildnpnjhgfaaDoor.Gr Go.Proofs.YtjkildnpnjhgfaaDoor.Gp
set_option linter.unusedVariables false
set_option linter.unusedSimpArgs false

theorem szClaimS_val (l : List S58) (h : l.length ≤ 9223372036854775807) : laws_szClaimS.f l 1048576 = some (if l.length ≤ 1048576 then 1048576 - (l.length : Int) else -1) := by
  unfold laws_szClaimS.f
  rw [w64 (by omega) (by omega)]
  by_cases hl : l.length ≤ 1048576
  · rw [if_neg (by omega), if_pos hl]
  · rw [if_pos (by omega), if_neg hl]

def cvClaim (y : S58) : S49 := ⟨y.f0, y.f1, y.f2⟩
theorem toClaimS_ev (l : List S58) (h : l.length ≤ 1048576) : Ev (fun k => laws_toClaimS.f k l) (l.map cvClaim) := by
  unfold laws_toClaimS.f
  refine ev_pos (by omega) (ev_pos (by omega) ?_)
  refine ev_fill l z49 cvClaim (fun k st i => laws_toClaimS.l0 k l st i) (fun k st i hi hst => ?_) (fun k st hst => ?_)
  · have e : l.getD i z58 = l[i] := getD_at l i hi _
    simp only [laws_toClaimS.l0, rd_T58, Int.toNat_natCast]
    rw [if_pos (by omega), if_pos (by omega), e]
    simp only [laws_toClaim.f, Option.bind_some, cvClaim]
    rw [if_pos (by omega), w64 (by omega) (by omega)]
    rfl
  · simp only [laws_toClaimS.l0]
    rw [if_neg (by omega)]

theorem eqClaimS_ev (l : List S49) (h : l.length ≤ 1048576) : Ev (fun k => laws_eqClaimS.f k l l) true := by
  unfold laws_eqClaimS.f
  refine ev_pos rfl (ev_same l (fun k i => laws_eqClaimS.l0 k l l i) (fun k i hi => ?_) (fun k => ?_))
  · simp only [laws_eqClaimS.l0]
    rw [if_pos (by omega), if_pos (by omega), if_pos (by omega)]
    unfold laws_eqClaim.f
    rw [if_pos rfl, if_pos rfl, if_neg (by simp)]
    simp only [Option.bind_some, if_true]
    rw [w64 (by omega) (by omega)]
    rfl
  · simp only [laws_eqClaimS.l0]
    rw [if_neg (by omega)]

theorem l1In_eq (a b c : Int) : spec_l1In.f a b c = some (decide (b ≤ a ∧ a ≤ c)) := by
  unfold spec_l1In.f
  by_cases h : b ≤ a <;> simp [h]

theorem rd_claim (l : List S49) (i : Nat) (hi : i < l.length) : rd_T49 l (i : Int) = l[i] := by
  unfold rd_T49
  rw [Int.toNat_natCast]
  exact getD_at l i hi _

/-- are these claims of so many friends? -/
def areCl (n : Int) (l : List S49) : Bool := decide (1 ≤ n ∧ n ≤ 8) && decide (l.length ≤ 20) && l.all (impl_AreClaims.ok n)
theorem implGood (n : Int) (l : List S49) : impl_AreClaims.f n l = some (areCl n l) := by
  unfold impl_AreClaims.f areCl
  rw [show (l.all (impl_AreClaims.ok n)) = !l.any fun c => !impl_AreClaims.ok n c by simp [List.any_eq_not_all_not]]
theorem liGood_l (n : Int) (l : List S49) (h1 : 1 ≤ n) (h2 : n ≤ 8) (hl : l.length ≤ 20) : ∀ i, i ≤ l.length → Ev (fun k => spec_liGood.l0 k n l (l.length : Int) (i : Int)) ((l.drop i).all (impl_AreClaims.ok n)) := by
  have e : wrap64 (n - 1) = n - 1 := w64 (by omega) (by omega)
  refine ev_down l.length _ _ (Ev.step (f := fun _ => some true) (fun k => by simp only [spec_liGood.l0]; rw [if_neg (by omega)]) (ev_eq (by simp) (Ev.now true))) (fun i hi ih => ?_)
  have hd : l.drop i = l[i] :: l.drop (i + 1) := List.drop_eq_getElem_cons hi
  refine Ev.step (f := fun k => if decide (0 ≤ l[i].f0 ∧ l[i].f0 ≤ n - 1) = true then (if decide (0 ≤ l[i].f1 ∧ l[i].f1 ≤ n - 1) = true then spec_liGood.l0 k n l (l.length : Int) ((i + 1 : Nat) : Int) else some false) else some false) (fun k => ?_) ?_
  · have hg := rd_claim l i hi
    simp only [spec_liGood.l0, l1In_eq, e, hg, Option.bind_some]
    rw [if_pos (by omega), if_pos (by omega), if_pos (by omega), w64 (n := (i : Int) + 1) (by omega) (by omega)]
    rfl
  · rw [hd, List.all_cons]
    unfold impl_AreClaims.ok at ih ⊢
    by_cases ha : 0 ≤ l[i].f0 ∧ l[i].f0 ≤ n - 1
    · by_cases hb : 0 ≤ l[i].f1 ∧ l[i].f1 ≤ n - 1
      · refine ev_pos (by simp [ha]) (ev_pos (by simp [hb]) (ev_eq ?_ ih))
        simp [ha, hb]
      · exact ev_pos (by simp [ha]) (ev_neg (by simp [hb]) (ev_eq (by simp [hb]) (Ev.now false)))
    · exact ev_neg (by simp [ha]) (ev_eq (by simp [ha]) (Ev.now false))
theorem liGood_ev (n : Int) (l : List S49) (hb : l.length ≤ 9223372036854775807) : Ev (fun k => spec_liGood.f k n l) (areCl n l) := by
  unfold spec_liGood.f spec_liFriends.f areCl
  simp only [l1In_eq, Option.bind_some]
  by_cases h : 1 ≤ n ∧ n ≤ 8
  · refine ev_pos (by simp [h]) ?_
    by_cases hl : l.length ≤ 20
    · refine Ev.step (f := fun k => spec_liGood.l0 k n l (l.length : Int) 0) (fun k => ?_) (ev_eq ?_ (liGood_l n l h.1 h.2 hl 0 (Nat.zero_le _)))
      · simp only [spec_liGood.j0]
        rw [if_neg (by simp; omega)]
      · simp [h, hl]
    · refine Ev.step (f := fun k => some false) (fun k => ?_) (ev_eq (by simp [hl]) (Ev.now false))
      simp only [spec_liGood.j0]
      rw [if_pos (by simp; omega)]
  · refine ev_neg (by simpa using h) (Ev.step (f := fun k => some false) (fun k => ?_) (ev_eq (by simp [h]) (Ev.now false)))
    simp only [spec_liGood.j0]
    first | rw [if_pos rfl] | rw [if_pos trivial]

/-- does the cast s fit? -/
def fitC (l : List S49) (s : ByteArray) : Bool := l.all (impl_fits.so s)
def hl (s : ByteArray) : Prop := ∀ i : Int, 0 ≤ i → i < s.size → bt s i = 104 ∨ bt s i = 108
theorem says_eq (s : ByteArray) (h : hl s) (a b : Int) (a0 : 0 ≤ a) (a1 : a < s.size) (b0 : 0 ≤ b) (b1 : b < s.size) : spec_liSays.f s a b = some (bt s a == bt s b) := by
  unfold spec_liSays.f
  rw [if_pos b0, if_pos b1, if_pos a0, if_pos a1]
  rcases h a a0 a1 with ha | ha <;> rcases h b b0 b1 with hb | hb <;> rw [ha, hb] <;> rfl
theorem liFits_ev (l : List S49) (s : ByteArray) (h : hl s) (hok : l.all (impl_fits.ok s) = true) (hb : l.length ≤ 1048576) : Ev (fun k => spec_liFits.f k l s) (fitC l s) := by
  unfold spec_liFits.f
  have := ev_down l.length (fun i k => spec_liFits.l0 k s l (l.length : Int) (i : Int)) (fun i => (l.drop i).all (impl_fits.so s))
    (Ev.step (f := fun _ => some true) (fun k => by simp only [spec_liFits.l0]; rw [if_neg (by omega)]) (ev_eq (by simp) (Ev.now true))) (fun i hi ih => ?_) 0 (Nat.zero_le _)
  · exact this
  · have hd : l.drop i = l[i] :: l.drop (i + 1) := List.drop_eq_getElem_cons hi
    have hg := rd_claim l i hi
    have ho := List.all_eq_true.1 hok l[i] (List.getElem_mem hi)
    unfold impl_fits.ok at ho
    simp only [Bool.and_eq_true, decide_eq_true_eq] at ho
    refine Ev.step (f := fun k => if ((bt s l[i].f0 == bt s l[i].f1) != l[i].f2) = true then some false else spec_liFits.l0 k s l (l.length : Int) ((i + 1 : Nat) : Int)) (fun k => ?_) ?_
    · simp only [spec_liFits.l0, hg, says_eq s h _ _ ho.1.1 ho.1.2 ho.2.1 ho.2.2, Option.bind_some]
      rw [if_pos (by omega), if_pos (by omega), if_pos (by omega), w64 (n := (i : Int) + 1) (by omega) (by omega)]
      rfl
    · rw [hd, List.all_cons]
      unfold impl_fits.so at ih ⊢
      by_cases hc : ((bt s l[i].f0 == bt s l[i].f1) == l[i].f2) = true
      · exact ev_neg (by simpa [bne] using hc) (ev_eq (by rw [hc, Bool.true_and]) ih)
      · have hc' : ((bt s l[i].f0 == bt s l[i].f1) == l[i].f2) = false := by simpa using hc
        exact ev_pos (by simp [bne, hc']) (ev_eq (by rw [hc', Bool.false_and]) (Ev.now false))
theorem implFits (l : List S49) (s : ByteArray) (hok : l.all (impl_fits.ok s) = true) : impl_fits.f l s = some (fitC l s) := by
  unfold impl_fits.f
  rw [if_pos hok]
  rfl
theorem ok_of_good (n : Nat) (l : List S49) (s : ByteArray) (hs : s.size = n) (h : l.all (impl_AreClaims.ok (n : Int)) = true) : l.all (impl_fits.ok s) = true := by
  rw [List.all_eq_true] at h ⊢
  intro c hc
  have := h c hc
  unfold impl_AreClaims.ok at this
  unfold impl_fits.ok
  simp only [Bool.and_eq_true, decide_eq_true_eq] at this ⊢
  omega

theorem l1In_v (x lo hi : Int) : spec_l1In.f x lo hi = some (decide (lo ≤ x ∧ x ≤ hi)) := by
  unfold spec_l1In.f
  by_cases h1 : lo ≤ x
  · rw [if_pos h1]
    by_cases h2 : x ≤ hi
    · rw [decide_eq_true h2, decide_eq_true (⟨h1, h2⟩ : lo ≤ x ∧ x ≤ hi)]
    · rw [decide_eq_false h2, decide_eq_false (fun h : lo ≤ x ∧ x ≤ hi => h2 h.2)]
  · rw [if_neg h1, decide_eq_false (fun h : lo ≤ x ∧ x ≤ hi => h1 h.1)]
theorem within_v (x lo hi : Int) : impl_within.f x lo hi = some (decide (lo ≤ x ∧ x ≤ hi)) := by
  unfold impl_within.f
  by_cases h1 : lo ≤ x
  · rw [if_pos h1]
    by_cases h2 : x ≤ hi
    · rw [decide_eq_true h2, decide_eq_true (⟨h1, h2⟩ : lo ≤ x ∧ x ≤ hi)]
    · rw [decide_eq_false h2, decide_eq_false (fun h : lo ≤ x ∧ x ≤ hi => h2 h.2)]
  · rw [if_neg h1, decide_eq_false (fun h : lo ≤ x ∧ x ≤ hi => h1 h.1)]
def castOk (s : ByteArray) : Bool := decide (1 ≤ s.size ∧ s.size ≤ 8) && castB s.data.toList
theorem liCast_v (s : ByteArray) : spec_liCast.f s = some (castOk s) := rfl
theorem isCast_v (s : ByteArray) : impl_isCast.f s = some (castOk s) := rfl
theorem castOk_size {s : ByteArray} (h : castOk s = true) : 1 ≤ s.size ∧ s.size ≤ 8 := by
  unfold castOk at h
  simp only [Bool.and_eq_true, decide_eq_true_eq] at h
  exact h.1
theorem castOk_bt {s : ByteArray} (h : castOk s = true) (i : Int) (h0 : 0 ≤ i) (h1 : i < s.size) : bt s i = 104 ∨ bt s i = 108 := by
  unfold castOk at h
  simp only [Bool.and_eq_true] at h
  have h2 := h.2
  unfold castB at h2
  have hi : i.toNat < s.size := by omega
  have hm : s[i.toNat] ∈ s.data.toList := by
    have e : s.data.toList[i.toNat]'(by simpa using hi) = s[i.toNat] := rfl
    rw [← e]
    exact List.getElem_mem _
  have h3 := List.all_eq_true.1 h2 _ hm
  rw [← bt_at s i hi]
  simp only [Bool.or_eq_true, beq_iff_eq] at h3
  rcases h3 with h3 | h3
  · left; rw [h3]; rfl
  · right; rw [h3]; rfl
theorem says_hl {x y : Int} (hx : x = 104 ∨ x = 108) (hy : y = 104 ∨ y = 108) : ((y == 104) == (x == 104)) = (x == y) := by
  rcases hx with rfl | rfl <;> rcases hy with rfl | rfl <;> rfl
theorem nneq {b c : Bool} (h : b = c) : ¬ (b != c) = true := by
  subst h
  simp

def fitV (n : Int) (l : List S49) (s : ByteArray) : Bool × Bool := if areCl n l = true then (if castOk s = true then (if (s.size : Int) = n then (fitC l s, true) else (false, false)) else (false, false)) else (false, false)
theorem okAll {n : Int} {l : List S49} {s : ByteArray} (h : areCl n l = true) (hn : (s.size : Int) = n) : l.all (impl_fits.ok s) = true ∧ l.length ≤ 20 := by
  unfold areCl at h
  simp only [Bool.and_eq_true, decide_eq_true_eq] at h
  exact ⟨ok_of_good s.size l s rfl (by rw [hn]; exact h.2), h.1.2⟩
theorem spec_v (n : Int) (l : List S49) (s : ByteArray) (hb : l.length ≤ 1048576) : Ev (fun k => spec_FitsClaims.f k n l s) (fitV n l s) := by
  unfold spec_FitsClaims.f fitV
  refine Ev.bind (liGood_ev n l (by omega)) ?_
  by_cases h : areCl n l = true
  · rw [if_pos h]
    refine ev_pos h (ev_call (liCast_v s) ?_)
    by_cases hc : castOk s = true
    · rw [if_pos hc]
      refine ev_pos hc ?_
      by_cases hn : (s.size : Int) = n
      · rw [if_pos hn]
        exact ev_pos hn (Ev.bind (liFits_ev l s (fun i h0 h1 => castOk_bt hc i h0 h1) (okAll h hn).1 hb) (Ev.now _))
      · rw [if_neg hn]
        exact ev_neg hn (Ev.now _)
    · rw [if_neg hc]
      exact ev_neg hc (Ev.now _)
  · rw [if_neg h]
    exact ev_neg h (Ev.now _)
theorem impl_v (n : Int) (l : List S49) (s : ByteArray) : impl_FitsClaims.f n l s = some (fitV n l s) := by
  unfold impl_FitsClaims.f fitV
  rw [implGood, Option.bind_some]
  by_cases h : areCl n l = true
  · rw [if_pos h, if_pos h, isCast_v, Option.bind_some]
    by_cases hc : castOk s = true
    · rw [if_pos hc, if_pos hc]
      by_cases hn : (s.size : Int) = n
      · rw [if_pos hn, if_pos hn, implFits l s (okAll h hn).1]
        rfl
      · rw [if_neg hn, if_neg hn]
    · rw [if_neg hc, if_neg hc]
  · rw [if_neg h, if_neg h]
theorem FnExactFitsClaims : laws_FnExactFitsClaims.Pure := by
  intro a l s _ hl _ _
  refine Ev.rounds ?_
  unfold laws_FnExactFitsClaims.f
  by_cases hz : (s.size : Int) > 1048576
  · exact ev_pos hz (Ev.now _)
  refine ev_neg hz (ev_call (szClaimS_val l hl) ?_)
  by_cases hs : l.length ≤ 1048576
  · rw [if_pos hs]
    have hc : (l.map cvClaim).length ≤ 1048576 := by simpa using hs
    have hT := toClaimS_ev l hs
    refine ev_neg (by omega) (Ev.bind hT (Ev.bind (spec_v a _ s hc) (Ev.bind hT (ev_call (impl_v a _ s) (ev_neg (nneq rfl) ?_)))))
    refine Ev.step (fun k => by simp only [laws_FnExactFitsClaims.j0]; rfl) ?_
    exact ev_neg (nneq rfl) (Ev.bind hT (Ev.bind (eqClaimS_ev _ hc) (ev_pos rfl (Ev.now _))))
  · rw [if_neg hs]
    exact ev_pos (by omega) (Ev.now _)

end Go.Proofs.YtjkildnpnjhgfaaDoor.Pure
