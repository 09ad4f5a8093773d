/- The law FnExactNeedlessClaims in plain Lean: it returns true at every input. No conditions. -/
import Derived.Test.YtidinhkaclaanaaStFnExactNeedlessClaims
import Derived.Test.YtidinhkaclaanaaGp
namespace Go.Proofs.Ytidinhkaclaanaa.Pure
open Go.RowKit Go.Proofs.Ytidinhkaclaanaa.PFnExactNeedlessClaims Go.Proofs.YtidinhkaclaanaaW.PrintWords Go.Proofs.YtidinhkaclaanaaW.PrintLast Go.Proofs.YtidinhkaclaanaaW.PrintMore Go.Proofs.Ytidinhkaclaanaa.Gr Go.Proofs.Ytidinhkaclaanaa.Gp
set_option linter.unusedVariables false
set_option linter.unusedSimpArgs false

theorem szClaimS_val (l : List S57) (h : l.length ≤ 9223372036854775807) : laws_szClaimS.f l 1048576 = some (if l.length ≤ 1048576 then 1048576 - (l.length : Int) else -1) := by
  unfold laws_szClaimS.f
  rw [w64 (by omega) (by omega)]
  by_cases hl : l.length ≤ 1048576
  · rw [if_neg (by omega), if_pos hl]
  · rw [if_pos (by omega), if_neg hl]

def cvClaim (y : S57) : S55 := ⟨y.f0, y.f1, y.f2⟩
theorem toClaimS_ev (l : List S57) (h : l.length ≤ 1048576) : Ev (fun k => laws_toClaimS.f k l) (l.map cvClaim) := by
  unfold laws_toClaimS.f
  refine ev_pos (by omega) (ev_pos (by omega) ?_)
  refine ev_fill l z55 cvClaim (fun k st i => laws_toClaimS.l0 k l st i) (fun k st i hi hst => ?_) (fun k st hst => ?_)
  · have e : l.getD i z57 = l[i] := getD_at l i hi _
    simp only [laws_toClaimS.l0, rd_T57, Int.toNat_natCast]
    rw [if_pos (by omega), if_pos (by omega), e]
    simp only [laws_toClaim.f, Option.bind_some, cvClaim]
    rw [if_pos (by omega), w64 (by omega) (by omega)]
    rfl
  · simp only [laws_toClaimS.l0]
    rw [if_neg (by omega)]

theorem eqClaimS_ev (l : List S55) (h : l.length ≤ 1048576) : Ev (fun k => laws_eqClaimS.f k l l) true := by
  unfold laws_eqClaimS.f
  refine ev_pos rfl (ev_same l (fun k i => laws_eqClaimS.l0 k l l i) (fun k i hi => ?_) (fun k => ?_))
  · simp only [laws_eqClaimS.l0]
    rw [if_pos (by omega), if_pos (by omega), if_pos (by omega)]
    unfold laws_eqClaim.f
    rw [if_pos rfl, if_pos rfl, if_neg (by simp)]
    simp only [Option.bind_some, if_true]
    rw [w64 (by omega) (by omega)]
    rfl
  · simp only [laws_eqClaimS.l0]
    rw [if_neg (by omega)]

theorem markClaimS_ev (l : List S55) (h : l.length ≤ 1048576) : ∃ l', l'.length = l.length ∧ Ev (fun k => laws_markClaimS.f k l 1) (1 + 3 * (l.length : Int), l') := by
  unfold laws_markClaimS.f
  refine ev_mark l.length 3 (fun k st a i => laws_markClaimS.l0 k st a i) 1 (fun st i hi hst => ?_) (fun k st hst => ?_) l rfl
  · refine ⟨?_, ?_, fun k => ?_⟩
    rotate_left 2
    · simp only [laws_markClaimS.l0, Option.bind_some]
      rw [if_pos (by omega), if_pos (by omega), w64 (n := 1 + 3 * (i : Int) + 1) (by omega) (by omega), w64 (n := 1 + 3 * (i : Int) + 1 + 1) (by omega) (by omega), w64 (n := 1 + 3 * (i : Int) + 1 + 1 + 1) (by omega) (by omega), w64 (n := (i : Int) + 1) (by omega) (by omega),
        show 1 + 3 * (i : Int) + 1 + 1 + 1 = 1 + 3 * ((i + 1 : Nat) : Int) by omega, show (i : Int) + 1 = ((i + 1 : Nat) : Int) by omega]
    · simp only [List.length_set]
      exact hst
  · simp only [laws_markClaimS.l0]
    rw [if_neg (by omega)]

theorem eqIntS_ev (l : List Int) (h : l.length ≤ 1048576) : Ev (fun k => laws_eqIntS.f k l l) true := by
  unfold laws_eqIntS.f
  refine ev_pos rfl (ev_same l (fun k i => laws_eqIntS.l0 k l l i) (fun k i hi => ?_) (fun k => ?_))
  · simp only [laws_eqIntS.l0]
    rw [if_pos (by omega), if_pos (by omega), if_pos (by omega), if_pos trivial, w64 (by omega) (by omega)]
    rfl
  · simp only [laws_eqIntS.l0]
    rw [if_neg (by omega)]

theorem markIntS_ev (l : List Int) (h : l.length ≤ 1048576) : Ev (fun k => laws_markIntS.f k l 1) (1 + (l.length : Int), (List.range l.length).map fun i : Nat => 1 + (i : Int)) := by
  unfold laws_markIntS.f
  refine ev_tab l.length (fun i : Nat => 1 + (i : Int)) (fun k st a i => laws_markIntS.l0 k st a i) 1 (fun st i r hi hst hr => ?_) (fun k st hst => ?_) l rfl
  · refine Ev.step (fun k => ?_) hr
    simp only [laws_markIntS.l0]
    rw [if_pos (by omega), if_pos (by omega), w64 (n := 1 + (i : Int) + 1) (by omega) (by omega), w64 (n := (i : Int) + 1) (by omega) (by omega), show 1 + (i : Int) + 1 = 1 + ((i + 1 : Nat) : Int) by omega, show (i : Int) + 1 = ((i + 1 : Nat) : Int) by omega, Int.toNat_natCast]
  · simp only [laws_markIntS.l0]
    rw [if_neg (by omega)]

theorem heldIntS_ev (n : Nat) (h : n ≤ 1048576) : Ev (fun k => laws_heldIntS.f k ((List.range n).map fun i : Nat => 1 + (i : Int)) 1) (1 + (n : Int)) := by
  unfold laws_heldIntS.f
  have hl : ((List.range n).map fun i : Nat => 1 + (i : Int)).length = n := by simp
  have := ev_down n (fun i k => laws_heldIntS.l0 k ((List.range n).map fun i : Nat => 1 + (i : Int)) (1 + (i : Int)) (i : Int)) (fun _ => 1 + (n : Int)) (Ev.step (f := fun _ => some _) (fun k => by simp only [laws_heldIntS.l0]; rw [if_neg (by rw [hl]; omega)]) (Ev.now _)) (fun i hi ih => ?_) 0 (Nat.zero_le _)
  · simpa using this
  · refine Ev.step (fun k => ?_) ih
    have e : rd ((List.range n).map fun i : Nat => 1 + (i : Int)) (i : Int) = 1 + (i : Int) := by
      unfold rd
      rw [Int.toNat_natCast, getD_at _ i (by rw [hl]; exact hi)]
      simp
    simp only [laws_heldIntS.l0]
    rw [if_pos (by rw [hl]; omega), if_pos (by omega), e, if_pos rfl, w64 (n := 1 + (i : Int) + 1) (by omega) (by omega), w64 (n := (i : Int) + 1) (by omega) (by omega), show 1 + (i : Int) + 1 = 1 + ((i + 1 : Nat) : Int) by omega, show (i : Int) + 1 = ((i + 1 : Nat) : Int) by omega]

theorem ev_all {ρ : Type} (n : Nat) (f : Nat → Nat → Option ρ) (v : Nat → ρ) (h : ∀ i, i < n → Ev (f i) (v i)) : ∃ K, ∀ k, K ≤ k → ∀ i, i < n → f i k = some (v i) := by
  induction n with
  | zero => exact ⟨0, fun _ _ i hi => absurd hi (Nat.not_lt_zero i)⟩
  | succ n ih =>
    obtain ⟨K, hK⟩ := ih fun i hi => h i (by omega)
    obtain ⟨K', hK'⟩ := h n (by omega)
    refine ⟨max K K', fun k hk i hi => ?_⟩
    by_cases e : i = n
    · subst e
      exact hK' k (by omega)
    · exact hK k (by omega) i (by omega)

theorem l1In_eq (a b c : Int) : spec_l1In.f a b c = some (decide (b ≤ a ∧ a ≤ c)) := by
  unfold spec_l1In.f
  by_cases h : b ≤ a <;> simp [h]

theorem rd_claim (l : List S55) (i : Nat) (hi : i < l.length) : rd_T55 l (i : Int) = l[i] := by
  unfold rd_T55
  rw [Int.toNat_natCast]
  exact getD_at l i hi _

/-- are these claims of so many friends? -/
def areCl (n : Int) (l : List S55) : Bool := decide (1 ≤ n ∧ n ≤ 8) && decide (l.length ≤ 20) && l.all (impl_AreClaims.ok n)
theorem implGood (n : Int) (l : List S55) : impl_AreClaims.f n l = some (areCl n l) := by
  unfold impl_AreClaims.f areCl
  rw [show (l.all (impl_AreClaims.ok n)) = !l.any fun c => !impl_AreClaims.ok n c by simp [List.any_eq_not_all_not]]
theorem liGood_l (n : Int) (l : List S55) (h1 : 1 ≤ n) (h2 : n ≤ 8) (hl : l.length ≤ 20) : ∀ i, i ≤ l.length → Ev (fun k => spec_liGood.l0 k n l (l.length : Int) (i : Int)) ((l.drop i).all (impl_AreClaims.ok n)) := by
  have e : wrap64 (n - 1) = n - 1 := w64 (by omega) (by omega)
  refine ev_down l.length _ _ (Ev.step (f := fun _ => some true) (fun k => by simp only [spec_liGood.l0]; rw [if_neg (by omega)]) (ev_eq (by simp) (Ev.now true))) (fun i hi ih => ?_)
  have hd : l.drop i = l[i] :: l.drop (i + 1) := List.drop_eq_getElem_cons hi
  refine Ev.step (f := fun k => if decide (0 ≤ l[i].f0 ∧ l[i].f0 ≤ n - 1) = true then (if decide (0 ≤ l[i].f1 ∧ l[i].f1 ≤ n - 1) = true then spec_liGood.l0 k n l (l.length : Int) ((i + 1 : Nat) : Int) else some false) else some false) (fun k => ?_) ?_
  · have hg := rd_claim l i hi
    simp only [spec_liGood.l0, l1In_eq, e, hg, Option.bind_some]
    rw [if_pos (by omega), if_pos (by omega), if_pos (by omega), w64 (n := (i : Int) + 1) (by omega) (by omega)]
    rfl
  · rw [hd, List.all_cons]
    unfold impl_AreClaims.ok at ih ⊢
    by_cases ha : 0 ≤ l[i].f0 ∧ l[i].f0 ≤ n - 1
    · by_cases hb : 0 ≤ l[i].f1 ∧ l[i].f1 ≤ n - 1
      · refine ev_pos (by simp [ha]) (ev_pos (by simp [hb]) (ev_eq ?_ ih))
        simp [ha, hb]
      · exact ev_pos (by simp [ha]) (ev_neg (by simp [hb]) (ev_eq (by simp [hb]) (Ev.now false)))
    · exact ev_neg (by simp [ha]) (ev_eq (by simp [ha]) (Ev.now false))
theorem liGood_ev (n : Int) (l : List S55) (hb : l.length ≤ 9223372036854775807) : Ev (fun k => spec_liGood.f k n l) (areCl n l) := by
  unfold spec_liGood.f spec_liFriends.f areCl
  simp only [l1In_eq, Option.bind_some]
  by_cases h : 1 ≤ n ∧ n ≤ 8
  · refine ev_pos (by simp [h]) ?_
    by_cases hl : l.length ≤ 20
    · refine Ev.step (f := fun k => spec_liGood.l0 k n l (l.length : Int) 0) (fun k => ?_) (ev_eq ?_ (liGood_l n l h.1 h.2 hl 0 (Nat.zero_le _)))
      · simp only [spec_liGood.j0]
        rw [if_neg (by simp; omega)]
      · simp [h, hl]
    · refine Ev.step (f := fun k => some false) (fun k => ?_) (ev_eq (by simp [hl]) (Ev.now false))
      simp only [spec_liGood.j0]
      rw [if_pos (by simp; omega)]
  · refine ev_neg (by simpa using h) (Ev.step (f := fun k => some false) (fun k => ?_) (ev_eq (by simp [h]) (Ev.now false)))
    simp only [spec_liGood.j0]
    first | rw [if_pos rfl] | rw [if_pos trivial]

/-- the signs of number n from bit j - 1 down to 0, behind s -/
def cw (n : Nat) : Nat → ByteArray → ByteArray
  | 0, s => s
  | j + 1, s => cw n j (s ++ ⟨#[if n / 2 ^ j % 2 = 0 then 104 else 108]⟩)
theorem cw_size (n j : Nat) : ∀ s : ByteArray, (cw n j s).size = s.size + j := by
  induction j with
  | zero => intro s; rfl
  | succ j ih => intro s; unfold cw; rw [ih, ByteArray.size_append, size1]; omega
/-- byte i behind the first signs is the sign of bit j - 1 - i -/
theorem cw_all (P : UInt8 → Prop) (h1 : P 104) (h2 : P 108) (n j : Nat) : ∀ s : ByteArray, (∀ b, b ∈ s.data.toList → P b) → ∀ b, b ∈ (cw n j s).data.toList → P b := by
  induction j with
  | zero => intro s h; exact h
  | succ j ih =>
    intro s h
    unfold cw
    refine ih _ fun b hb => ?_
    rw [ByteArray.data_append, Array.toList_append, List.mem_append] at hb
    rcases hb with hb | hb
    · exact h b hb
    · simp at hb
      rw [hb]
      split
      · exact h1
      · exact h2
theorem bt_mem (s : ByteArray) (i : Int) (h0 : 0 ≤ i) (h1 : i < s.size) : ∃ b, b ∈ s.data.toList ∧ bt s i = (b.toNat : Int) := by
  unfold bt
  have h : i.toNat < s.size := by omega
  rw [dif_pos h]
  exact ⟨s[i.toNat], by simp [ByteArray.getElem_eq_getElem_data], rfl⟩
/-- every sign of a cast is h or l -/
theorem cw_bt (n j : Nat) (i : Int) (h0 : 0 ≤ i) (h1 : i < j) : bt (cw n j ⟨#[]⟩) i = 104 ∨ bt (cw n j ⟨#[]⟩) i = 108 := by
  obtain ⟨b, hb, e⟩ := bt_mem (cw n j ⟨#[]⟩) i h0 (by rw [cw_size, size0]; omega)
  rw [e]
  have := cw_all (fun b => (b.toNat : Int) = 104 ∨ (b.toNat : Int) = 108) (by decide) (by decide) n j ⟨#[]⟩ (by simp) b hb
  exact this

/-- does the cast s fit? -/
def fitC (l : List S55) (s : ByteArray) : Bool := l.all (impl_fits.so s)
def hl (s : ByteArray) : Prop := ∀ i : Int, 0 ≤ i → i < s.size → bt s i = 104 ∨ bt s i = 108
theorem says_eq (s : ByteArray) (h : hl s) (a b : Int) (a0 : 0 ≤ a) (a1 : a < s.size) (b0 : 0 ≤ b) (b1 : b < s.size) : spec_liSays.f s a b = some (bt s a == bt s b) := by
  unfold spec_liSays.f
  rw [if_pos b0, if_pos b1, if_pos a0, if_pos a1]
  rcases h a a0 a1 with ha | ha <;> rcases h b b0 b1 with hb | hb <;> rw [ha, hb] <;> rfl
theorem liFits_ev (l : List S55) (s : ByteArray) (h : hl s) (hok : l.all (impl_fits.ok s) = true) (hb : l.length ≤ 1048576) : Ev (fun k => spec_liFits.f k l s) (fitC l s) := by
  unfold spec_liFits.f
  have := ev_down l.length (fun i k => spec_liFits.l0 k s l (l.length : Int) (i : Int)) (fun i => (l.drop i).all (impl_fits.so s))
    (Ev.step (f := fun _ => some true) (fun k => by simp only [spec_liFits.l0]; rw [if_neg (by omega)]) (ev_eq (by simp) (Ev.now true))) (fun i hi ih => ?_) 0 (Nat.zero_le _)
  · exact this
  · have hd : l.drop i = l[i] :: l.drop (i + 1) := List.drop_eq_getElem_cons hi
    have hg := rd_claim l i hi
    have ho := List.all_eq_true.1 hok l[i] (List.getElem_mem hi)
    unfold impl_fits.ok at ho
    simp only [Bool.and_eq_true, decide_eq_true_eq] at ho
    refine Ev.step (f := fun k => if ((bt s l[i].f0 == bt s l[i].f1) != l[i].f2) = true then some false else spec_liFits.l0 k s l (l.length : Int) ((i + 1 : Nat) : Int)) (fun k => ?_) ?_
    · simp only [spec_liFits.l0, hg, says_eq s h _ _ ho.1.1 ho.1.2 ho.2.1 ho.2.2, Option.bind_some]
      rw [if_pos (by omega), if_pos (by omega), if_pos (by omega), w64 (n := (i : Int) + 1) (by omega) (by omega)]
      rfl
    · rw [hd, List.all_cons]
      unfold impl_fits.so at ih ⊢
      by_cases hc : ((bt s l[i].f0 == bt s l[i].f1) == l[i].f2) = true
      · exact ev_neg (by simpa [bne] using hc) (ev_eq (by rw [hc, Bool.true_and]) ih)
      · have hc' : ((bt s l[i].f0 == bt s l[i].f1) == l[i].f2) = false := by simpa using hc
        exact ev_pos (by simp [bne, hc']) (ev_eq (by rw [hc', Bool.false_and]) (Ev.now false))
theorem implFits (l : List S55) (s : ByteArray) (hok : l.all (impl_fits.ok s) = true) : impl_fits.f l s = some (fitC l s) := by
  unfold impl_fits.f
  rw [if_pos hok]
  rfl
theorem ok_of_good (n : Nat) (l : List S55) (s : ByteArray) (hs : s.size = n) (h : l.all (impl_AreClaims.ok (n : Int)) = true) : l.all (impl_fits.ok s) = true := by
  rw [List.all_eq_true] at h ⊢
  intro c hc
  have := h c hc
  unfold impl_AreClaims.ok at this
  unfold impl_fits.ok
  simp only [Bool.and_eq_true, decide_eq_true_eq] at this ⊢
  omega

/-- the casts of a friends from number n on that fit -/
def castsL (l : List S55) (a : Nat) (n : Nat) : List ByteArray := ((List.range (2 ^ a - n)).map fun i => cw (n + i) a ⟨#[]⟩).filter (fitC l)
theorem castsL_step (l : List S55) (a n : Nat) (h : n < 2 ^ a) : castsL l a n = (if fitC l (cw n a ⟨#[]⟩) = true then [cw n a ⟨#[]⟩] else []) ++ castsL l a (n + 1) := by
  unfold castsL
  obtain ⟨m, hm⟩ : ∃ m, 2 ^ a - n = m + 1 := ⟨2 ^ a - n - 1, by omega⟩
  rw [hm, show 2 ^ a - (n + 1) = m by omega, List.range_succ_eq_map, List.map_cons, List.filter_cons, List.map_map]
  have e : ((fun i => cw (n + i) a ⟨#[]⟩) ∘ Nat.succ) = fun i => cw (n + 1 + i) a ⟨#[]⟩ := by funext i; simp [Nat.add_comm, Nat.add_left_comm]
  rw [e]
  simp only [Nat.add_zero]
  split <;> simp
theorem castsL_len (l : List S55) (a n : Nat) : (castsL l a n).length ≤ 2 ^ a - n := by
  unfold castsL
  refine Nat.le_trans (List.length_filter_le _ _) (by simp)
theorem liAll_word (l : List S55) (a : Nat) (ha : a ≤ 8) (n : Nat) (hn : n < 2 ^ a) (out r : List ByteArray) : ∀ j, j ≤ a → ∀ s : ByteArray, s.size + j = a → Ev (fun k => (spec_liFits.f k l (cw n j s)).bind fun t => if t = true then (if out.length < 8796093022208 then spec_liAll.l0 k (a : Int) l (out ++ [cw n j s]) (wrap64 ((n : Int) + 1)) else none) else spec_liAll.l0 k (a : Int) l out (wrap64 ((n : Int) + 1))) r →
    Ev (fun k => spec_liAll.l1 k (a : Int) l out (n : Int) s ((j : Int) - 1)) r := by
  have h256 : 2 ^ a ≤ 2 ^ 8 := Nat.pow_le_pow_right (by decide) ha
  intro j
  induction j with
  | zero =>
    intro _ s hs h
    refine Ev.step (fun k => ?_) h
    simp only [spec_liAll.l1, cw]
    rw [if_neg (by omega)]
  | succ j ih =>
    intro hj s hs h
    have hb := bit_at n j (by omega) (by omega)
    have hlt : n / 2 ^ j % 2 < 2 := Nat.mod_lt _ (by decide)
    have e1 : ((j + 1 : Nat) : Int) - 1 = (j : Int) := by omega
    have e2 : wrap64 ((j : Int) - 1) = (j : Int) - 1 := w64 (by omega) (by omega)
    unfold cw at h
    have h' := ih (by omega) _ (by rw [ByteArray.size_append, size1]; omega) h
    refine Ev.step (fun k => ?_) h'
    simp only [spec_liAll.l1, e1, e2, hb]
    rw [if_pos (by omega), if_pos (by omega)]
    by_cases hz : n / 2 ^ j % 2 = 0
    · rw [if_pos (by omega), if_pos (by omega)]
      simp only [hz, if_true]
    · rw [if_neg (by omega), if_pos (by omega)]
      simp only [hz, if_false]
theorem liAll_ev (l : List S55) (a : Nat) (ha : a ≤ 8) (hg : l.all (impl_AreClaims.ok (a : Int)) = true) (hb : l.length ≤ 20) : Ev (fun k => spec_liAll.f k (a : Int) l) (castsL l a 0) := by
  have h256 : 2 ^ a ≤ 2 ^ 8 := Nat.pow_le_pow_right (by decide) ha
  have key : ∀ d n, 2 ^ a - n = d → n ≤ 2 ^ a → ∀ out : List ByteArray, out.length ≤ n → Ev (fun k => spec_liAll.l0 k (a : Int) l out (n : Int)) (out ++ castsL l a n) := by
    intro d
    induction d with
    | zero =>
      intro n hd hn out ho
      refine Ev.step (f := fun _ => some out) (fun k => ?_) (ev_eq (by unfold castsL; rw [hd]; simp) (Ev.now out))
      simp only [spec_liAll.l0]
      rw [if_pos (by omega), if_neg (by rw [shl_nat a (by omega)]; omega)]
    | succ d ih =>
      intro n hd hn out ho
      have hw : wrap64 ((n : Int) + 1) = ((n + 1 : Nat) : Int) := by rw [w64 (by omega) (by omega)]; omega
      have hs : (cw n a ⟨#[]⟩).size = a := by rw [cw_size, size0, Nat.zero_add]
      have hf := liFits_ev l (cw n a ⟨#[]⟩) (fun i h0 h1 => cw_bt n a i h0 (by rw [hs] at h1; exact h1)) (ok_of_good a l _ hs hg) (by omega)
      have hword := liAll_word l a ha n (by omega) out (out ++ castsL l a n) a (Nat.le_refl _) ⟨#[]⟩ (by rw [size0]; omega) (by
        refine Ev.bind hf ?_
        rw [hw, castsL_step l a n (by omega)]
        by_cases hc : fitC l (cw n a ⟨#[]⟩) = true
        · refine ev_pos hc (ev_pos (by omega) (ev_eq ?_ (ih (n + 1) (by omega) (by omega) _ (by simp; omega))))
          rw [if_pos hc]
          simp
        · refine ev_neg hc (ev_eq ?_ (ih (n + 1) (by omega) (by omega) out (by omega)))
          rw [if_neg hc]
          simp)
      refine Ev.step (fun k => ?_) hword
      simp only [spec_liAll.l0]
      rw [if_pos (by omega), if_pos (by rw [shl_nat a (by omega)]; omega), w64 (n := (a : Int) - 1) (by omega) (by omega)]
  have := key (2 ^ a) 0 rfl (Nat.zero_le _) [] (Nat.zero_le _)
  unfold spec_liAll.f
  simpa using this
theorem str_snoc (xs : List Int) (b : Int) (c : UInt8) (h : b = (c.toNat : Int)) : strOfNums (xs ++ [b]) = strOfNums xs ++ ⟨#[c]⟩ := by
  subst h
  apply ByteArray.ext
  simp [strOfNums]
theorem casts_word (l : List S55) (a : Nat) (ha : a ≤ 8) (n : Nat) (hn : n < 2 ^ a) (out r : List ByteArray) (x11 x12 : Int) : ∀ j, j ≤ a → ∀ s : List Int, s.length + j = a → Ev (fun k => (impl_fits.f l (cw n j (strOfNums s))).bind fun t => if t = true then (if out.length < 8796093022208 then impl_casts.l0 k (a : Int) l (out ++ [cw n j (strOfNums s)]) x11 (wrap64 (x12 + 1)) else none) else impl_casts.l0 k (a : Int) l out x11 (wrap64 (x12 + 1))) r →
    Ev (fun k => impl_casts.l1 k (a : Int) l out (n : Int) s ((j : Int) - 1) x11 x12) r := by
  have h256 : 2 ^ a ≤ 2 ^ 8 := Nat.pow_le_pow_right (by decide) ha
  intro j
  induction j with
  | zero =>
    intro _ s hs h
    refine Ev.step (fun k => ?_) h
    simp only [impl_casts.l1, cw]
    rw [if_neg (by omega)]
  | succ j ih =>
    intro hj s hs h
    have hb := bit_at n j (by omega) (by omega)
    have hlt : n / 2 ^ j % 2 < 2 := Nat.mod_lt _ (by decide)
    have e1 : ((j + 1 : Nat) : Int) - 1 = (j : Int) := by omega
    have e2 : wrap64 ((j : Int) - 1) = (j : Int) - 1 := w64 (by omega) (by omega)
    have hc : strOfNums (s ++ [bt (⟨#[104, 108]⟩ : ByteArray) ((n / 2 ^ j % 2 : Nat) : Int)]) = strOfNums s ++ ⟨#[if n / 2 ^ j % 2 = 0 then 104 else 108]⟩ := by
      refine str_snoc _ _ _ ?_
      by_cases hz : n / 2 ^ j % 2 = 0
      · rw [if_pos hz, hz]; rfl
      · rw [if_neg hz, show n / 2 ^ j % 2 = 1 by omega]; rfl
    unfold cw at h
    rw [← hc] at h
    have h' := ih (by omega) _ (by simp; omega) h
    refine Ev.step (fun k => ?_) h'
    simp only [impl_casts.l1, e1, e2, hb]
    rw [if_pos (by omega), if_pos (by omega), if_pos (by omega), if_pos (by omega), if_pos (by omega)]
theorem casts_ev (l : List S55) (a : Nat) (ha : a ≤ 8) (hg : l.all (impl_AreClaims.ok (a : Int)) = true) (hb : l.length ≤ 20) : Ev (fun k => impl_casts.f k (a : Int) l) (castsL l a 0) := by
  have h256 : 2 ^ a ≤ 2 ^ 8 := Nat.pow_le_pow_right (by decide) ha
  have key : ∀ d n, 2 ^ a - n = d → n ≤ 2 ^ a → ∀ out : List ByteArray, out.length ≤ n → Ev (fun k => impl_casts.l0 k (a : Int) l out ((2 ^ a : Nat) : Int) (n : Int)) (out ++ castsL l a n) := by
    intro d
    induction d with
    | zero =>
      intro n hd hn out ho
      refine Ev.step (f := fun _ => some out) (fun k => ?_) (ev_eq (by unfold castsL; rw [hd]; simp) (Ev.now out))
      simp only [impl_casts.l0]
      rw [if_neg (by omega)]
    | succ d ih =>
      intro n hd hn out ho
      have hw : wrap64 ((n : Int) + 1) = ((n + 1 : Nat) : Int) := by rw [w64 (by omega) (by omega)]; omega
      have hs : (cw n a ⟨#[]⟩).size = a := by rw [cw_size, size0, Nat.zero_add]
      have hf := implFits l (cw n a ⟨#[]⟩) (ok_of_good a l _ hs hg)
      have hword := casts_word l a ha n (by omega) out (out ++ castsL l a n) ((2 ^ a : Nat) : Int) (n : Int) a (Nat.le_refl _) [] (by simp) (by
        refine ev_call hf ?_
        rw [hw, castsL_step l a n (by omega)]
        by_cases hc : fitC l (cw n a ⟨#[]⟩) = true
        · refine ev_pos hc (ev_pos (by omega) (ev_eq ?_ (ih (n + 1) (by omega) (by omega) _ (by simp; omega))))
          rw [if_pos hc]
          simp only [List.append_assoc]
          rfl
        · refine ev_neg hc (ev_eq ?_ (ih (n + 1) (by omega) (by omega) out (by omega)))
          rw [if_neg hc]
          simp)
      refine Ev.step (fun k => ?_) hword
      simp only [impl_casts.l0]
      rw [if_pos (by omega), w64 (n := (a : Int) - 1) (by omega) (by omega)]
  have := key (2 ^ a) 0 rfl (Nat.zero_le _) [] (Nat.zero_le _)
  unfold impl_casts.f
  rw [shl_nat a (by omega)]
  exact ev_pos (by omega) (by simpa using this)

def castsV (n : Int) (l : List S55) : List ByteArray × Bool := if areCl n l = true then (castsL l n.toNat 0, true) else ([], false)
theorem areCl_of {n : Int} {l : List S55} (h : areCl n l = true) : ∃ a : Nat, n = (a : Int) ∧ 1 ≤ a ∧ a ≤ 8 ∧ l.length ≤ 20 ∧ l.all (impl_AreClaims.ok (a : Int)) = true := by
  unfold areCl at h
  simp only [Bool.and_eq_true, decide_eq_true_eq] at h
  obtain ⟨⟨h1, h2⟩, h3⟩ := h
  refine ⟨n.toNat, by omega, by omega, by omega, h2, ?_⟩
  rw [show (n.toNat : Int) = n by omega]
  exact h3
theorem castsV_len (n : Int) (l : List S55) : (castsV n l).1.length ≤ 256 := by
  unfold castsV
  by_cases h : areCl n l = true
  · obtain ⟨a, rfl, h1, h2, _⟩ := areCl_of h
    rw [if_pos h]
    have := castsL_len l a 0
    have h256 : 2 ^ a ≤ 2 ^ 8 := Nat.pow_le_pow_right (by decide) h2
    simp only [Int.toNat_natCast]
    omega
  · rw [if_neg h]
    simp

theorem implCastsOf_ev (n : Int) (l : List S55) : Ev (fun k => impl_CastsOf.f k n l) (castsV n l) := by
  unfold impl_CastsOf.f castsV
  refine ev_call (implGood n l) ?_
  by_cases h : areCl n l = true
  · obtain ⟨a, rfl, h1, h2, h3, h4⟩ := areCl_of h
    rw [if_pos h]
    exact ev_pos h (Ev.bind (casts_ev l a h2 h4 h3) (Ev.now _))
  · rw [if_neg h]
    exact ev_neg h (Ev.now _)

/-- is claim j needless? -/
def nd (a : Nat) (l : List S55) (j : Int) : Bool := (castsL (l.eraseIdx j.toNat) a 0).length == (castsL l a 0).length
def ndV (n : Int) (l : List S55) : List Int × Bool := if areCl n l = true then (idxs (nd n.toNat l) l.length, true) else ([], false)
theorem all_erase {n : Int} (l : List S55) (i : Nat) (h : l.all (impl_AreClaims.ok n) = true) : (l.eraseIdx i).all (impl_AreClaims.ok n) = true := by
  rw [List.all_eq_true] at h ⊢
  exact fun c hc => h c (List.mem_of_mem_eraseIdx hc)
theorem ndV_len (n : Int) (l : List S55) : (ndV n l).1.length ≤ 20 := by
  unfold ndV
  by_cases h : areCl n l = true
  · obtain ⟨a, rfl, h1, h2, h3, h4⟩ := areCl_of h
    rw [if_pos h]
    exact Nat.le_trans (idxs_len _ _) h3
  · rw [if_neg h]
    simp
theorem spec_v (n : Int) (l : List S55) (hb : l.length ≤ 9223372036854775807) : Ev (fun k => spec_NeedlessClaims.f k n l) (ndV n l) := by
  unfold spec_NeedlessClaims.f ndV
  refine Ev.bind (liGood_ev n l hb) ?_
  by_cases h : areCl n l = true
  · obtain ⟨a, rfl, h1, h2, h3, h4⟩ := areCl_of h
    rw [if_pos h]
    refine ev_pos h (Ev.bind (liAll_ev l a h2 h4 h3) ?_)
    rw [Int.toNat_natCast]
    refine ev_down l.length (fun i k => spec_NeedlessClaims.l0 k (a : Int) l (idxs (nd a l) i) ((castsL l a 0).length : Int) (l.length : Int) (i : Int)) (fun _ => (idxs (nd a l) l.length, true)) (Ev.step (f := fun _ => some (idxs (nd a l) l.length, true)) (fun k => by simp only [spec_NeedlessClaims.l0]; rw [if_neg (by omega)]) (Ev.now _)) (fun i hi ih => ?_) 0 (Nat.zero_le _)
    have he : [] ++ l.take i ++ l.drop (i + 1) = l.eraseIdx i := by rw [List.eraseIdx_eq_take_drop_succ]; rfl
    have hle := idxs_len (nd a l) i
    have hee := List.length_eraseIdx_le l i
    have z1 : (([] : List S55).length + (l.take i).length : Nat) < 5864062014805 := by rw [List.length_take]; simp only [List.length_nil]; omega
    have z2 : (([] ++ l.take i : List S55).length + (l.drop (i + 1)).length : Nat) < 5864062014805 := by rw [List.length_append, List.length_take, List.length_drop]; simp only [List.length_nil]; omega
    refine Ev.step (f := fun k => (spec_liAll.f k (a : Int) (l.eraseIdx i)).bind fun t => if (t.length : Int) = ((castsL l a 0).length : Int) then spec_NeedlessClaims.l0 k (a : Int) l (idxs (nd a l) i ++ [(i : Int)]) ((castsL l a 0).length : Int) (l.length : Int) ((i + 1 : Nat) : Int) else spec_NeedlessClaims.l0 k (a : Int) l (idxs (nd a l) i) ((castsL l a 0).length : Int) (l.length : Int) ((i + 1 : Nat) : Int)) (fun k => ?_) ?_
    · rw [spec_NeedlessClaims.l0, if_pos (by omega), Option.bind_some, if_pos (by omega), if_pos (by omega), Option.bind_some, Int.toNat_natCast, if_pos z1, Option.bind_some, w64 (n := (i : Int) + 1) (by omega) (by omega), if_pos (by omega), if_pos (by omega), Option.bind_some, show ((i : Int) + 1).toNat = i + 1 by omega, if_pos z2, he, if_pos (by omega), show (i : Int) + 1 = ((i + 1 : Nat) : Int) by omega]
    · refine Ev.bind (liAll_ev (l.eraseIdx i) a h2 (all_erase l i h4) (by omega)) ?_
      rw [idxs_succ] at ih
      refine ev_if (fun hc => ?_) (fun hc => ?_)
      · rw [if_pos (by unfold nd; rw [Int.toNat_natCast]; simp; omega)] at ih
        exact ih
      · rw [if_neg (by unfold nd; rw [Int.toNat_natCast]; simp; omega)] at ih
        simpa using ih
  · rw [if_neg h]
    exact ev_neg h (Ev.now _)
theorem impl_v (n : Int) (l : List S55) : Ev (fun k => impl_NeedlessClaims.f k n l) (ndV n l) := by
  unfold impl_NeedlessClaims.f ndV
  refine Ev.bind (implCastsOf_ev n l) ?_
  unfold castsV
  by_cases h : areCl n l = true
  · obtain ⟨a, rfl, h1, h2, h3, h4⟩ := areCl_of h
    rw [if_pos h, if_pos h]
    refine ev_pos rfl ?_
    obtain ⟨K, hK⟩ := ev_all l.length (fun i k => impl_casts.f k (a : Int) (l.eraseIdx i)) (fun i => castsL (l.eraseIdx i) a 0) (fun i _ => casts_ev (l.eraseIdx i) a h2 (all_erase l i h4) (Nat.le_trans (List.length_eraseIdx_le l i) h3))
    refine ⟨K, fun k hk => ?_⟩
    have hs := hK k hk
    dsimp only
    rw [if_pos ⟨by omega, fun i hi => by rw [hs i hi]; rfl⟩]
    rw [Int.toNat_natCast, idxs_congr (q := nd a l) (fun i hi => by unfold needless nd; rw [Int.toNat_natCast, hs i hi]; rfl)]
  · rw [if_neg h, if_neg h]
    exact ev_neg (by simp) (Ev.now _)
theorem FnExactNeedlessClaims : laws_FnExactNeedlessClaims.Pure := by
  intro a l _ hl _
  refine Ev.rounds ?_
  unfold laws_FnExactNeedlessClaims.f
  refine ev_call (szClaimS_val l hl) ?_
  by_cases hs : l.length ≤ 1048576
  · rw [if_pos hs]
    have hc : (l.map cvClaim).length ≤ 1048576 := by simpa using hs
    have hT := toClaimS_ev l hs
    obtain ⟨l', hl', hM⟩ := markClaimS_ev (l.map cvClaim) hc
    have hv := ndV_len a (l.map cvClaim)
    have hE := eqIntS_ev (ndV a (l.map cvClaim)).1 (by omega)
    refine ev_neg (by omega) (Ev.bind hT (Ev.bind (spec_v a _ (by omega)) (Ev.bind hT (Ev.bind (impl_v a _) (Ev.bind hE (ev_pos rfl ?_))))))
    refine Ev.step (fun k => by simp only [laws_FnExactNeedlessClaims.j0]; rfl) ?_
    refine (ev_neg (by simp) (Ev.bind hT (Ev.bind (eqClaimS_ev _ hc) (ev_pos rfl (Ev.bind hM (ev_neg (by first | omega | (simp only; omega)) (Ev.bind hE (ev_pos rfl ?_))))))))
    refine Ev.step (fun k => by simp only [laws_FnExactNeedlessClaims.j1]; rfl) ?_
    refine (ev_neg (by simp) (Ev.bind (markIntS_ev _ (by omega)) (Ev.bind (heldIntS_ev (ndV a (l.map cvClaim)).1.length (by omega)) (ev_neg (by first | omega | (simp only; omega)) (ev_pos rfl (Ev.bind hT (Ev.bind (impl_v a _) (Ev.bind hE (ev_pos rfl ?_)))))))))
    refine Ev.step (fun k => by simp only [laws_FnExactNeedlessClaims.j2]; rfl) ?_
    exact (ev_neg (by simp) (Ev.bind (heldIntS_ev _ (by omega)) (ev_neg (by omega) (ev_pos rfl (Ev.now _)))))
  · rw [if_neg hs]
    exact ev_pos (by omega) (Ev.now _)

end Go.Proofs.Ytidinhkaclaanaa.Pure
