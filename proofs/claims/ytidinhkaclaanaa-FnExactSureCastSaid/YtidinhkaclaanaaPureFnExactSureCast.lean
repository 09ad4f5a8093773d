/- The law FnExactSureCast in plain Lean: it returns true at every input. No conditions. -/
import Derived.Test.YtidinhkaclaanaaStFnExactSureCast
import Derived.Test.YtidinhkaclaanaaGp
namespace Go.Proofs.Ytidinhkaclaanaa.Pure
open Go.RowKit Go.Proofs.Ytidinhkaclaanaa.PFnExactSureCast Go.Proofs.YtidinhkaclaanaaW.PrintWords Go.Proofs.YtidinhkaclaanaaW.PrintLast Go.Proofs.YtidinhkaclaanaaW.PrintMore Go.Proofs.Ytidinhkaclaanaa.Gr Go.Proofs.Ytidinhkaclaanaa.Gp
set_option linter.unusedVariables false
set_option linter.unusedSimpArgs false

theorem szClaimS_val (l : List S57) (h : l.length ≤ 9223372036854775807) : laws_szClaimS.f l 1048576 = some (if l.length ≤ 1048576 then 1048576 - (l.length : Int) else -1) := by
  unfold laws_szClaimS.f
  rw [w64 (by omega) (by omega)]
  by_cases hl : l.length ≤ 1048576
  · rw [if_neg (by omega), if_pos hl]
  · rw [if_pos (by omega), if_neg hl]

def cvClaim (y : S57) : S55 := ⟨y.f0, y.f1, y.f2⟩
theorem toClaimS_ev (l : List S57) (h : l.length ≤ 1048576) : Ev (fun k => laws_toClaimS.f k l) (l.map cvClaim) := by
  unfold laws_toClaimS.f
  refine ev_pos (by omega) (ev_pos (by omega) ?_)
  refine ev_fill l z55 cvClaim (fun k st i => laws_toClaimS.l0 k l st i) (fun k st i hi hst => ?_) (fun k st hst => ?_)
  · have e : l.getD i z57 = l[i] := getD_at l i hi _
    simp only [laws_toClaimS.l0, rd_T57, Int.toNat_natCast]
    rw [if_pos (by omega), if_pos (by omega), e]
    simp only [laws_toClaim.f, Option.bind_some, cvClaim]
    rw [if_pos (by omega), w64 (by omega) (by omega)]
    rfl
  · simp only [laws_toClaimS.l0]
    rw [if_neg (by omega)]

theorem eqClaimS_ev (l : List S55) (h : l.length ≤ 1048576) : Ev (fun k => laws_eqClaimS.f k l l) true := by
  unfold laws_eqClaimS.f
  refine ev_pos rfl (ev_same l (fun k i => laws_eqClaimS.l0 k l l i) (fun k i hi => ?_) (fun k => ?_))
  · simp only [laws_eqClaimS.l0]
    rw [if_pos (by omega), if_pos (by omega), if_pos (by omega)]
    unfold laws_eqClaim.f
    rw [if_pos rfl, if_pos rfl, if_neg (by simp)]
    simp only [Option.bind_some, if_true]
    rw [w64 (by omega) (by omega)]
    rfl
  · simp only [laws_eqClaimS.l0]
    rw [if_neg (by omega)]

theorem l1In_eq (a b c : Int) : spec_l1In.f a b c = some (decide (b ≤ a ∧ a ≤ c)) := by
  unfold spec_l1In.f
  by_cases h : b ≤ a <;> simp [h]

theorem rd_claim (l : List S55) (i : Nat) (hi : i < l.length) : rd_T55 l (i : Int) = l[i] := by
  unfold rd_T55
  rw [Int.toNat_natCast]
  exact getD_at l i hi _

/-- are these claims of so many friends? -/
def areCl (n : Int) (l : List S55) : Bool := decide (1 ≤ n ∧ n ≤ 8) && decide (l.length ≤ 20) && l.all (impl_AreClaims.ok n)
theorem implGood (n : Int) (l : List S55) : impl_AreClaims.f n l = some (areCl n l) := by
  unfold impl_AreClaims.f areCl
  rw [show (l.all (impl_AreClaims.ok n)) = !l.any fun c => !impl_AreClaims.ok n c by simp [List.any_eq_not_all_not]]
theorem liGood_l (n : Int) (l : List S55) (h1 : 1 ≤ n) (h2 : n ≤ 8) (hl : l.length ≤ 20) : ∀ i, i ≤ l.length → Ev (fun k => spec_liGood.l0 k n l (l.length : Int) (i : Int)) ((l.drop i).all (impl_AreClaims.ok n)) := by
  have e : wrap64 (n - 1) = n - 1 := w64 (by omega) (by omega)
  refine ev_down l.length _ _ (Ev.step (f := fun _ => some true) (fun k => by simp only [spec_liGood.l0]; rw [if_neg (by omega)]) (ev_eq (by simp) (Ev.now true))) (fun i hi ih => ?_)
  have hd : l.drop i = l[i] :: l.drop (i + 1) := List.drop_eq_getElem_cons hi
  refine Ev.step (f := fun k => if decide (0 ≤ l[i].f0 ∧ l[i].f0 ≤ n - 1) = true then (if decide (0 ≤ l[i].f1 ∧ l[i].f1 ≤ n - 1) = true then spec_liGood.l0 k n l (l.length : Int) ((i + 1 : Nat) : Int) else some false) else some false) (fun k => ?_) ?_
  · have hg := rd_claim l i hi
    simp only [spec_liGood.l0, l1In_eq, e, hg, Option.bind_some]
    rw [if_pos (by omega), if_pos (by omega), if_pos (by omega), w64 (n := (i : Int) + 1) (by omega) (by omega)]
    rfl
  · rw [hd, List.all_cons]
    unfold impl_AreClaims.ok at ih ⊢
    by_cases ha : 0 ≤ l[i].f0 ∧ l[i].f0 ≤ n - 1
    · by_cases hb : 0 ≤ l[i].f1 ∧ l[i].f1 ≤ n - 1
      · refine ev_pos (by simp [ha]) (ev_pos (by simp [hb]) (ev_eq ?_ ih))
        simp [ha, hb]
      · exact ev_pos (by simp [ha]) (ev_neg (by simp [hb]) (ev_eq (by simp [hb]) (Ev.now false)))
    · exact ev_neg (by simp [ha]) (ev_eq (by simp [ha]) (Ev.now false))
theorem liGood_ev (n : Int) (l : List S55) (hb : l.length ≤ 9223372036854775807) : Ev (fun k => spec_liGood.f k n l) (areCl n l) := by
  unfold spec_liGood.f spec_liFriends.f areCl
  simp only [l1In_eq, Option.bind_some]
  by_cases h : 1 ≤ n ∧ n ≤ 8
  · refine ev_pos (by simp [h]) ?_
    by_cases hl : l.length ≤ 20
    · refine Ev.step (f := fun k => spec_liGood.l0 k n l (l.length : Int) 0) (fun k => ?_) (ev_eq ?_ (liGood_l n l h.1 h.2 hl 0 (Nat.zero_le _)))
      · simp only [spec_liGood.j0]
        rw [if_neg (by simp; omega)]
      · simp [h, hl]
    · refine Ev.step (f := fun k => some false) (fun k => ?_) (ev_eq (by simp [hl]) (Ev.now false))
      simp only [spec_liGood.j0]
      rw [if_pos (by simp; omega)]
  · refine ev_neg (by simpa using h) (Ev.step (f := fun k => some false) (fun k => ?_) (ev_eq (by simp [h]) (Ev.now false)))
    simp only [spec_liGood.j0]
    first | rw [if_pos rfl] | rw [if_pos trivial]

/-- the signs of number n from bit j - 1 down to 0, behind s -/
def cw (n : Nat) : Nat → ByteArray → ByteArray
  | 0, s => s
  | j + 1, s => cw n j (s ++ ⟨#[if n / 2 ^ j % 2 = 0 then 104 else 108]⟩)
theorem cw_size (n j : Nat) : ∀ s : ByteArray, (cw n j s).size = s.size + j := by
  induction j with
  | zero => intro s; rfl
  | succ j ih => intro s; unfold cw; rw [ih, ByteArray.size_append, size1]; omega
/-- byte i behind the first signs is the sign of bit j - 1 - i -/
theorem cw_all (P : UInt8 → Prop) (h1 : P 104) (h2 : P 108) (n j : Nat) : ∀ s : ByteArray, (∀ b, b ∈ s.data.toList → P b) → ∀ b, b ∈ (cw n j s).data.toList → P b := by
  induction j with
  | zero => intro s h; exact h
  | succ j ih =>
    intro s h
    unfold cw
    refine ih _ fun b hb => ?_
    rw [ByteArray.data_append, Array.toList_append, List.mem_append] at hb
    rcases hb with hb | hb
    · exact h b hb
    · simp at hb
      rw [hb]
      split
      · exact h1
      · exact h2
theorem bt_mem (s : ByteArray) (i : Int) (h0 : 0 ≤ i) (h1 : i < s.size) : ∃ b, b ∈ s.data.toList ∧ bt s i = (b.toNat : Int) := by
  unfold bt
  have h : i.toNat < s.size := by omega
  rw [dif_pos h]
  exact ⟨s[i.toNat], by simp [ByteArray.getElem_eq_getElem_data], rfl⟩
/-- every sign of a cast is h or l -/
theorem cw_bt (n j : Nat) (i : Int) (h0 : 0 ≤ i) (h1 : i < j) : bt (cw n j ⟨#[]⟩) i = 104 ∨ bt (cw n j ⟨#[]⟩) i = 108 := by
  obtain ⟨b, hb, e⟩ := bt_mem (cw n j ⟨#[]⟩) i h0 (by rw [cw_size, size0]; omega)
  rw [e]
  have := cw_all (fun b => (b.toNat : Int) = 104 ∨ (b.toNat : Int) = 108) (by decide) (by decide) n j ⟨#[]⟩ (by simp) b hb
  exact this

/-- does the cast s fit? -/
def fitC (l : List S55) (s : ByteArray) : Bool := l.all (impl_fits.so s)
def hl (s : ByteArray) : Prop := ∀ i : Int, 0 ≤ i → i < s.size → bt s i = 104 ∨ bt s i = 108
theorem says_eq (s : ByteArray) (h : hl s) (a b : Int) (a0 : 0 ≤ a) (a1 : a < s.size) (b0 : 0 ≤ b) (b1 : b < s.size) : spec_liSays.f s a b = some (bt s a == bt s b) := by
  unfold spec_liSays.f
  rw [if_pos b0, if_pos b1, if_pos a0, if_pos a1]
  rcases h a a0 a1 with ha | ha <;> rcases h b b0 b1 with hb | hb <;> rw [ha, hb] <;> rfl
theorem liFits_ev (l : List S55) (s : ByteArray) (h : hl s) (hok : l.all (impl_fits.ok s) = true) (hb : l.length ≤ 1048576) : Ev (fun k => spec_liFits.f k l s) (fitC l s) := by
  unfold spec_liFits.f
  have := ev_down l.length (fun i k => spec_liFits.l0 k s l (l.length : Int) (i : Int)) (fun i => (l.drop i).all (impl_fits.so s))
    (Ev.step (f := fun _ => some true) (fun k => by simp only [spec_liFits.l0]; rw [if_neg (by omega)]) (ev_eq (by simp) (Ev.now true))) (fun i hi ih => ?_) 0 (Nat.zero_le _)
  · exact this
  · have hd : l.drop i = l[i] :: l.drop (i + 1) := List.drop_eq_getElem_cons hi
    have hg := rd_claim l i hi
    have ho := List.all_eq_true.1 hok l[i] (List.getElem_mem hi)
    unfold impl_fits.ok at ho
    simp only [Bool.and_eq_true, decide_eq_true_eq] at ho
    refine Ev.step (f := fun k => if ((bt s l[i].f0 == bt s l[i].f1) != l[i].f2) = true then some false else spec_liFits.l0 k s l (l.length : Int) ((i + 1 : Nat) : Int)) (fun k => ?_) ?_
    · simp only [spec_liFits.l0, hg, says_eq s h _ _ ho.1.1 ho.1.2 ho.2.1 ho.2.2, Option.bind_some]
      rw [if_pos (by omega), if_pos (by omega), if_pos (by omega), w64 (n := (i : Int) + 1) (by omega) (by omega)]
      rfl
    · rw [hd, List.all_cons]
      unfold impl_fits.so at ih ⊢
      by_cases hc : ((bt s l[i].f0 == bt s l[i].f1) == l[i].f2) = true
      · exact ev_neg (by simpa [bne] using hc) (ev_eq (by rw [hc, Bool.true_and]) ih)
      · have hc' : ((bt s l[i].f0 == bt s l[i].f1) == l[i].f2) = false := by simpa using hc
        exact ev_pos (by simp [bne, hc']) (ev_eq (by rw [hc', Bool.false_and]) (Ev.now false))
theorem implFits (l : List S55) (s : ByteArray) (hok : l.all (impl_fits.ok s) = true) : impl_fits.f l s = some (fitC l s) := by
  unfold impl_fits.f
  rw [if_pos hok]
  rfl
theorem ok_of_good (n : Nat) (l : List S55) (s : ByteArray) (hs : s.size = n) (h : l.all (impl_AreClaims.ok (n : Int)) = true) : l.all (impl_fits.ok s) = true := by
  rw [List.all_eq_true] at h ⊢
  intro c hc
  have := h c hc
  unfold impl_AreClaims.ok at this
  unfold impl_fits.ok
  simp only [Bool.and_eq_true, decide_eq_true_eq] at this ⊢
  omega

/-- the casts of a friends from number n on that fit -/
def castsL (l : List S55) (a : Nat) (n : Nat) : List ByteArray := ((List.range (2 ^ a - n)).map fun i => cw (n + i) a ⟨#[]⟩).filter (fitC l)
theorem castsL_step (l : List S55) (a n : Nat) (h : n < 2 ^ a) : castsL l a n = (if fitC l (cw n a ⟨#[]⟩) = true then [cw n a ⟨#[]⟩] else []) ++ castsL l a (n + 1) := by
  unfold castsL
  obtain ⟨m, hm⟩ : ∃ m, 2 ^ a - n = m + 1 := ⟨2 ^ a - n - 1, by omega⟩
  rw [hm, show 2 ^ a - (n + 1) = m by omega, List.range_succ_eq_map, List.map_cons, List.filter_cons, List.map_map]
  have e : ((fun i => cw (n + i) a ⟨#[]⟩) ∘ Nat.succ) = fun i => cw (n + 1 + i) a ⟨#[]⟩ := by funext i; simp [Nat.add_comm, Nat.add_left_comm]
  rw [e]
  simp only [Nat.add_zero]
  split <;> simp
theorem castsL_len (l : List S55) (a n : Nat) : (castsL l a n).length ≤ 2 ^ a - n := by
  unfold castsL
  refine Nat.le_trans (List.length_filter_le _ _) (by simp)
theorem liAll_word (l : List S55) (a : Nat) (ha : a ≤ 8) (n : Nat) (hn : n < 2 ^ a) (out r : List ByteArray) : ∀ j, j ≤ a → ∀ s : ByteArray, s.size + j = a → Ev (fun k => (spec_liFits.f k l (cw n j s)).bind fun t => if t = true then (if out.length < 8796093022208 then spec_liAll.l0 k (a : Int) l (out ++ [cw n j s]) (wrap64 ((n : Int) + 1)) else none) else spec_liAll.l0 k (a : Int) l out (wrap64 ((n : Int) + 1))) r →
    Ev (fun k => spec_liAll.l1 k (a : Int) l out (n : Int) s ((j : Int) - 1)) r := by
  have h256 : 2 ^ a ≤ 2 ^ 8 := Nat.pow_le_pow_right (by decide) ha
  intro j
  induction j with
  | zero =>
    intro _ s hs h
    refine Ev.step (fun k => ?_) h
    simp only [spec_liAll.l1, cw]
    rw [if_neg (by omega)]
  | succ j ih =>
    intro hj s hs h
    have hb := bit_at n j (by omega) (by omega)
    have hlt : n / 2 ^ j % 2 < 2 := Nat.mod_lt _ (by decide)
    have e1 : ((j + 1 : Nat) : Int) - 1 = (j : Int) := by omega
    have e2 : wrap64 ((j : Int) - 1) = (j : Int) - 1 := w64 (by omega) (by omega)
    unfold cw at h
    have h' := ih (by omega) _ (by rw [ByteArray.size_append, size1]; omega) h
    refine Ev.step (fun k => ?_) h'
    simp only [spec_liAll.l1, e1, e2, hb]
    rw [if_pos (by omega), if_pos (by omega)]
    by_cases hz : n / 2 ^ j % 2 = 0
    · rw [if_pos (by omega), if_pos (by omega)]
      simp only [hz, if_true]
    · rw [if_neg (by omega), if_pos (by omega)]
      simp only [hz, if_false]
theorem liAll_ev (l : List S55) (a : Nat) (ha : a ≤ 8) (hg : l.all (impl_AreClaims.ok (a : Int)) = true) (hb : l.length ≤ 20) : Ev (fun k => spec_liAll.f k (a : Int) l) (castsL l a 0) := by
  have h256 : 2 ^ a ≤ 2 ^ 8 := Nat.pow_le_pow_right (by decide) ha
  have key : ∀ d n, 2 ^ a - n = d → n ≤ 2 ^ a → ∀ out : List ByteArray, out.length ≤ n → Ev (fun k => spec_liAll.l0 k (a : Int) l out (n : Int)) (out ++ castsL l a n) := by
    intro d
    induction d with
    | zero =>
      intro n hd hn out ho
      refine Ev.step (f := fun _ => some out) (fun k => ?_) (ev_eq (by unfold castsL; rw [hd]; simp) (Ev.now out))
      simp only [spec_liAll.l0]
      rw [if_pos (by omega), if_neg (by rw [shl_nat a (by omega)]; omega)]
    | succ d ih =>
      intro n hd hn out ho
      have hw : wrap64 ((n : Int) + 1) = ((n + 1 : Nat) : Int) := by rw [w64 (by omega) (by omega)]; omega
      have hs : (cw n a ⟨#[]⟩).size = a := by rw [cw_size, size0, Nat.zero_add]
      have hf := liFits_ev l (cw n a ⟨#[]⟩) (fun i h0 h1 => cw_bt n a i h0 (by rw [hs] at h1; exact h1)) (ok_of_good a l _ hs hg) (by omega)
      have hword := liAll_word l a ha n (by omega) out (out ++ castsL l a n) a (Nat.le_refl _) ⟨#[]⟩ (by rw [size0]; omega) (by
        refine Ev.bind hf ?_
        rw [hw, castsL_step l a n (by omega)]
        by_cases hc : fitC l (cw n a ⟨#[]⟩) = true
        · refine ev_pos hc (ev_pos (by omega) (ev_eq ?_ (ih (n + 1) (by omega) (by omega) _ (by simp; omega))))
          rw [if_pos hc]
          simp
        · refine ev_neg hc (ev_eq ?_ (ih (n + 1) (by omega) (by omega) out (by omega)))
          rw [if_neg hc]
          simp)
      refine Ev.step (fun k => ?_) hword
      simp only [spec_liAll.l0]
      rw [if_pos (by omega), if_pos (by rw [shl_nat a (by omega)]; omega), w64 (n := (a : Int) - 1) (by omega) (by omega)]
  have := key (2 ^ a) 0 rfl (Nat.zero_le _) [] (Nat.zero_le _)
  unfold spec_liAll.f
  simpa using this
theorem str_snoc (xs : List Int) (b : Int) (c : UInt8) (h : b = (c.toNat : Int)) : strOfNums (xs ++ [b]) = strOfNums xs ++ ⟨#[c]⟩ := by
  subst h
  apply ByteArray.ext
  simp [strOfNums]
theorem casts_word (l : List S55) (a : Nat) (ha : a ≤ 8) (n : Nat) (hn : n < 2 ^ a) (out r : List ByteArray) (x11 x12 : Int) : ∀ j, j ≤ a → ∀ s : List Int, s.length + j = a → Ev (fun k => (impl_fits.f l (cw n j (strOfNums s))).bind fun t => if t = true then (if out.length < 8796093022208 then impl_casts.l0 k (a : Int) l (out ++ [cw n j (strOfNums s)]) x11 (wrap64 (x12 + 1)) else none) else impl_casts.l0 k (a : Int) l out x11 (wrap64 (x12 + 1))) r →
    Ev (fun k => impl_casts.l1 k (a : Int) l out (n : Int) s ((j : Int) - 1) x11 x12) r := by
  have h256 : 2 ^ a ≤ 2 ^ 8 := Nat.pow_le_pow_right (by decide) ha
  intro j
  induction j with
  | zero =>
    intro _ s hs h
    refine Ev.step (fun k => ?_) h
    simp only [impl_casts.l1, cw]
    rw [if_neg (by omega)]
  | succ j ih =>
    intro hj s hs h
    have hb := bit_at n j (by omega) (by omega)
    have hlt : n / 2 ^ j % 2 < 2 := Nat.mod_lt _ (by decide)
    have e1 : ((j + 1 : Nat) : Int) - 1 = (j : Int) := by omega
    have e2 : wrap64 ((j : Int) - 1) = (j : Int) - 1 := w64 (by omega) (by omega)
    have hc : strOfNums (s ++ [bt (⟨#[104, 108]⟩ : ByteArray) ((n / 2 ^ j % 2 : Nat) : Int)]) = strOfNums s ++ ⟨#[if n / 2 ^ j % 2 = 0 then 104 else 108]⟩ := by
      refine str_snoc _ _ _ ?_
      by_cases hz : n / 2 ^ j % 2 = 0
      · rw [if_pos hz, hz]; rfl
      · rw [if_neg hz, show n / 2 ^ j % 2 = 1 by omega]; rfl
    unfold cw at h
    rw [← hc] at h
    have h' := ih (by omega) _ (by simp; omega) h
    refine Ev.step (fun k => ?_) h'
    simp only [impl_casts.l1, e1, e2, hb]
    rw [if_pos (by omega), if_pos (by omega), if_pos (by omega), if_pos (by omega), if_pos (by omega)]
theorem casts_ev (l : List S55) (a : Nat) (ha : a ≤ 8) (hg : l.all (impl_AreClaims.ok (a : Int)) = true) (hb : l.length ≤ 20) : Ev (fun k => impl_casts.f k (a : Int) l) (castsL l a 0) := by
  have h256 : 2 ^ a ≤ 2 ^ 8 := Nat.pow_le_pow_right (by decide) ha
  have key : ∀ d n, 2 ^ a - n = d → n ≤ 2 ^ a → ∀ out : List ByteArray, out.length ≤ n → Ev (fun k => impl_casts.l0 k (a : Int) l out ((2 ^ a : Nat) : Int) (n : Int)) (out ++ castsL l a n) := by
    intro d
    induction d with
    | zero =>
      intro n hd hn out ho
      refine Ev.step (f := fun _ => some out) (fun k => ?_) (ev_eq (by unfold castsL; rw [hd]; simp) (Ev.now out))
      simp only [impl_casts.l0]
      rw [if_neg (by omega)]
    | succ d ih =>
      intro n hd hn out ho
      have hw : wrap64 ((n : Int) + 1) = ((n + 1 : Nat) : Int) := by rw [w64 (by omega) (by omega)]; omega
      have hs : (cw n a ⟨#[]⟩).size = a := by rw [cw_size, size0, Nat.zero_add]
      have hf := implFits l (cw n a ⟨#[]⟩) (ok_of_good a l _ hs hg)
      have hword := casts_word l a ha n (by omega) out (out ++ castsL l a n) ((2 ^ a : Nat) : Int) (n : Int) a (Nat.le_refl _) [] (by simp) (by
        refine ev_call hf ?_
        rw [hw, castsL_step l a n (by omega)]
        by_cases hc : fitC l (cw n a ⟨#[]⟩) = true
        · refine ev_pos hc (ev_pos (by omega) (ev_eq ?_ (ih (n + 1) (by omega) (by omega) _ (by simp; omega))))
          rw [if_pos hc]
          simp only [List.append_assoc]
          rfl
        · refine ev_neg hc (ev_eq ?_ (ih (n + 1) (by omega) (by omega) out (by omega)))
          rw [if_neg hc]
          simp)
      refine Ev.step (fun k => ?_) hword
      simp only [impl_casts.l0]
      rw [if_pos (by omega), w64 (n := (a : Int) - 1) (by omega) (by omega)]
  have := key (2 ^ a) 0 rfl (Nat.zero_le _) [] (Nat.zero_le _)
  unfold impl_casts.f
  rw [shl_nat a (by omega)]
  exact ev_pos (by omega) (by simpa using this)

def castsV (n : Int) (l : List S55) : List ByteArray × Bool := if areCl n l = true then (castsL l n.toNat 0, true) else ([], false)
theorem areCl_of {n : Int} {l : List S55} (h : areCl n l = true) : ∃ a : Nat, n = (a : Int) ∧ 1 ≤ a ∧ a ≤ 8 ∧ l.length ≤ 20 ∧ l.all (impl_AreClaims.ok (a : Int)) = true := by
  unfold areCl at h
  simp only [Bool.and_eq_true, decide_eq_true_eq] at h
  obtain ⟨⟨h1, h2⟩, h3⟩ := h
  refine ⟨n.toNat, by omega, by omega, by omega, h2, ?_⟩
  rw [show (n.toNat : Int) = n by omega]
  exact h3
theorem castsV_len (n : Int) (l : List S55) : (castsV n l).1.length ≤ 256 := by
  unfold castsV
  by_cases h : areCl n l = true
  · obtain ⟨a, rfl, h1, h2, _⟩ := areCl_of h
    rw [if_pos h]
    have := castsL_len l a 0
    have h256 : 2 ^ a ≤ 2 ^ 8 := Nat.pow_le_pow_right (by decide) h2
    simp only [Int.toNat_natCast]
    omega
  · rw [if_neg h]
    simp

theorem implCastsOf_ev (n : Int) (l : List S55) : Ev (fun k => impl_CastsOf.f k n l) (castsV n l) := by
  unfold impl_CastsOf.f castsV
  refine ev_call (implGood n l) ?_
  by_cases h : areCl n l = true
  · obtain ⟨a, rfl, h1, h2, h3, h4⟩ := areCl_of h
    rw [if_pos h]
    exact ev_pos h (Ev.bind (casts_ev l a h2 h4 h3) (Ev.now _))
  · rw [if_neg h]
    exact ev_neg h (Ev.now _)

/-- every cast that is listed has a sign for each friend, h or l -/
theorem casts_mem (l : List S55) (a n : Nat) (s : ByteArray) (h : s ∈ castsL l a n) : s.size = a ∧ hl s ∧ ∀ b, b ∈ s.data.toList → b = 104 ∨ b = 108 := by
  unfold castsL at h
  obtain ⟨h, _⟩ := List.mem_filter.1 h
  obtain ⟨i, _, rfl⟩ := List.mem_map.1 h
  have hs : (cw (n + i) a ⟨#[]⟩).size = a := by rw [cw_size, size0, Nat.zero_add]
  exact ⟨hs, fun j h0 h1 => cw_bt _ a j h0 (by rw [hs] at h1; exact h1), cw_all (fun b => b = 104 ∨ b = 108) (Or.inl rfl) (Or.inr rfl) _ a ⟨#[]⟩ (by simp)⟩
theorem castsV_1 (n : Int) (l : List S55) (h : areCl n l = true) : (castsV n l).1 = castsL l n.toNat 0 := by
  unfold castsV
  rw [if_pos h]
theorem rd_str (c : List ByteArray) (i : Nat) (hi : i < c.length) : rdOf ByteArray.empty c (i : Int) = c[i] := by
  unfold rdOf
  rw [Int.toNat_natCast]
  exact getD_at c i hi _
theorem castsV_mem (n : Int) (l : List S55) (s : ByteArray) (h : s ∈ (castsV n l).1) : areCl n l = true ∧ (s.size : Int) = n ∧ s.size ≤ 8 ∧ hl s ∧ ∀ b, b ∈ s.data.toList → b = 104 ∨ b = 108 := by
  by_cases hg : areCl n l = true
  · obtain ⟨m, rfl, h1, h2, h3, h4⟩ := areCl_of hg
    rw [castsV_1 _ l hg, Int.toNat_natCast] at h
    obtain ⟨a, b, c⟩ := casts_mem l m 0 s h
    exact ⟨hg, by omega, by omega, b, c⟩
  · unfold castsV at h
    rw [if_neg hg] at h
    cases h

/-- do casts differ from s0 at friend p? -/
def df (s0 : ByteArray) (c : List ByteArray) (p : Nat) : Bool := c.any fun s => !decide (bt s (p : Int) = bt s0 (p : Int))
def sv (s0 : ByteArray) (c : List ByteArray) (p : Nat) : Int := if df s0 c p = true then 63 else bt s0 (p : Int)
def svL (s0 : ByteArray) (c : List ByteArray) (i : Nat) : ByteArray := strOfNums ((List.range i).map (sv s0 c))
def sureV (n : Int) (l : List S55) : ByteArray × Bool := match (castsV n l).1 with
  | [] => (⟨#[]⟩, false)
  | s0 :: c => (svL s0 (s0 :: c) s0.size, true)
theorem row_at (s0 s : ByteArray) (st : List Int) (p : Nat) (hp : p < st.length) : ∀ i, (sureRow s0 s st i).getD p 0 = if p < i ∧ ¬ bt s (p : Int) = bt s0 (p : Int) then 63 else st.getD p 0 := by
  intro i
  induction i with
  | zero => rw [if_neg (by omega)]; rfl
  | succ i ih =>
    rw [sureRow_succ]
    unfold sureStep
    have hl := sureRow_len s0 s st i
    by_cases h : bt s (i : Int) = bt s0 (i : Int)
    · rw [if_pos h, ih]
      by_cases e : p = i
      · subst e
        rw [if_neg (by omega), if_neg (fun hh => hh.2 h)]
      · by_cases g : p < i ∧ ¬ bt s (p : Int) = bt s0 (p : Int)
        · rw [if_pos g, if_pos ⟨by omega, g.2⟩]
        · rw [if_neg g, if_neg (fun hh => g ⟨by omega, hh.2⟩)]
    · rw [if_neg h]
      by_cases e : p = i
      · subst e
        rw [if_pos ⟨by omega, h⟩, List.getD_eq_getElem?_getD, List.getElem?_set_self (by omega)]
        rfl
      · rw [List.getD_eq_getElem?_getD, List.getElem?_set_ne (fun hh => e hh.symm), ← List.getD_eq_getElem?_getD, ih]
        by_cases g : p < i ∧ ¬ bt s (p : Int) = bt s0 (p : Int)
        · rw [if_pos g, if_pos ⟨by omega, g.2⟩]
        · rw [if_neg g, if_neg (fun hh => g ⟨by omega, hh.2⟩)]
theorem all_at (s0 : ByteArray) (p : Nat) (hp : p < s0.size) : ∀ (l : List ByteArray), (∀ s, s ∈ l → s.size = s0.size) → ∀ st : List Int, st.length = s0.size → (l.foldl (fun st s => sureRow s0 s st s.size) st).getD p 0 = if df s0 l p = true then 63 else st.getD p 0 := by
  intro l
  induction l with
  | nil => intro _ st _; rfl
  | cons a l ih =>
    intro hs st hst
    have ha := hs a (List.mem_cons_self ..)
    rw [List.foldl_cons, ih (fun s h => hs s (List.mem_cons_of_mem _ h)) _ (by rw [sureRow_len]; exact hst), row_at s0 a st p (by omega)]
    by_cases h1 : df s0 l p = true
    · rw [if_pos h1, if_pos (by unfold df at h1 ⊢; rw [List.any_cons, h1, Bool.or_true])]
    · rw [if_neg h1]
      by_cases h2 : bt a (p : Int) = bt s0 (p : Int)
      · rw [if_neg (fun hh => hh.2 h2), if_neg (by unfold df at h1 ⊢; rw [List.any_cons]; simp [h2, h1])]
      · rw [if_pos ⟨by omega, h2⟩, if_pos (by unfold df; rw [List.any_cons]; simp [h2])]
theorem all_sv (s0 : ByteArray) (c : List ByteArray) (hs : ∀ s, s ∈ c → s.size = s0.size) : sureAll s0 c c.length = (List.range s0.size).map (sv s0 c) := by
  apply List.ext_getElem
  · rw [sureAll_len]; simp
  · intro p h1 h2
    rw [sureAll_len] at h1
    have h := all_at s0 p h1 c hs (bytesOf s0) (bytesOf_length s0)
    have e : sureAll s0 c c.length = c.foldl (fun st s => sureRow s0 s st s.size) (bytesOf s0) := by unfold sureAll; rw [List.take_length]
    rw [← e, List.getD_eq_getElem?_getD, List.getElem?_eq_getElem (by rw [sureAll_len]; exact h1)] at h
    simp only [Option.getD_some] at h
    rw [h, List.getElem_map, List.getElem_range]
    unfold sv
    have := rd_bytesOf s0 (p : Int)
    unfold rd at this
    rw [Int.toNat_natCast] at this
    rw [this]
theorem impl_v (n : Int) (l : List S55) : Ev (fun k => impl_SureCast.f k n l) (sureV n l) := by
  unfold impl_SureCast.f sureV
  refine Ev.bind (implCastsOf_ev n l) ?_
  have hmem := castsV_mem n l
  generalize (castsV n l).1 = c at hmem
  match c, hmem with
  | [], _ => exact Ev.now _
  | s0 :: c, hmem =>
    obtain ⟨_, g0, g1, _⟩ := hmem s0 (List.mem_cons_self ..)
    have hs : ∀ s, s ∈ s0 :: c → s.size = s0.size := fun s h => by
      obtain ⟨_, h0, h1, _⟩ := hmem s h
      omega
    refine ev_pos (fun s h => ⟨hs s h, by omega⟩) ?_
    rw [all_sv s0 (s0 :: c) hs]
    exact Ev.now _
theorem extract_one (s : ByteArray) (i : Nat) (h : i < s.size) : s.extract i (i + 1) = ⟨#[s[i]]⟩ := by
  apply ByteArray.ext
  simp [ByteArray.data_extract]
  apply Array.ext
  · simp; omega
  · intro j h1 h2; simp at h1 h2; subst h2; simp; rfl
theorem bt_in (s : ByteArray) (i : Nat) (h : i < s.size) : bt s (i : Int) = ((s[i]'h).toNat : Int) := by simp [bt, h]
theorem one_eq (a b : UInt8) : ((⟨#[a]⟩ : ByteArray).toList = (⟨#[b]⟩ : ByteArray).toList) ↔ (a.toNat : Int) = (b.toNat : Int) := by
  rw [ByteArray.toList_eq, ByteArray.toList_eq]
  constructor
  · intro h
    injection h with h
    rw [h]
  · intro h
    have : a = b := UInt8.toNat_inj.1 (by omega)
    rw [this]
theorem svL_snoc (s0 : ByteArray) (c : List ByteArray) (i : Nat) (x : UInt8) (h : sv s0 c i = (x.toNat : Int)) : svL s0 c (i + 1) = svL s0 c i ++ ⟨#[x]⟩ := by
  unfold svL
  rw [List.range_succ, List.map_append]
  exact str_snoc _ _ _ h
theorem svL_size (s0 : ByteArray) (c : List ByteArray) (i : Nat) : (svL s0 c i).size = i := by unfold svL; rw [strOfNums_size]; simp
theorem spec_in (n : Nat) (s0 : ByteArray) (c : List ByteArray) (i : Nat) (hi : i < n) (hn : n ≤ 8) (hc : c.length ≤ 1000) (h0 : s0.size = n) (hs : ∀ s, s ∈ c → s.size = n) (R : ByteArray × Bool)
    (ih : Ev (fun k => spec_SureCast.l0 k (n : Int) c (svL s0 c (i + 1)) ((i + 1 : Nat) : Int)) R) :
    ∀ d j, c.length - j = d → j ≤ c.length → df s0 (c.take j) i = false → Ev (fun k => spec_SureCast.l1 k (n : Int) c (svL s0 c i) (i : Int) (⟨#[s0[i]'(by omega)]⟩ : ByteArray) c (c.length : Int) (j : Int)) R := by
  have hw : wrap64 ((i : Int) + 1) = ((i + 1 : Nat) : Int) := by rw [w64 (by omega) (by omega)]; omega
  intro d
  induction d with
  | zero =>
    intro j hd hj hf
    obtain rfl : j = c.length := by omega
    rw [List.take_length] at hf
    rw [svL_snoc s0 c i (s0[i]'(by omega)) (by unfold sv; rw [if_neg (by rw [hf]; simp), bt_in s0 i (by omega)])] at ih
    refine Ev.step (fun k => ?_) ih
    rw [spec_SureCast.l1, if_neg (by omega), if_pos (by rw [svL_size, size1]; omega), hw]
  | succ d ihd =>
    intro j hd hj hf
    have hlt : j < c.length := by omega
    have hsz := hs c[j] (List.getElem_mem hlt)
    by_cases hb : bt c[j] (i : Int) = bt s0 (i : Int)
    · refine Ev.step (fun k => ?_) (ihd (j + 1) (by omega) (by omega) (by unfold df at hf ⊢; rw [List.take_succ_eq_append_getElem hlt, List.any_append, hf]; simp [hb]))
      rw [spec_SureCast.l1, if_pos (by omega), if_pos (by omega), if_pos (by omega), if_pos (by omega), rd_str c j hlt, hw, if_pos (by omega), if_pos (by omega), Int.toNat_natCast, Int.toNat_natCast, extract_one c[j] i (by omega), if_pos ((one_eq _ _).2 (by rw [← bt_in, ← bt_in]; exact hb)), w64 (n := (j : Int) + 1) (by omega) (by omega)]
      rfl
    · have hd1 : df s0 c i = true := List.any_eq_true.2 ⟨c[j], List.getElem_mem hlt, by simp [hb]⟩
      rw [svL_snoc s0 c i 63 (by unfold sv; rw [if_pos hd1]; rfl)] at ih
      refine Ev.step (fun k => ?_) ih
      rw [spec_SureCast.l1, if_pos (by omega), if_pos (by omega), if_pos (by omega), if_pos (by omega), rd_str c j hlt, hw, if_pos (by omega), if_pos (by omega), Int.toNat_natCast, Int.toNat_natCast, extract_one c[j] i (by omega), if_neg (fun hh => hb (by rw [bt_in _ i (by omega), bt_in _ i (by omega)]; exact (one_eq _ _).1 hh)), if_pos (by rw [svL_size]; omega)]
theorem spec_v (n : Int) (l : List S55) (hb : l.length ≤ 9223372036854775807) : Ev (fun k => spec_SureCast.f k n l) (sureV n l) := by
  unfold spec_SureCast.f sureV
  refine Ev.bind (liGood_ev n l hb) ?_
  by_cases h : areCl n l = true
  · obtain ⟨m, hm, h1, h2, h3, h4⟩ := areCl_of h
    refine ev_pos h ?_
    have hL := liAll_ev l m h2 h4 h3
    have hv := castsV_1 n l h
    rw [hm, Int.toNat_natCast, ← hm] at hv
    rw [← hm, ← hv] at hL
    refine Ev.bind hL ?_
    have hc := castsV_len n l
    have hmem := castsV_mem n l
    generalize (castsV n l).1 = c at hc hmem
    match c, hc, hmem with
    | [], _, _ => exact ev_pos rfl (Ev.now _)
    | s0 :: t, hc, hmem =>
      refine ev_neg (by simp only [List.length_cons]; omega) ?_
      obtain ⟨C, hC⟩ : ∃ C, C = s0 :: t := ⟨_, rfl⟩
      have e0 : rdOf ByteArray.empty C 0 = s0 := by rw [hC]; rfl
      have hpos : 0 < C.length := by rw [hC]; simp
      obtain ⟨_, g0, g1, _⟩ := hmem s0 (List.mem_cons_self ..)
      have hs : ∀ s, s ∈ C → s.size = s0.size := fun s hh => by
        obtain ⟨_, q0, q1, _⟩ := hmem s (by rw [← hC]; exact hh)
        omega
      show Ev _ (svL s0 (s0 :: t) s0.size, true)
      rw [← hC] at hc ⊢
      rw [show n = (s0.size : Int) by omega]
      have := ev_down s0.size (fun i k => spec_SureCast.l0 k (s0.size : Int) C (svL s0 C i) (i : Int)) (fun _ => (svL s0 C s0.size, true)) (Ev.step (f := fun _ => some (svL s0 C s0.size, true)) (fun k => by rw [spec_SureCast.l0, if_neg (by omega)]) (Ev.now _)) (fun i hi ih => ?_) 0 (Nat.zero_le _)
      · exact this
      · have hw : wrap64 ((i : Int) + 1) = ((i + 1 : Nat) : Int) := by rw [w64 (by omega) (by omega)]; omega
        refine Ev.step (fun k => ?_) (spec_in s0.size s0 C i hi g1 (by omega) rfl hs _ ih C.length 0 rfl (Nat.zero_le _) rfl)
        rw [spec_SureCast.l0, if_pos (by omega), if_pos (by omega), if_pos (by omega), e0, hw, if_pos (by omega), if_pos (by omega), Int.toNat_natCast, Int.toNat_natCast, extract_one s0 i hi]
        rfl
  · refine ev_neg h (ev_eq ?_ (Ev.now ((⟨#[]⟩ : ByteArray), false)))
    unfold castsV
    rw [if_neg h]
theorem FnExactSureCast : laws_FnExactSureCast.Pure := by
  intro a l _ hl _
  refine Ev.rounds ?_
  unfold laws_FnExactSureCast.f
  refine ev_call (szClaimS_val l hl) ?_
  by_cases hs : l.length ≤ 1048576
  · rw [if_pos hs]
    have hc : (l.map cvClaim).length ≤ 1048576 := by simpa using hs
    have hT := toClaimS_ev l hs
    refine ev_neg (by omega) (Ev.bind hT (Ev.bind (spec_v a _ (by omega)) (Ev.bind hT (Ev.bind (impl_v a _) (ev_pos rfl ?_)))))
    refine Ev.step (fun k => by simp only [laws_FnExactSureCast.j0]; rfl) ?_
    exact ev_neg (by simp) (Ev.bind hT (Ev.bind (eqClaimS_ev _ hc) (ev_pos rfl (Ev.now _))))
  · rw [if_neg hs]
    exact ev_pos (by omega) (Ev.now _)

end Go.Proofs.Ytidinhkaclaanaa.Pure
