/- Calls, letters of calls, comparisons, letters back. No conditions. -/
import Derived.Test.YtbpeknbhdphilaaL3
open Go Go.Am
namespace T
open Go.Proofs
set_option maxRecDepth 100000
set_option maxHeartbeats 4000000
set_option linter.unusedSimpArgs false
set_option linter.unusedVariables false
variable {base : Nat} {H : Heap}
theorem sz80 : tySize C.P 80 = some 2 := rfl
theorem ld80 {o T cs} : ld1 C.P 80 o (some (T, cs)) = if o + 2 ≤ cs.length then some (.agg ((cs.drop o).take 2).toArray) else none := ld_ag rfl sz80
@[go_sem] theorem ld80' {T} {x y : Value} : ld1 C.P 80 0 (some (T, [x, y])) = some (.agg #[x, y]) := by simp [ld80]
@[go_sem] theorem al80 {call : Nat → CallF} {base : Nat} {dr : Bool} {ρ : Env} {d : Option Tmp} {u : TypeId} {p : String} {e : Array Edge} {g : Option (Nat × Bool)} : evalOp C call base dr ⟨d, .alloc 80, u, p, e, g⟩ ρ H = some (.pointer (some ⟨H.length, 0, none⟩), H ++ [some (80, [gi 0, gi 0])]) := eo_alloc (z := .agg #[gi 0, gi 0]) rfl rfl
@[go_sem] theorem fa80_0 {b o} : fieldAddrA C.P 80 0 (.pointer (some ⟨b, o, none⟩)) = some (.pointer (some ⟨b, o, none⟩)) := rfl
@[go_sem] theorem fa80_1 {b o} : fieldAddrA C.P 80 1 (.pointer (some ⟨b, o, none⟩)) = some (.pointer (some ⟨b, o + 1, none⟩)) := rfl
theorem st80 {H : Heap} {x0 y0 : Value} {x y : Int} (hb : base ≤ H.length) : storeA C.P base (H ++ [some (80, [x0, y0])]) 80 (.agg #[gi x, gi y]) (.pointer (some ⟨H.length, 0, none⟩)) = some (H ++ [some (80, [gi x, gi y])]) := st_new hb rfl sz80 rfl
@[go_sem] theorem te46 : (tyElem C.P 46).isSome = true := rfl
theorem SC.el {s : Value} {L : List (Int × Int)} (h : SL H s L) {i : Nat} (hi : i < L.length) : ∃ b o T cs, indexAddrA C.P 46 s (gi i) = some (.pointer (some ⟨b, o, none⟩)) ∧ hget H b = some (T, cs) ∧ ld1 C.P 80 o (some (T, cs)) = some (lv L[i]) := by
  obtain ⟨b, o, T, cs, h1, h2, h3, h4, _⟩ := Shows.at (P := C.P) (t := 46) (el := 80) (K := .i64) h hi rfl rfl
  refine ⟨b, o, T, cs, h1, h2, ?_⟩
  rw [ld80, if_pos h3, h4, lc_take hi]; rfl
/-- Is this a call of n friends? -/
def isC (n : Int) (l : Int × Int) : Bool := decide (0 ≤ l.1) && decide (l.1 < l.2) && decide (l.2 < n)
theorem isCall_c {n : Int} {l : Int × Int} : cal C base 77 [gi n, lv l] H = some (bo (isC n l), H) := by
  refine cal_fn Try.func77 rfl rfl (res := [.tmp 4]) rfl Try.ntmps77 2 base _ H ?_
  obtain ⟨a, b⟩ := l
  cases h : decide (0 ≤ a) <;> cases h2 : decide (a < b) <;> simp only [go_sem, lv, h, h2, hget_0, Chb (show wrF 77 = false from rfl), isC]
theorem are76_c {n : Int} {l : Int × Int} {b : Nat} (hb : hget H b = some (3, [gi n])) : cal C base 76 [lv l, .pointer (some ⟨b, 0, none⟩)] H = some (bo (!isC n l), H) := by
  refine cal_fn Try.func76 rfl rfl (res := [.tmp 3]) rfl Try.ntmps76 2 base _ H ?_
  obtain ⟨x, y⟩ := l
  have e := isCall_c (base := H.length) (n := n) (l := (x, y)) (H := H ++ [some (80, [gi x, gi y])])
  rw [lv] at e
  simp only [go_sem, lv, hget_0, hget_old hb, e, show C.wr 76 = false from rfl, Chb (show wrF 76 = false from rfl)]
theorem caCall_c {n : Int} {l : Int × Int} (hn : areF n = true) : cal C base 78 [gi n, lv l] H = some (bo (isC n l), H) := by
  refine cal_fn Try.func78 rfl rfl (res := [.tmp 4]) rfl Try.ntmps78 2 base _ H ?_
  obtain ⟨a, b⟩ := l
  simp only [areF, Bool.and_eq_true, decide_eq_true_eq] at hn
  have hw : IntKind.i64.wrap (n - 1) = n - 1 := by rw [IntKind.wrap_i64]; omega
  cases h : decide (0 ≤ a) && decide (a ≤ n - 1)
  · have : isC n (a, b) = false := by
      rw [Bool.and_eq_false_iff, decide_eq_false_iff_not, decide_eq_false_iff_not] at h
      simp only [isC, Bool.and_eq_false_iff, decide_eq_false_iff_not]
      omega
    simp only [go_sem, lv, in_c, hw, h, hget_0, Chb (show wrF 78 = false from rfl), this]
  · rw [Bool.and_eq_true, decide_eq_true_eq, decide_eq_true_eq] at h
    have hw2 : IntKind.i64.wrap (a + 1) = a + 1 := by rw [IntKind.wrap_i64]; omega
    have : isC n (a, b) = (decide (a + 1 ≤ b) && decide (b ≤ n - 1)) := by
      rw [Bool.eq_iff_iff]
      simp only [isC, Bool.and_eq_true, decide_eq_true_eq]
      omega
    have h' : (decide (0 ≤ a) && decide (a ≤ n - 1)) = true := by rw [Bool.and_eq_true, decide_eq_true_eq, decide_eq_true_eq]; exact h
    simp only [go_sem, lv, in_c, hw, hw2, h', hget_0, Chb (show wrF 78 = false from rfl), this]
theorem indexC_c {s cap : Value} {g : FuncId} {L : List (Int × Int)} {p : Int × Int → Bool} (hs : SL H s L) (hL : L.length < 1000) (hp : ∀ l base, cal C base g [lv l, cap] H = some (bo (p l), H)) :
    cal C base 88 [s, .func (.func g) #[] #[cap]] H = some (gi (fx (L.findIdx? p)), H) := by
  refine cal_fn Try.func88 rfl rfl (res := [.tmp 4]) rfl Try.ntmps88 1001 base _ H ?_
  obtain ⟨a, c, rfl⟩ := hs.sl
  simp only [go_sem]
  rw [fin_loopk [9, 10, 5, 11, 12, 13, 14, 15, 16, 17, 4, 18] rfl]
  refine lp_run [8] (fun j vs H' => ∃ i : Nat, i + j = L.length ∧ vs = [gi i] ∧ (∀ k (h : k < L.length), k < i → p L[k] = false) ∧ H' = H) ?_ L.length [gi 0] (by omega) (by simp only [go_sem]) ⟨0, by omega, rfl, fun k _ h => absurd h (Nat.not_lt_zero _), rfl⟩
  rintro j m vs H' ⟨i, hij, rfl, hno, rfl⟩ ih
  cases hlt : decide ((i : Int) < (L.length : Int))
  · simp only [go_sem, hlt, Chb (show wrF 88 = false from rfl)]
    have : L.findIdx? p = none := by
      rw [List.findIdx?_eq_none_iff]
      intro x hx
      obtain ⟨k, hk, rfl⟩ := List.getElem_of_mem hx
      exact hno k hk (by have := of_decide_eq_false hlt; omega)
    rw [this]; rfl
  · have hi : i < L.length := by have := of_decide_eq_true hlt; omega
    obtain ⟨b, o, T, cs, h1, h2, h3⟩ := SC.el hs hi
    cases hpi : p L[i]
    · simp only [go_sem, hlt, h1, h2, h3, hp, hpi]
      rw [wrapN (by omega)]
      refine ih (j - 1) [gi (i + 1 : Nat)] _ _ (by omega) (by simp only [go_sem]) ⟨i + 1, by omega, rfl, fun k hk hki => ?_, rfl⟩
      by_cases e : k = i
      · subst e; exact hpi
      · exact hno k hk (by omega)
    · simp only [go_sem, hlt, h1, h2, h3, hp, hpi, Chb (show wrF 88 = false from rfl)]
      have : L.findIdx? p = some i := by
        rw [List.findIdx?_eq_some_iff_getElem]
        exact ⟨hi, hpi, fun k hk => by rw [hno k (by omega) hk]; decide⟩
      rw [this]; rfl
theorem contC_c {s cap : Value} {g : FuncId} {L : List (Int × Int)} {p : Int × Int → Bool} (hs : SL H s L) (hL : L.length < 1000) (hp : ∀ l base, cal C base g [lv l, cap] H = some (bo (p l), H)) :
    cal C base 75 [s, .func (.func g) #[] #[cap]] H = some (bo (L.any p), H) := by
  refine cal_fn Try.func75 rfl rfl (res := [.tmp 4]) rfl Try.ntmps75 1 base _ H ?_
  have : (L.any p) = decide (0 ≤ fx (L.findIdx? p)) := by
    cases h : L.findIdx? p with
    | none =>
      rw [List.findIdx?_eq_none_iff] at h
      have : L.any p = false := by rw [List.any_eq_false]; intro x hx; rw [h x hx]; decide
      rw [this]; rfl
    | some i =>
      obtain ⟨h1, h2, _⟩ := List.findIdx?_eq_some_iff_getElem.1 h
      have : L.any p = true := List.any_eq_true.2 ⟨_, List.getElem_mem h1, h2⟩
      rw [this]
      exact (decide_eq_true (Int.natCast_nonneg _)).symm
  simp only [go_sem, indexC_c hs hL hp, Chb (show wrF 75 = false from rfl), this]
/-- Are these calls of n friends? -/
def areC (n : Int) (L : List (Int × Int)) : Bool := areF n && decide (L.length ≤ 60) && L.all (isC n)
theorem areC_c {n : Int} {s : Value} {L : List (Int × Int)} (hs : SL H s L) (hL : L.length < 1000) : cal C base 53 [gi n, s] H = some (bo (areC n L), H) := by
  refine cal_fn Try.func53 rfl rfl (res := [.tmp 4]) rfl Try.ntmps53 1 base _ H ?_
  obtain ⟨a, c, rfl⟩ := hs.sl
  have h2 := hs.add [some (3, [gi n])]
  have h3 : L.any (fun l => !isC n l) = !L.all (isC n) := by rw [List.not_all_eq_any_not]
  have hcl : ((L.length : Int) ≤ 60) = (L.length ≤ 60) := by simp; omega
  cases h : areF n <;> cases hl : decide (L.length ≤ 60) <;>
    simp only [go_sem, areFriends_c, h, hget_0, hcl, hl, contC_c h2 hL (p := fun l => !isC n l) (fun l base => are76_c hget_0), h3, Chb (show wrF 53 = false from rfl), show C.wr 53 = false from rfl, areC, Bool.not_not]
theorem caGood_c {n : Int} {s : Value} {L : List (Int × Int)} (hs : SL H s L) (hL : L.length < 1000) : cal C base 54 [gi n, s] H = some (bo (areC n L), H) := by
  refine cal_fn Try.func54 rfl rfl (res := [.tmp 4]) rfl Try.ntmps54 1001 base _ H ?_
  obtain ⟨a, c, rfl⟩ := hs.sl
  have hcl : ((60 : Int) < (L.length : Int)) = (60 < L.length) := by simp; omega
  cases h : areF n
  · simp only [go_sem, caFriends_c, h, show C.wr 54 = false from rfl, Chb (show wrF 54 = false from rfl), areC]
  cases hl : decide (60 < L.length)
  · simp only [go_sem, caFriends_c, h, hcl, hl, show C.wr 54 = false from rfl]
    rw [fin_loopk [18, 19, 20, 6, 21, 22, 23, 24, 4, 25] rfl]
    refine lp_run [17] (fun j vs H' => ∃ i : Nat, i + j = L.length ∧ vs = [gi i] ∧ (∀ k (h : k < L.length), k < i → isC n L[k] = true) ∧ Keeps H.length H H') ?_ L.length [gi 0] (by omega) (by simp only [go_sem]) ⟨0, by omega, rfl, fun k _ h => absurd h (Nat.not_lt_zero _), .refl _ _⟩
    have hl2 : L.length ≤ 60 := by have := of_decide_eq_false hl; omega
    rintro j m vs H' ⟨i, hij, rfl, hno, hk⟩ ih
    cases hlt : decide ((i : Int) < (L.length : Int))
    · simp only [go_sem, hlt, Chb (show wrF 54 = false from rfl), take_keeps hk]
      have : L.all (isC n) = true := by
        rw [List.all_eq_true]
        intro x hx
        obtain ⟨k, hk, rfl⟩ := List.getElem_of_mem hx
        exact hno k hk (by have := of_decide_eq_false hlt; omega)
      rw [areC, h, this, decide_eq_true hl2]; rfl
    · have hi : i < L.length := by have := of_decide_eq_true hlt; omega
      obtain ⟨b, o, T, cs, h1, h2, h3⟩ := SC.el (hs.keep hk) hi
      have hk2 : Keeps H.length H (H' ++ [some (80, [gi L[i].1, gi L[i].2])]) := hk.trans (.append hk.1 _)
      have h4 := caCall_c (base := H.length) (n := n) (l := L[i]) h (H := H' ++ [some (80, [gi L[i].1, gi L[i].2])])
      rw [lv] at h3 h4
      cases hpi : isC n L[i]
      · simp only [go_sem, hlt, h1, h2, h3, st80 hk.1, hget_0, h4, hpi, Chb (show wrF 54 = false from rfl), take_keeps hk2]
        have : L.all (isC n) = false := by
          rw [List.all_eq_false]; exact ⟨_, List.getElem_mem hi, by rw [hpi]; decide⟩
        rw [areC, this, Bool.and_false]
      · simp only [go_sem, hlt, h1, h2, h3, st80 hk.1, hget_0, h4, hpi]
        rw [wrapN (by omega)]
        refine ih (j - 1) [gi (i + 1 : Nat)] _ _ (by omega) (by simp only [go_sem]) ⟨i + 1, by omega, rfl, fun k hk hki => ?_, hk2⟩
        by_cases e : k = i
        · subst e; exact hpi
        · exact hno k hk (by omega)
  · simp only [go_sem, caFriends_c, h, hcl, hl, show C.wr 54 = false from rfl, Chb (show wrF 54 = false from rfl)]
    have : decide (L.length ≤ 60) = false := decide_eq_false (by have := of_decide_eq_true hl; omega)
    rw [areC, this, Bool.and_false, Bool.false_and]
end T

open Go Go.Am
namespace T
open Go.Proofs
set_option maxRecDepth 100000
set_option maxHeartbeats 4000000
set_option linter.unusedSimpArgs false
set_option linter.unusedVariables false
variable {base : Nat} {H : Heap}
def stepC (B : List Nat) (l : Nat × Nat) : List Nat := (B.set l.1 (B.getD l.1 0 ||| B.getD l.2 0)).set l.2 (B.getD l.1 0 ||| B.getD l.2 0)
def playC (n : Nat) (M : List (Nat × Nat)) : List Nat := M.foldl stepC (sN n)
theorem playC_snoc (n : Nat) (M : List (Nat × Nat)) {i : Nat} (h : i < M.length) : playC n (M.take (i + 1)) = stepC (playC n (M.take i)) M[i] := by
  unfold playC
  rw [List.take_succ_eq_append_getElem h, List.foldl_append]; rfl
theorem playC_ok {n : Nat} (hn : n ≤ 10) (M : List (Nat × Nat)) : (playC n M).length = n ∧ ∀ x ∈ playC n M, x < 2 ^ n := by
  have key : ∀ (M : List (Nat × Nat)) (B : List Nat), B.length = n → (∀ x ∈ B, x < 2 ^ n) → (M.foldl stepC B).length = n ∧ ∀ x ∈ M.foldl stepC B, x < 2 ^ n := by
    intro M
    induction M with
    | nil => intro B h1 h2; exact ⟨h1, h2⟩
    | cons l M ih =>
      intro B h1 h2
      refine ih _ (by simp [stepC, h1]) fun x hx => ?_
      have hg : ∀ i, B.getD i 0 < 2 ^ n := fun i => by
        rw [List.getD_eq_getElem?_getD]
        cases h : B[i]? with
        | none => exact Nat.two_pow_pos n
        | some y => exact h2 y (List.mem_of_getElem? h)
      rcases List.mem_or_eq_of_mem_set hx with h | rfl
      · rcases List.mem_or_eq_of_mem_set h with h | rfl
        · exact h2 x h
        · exact Nat.or_lt_two_pow (hg _) (hg _)
      · exact Nat.or_lt_two_pow (hg _) (hg _)
  refine key M (sN n) (by simp [sN]) fun x hx => ?_
  obtain ⟨i, hi, rfl⟩ := List.mem_map.1 hx
  exact Nat.pow_lt_pow_right (by decide) (List.mem_range.1 hi)
theorem plC16 {n : Nat} (hn : n ≤ 10) {M : List (Nat × Nat)} : ∀ x ∈ playC n M, x < 65536 := fun x hx => Nat.lt_of_lt_of_le ((playC_ok hn M).2 x hx) (Nat.le_trans (Nat.pow_le_pow_right (by decide) hn) (by decide))
theorem run1_fin {C : Cfg} {call : Nat → CallF} {n base m : Nat} {f : FuncId} {res : List ResultVar} {s : St} : run1 C call n base f m res s = run1 C call n base f m res (fin C call n base [] s) := rfl
theorem meet_c {b n : Nat} {B : List Nat} {l : Nat × Nat} (hb : base ≤ b) (hg : hget H b = some (62, nu B)) (hl : B.length = n) (hx : l.1 < n) (hy : l.2 < n) (hB : ∀ x ∈ B, x < 2 ^ n) (hn : n ≤ 10) :
    Ok (cal C base 79 [.slice (some ⟨b, 0, some 1⟩) n n, lv (l.1, l.2)] H) fun v H' => v = .tuple #[] ∧ Keeps base H H' ∧ hget H' b = some (62, nu (stepC B l)) ∧ H.length ≤ H'.length := by
  refine ok_fn Try.func79 rfl rfl (res := []) rfl Try.ntmps79 1 base _ H ?_
  obtain ⟨x, y⟩ := l
  simp only [] at hx hy
  have ix : ∀ z : Nat, z < n → indexAddrA C.P 52 (.slice (some ⟨b, 0, some 1⟩) n n) (gi z) = some (.pointer (some ⟨b, z, none⟩)) := fun z hz => by
    rw [ia_at (show tyElem C.P 52 = some 62 from rfl) (show tySize C.P 62 = some 1 from rfl) hz]; simp
  have hbl := hget_lt hg
  have hg' := hget_old hg [some (80, [gi x, gi y])]
  have gx := nu_get B (i := x) (by omega)
  have gy := nu_get B (i := y) (by omega)
  generalize hq : B.getD x 0 ||| B.getD y 0 = q
  have hst := st_at (P := C.P) (base := base) (t := 62) (o := x) (v := .int .u16 ((q : Nat) : Int)) hb hg' rfl rfl (by show x + 1 ≤ _; simp [nu]; omega)
  rw [show setAll (nu B) x (Value.int .u16 ((q : Nat) : Int)).cells.toList = nu (B.set x q) from nu_set _ _ _] at hst
  have hg2 : hget ((H ++ [some (80, [gi x, gi y])]).set b (some (62, nu (B.set x q)))) b = some (62, nu (B.set x q)) := by
    unfold hget; rw [List.getElem?_set_self (by simp; omega)]; rfl
  have hst2 := st_at (P := C.P) (base := base) (t := 62) (o := y) (v := .int .u16 ((q : Nat) : Int)) hb hg2 rfl rfl (by show y + 1 ≤ _; simp [nu]; omega)
  rw [show setAll (nu (B.set x q)) y (Value.int .u16 ((q : Nat) : Int)).cells.toList = nu ((B.set x q).set y q) from nu_set _ _ _] at hst2
  simp only [go_sem, lv, show C.wr 79 = true from rfl]
  rw [fin_regd]; rotate_left; · decide +kernel
  simp only [go_sem, hget_0, ix _ hx, ix _ hy, hg', gx, gy, bor16 (getD_lt hB hn _) (getD_lt hB hn _), hq]
  rw [run1_fin, fin_regl (ps := [(20, 24)])]
  rotate_left; · decide +kernel
  simp only [go_sem, hget_0, ix _ hx, ix _ hy, hst, hst2, decide_eq_true (show H.length + 1 ≠ b by omega), decide_eq_true (show H.length ≠ b by omega), Bool.and_true, Chr (show (rawF 79 || wrF 79) = true from rfl)]
  refine .some ⟨rfl, ?_, ?_, by simp⟩
  · rw [List.set_set]
    exact (Keeps.append (by omega) _).trans (.set hb _)
  · unfold hget
    rw [List.getElem?_set_self (by simp; omega)]
    unfold stepC
    rw [hq]; rfl
theorem after_c {n : Nat} (hn : n ≤ 10) {s : Value} {M : List (Nat × Nat)} (hs : SL H s (toZ M)) (hM : M.length < 1000) (hr : ∀ l ∈ M, l.1 < n ∧ l.2 < n) : Ok (cal C base 55 [gi n, s] H) fun s H' => ∃ F, H' = H ++ F ∧ OwnL H.length H' 62 1 s n (nu (playC n M)) := by
  refine ok_fn Try.func55 rfl rfl (res := [.tmp 4]) rfl Try.ntmps55 1001 base _ H ?_
  have hZ : (toZ M).length = M.length := by simp [toZ]
  rw [SL, hZ] at hs
  obtain ⟨a, c, rfl⟩ := hs.sl
  obtain ⟨v, H1, e1, F1, rfl, ho⟩ := first_c n hn H H.length
  simp only [go_sem, show C.wr 55 = false from rfl, e1]
  rw [fin_loopk [13, 14, 15, 7, 16, 17, 18, 19] rfl]
  refine lp_ok [12] (fun j vs H' => ∃ (i : Nat), i + j = M.length ∧ vs = [gi i] ∧ OwnL H.length H' 62 1 v n (nu (playC n (M.take i))) ∧ Keeps H.length H H') M.length [gi 0] ?_ (by omega) (by simp only [go_sem]) ⟨0, by omega, rfl, ho, .append (Nat.le_refl _) _⟩
  rintro j m vs H' ⟨i, hij, rfl, ho, hk⟩ ih
  have hP := playC_ok hn (M.take i)
  cases hlt : decide ((i : Int) < (M.length : Int))
  · obtain rfl : i = M.length := by have := of_decide_eq_false hlt; omega
    rw [List.take_length] at ho hP
    obtain ⟨s', F, old, e, ho'⟩ := ho.hand (P := C.P) (acc := H) (l := []) (show tySize C.P 62 = some 1 from rfl) (by simp [isG, sc, nu])
    simp only [go_sem, hlt, Chb (show wrF 55 = false from rfl), take_keeps hk, e]
    exact .some ⟨F, rfl, ho'⟩
  · have hi : i < M.length := by have := of_decide_eq_true hlt; omega
    obtain ⟨hx, hy⟩ := hr M[i] (List.getElem_mem hi)
    have hZi : (toZ M)[i]'(by rw [hZ]; exact hi) = (((M[i].1 : Nat) : Int), ((M[i].2 : Nat) : Int)) := by simp [toZ]
    have hs' : SL H' (.slice a M.length c) (toZ M) := by rw [SL, hZ]; exact hs.keep hk
    obtain ⟨b, o, T, cs, h1, h2, h3⟩ := SC.el hs' (i := i) (by rw [hZ]; exact hi)
    rw [hZi, lv] at h3
    obtain ⟨h0, ⟨_, rfl, _⟩ | ⟨b0, hb0, rfl, hg⟩⟩ := ho
    · omega
    have hg' := hget_old hg [some (80, [gi (M[i].1 : Nat), gi (M[i].2 : Nat)])]
    obtain ⟨v, H2, e2, rfl, k1, k2, k3⟩ := meet_c (base := H.length) (l := M[i]) hb0 hg' hP.1 hx hy hP.2 hn
    rw [lv] at e2
    simp only [go_sem, hlt, h1, h2, h3, st80 hk.1, hget_0, e2]
    rw [wrapN (by omega)]
    refine ih (j - 1) [gi (i + 1 : Nat)] _ _ (by omega) (by simp only [go_sem]) ⟨i + 1, by omega, rfl, ⟨by simp [nu, (playC_ok hn (M.take (i + 1))).1], .inr ⟨b0, hb0, rfl, by rw [k2, playC_snoc n M hi]⟩⟩, (hk.trans (.append hk.1 _)).trans k1⟩
theorem afterNo_c {n : Int} {s : Value} {L : List (Int × Int)} (hs : SL H s L) (hL : L.length < 1000) (h : areC n L = false) : cal C base 29 [gi n, s] H = some (.tuple #[.slice none 0 0, bo false], H) := by
  refine cal_fn Try.func29 rfl rfl (res := [.tmp 4, .tmp 5]) rfl Try.ntmps29 1 base _ H ?_
  simp only [go_sem, areC_c hs hL, h, Chr (show (rawF 29 || wrF 29) = true from rfl)]
theorem knownAfter_c {n : Nat} {s : Value} {M : List (Nat × Nat)} (hs : SL H s (toZ M)) (hM : M.length < 1000) (hn : n ≤ 10) (hr : ∀ l ∈ M, l.1 < n ∧ l.2 < n) (h : areC n (toZ M) = true) :
    Ok (cal C base 29 [gi n, s] H) fun v H' => Keeps H.length H H' ∧ ∃ t, v = .tuple #[t, bo true] ∧ RowsL H.length H' t ((playC n M).map bitsOf) := by
  refine ok_fn Try.func29 rfl rfl (res := [.tmp 4, .tmp 5]) rfl Try.ntmps29 1 base _ H ?_
  have hZ : (toZ M).length = M.length := by simp [toZ]
  obtain ⟨v, H1, e1, F, rfl, ho⟩ := after_c (base := H.length) hn hs hM hr
  have hl := (playC_ok hn M).1
  have hsh : Shows (H ++ F) 1 v (playC n M).length (nu (playC n M)) := by rw [hl]; exact ho.shows
  obtain ⟨t, H2, e2, hk, hR⟩ := lists_c (base := H.length) hsh (by omega) (plC16 hn)
  simp only [go_sem, show C.wr 29 = false from rfl, areC_c hs (by rw [hZ]; exact hM), h, e1, e2, Chr (show (rawF 29 || wrF 29) = true from rfl)]
  refine .some ⟨(Keeps.append (Nat.le_refl _) F).trans (hk.mono (by simp)), t, rfl, ?_⟩
  obtain ⟨cs, h1, h2⟩ := hR
  exact ⟨cs, h1.low (by simp), fun i r hr => by obtain ⟨v, k1, k2⟩ := h2 i r hr; exact ⟨v, k1, k2.low (by simp)⟩⟩
end T

open Go Go.Am
namespace T
set_option maxRecDepth 100000
set_option maxHeartbeats 4000000
set_option linter.unusedSimpArgs false
set_option linter.unusedVariables false
open Go.Proofs
variable {base : Nat} {H : Heap}
theorem prun_int (P : Program) {t : TypeId} {k K : IntKind} (h : P.underlying t = some (.int k)) (d : Nat) (a b : Int) : prun P (Op.equalIn (d + 1) t (.int K a) (.int K b)) = some (a == b) := by
  rw [Op.equalIn.eq_def]
  simp only
  rw [prun_bind, prun_under h, Option.bind_some]
  simp only [if_true]
  rfl
theorem u66 : C.P.underlying 66 = some (.struct #[⟨ "From", 3, 0, false, "", "", 0⟩, ⟨ "To", 3, 1, false, "", "", 8⟩]) := rfl
theorem u3 : C.P.underlying 3 = some (.int .i64) := rfl
theorem prun_eq66 (a b c d : Int) : prun C.P (Op.equal 66 (.agg #[gi a, gi b]) (.agg #[gi c, gi d])) = some ((a == c) && (b == d)) := by
  show prun C.P (Op.equalIn (9998 + 1 + 1) 66 (.agg #[gi a, gi b]) (.agg #[gi c, gi d])) = _
  rw [Op.equalIn.eq_def]
  simp only
  rw [prun_bind, prun_under u66, Option.bind_some]
  have p0 : ∀ (x y : Int), prun C.P (part 3 #[gi x, gi y] 0) = some (gi x) := fun x y => rfl
  have p1 : ∀ (x y : Int), prun C.P (part 3 #[gi x, gi y] 1) = some (gi y) := fun x y => rfl
  have hs : C.P.stoodInHeld 66 = false := by decide +kernel
  have hp : prun C.P program = some C.P := rfl
  simp only [prun_bind, hp, Option.bind_some, hs]
  rw [if_neg (by decide), ← Array.forIn_toList]
  have e0 : ∀ (x y : Int), prun C.P (Op.equalIn 9999 3 (gi x) (gi y)) = some (x == y) := fun x y => prun_int C.P u3 9998 x y
  have n1 : ("From" : String) ≠ "_" := by decide
  have n2 : ("To" : String) ≠ "_" := by decide
  have hpu : ∀ {α : Type} (x : α), prun C.P (pure x) = some x := fun x => rfl
  simp only [List.forIn_cons, List.forIn_nil, bind_assoc, if_pos n1, if_pos n2]
  cases h1 : a == c <;> cases h2 : b == d <;> simp only [prun_bind, p0, p1, e0, h1, h2, Option.bind_some, Bool.not_true, Bool.not_false, Bool.false_eq_true, if_true, if_false, hpu, Bool.and_true, Bool.and_false]
theorem eo_ne66 {call : Nat → CallF} {base : Nat} {dr : Bool} {ρ : Env} {d : Option Tmp} {u u' : TypeId} {p : String} {e : Array Edge} {g : Option (Nat × Bool)} {x y : Operand} {l l' : Int × Int} (hx : ev ρ x = lv l) (hy : ev ρ y = lv l') :
    evalOp C call base dr ⟨d, .binOp .neq 66 x y u, u', p, e, g⟩ ρ H = some (bo (l != l'), H) := by
  show valH H (binA C.P ρ _ .neq (ev ρ x) (ev ρ y)) = _
  rw [hx, hy]
  show valH H (groundA C.P ρ ⟨d, .binOp .neq 66 x y u, u', p, e, g⟩) = _
  obtain ⟨a, b⟩ := l
  obtain ⟨a', b'⟩ := l'
  have hG : (Op.binOp .neq 66 x y u).operands.toList.all (fun z => isG (ev ρ z)) = true := by
    show ([x, y] : List Operand).all _ = true
    simp [hx, hy, isG, sc, lv]
  have hg : prun C.P (eqGuard .neq 66 x y (lv (a, b)) (lv (a', b'))) = some () := by
    have hq : C.P.eqGuardType C.P.depth 66 = false := by decide +kernel
    have hp : prun C.P program = some C.P := rfl
    unfold eqGuard
    simp only [lv, Bool.not_true, Bool.false_eq_true, if_false, prun_bind, hp, Option.bind_some, hq, Bool.not_false, if_true]
    rfl
  have hr : prun C.P (execOp (ev ρ) ⟨d, .binOp .neq 66 x y u, u', p, e, g⟩) = some (.value (bo ((a, b) != (a', b')))) := by
    simp only [execOp]
    rw [hx, hy]
    have h2 : prun C.P (binOp .neq 66 (lv (a, b)) (lv (a', b'))) = some (bo ((a, b) != (a', b'))) := by
      show prun C.P (do pure (.bool (!(← Op.equal 66 (lv (a, b)) (lv (a', b'))))) : Sem Value) = _
      rw [prun_bind]
      simp only [lv, prun_eq66, Option.bind_some]
      show some (Value.bool (!(a == a' && b == b'))) = _
      rfl
    have h3 : prun C.P (do eqGuard .neq 66 x y (lv (a, b)) (lv (a', b')); binOp .neq 66 (lv (a, b)) (lv (a', b'))) = some (bo ((a, b) != (a', b'))) := by
      rw [prun_bind, hg, Option.bind_some, h2]
    first
      | rw [prun_map, h3]; rfl
      | (rw [prun_bind, h3]; rfl)
  unfold groundA
  rw [if_pos hG, hr]
  rfl
theorem ne66_b {ρ : Env} {d : Option Tmp} {u u' : TypeId} {p : String} {e : Array Edge} {g : Option (Nat × Bool)} {i j : Tmp} {l l' : Int × Int} (hx : ρ.getD i undef = lv l) (hy : ρ.getD j undef = lv l') : bin2 C.P ρ ⟨d, .binOp .neq 66 (.tmp i) (.tmp j) u, u', p, e, g⟩ H .neq (lv l) (lv l') = some (bo (l != l'), H) := by
  have := eo_ne66 (call := cal C) (base := 0) (dr := false) (H := H) (d := d) (u := u) (u' := u') (p := p) (e := e) (g := g) (x := .tmp i) (y := .tmp j) hx hy
  rw [eo_bin] at this
  simp only [ev_tmp, hx, hy] at this
  exact this
theorem wSame_c {s1 s2 : Value} {B1 B2 : List Nat} (h1 : Shows H 1 s1 B1.length (ni B1)) (h2 : Shows H 1 s2 B2.length (ni B2)) (hB : B1.length < 1000) (q : Bool) (hq : q = (B1 == B2)) : cal C base 19 [s1, s2] H = some (bo q, H) := by
  refine cal_fn Try.func19 rfl rfl (res := [.tmp 4]) rfl Try.ntmps19 1001 base _ H ?_
  obtain ⟨a, c, rfl⟩ := h1.sl
  obtain ⟨a2, c2, rfl⟩ := h2.sl
  cases hl : B1.length != B2.length
  · simp only [go_sem, show C.wr 19 = false from rfl, eqlen, hl]
    have hle : B1.length = B2.length := by simpa using hl
    rw [fin_loopk [14, 15, 5, 16, 17, 18, 19, 20, 21, 22, 23, 24, 4, 25] rfl]
    refine lp_run [13] (fun j vs H' => ∃ i : Nat, i + j = B1.length ∧ vs = [gi i] ∧ (∀ k (h : k < B1.length), k < i → B1[k] = B2[k]'(by omega)) ∧ H' = H) ?_ B1.length [gi 0] (by omega) (by simp only [go_sem]) ⟨0, by omega, rfl, fun k _ h => absurd h (Nat.not_lt_zero _), rfl⟩
    rintro j m vs H' ⟨i, hij, rfl, hno, rfl⟩ ih
    cases hlt : decide ((i : Int) < (B1.length : Int))
    · have : q = true := by
        rw [hq, beq_iff_eq]
        exact List.ext_getElem hle fun k hk1 hk2 => hno k hk1 (by have := of_decide_eq_false hlt; omega)
      simp only [go_sem, hlt, Chb (show wrF 19 = false from rfl), this]
    · have hi : i < B1.length := by have := of_decide_eq_true hlt; omega
      obtain ⟨b, o, T, cs, k1, k2, k3⟩ := ElI h1 hi
      obtain ⟨b', o', T', cs', k1', k2', k3'⟩ := ElI h2 (hle ▸ hi)
      have hg1 : B1.getD i 0 = B1[i] := by simp [hi]
      have hg2 : B2.getD i 0 = B2[i]'(by omega) := by simp [show i < B2.length by omega]
      rw [hg1] at k3
      rw [hg2] at k3'
      cases hpi : B1[i] != B2[i]'(by omega)
      · simp only [go_sem, hlt]
        rw [fin_regd]; rotate_left; · decide +kernel
        simp only [go_sem, k1, k2, k3, k1', k2', k3', eqlen, hpi]
        rw [wrapN (by omega)]
        refine ih (j - 1) [gi (i + 1 : Nat)] _ _ (by omega) (by simp only [go_sem]) ⟨i + 1, by omega, rfl, fun k hk hki => ?_, rfl⟩
        by_cases e : k = i
        · subst e; exact bne_eq_false_iff_eq.1 hpi
        · exact hno k hk (by omega)
      · have : q = false := by
          rw [hq, beq_eq_false_iff_ne]
          intro e
          have hne := bne_iff_ne.1 hpi
          apply hne
          simp [e]
        simp only [go_sem, hlt]
        rw [fin_regd]; rotate_left; · decide +kernel
        simp only [go_sem, k1, k2, k3, k1', k2', k3', eqlen, hpi, Chb (show wrF 19 = false from rfl), this]
  · have : q = false := by
      rw [hq, beq_eq_false_iff_ne]
      intro e
      rw [e] at hl
      simp at hl
    simp only [go_sem, show C.wr 19 = false from rfl, eqlen, hl, Chb (show wrF 19 = false from rfl), this]
end T

open Go Go.Am
namespace T
open Go.Proofs
set_option maxRecDepth 100000
set_option maxHeartbeats 4000000
set_option linter.unusedSimpArgs false
set_option linter.unusedVariables false
variable {base : Nat} {H : Heap}
theorem wLetters_c {s1 s2 : Value} {B1 B2 : List (Int × Int)} (h1 : SL H s1 B1) (h2 : SL H s2 B2) (hB : B1.length < 1000) (q : Bool) (hq : q = (B1 == B2)) : cal C base 20 [s1, s2] H = some (bo q, H) := by
  refine cal_fn Try.func20 rfl rfl (res := [.tmp 4]) rfl Try.ntmps20 1001 base _ H ?_
  obtain ⟨a, c, rfl⟩ := h1.sl
  obtain ⟨a2, c2, rfl⟩ := h2.sl
  cases hl : B1.length != B2.length
  · simp only [go_sem, show C.wr 20 = false from rfl, eqlen, hl]
    have hle : B1.length = B2.length := by simpa using hl
    rw [fin_loopk [14, 15, 5, 16, 17, 18, 19, 20, 21, 22, 23, 24, 4, 25] rfl]
    refine lp_run [13] (fun j vs H' => ∃ i : Nat, i + j = B1.length ∧ vs = [gi i] ∧ (∀ k (h : k < B1.length), k < i → B1[k] = B2[k]'(by omega)) ∧ H' = H) ?_ B1.length [gi 0] (by omega) (by simp only [go_sem]) ⟨0, by omega, rfl, fun k _ h => absurd h (Nat.not_lt_zero _), rfl⟩
    rintro j m vs H' ⟨i, hij, rfl, hno, rfl⟩ ih
    cases hlt : decide ((i : Int) < (B1.length : Int))
    · have : q = true := by
        rw [hq, beq_iff_eq]
        exact List.ext_getElem hle fun k hk1 hk2 => hno k hk1 (by have := of_decide_eq_false hlt; omega)
      simp only [go_sem, hlt, Chb (show wrF 20 = false from rfl), this]
    · have hi : i < B1.length := by have := of_decide_eq_true hlt; omega
      obtain ⟨b, o, T, cs, k1, k2, k3⟩ := SL.el h1 hi
      obtain ⟨b', o', T', cs', k1', k2', k3'⟩ := SL.el h2 (i := i) (by omega)
      cases hpi : B1[i] != B2[i]'(by omega)
      · simp only [go_sem, hlt]
        rw [fin_regd]; rotate_left; · decide +kernel
        simp only [go_sem, k1, k2, k3, k1', k2', k3']
        rw [ne66_b (l := B1[i]) (l' := B2[i]'(by omega)) rfl rfl, hpi]
        simp only [go_sem]
        rw [wrapN (by omega)]
        refine ih (j - 1) [gi (i + 1 : Nat)] _ _ (by omega) (by simp only [go_sem]) ⟨i + 1, by omega, rfl, fun k hk hki => ?_, rfl⟩
        by_cases e : k = i
        · subst e; exact bne_eq_false_iff_eq.1 hpi
        · exact hno k hk (by omega)
      · have : q = false := by
          rw [hq, beq_eq_false_iff_ne]
          intro e
          have hne := bne_iff_ne.1 hpi
          apply hne
          simp [e]
        simp only [go_sem, hlt]
        rw [fin_regd]; rotate_left; · decide +kernel
        simp only [go_sem, k1, k2, k3, k1', k2', k3']
        rw [ne66_b (l := B1[i]) (l' := B2[i]'(by omega)) rfl rfl, hpi]
        simp only [go_sem, Chb (show wrF 20 = false from rfl), this]
  · have : q = false := by
      rw [hq, beq_eq_false_iff_ne]
      intro e
      rw [e] at hl
      simp at hl
    simp only [go_sem, show C.wr 20 = false from rfl, eqlen, hl, Chb (show wrF 20 = false from rfl), this]
@[go_sem] theorem ld34 {o T cs} : ld1 C.P 34 o (some (T, cs)) = cs[o]? := ld_sc rfl
@[go_sem] theorem te27 : (tyElem C.P 27).isSome = true := rfl
/-- What a list of lists shows. -/
def RowsS (H : Heap) (s : Value) (LL : List (List Nat)) : Prop :=
  ∃ cs, Shows H 1 s LL.length cs ∧ ∀ (i : Nat) (h : i < LL.length), ∃ v, cs[i]? = some v ∧ Shows H 1 v LL[i].length (ni LL[i])
theorem RowsL.shows {k : Nat} {s : Value} {LL : List (List Nat)} (h : RowsL k H s LL) : RowsS H s LL := by
  obtain ⟨cs, h1, h2⟩ := h
  refine ⟨cs, h1.shows, fun i hi => ?_⟩
  obtain ⟨v, k1, k2⟩ := h2 i LL[i] (List.getElem?_eq_getElem hi)
  exact ⟨v, k1, k2.shows⟩
theorem RowsS.keep {H' : Heap} {s : Value} {LL : List (List Nat)} (h : RowsS H s LL) (hk : Keeps H.length H H') : RowsS H' s LL := by
  obtain ⟨cs, h1, h2⟩ := h
  exact ⟨cs, h1.keep hk, fun i hi => by obtain ⟨v, k1, k2⟩ := h2 i hi; exact ⟨v, k1, k2.keep hk⟩⟩
theorem RowsS.nil : RowsS H (.slice none 0 0) [] := ⟨[], .inl ⟨rfl, rfl, rfl⟩, fun i h => absurd h (Nat.not_lt_zero _)⟩
theorem RowsS.el {s : Value} {LL : List (List Nat)} (h : RowsS H s LL) {i : Nat} (hi : i < LL.length) : ∃ b o T cs v, indexAddrA C.P 27 s (gi i) = some (.pointer (some ⟨b, o, none⟩)) ∧ hget H b = some (T, cs) ∧ cs[o]? = some v ∧ Shows H 1 v LL[i].length (ni LL[i]) := by
  obtain ⟨cs, h1, h2⟩ := h
  obtain ⟨v, k1, k2⟩ := h2 i hi
  obtain ⟨b, o, T, cs0, h3, h4, _, _, h5⟩ := Shows.at (P := C.P) (t := 27) (el := 34) (K := .i64) h1 hi rfl rfl
  refine ⟨b, o, T, cs0, v, h3, h4, ?_, k2⟩
  have := h5 0 (by decide)
  rw [Nat.add_zero, Nat.mul_one, Nat.add_zero] at this
  exact this.trans k1
theorem wRows_c {s1 s2 : Value} {B1 B2 : List (List Nat)} (h1 : RowsS H s1 B1) (h2 : RowsS H s2 B2) (hB : B1.length < 1000) (hBB : ∀ r ∈ B1, r.length < 1000) (q : Bool) (hq : q = (B1 == B2)) : cal C base 18 [s1, s2] H = some (bo q, H) := by
  refine cal_fn Try.func18 rfl rfl (res := [.tmp 4]) rfl Try.ntmps18 1001 base _ H ?_
  obtain ⟨a, c, rfl⟩ := h1.choose_spec.1.sl
  obtain ⟨a2, c2, rfl⟩ := h2.choose_spec.1.sl
  cases hl : B1.length != B2.length
  · simp only [go_sem, show C.wr 18 = false from rfl, eqlen, hl]
    have hle : B1.length = B2.length := by simpa using hl
    rw [fin_loopk [14, 15, 5, 16, 17, 18, 19, 20, 21, 22, 23, 24, 25, 4, 26] rfl]
    refine lp_run [13] (fun j vs H' => ∃ i : Nat, i + j = B1.length ∧ vs = [gi i] ∧ (∀ k (h : k < B1.length), k < i → B1[k] = B2[k]'(by omega)) ∧ H' = H) ?_ B1.length [gi 0] (by omega) (by simp only [go_sem]) ⟨0, by omega, rfl, fun k _ h => absurd h (Nat.not_lt_zero _), rfl⟩
    rintro j m vs H' ⟨i, hij, rfl, hno, rfl⟩ ih
    cases hlt : decide ((i : Int) < (B1.length : Int))
    · have : q = true := by
        rw [hq, beq_iff_eq]
        exact List.ext_getElem hle fun k hk1 hk2 => hno k hk1 (by have := of_decide_eq_false hlt; omega)
      simp only [go_sem, hlt, Chb (show wrF 18 = false from rfl), this]
    · have hi : i < B1.length := by have := of_decide_eq_true hlt; omega
      obtain ⟨b, o, T, cs, v, k1, k2, k3, k4⟩ := h1.el hi
      obtain ⟨b', o', T', cs', v', k1', k2', k3', k4'⟩ := h2.el (i := i) (by omega)
      have e5 := wSame_c (base := H'.length) k4 k4' (hBB _ (List.getElem_mem hi)) _ rfl
      cases hpi : B1[i] == B2[i]'(by omega)
      · rw [hpi] at e5
        have : q = false := by
          rw [hq, beq_eq_false_iff_ne]
          intro e
          have hne := beq_eq_false_iff_ne.1 hpi
          apply hne
          simp [e]
        simp only [go_sem, hlt]
        rw [fin_regd]; rotate_left; · decide +kernel
        simp only [go_sem, k1, k2, k3, k1', k2', k3', e5, Chb (show wrF 18 = false from rfl), this]
      · rw [hpi] at e5
        simp only [go_sem, hlt]
        rw [fin_regd]; rotate_left; · decide +kernel
        simp only [go_sem, k1, k2, k3, k1', k2', k3', e5]
        rw [wrapN (by omega)]
        refine ih (j - 1) [gi (i + 1 : Nat)] _ _ (by omega) (by simp only [go_sem]) ⟨i + 1, by omega, rfl, fun k hk hki => ?_, rfl⟩
        by_cases e : k = i
        · subst e; exact beq_iff_eq.1 hpi
        · exact hno k hk (by omega)
  · have : q = false := by
      rw [hq, beq_eq_false_iff_ne]
      intro e
      rw [e] at hl
      simp at hl
    simp only [go_sem, show C.wr 18 = false from rfl, eqlen, hl, Chb (show wrF 18 = false from rfl), this]
theorem wHas_c {s : Value} {B : List Nat} {n : Nat} (hs : Shows H 1 s B.length (ni B)) (hB : B.length < 1000) (q : Bool) (hq : q = decide (n ∈ B)) : cal C base 24 [s, gi n] H = some (bo q, H) := by
  refine cal_fn Try.func24 rfl rfl (res := [.tmp 4]) rfl Try.ntmps24 1001 base _ H ?_
  obtain ⟨a, c, rfl⟩ := hs.sl
  simp only [go_sem, show C.wr 24 = false from rfl]
  rw [fin_loopk [10, 11, 12, 6, 13, 14, 15, 4, 16] rfl]
  refine lp_run [9] (fun j vs H' => ∃ i : Nat, i + j = B.length ∧ vs = [gi i] ∧ (∀ k (h : k < B.length), k < i → B[k] ≠ n) ∧ H' = H) ?_ B.length [gi 0] (by omega) (by simp only [go_sem]) ⟨0, by omega, rfl, fun k _ h => absurd h (Nat.not_lt_zero _), rfl⟩
  rintro j m vs H' ⟨i, hij, rfl, hno, rfl⟩ ih
  cases hlt : decide ((i : Int) < (B.length : Int))
  · have : q = false := by
      rw [hq, decide_eq_false_iff_not]
      intro hx
      obtain ⟨k, hk, e⟩ := List.getElem_of_mem hx
      exact hno k hk (by have := of_decide_eq_false hlt; omega) e
    simp only [go_sem, hlt, Chb (show wrF 24 = false from rfl), this]
  · have hi : i < B.length := by have := of_decide_eq_true hlt; omega
    obtain ⟨b, o, T, cs, k1, k2, k3⟩ := ElI hs hi
    have hg1 : B.getD i 0 = B[i] := by simp [hi]
    rw [hg1] at k3
    have heq : (((B[i] : Nat) : Int) == ((n : Nat) : Int)) = (B[i] == n) := by
      rw [Bool.eq_iff_iff, beq_iff_eq, beq_iff_eq]; exact Int.ofNat_inj
    cases hpi : B[i] == n
    · simp only [go_sem, hlt, k1, k2, k3, heq, hpi]
      rw [wrapN (by omega)]
      refine ih (j - 1) [gi (i + 1 : Nat)] _ _ (by omega) (by simp only [go_sem]) ⟨i + 1, by omega, rfl, fun k hk hki => ?_, rfl⟩
      by_cases e : k = i
      · subst e; exact beq_eq_false_iff_ne.1 hpi
      · exact hno k hk (by omega)
    · have : q = true := by
        rw [hq, decide_eq_true_iff]
        rw [← beq_iff_eq.1 hpi]; exact List.getElem_mem hi
      simp only [go_sem, hlt, k1, k2, k3, heq, hpi, Chb (show wrF 24 = false from rfl), this]
/-- Is each number greater than the one before? -/
def rises (B : List Nat) : Bool := (List.range (B.length - 1)).all fun i => decide (B.getD i 0 < B.getD (i + 1) 0)
theorem wRises_c {s : Value} {B : List Nat} (hs : Shows H 1 s B.length (ni B)) (hB : B.length < 1000) (q : Bool) (hq : q = rises B) : cal C base 23 [s] H = some (bo q, H) := by
  refine cal_fn Try.func23 rfl rfl (res := [.tmp 2]) rfl Try.ntmps23 1001 base _ H ?_
  obtain ⟨a, c, rfl⟩ := hs.sl
  simp only [go_sem, show C.wr 23 = false from rfl]
  rw [fin_loopk [4, 5, 6, 7, 10, 11, 12, 13, 14, 15, 16, 17, 18, 19, 2, 8, 9] rfl]
  refine lp_run [3] (fun j vs H' => ∃ i : Nat, 1 ≤ i ∧ i + j = B.length + 1 ∧ vs = [gi i] ∧ (∀ k, k + 1 < i → B.getD k 0 < B.getD (k + 1) 0) ∧ H' = H) ?_ B.length [gi (1 : Nat)] (by omega) (by simp only [go_sem]; rfl) ⟨1, by omega, by omega, rfl, fun k h => by omega, rfl⟩
  rintro j m vs H' ⟨i, h1, hij, rfl, hno, rfl⟩ ih
  cases hlt : decide ((i : Int) < (B.length : Int))
  · have : q = true := by
      rw [hq, rises, List.all_eq_true]
      intro k hk
      have := of_decide_eq_false hlt
      rw [List.mem_range] at hk
      exact decide_eq_true (hno k (by omega))
    simp only [go_sem, hlt, Chb (show wrF 23 = false from rfl), this]
  · have hi : i < B.length := by have := of_decide_eq_true hlt; omega
    obtain ⟨b, o, T, cs, k1, k2, k3⟩ := ElI hs hi
    obtain ⟨b', o', T', cs', k1', k2', k3'⟩ := ElI hs (i := i - 1) (by omega)
    have hw : IntKind.i64.wrap ((i : Int) - 1) = ((i - 1 : Nat) : Int) := by rw [IntKind.wrap_i64]; omega
    have e : i - 1 + 1 = i := by omega
    have hge : ((B.getD i 0 : Nat) : Int) ≤ ((B.getD (i - 1) 0 : Nat) : Int) ↔ ¬ B.getD (i - 1) 0 < B.getD i 0 := by omega
    simp only [go_sem, hlt]
    rw [fin_regd]; rotate_left; · decide +kernel
    cases hpi : decide (((B.getD i 0 : Nat) : Int) ≤ ((B.getD (i - 1) 0 : Nat) : Int))
    · simp only [go_sem, hw, k1, k2, k3, k1', k2', k3', hpi]
      rw [wrapN (by omega)]
      refine ih (j - 1) [gi (i + 1 : Nat)] _ _ (by omega) (by simp only [go_sem]) ⟨i + 1, by omega, by omega, rfl, fun k hki => ?_, rfl⟩
      by_cases e' : k + 1 = i
      · have := of_decide_eq_false hpi
        rw [hge] at this
        rw [e', show k = i - 1 by omega]; omega
      · exact hno k (by omega)
    · have : q = false := by
        rw [hq, rises, List.all_eq_false]
        refine ⟨i - 1, List.mem_range.2 (by omega), ?_⟩
        rw [e, decide_eq_true_eq]
        exact hge.1 (of_decide_eq_true hpi)
      simp only [go_sem, hw, k1, k2, k3, k1', k2', k3', hpi, Chb (show wrF 23 = false from rfl), this]
theorem fewest_c {n : Nat} (h1 : 1 ≤ n) (h2 : n ≤ 10) : cal C base 25 [gi n] H = some (.tuple #[gi (2 * (n - 1) : Nat), bo true], H) := by
  refine cal_fn Try.func25 rfl rfl (res := [.tmp 2, .tmp 3]) rfl Try.ntmps25 1 base _ H ?_
  have ha : areF (n : Int) = true := by simp [areF]; omega
  have hw : IntKind.i64.wrap (2 * IntKind.i64.wrap ((n : Int) - 1)) = ((2 * (n - 1) : Nat) : Int) := by rw [IntKind.wrap_i64, IntKind.wrap_i64]; omega
  simp only [go_sem, areFriends_c, ha, hw, show C.wr 25 = false from rfl, Chb (show wrF 25 = false from rfl)]
@[go_sem] theorem te22 : (tyElem C.P 22).isSome = true := rfl
theorem big_c {a b : Option Addr} {m m' c c' : Nat} : ∃ q, cal C base 4 [.slice a m c, .slice b m' c'] H = some (bo q, H) := by
  refine ⟨decide (1048576 < (m : Int)) || decide (IntKind.i64.wrap (1048576 - (m : Int)) < (m' : Int)), ?_⟩
  refine cal_fn Try.func4 rfl rfl (res := [.tmp 4]) rfl Try.ntmps4 1 base _ H ?_
  cases h : decide (1048576 < (m : Int)) <;> simp only [go_sem, h, show C.wr 4 = false from rfl, Chb (show wrF 4 = false from rfl)]
end T

open Go Go.Am
namespace T
open Go.Proofs
set_option maxRecDepth 100000
set_option maxHeartbeats 4000000
set_option linter.unusedSimpArgs false
set_option linter.unusedVariables false
variable {base : Nat} {H : Heap}
@[go_sem] theorem bd66 {x y : Int} : buildA C.P 66 [(0, gi x), (1, gi y)] = some (.agg #[gi x, gi y]) := rfl
def callsL (M : List (Int × Int)) : List (Int × Int) := M.flatMap fun c => [(c.1, c.2), (c.2, c.1)]
theorem callsL_len (M : List (Int × Int)) : (callsL M).length = 2 * M.length := by
  induction M with
  | nil => rfl
  | cons a l ih => simp only [callsL, List.flatMap_cons, List.length_append, List.length_cons, List.length_nil] at ih ⊢; omega
theorem callsL_take (M : List (Int × Int)) {i : Nat} (h : i < M.length) : callsL (M.take (i + 1)) = callsL (M.take i) ++ [(M[i].1, M[i].2), (M[i].2, M[i].1)] := by
  rw [List.take_succ_eq_append_getElem h]; simp only [callsL, List.flatMap_append, List.flatMap_cons, List.flatMap_nil, List.append_nil]
theorem lofc_no {n : Int} {s : Value} {L : List (Int × Int)} (hs : SL H s L) (hL : L.length < 1000) (h : (areC n L && decide (2 * L.length ≤ 60)) = false) : cal C base 27 [gi n, s] H = some (.tuple #[.slice none 0 0, bo false], H) ∧ cal C base 28 [gi n, s] H = some (.tuple #[.slice none 0 0, bo false], H) := by
  obtain ⟨a, c, rfl⟩ := hs.sl
  have hw : IntKind.i64.wrap (2 * (L.length : Int)) = 2 * (L.length : Int) := by rw [IntKind.wrap_i64]; omega
  constructor
  · refine cal_fn Try.func27 rfl rfl (res := [.tmp 4, .tmp 5]) rfl Try.ntmps27 1 base _ H ?_
    cases h1 : areC n L
    · simp only [go_sem, areC_c hs hL, h1, show C.wr 27 = false from rfl, Chb (show wrF 27 = false from rfl)]
    · have h2 : decide (60 < 2 * (L.length : Int)) = true := by
        rw [h1, Bool.true_and, decide_eq_false_iff_not] at h
        exact decide_eq_true (by omega)
      simp only [go_sem, areC_c hs hL, h1, hw, h2, show C.wr 27 = false from rfl, Chb (show wrF 27 = false from rfl)]
  · refine cal_fn Try.func28 rfl rfl (res := [.tmp 4, .tmp 5]) rfl Try.ntmps28 1 base _ H ?_
    cases h1 : areC n L
    · simp only [go_sem, caGood_c hs hL, h1, show C.wr 28 = false from rfl, Chb (show wrF 28 = false from rfl)]
    · have h2 : decide (60 < 2 * (L.length : Int)) = true := by
        rw [h1, Bool.true_and, decide_eq_false_iff_not] at h
        exact decide_eq_true (by omega)
      simp only [go_sem, caGood_c hs hL, h1, hw, h2, show C.wr 28 = false from rfl, Chb (show wrF 28 = false from rfl)]
theorem lofc_c {n : Int} {s : Value} {L : List (Int × Int)} (hs : SL H s L) (h1 : areC n L = true) (hL : 2 * L.length ≤ 60) : Ok (cal C base 27 [gi n, s] H) fun v H' => ∃ F t, H' = H ++ F ∧ v = .tuple #[t, bo true] ∧ OwnL H.length H' 66 2 t (callsL L).length (lc (callsL L)) := by
  refine ok_fn Try.func27 rfl rfl (res := [.tmp 4, .tmp 5]) rfl Try.ntmps27 1001 base _ H ?_
  obtain ⟨a, c, rfl⟩ := hs.sl
  have hw : IntKind.i64.wrap (2 * (L.length : Int)) = 2 * (L.length : Int) := by rw [IntKind.wrap_i64]; omega
  have h2 : decide (60 < 2 * (L.length : Int)) = false := decide_eq_false (by omega)
  simp only [go_sem, areC_c hs (by omega), h1, hw, h2, show C.wr 27 = false from rfl, bs_nil ts24]
  rw [fin_loopk [23, 24, 25, 8, 26, 27, 28, 29, 30, 31, 32, 33, 34, 35, 36, 37, 38, 39] rfl]
  refine lp_ok [6, 22] (fun j vs H' => ∃ (i : Nat) (t : Value), i + j = L.length ∧ vs = [t, gi i] ∧ OwnL H.length H' 66 2 t (callsL (L.take i)).length (lc (callsL (L.take i))) ∧ Keeps H.length H H') L.length [.slice (some ⟨H.length, 0, some 2⟩) 0 0, gi 0] ?_ (by omega) (by simp only [go_sem]) ⟨0, _, by omega, rfl, .empty _ _ _ (Nat.le_refl _), .append (Nat.le_refl _) _⟩
  rintro j m vs H' ⟨i, t, hij, rfl, ho, hk⟩ ih
  cases hlt : decide ((i : Int) < (L.length : Int))
  · obtain rfl : i = L.length := by have := of_decide_eq_false hlt; omega
    rw [List.take_length] at ho
    obtain ⟨s', F, old, e, ho'⟩ := ho.hand (P := C.P) (acc := H) (l := [bo true]) (show tySize C.P 66 = some 2 from rfl) (lcG _)
    simp only [go_sem, hlt, Chb (show wrF 27 = false from rfl), take_keeps hk, e]
    exact .some ⟨F, s', rfl, rfl, ho'⟩
  · have hi : i < L.length := by have := of_decide_eq_true hlt; omega
    obtain ⟨b, o, T, cs, k1, k2, k3⟩ := SC.el (hs.keep hk) hi
    rw [lv] at k3
    have hl0 := hk.1
    have hk2 : Keeps H.length H (H' ++ [some (80, [gi L[i].1, gi L[i].2])]) := hk.trans (.append hl0 _)
    have hcl := callsL_len (L.take i)
    rw [List.length_take] at hcl
    obtain ⟨t', H2, e, ho', hk3⟩ := ((ho.keep (.append (Nat.le_refl _) [some (80, [gi L[i].1, gi L[i].2])])).keep (.append (Nat.le_refl _) [some (66, [gi L[i].1, gi L[i].2, gi L[i].2, gi L[i].1])])).apps (base := H.length) (t := 24) (new_shows (n := 2) (es := 2) (cs := [gi L[i].1, gi L[i].2, gi L[i].2, gi L[i].1]) rfl) ts24 (Nat.le_refl _) (by simp; omega) (by unfold room; omega)
    simp only [go_sem, hlt, k1, k2, k3, st80 hl0, hget_0, bs_two2 (H := H' ++ [some (80, [gi L[i].1, gi L[i].2])]) ts24 (a := gi L[i].1) (b := gi L[i].2) (c := gi L[i].2) (d := gi L[i].1) rfl rfl rfl rfl, eo_append (show notInt C.P 24 = true from rfl), e]
    rw [wrapN (by omega)]
    refine ih (j - 1) [t', gi (i + 1 : Nat)] _ _ (by omega) (by simp only [go_sem]) ⟨i + 1, t', by omega, rfl, ?_, (hk2.trans (.append hk2.1 _)).trans hk3⟩
    rw [callsL_take L hi, List.length_append, lc_app]
    exact ho'
theorem lofcS_c {n : Int} {s : Value} {L : List (Int × Int)} (hs : SL H s L) (h1 : areC n L = true) (hL : 2 * L.length ≤ 60) : Ok (cal C base 28 [gi n, s] H) fun v H' => ∃ F t, H' = H ++ F ∧ v = .tuple #[t, bo true] ∧ OwnL H.length H' 66 2 t (callsL L).length (lc (callsL L)) := by
  refine ok_fn Try.func28 rfl rfl (res := [.tmp 4, .tmp 5]) rfl Try.ntmps28 1001 base _ H ?_
  obtain ⟨a, c, rfl⟩ := hs.sl
  have hw : IntKind.i64.wrap (2 * (L.length : Int)) = 2 * (L.length : Int) := by rw [IntKind.wrap_i64]; omega
  have h2 : decide (60 < 2 * (L.length : Int)) = false := decide_eq_false (by omega)
  simp only [go_sem, caGood_c hs (by omega), h1, hw, h2, show C.wr 28 = false from rfl, bs_nil ts24]
  rw [fin_loopk [22, 23, 24, 8, 25, 26, 27, 28, 29, 30, 31, 32, 33, 34, 35, 36, 37, 38] rfl]
  refine lp_ok [6, 21] (fun j vs H' => ∃ (i : Nat) (t : Value), i + j = L.length ∧ vs = [t, gi i] ∧ OwnL H.length H' 66 2 t (callsL (L.take i)).length (lc (callsL (L.take i))) ∧ Keeps H.length H H') L.length [.slice none 0 0, gi 0] ?_ (by omega) (by simp only [go_sem]) ⟨0, _, by omega, rfl, .nil _ _ _ _, .refl _ _⟩
  rintro j m vs H' ⟨i, t, hij, rfl, ho, hk⟩ ih
  cases hlt : decide ((i : Int) < (L.length : Int))
  · obtain rfl : i = L.length := by have := of_decide_eq_false hlt; omega
    rw [List.take_length] at ho
    obtain ⟨s', F, old, e, ho'⟩ := ho.hand (P := C.P) (acc := H) (l := [bo true]) (show tySize C.P 66 = some 2 from rfl) (lcG _)
    simp only [go_sem, hlt, Chb (show wrF 28 = false from rfl), take_keeps hk, e]
    exact .some ⟨F, s', rfl, rfl, ho'⟩
  · have hi : i < L.length := by have := of_decide_eq_true hlt; omega
    obtain ⟨b, o, T, cs, k1, k2, k3⟩ := SC.el (hs.keep hk) hi
    rw [lv] at k3
    have hl0 := hk.1
    have hk2 : Keeps H.length H (H' ++ [some (80, [gi L[i].1, gi L[i].2])]) := hk.trans (.append hl0 _)
    have hcl := callsL_len (L.take i)
    rw [List.length_take] at hcl
    obtain ⟨t', H2, e, ho', hk3⟩ := ((ho.keep (.append (Nat.le_refl _) [some (80, [gi L[i].1, gi L[i].2])])).keep (.append (Nat.le_refl _) [some (66, [gi L[i].1, gi L[i].2, gi L[i].2, gi L[i].1])])).apps (base := H.length) (t := 24) (new_shows (n := 2) (es := 2) (cs := [gi L[i].1, gi L[i].2, gi L[i].2, gi L[i].1]) rfl) ts24 (Nat.le_refl _) (by simp; omega) (by unfold room; omega)
    simp only [go_sem, hlt, k1, k2, k3, st80 hl0, hget_0, bs_two2 (H := H' ++ [some (80, [gi L[i].1, gi L[i].2])]) ts24 (a := gi L[i].1) (b := gi L[i].2) (c := gi L[i].2) (d := gi L[i].1) rfl rfl rfl rfl, eo_append (show notInt C.P 24 = true from rfl), e]
    rw [wrapN (by omega)]
    refine ih (j - 1) [t', gi (i + 1 : Nat)] _ _ (by omega) (by simp only [go_sem]) ⟨i + 1, t', by omega, rfl, ?_, (hk2.trans (.append hk2.1 _)).trans hk3⟩
    rw [callsL_take L hi, List.length_append, lc_app]
    exact ho'
theorem backL_len (M : List (Int × Int)) : (backL M).length = M.length := by simp [backL]
theorem backL_drop (M : List (Int × Int)) {i : Nat} (h : i < M.length) : backL (M.drop i) = backL (M.drop (i + 1)) ++ [(M[i].2, M[i].1)] := by
  rw [List.drop_eq_getElem_cons h]; simp only [backL, List.reverse_cons, List.map_append, List.map_cons, List.map_nil]
theorem back_no {n : Int} {s : Value} {L : List (Int × Int)} (hs : SL H s L) (hL : L.length < 1000) (h : areL n L = false) : cal C base 17 [gi n, s] H = some (.tuple #[.slice none 0 0, bo false], H) := by
  refine cal_fn Try.func17 rfl rfl (res := [.tmp 4, .tmp 5]) rfl Try.ntmps17 1 base _ H ?_
  simp only [go_sem, leGood_c hs hL, h, Chb (show wrF 17 = false from rfl)]
theorem slFld {s : Value} {L : List (Int × Int)} (h : SL H s L) {i : Nat} (hi : i < L.length) : ∃ b o T cs, indexAddrA C.P 24 s (gi i) = some (.pointer (some ⟨b, o, none⟩)) ∧ hget H b = some (T, cs) ∧ cs[o]? = some (gi L[i].1) ∧ cs[o + 1]? = some (gi L[i].2) := by
  obtain ⟨b, o, T, cs, h1, h2, h3, h4, h5⟩ := Shows.at (P := C.P) (t := 24) (el := 66) (K := .i64) h hi rfl rfl
  obtain ⟨r, hr⟩ := lc_drop L hi
  have e : ∀ f, (lc L)[i * 2 + f]? = (gi L[i].1 :: gi L[i].2 :: r)[f]? := fun f => by rw [← hr, List.getElem?_drop]
  exact ⟨b, o, T, cs, h1, h2, (h5 0 (by decide)).trans (e 0), (h5 1 (by decide)).trans (e 1)⟩
theorem back_c {n : Int} {s : Value} {L : List (Int × Int)} (hs : SL H s L) (h : areL n L = true) : Ok (cal C base 17 [gi n, s] H) fun v H' => ∃ F t, H' = H ++ F ∧ v = .tuple #[t, bo true] ∧ OwnL H.length H' 66 2 t (backL L).length (lc (backL L)) := by
  refine ok_fn Try.func17 rfl rfl (res := [.tmp 4, .tmp 5]) rfl Try.ntmps17 1001 base _ H ?_
  have hL : L.length ≤ 60 := by
    simp only [areL, Bool.and_eq_true, decide_eq_true_eq] at h; exact h.1.2
  obtain ⟨a, c, rfl⟩ := hs.sl
  have hw : IntKind.i64.wrap ((L.length : Int) - 1) = (L.length : Int) - 1 := by rw [IntKind.wrap_i64]; omega
  simp only [go_sem, leGood_c hs (by omega), h, hw, show C.wr 17 = false from rfl]
  rw [fin_loopk [15, 16, 19, 20, 21, 22, 23, 24, 25, 26, 27, 28, 29, 30, 31, 32, 17, 18] rfl]
  refine lp_ok [6, 7] (fun j vs H' => ∃ (t : Value), j ≤ L.length ∧ vs = [t, gi ((j : Int) - 1)] ∧ OwnL H.length H' 66 2 t (backL (L.drop j)).length (lc (backL (L.drop j))) ∧ Keeps H.length H H') L.length [.slice none 0 0, gi ((L.length : Int) - 1)] ?_ (by omega) (by simp only [go_sem]) ⟨_, Nat.le_refl _, rfl, by rw [List.drop_length]; exact .nil _ _ _ _, .refl _ _⟩
  rintro j m vs H' ⟨t, hij, rfl, ho, hk⟩ ih
  cases hlt : decide ((0 : Int) ≤ (j : Int) - 1)
  · obtain rfl : j = 0 := by have := of_decide_eq_false hlt; omega
    rw [List.drop_zero] at ho
    obtain ⟨s', F, old, e, ho'⟩ := ho.hand (P := C.P) (acc := H) (l := [bo true]) (show tySize C.P 66 = some 2 from rfl) (lcG _)
    simp only [go_sem, hlt, Chb (show wrF 17 = false from rfl), take_keeps hk, e]
    exact .some ⟨F, s', rfl, rfl, ho'⟩
  · obtain ⟨i, rfl⟩ : ∃ i, j = i + 1 := ⟨j - 1, by have := of_decide_eq_true hlt; omega⟩
    have e0 : ((i + 1 : Nat) : Int) - 1 = (i : Int) := by omega
    rw [e0] at hlt ⊢
    have hi : i < L.length := by omega
    obtain ⟨b, o, T, cs, k1, k2, k3, k4⟩ := slFld (hs.keep hk) hi
    have hl0 := hk.1
    have hbl := backL_len (L.drop (i + 1))
    rw [List.length_drop] at hbl
    obtain ⟨t', H2, e, ho', hk3⟩ := (ho.keep (.append (Nat.le_refl _) [some (66, [gi L[i].2, gi L[i].1])])).apps (base := H.length) (t := 24) (new_shows (n := 1) (es := 2) (cs := [gi L[i].2, gi L[i].1]) rfl) ts24 (Nat.le_refl _) (by simp; omega) (by unfold room; omega)
    have hw1 : IntKind.i64.wrap ((i : Int) - 1) = (i : Int) - 1 := by rw [IntKind.wrap_i64]; omega
    simp only [go_sem, hlt]
    rw [fin_regd]; rotate_left; · decide +kernel
    simp only [go_sem, k1, k2, k3, k4, hw1, bs_one2 ts24 (a := gi L[i].2) (b := gi L[i].1) rfl rfl, eo_append (show notInt C.P 24 = true from rfl), e]
    refine ih i [t', gi ((i : Int) - 1)] _ _ (by omega) (by simp only [go_sem]) ⟨t', by omega, rfl, ?_, (hk.trans (.append hl0 _)).trans hk3⟩
    rw [backL_drop L hi, List.length_append, lc_app]
    exact ho'
end T

