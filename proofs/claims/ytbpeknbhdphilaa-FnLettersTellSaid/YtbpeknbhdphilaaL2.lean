/- What is known behind letters, as words of bits and as lists; do all know? No conditions. -/
import Derived.Test.YtbpeknbhdphilaaL1
open Go Go.Am
namespace T
open Go.Proofs
set_option maxRecDepth 100000
set_option maxHeartbeats 4000000
set_option linter.unusedSimpArgs false
set_option linter.unusedVariables false
variable {base : Nat} {H : Heap}
def toZ (M : List (Nat × Nat)) : List (Int × Int) := M.map fun l => ((l.1 : Int), (l.2 : Int))
def stepP (B : List Nat) (l : Nat × Nat) : List Nat := B.set l.2 (B.getD l.2 0 ||| B.getD l.1 0)
def play (n : Nat) (M : List (Nat × Nat)) : List Nat := M.foldl stepP (sN n)
theorem play_snoc (n : Nat) (M : List (Nat × Nat)) {i : Nat} (h : i < M.length) : play n (M.take (i + 1)) = stepP (play n (M.take i)) M[i] := by
  unfold play
  rw [List.take_succ_eq_append_getElem h, List.foldl_append]; rfl
theorem play_ok {n : Nat} (hn : n ≤ 10) (M : List (Nat × Nat)) : (play n M).length = n ∧ ∀ x ∈ play n M, x < 2 ^ n := by
  have key : ∀ (M : List (Nat × Nat)) (B : List Nat), B.length = n → (∀ x ∈ B, x < 2 ^ n) → (M.foldl stepP B).length = n ∧ ∀ x ∈ M.foldl stepP B, x < 2 ^ n := by
    intro M
    induction M with
    | nil => intro B h1 h2; exact ⟨h1, h2⟩
    | cons l M ih =>
      intro B h1 h2
      refine ih _ (by simp [stepP, h1]) fun x hx => ?_
      have hg : ∀ i, B.getD i 0 < 2 ^ n := fun i => by
        rw [List.getD_eq_getElem?_getD]
        cases h : B[i]? with
        | none => exact Nat.two_pow_pos n
        | some y => exact h2 y (List.mem_of_getElem? h)
      rcases List.mem_or_eq_of_mem_set hx with h | rfl
      · exact h2 x h
      · exact Nat.or_lt_two_pow (hg _) (hg _)
  refine key M (sN n) (by simp [sN]) fun x hx => ?_
  obtain ⟨i, hi, rfl⟩ := List.mem_map.1 hx
  exact Nat.pow_lt_pow_right (by decide) (List.mem_range.1 hi)
theorem nu_get (B : List Nat) {i : Nat} (h : i < B.length) : (nu B)[i]? = some (.int .u16 (B.getD i 0 : Nat)) := by simp [nu, h]
theorem ni_get (B : List Nat) {i : Nat} (h : i < B.length) : (ni B)[i]? = some (gi (B.getD i 0 : Nat)) := by simp [ni, h]
theorem nu_set (B : List Nat) (i x : Nat) : (nu B).set i (.int .u16 (x : Int)) = nu (B.set i x) := by simp [nu, List.map_set]
theorem ni_set (B : List Nat) (i x : Nat) : (ni B).set i (gi (x : Int)) = ni (B.set i x) := by simp [ni, List.map_set]
theorem getD_lt {B : List Nat} {n : Nat} (h : ∀ x ∈ B, x < 2 ^ n) (hn : n ≤ 10) (i : Nat) : B.getD i 0 < 1024 := by
  have h10 : 2 ^ n ≤ 2 ^ 10 := Nat.pow_le_pow_right (by decide) hn
  rw [List.getD_eq_getElem?_getD]
  cases e : B[i]? with
  | none => exact Nat.succ_pos _
  | some y => exact Nat.lt_of_lt_of_le (h y (List.mem_of_getElem? e)) h10

theorem byL_c {n : Nat} (hn : n ≤ 10) {s : Value} {M : List (Nat × Nat)} (hs : SL H s (toZ M)) (hM : M.length < 1000) (hr : ∀ l ∈ M, l.1 < n ∧ l.2 < n) : Ok (cal C base 31 [gi n, s] H) fun s H' => ∃ F, H' = H ++ F ∧ OwnL H.length H' 62 1 s n (nu (play n M)) := by
  refine ok_fn Try.func31 rfl rfl (res := [.tmp 4]) rfl Try.ntmps31 1001 base _ H ?_
  have hZ : (toZ M).length = M.length := by simp [toZ]
  rw [SL, hZ] at hs
  obtain ⟨a, c, rfl⟩ := hs.sl
  obtain ⟨v, H1, e1, F1, rfl, ho⟩ := first_c n hn H H.length
  simp only [go_sem, show C.wr 31 = false from rfl, e1]
  rw [fin_loopk [13, 14, 15, 7, 16, 17, 18, 19, 20, 21, 22, 23, 24, 25, 26, 27, 28] rfl]
  refine lp_ok [12] (fun j vs H' => ∃ (i : Nat), i + j = M.length ∧ vs = [gi i] ∧ OwnL H.length H' 62 1 v n (nu (play n (M.take i))) ∧ Keeps H.length H H') M.length [gi 0] ?_ (by omega) (by simp only [go_sem]) ⟨0, by omega, rfl, ho, .append (Nat.le_refl _) _⟩
  rintro j m vs H' ⟨i, hij, rfl, ho, hk⟩ ih
  have hP := play_ok hn (M.take i)
  cases hlt : decide ((i : Int) < (M.length : Int))
  · obtain rfl : i = M.length := by have := of_decide_eq_false hlt; omega
    rw [List.take_length] at ho hP
    obtain ⟨s', F, old, e, ho'⟩ := ho.hand (P := C.P) (acc := H) (l := []) (show tySize C.P 62 = some 1 from rfl) (by simp [isG, sc, nu])
    simp only [go_sem, hlt, Chb (show wrF 31 = false from rfl), take_keeps hk, e]
    exact .some ⟨F, rfl, ho'⟩
  · have hi : i < M.length := by have := of_decide_eq_true hlt; omega
    obtain ⟨hx, hy⟩ := hr M[i] (List.getElem_mem hi)
    have hZi : (toZ M)[i]'(by rw [hZ]; exact hi) = (((M[i].1 : Nat) : Int), ((M[i].2 : Nat) : Int)) := by simp [toZ]
    have hs' : SL H' (.slice a M.length c) (toZ M) := by rw [SL, hZ]; exact hs.keep hk
    obtain ⟨b, o, T, cs, h1, h2, h3⟩ := SL.el hs' (i := i) (by rw [hZ]; exact hi)
    rw [hZi, lv] at h3
    obtain ⟨h0, ⟨_, rfl, _⟩ | ⟨b0, hb0, rfl, hg⟩⟩ := ho
    · omega
    have ix : ∀ z : Nat, z < n → indexAddrA C.P 52 (.slice (some ⟨b0, 0, some 1⟩) n n) (gi z) = some (.pointer (some ⟨b0, z, none⟩)) := fun z hz => by
      rw [ia_at (show tyElem C.P 52 = some 62 from rfl) (show tySize C.P 62 = some 1 from rfl) hz]; simp
    have hg' := hget_old hg [some (66, [gi (M[i].1 : Nat), gi (M[i].2 : Nat)])]
    have gx := nu_get (play n (M.take i)) (i := M[i].1) (by rw [hP.1]; exact hx)
    have gy := nu_get (play n (M.take i)) (i := M[i].2) (by rw [hP.1]; exact hy)
    have hst := st_at (P := C.P) (base := H.length) (t := 62) (o := M[i].2) (v := .int .u16 (((play n (M.take i)).getD M[i].2 0 ||| (play n (M.take i)).getD M[i].1 0 : Nat) : Int)) hb0 hg' rfl rfl (by rw [h0]; show M[i].2 + 1 ≤ n * 1; omega)
    rw [show setAll (nu (play n (M.take i))) M[i].2 (Value.int .u16 (((play n (M.take i)).getD M[i].2 0 ||| (play n (M.take i)).getD M[i].1 0 : Nat) : Int)).cells.toList = nu (play n (M.take (i + 1))) by rw [play_snoc n M hi]; exact nu_set _ _ _] at hst
    simp only [go_sem, hlt, h1, h2, h3, st66 hk.1, hget_0]
    rw [fin_regd]
    rotate_left; · decide +kernel
    simp only [go_sem, hget_0, ix _ hx, ix _ hy, hg', gx, gy, bor16 (getD_lt hP.2 hn _) (getD_lt hP.2 hn _), hst]
    rw [wrapN (by omega)]
    have hkn := (hk.trans (.append hk.1 [some (66, [gi (M[i].1 : Nat), gi (M[i].2 : Nat)])])).trans (.set hb0 (some (62, nu (play n (M.take (i + 1))))))
    refine ih (j - 1) [gi (i + 1 : Nat)] _ _ (by omega) (by simp only [go_sem]) ⟨i + 1, by omega, rfl, ⟨by simp [nu, (play_ok hn (M.take (i + 1))).1], .inr ⟨b0, hb0, rfl, ?_⟩⟩, hkn⟩
    have hbl : b0 < (H' ++ [some (66, [gi (M[i].1 : Nat), gi (M[i].2 : Nat)])] : Heap).length := by
      rcases Nat.lt_or_ge b0 (H' ++ [some (66, [gi (M[i].1 : Nat), gi (M[i].2 : Nat)])] : Heap).length with h | h
      · exact h
      · unfold hget at hg'; rw [List.getElem?_eq_none h] at hg'; cases hg'
    unfold hget
    rw [List.getElem?_set_self hbl]; rfl

theorem lePlay_c {n : Nat} (hn : n ≤ 10) {s : Value} {M : List (Nat × Nat)} (hs : SL H s (toZ M)) (hM : M.length < 1000) (hr : ∀ l ∈ M, l.1 < n ∧ l.2 < n) : Ok (cal C base 35 [gi n, s] H) fun s H' => ∃ F, H' = H ++ F ∧ OwnL H.length H' 3 1 s n (ni (play n M)) := by
  refine ok_fn Try.func35 rfl rfl (res := [.tmp 4]) rfl Try.ntmps35 1001 base _ H ?_
  have hZ : (toZ M).length = M.length := by simp [toZ]
  rw [SL, hZ] at hs
  obtain ⟨a, c, rfl⟩ := hs.sl
  obtain ⟨v, H1, e1, F1, rfl, ho⟩ := caStart_c n hn H H.length
  simp only [go_sem, show C.wr 35 = false from rfl, e1]
  rw [fin_loopk [13, 14, 15, 7, 16, 17, 18, 19, 20, 21, 22, 23, 24, 25, 26, 27, 28] rfl]
  refine lp_ok [12] (fun j vs H' => ∃ (i : Nat), i + j = M.length ∧ vs = [gi i] ∧ OwnL H.length H' 3 1 v n (ni (play n (M.take i))) ∧ Keeps H.length H H') M.length [gi 0] ?_ (by omega) (by simp only [go_sem]) ⟨0, by omega, rfl, ho, .append (Nat.le_refl _) _⟩
  rintro j m vs H' ⟨i, hij, rfl, ho, hk⟩ ih
  have hP := play_ok hn (M.take i)
  cases hlt : decide ((i : Int) < (M.length : Int))
  · obtain rfl : i = M.length := by have := of_decide_eq_false hlt; omega
    rw [List.take_length] at ho hP
    obtain ⟨s', F, old, e, ho'⟩ := ho.hand (P := C.P) (acc := H) (l := []) (show tySize C.P 3 = some 1 from rfl) (by simp [isG, sc, ni])
    simp only [go_sem, hlt, Chb (show wrF 35 = false from rfl), take_keeps hk, e]
    exact .some ⟨F, rfl, ho'⟩
  · have hi : i < M.length := by have := of_decide_eq_true hlt; omega
    obtain ⟨hx, hy⟩ := hr M[i] (List.getElem_mem hi)
    have hZi : (toZ M)[i]'(by rw [hZ]; exact hi) = (((M[i].1 : Nat) : Int), ((M[i].2 : Nat) : Int)) := by simp [toZ]
    have hs' : SL H' (.slice a M.length c) (toZ M) := by rw [SL, hZ]; exact hs.keep hk
    obtain ⟨b, o, T, cs, h1, h2, h3⟩ := SL.el hs' (i := i) (by rw [hZ]; exact hi)
    rw [hZi, lv] at h3
    obtain ⟨h0, ⟨_, rfl, _⟩ | ⟨b0, hb0, rfl, hg⟩⟩ := ho
    · omega
    have ix : ∀ z : Nat, z < n → indexAddrA C.P 34 (.slice (some ⟨b0, 0, some 1⟩) n n) (gi z) = some (.pointer (some ⟨b0, z, none⟩)) := fun z hz => by
      rw [ia_at (show tyElem C.P 34 = some 3 from rfl) (show tySize C.P 3 = some 1 from rfl) hz]; simp
    have hg' := hget_old hg [some (66, [gi (M[i].1 : Nat), gi (M[i].2 : Nat)])]
    have gx := ni_get (play n (M.take i)) (i := M[i].1) (by rw [hP.1]; exact hx)
    have gy := ni_get (play n (M.take i)) (i := M[i].2) (by rw [hP.1]; exact hy)
    have hst := st_at (P := C.P) (base := H.length) (t := 3) (o := M[i].2) (v := .int .i64 (((play n (M.take i)).getD M[i].2 0 ||| (play n (M.take i)).getD M[i].1 0 : Nat) : Int)) hb0 hg' rfl rfl (by rw [h0]; show M[i].2 + 1 ≤ n * 1; omega)
    rw [show setAll (ni (play n (M.take i))) M[i].2 (Value.int .i64 (((play n (M.take i)).getD M[i].2 0 ||| (play n (M.take i)).getD M[i].1 0 : Nat) : Int)).cells.toList = ni (play n (M.take (i + 1))) by rw [play_snoc n M hi]; exact ni_set _ _ _] at hst
    simp only [go_sem, hlt, h1, h2, h3, st66 hk.1, hget_0]
    rw [fin_regd]
    rotate_left; · decide +kernel
    simp only [go_sem, hget_0, ix _ hx, ix _ hy, hg', gx, gy, bor64 (getD_lt hP.2 hn _) (getD_lt hP.2 hn _), hst]
    rw [wrapN (by omega)]
    have hkn := (hk.trans (.append hk.1 [some (66, [gi (M[i].1 : Nat), gi (M[i].2 : Nat)])])).trans (.set hb0 (some (3, ni (play n (M.take (i + 1))))))
    refine ih (j - 1) [gi (i + 1 : Nat)] _ _ (by omega) (by simp only [go_sem]) ⟨i + 1, by omega, rfl, ⟨by simp [ni, (play_ok hn (M.take (i + 1))).1], .inr ⟨b0, hb0, rfl, ?_⟩⟩, hkn⟩
    have hbl : b0 < (H' ++ [some (66, [gi (M[i].1 : Nat), gi (M[i].2 : Nat)])] : Heap).length := by
      rcases Nat.lt_or_ge b0 (H' ++ [some (66, [gi (M[i].1 : Nat), gi (M[i].2 : Nat)])] : Heap).length with h | h
      · exact h
      · unfold hget at hg'; rw [List.getElem?_eq_none h] at hg'; cases hg'
    unfold hget
    rw [List.getElem?_set_self hbl]; rfl
end T

open Go Go.Am
namespace T
open Go.Proofs
set_option maxRecDepth 100000
set_option maxHeartbeats 4000000
set_option linter.unusedSimpArgs false
set_option linter.unusedVariables false
variable {base : Nat} {H : Heap}
/-- The numbers of the bits. -/
def bitsTo (x i : Nat) : List Nat := (List.range i).filter x.testBit
def bitsOf (x : Nat) : List Nat := bitsTo x 16
theorem bitsTo_succ (x i : Nat) : bitsTo x (i + 1) = if x.testBit i then bitsTo x i ++ [i] else bitsTo x i := by
  unfold bitsTo
  rw [List.range_succ, List.filter_append]
  cases h : x.testBit i <;> simp [h]
theorem bitsTo_len (x i : Nat) : (bitsTo x i).length ≤ i := by
  have := List.length_filter_le x.testBit (List.range i)
  simpa [bitsTo] using this
theorem ni_app (B : List Nat) (x : Nat) : ni (B ++ [x]) = ni B ++ [gi x] := by simp [ni]
theorem bit16 {P : Program} {ρ : Env} {o o' : Oper} {x i : Nat} (hx : x < 65536) (hi : i < 16) :
    bin2 P ρ o H .shr (.int .u16 (x : Int)) (.int .i64 (i : Int)) = some (.int .u16 ((x >>> i : Nat) : Int), H) := by
  rw [b_shr (Int.natCast_nonneg _)]
  have e : ((x : Int).fdiv (2 ^ min (i : Int).toNat IntKind.u16.bits)) = ((x >>> i : Nat) : Int) := by
    rw [show min (i : Int).toNat IntKind.u16.bits = i by simp only [IntKind.bits]; omega, Nat.shiftRight_eq_div_pow]
    rw [Int.fdiv_eq_ediv_of_nonneg _ (by exact_mod_cast Nat.zero_le (2 ^ i))]
    push_cast
    rfl
  rw [e]
theorem bit64 {P : Program} {ρ : Env} {o o' : Oper} {x i : Nat} (hi : i < 64) :
    bin2 P ρ o H .shr (.int .i64 (x : Int)) (.int .i64 (i : Int)) = some (.int .i64 ((x >>> i : Nat) : Int), H) := by
  rw [b_shr (Int.natCast_nonneg _)]
  have e : ((x : Int).fdiv (2 ^ min (i : Int).toNat IntKind.i64.bits)) = ((x >>> i : Nat) : Int) := by
    rw [show min (i : Int).toNat IntKind.i64.bits = i by simp only [IntKind.bits]; omega, Nat.shiftRight_eq_div_pow]
    rw [Int.fdiv_eq_ediv_of_nonneg _ (by exact_mod_cast Nat.zero_le (2 ^ i))]
    push_cast
    rfl
  rw [e]
theorem one16 {P : Program} {ρ : Env} {o : Oper} {x : Nat} (hx : x < 65536) : bin2 P ρ o H .and (.int .u16 (x : Int)) (.int .u16 1) = some (.int .u16 ((x % 2 : Nat) : Int), H) := by
  rw [b_and]
  refine congrArg (fun z => some (Value.int .u16 z, H)) ?_
  have e : (BitVec.ofInt 16 (x : Int) &&& BitVec.ofInt 16 1).toNat = x % 2 := by
    rw [BitVec.toNat_and, BitVec.toNat_ofInt, BitVec.toNat_ofInt, show ((1 : Int) % ((2 ^ 16 : Nat) : Int)).toNat = 1 by decide, show ((x : Int) % ((2 ^ 16 : Nat) : Int)).toNat = x by omega, Nat.and_one_is_mod]
  show IntKind.u16.wrap ((BitVec.ofInt 16 (x : Int) &&& BitVec.ofInt 16 1).toNat : Int) = _
  rw [e]; simp only [IntKind.wrap, IntKind.bits, IntKind.signed, Bool.false_and, Bool.false_eq_true, if_false]; omega
theorem one64 {P : Program} {ρ : Env} {o : Oper} {x : Nat} (hx : x < 65536) : bin2 P ρ o H .and (.int .i64 (x : Int)) (.int .i64 1) = some (.int .i64 ((x % 2 : Nat) : Int), H) := by
  rw [b_and]
  refine congrArg (fun z => some (Value.int .i64 z, H)) ?_
  have e : (BitVec.ofInt 64 (x : Int) &&& BitVec.ofInt 64 1).toNat = x % 2 := by
    rw [BitVec.toNat_and, BitVec.toNat_ofInt, BitVec.toNat_ofInt, show ((1 : Int) % ((2 ^ 64 : Nat) : Int)).toNat = 1 by decide, show ((x : Int) % ((2 ^ 64 : Nat) : Int)).toNat = x by omega, Nat.and_one_is_mod]
  show IntKind.i64.wrap ((BitVec.ofInt 64 (x : Int) &&& BitVec.ofInt 64 1).toNat : Int) = _
  rw [e, IntKind.wrap_i64]; omega
theorem tb {x i : Nat} : (((x >>> i % 2 : Nat) : Int) == 1) = x.testBit i := by
  rw [Nat.testBit_eq_decide_div_mod_eq, Nat.shiftRight_eq_div_pow]
  rw [Bool.eq_iff_iff, beq_iff_eq, decide_eq_true_iff]
  generalize x / 2 ^ i % 2 = z
  omega
theorem listed_c {x : Nat} (hx : x < 65536) : Ok (cal C base 58 [.int .u16 (x : Int)] H) fun s H' => ∃ F, H' = H ++ F ∧ OwnL H.length H' 3 1 s (bitsOf x).length (ni (bitsOf x)) := by
  refine ok_fn Try.func58 rfl rfl (res := [.tmp 2]) rfl Try.ntmps58 20 base _ H ?_
  simp only [go_sem, show C.wr 58 = false from rfl, bs_nil ts34]
  rw [fin_loopk [7, 8, 4, 9, 10, 11, 12, 13, 14, 15, 16, 17, 18] rfl]
  refine lp_ok [3, 6] (fun j vs H' => ∃ (i : Nat) (s : Value), i + j = 16 ∧ vs = [s, gi i] ∧ OwnL H.length H' 3 1 s (bitsTo x i).length (ni (bitsTo x i)) ∧ Keeps H.length H H') 16 [.slice (some ⟨H.length, 0, some 1⟩) 0 0, gi 0] ?_ (by omega) (by simp only [go_sem]) ⟨0, _, by omega, rfl, .empty _ _ _ (Nat.le_refl _), .append (Nat.le_refl _) _⟩
  rintro j m vs H' ⟨i, s, hij, rfl, ho, hk⟩ ih
  cases hlt : decide ((i : Int) < 16)
  · obtain rfl : i = 16 := by have := of_decide_eq_false hlt; omega
    obtain ⟨s', F, old, e, ho'⟩ := ho.hand (P := C.P) (acc := H) (l := []) (show tySize C.P 3 = some 1 from rfl) (by simp [isG, sc, ni])
    simp only [go_sem, hlt, Chb (show wrF 58 = false from rfl), take_keeps hk, e]
    exact .some ⟨F, rfl, ho'⟩
  · have hl2 : i < 16 := by have := of_decide_eq_true hlt; omega
    have hxs : x >>> i < 65536 := by rw [Nat.shiftRight_eq_div_pow]; exact Nat.lt_of_le_of_lt (Nat.div_le_self _ _) hx
    cases hb : x.testBit i
    · simp only [go_sem, hlt, bit16 (o' := default) hx hl2, one16 hxs, tb, hb]
      rw [wrapN (by omega)]
      refine ih (j - 1) [s, gi (i + 1 : Nat)] _ _ (by omega) (by simp only [go_sem]) ⟨i + 1, s, by omega, rfl, ?_, hk⟩
      rw [bitsTo_succ, hb]; exact ho
    · have hap := ho.app (base := H.length) ts34 (Nat.le_refl _) (ys := [gi i]) rfl (by have := bitsTo_len x i; unfold room; omega)
      simp only [go_sem, hlt, bit16 (o' := default) hx hl2, one16 hxs, tb, hb, bs_one ts34 (x := gi _) rfl rfl, eo_append (show notInt C.P 34 = true from rfl), hap]
      rw [wrapN (by omega)]
      refine ih (j - 1) [.slice (some ⟨H'.length + 1, 0, some 1⟩) ((bitsTo x i).length + 1) ((bitsTo x i).length + 1), gi (i + 1 : Nat)] _ _ (by omega) (by simp only [go_sem]) ⟨i + 1, _, by omega, rfl, ?_, ho.keeps hk (Nat.le_refl _)⟩
      rw [bitsTo_succ, if_pos hb, ni_app, List.length_append]
      exact ho.next hk.1 rfl
theorem bits_end {x i : Nat} (h : x >>> i = 0) (hi : i ≤ 16) : bitsTo x i = bitsOf x := by
  have key : ∀ d, i + d ≤ 16 → bitsTo x (i + d) = bitsTo x i := by
    intro d
    induction d with
    | zero => intro _; rfl
    | succ d ih =>
      intro hd
      rw [← Nat.add_assoc, bitsTo_succ]
      have : x.testBit (i + d) = false := by
        rw [Nat.testBit_eq_decide_div_mod_eq, decide_eq_false_iff_not]
        rw [Nat.shiftRight_eq_div_pow] at h
        rw [Nat.pow_add, ← Nat.div_div_eq_div_mul, h, Nat.zero_div]
        decide
      rw [this]; exact ih (by omega)
  have := key (16 - i) (by omega)
  rw [Nat.add_sub_cancel' hi] at this
  exact this.symm
theorem caBits_c {x : Nat} (hx : x < 65536) : Ok (cal C base 61 [gi x] H) fun s H' => ∃ F, H' = H ++ F ∧ OwnL H.length H' 3 1 s (bitsOf x).length (ni (bitsOf x)) := by
  refine ok_fn Try.func61 rfl rfl (res := [.tmp 2]) rfl Try.ntmps61 20 base _ H ?_
  simp only [go_sem, show C.wr 61 = false from rfl]
  rw [fin_loopk [5, 6, 7, 8, 11, 12, 13, 14, 15, 16, 17, 18, 19, 9, 10] rfl]
  refine lp_ok [3, 4] (fun j vs H' => ∃ (i : Nat) (s : Value), i + j = 16 ∧ vs = [s, gi i] ∧ OwnL H.length H' 3 1 s (bitsTo x i).length (ni (bitsTo x i)) ∧ Keeps H.length H H') 16 [.slice none 0 0, gi 0] ?_ (by omega) (by simp only [go_sem]) ⟨0, _, by omega, rfl, .nil _ _ _ _, .refl _ _⟩
  rintro j m vs H' ⟨i, s, hij, rfl, ho, hk⟩ ih
  have h16 : x >>> 16 = 0 := by rw [Nat.shiftRight_eq_div_pow]; omega
  cases hlt : decide ((0 : Int) < ((x >>> i : Nat) : Int))
  · have h0 : x >>> i = 0 := by
      have := of_decide_eq_false hlt
      revert this
      generalize x >>> i = z
      omega
    rw [bits_end h0 (by omega)] at ho
    obtain ⟨s', F, old, e, ho'⟩ := ho.hand (P := C.P) (acc := H) (l := []) (show tySize C.P 3 = some 1 from rfl) (by simp [isG, sc, ni])
    simp only [go_sem, bit64 (o' := default) (show i < 64 by omega), hlt, Chb (show wrF 61 = false from rfl), take_keeps hk, e]
    exact .some ⟨F, rfl, ho'⟩
  · have h0 : x >>> i ≠ 0 := by have := of_decide_eq_true hlt; omega
    have hl2 : i < 16 := by
      rcases Nat.lt_or_ge i 16 with h | h
      · exact h
      · obtain rfl : i = 16 := by omega
        exact absurd h16 h0
    have hxs : x >>> i < 65536 := by rw [Nat.shiftRight_eq_div_pow]; exact Nat.lt_of_le_of_lt (Nat.div_le_self _ _) hx
    cases hb : x.testBit i
    · simp only [go_sem, bit64 (o' := default) (show i < 64 by omega), hlt, one64 hxs, tb, hb]
      rw [wrapN (by omega)]
      refine ih (j - 1) [s, gi (i + 1 : Nat)] _ _ (by omega) (by simp only [go_sem]) ⟨i + 1, s, by omega, rfl, ?_, hk⟩
      rw [bitsTo_succ, hb]; exact ho
    · have hap := ho.app (base := H.length) ts34 (Nat.le_refl _) (ys := [gi i]) rfl (by have := bitsTo_len x i; unfold room; omega)
      simp only [go_sem, bit64 (o' := default) (show i < 64 by omega), hlt, one64 hxs, tb, hb, bs_one ts34 (x := gi _) rfl rfl, eo_append (show notInt C.P 34 = true from rfl), hap]
      rw [wrapN (by omega)]
      refine ih (j - 1) [.slice (some ⟨H'.length + 1, 0, some 1⟩) ((bitsTo x i).length + 1) ((bitsTo x i).length + 1), gi (i + 1 : Nat)] _ _ (by omega) (by simp only [go_sem]) ⟨i + 1, _, by omega, rfl, ?_, ho.keeps hk (Nat.le_refl _)⟩
      rw [bitsTo_succ, if_pos hb, ni_app, List.length_append]
      exact ho.next hk.1 rfl
end T

open Go Go.Am
namespace T
open Go.Proofs
set_option maxRecDepth 100000
set_option maxHeartbeats 4000000
set_option linter.unusedSimpArgs false
set_option linter.unusedVariables false
variable {base : Nat} {H : Heap}
theorem ts27 : TyS C.P 27 34 1 (.slice none 0 0) := ⟨rfl, rfl, rfl, ⟨rfl, by decide, rfl⟩, rfl⟩
theorem ElU {s : Value} {B : List Nat} (h : Shows H 1 s B.length (nu B)) {i : Nat} (hi : i < B.length) : ∃ b o T cs, indexAddrA C.P 52 s (gi i) = some (.pointer (some ⟨b, o, none⟩)) ∧ hget H b = some (T, cs) ∧ cs[o]? = some (.int .u16 (B.getD i 0 : Nat)) := by
  obtain ⟨b, o, T, cs, h1, h2, _, _, h4⟩ := Shows.at (P := C.P) (t := 52) (el := 62) (K := .i64) h hi rfl rfl
  refine ⟨b, o, T, cs, h1, h2, ?_⟩
  have := h4 0 (by decide)
  rw [Nat.add_zero, Nat.mul_one, Nat.add_zero, nu_get B hi] at this
  exact this
theorem ElI {s : Value} {B : List Nat} (h : Shows H 1 s B.length (ni B)) {i : Nat} (hi : i < B.length) : ∃ b o T cs, indexAddrA C.P 34 s (gi i) = some (.pointer (some ⟨b, o, none⟩)) ∧ hget H b = some (T, cs) ∧ cs[o]? = some (gi (B.getD i 0 : Nat)) := by
  obtain ⟨b, o, T, cs, h1, h2, _, _, h4⟩ := Shows.at (P := C.P) (t := 34) (el := 3) (K := .i64) h hi rfl rfl
  refine ⟨b, o, T, cs, h1, h2, ?_⟩
  have := h4 0 (by decide)
  rw [Nat.add_zero, Nat.mul_one, Nat.add_zero, ni_get B hi] at this
  exact this
/-- A list of lists. -/
def RowsL (k : Nat) (H : Heap) (s : Value) (LL : List (List Nat)) : Prop :=
  ∃ cs, OwnL k H 34 1 s LL.length cs ∧ ∀ (i : Nat) (r : List Nat), LL[i]? = some r → ∃ v, cs[i]? = some v ∧ OwnL k H 3 1 v r.length (ni r)
theorem RowsL.next {k : Nat} {s v : Value} {LL : List (List Nat)} {r : List Nat} {cs : List Value} (ho : OwnL k H 34 1 s LL.length cs) (hr : ∀ (i : Nat) (r : List Nat), LL[i]? = some r → ∃ v, cs[i]? = some v ∧ OwnL k H 3 1 v r.length (ni r)) (hv : OwnL k H 3 1 v r.length (ni r)) (hk : k ≤ H.length) :
    RowsL k (apH H (some (34, [v])) (some (34, cs ++ [v])) s) (.slice (some ⟨H.length + 1, 0, some 1⟩) (LL.length + 1) (LL.length + 1)) (LL ++ [r]) := by
  refine ⟨cs ++ [v], by rw [List.length_append]; exact ho.next hk rfl, fun i q hq => ?_⟩
  have hl : cs.length = LL.length := by rw [ho.1]; omega
  rcases Nat.lt_or_ge i LL.length with h | h
  · rw [List.getElem?_append_left h] at hq
    obtain ⟨u, h1, h2⟩ := hr i q hq
    exact ⟨u, by rw [List.getElem?_append_left (by omega)]; exact h1, h2.past ho (by decide)⟩
  · rw [List.getElem?_append_right h] at hq
    have : i - LL.length = 0 := by
      rcases Nat.eq_zero_or_pos (i - LL.length) with e | e
      · exact e
      · rw [List.getElem?_eq_none (by simp; omega)] at hq; cases hq
    rw [this] at hq
    simp only [List.getElem?_cons_zero, Option.some.injEq] at hq
    subst hq
    refine ⟨v, ?_, hv.past ho (by decide)⟩
    rw [List.getElem?_append_right (by omega), hl, this]; rfl
theorem RowsL.keep {k : Nat} {H' : Heap} {s : Value} {LL : List (List Nat)} (h : RowsL k H s LL) (hk : Keeps H.length H H') : RowsL k H' s LL := by
  obtain ⟨cs, h1, h2⟩ := h
  exact ⟨cs, h1.keep hk, fun i r hr => by obtain ⟨v, k1, k2⟩ := h2 i r hr; exact ⟨v, k1, k2.keep hk⟩⟩

theorem lists_c {s : Value} {B : List Nat} (hs : Shows H 1 s B.length (nu B)) (hB : B.length < 1000) (hx : ∀ x ∈ B, x < 65536) : Ok (cal C base 32 [s] H) fun s H' => Keeps H.length H H' ∧ RowsL H.length H' s (B.map bitsOf) := by
  refine ok_fn Try.func32 rfl rfl (res := [.tmp 2]) rfl Try.ntmps32 1001 base _ H ?_
  obtain ⟨a, c, rfl⟩ := hs.sl
  simp only [go_sem, show C.wr 32 = false from rfl, bs_nil ts27]
  rw [fin_loopk [10, 11, 12, 5, 13, 14, 15, 16, 17, 18] rfl]
  refine lp_ok [3, 9] (fun j vs H' => ∃ (i : Nat) (s : Value), i + j = B.length ∧ vs = [s, gi i] ∧ Keeps H.length H H' ∧ RowsL H.length H' s ((B.take i).map bitsOf)) B.length [.slice (some ⟨H.length, 0, some 1⟩) 0 0, gi 0] ?_ (by omega) (by simp only [go_sem]) ⟨0, _, by omega, rfl, .append (Nat.le_refl _) _, [], .empty _ _ _ (Nat.le_refl _), fun i r hr => by simp at hr⟩
  rintro j m vs H' ⟨i, s, hij, rfl, hk, hR⟩ ih
  cases hlt : decide ((i : Int) < (B.length : Int))
  · obtain rfl : i = B.length := by have := of_decide_eq_false hlt; omega
    simp only [go_sem, hlt, Chr (show (rawF 32 || wrF 32) = true from rfl)]
    rw [List.take_length] at hR
    exact .some ⟨hk, hR⟩
  · have hi : i < B.length := by have := of_decide_eq_true hlt; omega
    obtain ⟨b, o, T, cs, h1, h2, h3⟩ := ElU (hs.keep hk) hi
    have hxi : B.getD i 0 < 65536 := by simp [hi]; exact hx _ (List.getElem_mem hi)
    obtain ⟨v, H2, e, F, rfl, hv⟩ := listed_c (base := H.length) (H := H') hxi
    obtain ⟨cs2, ho, hr⟩ := hR
    have hkF : Keeps H'.length H' (H' ++ F) := .append (Nat.le_refl _) _
    have hap := (ho.keep hkF).app (base := H.length) ts27 (Nat.le_refl _) (ys := [v]) rfl (by simp; unfold room; omega)
    have hvs : ∃ a c, v = .slice a c c := by
      obtain ⟨_, ⟨rfl, h, _⟩ | ⟨b', _, rfl, _⟩⟩ := hv <;> exact ⟨_, _, rfl⟩
    have hbs : buildSliceA C.P (H' ++ F) 27 1 [(0, v)] = some (.slice (some ⟨(H' ++ F).length, 0, some 1⟩) 1 1, H' ++ F ++ [some (34, [v])]) := by
      obtain ⟨a', c', rfl⟩ := hvs
      exact bs_one ts27 rfl rfl
    simp only [go_sem, hlt, h1, h2, h3, ld62, ld3, e, hbs, eo_append (show notInt C.P 27 = true from rfl), hap]
    rw [wrapN (by omega)]
    refine ih (j - 1) [_, gi (i + 1 : Nat)] _ _ (by omega) ?_ ⟨i + 1, .slice (some ⟨(H' ++ F).length + 1, 0, some 1⟩) (((B.take i).map bitsOf).length + 1) (((B.take i).map bitsOf).length + 1), by omega, rfl, (ho.keep hkF).keeps (hk.trans (.append hk.1 _)) (Nat.le_refl _), ?_⟩
    · simp only [go_sem]
    · rw [List.take_succ_eq_append_getElem hi, List.map_append]
      have hg : B.getD i 0 = B[i] := by simp [hi]
      rw [hg] at hv
      exact RowsL.next (r := bitsOf B[i]) (ho.keep hkF) (fun i r h => by obtain ⟨v, k1, k2⟩ := hr i r h; exact ⟨v, k1, k2.keep hkF⟩) (hv.low hk.1) (by have := hk.1; simp; omega)

theorem leLists_c {s : Value} {B : List Nat} (hs : Shows H 1 s B.length (ni B)) (hB : B.length < 1000) (hx : ∀ x ∈ B, x < 65536) : Ok (cal C base 34 [s] H) fun s H' => Keeps H.length H H' ∧ RowsL H.length H' s (B.map bitsOf) := by
  refine ok_fn Try.func34 rfl rfl (res := [.tmp 2]) rfl Try.ntmps34 1001 base _ H ?_
  obtain ⟨a, c, rfl⟩ := hs.sl
  simp only [go_sem, show C.wr 34 = false from rfl, bs_nil ts27]
  rw [fin_loopk [9, 10, 11, 5, 12, 13, 14, 15, 16, 17] rfl]
  refine lp_ok [3, 8] (fun j vs H' => ∃ (i : Nat) (s : Value), i + j = B.length ∧ vs = [s, gi i] ∧ Keeps H.length H H' ∧ RowsL H.length H' s ((B.take i).map bitsOf)) B.length [.slice none 0 0, gi 0] ?_ (by omega) (by simp only [go_sem]) ⟨0, _, by omega, rfl, .refl _ _, [], .nil _ _ _ _, fun i r hr => by simp at hr⟩
  rintro j m vs H' ⟨i, s, hij, rfl, hk, hR⟩ ih
  cases hlt : decide ((i : Int) < (B.length : Int))
  · obtain rfl : i = B.length := by have := of_decide_eq_false hlt; omega
    simp only [go_sem, hlt, Chr (show (rawF 34 || wrF 34) = true from rfl)]
    rw [List.take_length] at hR
    exact .some ⟨hk, hR⟩
  · have hi : i < B.length := by have := of_decide_eq_true hlt; omega
    obtain ⟨b, o, T, cs, h1, h2, h3⟩ := ElI (hs.keep hk) hi
    have hxi : B.getD i 0 < 65536 := by simp [hi]; exact hx _ (List.getElem_mem hi)
    obtain ⟨v, H2, e, F, rfl, hv⟩ := caBits_c (base := H.length) (H := H') hxi
    obtain ⟨cs2, ho, hr⟩ := hR
    have hkF : Keeps H'.length H' (H' ++ F) := .append (Nat.le_refl _) _
    have hap := (ho.keep hkF).app (base := H.length) ts27 (Nat.le_refl _) (ys := [v]) rfl (by simp; unfold room; omega)
    have hvs : ∃ a c, v = .slice a c c := by
      obtain ⟨_, ⟨rfl, h, _⟩ | ⟨b', _, rfl, _⟩⟩ := hv <;> exact ⟨_, _, rfl⟩
    have hbs : buildSliceA C.P (H' ++ F) 27 1 [(0, v)] = some (.slice (some ⟨(H' ++ F).length, 0, some 1⟩) 1 1, H' ++ F ++ [some (34, [v])]) := by
      obtain ⟨a', c', rfl⟩ := hvs
      exact bs_one ts27 rfl rfl
    simp only [go_sem, hlt, h1, h2, h3, ld62, ld3, e, hbs, eo_append (show notInt C.P 27 = true from rfl), hap]
    rw [wrapN (by omega)]
    refine ih (j - 1) [_, gi (i + 1 : Nat)] _ _ (by omega) ?_ ⟨i + 1, .slice (some ⟨(H' ++ F).length + 1, 0, some 1⟩) (((B.take i).map bitsOf).length + 1) (((B.take i).map bitsOf).length + 1), by omega, rfl, (ho.keep hkF).keeps (hk.trans (.append hk.1 _)) (Nat.le_refl _), ?_⟩
    · simp only [go_sem]
    · rw [List.take_succ_eq_append_getElem hi, List.map_append]
      have hg : B.getD i 0 = B[i] := by simp [hi]
      rw [hg] at hv
      exact RowsL.next (r := bitsOf B[i]) (ho.keep hkF) (fun i r h => by obtain ⟨v, k1, k2⟩ := hr i r h; exact ⟨v, k1, k2.keep hkF⟩) (hv.low hk.1) (by have := hk.1; simp; omega)
end T

open Go Go.Am
namespace T
open Go.Proofs
set_option maxRecDepth 100000
set_option maxHeartbeats 4000000
set_option linter.unusedSimpArgs false
set_option linter.unusedVariables false
variable {base : Nat} {H : Heap}
theorem areL_lt {n : Int} {L : List (Int × Int)} (h : areL n L = true) : ∃ (m : Nat) (M : List (Nat × Nat)), n = m ∧ m ≤ 10 ∧ 0 < m ∧ L = toZ M ∧ M.length ≤ 60 ∧ ∀ l ∈ M, l.1 < m ∧ l.2 < m ∧ l.1 ≠ l.2 := by
  simp only [areL, areF, Bool.and_eq_true, decide_eq_true_eq] at h
  obtain ⟨⟨⟨h1, h2⟩, h3⟩, h4⟩ := h
  obtain ⟨m, rfl⟩ := Int.eq_ofNat_of_zero_le (show 0 ≤ n by omega)
  refine ⟨m, L.map fun l => (l.1.toNat, l.2.toNat), rfl, by omega, by omega, ?_, by simpa using h3, ?_⟩
  · have : ∀ l ∈ L, ((l.1.toNat : Int), (l.2.toNat : Int)) = l := by
      intro l hl
      have := List.all_eq_true.1 h4 l hl
      simp only [isL, inF, Bool.and_eq_true, decide_eq_true_eq] at this
      obtain ⟨⟨⟨a1, a2⟩, b1, b2⟩, _⟩ := this
      rw [Int.toNat_of_nonneg a1, Int.toNat_of_nonneg b1]
    unfold toZ
    rw [List.map_map]
    have e : List.map ((fun l : Nat × Nat => ((l.1 : Int), (l.2 : Int))) ∘ fun l : Int × Int => (l.1.toNat, l.2.toNat)) L = List.map id L := List.map_congr_left fun l hl => this l hl
    rw [e, List.map_id]
  · intro l hl
    obtain ⟨q, hq, rfl⟩ := List.mem_map.1 hl
    have := List.all_eq_true.1 h4 q hq
    simp only [isL, inF, Bool.and_eq_true, decide_eq_true_eq, bne_iff_ne] at this
    obtain ⟨⟨⟨a1, a2⟩, b1, b2⟩, hne⟩ := this
    rw [IntKind.wrap_i64] at a2 b2
    refine ⟨?_, ?_, ?_⟩
    · show q.1.toNat < m; omega
    · show q.2.toNat < m; omega
    · show q.1.toNat ≠ q.2.toNat; omega
def full (n : Nat) (B : List Nat) : Bool := B.all fun x => x == 2 ^ n - 1
theorem sub64 {P : Program} {ρ : Env} {o : Oper} {n : Nat} (h : n < 16) : bin2 P ρ o H .sub (.int .i64 ((2 ^ n : Nat) : Int)) (.int .i64 1) = some (.int .i64 ((2 ^ n - 1 : Nat) : Int), H) := by
  rw [b_sub]
  have h1 := Nat.pow_lt_pow_right (show 1 < 2 by decide) h
  have h2 := Nat.two_pow_pos n
  have e : IntKind.i64.wrap (((2 ^ n : Nat) : Int) - 1) = ((2 ^ n - 1 : Nat) : Int) := by rw [IntKind.wrap_i64]; omega
  rw [e]
theorem caAll_c {s : Value} {B : List Nat} (hs : Shows H 1 s B.length (ni B)) (hB : B.length ≤ 10) : cal C base 37 [s] H = some (bo (full B.length B), H) := by
  refine cal_fn Try.func37 rfl rfl (res := [.tmp 2]) rfl Try.ntmps37 1001 base _ H ?_
  obtain ⟨a, c, rfl⟩ := hs.sl
  simp only [go_sem, show C.wr 37 = false from rfl]
  rw [fin_loopk [8, 9, 10, 4, 11, 12, 13, 14, 15, 16, 2, 17] rfl]
  refine lp_run [7] (fun j vs H' => ∃ i : Nat, i + j = B.length ∧ vs = [gi i] ∧ (∀ k (h : k < B.length), k < i → B[k] = 2 ^ B.length - 1) ∧ H' = H) ?_ B.length [gi 0] (by omega) (by simp only [go_sem]) ⟨0, by omega, rfl, fun k _ h => absurd h (Nat.not_lt_zero _), rfl⟩
  rintro j m vs H' ⟨i, hij, rfl, hno, rfl⟩ ih
  cases hlt : decide ((i : Int) < (B.length : Int))
  · simp only [go_sem, hlt, Chb (show wrF 37 = false from rfl)]
    have : full B.length B = true := by
      unfold full
      rw [List.all_eq_true]
      intro x hx
      obtain ⟨k, hk, rfl⟩ := List.getElem_of_mem hx
      rw [beq_iff_eq]
      exact hno k hk (by have := of_decide_eq_false hlt; omega)
    rw [this]
  · have hi : i < B.length := by have := of_decide_eq_true hlt; omega
    obtain ⟨b, o, T, cs, h1, h2, h3⟩ := ElI hs hi
    have hg : B.getD i 0 = B[i] := by simp [hi]
    rw [hg] at h3
    cases hpi : ((B[i] : Nat) : Int) != ((2 ^ B.length - 1 : Nat) : Int)
    · simp only [go_sem, hlt, h1, h2, h3, b_shl (Int.natCast_nonneg _), sh64 B.length (by omega), sub64 (show B.length < 16 by omega), hpi]
      rw [wrapN (by omega)]
      refine ih (j - 1) [gi (i + 1 : Nat)] _ _ (by omega) (by simp only [go_sem]) ⟨i + 1, by omega, rfl, fun k hk hki => ?_, rfl⟩
      by_cases e : k = i
      · subst e
        have := bne_eq_false_iff_eq.1 hpi
        exact_mod_cast this
      · exact hno k hk (by omega)
    · simp only [go_sem, hlt, h1, h2, h3, b_shl (Int.natCast_nonneg _), sh64 B.length (by omega), sub64 (show B.length < 16 by omega), hpi, Chb (show wrF 37 = false from rfl)]
      have : full B.length B = false := by
        unfold full
        rw [List.all_eq_false]
        refine ⟨_, List.getElem_mem hi, ?_⟩
        rw [beq_iff_eq]
        intro e
        rw [e] at hpi
        simp at hpi
      rw [this]
theorem known_c {n : Int} {s : Value} {L : List (Int × Int)} (hs : SL H s L) (hL : L.length < 1000) (h : areL n L = false) : cal C base 6 [gi n, s] H = some (.tuple #[.slice none 0 0, bo false], H) ∧ cal C base 7 [gi n, s] H = some (.tuple #[.slice none 0 0, bo false], H) := by
  constructor
  · refine cal_fn Try.func6 rfl rfl (res := [.tmp 4, .tmp 5]) rfl Try.ntmps6 1 base _ H ?_
    simp only [go_sem, areL_c hs hL, h, Chr (show (rawF 6 || wrF 6) = true from rfl)]
  · refine cal_fn Try.func7 rfl rfl (res := [.tmp 4, .tmp 5]) rfl Try.ntmps7 1 base _ H ?_
    simp only [go_sem, leGood_c hs hL, h, Chr (show (rawF 7 || wrF 7) = true from rfl)]
theorem pl16 {n : Nat} (hn : n ≤ 10) {M : List (Nat × Nat)} : ∀ x ∈ play n M, x < 65536 := fun x hx => Nat.lt_of_lt_of_le ((play_ok hn M).2 x hx) (Nat.le_trans (Nat.pow_le_pow_right (by decide) hn) (by decide))
theorem knownI_c {n : Nat} {s : Value} {M : List (Nat × Nat)} (hs : SL H s (toZ M)) (hM : M.length < 1000) (hn : n ≤ 10) (hr : ∀ l ∈ M, l.1 < n ∧ l.2 < n) (h : areL n (toZ M) = true) :
    Ok (cal C base 6 [gi n, s] H) fun v H' => Keeps H.length H H' ∧ ∃ t, v = .tuple #[t, bo true] ∧ RowsL H.length H' t ((play n M).map bitsOf) := by
  refine ok_fn Try.func6 rfl rfl (res := [.tmp 4, .tmp 5]) rfl Try.ntmps6 1 base _ H ?_
  have hZ : (toZ M).length = M.length := by simp [toZ]
  obtain ⟨v, H1, e1, F, rfl, ho⟩ := byL_c (base := H.length) hn hs hM hr
  have hl := (play_ok hn M).1
  have hsh : Shows (H ++ F) 1 v (play n M).length (nu (play n M)) := by rw [hl]; exact ho.shows
  obtain ⟨t, H2, e2, hk, hR⟩ := lists_c (base := H.length) hsh (by omega) (pl16 hn)
  simp only [go_sem, show C.wr 6 = false from rfl, areL_c hs (by rw [hZ]; exact hM), h, e1, e2, Chr (show (rawF 6 || wrF 6) = true from rfl)]
  refine .some ⟨(Keeps.append (Nat.le_refl _) F).trans (hk.mono (by simp)), t, rfl, ?_⟩
  obtain ⟨cs, h1, h2⟩ := hR
  exact ⟨cs, h1.low (by simp), fun i r hr => by obtain ⟨v, k1, k2⟩ := h2 i r hr; exact ⟨v, k1, k2.low (by simp)⟩⟩
theorem knownS_c {n : Nat} {s : Value} {M : List (Nat × Nat)} (hs : SL H s (toZ M)) (hM : M.length < 1000) (hn : n ≤ 10) (hr : ∀ l ∈ M, l.1 < n ∧ l.2 < n) (h : areL n (toZ M) = true) :
    Ok (cal C base 7 [gi n, s] H) fun v H' => Keeps H.length H H' ∧ ∃ t, v = .tuple #[t, bo true] ∧ RowsL H.length H' t ((play n M).map bitsOf) := by
  refine ok_fn Try.func7 rfl rfl (res := [.tmp 4, .tmp 5]) rfl Try.ntmps7 1 base _ H ?_
  have hZ : (toZ M).length = M.length := by simp [toZ]
  obtain ⟨v, H1, e1, F, rfl, ho⟩ := lePlay_c (base := H.length) hn hs hM hr
  have hl := (play_ok hn M).1
  have hsh : Shows (H ++ F) 1 v (play n M).length (ni (play n M)) := by rw [hl]; exact ho.shows
  obtain ⟨t, H2, e2, hk, hR⟩ := leLists_c (base := H.length) hsh (by omega) (pl16 hn)
  simp only [go_sem, show C.wr 7 = false from rfl, leGood_c hs (by rw [hZ]; exact hM), h, e1, e2, Chr (show (rawF 7 || wrF 7) = true from rfl)]
  refine .some ⟨(Keeps.append (Nat.le_refl _) F).trans (hk.mono (by simp)), t, rfl, ?_⟩
  obtain ⟨cs, h1, h2⟩ := hR
  exact ⟨cs, h1.low (by simp), fun i r hr => by obtain ⟨v, k1, k2⟩ := h2 i r hr; exact ⟨v, k1, k2.low (by simp)⟩⟩
end T

open Go Go.Am
namespace T
open Go.Proofs
set_option maxRecDepth 100000
set_option maxHeartbeats 4000000
set_option linter.unusedSimpArgs false
set_option linter.unusedVariables false
variable {base : Nat} {H : Heap}
/-- How many bits. -/
def pop8 (x : Nat) : Nat := x % 2 + x / 2 % 2 + x / 4 % 2 + x / 8 % 2 + x / 16 % 2 + x / 32 % 2 + x / 64 % 2 + x / 128 % 2
def pop (x : Nat) : Nat := pop8 (x / 256) + pop8 (x % 256)
theorem sh8 {P : Program} {ρ : Env} {o : Oper} {x : Nat} (hx : x < 65536) : bin2 P ρ o H .shr (.int .u16 (x : Int)) (.int .i64 8) = some (.int .u16 ((x / 256 : Nat) : Int), H) := by
  have := bit16 (H := H) (P := P) (ρ := ρ) (o := o) (o' := o) hx (i := 8) (by decide)
  rw [Nat.shiftRight_eq_div_pow] at this
  exact this
theorem sh8' {P : Program} {ρ : Env} {o : Oper} {x : Nat} {K : IntKind} (hx : x < 65536) : bin2 P ρ o H .shr (.int .u16 (x : Int)) (.int K 8) = some (.int .u16 ((x / 256 : Nat) : Int), H) := by
  rw [b_shr (by decide)]
  have e : ((x : Int).fdiv (2 ^ min (8 : Int).toNat IntKind.u16.bits)) = ((x / 256 : Nat) : Int) := by
    rw [show (2 : Int) ^ min (8 : Int).toNat IntKind.u16.bits = 256 by decide, Int.fdiv_eq_ediv_of_nonneg _ (by decide)]
    rfl
  rw [e]
theorem and8 {P : Program} {ρ : Env} {o : Oper} {x : Nat} (hx : x < 65536) : bin2 P ρ o H .and (.int .u16 (x : Int)) (.int .u16 255) = some (.int .u16 ((x % 256 : Nat) : Int), H) := by
  rw [b_and]
  refine congrArg (fun z => some (Value.int .u16 z, H)) ?_
  have e : (BitVec.ofInt 16 (x : Int) &&& BitVec.ofInt 16 255).toNat = x % 256 := by
    rw [BitVec.toNat_and, BitVec.toNat_ofInt, BitVec.toNat_ofInt, show ((255 : Int) % ((2 ^ 16 : Nat) : Int)).toNat = 2 ^ 8 - 1 by decide, show ((x : Int) % ((2 ^ 16 : Nat) : Int)).toNat = x by omega, Nat.and_two_pow_sub_one_eq_mod]
  show IntKind.u16.wrap ((BitVec.ofInt 16 (x : Int) &&& BitVec.ofInt 16 255).toNat : Int) = _
  rw [e]; simp only [IntKind.wrap, IntKind.bits, IntKind.signed, Bool.false_and, Bool.false_eq_true, if_false]; omega
theorem ones_c {x : Nat} (hx : x < 65536) : cal C base 84 [.int .u16 (x : Int)] H = some (gi (pop x), H) := by
  refine cal_fn Try.func84 rfl rfl (res := [.tmp 2]) rfl Try.ntmps84 1 base _ H ?_
  simp only [go_sem, show C.wr 84 = false from rfl]
  rw [fin_regd]
  rotate_left; · decide +kernel
  simp only [go_sem, sh8' hx, and8 hx]
  have h1 : x / 256 < 256 := by omega
  have h2 : x % 256 < 256 := Nat.mod_lt _ (by decide)
  have l8 : ∀ y : Nat, y < 256 → pop8 y ≤ 8 := by intro y _; unfold pop8; omega
  rw [eo_index (i := x / 256) (K := .u16) (b := UInt8.ofNat (pop8 (x / 256))) rfl rfl ?hb rfl]
  case hb => generalize x / 256 = y at *; clear hx h2 l8; revert y; decide +kernel
  simp only [go_sem, and8 hx]
  rw [eo_index (i := x % 256) (K := .u16) (b := UInt8.ofNat (pop8 (x % 256))) rfl rfl ?hb rfl]
  case hb => generalize x % 256 = y at *; clear hx h1 l8; revert y; decide +kernel
  simp only [go_sem]
  rw [eo_convI (K := .i64) (K' := .u8) rfl ⟨.u8, rfl⟩ rfl]
  simp only [go_sem, Chb (show wrF 84 = false from rfl)]
  have e : IntKind.i64.wrap (IntKind.u8.wrap (((UInt8.ofNat (pop8 (x / 256))).toNat : Int) + ((UInt8.ofNat (pop8 (x % 256))).toNat : Int))) = ((pop x : Nat) : Int) := by
    have a1 := l8 _ h1
    have a2 := l8 _ h2
    rw [UInt8.toNat_ofNat', UInt8.toNat_ofNat', IntKind.wrap_i64]
    unfold pop
    simp only [IntKind.wrap, IntKind.bits, IntKind.signed, Bool.false_and, Bool.false_eq_true, if_false]
    omega
  rw [e]
end T

open Go Go.Am
namespace T
open Go.Proofs
set_option maxRecDepth 100000
set_option maxHeartbeats 4000000
set_option linter.unusedSimpArgs false
set_option linter.unusedVariables false
variable {base : Nat} {H : Heap}
def popSum (B : List Nat) : Nat := (B.map pop).sum
theorem pop_le (x : Nat) : pop x ≤ 16 := by unfold pop pop8; omega
theorem addN {a b : Nat} (ha : a < 1000000) (hb : b < 1000000) : IntKind.i64.wrap ((a : Int) + (b : Int)) = ((a + b : Nat) : Int) := by rw [IntKind.wrap_i64]; omega
theorem popSum_le (B : List Nat) : popSum B ≤ 16 * B.length := by
  induction B with
  | nil => exact Nat.zero_le _
  | cons a l ih => have := pop_le a; simp only [popSum, List.map_cons, List.sum_cons, List.length_cons] at ih ⊢; omega
theorem count_g (f : List Nat → Nat) {s : Value} {B : List Nat} (h0 : f [] = 0) (h1 : ∀ (i : Nat) (h : i < B.length), IntKind.i64.wrap (((f (B.take i) : Nat) : Int) + ((pop B[i] : Nat) : Int)) = ((f (B.take (i + 1)) : Nat) : Int)) (hs : Shows H 1 s B.length (nu B)) (hB : B.length < 1000) (hx : ∀ x ∈ B, x < 65536) : cal C base 63 [s] H = some (gi (f B), H) := by
  refine cal_fn Try.func63 rfl rfl (res := [.tmp 2]) rfl Try.ntmps63 1001 base _ H ?_
  obtain ⟨a, c, rfl⟩ := hs.sl
  simp only [go_sem, show C.wr 63 = false from rfl]
  rw [fin_loopk [9, 10, 11, 5, 12, 13, 14, 15, 16] rfl]
  refine lp_run [3, 8] (fun j vs H' => ∃ i : Nat, i + j = B.length ∧ vs = [gi (f (B.take i)), gi i] ∧ H' = H) ?_ B.length [gi 0, gi 0] (by omega) (by simp only [go_sem]) ⟨0, by omega, by rw [List.take_zero, h0]; rfl, rfl⟩
  rintro j m vs H' ⟨i, hij, rfl, rfl⟩ ih
  cases hlt : decide ((i : Int) < (B.length : Int))
  · obtain rfl : i = B.length := by have := of_decide_eq_false hlt; omega
    simp only [go_sem, hlt, Chb (show wrF 63 = false from rfl), List.take_length]
  · have hi : i < B.length := by have := of_decide_eq_true hlt; omega
    obtain ⟨b, o, T, cs, k1, k2, k3⟩ := ElU hs hi
    have hg : B.getD i 0 = B[i] := by simp [hi]
    rw [hg] at k3
    simp only [go_sem, hlt, k1, k2, k3, ones_c (hx _ (List.getElem_mem hi)), h1 i hi]
    rw [wrapN (by omega)]
    exact ih (j - 1) [gi (f (B.take (i + 1))), gi (i + 1 : Nat)] _ _ (by omega) (by simp only [go_sem]) ⟨i + 1, by omega, rfl, rfl⟩
theorem count_c {s : Value} {B : List Nat} (hs : Shows H 1 s B.length (nu B)) (hB : B.length < 1000) (hx : ∀ x ∈ B, x < 65536) : cal C base 63 [s] H = some (gi (popSum B), H) := by
  refine count_g popSum rfl (fun i hi => ?_) hs hB hx
  have a1 := popSum_le (B.take i)
  have a2 := pop_le B[i]
  have a3 : (B.take i).length ≤ 1000 := by simp; omega
  have a4 : popSum (B.take (i + 1)) = popSum (B.take i) + pop B[i] := by
    rw [List.take_succ_eq_append_getElem hi]; simp only [popSum, List.map_append, List.sum_append, List.map_cons, List.map_nil, List.sum_cons, List.sum_nil, Nat.add_zero]
  rw [a4]; exact addN (by omega) (by omega)
def allK (B : List Nat) : Bool := popSum B == B.length * B.length
theorem allKnow_c {s : Value} {B : List Nat} (hs : Shows H 1 s B.length (nu B)) (hB : B.length < 1000) (hx : ∀ x ∈ B, x < 65536) : cal C base 36 [s] H = some (bo (allK B), H) := by
  refine cal_fn Try.func36 rfl rfl (res := [.tmp 2]) rfl Try.ntmps36 1 base _ H ?_
  have hc := count_c (base := H.length) hs hB hx
  obtain ⟨a, c, rfl⟩ := hs.sl
  have e : IntKind.i64.wrap ((B.length : Int) * (B.length : Int)) = ((B.length * B.length : Nat) : Int) := by
    have : B.length * B.length < 1000 * 1000 := Nat.mul_lt_mul'' hB hB
    rw [IntKind.wrap_i64]
    push_cast
    have h2 : ((B.length : Int) * (B.length : Int)) = ((B.length * B.length : Nat) : Int) := by push_cast; rfl
    rw [h2]
    generalize B.length * B.length = q at *
    omega
  have e2 : (((popSum B : Nat) : Int) == ((B.length * B.length : Nat) : Int)) = allK B := by
    unfold allK
    rw [Bool.eq_iff_iff, beq_iff_eq, beq_iff_eq]
    exact Int.ofNat_inj
  simp only [go_sem, hc, show C.wr 36 = false from rfl, e, e2, Chb (show wrF 36 = false from rfl)]
theorem all_no {n : Int} {s : Value} {L : List (Int × Int)} (hs : SL H s L) (hL : L.length < 1000) (h : areL n L = false) : cal C base 8 [gi n, s] H = some (.tuple #[bo false, bo false], H) ∧ cal C base 9 [gi n, s] H = some (.tuple #[bo false, bo false], H) := by
  constructor
  · refine cal_fn Try.func8 rfl rfl (res := [.tmp 4, .tmp 5]) rfl Try.ntmps8 1 base _ H ?_
    simp only [go_sem, areL_c hs hL, h, Chb (show wrF 8 = false from rfl)]
  · refine cal_fn Try.func9 rfl rfl (res := [.tmp 4, .tmp 5]) rfl Try.ntmps9 1 base _ H ?_
    simp only [go_sem, leGood_c hs hL, h, Chb (show wrF 9 = false from rfl)]
theorem all_c {n : Nat} {s : Value} {M : List (Nat × Nat)} (hs : SL H s (toZ M)) (hM : M.length < 1000) (hn : n ≤ 10) (hr : ∀ l ∈ M, l.1 < n ∧ l.2 < n) (h : areL n (toZ M) = true) :
    cal C base 8 [gi n, s] H = some (.tuple #[bo (allK (play n M)), bo true], H) := by
  refine cal_fn Try.func8 rfl rfl (res := [.tmp 4, .tmp 5]) rfl Try.ntmps8 1 base _ H ?_
  have hZ : (toZ M).length = M.length := by simp [toZ]
  obtain ⟨v, H1, e1, F, rfl, ho⟩ := byL_c (base := H.length) hn hs hM hr
  have hl := (play_ok hn M).1
  have hsh : Shows (H ++ F) 1 v (play n M).length (nu (play n M)) := by rw [hl]; exact ho.shows
  simp only [go_sem, show C.wr 8 = false from rfl, areL_c hs (by rw [hZ]; exact hM), h, e1, allKnow_c hsh (by omega) (pl16 hn), Chb (show wrF 8 = false from rfl)]
theorem allS_c {n : Nat} {s : Value} {M : List (Nat × Nat)} (hs : SL H s (toZ M)) (hM : M.length < 1000) (hn : n ≤ 10) (hr : ∀ l ∈ M, l.1 < n ∧ l.2 < n) (h : areL n (toZ M) = true) :
    cal C base 9 [gi n, s] H = some (.tuple #[bo (full n (play n M)), bo true], H) := by
  refine cal_fn Try.func9 rfl rfl (res := [.tmp 4, .tmp 5]) rfl Try.ntmps9 1 base _ H ?_
  have hZ : (toZ M).length = M.length := by simp [toZ]
  obtain ⟨v, H1, e1, F, rfl, ho⟩ := lePlay_c (base := H.length) hn hs hM hr
  have hl := (play_ok hn M).1
  have hsh : Shows (H ++ F) 1 v (play n M).length (ni (play n M)) := by rw [hl]; exact ho.shows
  have hca := caAll_c (base := H.length) hsh (by omega)
  rw [hl] at hca
  simp only [go_sem, show C.wr 9 = false from rfl, leGood_c hs (by rw [hZ]; exact hM), h, e1, hca, Chb (show wrF 9 = false from rfl)]
end T

