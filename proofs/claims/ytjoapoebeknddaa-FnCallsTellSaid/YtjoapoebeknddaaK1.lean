/- Calls: the machine's functions, tests of calls, what friends know. No conditions. -/
import Derived.Test.YtjoapoebeknddaaA5
import Derived.Test.YtjoapoebeknddaaProg
set_option linter.unusedSimpArgs false
set_option linter.unusedVariables false
/- What the calls' laws speak of. No conditions. -/
open Go Go.Am
namespace T
abbrev gi (n : Int) : Value := .int .i64 n
abbrev bo (b : Bool) : Value := .bool b
def inF (n x : Int) : Bool := decide (0 ≤ x) && decide (x ≤ IntKind.i64.wrap (n - 1))
def areF (n : Int) : Bool := decide (1 ≤ n) && decide (n ≤ 10)
/-- Is this a letter of n friends? -/
def isL (n : Int) (l : Int × Int) : Bool := inF n l.1 && inF n l.2 && (l.1 != l.2)
def lv (l : Int × Int) : Value := .agg #[gi l.1, gi l.2]
def lc (L : List (Int × Int)) : List Value := L.flatMap fun l => [gi l.1, gi l.2]
/-- Are these letters of n friends? -/
def areL (n : Int) (L : List (Int × Int)) : Bool := areF n && decide (L.length ≤ 60) && L.all (isL n)
def backL (M : List (Int × Int)) : List (Int × Int) := M.reverse.map fun l => (l.2, l.1)
end T

open Go Go.Am
namespace T
set_option maxRecDepth 100000
set_option linter.unusedSimpArgs false
def wrF (f : FuncId) : Bool := f == 66 || f == 81 || f == 67 || f == 82 || f == 83 || f == 88 || f == 86 || f == 71 || f == 79 || f == 57
def rawF (f : FuncId) : Bool := f == 6 || f == 7 || f == 38
noncomputable def C : Cfg := { P := Go.Proofs.Try.prog, wr := wrF, raw := rawF, ext := fun _ => false, frn := fun _ => none }
theorem Cwr (f) : C.wr f = wrF f := rfl
theorem Cext (f) : C.ext f = false := rfl
theorem Chb {f m vs H} (h : wrF f = false) (h2 : rawF f = false := by rfl) : handBack C f m vs H = (takeVals C.P m vs H (H.take m)).map fun x => (tupA x.1, x.2.2) := hb_flat (by show (rawF f || wrF f) = false; rw [h, h2]; rfl)
theorem Chr {f m vs H} (h : (rawF f || wrF f) = true) : handBack C f m vs H = some (tupA vs, H) := hb_raw h
section
variable {call : Nat → CallF} {base : Nat} {dr : Bool} {ρ : Env} {H : Heap} {d : Option Tmp} {u : TypeId} {p : String} {e : Array Edge} {g : Option (Nat × Bool)} {f : FuncId} {xs : Array Operand} {ts : Array TypeId}
@[go_sem] theorem Ccall : evalOp C call base false ⟨d, .call ⟨.value (.func f), xs, ts⟩, u, p, e, g⟩ ρ H = call base f (xs.toList.map (ev ρ)) H := eo_call rfl
@[go_sem] theorem Ccalld : evalOp C call base true ⟨d, .call ⟨.value (.func f), xs, ts⟩, u, p, e, g⟩ ρ H = call base f (xs.toList.map (ev ρ)) H := eo_calld rfl
-- the types
theorem ts52 : TyS C.P 51 64 1 (.int .u16 0) := ⟨rfl, rfl, rfl, ⟨rfl, by decide, rfl⟩, rfl⟩
theorem ts24 : TyS C.P 24 67 2 (.agg #[gi 0, gi 0]) := ⟨rfl, rfl, rfl, ⟨rfl, by decide, rfl⟩, rfl⟩
theorem ts34 : TyS C.P 34 3 1 (gi 0) := ⟨rfl, rfl, rfl, ⟨rfl, by decide, rfl⟩, rfl⟩
@[go_sem] theorem te24 : (tyElem C.P 24).isSome = true := rfl
@[go_sem] theorem te52 : (tyElem C.P 51).isSome = true := rfl
@[go_sem] theorem te34 : (tyElem C.P 34).isSome = true := rfl
theorem tg3 : tyAgg C.P 3 = some false := rfl
theorem tg62 : tyAgg C.P 64 = some false := rfl
theorem tg24 : tyAgg C.P 24 = some false := rfl
theorem tg66 : tyAgg C.P 67 = some true := rfl
theorem sz66 : tySize C.P 67 = some 2 := rfl
theorem sz3 : tySize C.P 3 = some 1 := rfl
@[go_sem] theorem ld3 {o T cs} : ld1 C.P 3 o (some (T, cs)) = cs[o]? := ld_sc tg3
@[go_sem] theorem ld62 {o T cs} : ld1 C.P 64 o (some (T, cs)) = cs[o]? := ld_sc tg62
@[go_sem] theorem ld24 {o T cs} : ld1 C.P 24 o (some (T, cs)) = cs[o]? := ld_sc tg24
theorem ld66 {o T cs} : ld1 C.P 67 o (some (T, cs)) = if o + 2 ≤ cs.length then some (.agg ((cs.drop o).take 2).toArray) else none := ld_ag tg66 sz66
@[go_sem] theorem ld66' {T} {x y : Value} : ld1 C.P 67 0 (some (T, [x, y])) = some (.agg #[x, y]) := by simp [ld66]
@[go_sem] theorem al66 : evalOp C call base dr ⟨d, .alloc 67, u, p, e, g⟩ ρ H = some (.pointer (some ⟨H.length, 0, none⟩), H ++ [some (67, [gi 0, gi 0])]) := eo_alloc (z := .agg #[gi 0, gi 0]) rfl rfl
@[go_sem] theorem fa66_0 {b o} : fieldAddrA C.P 67 0 (.pointer (some ⟨b, o, none⟩)) = some (.pointer (some ⟨b, o, none⟩)) := rfl
@[go_sem] theorem fa66_1 {b o} : fieldAddrA C.P 67 1 (.pointer (some ⟨b, o, none⟩)) = some (.pointer (some ⟨b, o + 1, none⟩)) := rfl
theorem st66 {H : Heap} {x0 y0 : Value} {x y : Int} (hb : base ≤ H.length) : storeA C.P base (H ++ [some (67, [x0, y0])]) 67 (.agg #[gi x, gi y]) (.pointer (some ⟨H.length, 0, none⟩)) = some (H ++ [some (67, [gi x, gi y])]) := st_new hb rfl sz66 rfl
theorem w00 : C.wr 0 = false := rfl
end
end T

open Go Go.Am
namespace T
open Go.Proofs
set_option maxRecDepth 100000
set_option maxHeartbeats 4000000
set_option linter.unusedSimpArgs false
variable {base : Nat} {H : Heap}
theorem within_c {n lo hi : Int} : cal C base 64 [gi n, gi lo, gi hi] H = some (bo (decide (lo ≤ n) && decide (n ≤ hi)), H) := by
  refine cal_fn Try.func64 rfl rfl (res := [.tmp 6]) rfl Try.ntmps64 2 base _ H ?_
  cases h : decide (lo ≤ n) <;> simp only [go_sem, h, Cwr, Chb (show wrF 64 = false from rfl)]
theorem in_c {n lo hi : Int} : cal C base 68 [gi n, gi lo, gi hi] H = some (bo (decide (lo ≤ n) && decide (n ≤ hi)), H) := by
  refine cal_fn Try.func68 rfl rfl (res := [.tmp 6]) rfl Try.ntmps68 2 base _ H ?_
  cases h : decide (lo ≤ n) <;> simp only [go_sem, h, Cwr, Chb (show wrF 68 = false from rfl)]
theorem isFriend_c {n x : Int} : cal C base 63 [gi n, gi x] H = some (bo (inF n x), H) := by
  refine cal_fn Try.func63 rfl rfl (res := [.tmp 4]) rfl Try.ntmps63 2 base _ H ?_
  simp only [go_sem, within_c, Chb (show wrF 63 = false from rfl), inF]
theorem areFriends_c {n : Int} : cal C base 58 [gi n] H = some (bo (areF n), H) := by
  refine cal_fn Try.func58 rfl rfl (res := [.tmp 2]) rfl Try.ntmps58 2 base _ H ?_
  simp only [go_sem, within_c, Chb (show wrF 58 = false from rfl), areF]
theorem caFriends_c {n : Int} : cal C base 73 [gi n] H = some (bo (areF n), H) := by
  refine cal_fn Try.func73 rfl rfl (res := [.tmp 2]) rfl Try.ntmps73 2 base _ H ?_
  simp only [go_sem, in_c, Chb (show wrF 73 = false from rfl), areF]
theorem lc_len (L : List (Int × Int)) : (lc L).length = L.length * 2 := by
  induction L with
  | nil => rfl
  | cons a l ih => simp only [lc, List.flatMap_cons, List.length_append] at ih ⊢; rw [ih]; simp; omega
theorem lc_drop (L : List (Int × Int)) : ∀ {i : Nat} (h : i < L.length), ∃ r, (lc L).drop (i * 2) = gi L[i].1 :: gi L[i].2 :: r := by
  induction L with
  | nil => intro i h; simp at h
  | cons a l ih =>
    intro i h
    cases i with
    | zero => exact ⟨lc l, rfl⟩
    | succ i =>
      obtain ⟨r, hr⟩ := ih (i := i) (by simpa using h)
      refine ⟨r, ?_⟩
      rw [show (i + 1) * 2 = i * 2 + 2 by omega]
      show (gi a.1 :: gi a.2 :: lc l).drop (i * 2 + 2) = _
      simpa using hr
theorem lc_take {L : List (Int × Int)} {i : Nat} (h : i < L.length) : ((lc L).drop (i * 2)).take 2 = [gi L[i].1, gi L[i].2] := by
  obtain ⟨r, hr⟩ := lc_drop L h; rw [hr]; rfl
/-- A slice of letters. -/
abbrev SL (H : Heap) (s : Value) (L : List (Int × Int)) : Prop := Shows H 2 s L.length (lc L)
theorem SL.el {s : Value} {L : List (Int × Int)} (h : SL H s L) {i : Nat} (hi : i < L.length) : ∃ b o T cs, indexAddrA C.P 24 s (gi i) = some (.pointer (some ⟨b, o, none⟩)) ∧ hget H b = some (T, cs) ∧ ld1 C.P 67 o (some (T, cs)) = some (lv L[i]) := by
  obtain ⟨b, o, T, cs, h1, h2, h3, h4, _⟩ := Shows.at (P := C.P) (t := 24) (el := 67) (K := .i64) h hi rfl rfl
  refine ⟨b, o, T, cs, h1, h2, ?_⟩
  rw [ld66, if_pos h3, h4, lc_take hi]; rfl
theorem wrapN {i : Nat} (h : i < 2 ^ 62) : IntKind.i64.wrap ((i : Int) + 1) = ((i + 1 : Nat) : Int) := by rw [IntKind.wrap_i64]; omega
/-- An index, or -1. -/
def fx : Option Nat → Int
  | some i => i
  | none => -1
theorem indexL_c {s cap : Value} {g : FuncId} {L : List (Int × Int)} {p : Int × Int → Bool} (hs : SL H s L) (hL : L.length < 1000) (hp : ∀ l base, cal C base g [lv l, cap] H = some (bo (p l), H)) :
    cal C base 80 [s, .func (.func g) #[] #[cap]] H = some (gi (fx (L.findIdx? p)), H) := by
  refine cal_fn Try.func80 rfl rfl (res := [.tmp 4]) rfl Try.ntmps80 1001 base _ H ?_
  obtain ⟨a, c, rfl⟩ := hs.sl
  simp only [go_sem]
  rw [fin_loopk [9, 10, 5, 11, 12, 13, 14, 15, 16, 17, 4, 18] rfl]
  refine lp_run [8] (fun j vs H' => ∃ i : Nat, i + j = L.length ∧ vs = [gi i] ∧ (∀ k (h : k < L.length), k < i → p L[k] = false) ∧ H' = H) ?_ L.length [gi 0] (by omega) (by simp only [go_sem]) ⟨0, by omega, rfl, fun k _ h => absurd h (Nat.not_lt_zero _), rfl⟩
  rintro j m vs H' ⟨i, hij, rfl, hno, rfl⟩ ih
  cases hlt : decide ((i : Int) < (L.length : Int))
  · simp only [go_sem, hlt, Chb (show wrF 80 = false from rfl)]
    have : L.findIdx? p = none := by
      rw [List.findIdx?_eq_none_iff]
      intro x hx
      obtain ⟨k, hk, rfl⟩ := List.getElem_of_mem hx
      exact hno k hk (by have := of_decide_eq_false hlt; omega)
    rw [this]; rfl
  · have hi : i < L.length := by have := of_decide_eq_true hlt; omega
    obtain ⟨b, o, T, cs, h1, h2, h3⟩ := hs.el hi
    cases hpi : p L[i]
    · simp only [go_sem, hlt, h1, h2, h3, hp, hpi]
      rw [wrapN (by omega)]
      refine ih (j - 1) [gi (i + 1 : Nat)] _ _ (by omega) (by simp only [go_sem]) ⟨i + 1, by omega, rfl, fun k hk hki => ?_, rfl⟩
      by_cases e : k = i
      · subst e; exact hpi
      · exact hno k hk (by omega)
    · simp only [go_sem, hlt, h1, h2, h3, hp, hpi, Chb (show wrF 80 = false from rfl)]
      have : L.findIdx? p = some i := by
        rw [List.findIdx?_eq_some_iff_getElem]
        exact ⟨hi, hpi, fun k hk => by rw [hno k (by omega) hk]; decide⟩
      rw [this]; rfl
end T

open Go Go.Am
namespace T
open Go.Proofs
set_option maxRecDepth 100000
set_option maxHeartbeats 4000000
set_option linter.unusedSimpArgs false
variable {base : Nat} {H : Heap}
/-- Is this a call of n friends? -/
def isC (n : Int) (l : Int × Int) : Bool := decide (0 ≤ l.1) && decide (l.1 < l.2) && decide (l.2 < n)
theorem isCall_c {n : Int} {l : Int × Int} : cal C base 61 [gi n, lv l] H = some (bo (isC n l), H) := by
  refine cal_fn Try.func61 rfl rfl (res := [.tmp 4]) rfl Try.ntmps61 2 base _ H ?_
  obtain ⟨a, b⟩ := l
  cases h : decide (0 ≤ a) <;> cases h2 : decide (a < b) <;> simp only [go_sem, lv, h, h2, hget_0, Chb (show wrF 61 = false from rfl), isC]
theorem are76_c {n : Int} {l : Int × Int} {b : Nat} (hb : hget H b = some (3, [gi n])) : cal C base 60 [lv l, .pointer (some ⟨b, 0, none⟩)] H = some (bo (!isC n l), H) := by
  refine cal_fn Try.func60 rfl rfl (res := [.tmp 3]) rfl Try.ntmps60 2 base _ H ?_
  obtain ⟨x, y⟩ := l
  have e := isCall_c (base := H.length) (n := n) (l := (x, y)) (H := H ++ [some (67, [gi x, gi y])])
  rw [lv] at e
  simp only [go_sem, lv, hget_0, hget_old hb, e, show C.wr 60 = false from rfl, Chb (show wrF 60 = false from rfl)]
theorem caCall_c {n : Int} {l : Int × Int} (hn : areF n = true) : cal C base 74 [gi n, lv l] H = some (bo (isC n l), H) := by
  refine cal_fn Try.func74 rfl rfl (res := [.tmp 4]) rfl Try.ntmps74 2 base _ H ?_
  obtain ⟨a, b⟩ := l
  simp only [areF, Bool.and_eq_true, decide_eq_true_eq] at hn
  have hw : IntKind.i64.wrap (n - 1) = n - 1 := by rw [IntKind.wrap_i64]; omega
  cases h : decide (0 ≤ a) && decide (a ≤ n - 1)
  · have : isC n (a, b) = false := by
      rw [Bool.and_eq_false_iff, decide_eq_false_iff_not, decide_eq_false_iff_not] at h
      simp only [isC, Bool.and_eq_false_iff, decide_eq_false_iff_not]
      omega
    simp only [go_sem, lv, in_c, hw, h, hget_0, Chb (show wrF 74 = false from rfl), this]
  · rw [Bool.and_eq_true, decide_eq_true_eq, decide_eq_true_eq] at h
    have hw2 : IntKind.i64.wrap (a + 1) = a + 1 := by rw [IntKind.wrap_i64]; omega
    have : isC n (a, b) = (decide (a + 1 ≤ b) && decide (b ≤ n - 1)) := by
      rw [Bool.eq_iff_iff]
      simp only [isC, Bool.and_eq_true, decide_eq_true_eq]
      omega
    have h' : (decide (0 ≤ a) && decide (a ≤ n - 1)) = true := by rw [Bool.and_eq_true, decide_eq_true_eq, decide_eq_true_eq]; exact h
    simp only [go_sem, lv, in_c, hw, hw2, h', hget_0, Chb (show wrF 74 = false from rfl), this]
theorem cont_c {s cap : Value} {g : FuncId} {L : List (Int × Int)} {p : Int × Int → Bool} (hs : SL H s L) (hL : L.length < 1000) (hp : ∀ l base, cal C base g [lv l, cap] H = some (bo (p l), H)) :
    cal C base 59 [s, .func (.func g) #[] #[cap]] H = some (bo (L.any p), H) := by
  refine cal_fn Try.func59 rfl rfl (res := [.tmp 4]) rfl Try.ntmps59 1 base _ H ?_
  have : (L.any p) = decide (0 ≤ fx (L.findIdx? p)) := by
    cases h : L.findIdx? p with
    | none =>
      rw [List.findIdx?_eq_none_iff] at h
      have : L.any p = false := by rw [List.any_eq_false]; intro x hx; rw [h x hx]; decide
      rw [this]; rfl
    | some i =>
      obtain ⟨h1, h2, _⟩ := List.findIdx?_eq_some_iff_getElem.1 h
      have : L.any p = true := List.any_eq_true.2 ⟨_, List.getElem_mem h1, h2⟩
      rw [this]
      exact (decide_eq_true (Int.natCast_nonneg _)).symm
  simp only [go_sem, indexL_c hs hL hp, Chb (show wrF 59 = false from rfl), this]
/-- Are these calls of n friends? -/
def areC (n : Int) (L : List (Int × Int)) : Bool := areF n && decide (L.length ≤ 60) && L.all (isC n)
theorem areC_c {n : Int} {s : Value} {L : List (Int × Int)} (hs : SL H s L) (hL : L.length < 1000) : cal C base 23 [gi n, s] H = some (bo (areC n L), H) := by
  refine cal_fn Try.func23 rfl rfl (res := [.tmp 4]) rfl Try.ntmps23 1 base _ H ?_
  obtain ⟨a, c, rfl⟩ := hs.sl
  have h2 := hs.add [some (3, [gi n])]
  have h3 : L.any (fun l => !isC n l) = !L.all (isC n) := by rw [List.not_all_eq_any_not]
  have hcl : ((L.length : Int) ≤ 60) = (L.length ≤ 60) := by simp; omega
  cases h : areF n <;> cases hl : decide (L.length ≤ 60) <;>
    simp only [go_sem, areFriends_c, h, hget_0, hcl, hl, cont_c h2 hL (p := fun l => !isC n l) (fun l base => are76_c hget_0), h3, Chb (show wrF 23 = false from rfl), show C.wr 23 = false from rfl, areC, Bool.not_not]
theorem caGood_c {n : Int} {s : Value} {L : List (Int × Int)} (hs : SL H s L) (hL : L.length < 1000) : cal C base 39 [gi n, s] H = some (bo (areC n L), H) := by
  refine cal_fn Try.func39 rfl rfl (res := [.tmp 4]) rfl Try.ntmps39 1001 base _ H ?_
  obtain ⟨a, c, rfl⟩ := hs.sl
  have hcl : ((60 : Int) < (L.length : Int)) = (60 < L.length) := by simp; omega
  cases h : areF n
  · simp only [go_sem, caFriends_c, h, show C.wr 39 = false from rfl, Chb (show wrF 39 = false from rfl), areC]
  cases hl : decide (60 < L.length)
  · simp only [go_sem, caFriends_c, h, hcl, hl, show C.wr 39 = false from rfl]
    rw [fin_loopk [18, 19, 20, 6, 21, 22, 23, 24, 4, 25] rfl]
    refine lp_run [17] (fun j vs H' => ∃ i : Nat, i + j = L.length ∧ vs = [gi i] ∧ (∀ k (h : k < L.length), k < i → isC n L[k] = true) ∧ Keeps H.length H H') ?_ L.length [gi 0] (by omega) (by simp only [go_sem]) ⟨0, by omega, rfl, fun k _ h => absurd h (Nat.not_lt_zero _), .refl _ _⟩
    have hl2 : L.length ≤ 60 := by have := of_decide_eq_false hl; omega
    rintro j m vs H' ⟨i, hij, rfl, hno, hk⟩ ih
    cases hlt : decide ((i : Int) < (L.length : Int))
    · simp only [go_sem, hlt, Chb (show wrF 39 = false from rfl), take_keeps hk]
      have : L.all (isC n) = true := by
        rw [List.all_eq_true]
        intro x hx
        obtain ⟨k, hk, rfl⟩ := List.getElem_of_mem hx
        exact hno k hk (by have := of_decide_eq_false hlt; omega)
      rw [areC, h, this, decide_eq_true hl2]; rfl
    · have hi : i < L.length := by have := of_decide_eq_true hlt; omega
      obtain ⟨b, o, T, cs, h1, h2, h3⟩ := SL.el (hs.keep hk) hi
      have hk2 : Keeps H.length H (H' ++ [some (67, [gi L[i].1, gi L[i].2])]) := hk.trans (.append hk.1 _)
      have h4 := caCall_c (base := H.length) (n := n) (l := L[i]) h (H := H' ++ [some (67, [gi L[i].1, gi L[i].2])])
      rw [lv] at h3 h4
      cases hpi : isC n L[i]
      · simp only [go_sem, hlt, h1, h2, h3, st66 hk.1, hget_0, h4, hpi, Chb (show wrF 39 = false from rfl), take_keeps hk2]
        have : L.all (isC n) = false := by
          rw [List.all_eq_false]; exact ⟨_, List.getElem_mem hi, by rw [hpi]; decide⟩
        rw [areC, this, Bool.and_false]
      · simp only [go_sem, hlt, h1, h2, h3, st66 hk.1, hget_0, h4, hpi]
        rw [wrapN (by omega)]
        refine ih (j - 1) [gi (i + 1 : Nat)] _ _ (by omega) (by simp only [go_sem]) ⟨i + 1, by omega, rfl, fun k hk hki => ?_, hk2⟩
        by_cases e : k = i
        · subst e; exact hpi
        · exact hno k hk (by omega)
  · simp only [go_sem, caFriends_c, h, hcl, hl, show C.wr 39 = false from rfl, Chb (show wrF 39 = false from rfl)]
    have : decide (L.length ≤ 60) = false := decide_eq_false (by have := of_decide_eq_true hl; omega)
    rw [areC, this, Bool.and_false, Bool.false_and]
end T

open Go Go.Am
namespace T
open Go.Proofs
set_option maxRecDepth 100000
set_option maxHeartbeats 4000000
set_option linter.unusedSimpArgs false
set_option linter.unusedVariables false
variable {base : Nat} {H : Heap}
theorem sh16 (i : Nat) (h : i < 16) : IntKind.u16.wrap (1 * 2 ^ (min ((i : Int)).toNat 16)) = ((2 ^ i : Nat) : Int) := by
  have : min (i : Int).toNat 16 = i := by omega
  rw [this]
  rcases (show i = 0 ∨ i = 1 ∨ i = 2 ∨ i = 3 ∨ i = 4 ∨ i = 5 ∨ i = 6 ∨ i = 7 ∨ i = 8 ∨ i = 9 ∨ i = 10 ∨ i = 11 ∨ i = 12 ∨ i = 13 ∨ i = 14 ∨ i = 15 by omega) with h | h | h | h | h | h | h | h | h | h | h | h | h | h | h | h <;> subst h <;> decide
theorem sh64 (i : Nat) (h : i < 16) : IntKind.i64.wrap (1 * 2 ^ (min ((i : Int)).toNat 64)) = ((2 ^ i : Nat) : Int) := by
  have : min (i : Int).toNat 64 = i := by omega
  rw [this]
  rcases (show i = 0 ∨ i = 1 ∨ i = 2 ∨ i = 3 ∨ i = 4 ∨ i = 5 ∨ i = 6 ∨ i = 7 ∨ i = 8 ∨ i = 9 ∨ i = 10 ∨ i = 11 ∨ i = 12 ∨ i = 13 ∨ i = 14 ∨ i = 15 by omega) with h | h | h | h | h | h | h | h | h | h | h | h | h | h | h | h <;> subst h <;> decide
theorem or16 {x y : Nat} (hx : x < 1024) (hy : y < 1024) : IntKind.u16.wrap ((BitVec.ofInt 16 (x : Int) ||| BitVec.ofInt 16 (y : Int)).toNat : Int) = ((x ||| y : Nat) : Int) := by
  have h := Nat.or_lt_two_pow (n := 10) hx hy
  have e : (BitVec.ofInt 16 (x : Int) ||| BitVec.ofInt 16 (y : Int)).toNat = x ||| y := by
    rw [BitVec.toNat_or, BitVec.toNat_ofInt, BitVec.toNat_ofInt]
    congr 1 <;> omega
  rw [e]; simp only [IntKind.wrap, IntKind.bits, IntKind.signed, Bool.false_and, Bool.false_eq_true, if_false]; omega
theorem or64 {x y : Nat} (hx : x < 1024) (hy : y < 1024) : IntKind.i64.wrap ((BitVec.ofInt 64 (x : Int) ||| BitVec.ofInt 64 (y : Int)).toNat : Int) = ((x ||| y : Nat) : Int) := by
  have h := Nat.or_lt_two_pow (n := 10) hx hy
  have e : (BitVec.ofInt 64 (x : Int) ||| BitVec.ofInt 64 (y : Int)).toNat = x ||| y := by
    rw [BitVec.toNat_or, BitVec.toNat_ofInt, BitVec.toNat_ofInt]
    congr 1 <;> omega
  rw [e, IntKind.wrap_i64]; omega
theorem bor16 {P : Program} {ρ : Env} {o : Oper} {x y : Nat} (hx : x < 1024) (hy : y < 1024) : bin2 P ρ o H .or (.int .u16 (x : Int)) (.int .u16 (y : Int)) = some (.int .u16 ((x ||| y : Nat) : Int), H) := by
  rw [b_or]
  exact congrArg (fun z => some (Value.int .u16 z, H)) (or16 hx hy)
theorem bor64 {P : Program} {ρ : Env} {o : Oper} {x y : Nat} (hx : x < 1024) (hy : y < 1024) : bin2 P ρ o H .or (.int .i64 (x : Int)) (.int .i64 (y : Int)) = some (.int .i64 ((x ||| y : Nat) : Int), H) := by
  rw [b_or]
  exact congrArg (fun z => some (Value.int .i64 z, H)) (or64 hx hy)
def sN (n : Nat) : List Nat := (List.range n).map (2 ^ ·)
def nu (B : List Nat) : List Value := B.map fun x : Nat => .int .u16 (x : Int)
def ni (B : List Nat) : List Value := B.map fun x : Nat => gi x

theorem first_c (n : Nat) (hn : n ≤ 10) (H : Heap) (base : Nat) : Ok (cal C base 70 [gi n] H) fun s H' => ∃ F, H' = H ++ F ∧ OwnL H.length H' 64 1 s n (nu (sN n)) := by
  refine ok_fn Try.func70 rfl rfl (res := [.tmp 2]) rfl Try.ntmps70 20 base _ H ?_
  simp only [go_sem, show C.wr 70 = false from rfl, bs_nil ts52]
  rw [fin_loopk [8, 9, 4, 10, 11, 12, 13, 14, 15] rfl]
  refine lp_ok [3, 7] (fun j vs H' => ∃ (i : Nat) (s : Value), i + j = n ∧ vs = [s, gi i] ∧ OwnL H.length H' 64 1 s i (nu (sN i)) ∧ Keeps H.length H H') n [.slice (some ⟨H.length, 0, some 1⟩) 0 0, gi 0] ?_ (by omega) (by simp only [go_sem]) ⟨0, _, by omega, rfl, .empty _ _ _ (Nat.le_refl _), .append (Nat.le_refl _) _⟩
  rintro j m vs H' ⟨i, s, hij, rfl, ho, hk⟩ ih
  cases hlt : decide ((i : Int) < (n : Int))
  · obtain rfl : i = n := by have := of_decide_eq_false hlt; omega
    obtain ⟨s', F, old, e, ho'⟩ := ho.hand (P := C.P) (acc := H) (l := []) (show tySize C.P 64 = some 1 from rfl) (by simp [isG, sc, nu])
    simp only [go_sem, hlt, Chb (show wrF 70 = false from rfl), take_keeps hk, e]
    exact .some ⟨F, rfl, ho'⟩
  · have hl2 : i < n := by have := of_decide_eq_true hlt; omega
    have hap := ho.app (base := H.length) ts52 (Nat.le_refl _) (ys := [.int .u16 ((2 ^ i : Nat) : Int)]) rfl (by unfold room; omega)
    simp only [go_sem, hlt, b_shl (Int.natCast_nonneg _), sh16 i (by omega), bs_one ts52 (x := Value.int .u16 _) rfl rfl, eo_append (show notInt C.P 51 = true from rfl), hap]
    rw [wrapN (by omega)]
    refine ih (j - 1) [.slice (some ⟨H'.length + 1, 0, some 1⟩) (i + 1) (i + 1), gi (i + 1 : Nat)] _ _ (by omega) (by simp only [go_sem]) ⟨i + 1, _, by omega, rfl, ?_, ho.keeps hk (Nat.le_refl _)⟩
    rw [show nu (sN (i + 1)) = nu (sN i) ++ [.int .u16 ((2 ^ i : Nat) : Int)] by simp [nu, sN, List.range_succ]]
    exact ho.next hk.1 rfl

theorem caStart_c (n : Nat) (hn : n ≤ 10) (H : Heap) (base : Nat) : Ok (cal C base 75 [gi n] H) fun s H' => ∃ F, H' = H ++ F ∧ OwnL H.length H' 3 1 s n (ni (sN n)) := by
  refine ok_fn Try.func75 rfl rfl (res := [.tmp 2]) rfl Try.ntmps75 20 base _ H ?_
  simp only [go_sem, show C.wr 75 = false from rfl, bs_nil ts34]
  rw [fin_loopk [5, 6, 7, 10, 11, 12, 13, 14, 8, 9] rfl]
  refine lp_ok [3, 4] (fun j vs H' => ∃ (i : Nat) (s : Value), i + j = n ∧ vs = [s, gi i] ∧ OwnL H.length H' 3 1 s i (ni (sN i)) ∧ Keeps H.length H H') n [.slice none 0 0, gi 0] ?_ (by omega) (by simp only [go_sem]) ⟨0, _, by omega, rfl, .nil _ _ _ _, .refl _ _⟩
  rintro j m vs H' ⟨i, s, hij, rfl, ho, hk⟩ ih
  cases hlt : decide ((i : Int) < (n : Int))
  · obtain rfl : i = n := by have := of_decide_eq_false hlt; omega
    obtain ⟨s', F, old, e, ho'⟩ := ho.hand (P := C.P) (acc := H) (l := []) (show tySize C.P 3 = some 1 from rfl) (by simp [isG, sc, ni])
    simp only [go_sem, hlt, Chb (show wrF 75 = false from rfl), take_keeps hk, e]
    exact .some ⟨F, rfl, ho'⟩
  · have hl2 : i < n := by have := of_decide_eq_true hlt; omega
    have hap := ho.app (base := H.length) ts34 (Nat.le_refl _) (ys := [.int .i64 ((2 ^ i : Nat) : Int)]) rfl (by unfold room; omega)
    simp only [go_sem, hlt, b_shl (Int.natCast_nonneg _), sh64 i (by omega), bs_one ts34 (x := Value.int .i64 _) rfl rfl, eo_append (show notInt C.P 34 = true from rfl), hap]
    rw [wrapN (by omega)]
    refine ih (j - 1) [.slice (some ⟨H'.length + 1, 0, some 1⟩) (i + 1) (i + 1), gi (i + 1 : Nat)] _ _ (by omega) (by simp only [go_sem]) ⟨i + 1, _, by omega, rfl, ?_, ho.keeps hk (Nat.le_refl _)⟩
    rw [show ni (sN (i + 1)) = ni (sN i) ++ [.int .i64 ((2 ^ i : Nat) : Int)] by simp [ni, sN, List.range_succ]]
    exact ho.next hk.1 rfl
end T

open Go Go.Am
namespace T
open Go.Proofs
set_option maxRecDepth 100000
set_option maxHeartbeats 4000000
set_option linter.unusedSimpArgs false
set_option linter.unusedVariables false
variable {base : Nat} {H : Heap}
def toZ (M : List (Nat × Nat)) : List (Int × Int) := M.map fun l => ((l.1 : Int), (l.2 : Int))
theorem nu_get (B : List Nat) {i : Nat} (h : i < B.length) : (nu B)[i]? = some (.int .u16 (B.getD i 0 : Nat)) := by simp [nu, h]
theorem ni_get (B : List Nat) {i : Nat} (h : i < B.length) : (ni B)[i]? = some (gi (B.getD i 0 : Nat)) := by simp [ni, h]
theorem nu_set (B : List Nat) (i x : Nat) : (nu B).set i (.int .u16 (x : Int)) = nu (B.set i x) := by simp [nu, List.map_set]
theorem ni_set (B : List Nat) (i x : Nat) : (ni B).set i (gi (x : Int)) = ni (B.set i x) := by simp [ni, List.map_set]
theorem getD_lt {B : List Nat} {n : Nat} (h : ∀ x ∈ B, x < 2 ^ n) (hn : n ≤ 10) (i : Nat) : B.getD i 0 < 1024 := by
  have h10 : 2 ^ n ≤ 2 ^ 10 := Nat.pow_le_pow_right (by decide) hn
  rw [List.getD_eq_getElem?_getD]
  cases e : B[i]? with
  | none => exact Nat.succ_pos _
  | some y => exact Nat.lt_of_lt_of_le (h y (List.mem_of_getElem? e)) h10

def stepC (B : List Nat) (l : Nat × Nat) : List Nat := (B.set l.1 (B.getD l.1 0 ||| B.getD l.2 0)).set l.2 (B.getD l.1 0 ||| B.getD l.2 0)
def playC (n : Nat) (M : List (Nat × Nat)) : List Nat := M.foldl stepC (sN n)
theorem playC_snoc (n : Nat) (M : List (Nat × Nat)) {i : Nat} (h : i < M.length) : playC n (M.take (i + 1)) = stepC (playC n (M.take i)) M[i] := by
  unfold playC
  rw [List.take_succ_eq_append_getElem h, List.foldl_append]; rfl
theorem playC_ok {n : Nat} (hn : n ≤ 10) (M : List (Nat × Nat)) : (playC n M).length = n ∧ ∀ x ∈ playC n M, x < 2 ^ n := by
  have key : ∀ (M : List (Nat × Nat)) (B : List Nat), B.length = n → (∀ x ∈ B, x < 2 ^ n) → (M.foldl stepC B).length = n ∧ ∀ x ∈ M.foldl stepC B, x < 2 ^ n := by
    intro M
    induction M with
    | nil => intro B h1 h2; exact ⟨h1, h2⟩
    | cons l M ih =>
      intro B h1 h2
      refine ih _ (by simp [stepC, h1]) fun x hx => ?_
      have hg : ∀ i, B.getD i 0 < 2 ^ n := fun i => by
        rw [List.getD_eq_getElem?_getD]
        cases h : B[i]? with
        | none => exact Nat.two_pow_pos n
        | some y => exact h2 y (List.mem_of_getElem? h)
      rcases List.mem_or_eq_of_mem_set hx with h | rfl
      · rcases List.mem_or_eq_of_mem_set h with h | rfl
        · exact h2 x h
        · exact Nat.or_lt_two_pow (hg _) (hg _)
      · exact Nat.or_lt_two_pow (hg _) (hg _)
  refine key M (sN n) (by simp [sN]) fun x hx => ?_
  obtain ⟨i, hi, rfl⟩ := List.mem_map.1 hx
  exact Nat.pow_lt_pow_right (by decide) (List.mem_range.1 hi)
theorem plC16 {n : Nat} (hn : n ≤ 10) {M : List (Nat × Nat)} : ∀ x ∈ playC n M, x < 65536 := fun x hx => Nat.lt_of_lt_of_le ((playC_ok hn M).2 x hx) (Nat.le_trans (Nat.pow_le_pow_right (by decide) hn) (by decide))
theorem run1_fin {C : Cfg} {call : Nat → CallF} {n base m : Nat} {f : FuncId} {res : List ResultVar} {s : St} : run1 C call n base f m res s = run1 C call n base f m res (fin C call n base [] s) := rfl
theorem meet_c {b n : Nat} {B : List Nat} {l : Nat × Nat} (hb : base ≤ b) (hg : hget H b = some (64, nu B)) (hl : B.length = n) (hx : l.1 < n) (hy : l.2 < n) (hB : ∀ x ∈ B, x < 2 ^ n) (hn : n ≤ 10) :
    Ok (cal C base 71 [.slice (some ⟨b, 0, some 1⟩) n n, lv (l.1, l.2)] H) fun v H' => v = .tuple #[] ∧ Keeps base H H' ∧ hget H' b = some (64, nu (stepC B l)) ∧ H.length ≤ H'.length := by
  refine ok_fn Try.func71 rfl rfl (res := []) rfl Try.ntmps71 1 base _ H ?_
  obtain ⟨x, y⟩ := l
  simp only [] at hx hy
  have ix : ∀ z : Nat, z < n → indexAddrA C.P 51 (.slice (some ⟨b, 0, some 1⟩) n n) (gi z) = some (.pointer (some ⟨b, z, none⟩)) := fun z hz => by
    rw [ia_at (show tyElem C.P 51 = some 64 from rfl) (show tySize C.P 64 = some 1 from rfl) hz]; simp
  have hbl := hget_lt hg
  have hg' := hget_old hg [some (67, [gi x, gi y])]
  have gx := nu_get B (i := x) (by omega)
  have gy := nu_get B (i := y) (by omega)
  generalize hq : B.getD x 0 ||| B.getD y 0 = q
  have hst := st_at (P := C.P) (base := base) (t := 64) (o := x) (v := .int .u16 ((q : Nat) : Int)) hb hg' rfl rfl (by show x + 1 ≤ _; simp [nu]; omega)
  rw [show setAll (nu B) x (Value.int .u16 ((q : Nat) : Int)).cells.toList = nu (B.set x q) from nu_set _ _ _] at hst
  have hg2 : hget ((H ++ [some (67, [gi x, gi y])]).set b (some (64, nu (B.set x q)))) b = some (64, nu (B.set x q)) := by
    unfold hget; rw [List.getElem?_set_self (by simp; omega)]; rfl
  have hst2 := st_at (P := C.P) (base := base) (t := 64) (o := y) (v := .int .u16 ((q : Nat) : Int)) hb hg2 rfl rfl (by show y + 1 ≤ _; simp [nu]; omega)
  rw [show setAll (nu (B.set x q)) y (Value.int .u16 ((q : Nat) : Int)).cells.toList = nu ((B.set x q).set y q) from nu_set _ _ _] at hst2
  simp only [go_sem, lv, show C.wr 71 = true from rfl]
  rw [fin_regd]; rotate_left; · decide +kernel
  simp only [go_sem, hget_0, ix _ hx, ix _ hy, hg', gx, gy, bor16 (getD_lt hB hn _) (getD_lt hB hn _), hq]
  rw [run1_fin, fin_regl (ps := [(20, 24)])]
  rotate_left; · decide +kernel
  simp only [go_sem, hget_0, ix _ hx, ix _ hy, hst, hst2, decide_eq_true (show H.length + 1 ≠ b by omega), decide_eq_true (show H.length ≠ b by omega), Bool.and_true, Chr (show (rawF 71 || wrF 71) = true from rfl)]
  refine .some ⟨rfl, ?_, ?_, by simp⟩
  · rw [List.set_set]
    exact (Keeps.append (by omega) _).trans (.set hb _)
  · unfold hget
    rw [List.getElem?_set_self (by simp; omega)]
    unfold stepC
    rw [hq]; rfl
theorem after_c {n : Nat} (hn : n ≤ 10) {s : Value} {M : List (Nat × Nat)} (hs : SL H s (toZ M)) (hM : M.length < 1000) (hr : ∀ l ∈ M, l.1 < n ∧ l.2 < n) : Ok (cal C base 37 [gi n, s] H) fun s H' => ∃ F, H' = H ++ F ∧ OwnL H.length H' 64 1 s n (nu (playC n M)) := by
  refine ok_fn Try.func37 rfl rfl (res := [.tmp 4]) rfl Try.ntmps37 1001 base _ H ?_
  have hZ : (toZ M).length = M.length := by simp [toZ]
  rw [SL, hZ] at hs
  obtain ⟨a, c, rfl⟩ := hs.sl
  obtain ⟨v, H1, e1, F1, rfl, ho⟩ := first_c n hn H H.length
  simp only [go_sem, show C.wr 37 = false from rfl, e1]
  rw [fin_loopk [13, 14, 15, 7, 16, 17, 18, 19] rfl]
  refine lp_ok [12] (fun j vs H' => ∃ (i : Nat), i + j = M.length ∧ vs = [gi i] ∧ OwnL H.length H' 64 1 v n (nu (playC n (M.take i))) ∧ Keeps H.length H H') M.length [gi 0] ?_ (by omega) (by simp only [go_sem]) ⟨0, by omega, rfl, ho, .append (Nat.le_refl _) _⟩
  rintro j m vs H' ⟨i, hij, rfl, ho, hk⟩ ih
  have hP := playC_ok hn (M.take i)
  cases hlt : decide ((i : Int) < (M.length : Int))
  · obtain rfl : i = M.length := by have := of_decide_eq_false hlt; omega
    rw [List.take_length] at ho hP
    obtain ⟨s', F, old, e, ho'⟩ := ho.hand (P := C.P) (acc := H) (l := []) (show tySize C.P 64 = some 1 from rfl) (by simp [isG, sc, nu])
    simp only [go_sem, hlt, Chb (show wrF 37 = false from rfl), take_keeps hk, e]
    exact .some ⟨F, rfl, ho'⟩
  · have hi : i < M.length := by have := of_decide_eq_true hlt; omega
    obtain ⟨hx, hy⟩ := hr M[i] (List.getElem_mem hi)
    have hZi : (toZ M)[i]'(by rw [hZ]; exact hi) = (((M[i].1 : Nat) : Int), ((M[i].2 : Nat) : Int)) := by simp [toZ]
    have hs' : SL H' (.slice a M.length c) (toZ M) := by rw [SL, hZ]; exact hs.keep hk
    obtain ⟨b, o, T, cs, h1, h2, h3⟩ := SL.el hs' (i := i) (by rw [hZ]; exact hi)
    rw [hZi, lv] at h3
    obtain ⟨h0, ⟨_, rfl, _⟩ | ⟨b0, hb0, rfl, hg⟩⟩ := ho
    · omega
    have hg' := hget_old hg [some (67, [gi (M[i].1 : Nat), gi (M[i].2 : Nat)])]
    obtain ⟨v, H2, e2, rfl, k1, k2, k3⟩ := meet_c (base := H.length) (l := M[i]) hb0 hg' hP.1 hx hy hP.2 hn
    rw [lv] at e2
    simp only [go_sem, hlt, h1, h2, h3, st66 hk.1, hget_0, e2]
    rw [wrapN (by omega)]
    refine ih (j - 1) [gi (i + 1 : Nat)] _ _ (by omega) (by simp only [go_sem]) ⟨i + 1, by omega, rfl, ⟨by simp [nu, (playC_ok hn (M.take (i + 1))).1], .inr ⟨b0, hb0, rfl, by rw [k2, playC_snoc n M hi]⟩⟩, (hk.trans (.append hk.1 _)).trans k1⟩
end T

open Go Go.Am
namespace T
open Go.Proofs
set_option maxRecDepth 100000
set_option maxHeartbeats 4000000
set_option linter.unusedSimpArgs false
set_option linter.unusedVariables false
variable {base : Nat} {H : Heap}
def bitsTo (x i : Nat) : List Nat := (List.range i).filter x.testBit
def bitsOf (x : Nat) : List Nat := bitsTo x 16
theorem bitsTo_succ (x i : Nat) : bitsTo x (i + 1) = if x.testBit i then bitsTo x i ++ [i] else bitsTo x i := by
  unfold bitsTo
  rw [List.range_succ, List.filter_append]
  cases h : x.testBit i <;> simp [h]
theorem bitsTo_len (x i : Nat) : (bitsTo x i).length ≤ i := by
  have := List.length_filter_le x.testBit (List.range i)
  simpa [bitsTo] using this
theorem ni_app (B : List Nat) (x : Nat) : ni (B ++ [x]) = ni B ++ [gi x] := by simp [ni]
theorem bit16 {P : Program} {ρ : Env} {o o' : Oper} {x i : Nat} (hx : x < 65536) (hi : i < 16) :
    bin2 P ρ o H .shr (.int .u16 (x : Int)) (.int .i64 (i : Int)) = some (.int .u16 ((x >>> i : Nat) : Int), H) := by
  rw [b_shr (Int.natCast_nonneg _)]
  have e : ((x : Int).fdiv (2 ^ min (i : Int).toNat IntKind.u16.bits)) = ((x >>> i : Nat) : Int) := by
    rw [show min (i : Int).toNat IntKind.u16.bits = i by simp only [IntKind.bits]; omega, Nat.shiftRight_eq_div_pow]
    rw [Int.fdiv_eq_ediv_of_nonneg _ (by exact_mod_cast Nat.zero_le (2 ^ i))]
    push_cast
    rfl
  rw [e]
theorem bit64 {P : Program} {ρ : Env} {o o' : Oper} {x i : Nat} (hi : i < 64) :
    bin2 P ρ o H .shr (.int .i64 (x : Int)) (.int .i64 (i : Int)) = some (.int .i64 ((x >>> i : Nat) : Int), H) := by
  rw [b_shr (Int.natCast_nonneg _)]
  have e : ((x : Int).fdiv (2 ^ min (i : Int).toNat IntKind.i64.bits)) = ((x >>> i : Nat) : Int) := by
    rw [show min (i : Int).toNat IntKind.i64.bits = i by simp only [IntKind.bits]; omega, Nat.shiftRight_eq_div_pow]
    rw [Int.fdiv_eq_ediv_of_nonneg _ (by exact_mod_cast Nat.zero_le (2 ^ i))]
    push_cast
    rfl
  rw [e]
theorem one16 {P : Program} {ρ : Env} {o : Oper} {x : Nat} (hx : x < 65536) : bin2 P ρ o H .and (.int .u16 (x : Int)) (.int .u16 1) = some (.int .u16 ((x % 2 : Nat) : Int), H) := by
  rw [b_and]
  refine congrArg (fun z => some (Value.int .u16 z, H)) ?_
  have e : (BitVec.ofInt 16 (x : Int) &&& BitVec.ofInt 16 1).toNat = x % 2 := by
    rw [BitVec.toNat_and, BitVec.toNat_ofInt, BitVec.toNat_ofInt, show ((1 : Int) % ((2 ^ 16 : Nat) : Int)).toNat = 1 by decide, show ((x : Int) % ((2 ^ 16 : Nat) : Int)).toNat = x by omega, Nat.and_one_is_mod]
  show IntKind.u16.wrap ((BitVec.ofInt 16 (x : Int) &&& BitVec.ofInt 16 1).toNat : Int) = _
  rw [e]; simp only [IntKind.wrap, IntKind.bits, IntKind.signed, Bool.false_and, Bool.false_eq_true, if_false]; omega
theorem one64 {P : Program} {ρ : Env} {o : Oper} {x : Nat} (hx : x < 65536) : bin2 P ρ o H .and (.int .i64 (x : Int)) (.int .i64 1) = some (.int .i64 ((x % 2 : Nat) : Int), H) := by
  rw [b_and]
  refine congrArg (fun z => some (Value.int .i64 z, H)) ?_
  have e : (BitVec.ofInt 64 (x : Int) &&& BitVec.ofInt 64 1).toNat = x % 2 := by
    rw [BitVec.toNat_and, BitVec.toNat_ofInt, BitVec.toNat_ofInt, show ((1 : Int) % ((2 ^ 64 : Nat) : Int)).toNat = 1 by decide, show ((x : Int) % ((2 ^ 64 : Nat) : Int)).toNat = x by omega, Nat.and_one_is_mod]
  show IntKind.i64.wrap ((BitVec.ofInt 64 (x : Int) &&& BitVec.ofInt 64 1).toNat : Int) = _
  rw [e, IntKind.wrap_i64]; omega
theorem tb {x i : Nat} : (((x >>> i % 2 : Nat) : Int) == 1) = x.testBit i := by
  rw [Nat.testBit_eq_decide_div_mod_eq, Nat.shiftRight_eq_div_pow]
  rw [Bool.eq_iff_iff, beq_iff_eq, decide_eq_true_iff]
  generalize x / 2 ^ i % 2 = z
  omega
theorem listed_c {x : Nat} (hx : x < 65536) : Ok (cal C base 72 [.int .u16 (x : Int)] H) fun s H' => ∃ F, H' = H ++ F ∧ OwnL H.length H' 3 1 s (bitsOf x).length (ni (bitsOf x)) := by
  refine ok_fn Try.func72 rfl rfl (res := [.tmp 2]) rfl Try.ntmps72 20 base _ H ?_
  simp only [go_sem, show C.wr 72 = false from rfl, bs_nil ts34]
  rw [fin_loopk [7, 8, 4, 9, 10, 11, 12, 13, 14, 15, 16, 17, 18] rfl]
  refine lp_ok [3, 6] (fun j vs H' => ∃ (i : Nat) (s : Value), i + j = 16 ∧ vs = [s, gi i] ∧ OwnL H.length H' 3 1 s (bitsTo x i).length (ni (bitsTo x i)) ∧ Keeps H.length H H') 16 [.slice (some ⟨H.length, 0, some 1⟩) 0 0, gi 0] ?_ (by omega) (by simp only [go_sem]) ⟨0, _, by omega, rfl, .empty _ _ _ (Nat.le_refl _), .append (Nat.le_refl _) _⟩
  rintro j m vs H' ⟨i, s, hij, rfl, ho, hk⟩ ih
  cases hlt : decide ((i : Int) < 16)
  · obtain rfl : i = 16 := by have := of_decide_eq_false hlt; omega
    obtain ⟨s', F, old, e, ho'⟩ := ho.hand (P := C.P) (acc := H) (l := []) (show tySize C.P 3 = some 1 from rfl) (by simp [isG, sc, ni])
    simp only [go_sem, hlt, Chb (show wrF 72 = false from rfl), take_keeps hk, e]
    exact .some ⟨F, rfl, ho'⟩
  · have hl2 : i < 16 := by have := of_decide_eq_true hlt; omega
    have hxs : x >>> i < 65536 := by rw [Nat.shiftRight_eq_div_pow]; exact Nat.lt_of_le_of_lt (Nat.div_le_self _ _) hx
    cases hb : x.testBit i
    · simp only [go_sem, hlt, bit16 (o' := default) hx hl2, one16 hxs, tb, hb]
      rw [wrapN (by omega)]
      refine ih (j - 1) [s, gi (i + 1 : Nat)] _ _ (by omega) (by simp only [go_sem]) ⟨i + 1, s, by omega, rfl, ?_, hk⟩
      rw [bitsTo_succ, hb]; exact ho
    · have hap := ho.app (base := H.length) ts34 (Nat.le_refl _) (ys := [gi i]) rfl (by have := bitsTo_len x i; unfold room; omega)
      simp only [go_sem, hlt, bit16 (o' := default) hx hl2, one16 hxs, tb, hb, bs_one ts34 (x := gi _) rfl rfl, eo_append (show notInt C.P 34 = true from rfl), hap]
      rw [wrapN (by omega)]
      refine ih (j - 1) [.slice (some ⟨H'.length + 1, 0, some 1⟩) ((bitsTo x i).length + 1) ((bitsTo x i).length + 1), gi (i + 1 : Nat)] _ _ (by omega) (by simp only [go_sem]) ⟨i + 1, _, by omega, rfl, ?_, ho.keeps hk (Nat.le_refl _)⟩
      rw [bitsTo_succ, if_pos hb, ni_app, List.length_append]
      exact ho.next hk.1 rfl
theorem bits_end {x i : Nat} (h : x >>> i = 0) (hi : i ≤ 16) : bitsTo x i = bitsOf x := by
  have key : ∀ d, i + d ≤ 16 → bitsTo x (i + d) = bitsTo x i := by
    intro d
    induction d with
    | zero => intro _; rfl
    | succ d ih =>
      intro hd
      rw [← Nat.add_assoc, bitsTo_succ]
      have : x.testBit (i + d) = false := by
        rw [Nat.testBit_eq_decide_div_mod_eq, decide_eq_false_iff_not]
        rw [Nat.shiftRight_eq_div_pow] at h
        rw [Nat.pow_add, ← Nat.div_div_eq_div_mul, h, Nat.zero_div]
        decide
      rw [this]; exact ih (by omega)
  have := key (16 - i) (by omega)
  rw [Nat.add_sub_cancel' hi] at this
  exact this.symm
theorem caBits_c {x : Nat} (hx : x < 65536) : Ok (cal C base 41 [gi x] H) fun s H' => ∃ F, H' = H ++ F ∧ OwnL H.length H' 3 1 s (bitsOf x).length (ni (bitsOf x)) := by
  refine ok_fn Try.func41 rfl rfl (res := [.tmp 2]) rfl Try.ntmps41 20 base _ H ?_
  simp only [go_sem, show C.wr 41 = false from rfl]
  rw [fin_loopk [5, 6, 7, 8, 11, 12, 13, 14, 15, 16, 17, 18, 19, 9, 10] rfl]
  refine lp_ok [3, 4] (fun j vs H' => ∃ (i : Nat) (s : Value), i + j = 16 ∧ vs = [s, gi i] ∧ OwnL H.length H' 3 1 s (bitsTo x i).length (ni (bitsTo x i)) ∧ Keeps H.length H H') 16 [.slice none 0 0, gi 0] ?_ (by omega) (by simp only [go_sem]) ⟨0, _, by omega, rfl, .nil _ _ _ _, .refl _ _⟩
  rintro j m vs H' ⟨i, s, hij, rfl, ho, hk⟩ ih
  have h16 : x >>> 16 = 0 := by rw [Nat.shiftRight_eq_div_pow]; omega
  cases hlt : decide ((0 : Int) < ((x >>> i : Nat) : Int))
  · have h0 : x >>> i = 0 := by
      have := of_decide_eq_false hlt
      revert this
      generalize x >>> i = z
      omega
    rw [bits_end h0 (by omega)] at ho
    obtain ⟨s', F, old, e, ho'⟩ := ho.hand (P := C.P) (acc := H) (l := []) (show tySize C.P 3 = some 1 from rfl) (by simp [isG, sc, ni])
    simp only [go_sem, bit64 (o' := default) (show i < 64 by omega), hlt, Chb (show wrF 41 = false from rfl), take_keeps hk, e]
    exact .some ⟨F, rfl, ho'⟩
  · have h0 : x >>> i ≠ 0 := by have := of_decide_eq_true hlt; omega
    have hl2 : i < 16 := by
      rcases Nat.lt_or_ge i 16 with h | h
      · exact h
      · obtain rfl : i = 16 := by omega
        exact absurd h16 h0
    have hxs : x >>> i < 65536 := by rw [Nat.shiftRight_eq_div_pow]; exact Nat.lt_of_le_of_lt (Nat.div_le_self _ _) hx
    cases hb : x.testBit i
    · simp only [go_sem, bit64 (o' := default) (show i < 64 by omega), hlt, one64 hxs, tb, hb]
      rw [wrapN (by omega)]
      refine ih (j - 1) [s, gi (i + 1 : Nat)] _ _ (by omega) (by simp only [go_sem]) ⟨i + 1, s, by omega, rfl, ?_, hk⟩
      rw [bitsTo_succ, hb]; exact ho
    · have hap := ho.app (base := H.length) ts34 (Nat.le_refl _) (ys := [gi i]) rfl (by have := bitsTo_len x i; unfold room; omega)
      simp only [go_sem, bit64 (o' := default) (show i < 64 by omega), hlt, one64 hxs, tb, hb, bs_one ts34 (x := gi _) rfl rfl, eo_append (show notInt C.P 34 = true from rfl), hap]
      rw [wrapN (by omega)]
      refine ih (j - 1) [.slice (some ⟨H'.length + 1, 0, some 1⟩) ((bitsTo x i).length + 1) ((bitsTo x i).length + 1), gi (i + 1 : Nat)] _ _ (by omega) (by simp only [go_sem]) ⟨i + 1, _, by omega, rfl, ?_, ho.keeps hk (Nat.le_refl _)⟩
      rw [bitsTo_succ, if_pos hb, ni_app, List.length_append]
      exact ho.next hk.1 rfl
end T

open Go Go.Am
namespace T
open Go.Proofs
set_option maxRecDepth 100000
set_option maxHeartbeats 4000000
set_option linter.unusedSimpArgs false
set_option linter.unusedVariables false
variable {base : Nat} {H : Heap}
theorem ts27 : TyS C.P 27 34 1 (.slice none 0 0) := ⟨rfl, rfl, rfl, ⟨rfl, by decide, rfl⟩, rfl⟩
theorem ElU {s : Value} {B : List Nat} (h : Shows H 1 s B.length (nu B)) {i : Nat} (hi : i < B.length) : ∃ b o T cs, indexAddrA C.P 51 s (gi i) = some (.pointer (some ⟨b, o, none⟩)) ∧ hget H b = some (T, cs) ∧ cs[o]? = some (.int .u16 (B.getD i 0 : Nat)) := by
  obtain ⟨b, o, T, cs, h1, h2, _, _, h4⟩ := Shows.at (P := C.P) (t := 51) (el := 64) (K := .i64) h hi rfl rfl
  refine ⟨b, o, T, cs, h1, h2, ?_⟩
  have := h4 0 (by decide)
  rw [Nat.add_zero, Nat.mul_one, Nat.add_zero, nu_get B hi] at this
  exact this
theorem ElI {s : Value} {B : List Nat} (h : Shows H 1 s B.length (ni B)) {i : Nat} (hi : i < B.length) : ∃ b o T cs, indexAddrA C.P 34 s (gi i) = some (.pointer (some ⟨b, o, none⟩)) ∧ hget H b = some (T, cs) ∧ cs[o]? = some (gi (B.getD i 0 : Nat)) := by
  obtain ⟨b, o, T, cs, h1, h2, _, _, h4⟩ := Shows.at (P := C.P) (t := 34) (el := 3) (K := .i64) h hi rfl rfl
  refine ⟨b, o, T, cs, h1, h2, ?_⟩
  have := h4 0 (by decide)
  rw [Nat.add_zero, Nat.mul_one, Nat.add_zero, ni_get B hi] at this
  exact this
/-- A list of lists. -/
def RowsL (k : Nat) (H : Heap) (s : Value) (LL : List (List Nat)) : Prop :=
  ∃ cs, OwnL k H 34 1 s LL.length cs ∧ ∀ (i : Nat) (r : List Nat), LL[i]? = some r → ∃ v, cs[i]? = some v ∧ OwnL k H 3 1 v r.length (ni r)
theorem RowsL.next {k : Nat} {s v : Value} {LL : List (List Nat)} {r : List Nat} {cs : List Value} (ho : OwnL k H 34 1 s LL.length cs) (hr : ∀ (i : Nat) (r : List Nat), LL[i]? = some r → ∃ v, cs[i]? = some v ∧ OwnL k H 3 1 v r.length (ni r)) (hv : OwnL k H 3 1 v r.length (ni r)) (hk : k ≤ H.length) :
    RowsL k (apH H (some (34, [v])) (some (34, cs ++ [v])) s) (.slice (some ⟨H.length + 1, 0, some 1⟩) (LL.length + 1) (LL.length + 1)) (LL ++ [r]) := by
  refine ⟨cs ++ [v], by rw [List.length_append]; exact ho.next hk rfl, fun i q hq => ?_⟩
  have hl : cs.length = LL.length := by rw [ho.1]; omega
  rcases Nat.lt_or_ge i LL.length with h | h
  · rw [List.getElem?_append_left h] at hq
    obtain ⟨u, h1, h2⟩ := hr i q hq
    exact ⟨u, by rw [List.getElem?_append_left (by omega)]; exact h1, h2.past ho (by decide)⟩
  · rw [List.getElem?_append_right h] at hq
    have : i - LL.length = 0 := by
      rcases Nat.eq_zero_or_pos (i - LL.length) with e | e
      · exact e
      · rw [List.getElem?_eq_none (by simp; omega)] at hq; cases hq
    rw [this] at hq
    simp only [List.getElem?_cons_zero, Option.some.injEq] at hq
    subst hq
    refine ⟨v, ?_, hv.past ho (by decide)⟩
    rw [List.getElem?_append_right (by omega), hl, this]; rfl
theorem RowsL.keep {k : Nat} {H' : Heap} {s : Value} {LL : List (List Nat)} (h : RowsL k H s LL) (hk : Keeps H.length H H') : RowsL k H' s LL := by
  obtain ⟨cs, h1, h2⟩ := h
  exact ⟨cs, h1.keep hk, fun i r hr => by obtain ⟨v, k1, k2⟩ := h2 i r hr; exact ⟨v, k1, k2.keep hk⟩⟩

theorem lists_c {s : Value} {B : List Nat} (hs : Shows H 1 s B.length (nu B)) (hB : B.length < 1000) (hx : ∀ x ∈ B, x < 65536) : Ok (cal C base 38 [s] H) fun s H' => Keeps H.length H H' ∧ RowsL H.length H' s (B.map bitsOf) := by
  refine ok_fn Try.func38 rfl rfl (res := [.tmp 2]) rfl Try.ntmps38 1001 base _ H ?_
  obtain ⟨a, c, rfl⟩ := hs.sl
  simp only [go_sem, show C.wr 38 = false from rfl, bs_nil ts27]
  rw [fin_loopk [10, 11, 12, 5, 13, 14, 15, 16, 17, 18] rfl]
  refine lp_ok [3, 9] (fun j vs H' => ∃ (i : Nat) (s : Value), i + j = B.length ∧ vs = [s, gi i] ∧ Keeps H.length H H' ∧ RowsL H.length H' s ((B.take i).map bitsOf)) B.length [.slice (some ⟨H.length, 0, some 1⟩) 0 0, gi 0] ?_ (by omega) (by simp only [go_sem]) ⟨0, _, by omega, rfl, .append (Nat.le_refl _) _, [], .empty _ _ _ (Nat.le_refl _), fun i r hr => by simp at hr⟩
  rintro j m vs H' ⟨i, s, hij, rfl, hk, hR⟩ ih
  cases hlt : decide ((i : Int) < (B.length : Int))
  · obtain rfl : i = B.length := by have := of_decide_eq_false hlt; omega
    simp only [go_sem, hlt, Chr (show (rawF 38 || wrF 38) = true from rfl)]
    rw [List.take_length] at hR
    exact .some ⟨hk, hR⟩
  · have hi : i < B.length := by have := of_decide_eq_true hlt; omega
    obtain ⟨b, o, T, cs, h1, h2, h3⟩ := ElU (hs.keep hk) hi
    have hxi : B.getD i 0 < 65536 := by simp [hi]; exact hx _ (List.getElem_mem hi)
    obtain ⟨v, H2, e, F, rfl, hv⟩ := listed_c (base := H.length) (H := H') hxi
    obtain ⟨cs2, ho, hr⟩ := hR
    have hkF : Keeps H'.length H' (H' ++ F) := .append (Nat.le_refl _) _
    have hap := (ho.keep hkF).app (base := H.length) ts27 (Nat.le_refl _) (ys := [v]) rfl (by simp; unfold room; omega)
    have hvs : ∃ a c, v = .slice a c c := by
      obtain ⟨_, ⟨rfl, h, _⟩ | ⟨b', _, rfl, _⟩⟩ := hv <;> exact ⟨_, _, rfl⟩
    have hbs : buildSliceA C.P (H' ++ F) 27 1 [(0, v)] = some (.slice (some ⟨(H' ++ F).length, 0, some 1⟩) 1 1, H' ++ F ++ [some (34, [v])]) := by
      obtain ⟨a', c', rfl⟩ := hvs
      exact bs_one ts27 rfl rfl
    simp only [go_sem, hlt, h1, h2, h3, ld62, ld3, e, hbs, eo_append (show notInt C.P 27 = true from rfl), hap]
    rw [wrapN (by omega)]
    refine ih (j - 1) [_, gi (i + 1 : Nat)] _ _ (by omega) ?_ ⟨i + 1, .slice (some ⟨(H' ++ F).length + 1, 0, some 1⟩) (((B.take i).map bitsOf).length + 1) (((B.take i).map bitsOf).length + 1), by omega, rfl, (ho.keep hkF).keeps (hk.trans (.append hk.1 _)) (Nat.le_refl _), ?_⟩
    · simp only [go_sem]
    · rw [List.take_succ_eq_append_getElem hi, List.map_append]
      have hg : B.getD i 0 = B[i] := by simp [hi]
      rw [hg] at hv
      exact RowsL.next (r := bitsOf B[i]) (ho.keep hkF) (fun i r h => by obtain ⟨v, k1, k2⟩ := hr i r h; exact ⟨v, k1, k2.keep hkF⟩) (hv.low hk.1) (by have := hk.1; simp; omega)

end T

open Go Go.Am
namespace T
open Go.Proofs
set_option maxRecDepth 100000
set_option maxHeartbeats 4000000
set_option linter.unusedSimpArgs false
set_option linter.unusedVariables false
variable {base : Nat} {H : Heap}
theorem own_c {s : Value} {B : List Nat} (hs : Shows H 1 s B.length (ni B)) (hB : B.length < 1000) : Ok (cal C base 87 [s] H) fun s H' => ∃ F, H' = H ++ F ∧ OwnL H.length H' 3 1 s B.length (ni B) := by
  refine ok_fn Try.func87 rfl rfl (res := [.tmp 2]) rfl Try.ntmps87 1 base _ H ?_
  have hn : OwnL H.length (H ++ [some (3, [])]) 3 1 (.slice (some ⟨H.length, 0, some 1⟩) 0 0) 0 [] := .empty H 3 1 (Nat.le_refl _)
  have hk0 : Keeps H.length H (H ++ [some (3, [])]) := .append (Nat.le_refl _) _
  obtain ⟨v1, H1, e3, ho1, hk1⟩ := hn.apps (base := H.length) (hs.keep hk0) ts34 (Nat.le_refl _) (by simp) (by unfold room; omega)
  rw [List.nil_append, Nat.zero_add] at ho1
  obtain ⟨s3, F, old, e5, ho'⟩ := ho1.hand (P := C.P) (acc := H) (l := []) (show tySize C.P 3 = some 1 from rfl) (by simp [isG, sc, ni])
  obtain ⟨a, c, rfl⟩ := hs.sl
  simp only [go_sem, show C.wr 87 = false from rfl, bs_nil ts34, e3, eo_append (show notInt C.P 34 = true from rfl), Chb (show wrF 87 = false from rfl), take_keeps (hk0.trans hk1), e5]
  exact .some ⟨F, rfl, ho'⟩
theorem make_c {n : Nat} {s : Value} {B : List Nat} {l : Nat × Nat} (hs : Shows H 1 s B.length (ni B)) (hl : B.length = n) (hx : l.1 < n) (hy : l.2 < n) (hB : ∀ x ∈ B, x < 2 ^ n) (hn : n ≤ 10) :
    Ok (cal C base 76 [s, lv (l.1, l.2)] H) fun v H' => ∃ F, H' = H ++ F ∧ OwnL H.length H' 3 1 v n (ni (stepC B l)) := by
  refine ok_fn Try.func76 rfl rfl (res := [.tmp 4]) rfl Try.ntmps76 1 base _ H ?_
  obtain ⟨x, y⟩ := l
  simp only [] at hx hy
  have hs1 := hs.add [some (67, [gi x, gi y])]
  obtain ⟨v, H1, e1, F, rfl, ho⟩ := own_c (base := H.length) hs1 (by omega)
  obtain ⟨h0, ⟨hz, _, _⟩ | ⟨b0, hb0, rfl, hg⟩⟩ := ho
  · omega
  rw [hl] at h0 e1
  have hb1 : H.length + 1 ≤ b0 := by simpa using hb0
  have hbl := hget_lt hg
  have hcell : hget ((H ++ [some (67, [gi x, gi y])]) ++ F) H.length = some (67, [gi x, gi y]) := hget_old hget_0 F
  have ix : ∀ z : Nat, z < n → indexAddrA C.P 34 (.slice (some ⟨b0, 0, some 1⟩) n n) (gi z) = some (.pointer (some ⟨b0, z, none⟩)) := fun z hz => by
    rw [ia_at (show tyElem C.P 34 = some 3 from rfl) (show tySize C.P 3 = some 1 from rfl) hz]; simp
  have hs2 := hs1.add F
  obtain ⟨bx, ox, Tx, csx, x1, x2, x3⟩ := ElI hs2 (i := x) (by omega)
  obtain ⟨by', oy, Ty, csy, y1, y2, y3⟩ := ElI hs2 (i := y) (by omega)
  generalize hq : B.getD x 0 ||| B.getD y 0 = q
  have hst := st_at (P := C.P) (base := H.length) (t := 3) (o := x) (v := gi (q : Nat)) (by omega) hg rfl rfl (by rw [h0]; show x + 1 ≤ n * 1; omega)
  rw [show setAll (ni B) x (gi ((q : Nat) : Int)).cells.toList = ni (B.set x q) from ni_set _ _ _] at hst
  have hg2 : hget ((((H ++ [some (67, [gi x, gi y])]) ++ F)).set b0 (some (3, ni (B.set x q)))) b0 = some (3, ni (B.set x q)) := by
    unfold hget; rw [List.getElem?_set_self hbl]; rfl
  have hcell2 : hget ((((H ++ [some (67, [gi x, gi y])]) ++ F)).set b0 (some (3, ni (B.set x q)))) H.length = some (67, [gi x, gi y]) := by
    unfold hget; rw [List.getElem?_set_ne (by omega)]; exact hcell
  have hst2 := st_at (P := C.P) (base := H.length) (t := 3) (o := y) (v := gi (q : Nat)) (by omega) hg2 rfl rfl (by show y + 1 ≤ _; simp [ni]; omega)
  rw [show setAll (ni (B.set x q)) y (gi ((q : Nat) : Int)).cells.toList = ni ((B.set x q).set y q) from ni_set _ _ _, List.set_set] at hst2
  have hk : Keeps H.length H ((((H ++ [some (67, [gi x, gi y])]) ++ F)).set b0 (some (3, ni ((B.set x q).set y q)))) := by
    rw [List.append_assoc]
    exact (Keeps.append (Nat.le_refl _) _).trans (.set (by omega) _)
  have hfin : OwnL H.length ((((H ++ [some (67, [gi x, gi y])]) ++ F)).set b0 (some (3, ni ((B.set x q).set y q)))) 3 1 (.slice (some ⟨b0, 0, some 1⟩) n n) n (ni (stepC B (x, y))) := by
    refine ⟨by simp [ni, stepC, hl], .inr ⟨b0, by omega, rfl, ?_⟩⟩
    unfold hget
    rw [List.getElem?_set_self hbl, stepC, hq]; rfl
  obtain ⟨s3, F3, old, e5, ho'⟩ := hfin.hand (P := C.P) (acc := H) (l := []) (show tySize C.P 3 = some 1 from rfl) (by simp [isG, sc, ni])
  simp only [go_sem, lv, show C.wr 76 = false from rfl, e1]
  rw [fin_regd]; rotate_left; · decide +kernel
  simp only [go_sem, hcell, x1, x2, x3, y1, y2, y3, bor64 (getD_lt hB hn _) (getD_lt hB hn _), hq, ix _ hx, ix _ hy, hst, hcell2, hst2, Chb (show wrF 76 = false from rfl), take_keeps hk, e5]
  exact .some ⟨F3, rfl, ho'⟩
theorem caPlay_c {n : Nat} (hn : n ≤ 10) {s : Value} {M : List (Nat × Nat)} (hs : SL H s (toZ M)) (hM : M.length < 1000) (hr : ∀ l ∈ M, l.1 < n ∧ l.2 < n) : Ok (cal C base 40 [gi n, s] H) fun s H' => ∃ F, H' = H ++ F ∧ OwnL H.length H' 3 1 s n (ni (playC n M)) := by
  refine ok_fn Try.func40 rfl rfl (res := [.tmp 4]) rfl Try.ntmps40 1001 base _ H ?_
  have hZ : (toZ M).length = M.length := by simp [toZ]
  rw [SL, hZ] at hs
  obtain ⟨a, c, rfl⟩ := hs.sl
  obtain ⟨v, H1, e1, F1, rfl, ho⟩ := caStart_c n hn H H.length
  simp only [go_sem, show C.wr 40 = false from rfl, e1]
  rw [fin_loopk [13, 14, 15, 7, 16, 17, 18, 19] rfl]
  refine lp_ok [5, 12] (fun j vs H' => ∃ (i : Nat) (v : Value), i + j = M.length ∧ vs = [v, gi i] ∧ OwnL H.length H' 3 1 v n (ni (playC n (M.take i))) ∧ Keeps H.length H H') M.length [v, gi 0] ?_ (by omega) (by simp only [go_sem]) ⟨0, v, by omega, rfl, ho, .append (Nat.le_refl _) _⟩
  rintro j m vs H' ⟨i, v, hij, rfl, ho, hk⟩ ih
  have hP := playC_ok hn (M.take i)
  cases hlt : decide ((i : Int) < (M.length : Int))
  · obtain rfl : i = M.length := by have := of_decide_eq_false hlt; omega
    rw [List.take_length] at ho hP
    obtain ⟨s', F, old, e, ho'⟩ := ho.hand (P := C.P) (acc := H) (l := []) (show tySize C.P 3 = some 1 from rfl) (by simp [isG, sc, ni])
    simp only [go_sem, hlt, Chb (show wrF 40 = false from rfl), take_keeps hk, e]
    exact .some ⟨F, rfl, ho'⟩
  · have hi : i < M.length := by have := of_decide_eq_true hlt; omega
    obtain ⟨hx, hy⟩ := hr M[i] (List.getElem_mem hi)
    have hZi : (toZ M)[i]'(by rw [hZ]; exact hi) = (((M[i].1 : Nat) : Int), ((M[i].2 : Nat) : Int)) := by simp [toZ]
    have hs' : SL H' (.slice a M.length c) (toZ M) := by rw [SL, hZ]; exact hs.keep hk
    obtain ⟨b, o, T, cs, h1, h2, h3⟩ := SL.el hs' (i := i) (by rw [hZ]; exact hi)
    rw [hZi, lv] at h3
    have hsh : Shows H' 1 v (playC n (M.take i)).length (ni (playC n (M.take i))) := by rw [hP.1]; exact ho.shows
    obtain ⟨v2, H2, e2, F2, rfl, ho2⟩ := make_c (base := H.length) (l := M[i]) (hsh.add [some (67, [gi (M[i].1 : Nat), gi (M[i].2 : Nat)])]) hP.1 hx hy hP.2 hn
    rw [lv] at e2
    simp only [go_sem, hlt, h1, h2, h3, st66 hk.1, hget_0, e2]
    rw [wrapN (by omega)]
    have hkn : Keeps H.length H ((H' ++ [some (67, [gi (M[i].1 : Nat), gi (M[i].2 : Nat)])]) ++ F2) := by rw [List.append_assoc]; exact hk.trans (.append hk.1 _)
    refine ih (j - 1) [v2, gi (i + 1 : Nat)] _ _ (by omega) (by simp only [go_sem]) ⟨i + 1, v2, by omega, rfl, ?_, hkn⟩
    rw [playC_snoc n M hi]
    exact ho2.low (by have := hk.1; simp; omega)
end T

