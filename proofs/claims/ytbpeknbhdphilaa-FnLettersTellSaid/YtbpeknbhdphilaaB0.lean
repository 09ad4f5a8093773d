/- What the letters' law speaks of; is a list one of letters? No conditions. -/
import Derived.Test.YtbpeknbhdphilaaA5
import Derived.Test.YtbpeknbhdphilaaProg
/- What the letters' laws speak of. No conditions. -/
open Go Go.Am
namespace T
abbrev gi (n : Int) : Value := .int .i64 n
abbrev bo (b : Bool) : Value := .bool b
def inF (n x : Int) : Bool := decide (0 ≤ x) && decide (x ≤ IntKind.i64.wrap (n - 1))
def areF (n : Int) : Bool := decide (1 ≤ n) && decide (n ≤ 10)
/-- Is this a letter of n friends? -/
def isL (n : Int) (l : Int × Int) : Bool := inF n l.1 && inF n l.2 && (l.1 != l.2)
def lv (l : Int × Int) : Value := .agg #[gi l.1, gi l.2]
def lc (L : List (Int × Int)) : List Value := L.flatMap fun l => [gi l.1, gi l.2]
/-- Are these letters of n friends? -/
def areL (n : Int) (L : List (Int × Int)) : Bool := areF n && decide (L.length ≤ 60) && L.all (isL n)
def backL (M : List (Int × Int)) : List (Int × Int) := M.reverse.map fun l => (l.2, l.1)
/-- Pairs of numbers that cells hold. -/
def pairs : List Value → Option (List (Int × Int))
  | [] => some []
  | .int .i64 a :: .int .i64 b :: r => (pairs r).map fun l => (a, b) :: l
  | _ => none
theorem pairs_lc (L : List (Int × Int)) : pairs (lc L) = some L := by
  induction L with
  | nil => rfl
  | cons a l ih => show (pairs (lc l)).map _ = _; rw [ih]; rfl
/-- What impl.BackLetters does. -/
def back16 : List Value → Heap → Option (Value × Heap)
  | [.int .i64 n, s], H => (cellsA H 2 s).bind fun y => (pairs y.2).bind fun L => if L.length < 1000 then
      (if areL n L then some (.tuple #[.slice (some ⟨H.length, 0, some 2⟩) L.length L.length, bo true], H ++ [some (66, lc (backL L))]) else some (.tuple #[.slice none 0 0, bo false], H)) else none
  | _, _ => none
end T

open Go Go.Am
namespace T0
open T
set_option maxRecDepth 100000
set_option linter.unusedSimpArgs false
def wrF (f : FuncId) : Bool := f == 52 || f == 56 || f == 69 || f == 70 || f == 71 || f == 72 || f == 80 || f == 85 || f == 86 || f == 79 || f == 64
def rawF (f : FuncId) : Bool := f == 6 || f == 7 || f == 29 || f == 32 || f == 34
noncomputable def C : Cfg := { P := Go.Proofs.Try.prog, wr := wrF, raw := rawF, ext := fun _ => false }
theorem Cwr (f) : C.wr f = wrF f := rfl
theorem Cext (f) : C.ext f = false := rfl
theorem Chb {f m vs H} (h : wrF f = false) (h2 : rawF f = false := by rfl) : handBack C f m vs H = (takeVals C.P m vs H (H.take m)).map fun x => (tupA x.1, x.2.2) := hb_flat (by show (rawF f || wrF f) = false; rw [h, h2]; rfl)
theorem Chr {f m vs H} (h : (rawF f || wrF f) = true) : handBack C f m vs H = some (tupA vs, H) := hb_raw h
section
variable {call : Nat → CallF} {base : Nat} {dr : Bool} {ρ : Env} {H : Heap} {d : Option Tmp} {u : TypeId} {p : String} {e : Array Edge} {g : Option (Nat × Bool)} {f : FuncId} {xs : Array Operand} {ts : Array TypeId}
@[go_sem] theorem Ccall : evalOp C call base false ⟨d, .call ⟨.value (.func f), xs, ts⟩, u, p, e, g⟩ ρ H = call base f (xs.toList.map (ev ρ)) H := eo_call rfl
@[go_sem] theorem Ccalld : evalOp C call base true ⟨d, .call ⟨.value (.func f), xs, ts⟩, u, p, e, g⟩ ρ H = call base f (xs.toList.map (ev ρ)) H := eo_calld rfl
-- the types
theorem ts52 : TyS C.P 52 62 1 (.int .u16 0) := ⟨rfl, rfl, rfl, ⟨rfl, by decide, rfl⟩, rfl⟩
theorem ts24 : TyS C.P 24 66 2 (.agg #[gi 0, gi 0]) := ⟨rfl, rfl, rfl, ⟨rfl, by decide, rfl⟩, rfl⟩
theorem ts34 : TyS C.P 34 3 1 (gi 0) := ⟨rfl, rfl, rfl, ⟨rfl, by decide, rfl⟩, rfl⟩
@[go_sem] theorem te24 : (tyElem C.P 24).isSome = true := rfl
@[go_sem] theorem te52 : (tyElem C.P 52).isSome = true := rfl
@[go_sem] theorem te34 : (tyElem C.P 34).isSome = true := rfl
theorem tg3 : tyAgg C.P 3 = some false := rfl
theorem tg62 : tyAgg C.P 62 = some false := rfl
theorem tg24 : tyAgg C.P 24 = some false := rfl
theorem tg66 : tyAgg C.P 66 = some true := rfl
theorem sz66 : tySize C.P 66 = some 2 := rfl
theorem sz3 : tySize C.P 3 = some 1 := rfl
@[go_sem] theorem ld3 {o T cs} : ld1 C.P 3 o (some (T, cs)) = cs[o]? := ld_sc tg3
@[go_sem] theorem ld62 {o T cs} : ld1 C.P 62 o (some (T, cs)) = cs[o]? := ld_sc tg62
@[go_sem] theorem ld24 {o T cs} : ld1 C.P 24 o (some (T, cs)) = cs[o]? := ld_sc tg24
theorem ld66 {o T cs} : ld1 C.P 66 o (some (T, cs)) = if o + 2 ≤ cs.length then some (.agg ((cs.drop o).take 2).toArray) else none := ld_ag tg66 sz66
@[go_sem] theorem ld66' {T} {x y : Value} : ld1 C.P 66 0 (some (T, [x, y])) = some (.agg #[x, y]) := by simp [ld66]
@[go_sem] theorem al66 : evalOp C call base dr ⟨d, .alloc 66, u, p, e, g⟩ ρ H = some (.pointer (some ⟨H.length, 0, none⟩), H ++ [some (66, [gi 0, gi 0])]) := eo_alloc (z := .agg #[gi 0, gi 0]) rfl rfl
@[go_sem] theorem fa66_0 {b o} : fieldAddrA C.P 66 0 (.pointer (some ⟨b, o, none⟩)) = some (.pointer (some ⟨b, o, none⟩)) := rfl
@[go_sem] theorem fa66_1 {b o} : fieldAddrA C.P 66 1 (.pointer (some ⟨b, o, none⟩)) = some (.pointer (some ⟨b, o + 1, none⟩)) := rfl
theorem st66 {H : Heap} {x0 y0 : Value} {x y : Int} (hb : base ≤ H.length) : storeA C.P base (H ++ [some (66, [x0, y0])]) 66 (.agg #[gi x, gi y]) (.pointer (some ⟨H.length, 0, none⟩)) = some (H ++ [some (66, [gi x, gi y])]) := st_new hb rfl sz66 rfl
theorem w00 : C.wr 0 = false := rfl
end
open Go.Proofs
set_option maxRecDepth 100000
set_option maxHeartbeats 4000000
set_option linter.unusedSimpArgs false
variable {base : Nat} {H : Heap}
theorem within_c {n lo hi : Int} : cal C base 67 [gi n, gi lo, gi hi] H = some (bo (decide (lo ≤ n) && decide (n ≤ hi)), H) := by
  refine cal_fn Try.func67 rfl rfl (res := [.tmp 6]) rfl Try.ntmps67 2 base _ H ?_
  cases h : decide (lo ≤ n) <;> simp only [go_sem, h, Cwr, Chb (show wrF 67 = false from rfl)]
theorem in_c {n lo hi : Int} : cal C base 83 [gi n, gi lo, gi hi] H = some (bo (decide (lo ≤ n) && decide (n ≤ hi)), H) := by
  refine cal_fn Try.func83 rfl rfl (res := [.tmp 6]) rfl Try.ntmps83 2 base _ H ?_
  cases h : decide (lo ≤ n) <;> simp only [go_sem, h, Cwr, Chb (show wrF 83 = false from rfl)]
theorem isFriend_c {n x : Int} : cal C base 51 [gi n, gi x] H = some (bo (inF n x), H) := by
  refine cal_fn Try.func51 rfl rfl (res := [.tmp 4]) rfl Try.ntmps51 2 base _ H ?_
  simp only [go_sem, within_c, Chb (show wrF 51 = false from rfl), inF]
theorem areFriends_c {n : Int} : cal C base 48 [gi n] H = some (bo (areF n), H) := by
  refine cal_fn Try.func48 rfl rfl (res := [.tmp 2]) rfl Try.ntmps48 2 base _ H ?_
  simp only [go_sem, within_c, Chb (show wrF 48 = false from rfl), areF]
theorem caFriends_c {n : Int} : cal C base 59 [gi n] H = some (bo (areF n), H) := by
  refine cal_fn Try.func59 rfl rfl (res := [.tmp 2]) rfl Try.ntmps59 2 base _ H ?_
  simp only [go_sem, in_c, Chb (show wrF 59 = false from rfl), areF]
theorem leLetter_c {n : Int} {l : Int × Int} : cal C base 60 [gi n, lv l] H = some (bo (isL n l), H) := by
  refine cal_fn Try.func60 rfl rfl (res := [.tmp 4]) rfl Try.ntmps60 2 base _ H ?_
  obtain ⟨a, b⟩ := l
  cases h : inF n a <;> cases h2 : inF n b <;> simp only [inF] at h h2 <;> simp only [go_sem, lv, in_c, h, h2, hget_0, Chb (show wrF 60 = false from rfl), isL, inF]
theorem are1_c {n : Int} {l : Int × Int} {b : Nat} (hb : hget H b = some (3, [gi n])) : cal C base 50 [lv l, .pointer (some ⟨b, 0, none⟩)] H = some (bo (!isL n l), H) := by
  refine cal_fn Try.func50 rfl rfl (res := [.tmp 3]) rfl Try.ntmps50 2 base _ H ?_
  obtain ⟨x, y⟩ := l
  cases h : inF n x <;> cases h2 : inF n y <;> simp only [go_sem, lv, isFriend_c, h, h2, hget_0, hget_old hb, Chb (show wrF 50 = false from rfl), isL]
  cases h3 : x == y <;> simp [bne, h3]

theorem lc_len (L : List (Int × Int)) : (lc L).length = L.length * 2 := by
  induction L with
  | nil => rfl
  | cons a l ih => simp only [lc, List.flatMap_cons, List.length_append] at ih ⊢; rw [ih]; simp; omega
theorem lc_drop (L : List (Int × Int)) : ∀ {i : Nat} (h : i < L.length), ∃ r, (lc L).drop (i * 2) = gi L[i].1 :: gi L[i].2 :: r := by
  induction L with
  | nil => intro i h; simp at h
  | cons a l ih =>
    intro i h
    cases i with
    | zero => exact ⟨lc l, rfl⟩
    | succ i =>
      obtain ⟨r, hr⟩ := ih (i := i) (by simpa using h)
      refine ⟨r, ?_⟩
      rw [show (i + 1) * 2 = i * 2 + 2 by omega]
      show (gi a.1 :: gi a.2 :: lc l).drop (i * 2 + 2) = _
      simpa using hr
theorem lc_take {L : List (Int × Int)} {i : Nat} (h : i < L.length) : ((lc L).drop (i * 2)).take 2 = [gi L[i].1, gi L[i].2] := by
  obtain ⟨r, hr⟩ := lc_drop L h; rw [hr]; rfl
/-- A slice of letters. -/
abbrev SL (H : Heap) (s : Value) (L : List (Int × Int)) : Prop := Shows H 2 s L.length (lc L)
theorem SL.el {s : Value} {L : List (Int × Int)} (h : SL H s L) {i : Nat} (hi : i < L.length) : ∃ b o T cs, indexAddrA C.P 24 s (gi i) = some (.pointer (some ⟨b, o, none⟩)) ∧ hget H b = some (T, cs) ∧ ld1 C.P 66 o (some (T, cs)) = some (lv L[i]) := by
  obtain ⟨b, o, T, cs, h1, h2, h3, h4, _⟩ := Shows.at (P := C.P) (t := 24) (el := 66) (K := .i64) h hi rfl rfl
  refine ⟨b, o, T, cs, h1, h2, ?_⟩
  rw [ld66, if_pos h3, h4, lc_take hi]; rfl
theorem wrapN {i : Nat} (h : i < 2 ^ 62) : IntKind.i64.wrap ((i : Int) + 1) = ((i + 1 : Nat) : Int) := by rw [IntKind.wrap_i64]; omega
/-- An index, or -1. -/
def fx : Option Nat → Int
  | some i => i
  | none => -1
theorem indexL_c {s cap : Value} {g : FuncId} {L : List (Int × Int)} {p : Int × Int → Bool} (hs : SL H s L) (hL : L.length < 1000) (hp : ∀ l base, cal C base g [lv l, cap] H = some (bo (p l), H)) :
    cal C base 68 [s, .func (.func g) #[] #[cap]] H = some (gi (fx (L.findIdx? p)), H) := by
  refine cal_fn Try.func68 rfl rfl (res := [.tmp 4]) rfl Try.ntmps68 1001 base _ H ?_
  obtain ⟨a, c, rfl⟩ := hs.sl
  simp only [go_sem]
  rw [fin_loopk [9, 10, 5, 11, 12, 13, 14, 15, 16, 17, 4, 18] rfl]
  refine lp_run [8] (fun j vs H' => ∃ i : Nat, i + j = L.length ∧ vs = [gi i] ∧ (∀ k (h : k < L.length), k < i → p L[k] = false) ∧ H' = H) ?_ L.length [gi 0] (by omega) (by simp only [go_sem]) ⟨0, by omega, rfl, fun k _ h => absurd h (Nat.not_lt_zero _), rfl⟩
  rintro j m vs H' ⟨i, hij, rfl, hno, rfl⟩ ih
  cases hlt : decide ((i : Int) < (L.length : Int))
  · simp only [go_sem, hlt, Chb (show wrF 68 = false from rfl)]
    have : L.findIdx? p = none := by
      rw [List.findIdx?_eq_none_iff]
      intro x hx
      obtain ⟨k, hk, rfl⟩ := List.getElem_of_mem hx
      exact hno k hk (by have := of_decide_eq_false hlt; omega)
    rw [this]; rfl
  · have hi : i < L.length := by have := of_decide_eq_true hlt; omega
    obtain ⟨b, o, T, cs, h1, h2, h3⟩ := hs.el hi
    cases hpi : p L[i]
    · simp only [go_sem, hlt, h1, h2, h3, hp, hpi]
      rw [wrapN (by omega)]
      refine ih (j - 1) [gi (i + 1 : Nat)] _ _ (by omega) (by simp only [go_sem]) ⟨i + 1, by omega, rfl, fun k hk hki => ?_, rfl⟩
      by_cases e : k = i
      · subst e; exact hpi
      · exact hno k hk (by omega)
    · simp only [go_sem, hlt, h1, h2, h3, hp, hpi, Chb (show wrF 68 = false from rfl)]
      have : L.findIdx? p = some i := by
        rw [List.findIdx?_eq_some_iff_getElem]
        exact ⟨hi, hpi, fun k hk => by rw [hno k (by omega) hk]; decide⟩
      rw [this]; rfl
open Go.Proofs
set_option maxRecDepth 100000
set_option maxHeartbeats 4000000
set_option linter.unusedSimpArgs false
variable {base : Nat} {H : Heap}
theorem cont_c {s cap : Value} {g : FuncId} {L : List (Int × Int)} {p : Int × Int → Bool} (hs : SL H s L) (hL : L.length < 1000) (hp : ∀ l base, cal C base g [lv l, cap] H = some (bo (p l), H)) :
    cal C base 49 [s, .func (.func g) #[] #[cap]] H = some (bo (L.any p), H) := by
  refine cal_fn Try.func49 rfl rfl (res := [.tmp 4]) rfl Try.ntmps49 1 base _ H ?_
  have : (L.any p) = decide (0 ≤ fx (L.findIdx? p)) := by
    cases h : L.findIdx? p with
    | none =>
      rw [List.findIdx?_eq_none_iff] at h
      have : L.any p = false := by rw [List.any_eq_false]; intro x hx; rw [h x hx]; decide
      rw [this]; rfl
    | some i =>
      obtain ⟨h1, h2, _⟩ := List.findIdx?_eq_some_iff_getElem.1 h
      have : L.any p = true := List.any_eq_true.2 ⟨_, List.getElem_mem h1, h2⟩
      rw [this]
      exact (decide_eq_true (Int.natCast_nonneg _)).symm
  simp only [go_sem, indexL_c hs hL hp, Chb (show wrF 49 = false from rfl), this]
theorem areL_c {n : Int} {s : Value} {L : List (Int × Int)} (hs : SL H s L) (hL : L.length < 1000) : cal C base 21 [gi n, s] H = some (bo (areL n L), H) := by
  refine cal_fn Try.func21 rfl rfl (res := [.tmp 4]) rfl Try.ntmps21 1 base _ H ?_
  obtain ⟨a, c, rfl⟩ := hs.sl
  have h2 := hs.add [some (3, [gi n])]
  have h3 : L.any (fun l => !isL n l) = !L.all (isL n) := by rw [List.not_all_eq_any_not]
  have hcl : ((L.length : Int) ≤ 60) = (L.length ≤ 60) := by simp; omega
  cases h : areF n <;> cases hl : decide (L.length ≤ 60) <;>
    simp only [go_sem, areFriends_c, h, hget_0, hcl, hl, cont_c h2 hL (p := fun l => !isL n l) (fun l base => are1_c hget_0), h3, Chb (show wrF 21 = false from rfl), show C.wr 21 = false from rfl, areL, Bool.not_not]
theorem leGood_c {n : Int} {s : Value} {L : List (Int × Int)} (hs : SL H s L) (hL : L.length < 1000) : cal C base 33 [gi n, s] H = some (bo (areL n L), H) := by
  refine cal_fn Try.func33 rfl rfl (res := [.tmp 4]) rfl Try.ntmps33 1001 base _ H ?_
  obtain ⟨a, c, rfl⟩ := hs.sl
  have hcl : ((60 : Int) < (L.length : Int)) = (60 < L.length) := by simp; omega
  cases h : areF n
  · simp only [go_sem, caFriends_c, h, show C.wr 33 = false from rfl, Chb (show wrF 33 = false from rfl), areL]
  cases hl : decide (60 < L.length)
  · simp only [go_sem, caFriends_c, h, hcl, hl, show C.wr 33 = false from rfl]
    rw [fin_loopk [18, 19, 20, 6, 21, 22, 23, 24, 4, 25] rfl]
    refine lp_run [17] (fun j vs H' => ∃ i : Nat, i + j = L.length ∧ vs = [gi i] ∧ (∀ k (h : k < L.length), k < i → isL n L[k] = true) ∧ Keeps H.length H H') ?_ L.length [gi 0] (by omega) (by simp only [go_sem]) ⟨0, by omega, rfl, fun k _ h => absurd h (Nat.not_lt_zero _), .refl _ _⟩
    have hl2 : L.length ≤ 60 := by have := of_decide_eq_false hl; omega
    rintro j m vs H' ⟨i, hij, rfl, hno, hk⟩ ih
    cases hlt : decide ((i : Int) < (L.length : Int))
    · simp only [go_sem, hlt, Chb (show wrF 33 = false from rfl), take_keeps hk]
      have : L.all (isL n) = true := by
        rw [List.all_eq_true]
        intro x hx
        obtain ⟨k, hk, rfl⟩ := List.getElem_of_mem hx
        exact hno k hk (by have := of_decide_eq_false hlt; omega)
      rw [areL, h, this, decide_eq_true hl2]; rfl
    · have hi : i < L.length := by have := of_decide_eq_true hlt; omega
      obtain ⟨b, o, T, cs, h1, h2, h3⟩ := SL.el (hs.keep hk) hi
      have hk2 : Keeps H.length H (H' ++ [some (66, [gi L[i].1, gi L[i].2])]) := hk.trans (.append hk.1 _)
      have h4 := leLetter_c (base := H.length) (n := n) (l := L[i]) (H := H' ++ [some (66, [gi L[i].1, gi L[i].2])])
      rw [lv] at h3 h4
      cases hpi : isL n L[i]
      · simp only [go_sem, hlt, h1, h2, h3, st66 hk.1, hget_0, h4, hpi, Chb (show wrF 33 = false from rfl), take_keeps hk2]
        have : L.all (isL n) = false := by
          rw [List.all_eq_false]; exact ⟨_, List.getElem_mem hi, by rw [hpi]; decide⟩
        rw [areL, this, Bool.and_false]
      · simp only [go_sem, hlt, h1, h2, h3, st66 hk.1, hget_0, h4, hpi]
        rw [wrapN (by omega)]
        refine ih (j - 1) [gi (i + 1 : Nat)] _ _ (by omega) (by simp only [go_sem]) ⟨i + 1, by omega, rfl, fun k hk hki => ?_, hk2⟩
        by_cases e : k = i
        · subst e; exact hpi
        · exact hno k hk (by omega)
  · simp only [go_sem, caFriends_c, h, hcl, hl, show C.wr 33 = false from rfl, Chb (show wrF 33 = false from rfl)]
    have : decide (L.length ≤ 60) = false := decide_eq_false (by have := of_decide_eq_true hl; omega)
    rw [areL, this, Bool.and_false, Bool.false_and]
theorem areL2_c {n : Int} {s : Value} {L : List (Int × Int)} (hs : SL H s L) (hL : L.length < 1000) : cal C base 22 [gi n, s] H = some (bo (areL n L), H) := by
  refine cal_fn Try.func22 rfl rfl (res := [.tmp 4]) rfl Try.ntmps22 1 base _ H ?_
  simp only [go_sem, leGood_c hs hL, Chb (show wrF 22 = false from rfl)]
end T0

