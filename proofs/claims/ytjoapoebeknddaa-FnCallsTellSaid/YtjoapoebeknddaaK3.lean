/- Calls: calls back, comparisons, who knows whose news, the calls of a friend. No conditions. -/
import Derived.Test.YtjoapoebeknddaaK2
set_option linter.unusedSimpArgs false
set_option linter.unusedVariables false
open Go Go.Am
namespace T
open Go.Proofs
set_option maxRecDepth 100000
set_option maxHeartbeats 4000000
set_option linter.unusedSimpArgs false
set_option linter.unusedVariables false
variable {base : Nat} {H : Heap}
theorem set_lc (L : List (Int × Int)) (x : Int × Int) : ∀ {k : Nat}, k < L.length → setAll (lc L) (k * 2) [gi x.1, gi x.2] = lc (L.set k x) := by
  induction L with
  | nil => intro k h; simp at h
  | cons a L ih =>
    intro k h
    cases k with
    | zero => rfl
    | succ k =>
      have := ih (k := k) (by simpa using h)
      rw [show (k + 1) * 2 = k * 2 + 2 by omega]
      show setAll (gi a.1 :: gi a.2 :: lc L) (k * 2 + 2) [gi x.1, gi x.2] = gi a.1 :: gi a.2 :: lc (L.set k x)
      rw [← this]; rfl
/-- The first i and the last i elements have changed places. -/
def swp (L : List (Int × Int)) (i : Nat) : List (Int × Int) := (List.range L.length).map fun k => if k < i ∨ L.length - i ≤ k then L.getD (L.length - 1 - k) (0, 0) else L.getD k (0, 0)
theorem swp_len (L : List (Int × Int)) (i : Nat) : (swp L i).length = L.length := by simp [swp]
theorem swp_get (L : List (Int × Int)) (i : Nat) {k : Nat} (h : k < L.length) : (swp L i).getD k (0, 0) = if k < i ∨ L.length - i ≤ k then L.getD (L.length - 1 - k) (0, 0) else L.getD k (0, 0) := by
  rw [List.getD_eq_getElem?_getD]
  unfold swp
  rw [List.getElem?_map, List.getElem?_range h]; rfl
theorem getDset {α : Type} {B : List α} {i j : Nat} {v d : α} (hi : i < B.length) : (B.set i v).getD j d = if j = i then v else B.getD j d := by
  rw [List.getD_eq_getElem?_getD, List.getD_eq_getElem?_getD, List.getElem?_set]
  by_cases h : i = j
  · subst h; simp [hi]
  · rw [if_neg h, if_neg (fun e => h e.symm)]
theorem extD {α : Type} {A B : List α} {d : α} (h : A.length = B.length) (hh : ∀ k, k < A.length → A.getD k d = B.getD k d) : A = B := by
  refine List.ext_getElem h fun k h1 h2 => ?_
  have := hh k h1
  simpa [h1, h2] using this
theorem swp_0 (L : List (Int × Int)) : swp L 0 = L := by
  refine extD (d := (0, 0)) (swp_len L 0) fun k hk => ?_
  rw [swp_len] at hk
  rw [swp_get L 0 hk, if_neg (by omega)]
theorem swp_end (L : List (Int × Int)) {i : Nat} (h : L.length ≤ 2 * i + 1) : swp L i = L.reverse := by
  refine extD (d := (0, 0)) (by rw [swp_len, List.length_reverse]) fun k hk => ?_
  rw [swp_len] at hk
  have e : L.reverse.getD k (0, 0) = L.getD (L.length - 1 - k) (0, 0) := by
    rw [List.getD_eq_getElem?_getD, List.getD_eq_getElem?_getD, List.getElem?_reverse hk]
  rw [swp_get L i hk, e]
  by_cases c : k < i ∨ L.length - i ≤ k
  · rw [if_pos c]
  · rw [if_neg c, show L.length - 1 - k = k by omega]
theorem swp_succ (L : List (Int × Int)) {i : Nat} (h : 2 * i + 1 < L.length) : ((swp L i).set i (L.getD (L.length - 1 - i) (0, 0))).set (L.length - 1 - i) (L.getD i (0, 0)) = swp L (i + 1) := by
  refine extD (d := (0, 0)) (by simp [swp_len]) fun k hk => ?_
  simp only [List.length_set, swp_len] at hk
  rw [getDset (by simp [swp_len]; omega), getDset (by simp [swp_len]; omega), swp_get L i hk, swp_get L (i + 1) hk]
  by_cases c1 : k = L.length - 1 - i
  · subst c1
    rw [if_pos rfl, if_pos (by omega), show L.length - 1 - (L.length - 1 - i) = i by omega]
  rw [if_neg c1]
  by_cases c2 : k = i
  · subst c2
    rw [if_pos rfl, if_pos (by omega)]
  rw [if_neg c2]
  by_cases c : k < i ∨ L.length - i ≤ k
  · rw [if_pos c, if_pos (by omega)]
  · rw [if_neg c, if_neg (by omega)]
theorem rev_c {b : Nat} {L : List (Int × Int)} (hb : base ≤ b) (hg : hget H b = some (67, lc L)) (hL : L.length < 1000) :
    Ok (cal C base 57 [.slice (some ⟨b, 0, some 2⟩) L.length L.length] H) fun v H' => v = .tuple #[] ∧ Onl b H H' ∧ hget H' b = some (67, lc L.reverse) ∧ H'.length = H.length := by
  refine ok_fn Try.func57 rfl rfl (res := []) rfl Try.ntmps57 1001 base _ H ?_
  have hw : IntKind.i64.wrap ((L.length : Int) - 1) = (L.length : Int) - 1 := by rw [IntKind.wrap_i64]; omega
  have hbl := hget_lt hg
  simp only [go_sem, hw, show C.wr 57 = true from rfl]
  rw [fin_loopk [7, 8, 9, 14, 15, 16, 17, 18, 19, 20, 21, 22, 23, 24, 25, 26, 27, 10, 11, 12, 13] rfl]
  refine lp_ok [2, 3] (fun j vs H' => ∃ i : Nat, i + j = L.length ∧ 2 * i ≤ L.length + 1 ∧ vs = [gi i, gi ((L.length : Int) - 1 - i)] ∧ Onl b H H' ∧ hget H' b = some (67, lc (swp L i)) ∧ H'.length = H.length) L.length [gi (0 : Nat), gi ((L.length : Int) - 1 - (0 : Nat))] ?_ (by omega) ?_ ⟨0, by omega, by omega, rfl, .refl _ _, by rw [swp_0]; exact hg, rfl⟩
  rotate_left
  · simp only [go_sem]
    rw [show (L.length : Int) - 1 - (0 : Nat) = (L.length : Int) - 1 by omega]; rfl
  rintro j m vs H' ⟨i, hij, hi2, rfl, ho, hg', hlen⟩ ih
  cases hlt : decide ((i : Int) < (L.length : Int) - 1 - i)
  · have := of_decide_eq_false hlt
    simp only [go_sem, hlt, Chr (show (rawF 57 || wrF 57) = true from rfl)]
    exact .some ⟨rfl, ho, by rw [hg', swp_end L (by omega)], hlen⟩
  · have hlt' := of_decide_eq_true hlt
    have ej : (L.length : Int) - 1 - i = ((L.length - 1 - i : Nat) : Int) := by omega
    have hsl := swp_len L i
    have hll := lc_len (swp L i)
    have ix : ∀ z : Nat, z < L.length → indexAddrA C.P 24 (.slice (some ⟨b, 0, some 2⟩) L.length L.length) (gi z) = some (.pointer (some ⟨b, z * 2, none⟩)) := fun z hz => by
      rw [ia_at (show tyElem C.P 24 = some 67 from rfl) (show tySize C.P 67 = some 2 from rfl) hz, Nat.zero_add]
    have ld : ∀ z : Nat, z < L.length → ld1 C.P 67 (z * 2) (hget H' b) = some (lv ((swp L i).getD z (0, 0))) := fun z hz => by
      rw [hg', ld66, if_pos (by omega), lc_take (by omega)]
      rw [List.getD_eq_getElem?_getD, List.getElem?_eq_getElem (by omega)]; rfl
    have st : ∀ (H1 : Heap) (K : List (Int × Int)) (z : Nat) (x : Int × Int), hget H1 b = some (67, lc K) → K.length = L.length → z < L.length → storeA C.P base H1 67 (lv x) (.pointer (some ⟨b, z * 2, none⟩)) = some (H1.set b (some (67, lc (K.set z x)))) := fun H1 K z x h1 h2 h3 => by
      have h4 := lc_len K
      have := st_at (P := C.P) (base := base) (t := 67) (o := z * 2) (v := lv x) hb h1 rfl rfl (by show z * 2 + 2 ≤ _; omega)
      rw [this]
      show some (H1.set b (some (67, setAll (lc K) (z * 2) [gi x.1, gi x.2]))) = _
      rw [set_lc K x (by omega)]
    have gi1 : (swp L i).getD i (0, 0) = L.getD i (0, 0) := by rw [swp_get L i (by omega), if_neg (by omega)]
    have gj1 : (swp L i).getD (L.length - 1 - i) (0, 0) = L.getD (L.length - 1 - i) (0, 0) := by rw [swp_get L i (by omega), if_neg (by omega)]
    have l1 := ld i (by omega)
    have l2 := ld (L.length - 1 - i) (by omega)
    rw [gi1] at l1
    rw [gj1] at l2
    have s1 := st H' (swp L i) i (L.getD (L.length - 1 - i) (0, 0)) hg' hsl (by omega)
    have hg2 : hget (H'.set b (some (67, lc ((swp L i).set i (L.getD (L.length - 1 - i) (0, 0)))))) b = some (67, lc ((swp L i).set i (L.getD (L.length - 1 - i) (0, 0)))) := by
      unfold hget; rw [List.getElem?_set_self (by omega)]; rfl
    have s2 := st _ _ (L.length - 1 - i) (L.getD i (0, 0)) hg2 (by simp [hsl]) (by omega)
    have x1 := ix i (by omega)
    have x2 := ix (L.length - 1 - i) (by omega)
    have w1 : IntKind.i64.wrap ((i : Int) + 1) = ((i + 1 : Nat) : Int) := wrapN (by omega)
    have w2 : IntKind.i64.wrap (((L.length - 1 - i : Nat) : Int) - 1) = (L.length : Int) - 1 - ((i + 1 : Nat) : Int) := by rw [IntKind.wrap_i64]; omega
    rw [ej] at hlt ⊢
    simp only [go_sem, hlt]
    rw [fin_regd]; rotate_left; · decide +kernel
    simp only [go_sem, x1, x2, l1, l2, s1, s2, w1, w2]
    rw [List.set_set, swp_succ L (by omega)]
    refine ih (j - 1) [gi (i + 1 : Nat), gi ((L.length : Int) - 1 - ((i + 1 : Nat) : Int))] _ _ (by omega) (by simp only [go_sem]) ⟨i + 1, by omega, by omega, rfl, ho.trans (.set _ _ _), ?_, by simp [hlen]⟩
    unfold hget; rw [List.getElem?_set_self (by omega)]; rfl
end T

open Go Go.Am
namespace T
open Go.Proofs
set_option maxRecDepth 100000
set_option maxHeartbeats 4000000
set_option linter.unusedSimpArgs false
set_option linter.unusedVariables false
variable {base : Nat} {H : Heap}
theorem prun_int (P : Program) {t : TypeId} {k K : IntKind} (h : P.underlying t = some (.int k)) (d : Nat) (a b : Int) : prun P (Op.equalIn (d + 1) t (.int K a) (.int K b)) = some (a == b) := by
  rw [Op.equalIn.eq_def]
  simp only
  rw [prun_bind, prun_under h, Option.bind_some]
  simp only [if_true]
  rfl
theorem u66 : C.P.underlying 67 = some (.struct #[⟨ "A", 3, 0, false, "", "", 0⟩, ⟨ "B", 3, 1, false, "", "", 8⟩]) := rfl
theorem u3 : C.P.underlying 3 = some (.int .i64) := rfl
theorem prun_eq66 (a b c d : Int) : prun C.P (Op.equal 67 (.agg #[gi a, gi b]) (.agg #[gi c, gi d])) = some ((a == c) && (b == d)) := by
  show prun C.P (Op.equalIn (9998 + 1 + 1) 67 (.agg #[gi a, gi b]) (.agg #[gi c, gi d])) = _
  rw [Op.equalIn.eq_def]
  simp only
  rw [prun_bind, prun_under u66, Option.bind_some]
  have p0 : ∀ (x y : Int), prun C.P (part 3 #[gi x, gi y] 0) = some (gi x) := fun x y => rfl
  have p1 : ∀ (x y : Int), prun C.P (part 3 #[gi x, gi y] 1) = some (gi y) := fun x y => rfl
  have hs : C.P.stoodInHeld 67 = false := by decide +kernel
  have hp : prun C.P program = some C.P := rfl
  simp only [prun_bind, hp, Option.bind_some, hs]
  rw [if_neg (by decide), ← Array.forIn_toList]
  have e0 : ∀ (x y : Int), prun C.P (Op.equalIn 9999 3 (gi x) (gi y)) = some (x == y) := fun x y => prun_int C.P u3 9998 x y
  have n1 : ("A" : String) ≠ "_" := by decide
  have n2 : ("B" : String) ≠ "_" := by decide
  have hpu : ∀ {α : Type} (x : α), prun C.P (pure x) = some x := fun x => rfl
  simp only [List.forIn_cons, List.forIn_nil, bind_assoc, if_pos n1, if_pos n2]
  cases h1 : a == c <;> cases h2 : b == d <;> simp only [prun_bind, p0, p1, e0, h1, h2, Option.bind_some, Bool.not_true, Bool.not_false, Bool.false_eq_true, if_true, if_false, hpu, Bool.and_true, Bool.and_false]
theorem eo_ne66 {call : Nat → CallF} {base : Nat} {dr : Bool} {ρ : Env} {d : Option Tmp} {u u' : TypeId} {p : String} {e : Array Edge} {g : Option (Nat × Bool)} {x y : Operand} {l l' : Int × Int} (hx : ev ρ x = lv l) (hy : ev ρ y = lv l') :
    evalOp C call base dr ⟨d, .binOp .neq 67 x y u, u', p, e, g⟩ ρ H = some (bo (l != l'), H) := by
  show valH H (binA C.P ρ _ .neq (ev ρ x) (ev ρ y)) = _
  rw [hx, hy]
  show valH H (groundA C.P ρ ⟨d, .binOp .neq 67 x y u, u', p, e, g⟩) = _
  obtain ⟨a, b⟩ := l
  obtain ⟨a', b'⟩ := l'
  have hG : (Op.binOp .neq 67 x y u).operands.toList.all (fun z => isG (ev ρ z)) = true := by
    show ([x, y] : List Operand).all _ = true
    simp [hx, hy, isG, sc, lv]
  have hg : prun C.P (eqGuard .neq 67 x y (lv (a, b)) (lv (a', b'))) = some () := by
    have hq : C.P.eqGuardType C.P.depth 67 = false := by decide +kernel
    have hp : prun C.P program = some C.P := rfl
    unfold eqGuard
    simp only [lv, Bool.not_true, Bool.false_eq_true, if_false, prun_bind, hp, Option.bind_some, hq, Bool.not_false, if_true]
    rfl
  have hr : prun C.P (execOp (ev ρ) ⟨d, .binOp .neq 67 x y u, u', p, e, g⟩) = some (.value (bo ((a, b) != (a', b')))) := by
    simp only [execOp]
    rw [hx, hy]
    have h2 : prun C.P (binOp .neq 67 (lv (a, b)) (lv (a', b'))) = some (bo ((a, b) != (a', b'))) := by
      show prun C.P (do pure (.bool (!(← Op.equal 67 (lv (a, b)) (lv (a', b'))))) : Sem Value) = _
      rw [prun_bind]
      simp only [lv, prun_eq66, Option.bind_some]
      show some (Value.bool (!(a == a' && b == b'))) = _
      rfl
    have h3 : prun C.P (do eqGuard .neq 67 x y (lv (a, b)) (lv (a', b')); binOp .neq 67 (lv (a, b)) (lv (a', b'))) = some (bo ((a, b) != (a', b'))) := by
      rw [prun_bind, hg, Option.bind_some, h2]
    first
      | rw [prun_map, h3]; rfl
      | (rw [prun_bind, h3]; rfl)
  unfold groundA
  rw [if_pos hG, hr]
  rfl
theorem ne66_b {ρ : Env} {d : Option Tmp} {u u' : TypeId} {p : String} {e : Array Edge} {g : Option (Nat × Bool)} {i j : Tmp} {l l' : Int × Int} (hx : ρ.getD i undef = lv l) (hy : ρ.getD j undef = lv l') : bin2 C.P ρ ⟨d, .binOp .neq 67 (.tmp i) (.tmp j) u, u', p, e, g⟩ H .neq (lv l) (lv l') = some (bo (l != l'), H) := by
  have := eo_ne66 (call := cal C) (base := 0) (dr := false) (H := H) (d := d) (u := u) (u' := u') (p := p) (e := e) (g := g) (x := .tmp i) (y := .tmp j) hx hy
  rw [eo_bin] at this
  simp only [ev_tmp, hx, hy] at this
  exact this
theorem wSame_c {s1 s2 : Value} {B1 B2 : List Nat} (h1 : Shows H 1 s1 B1.length (ni B1)) (h2 : Shows H 1 s2 B2.length (ni B2)) (hB : B1.length < 1000) (q : Bool) (hq : q = (B1 == B2)) : cal C base 21 [s1, s2] H = some (bo q, H) := by
  refine cal_fn Try.func21 rfl rfl (res := [.tmp 4]) rfl Try.ntmps21 1001 base _ H ?_
  obtain ⟨a, c, rfl⟩ := h1.sl
  obtain ⟨a2, c2, rfl⟩ := h2.sl
  cases hl : B1.length != B2.length
  · simp only [go_sem, show C.wr 21 = false from rfl, eqlen, hl]
    have hle : B1.length = B2.length := by simpa using hl
    rw [fin_loopk [14, 15, 5, 16, 17, 18, 19, 20, 21, 22, 23, 24, 4, 25] rfl]
    refine lp_run [13] (fun j vs H' => ∃ i : Nat, i + j = B1.length ∧ vs = [gi i] ∧ (∀ k (h : k < B1.length), k < i → B1[k] = B2[k]'(by omega)) ∧ H' = H) ?_ B1.length [gi 0] (by omega) (by simp only [go_sem]) ⟨0, by omega, rfl, fun k _ h => absurd h (Nat.not_lt_zero _), rfl⟩
    rintro j m vs H' ⟨i, hij, rfl, hno, rfl⟩ ih
    cases hlt : decide ((i : Int) < (B1.length : Int))
    · have : q = true := by
        rw [hq, beq_iff_eq]
        exact List.ext_getElem hle fun k hk1 hk2 => hno k hk1 (by have := of_decide_eq_false hlt; omega)
      simp only [go_sem, hlt, Chb (show wrF 21 = false from rfl), this]
    · have hi : i < B1.length := by have := of_decide_eq_true hlt; omega
      obtain ⟨b, o, T, cs, k1, k2, k3⟩ := ElI h1 hi
      obtain ⟨b', o', T', cs', k1', k2', k3'⟩ := ElI h2 (hle ▸ hi)
      have hg1 : B1.getD i 0 = B1[i] := by simp [hi]
      have hg2 : B2.getD i 0 = B2[i]'(by omega) := by simp [show i < B2.length by omega]
      rw [hg1] at k3
      rw [hg2] at k3'
      cases hpi : B1[i] != B2[i]'(by omega)
      · simp only [go_sem, hlt]
        rw [fin_regd]; rotate_left; · decide +kernel
        simp only [go_sem, k1, k2, k3, k1', k2', k3', eqlen, hpi]
        rw [wrapN (by omega)]
        refine ih (j - 1) [gi (i + 1 : Nat)] _ _ (by omega) (by simp only [go_sem]) ⟨i + 1, by omega, rfl, fun k hk hki => ?_, rfl⟩
        by_cases e : k = i
        · subst e; exact bne_eq_false_iff_eq.1 hpi
        · exact hno k hk (by omega)
      · have : q = false := by
          rw [hq, beq_eq_false_iff_ne]
          intro e
          have hne := bne_iff_ne.1 hpi
          apply hne
          simp [e]
        simp only [go_sem, hlt]
        rw [fin_regd]; rotate_left; · decide +kernel
        simp only [go_sem, k1, k2, k3, k1', k2', k3', eqlen, hpi, Chb (show wrF 21 = false from rfl), this]
  · have : q = false := by
      rw [hq, beq_eq_false_iff_ne]
      intro e
      rw [e] at hl
      simp at hl
    simp only [go_sem, show C.wr 21 = false from rfl, eqlen, hl, Chb (show wrF 21 = false from rfl), this]
end T

open Go Go.Am
namespace T
open Go.Proofs
set_option maxRecDepth 100000
set_option maxHeartbeats 4000000
set_option linter.unusedSimpArgs false
set_option linter.unusedVariables false
variable {base : Nat} {H : Heap}
theorem wLetters_c {s1 s2 : Value} {B1 B2 : List (Int × Int)} (h1 : SL H s1 B1) (h2 : SL H s2 B2) (hB : B1.length < 1000) (q : Bool) (hq : q = (B1 == B2)) : cal C base 22 [s1, s2] H = some (bo q, H) := by
  refine cal_fn Try.func22 rfl rfl (res := [.tmp 4]) rfl Try.ntmps22 1001 base _ H ?_
  obtain ⟨a, c, rfl⟩ := h1.sl
  obtain ⟨a2, c2, rfl⟩ := h2.sl
  cases hl : B1.length != B2.length
  · simp only [go_sem, show C.wr 22 = false from rfl, eqlen, hl]
    have hle : B1.length = B2.length := by simpa using hl
    rw [fin_loopk [14, 15, 5, 16, 17, 18, 19, 20, 21, 22, 23, 24, 4, 25] rfl]
    refine lp_run [13] (fun j vs H' => ∃ i : Nat, i + j = B1.length ∧ vs = [gi i] ∧ (∀ k (h : k < B1.length), k < i → B1[k] = B2[k]'(by omega)) ∧ H' = H) ?_ B1.length [gi 0] (by omega) (by simp only [go_sem]) ⟨0, by omega, rfl, fun k _ h => absurd h (Nat.not_lt_zero _), rfl⟩
    rintro j m vs H' ⟨i, hij, rfl, hno, rfl⟩ ih
    cases hlt : decide ((i : Int) < (B1.length : Int))
    · have : q = true := by
        rw [hq, beq_iff_eq]
        exact List.ext_getElem hle fun k hk1 hk2 => hno k hk1 (by have := of_decide_eq_false hlt; omega)
      simp only [go_sem, hlt, Chb (show wrF 22 = false from rfl), this]
    · have hi : i < B1.length := by have := of_decide_eq_true hlt; omega
      obtain ⟨b, o, T, cs, k1, k2, k3⟩ := SL.el h1 hi
      obtain ⟨b', o', T', cs', k1', k2', k3'⟩ := SL.el h2 (i := i) (by omega)
      cases hpi : B1[i] != B2[i]'(by omega)
      · simp only [go_sem, hlt]
        rw [fin_regd]; rotate_left; · decide +kernel
        simp only [go_sem, k1, k2, k3, k1', k2', k3']
        rw [ne66_b (l := B1[i]) (l' := B2[i]'(by omega)) rfl rfl, hpi]
        simp only [go_sem]
        rw [wrapN (by omega)]
        refine ih (j - 1) [gi (i + 1 : Nat)] _ _ (by omega) (by simp only [go_sem]) ⟨i + 1, by omega, rfl, fun k hk hki => ?_, rfl⟩
        by_cases e : k = i
        · subst e; exact bne_eq_false_iff_eq.1 hpi
        · exact hno k hk (by omega)
      · have : q = false := by
          rw [hq, beq_eq_false_iff_ne]
          intro e
          have hne := bne_iff_ne.1 hpi
          apply hne
          simp [e]
        simp only [go_sem, hlt]
        rw [fin_regd]; rotate_left; · decide +kernel
        simp only [go_sem, k1, k2, k3, k1', k2', k3']
        rw [ne66_b (l := B1[i]) (l' := B2[i]'(by omega)) rfl rfl, hpi]
        simp only [go_sem, Chb (show wrF 22 = false from rfl), this]
  · have : q = false := by
      rw [hq, beq_eq_false_iff_ne]
      intro e
      rw [e] at hl
      simp at hl
    simp only [go_sem, show C.wr 22 = false from rfl, eqlen, hl, Chb (show wrF 22 = false from rfl), this]
@[go_sem] theorem ld34 {o T cs} : ld1 C.P 34 o (some (T, cs)) = cs[o]? := ld_sc rfl
@[go_sem] theorem te27 : (tyElem C.P 27).isSome = true := rfl
/-- What a list of lists shows. -/
def RowsS (H : Heap) (s : Value) (LL : List (List Nat)) : Prop :=
  ∃ cs, Shows H 1 s LL.length cs ∧ ∀ (i : Nat) (h : i < LL.length), ∃ v, cs[i]? = some v ∧ Shows H 1 v LL[i].length (ni LL[i])
theorem RowsL.shows {k : Nat} {s : Value} {LL : List (List Nat)} (h : RowsL k H s LL) : RowsS H s LL := by
  obtain ⟨cs, h1, h2⟩ := h
  refine ⟨cs, h1.shows, fun i hi => ?_⟩
  obtain ⟨v, k1, k2⟩ := h2 i LL[i] (List.getElem?_eq_getElem hi)
  exact ⟨v, k1, k2.shows⟩
theorem RowsS.keep {H' : Heap} {s : Value} {LL : List (List Nat)} (h : RowsS H s LL) (hk : Keeps H.length H H') : RowsS H' s LL := by
  obtain ⟨cs, h1, h2⟩ := h
  exact ⟨cs, h1.keep hk, fun i hi => by obtain ⟨v, k1, k2⟩ := h2 i hi; exact ⟨v, k1, k2.keep hk⟩⟩
theorem RowsS.nil : RowsS H (.slice none 0 0) [] := ⟨[], .inl ⟨rfl, rfl, rfl⟩, fun i h => absurd h (Nat.not_lt_zero _)⟩
theorem RowsS.el {s : Value} {LL : List (List Nat)} (h : RowsS H s LL) {i : Nat} (hi : i < LL.length) : ∃ b o T cs v, indexAddrA C.P 27 s (gi i) = some (.pointer (some ⟨b, o, none⟩)) ∧ hget H b = some (T, cs) ∧ cs[o]? = some v ∧ Shows H 1 v LL[i].length (ni LL[i]) := by
  obtain ⟨cs, h1, h2⟩ := h
  obtain ⟨v, k1, k2⟩ := h2 i hi
  obtain ⟨b, o, T, cs0, h3, h4, _, _, h5⟩ := Shows.at (P := C.P) (t := 27) (el := 34) (K := .i64) h1 hi rfl rfl
  refine ⟨b, o, T, cs0, v, h3, h4, ?_, k2⟩
  have := h5 0 (by decide)
  rw [Nat.add_zero, Nat.mul_one, Nat.add_zero] at this
  exact this.trans k1
theorem wRows_c {s1 s2 : Value} {B1 B2 : List (List Nat)} (h1 : RowsS H s1 B1) (h2 : RowsS H s2 B2) (hB : B1.length < 1000) (hBB : ∀ r ∈ B1, r.length < 1000) (q : Bool) (hq : q = (B1 == B2)) : cal C base 20 [s1, s2] H = some (bo q, H) := by
  refine cal_fn Try.func20 rfl rfl (res := [.tmp 4]) rfl Try.ntmps20 1001 base _ H ?_
  obtain ⟨a, c, rfl⟩ := h1.choose_spec.1.sl
  obtain ⟨a2, c2, rfl⟩ := h2.choose_spec.1.sl
  cases hl : B1.length != B2.length
  · simp only [go_sem, show C.wr 20 = false from rfl, eqlen, hl]
    have hle : B1.length = B2.length := by simpa using hl
    rw [fin_loopk [14, 15, 5, 16, 17, 18, 19, 20, 21, 22, 23, 24, 25, 4, 26] rfl]
    refine lp_run [13] (fun j vs H' => ∃ i : Nat, i + j = B1.length ∧ vs = [gi i] ∧ (∀ k (h : k < B1.length), k < i → B1[k] = B2[k]'(by omega)) ∧ H' = H) ?_ B1.length [gi 0] (by omega) (by simp only [go_sem]) ⟨0, by omega, rfl, fun k _ h => absurd h (Nat.not_lt_zero _), rfl⟩
    rintro j m vs H' ⟨i, hij, rfl, hno, rfl⟩ ih
    cases hlt : decide ((i : Int) < (B1.length : Int))
    · have : q = true := by
        rw [hq, beq_iff_eq]
        exact List.ext_getElem hle fun k hk1 hk2 => hno k hk1 (by have := of_decide_eq_false hlt; omega)
      simp only [go_sem, hlt, Chb (show wrF 20 = false from rfl), this]
    · have hi : i < B1.length := by have := of_decide_eq_true hlt; omega
      obtain ⟨b, o, T, cs, v, k1, k2, k3, k4⟩ := h1.el hi
      obtain ⟨b', o', T', cs', v', k1', k2', k3', k4'⟩ := h2.el (i := i) (by omega)
      have e5 := wSame_c (base := H'.length) k4 k4' (hBB _ (List.getElem_mem hi)) _ rfl
      cases hpi : B1[i] == B2[i]'(by omega)
      · rw [hpi] at e5
        have : q = false := by
          rw [hq, beq_eq_false_iff_ne]
          intro e
          have hne := beq_eq_false_iff_ne.1 hpi
          apply hne
          simp [e]
        simp only [go_sem, hlt]
        rw [fin_regd]; rotate_left; · decide +kernel
        simp only [go_sem, k1, k2, k3, k1', k2', k3', e5, Chb (show wrF 20 = false from rfl), this]
      · rw [hpi] at e5
        simp only [go_sem, hlt]
        rw [fin_regd]; rotate_left; · decide +kernel
        simp only [go_sem, k1, k2, k3, k1', k2', k3', e5]
        rw [wrapN (by omega)]
        refine ih (j - 1) [gi (i + 1 : Nat)] _ _ (by omega) (by simp only [go_sem]) ⟨i + 1, by omega, rfl, fun k hk hki => ?_, rfl⟩
        by_cases e : k = i
        · subst e; exact beq_iff_eq.1 hpi
        · exact hno k hk (by omega)
  · have : q = false := by
      rw [hq, beq_eq_false_iff_ne]
      intro e
      rw [e] at hl
      simp at hl
    simp only [go_sem, show C.wr 20 = false from rfl, eqlen, hl, Chb (show wrF 20 = false from rfl), this]
theorem wHas_c {s : Value} {B : List Nat} {n : Nat} (hs : Shows H 1 s B.length (ni B)) (hB : B.length < 1000) (q : Bool) (hq : q = decide (n ∈ B)) : cal C base 28 [s, gi n] H = some (bo q, H) := by
  refine cal_fn Try.func28 rfl rfl (res := [.tmp 4]) rfl Try.ntmps28 1001 base _ H ?_
  obtain ⟨a, c, rfl⟩ := hs.sl
  simp only [go_sem, show C.wr 28 = false from rfl]
  rw [fin_loopk [10, 11, 12, 6, 13, 14, 15, 4, 16] rfl]
  refine lp_run [9] (fun j vs H' => ∃ i : Nat, i + j = B.length ∧ vs = [gi i] ∧ (∀ k (h : k < B.length), k < i → B[k] ≠ n) ∧ H' = H) ?_ B.length [gi 0] (by omega) (by simp only [go_sem]) ⟨0, by omega, rfl, fun k _ h => absurd h (Nat.not_lt_zero _), rfl⟩
  rintro j m vs H' ⟨i, hij, rfl, hno, rfl⟩ ih
  cases hlt : decide ((i : Int) < (B.length : Int))
  · have : q = false := by
      rw [hq, decide_eq_false_iff_not]
      intro hx
      obtain ⟨k, hk, e⟩ := List.getElem_of_mem hx
      exact hno k hk (by have := of_decide_eq_false hlt; omega) e
    simp only [go_sem, hlt, Chb (show wrF 28 = false from rfl), this]
  · have hi : i < B.length := by have := of_decide_eq_true hlt; omega
    obtain ⟨b, o, T, cs, k1, k2, k3⟩ := ElI hs hi
    have hg1 : B.getD i 0 = B[i] := by simp [hi]
    rw [hg1] at k3
    have heq : (((B[i] : Nat) : Int) == ((n : Nat) : Int)) = (B[i] == n) := by
      rw [Bool.eq_iff_iff, beq_iff_eq, beq_iff_eq]; exact Int.ofNat_inj
    cases hpi : B[i] == n
    · simp only [go_sem, hlt, k1, k2, k3, heq, hpi]
      rw [wrapN (by omega)]
      refine ih (j - 1) [gi (i + 1 : Nat)] _ _ (by omega) (by simp only [go_sem]) ⟨i + 1, by omega, rfl, fun k hk hki => ?_, rfl⟩
      by_cases e : k = i
      · subst e; exact beq_eq_false_iff_ne.1 hpi
      · exact hno k hk (by omega)
    · have : q = true := by
        rw [hq, decide_eq_true_iff]
        rw [← beq_iff_eq.1 hpi]; exact List.getElem_mem hi
      simp only [go_sem, hlt, k1, k2, k3, heq, hpi, Chb (show wrF 28 = false from rfl), this]
/-- Is each number greater than the one before? -/
def rises (B : List Nat) : Bool := (List.range (B.length - 1)).all fun i => decide (B.getD i 0 < B.getD (i + 1) 0)
theorem wRises_c {s : Value} {B : List Nat} (hs : Shows H 1 s B.length (ni B)) (hB : B.length < 1000) (q : Bool) (hq : q = rises B) : cal C base 27 [s] H = some (bo q, H) := by
  refine cal_fn Try.func27 rfl rfl (res := [.tmp 2]) rfl Try.ntmps27 1001 base _ H ?_
  obtain ⟨a, c, rfl⟩ := hs.sl
  simp only [go_sem, show C.wr 27 = false from rfl]
  rw [fin_loopk [4, 5, 6, 7, 10, 11, 12, 13, 14, 15, 16, 17, 18, 19, 2, 8, 9] rfl]
  refine lp_run [3] (fun j vs H' => ∃ i : Nat, 1 ≤ i ∧ i + j = B.length + 1 ∧ vs = [gi i] ∧ (∀ k, k + 1 < i → B.getD k 0 < B.getD (k + 1) 0) ∧ H' = H) ?_ B.length [gi (1 : Nat)] (by omega) (by simp only [go_sem]; rfl) ⟨1, by omega, by omega, rfl, fun k h => by omega, rfl⟩
  rintro j m vs H' ⟨i, h1, hij, rfl, hno, rfl⟩ ih
  cases hlt : decide ((i : Int) < (B.length : Int))
  · have : q = true := by
      rw [hq, rises, List.all_eq_true]
      intro k hk
      have := of_decide_eq_false hlt
      rw [List.mem_range] at hk
      exact decide_eq_true (hno k (by omega))
    simp only [go_sem, hlt, Chb (show wrF 27 = false from rfl), this]
  · have hi : i < B.length := by have := of_decide_eq_true hlt; omega
    obtain ⟨b, o, T, cs, k1, k2, k3⟩ := ElI hs hi
    obtain ⟨b', o', T', cs', k1', k2', k3'⟩ := ElI hs (i := i - 1) (by omega)
    have hw : IntKind.i64.wrap ((i : Int) - 1) = ((i - 1 : Nat) : Int) := by rw [IntKind.wrap_i64]; omega
    have e : i - 1 + 1 = i := by omega
    have hge : ((B.getD i 0 : Nat) : Int) ≤ ((B.getD (i - 1) 0 : Nat) : Int) ↔ ¬ B.getD (i - 1) 0 < B.getD i 0 := by omega
    simp only [go_sem, hlt]
    rw [fin_regd]; rotate_left; · decide +kernel
    cases hpi : decide (((B.getD i 0 : Nat) : Int) ≤ ((B.getD (i - 1) 0 : Nat) : Int))
    · simp only [go_sem, hw, k1, k2, k3, k1', k2', k3', hpi]
      rw [wrapN (by omega)]
      refine ih (j - 1) [gi (i + 1 : Nat)] _ _ (by omega) (by simp only [go_sem]) ⟨i + 1, by omega, by omega, rfl, fun k hki => ?_, rfl⟩
      by_cases e' : k + 1 = i
      · have := of_decide_eq_false hpi
        rw [hge] at this
        rw [e', show k = i - 1 by omega]; omega
      · exact hno k (by omega)
    · have : q = false := by
        rw [hq, rises, List.all_eq_false]
        refine ⟨i - 1, List.mem_range.2 (by omega), ?_⟩
        rw [e, decide_eq_true_eq]
        exact hge.1 (of_decide_eq_true hpi)
      simp only [go_sem, hw, k1, k2, k3, k1', k2', k3', hpi, Chb (show wrF 27 = false from rfl), this]
@[go_sem] theorem te22 : (tyElem C.P 22).isSome = true := rfl
theorem big_c {a b : Option Addr} {m m' c c' : Nat} : ∃ q, cal C base 4 [.slice a m c, .slice b m' c'] H = some (bo q, H) := by
  refine ⟨decide (1048576 < (m : Int)) || decide (IntKind.i64.wrap (1048576 - (m : Int)) < (m' : Int)), ?_⟩
  refine cal_fn Try.func4 rfl rfl (res := [.tmp 4]) rfl Try.ntmps4 1 base _ H ?_
  cases h : decide (1048576 < (m : Int)) <;> simp only [go_sem, h, show C.wr 4 = false from rfl, Chb (show wrF 4 = false from rfl)]
end T

open Go Go.Am
namespace T
open Go.Proofs
set_option maxRecDepth 100000
set_option maxHeartbeats 4000000
set_option linter.unusedSimpArgs false
set_option linter.unusedVariables false
variable {base : Nat} {H : Heap}
theorem areS_c {n : Int} {s : Value} {L : List (Int × Int)} (hs : SL H s L) (hL : L.length < 1000) : cal C base 24 [gi n, s] H = some (bo (areC n L), H) := by
  refine cal_fn Try.func24 rfl rfl (res := [.tmp 4]) rfl Try.ntmps24 1 base _ H ?_
  simp only [go_sem, caGood_c hs hL, Chb (show wrF 24 = false from rfl)]
/-- The fewest calls, as the program has them. -/
def fewN (n : Nat) : Nat := if n = 1 then 0 else if n = 2 then 1 else if n = 3 then 3 else 2 * n - 4
theorem fewN_c {n : Nat} (h2 : n ≤ 10) (h1 : 1 ≤ n) : cal C base 62 [gi n] H = some (gi (fewN n), H) := by
  refine cal_fn Try.func62 rfl rfl (res := [.tmp 2]) rfl Try.ntmps62 1 base _ H ?_
  have hw : IntKind.i64.wrap (IntKind.i64.wrap (2 * (n : Int)) - 4) = 2 * (n : Int) - 4 := by rw [IntKind.wrap_i64, IntKind.wrap_i64]; omega
  unfold fewN
  by_cases h1 : n = 1
  · subst h1; simp only [go_sem, show (((1 : Nat) : Int) == 1) = true from rfl, Chb (show wrF 62 = false from rfl)]; rfl
  by_cases h2 : n = 2
  · subst h2; simp only [go_sem, show (((2 : Nat) : Int) == 1) = false from rfl, show (((2 : Nat) : Int) == 2) = true from rfl, Chb (show wrF 62 = false from rfl)]; rfl
  by_cases h3 : n = 3
  · subst h3; simp only [go_sem, show (((3 : Nat) : Int) == 1) = false from rfl, show (((3 : Nat) : Int) == 2) = false from rfl, show (((3 : Nat) : Int) == 3) = true from rfl, Chb (show wrF 62 = false from rfl)]; rfl
  have c1 : ((n : Int) == 1) = false := by rw [beq_eq_false_iff_ne]; omega
  have c2 : ((n : Int) == 2) = false := by rw [beq_eq_false_iff_ne]; omega
  have c3 : ((n : Int) == 3) = false := by rw [beq_eq_false_iff_ne]; omega
  simp only [go_sem, c1, c2, c3, hw, Chb (show wrF 62 = false from rfl)]
  rw [if_neg h1, if_neg h2, if_neg h3, show ((2 * n - 4 : Nat) : Int) = 2 * (n : Int) - 4 by omega]
theorem fewest_c {n : Nat} (h1 : 1 ≤ n) (h2 : n ≤ 10) : cal C base 25 [gi n] H = some (.tuple #[gi (fewN n), bo true], H) := by
  refine cal_fn Try.func25 rfl rfl (res := [.tmp 2, .tmp 3]) rfl Try.ntmps25 1 base _ H ?_
  have hf : areF (n : Int) = true := by simp only [areF, Bool.and_eq_true, decide_eq_true_eq]; omega
  simp only [go_sem, areFriends_c, hf, fewN_c h2 h1, Chb (show wrF 25 = false from rfl)]
-- calls back
theorem backNo_c {n : Int} {s : Value} {L : List (Int × Int)} (hs : SL H s L) (hL : L.length < 1000) (h : areC n L = false) : cal C base 18 [gi n, s] H = some (.tuple #[.slice none 0 0, bo false], H) ∧ cal C base 19 [gi n, s] H = some (.tuple #[.slice none 0 0, bo false], H) := by
  constructor
  · refine cal_fn Try.func18 rfl rfl (res := [.tmp 4, .tmp 5]) rfl Try.ntmps18 1 base _ H ?_
    simp only [go_sem, areC_c hs hL, h, Chb (show wrF 18 = false from rfl)]
  · refine cal_fn Try.func19 rfl rfl (res := [.tmp 4, .tmp 5]) rfl Try.ntmps19 1 base _ H ?_
    simp only [go_sem, caGood_c hs hL, h, Chb (show wrF 19 = false from rfl)]
theorem clone0_c {s : Value} (hs : SL H s []) : ∃ s' F q, cal C base 56 [s] H = some (s', H ++ F) ∧ OwnL H.length (H ++ F) 67 2 s' 0 [] ∧ s' = .slice q 0 0 := by
  rcases hs with ⟨rfl, _, _⟩ | ⟨b, o, cap, T, cs0, rfl, h1, h2, h3, h4⟩
  · refine ⟨.slice none 0 0, [], none, ?_, by simpa using .nil _ _ _ _, rfl⟩
    refine cal_fn Try.func56 rfl rfl (res := [.tmp 2]) rfl Try.ntmps56 1 base _ H ?_
    rw [List.append_nil]
    simp only [go_sem, show isSlT C.P 24 = true from rfl, Chb (show wrF 56 = false from rfl)]
  · have hs : SL H (.slice (some ⟨b, o, some 2⟩) 0 cap) [] := .inr ⟨b, o, cap, T, cs0, rfl, h1, h2, h3, h4⟩
    have hn : OwnL H.length (H ++ [some (67, [])]) 67 2 (.slice (some ⟨H.length, 0, some 2⟩) 0 0) 0 [] := .empty H 67 2 (Nat.le_refl _)
    obtain ⟨s', H1, e, ho, hk⟩ := hn.apps (base := H.length) (hs.add _) ts24 (Nat.le_refl _) (by simp) (by unfold room; simp)
    have hk2 : Keeps H.length H H1 := (Keeps.append (Nat.le_refl _) _).trans hk
    obtain ⟨s2, F, old, e2, ho'⟩ := ho.hand (P := C.P) (acc := H) (l := []) (show tySize C.P 67 = some 2 from rfl) rfl
    obtain ⟨q, rfl⟩ : ∃ q, s2 = .slice q 0 0 := by
      obtain ⟨_, h | ⟨b, _, h, _⟩⟩ := ho'
      · exact ⟨_, h.1⟩
      · exact ⟨_, h⟩
    refine ⟨.slice q 0 0, F, q, ?_, ho', rfl⟩
    refine cal_fn Try.func56 rfl rfl (res := [.tmp 2]) rfl Try.ntmps56 1 base _ H ?_
    simp only [go_sem, b_eqnil (show isSlT C.P 24 = true from rfl), show C.wr 56 = false from rfl, bs_nil ts24, eo_append (show notInt C.P 24 = true from rfl), e, Chb (show wrF 56 = false from rfl), take_keeps hk2, e2]
theorem rev0_c {q : Option Addr} : cal C base 57 [.slice q 0 0] H = some (.tuple #[], H) := by
  refine cal_fn Try.func57 rfl rfl (res := []) rfl Try.ntmps57 1 base _ H ?_
  simp only [go_sem, show C.wr 57 = true from rfl]
  rw [fin_loopk [7, 8, 9, 14, 15, 16, 17, 18, 19, 20, 21, 22, 23, 24, 25, 26, 27, 10, 11, 12, 13] rfl, fin_lp]
  simp only [go_sem, Chr (show (rawF 57 || wrF 57) = true from rfl)]
  rfl
theorem rev_lc (M : List (Nat × Nat)) : (toZ M).reverse = toZ M.reverse := by simp [toZ, List.map_reverse]
theorem back_c {n : Int} {s : Value} {M : List (Nat × Nat)} (hs : SL H s (toZ M)) (hM : M.length < 1000) (h : areC n (toZ M) = true) : Ok (cal C base 18 [gi n, s] H) fun v H' => ∃ F t, H' = H ++ F ∧ v = .tuple #[t, bo true] ∧ OwnL H.length H' 67 2 t M.length (lc (toZ M.reverse)) := by
  refine ok_fn Try.func18 rfl rfl (res := [.tmp 4, .tmp 5]) rfl Try.ntmps18 1 base _ H ?_
  have hZ := toZ_len M
  by_cases h0 : M = []
  · subst h0
    obtain ⟨s', F, q, e1, ho, rfl⟩ := clone0_c (base := H.length) hs
    obtain ⟨s2, F2, old, e2, ho'⟩ := ho.hand (P := C.P) (acc := H) (l := [bo true]) (show tySize C.P 67 = some 2 from rfl) rfl
    have hk : Keeps H.length H (H ++ F) := .append (Nat.le_refl _) _
    simp only [go_sem, areC_c hs (by rw [hZ]; omega), h, e1, rev0_c, show C.wr 18 = false from rfl, Chb (show wrF 18 = false from rfl), take_keeps hk, e2]
    exact .some ⟨F2, s2, rfl, rfl, ho'⟩
  · have hpos : 0 < M.length := List.length_pos_iff.2 h0
    obtain ⟨s', H1, e1, F, rfl, ho⟩ := clone_c (base := H.length) hs (by omega) (by omega)
    obtain ⟨h0', ⟨_, hh, _⟩ | ⟨b, hkb, rfl, hg⟩⟩ := ho
    · omega
    obtain ⟨v, H2, e2, rfl, hon, hg2, hlen⟩ := rev_c (base := H.length) hkb hg (by omega)
    have ho2 : OwnL H.length H2 67 2 (.slice (some ⟨b, 0, some 2⟩) M.length M.length) M.length (lc (toZ M.reverse)) := ⟨by rw [lc_len, toZ_len, List.length_reverse], .inr ⟨b, hkb, rfl, by rw [hg2, rev_lc]⟩⟩
    obtain ⟨s2, F2, old, e3, ho'⟩ := ho2.hand (P := C.P) (acc := H) (l := [bo true]) (show tySize C.P 67 = some 2 from rfl) (lcG _)
    have hk : Keeps H.length H H2 := (Keeps.append (Nat.le_refl _) F).trans (hon.keeps hkb (by simp))
    rw [hZ] at e1 e2
    simp only [go_sem, areC_c hs (by rw [hZ]; omega), h, hZ, e1, e2, show C.wr 18 = false from rfl, Chb (show wrF 18 = false from rfl), take_keeps hk, e3]
    exact .some ⟨F2, s2, rfl, rfl, ho'⟩
theorem rev_drop (M : List (Nat × Nat)) {i : Nat} (h : i < M.length) : (M.drop i).reverse = (M.drop (i + 1)).reverse ++ [M[i]] := by
  rw [List.drop_eq_getElem_cons h, List.reverse_cons]
theorem backS_c {n : Int} {s : Value} {M : List (Nat × Nat)} (hs : SL H s (toZ M)) (hM : M.length < 1000) (h : areC n (toZ M) = true) : Ok (cal C base 19 [gi n, s] H) fun v H' => ∃ F t, H' = H ++ F ∧ v = .tuple #[t, bo true] ∧ OwnL H.length H' 67 2 t M.length (lc (toZ M.reverse)) := by
  refine ok_fn Try.func19 rfl rfl (res := [.tmp 4, .tmp 5]) rfl Try.ntmps19 1001 base _ H ?_
  have hZ := toZ_len M
  have hsl := hs.sl
  rw [hZ] at hsl
  obtain ⟨a, c, rfl⟩ := hsl
  have hw : IntKind.i64.wrap ((M.length : Int) - 1) = (M.length : Int) - 1 := by rw [IntKind.wrap_i64]; omega
  simp only [go_sem, caGood_c hs (by omega), h, hw, show C.wr 19 = false from rfl]
  rw [fin_loopk [15, 16, 19, 20, 21, 22, 23, 24, 25, 17, 18] rfl]
  refine lp_ok [6, 7] (fun j vs H' => ∃ (t : Value), j ≤ M.length ∧ vs = [t, gi ((j : Int) - 1)] ∧ OwnL H.length H' 67 2 t (M.length - j) (lc (toZ (M.drop j).reverse)) ∧ Keeps H.length H H') M.length [.slice none 0 0, gi ((M.length : Int) - 1)] ?_ (by omega) (by simp only [go_sem]) ⟨_, Nat.le_refl _, rfl, by rw [List.drop_length, Nat.sub_self]; exact .nil _ _ _ _, .refl _ _⟩
  rintro j m vs H' ⟨t, hij, rfl, ho, hk⟩ ih
  cases hlt : decide ((0 : Int) ≤ (j : Int) - 1)
  · obtain rfl : j = 0 := by have := of_decide_eq_false hlt; omega
    rw [List.drop_zero, Nat.sub_zero] at ho
    obtain ⟨s', F, old, e, ho'⟩ := ho.hand (P := C.P) (acc := H) (l := [bo true]) (show tySize C.P 67 = some 2 from rfl) (lcG _)
    simp only [go_sem, hlt, Chb (show wrF 19 = false from rfl), take_keeps hk, e]
    exact .some ⟨F, s', rfl, rfl, ho'⟩
  · obtain ⟨i, rfl⟩ : ∃ i, j = i + 1 := ⟨j - 1, by have := of_decide_eq_true hlt; omega⟩
    have e0 : ((i + 1 : Nat) : Int) - 1 = (i : Int) := by omega
    rw [e0] at hlt ⊢
    have hi : i < M.length := by omega
    obtain ⟨b, o, T, cs, k1, k2, k3⟩ := SL.el (hs.keep hk) (i := i) (by omega)
    have hZi : (toZ M)[i]'(by rw [hZ]; exact hi) = (((M[i].1 : Nat) : Int), ((M[i].2 : Nat) : Int)) := by simp [toZ]
    rw [hZi, lv] at k3
    have hl0 := hk.1
    obtain ⟨t', H2, e, ho', hk3⟩ := (ho.keep (.append (Nat.le_refl _) [some (67, [gi M[i].1, gi M[i].2])])).apps (base := H.length) (t := 24) (new_shows (n := 1) (es := 2) (cs := [gi M[i].1, gi M[i].2]) rfl) ts24 (Nat.le_refl _) (by simp; omega) (by unfold room; omega)
    have hw1 : IntKind.i64.wrap ((i : Int) - 1) = (i : Int) - 1 := by rw [IntKind.wrap_i64]; omega
    simp only [go_sem, hlt, k1, k2, k3, hw1, bs_one2 ts24 (a := gi M[i].1) (b := gi M[i].2) rfl rfl, eo_append (show notInt C.P 24 = true from rfl), e]
    refine ih i [t', gi ((i : Int) - 1)] _ _ (by omega) (by simp only [go_sem]) ⟨t', by omega, rfl, ?_, (hk.trans (.append hl0 _)).trans hk3⟩
    rw [rev_drop M hi, show toZ ((M.drop (i + 1)).reverse ++ [M[i]]) = toZ (M.drop (i + 1)).reverse ++ [(((M[i].1 : Nat) : Int), ((M[i].2 : Nat) : Int))] by simp [toZ], lc_app, show M.length - i = M.length - (i + 1) + 1 by omega]
    exact ho'
-- who knows
theorem whoNo_c {n x : Int} {s : Value} {L : List (Int × Int)} (hs : SL H s L) (hL : L.length < 1000) (h : (areC n L && inF n x) = false) : cal C base 26 [gi n, s, gi x] H = some (.tuple #[.slice none 0 0, bo false], H) ∧ cal C base 31 [gi n, s, gi x] H = some (.tuple #[.slice none 0 0, bo false], H) := by
  constructor
  · refine cal_fn Try.func26 rfl rfl (res := [.tmp 6, .tmp 7]) rfl Try.ntmps26 1 base _ H ?_
    cases h1 : areC n L <;> rw [h1] at h
    · simp only [go_sem, areC_c hs hL, h1, Chb (show wrF 26 = false from rfl)]
    · simp only [go_sem, areC_c hs hL, h1, isFriend_c, show inF n x = false from by simpa using h, Chb (show wrF 26 = false from rfl)]
  · refine cal_fn Try.func31 rfl rfl (res := [.tmp 6, .tmp 7]) rfl Try.ntmps31 1 base _ H ?_
    cases h1 : areC n L <;> rw [h1] at h
    · simp only [go_sem, caGood_c hs hL, h1, Chb (show wrF 31 = false from rfl)]
    · have h2 : (decide (0 ≤ x) && decide (x ≤ IntKind.i64.wrap (n - 1))) = false := by simpa [inF] using h
      simp only [go_sem, caGood_c hs hL, h1, in_c, h2, Chb (show wrF 31 = false from rfl)]
/-- Who knows the news of x. -/
def whoP (n : Nat) (M : List (Nat × Nat)) (x : Nat) (i : Nat) : Bool := ((playC n M).getD i 0).testBit x
theorem inF_N {n x : Nat} (hn : n ≤ 10) (hx : x < n) : inF (n : Int) (x : Int) = true := by
  have : IntKind.i64.wrap ((n : Int) - 1) = (n : Int) - 1 := by rw [IntKind.wrap_i64]; omega
  simp only [inF, this, Bool.and_eq_true, decide_eq_true_eq]; omega
theorem who_c {n x : Nat} {s : Value} {M : List (Nat × Nat)} (hs : SL H s (toZ M)) (hM : M.length < 1000) (hn : n ≤ 10) (hr : ∀ l ∈ M, l.1 < n ∧ l.2 < n) (h : areC n (toZ M) = true) (hx : x < n) (p : Nat → Bool) (hp : ∀ k, p k = whoP n M x k) :
    Ok (cal C base 26 [gi n, s, gi x] H) fun v H' => ∃ F t, H' = H ++ F ∧ v = .tuple #[t, bo true] ∧ OwnL H.length H' 3 1 t (idx n p).length (ni (idx n p)) := by
  refine ok_fn Try.func26 rfl rfl (res := [.tmp 6, .tmp 7]) rfl Try.ntmps26 1001 base _ H ?_
  have hn1 : OwnL H.length (H ++ [some (3, [])]) 3 1 (.slice (some ⟨H.length, 0, some 1⟩) 0 0) 0 (ni (idx 0 p)) := .empty H 3 1 (Nat.le_refl _)
  obtain ⟨v, H1, e1, F1, rfl, ho1⟩ := after_c (base := H.length) (H := H ++ [some (3, [])]) hn (hs.add _) hM hr
  have hP := playC_ok hn M
  obtain ⟨a, c, rfl⟩ := ho1.shows.sl
  simp only [go_sem, areC_c hs (by rw [toZ_len]; exact hM), h, isFriend_c, inF_N hn hx, bs_nil ts34, e1, show C.wr 26 = false from rfl]
  rw [fin_loopk [27, 28, 29, 30, 9, 10, 31, 32, 33, 34, 35, 36, 37, 38, 39, 40] rfl]
  have hk0 : Keeps H.length H (H ++ [some (3, [])] ++ F1) := (Keeps.append (Nat.le_refl _) _).trans (.append (by simp) F1)
  refine lp_ok [8, 26] (fun j vs H' => ∃ (i : Nat) (t : Value), i + j = n ∧ vs = [t, gi i] ∧ OwnL H.length H' 3 1 t (idx i p).length (ni (idx i p)) ∧ Keeps H.length H H' ∧ OwnL H.length H' 64 1 (.slice a n c) n (nu (playC n M))) n [.slice (some ⟨H.length, 0, some 1⟩) 0 0, gi 0] ?_ (by omega) (by simp only [go_sem]) ⟨0, _, by omega, rfl, hn1.keep (.append (Nat.le_refl _) F1), hk0, ho1.low (by simp)⟩
  rintro j m vs H' ⟨i, t, hij, rfl, ho, hk, hown⟩ ih
  have hsh : Shows H' 1 (.slice a n c) (playC n M).length (nu (playC n M)) := by rw [hP.1]; exact hown.shows
  have hil := idx_len i p
  cases hlt : decide ((i : Int) < (n : Int))
  · obtain rfl : i = n := by have := of_decide_eq_false hlt; omega
    obtain ⟨s', F, old, e, ho'⟩ := ho.hand (P := C.P) (acc := H) (l := [bo true]) (show tySize C.P 3 = some 1 from rfl) (by simp [isG, sc, ni])
    simp only [go_sem, hlt, Chb (show wrF 26 = false from rfl), take_keeps hk, e]
    exact .some ⟨F, s', rfl, rfl, ho'⟩
  · have hi : i < n := by have := of_decide_eq_true hlt; omega
    have hl0 := hk.1
    obtain ⟨b, o, T, cs, k1, k2, k3⟩ := ElU hsh (i := i) (by omega)
    have hx16 : (playC n M).getD i 0 < 65536 := by have := getD_lt hP.2 hn i; omega
    have hxs : (playC n M).getD i 0 >>> x < 65536 := by rw [Nat.shiftRight_eq_div_pow]; exact Nat.lt_of_le_of_lt (Nat.div_le_self _ _) hx16
    have e6 := idx_succ i p
    have e7 : ((playC n M).getD i 0).testBit x = p i := (hp i).symm
    cases hpi : p i
    · rw [hpi] at e6 e7
      simp only [go_sem, hlt, k1, k2, k3, bit16 (o' := default) hx16 (show x < 16 by omega), one16 hxs, tb, e7]
      rw [wrapN (by omega)]
      exact ih (j - 1) [t, gi (i + 1 : Nat)] _ _ (by omega) (by simp only [go_sem]) ⟨i + 1, t, by omega, rfl, by rw [e6]; exact ho, hk, hown⟩
    · rw [hpi] at e6 e7
      have hap := ho.app (base := H.length) ts34 (Nat.le_refl _) (ys := [.int .i64 (i : Int)]) rfl (by unfold room; omega)
      simp only [go_sem, hlt, k1, k2, k3, bit16 (o' := default) hx16 (show x < 16 by omega), one16 hxs, tb, e7, bs_one ts34 (x := Value.int .i64 _) rfl rfl, eo_append (show notInt C.P 34 = true from rfl), hap]
      rw [wrapN (by omega)]
      refine ih (j - 1) [_, gi (i + 1 : Nat)] _ _ (by omega) (by simp only [go_sem]) ⟨i + 1, .slice (some ⟨H'.length + 1, 0, some 1⟩) ((idx i p).length + 1) ((idx i p).length + 1), by omega, rfl, ?_, ho.keeps hk (Nat.le_refl _), ?_⟩
      · rw [e6, if_pos rfl, show (idx i p ++ [i]).length = (idx i p).length + 1 by simp, show ni (idx i p ++ [i]) = ni (idx i p) ++ [.int .i64 (i : Int)] by simp [ni]]
        exact ho.next (ys := [.int .i64 (i : Int)]) hk.1 rfl
      · exact hown.past ho (by decide)
end T

open Go Go.Am
namespace T
open Go.Proofs
set_option maxRecDepth 100000
set_option maxHeartbeats 4000000
set_option linter.unusedSimpArgs false
set_option linter.unusedVariables false
variable {base : Nat} {H : Heap}
theorem whoS_c {n x : Nat} {s : Value} {M : List (Nat × Nat)} (hs : SL H s (toZ M)) (hM : M.length < 1000) (hn : n ≤ 10) (hr : ∀ l ∈ M, l.1 < n ∧ l.2 < n) (h : areC n (toZ M) = true) (hx : x < n) (p : Nat → Bool) (hp : ∀ k, p k = whoP n M x k) :
    Ok (cal C base 31 [gi n, s, gi x] H) fun v H' => ∃ F t, H' = H ++ F ∧ v = .tuple #[t, bo true] ∧ OwnL H.length H' 3 1 t (idx n p).length (ni (idx n p)) := by
  refine ok_fn Try.func31 rfl rfl (res := [.tmp 6, .tmp 7]) rfl Try.ntmps31 1001 base _ H ?_
  obtain ⟨v, H1, e1, F1, rfl, ho1⟩ := caPlay_c (base := H.length) hn hs hM hr
  have hP := playC_ok hn M
  have hf : (decide ((0 : Int) ≤ (x : Int)) && decide ((x : Int) ≤ IntKind.i64.wrap ((n : Int) - 1))) = true := inF_N hn hx
  have hsh : Shows (H ++ F1) 1 v (playC n M).length (ni (playC n M)) := by rw [hP.1]; exact ho1.shows
  obtain ⟨a, c, rfl⟩ := ho1.shows.sl
  simp only [go_sem, caGood_c hs (by rw [toZ_len]; exact hM), h, in_c, hf, e1, show C.wr 31 = false from rfl]
  rw [fin_loopk [27, 28, 29, 30, 9, 10, 31, 32, 33, 34, 35, 36, 37, 38, 39, 40] rfl]
  have hk0 : Keeps H.length H (H ++ F1) := .append (Nat.le_refl _) F1
  refine lp_ok [8, 26] (fun j vs H' => ∃ (i : Nat) (t : Value), i + j = n ∧ vs = [t, gi i] ∧ OwnL (H ++ F1).length H' 3 1 t (idx i p).length (ni (idx i p)) ∧ Keeps (H ++ F1).length (H ++ F1) H') n [.slice none 0 0, gi 0] ?_ (by omega) (by simp only [go_sem]) ⟨0, _, by omega, rfl, .nil _ _ _ _, .refl _ _⟩
  rintro j m vs H' ⟨i, t, hij, rfl, ho, hk⟩ ih
  have hil := idx_len i p
  have hkk : Keeps H.length H H' := hk0.trans (hk.mono hk0.1)
  cases hlt : decide ((i : Int) < (n : Int))
  · obtain rfl : i = n := by have := of_decide_eq_false hlt; omega
    obtain ⟨s', F, old, e, ho'⟩ := (ho.low hk0.1).hand (P := C.P) (acc := H) (l := [bo true]) (show tySize C.P 3 = some 1 from rfl) (by simp [isG, sc, ni])
    simp only [go_sem, hlt, Chb (show wrF 31 = false from rfl), take_keeps hkk, e]
    exact .some ⟨F, s', rfl, rfl, ho'⟩
  · have hi : i < n := by have := of_decide_eq_true hlt; omega
    have hl0 := hk.1
    have hl1 := hkk.1
    obtain ⟨b, o, T, cs, k1, k2, k3⟩ := ElI (hsh.keep hk) (i := i) (by omega)
    have hx16 : (playC n M).getD i 0 < 65536 := by have := getD_lt hP.2 hn i; omega
    have hxs : (playC n M).getD i 0 >>> x < 65536 := by rw [Nat.shiftRight_eq_div_pow]; exact Nat.lt_of_le_of_lt (Nat.div_le_self _ _) hx16
    have e6 := idx_succ i p
    have e7 : ((playC n M).getD i 0).testBit x = p i := (hp i).symm
    cases hpi : p i
    · rw [hpi] at e6 e7
      simp only [go_sem, hlt, k1, k2, k3, bit64 (o' := default) (show x < 64 by omega), one64 hxs, tb, e7]
      rw [wrapN (by omega)]
      exact ih (j - 1) [t, gi (i + 1 : Nat)] _ _ (by omega) (by simp only [go_sem]) ⟨i + 1, t, by omega, rfl, by rw [e6]; exact ho, hk⟩
    · rw [hpi] at e6 e7
      have hap := ho.app (base := H.length) ts34 hk0.1 (ys := [.int .i64 (i : Int)]) rfl (by unfold room; omega)
      simp only [go_sem, hlt, k1, k2, k3, bit64 (o' := default) (show x < 64 by omega), one64 hxs, tb, e7, bs_one ts34 (x := Value.int .i64 _) rfl rfl, eo_append (show notInt C.P 34 = true from rfl), hap]
      rw [wrapN (by omega)]
      refine ih (j - 1) [_, gi (i + 1 : Nat)] _ _ (by omega) (by simp only [go_sem]) ⟨i + 1, .slice (some ⟨H'.length + 1, 0, some 1⟩) ((idx i p).length + 1) ((idx i p).length + 1), by omega, rfl, ?_, ho.keeps hk (Nat.le_refl _)⟩
      rw [e6, if_pos rfl, show (idx i p ++ [i]).length = (idx i p).length + 1 by simp, show ni (idx i p ++ [i]) = ni (idx i p) ++ [.int .i64 (i : Int)] by simp [ni]]
      exact ho.next (ys := [.int .i64 (i : Int)]) hk.1 rfl
-- learned in a call
/-- Is there a call with this index? -/
def inK (L : List (Int × Int)) (k : Int) : Bool := decide (0 ≤ k) && decide (k ≤ IntKind.i64.wrap ((L.length : Int) - 1))
theorem learnNo_c {n k : Int} {s : Value} {L : List (Int × Int)} (hs : SL H s L) (hL : L.length < 1000) (h : (areC n L && inK L k) = false) : cal C base 29 [gi n, s, gi k] H = some (.tuple #[gi 0, bo false], H) ∧ cal C base 35 [gi n, s, gi k] H = some (.tuple #[gi 0, bo false], H) := by
  obtain ⟨a, c, rfl⟩ := hs.sl
  constructor
  · refine cal_fn Try.func29 rfl rfl (res := [.tmp 6, .tmp 7]) rfl Try.ntmps29 1 base _ H ?_
    cases h1 : areC n L <;> rw [h1] at h
    · simp only [go_sem, areC_c hs hL, h1, Chb (show wrF 29 = false from rfl)]
    · have h2 : (decide (0 ≤ k) && decide (k ≤ IntKind.i64.wrap ((L.length : Int) - 1))) = false := by simpa [inK] using h
      simp only [go_sem, areC_c hs hL, h1, within_c, h2, Chb (show wrF 29 = false from rfl)]
  · refine cal_fn Try.func35 rfl rfl (res := [.tmp 6, .tmp 7]) rfl Try.ntmps35 1 base _ H ?_
    cases h1 : areC n L <;> rw [h1] at h
    · simp only [go_sem, caGood_c hs hL, h1, Chb (show wrF 35 = false from rfl)]
    · have h2 : (decide (0 ≤ k) && decide (k ≤ IntKind.i64.wrap ((L.length : Int) - 1))) = false := by simpa [inK] using h
      simp only [go_sem, caGood_c hs hL, h1, in_c, h2, Chb (show wrF 35 = false from rfl)]
theorem inK_N {L : List (Int × Int)} {k : Nat} (hk : k < L.length) (hL : L.length < 1000) : inK L k = true := by
  have : IntKind.i64.wrap ((L.length : Int) - 1) = (L.length : Int) - 1 := by rw [IntKind.wrap_i64]; omega
  simp only [inK, this, Bool.and_eq_true, decide_eq_true_eq]; omega
theorem learn_c {n k : Nat} (hn : n ≤ 10) {s : Value} {M : List (Nat × Nat)} (hs : SL H s (toZ M)) (hM : M.length < 1000) (hr : ∀ l ∈ M, l.1 < n ∧ l.2 < n) (h : areC n (toZ M) = true) (hk : k < M.length) :
    cal C base 29 [gi n, s, gi k] H = some (.tuple #[gi (lrn n M k), bo true], H) ∧ cal C base 35 [gi n, s, gi k] H = some (.tuple #[gi (lrn n M k), bo true], H) := by
  have e1 := learned_c (base := H.length) hn hs hM hr hk
  have e2 := caLearned_c (base := H.length) hn hs hM hr hk
  have hZ := toZ_len M
  have hi : (decide ((0 : Int) ≤ (k : Int)) && decide ((k : Int) ≤ IntKind.i64.wrap ((M.length : Int) - 1))) = true := by
    have := inK_N (L := toZ M) (k := k) (by omega) (by omega)
    unfold inK at this; rw [hZ] at this; exact this
  have hsl := hs.sl
  rw [hZ] at hsl
  obtain ⟨a, c, rfl⟩ := hsl
  constructor
  · refine cal_fn Try.func29 rfl rfl (res := [.tmp 6, .tmp 7]) rfl Try.ntmps29 1 base _ H ?_
    simp only [go_sem, areC_c hs (by omega), h, within_c, hi, e1, show C.wr 29 = false from rfl, Chb (show wrF 29 = false from rfl)]
  · refine cal_fn Try.func35 rfl rfl (res := [.tmp 6, .tmp 7]) rfl Try.ntmps35 1 base _ H ?_
    simp only [go_sem, caGood_c hs (by omega), h, in_c, hi, e2, show C.wr 35 = false from rfl, Chb (show wrF 35 = false from rfl)]
-- the calls of a friend
theorem ofNo_c {n x : Int} {s : Value} {L : List (Int × Int)} (hs : SL H s L) (hL : L.length < 1000) (h : (areC n L && inF n x) = false) : cal C base 32 [gi n, s, gi x] H = some (.tuple #[.slice none 0 0, bo false], H) ∧ cal C base 33 [gi n, s, gi x] H = some (.tuple #[.slice none 0 0, bo false], H) := by
  constructor
  · refine cal_fn Try.func32 rfl rfl (res := [.tmp 6, .tmp 7]) rfl Try.ntmps32 1 base _ H ?_
    obtain ⟨a, c, rfl⟩ := hs.sl
    have hs2 := (hs.add [some (24, [.slice a L.length c])]).add [some (3, [gi x])]
    have e := areC_c (base := H.length) (n := n) hs2 hL
    simp only [List.append_assoc, List.cons_append, List.nil_append] at e
    cases h1 : areC n L <;> rw [h1] at h e
    · simp only [go_sem, List.append_assoc, List.length_append, hget_0, hget_1, e, show C.wr 32 = false from rfl, Chb (show wrF 32 = false from rfl)]
    · simp only [go_sem, List.append_assoc, List.length_append, hget_0, hget_1, e, isFriend_c, show inF n x = false from by simpa using h, show C.wr 32 = false from rfl, Chb (show wrF 32 = false from rfl)]
  · refine cal_fn Try.func33 rfl rfl (res := [.tmp 6, .tmp 7]) rfl Try.ntmps33 1 base _ H ?_
    cases h1 : areC n L <;> rw [h1] at h
    · simp only [go_sem, caGood_c hs hL, h1, Chb (show wrF 33 = false from rfl)]
    · have h2 : (decide (0 ≤ x) && decide (x ≤ IntKind.i64.wrap (n - 1))) = false := by simpa [inF] using h
      simp only [go_sem, caGood_c hs hL, h1, in_c, h2, Chb (show wrF 33 = false from rfl)]
def ofP (L : List (Int × Int)) (x : Int) (k : Nat) : Bool := ((L.getD k (0, 0)).1 == x) || ((L.getD k (0, 0)).2 == x)
theorem slFld {s : Value} {L : List (Int × Int)} (h : SL H s L) {i : Nat} (hi : i < L.length) : ∃ b o T cs, indexAddrA C.P 24 s (gi i) = some (.pointer (some ⟨b, o, none⟩)) ∧ hget H b = some (T, cs) ∧ cs[o]? = some (gi L[i].1) ∧ cs[o + 1]? = some (gi L[i].2) := by
  obtain ⟨b, o, T, cs, h1, h2, h3, h4, h5⟩ := Shows.at (P := C.P) (t := 24) (el := 67) (K := .i64) h hi rfl rfl
  obtain ⟨r, hr⟩ := lc_drop L hi
  have e : ∀ f, (lc L)[i * 2 + f]? = (gi L[i].1 :: gi L[i].2 :: r)[f]? := fun f => by rw [← hr, List.getElem?_drop]
  exact ⟨b, o, T, cs, h1, h2, (h5 0 (by decide)).trans (e 0), (h5 1 (by decide)).trans (e 1)⟩
theorem of1_c {b2 b3 k : Nat} {x : Int} {s : Value} {L : List (Int × Int)} (h2 : hget H b2 = some (24, [s])) (h3 : hget H b3 = some (3, [gi x])) (hs : SL H s L) (hk : k < L.length) :
    cal C base 69 [gi k, pt b2, pt b3] H = some (bo (ofP L x k), H) := by
  refine cal_fn Try.func69 rfl rfl (res := [.tmp 4]) rfl Try.ntmps69 1 base _ H ?_
  obtain ⟨b, o, T, cs, k1, k2, k3, k4⟩ := slFld hs hk
  have hp : ofP L x k = ((L[k].1 == x) || (L[k].2 == x)) := by simp [ofP, hk]
  rw [hp]
  obtain ⟨a, c, rfl⟩ := hs.sl
  simp only [go_sem, show C.wr 69 = false from rfl]
  rw [fin_regd]; rotate_left; · decide +kernel
  cases q : (L[k].1 == x) <;> simp only [go_sem, h2, h3, k1, k2, k3, k4, q, Chb (show wrF 69 = false from rfl)]
theorem of_c {n x : Int} {s : Value} {L : List (Int × Int)} (hs : SL H s L) (hL : L.length < 1000) (h : areC n L = true) (hx : inF n x = true) (p : Nat → Bool) (hp : ∀ k, p k = ofP L x k) :
    Ok (cal C base 32 [gi n, s, gi x] H) fun v H' => ∃ F t, H' = H ++ F ∧ v = .tuple #[t, bo true] ∧ OwnL H.length H' 3 1 t (idx L.length p).length (ni (idx L.length p)) := by
  refine ok_fn Try.func32 rfl rfl (res := [.tmp 6, .tmp 7]) rfl Try.ntmps32 1 base _ H ?_
  obtain ⟨a, c, rfl⟩ := hs.sl
  have h2 := (hs.add [some (24, [.slice a L.length c])]).add [some (3, [gi x])]
  simp only [List.append_assoc, List.cons_append, List.nil_append] at h2
  have e := areC_c (base := H.length) (n := n) h2 hL
  obtain ⟨v, H1, e1, F, rfl, ho⟩ := indices_g (base := H.length) (H := H ++ [some (24, [.slice a L.length c]), some (3, [gi x])]) (g := 69) (caps := #[pt H.length, pt (H.length + 1)]) hL p (fun k hk base H' hkp => by
    obtain ⟨F0, rfl⟩ := keeps_append hkp
    rw [hp]
    exact of1_c (hget_old (hget_0 (H := H)) F0) (hget_old hget_1 F0) (h2.add F0) hk)
  have hk : Keeps H.length H (H ++ [some (24, [.slice a L.length c]), some (3, [gi x])] ++ F) := by rw [List.append_assoc]; exact .append (Nat.le_refl _) _
  obtain ⟨s', F', old, e4, ho'⟩ := (ho.low (k' := H.length) (by simp)).hand (P := C.P) (acc := H) (l := [bo true]) (show tySize C.P 3 = some 1 from rfl) (by simp [isG, sc, ni])
  simp only [go_sem, hget_0, hget_1, List.append_assoc, List.length_append, e, h, isFriend_c, hx, show C.wr 32 = false from rfl] 
  simp only [List.append_assoc, List.cons_append, List.nil_append] at e1 e4 hk
  simp only [go_sem, e1, Chb (show wrF 32 = false from rfl), take_keeps hk, e4]
  exact .some ⟨F', s', rfl, rfl, ho'⟩
theorem ofS_c {n x : Int} {s : Value} {L : List (Int × Int)} (hs : SL H s L) (hL : L.length < 1000) (h : areC n L = true) (hx : inF n x = true) (p : Nat → Bool) (hp : ∀ k, p k = ofP L x k) :
    Ok (cal C base 33 [gi n, s, gi x] H) fun v H' => ∃ F t, H' = H ++ F ∧ v = .tuple #[t, bo true] ∧ OwnL H.length H' 3 1 t (idx L.length p).length (ni (idx L.length p)) := by
  refine ok_fn Try.func33 rfl rfl (res := [.tmp 6, .tmp 7]) rfl Try.ntmps33 1001 base _ H ?_
  obtain ⟨a, c, rfl⟩ := hs.sl
  have hf : (decide ((0 : Int) ≤ x) && decide (x ≤ IntKind.i64.wrap (n - 1))) = true := hx
  simp only [go_sem, caGood_c hs hL, h, in_c, hf, show C.wr 33 = false from rfl]
  rw [fin_loopk [25, 26, 27, 28, 10, 9, 29, 30, 31, 32, 33, 38, 39, 40, 41, 42, 43] rfl]
  refine lp_ok [8, 24, 34, 35, 36, 37] (fun j vs H' => ∃ (i : Nat) (t u1 u2 u3 u4 : Value), i + j = L.length ∧ vs = [t, gi i, u1, u2, u3, u4] ∧ OwnL H.length H' 3 1 t (idx i p).length (ni (idx i p)) ∧ Keeps H.length H H') L.length [.slice none 0 0, gi 0, undef, undef, undef, undef] ?_ (by omega) (by simp only [go_sem]) ⟨0, _, _, _, _, _, by omega, rfl, .nil _ _ _ _, .refl _ _⟩
  rintro j m vs H' ⟨i, t, u1, u2, u3, u4, hij, rfl, ho, hk⟩ ih
  have hil := idx_len i p
  cases hlt : decide ((i : Int) < (L.length : Int))
  · obtain rfl : i = L.length := by have := of_decide_eq_false hlt; omega
    obtain ⟨s', F, old, e, ho'⟩ := ho.hand (P := C.P) (acc := H) (l := [bo true]) (show tySize C.P 3 = some 1 from rfl) (by simp [isG, sc, ni])
    simp only [go_sem, hlt, Chb (show wrF 33 = false from rfl), take_keeps hk, e]
    exact .some ⟨F, s', rfl, rfl, ho'⟩
  · have hi : i < L.length := by have := of_decide_eq_true hlt; omega
    have hl0 := hk.1
    obtain ⟨b, o, T, cs, k1, k2, k3⟩ := SL.el (hs.keep hk) hi
    rw [lv] at k3
    have e6 := idx_succ i p
    have e7 : p i = ((L[i].1 == x) || (L[i].2 == x)) := by rw [hp]; simp [ofP, hi]
    have ho2 := ho.keep (.append (Nat.le_refl _) [some (67, [gi L[i].1, gi L[i].2])])
    have hk2 : Keeps H.length H (H' ++ [some (67, [gi L[i].1, gi L[i].2])]) := hk.trans (.append hl0 _)
    have hh0 : hget (H' ++ [some (67, [gi L[i].1, gi L[i].2])]) H'.length = some (67, [gi L[i].1, gi L[i].2]) := hget_0
    have hst := st66 (base := H.length) (H := H') (x0 := gi 0) (y0 := gi 0) (x := L[i].1) (y := L[i].2) hl0
    cases hpi : p i
    · rw [hpi] at e6 e7
      obtain ⟨q1, q2⟩ := Bool.or_eq_false_iff.1 e7.symm
      simp only [go_sem, hlt, k1, k2, k3, hst, hh0, q1, q2]
      rw [wrapN (by omega)]
      exact ih (j - 1) [t, gi (i + 1 : Nat), .pointer (some ⟨H'.length, 1, none⟩), gi L[i].2, gi x, bo false] _ _ (by omega) (by simp only [go_sem]) ⟨i + 1, t, _, _, _, _, by omega, rfl, by rw [e6]; exact ho2, hk2⟩
    · rw [hpi] at e6 e7
      have hap := ho2.app (base := H.length) ts34 (Nat.le_refl _) (ys := [.int .i64 (i : Int)]) rfl (by unfold room; omega)
      have q : (L[i].1 == x) = true ∨ ((L[i].1 == x) = false ∧ (L[i].2 == x) = true) := by
        rcases Bool.eq_false_or_eq_true (L[i].1 == x) with q | q
        · exact .inl q
        · exact .inr ⟨q, by rw [q, Bool.false_or] at e7; exact e7.symm⟩
      rcases q with q1 | ⟨q1, q1'⟩
      · skip
        simp only [go_sem, hlt, k1, k2, k3, hst, hh0, q1, bs_one ts34 (x := Value.int .i64 _) rfl rfl, eo_append (show notInt C.P 34 = true from rfl), hap]
        rw [wrapN (by omega)]
        refine ih (j - 1) [.slice (some ⟨(H' ++ [some (67, [gi L[i].1, gi L[i].2])]).length + 1, 0, some 1⟩) ((idx i p).length + 1) ((idx i p).length + 1), gi (i + 1 : Nat), sk, sk, sk, sk] _ _ (by omega) (by simp only [go_sem]) ⟨i + 1, .slice (some ⟨(H' ++ [some (67, [gi L[i].1, gi L[i].2])]).length + 1, 0, some 1⟩) ((idx i p).length + 1) ((idx i p).length + 1), sk, sk, sk, sk, by omega, rfl, ?_, ho2.keeps hk2 (Nat.le_refl _)⟩
        rw [e6, if_pos rfl, show (idx i p ++ [i]).length = (idx i p).length + 1 by simp, show ni (idx i p ++ [i]) = ni (idx i p) ++ [.int .i64 (i : Int)] by simp [ni]]
        exact ho2.next (ys := [.int .i64 (i : Int)]) hk2.1 rfl
      · skip
        simp only [go_sem, hlt, k1, k2, k3, hst, hh0, q1, q1', bs_one ts34 (x := Value.int .i64 _) rfl rfl, eo_append (show notInt C.P 34 = true from rfl), hap]
        rw [wrapN (by omega)]
        refine ih (j - 1) [.slice (some ⟨(H' ++ [some (67, [gi L[i].1, gi L[i].2])]).length + 1, 0, some 1⟩) ((idx i p).length + 1) ((idx i p).length + 1), gi (i + 1 : Nat), .pointer (some ⟨H'.length, 1, none⟩), gi L[i].2, gi x, bo true] _ _ (by omega) (by simp only [go_sem]) ⟨i + 1, .slice (some ⟨(H' ++ [some (67, [gi L[i].1, gi L[i].2])]).length + 1, 0, some 1⟩) ((idx i p).length + 1) ((idx i p).length + 1), .pointer (some ⟨H'.length, 1, none⟩), gi L[i].2, gi x, bo true, by omega, rfl, ?_, ho2.keeps hk2 (Nat.le_refl _)⟩
        rw [e6, if_pos rfl, show (idx i p ++ [i]).length = (idx i p).length + 1 by simp, show ni (idx i p ++ [i]) = ni (idx i p) ++ [.int .i64 (i : Int)] by simp [ni]]
        exact ho2.next (ys := [.int .i64 (i : Int)]) hk2.1 rfl
end T

