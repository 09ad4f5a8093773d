/- Letters: the machine's functions, tests of letters, what friends know at first. No conditions. -/
import Derived.Test.YtbpeknbhdphilaaB0
import Derived.Test.YtbpeknbhdphilaaProg
import Derived.Test.YtbpeknbhdphilaaB1
import Derived.Test.YtbpeknbhdphilaaA5
open Go Go.Am
namespace T
set_option maxRecDepth 100000
set_option linter.unusedSimpArgs false
def wrF (f : FuncId) : Bool := f == 52 || f == 56 || f == 69 || f == 70 || f == 71 || f == 72 || f == 80 || f == 85 || f == 86 || f == 79 || f == 64
def rawF (f : FuncId) : Bool := f == 6 || f == 7 || f == 29 || f == 32 || f == 34
noncomputable def C : Cfg := { P := Go.Proofs.Try.prog, wr := wrF, raw := rawF, ext := fun _ => false, frn := fun f => if f == 16 then some back16 else none }
theorem Cwr (f) : C.wr f = wrF f := rfl
theorem Cext (f) : C.ext f = false := rfl
theorem Chb {f m vs H} (h : wrF f = false) (h2 : rawF f = false := by rfl) : handBack C f m vs H = (takeVals C.P m vs H (H.take m)).map fun x => (tupA x.1, x.2.2) := hb_flat (by show (rawF f || wrF f) = false; rw [h, h2]; rfl)
theorem Chr {f m vs H} (h : (rawF f || wrF f) = true) : handBack C f m vs H = some (tupA vs, H) := hb_raw h
section
variable {call : Nat → CallF} {base : Nat} {dr : Bool} {ρ : Env} {H : Heap} {d : Option Tmp} {u : TypeId} {p : String} {e : Array Edge} {g : Option (Nat × Bool)} {f : FuncId} {xs : Array Operand} {ts : Array TypeId}
@[go_sem] theorem Ccall : evalOp C call base false ⟨d, .call ⟨.value (.func f), xs, ts⟩, u, p, e, g⟩ ρ H = call base f (xs.toList.map (ev ρ)) H := eo_call rfl
@[go_sem] theorem Ccalld : evalOp C call base true ⟨d, .call ⟨.value (.func f), xs, ts⟩, u, p, e, g⟩ ρ H = call base f (xs.toList.map (ev ρ)) H := eo_calld rfl
-- the types
theorem ts52 : TyS C.P 52 62 1 (.int .u16 0) := ⟨rfl, rfl, rfl, ⟨rfl, by decide, rfl⟩, rfl⟩
theorem ts24 : TyS C.P 24 66 2 (.agg #[gi 0, gi 0]) := ⟨rfl, rfl, rfl, ⟨rfl, by decide, rfl⟩, rfl⟩
theorem ts34 : TyS C.P 34 3 1 (gi 0) := ⟨rfl, rfl, rfl, ⟨rfl, by decide, rfl⟩, rfl⟩
@[go_sem] theorem te24 : (tyElem C.P 24).isSome = true := rfl
@[go_sem] theorem te52 : (tyElem C.P 52).isSome = true := rfl
@[go_sem] theorem te34 : (tyElem C.P 34).isSome = true := rfl
theorem tg3 : tyAgg C.P 3 = some false := rfl
theorem tg62 : tyAgg C.P 62 = some false := rfl
theorem tg24 : tyAgg C.P 24 = some false := rfl
theorem tg66 : tyAgg C.P 66 = some true := rfl
theorem sz66 : tySize C.P 66 = some 2 := rfl
theorem sz3 : tySize C.P 3 = some 1 := rfl
@[go_sem] theorem ld3 {o T cs} : ld1 C.P 3 o (some (T, cs)) = cs[o]? := ld_sc tg3
@[go_sem] theorem ld62 {o T cs} : ld1 C.P 62 o (some (T, cs)) = cs[o]? := ld_sc tg62
@[go_sem] theorem ld24 {o T cs} : ld1 C.P 24 o (some (T, cs)) = cs[o]? := ld_sc tg24
theorem ld66 {o T cs} : ld1 C.P 66 o (some (T, cs)) = if o + 2 ≤ cs.length then some (.agg ((cs.drop o).take 2).toArray) else none := ld_ag tg66 sz66
@[go_sem] theorem ld66' {T} {x y : Value} : ld1 C.P 66 0 (some (T, [x, y])) = some (.agg #[x, y]) := by simp [ld66]
@[go_sem] theorem al66 : evalOp C call base dr ⟨d, .alloc 66, u, p, e, g⟩ ρ H = some (.pointer (some ⟨H.length, 0, none⟩), H ++ [some (66, [gi 0, gi 0])]) := eo_alloc (z := .agg #[gi 0, gi 0]) rfl rfl
@[go_sem] theorem fa66_0 {b o} : fieldAddrA C.P 66 0 (.pointer (some ⟨b, o, none⟩)) = some (.pointer (some ⟨b, o, none⟩)) := rfl
@[go_sem] theorem fa66_1 {b o} : fieldAddrA C.P 66 1 (.pointer (some ⟨b, o, none⟩)) = some (.pointer (some ⟨b, o + 1, none⟩)) := rfl
theorem st66 {H : Heap} {x0 y0 : Value} {x y : Int} (hb : base ≤ H.length) : storeA C.P base (H ++ [some (66, [x0, y0])]) 66 (.agg #[gi x, gi y]) (.pointer (some ⟨H.length, 0, none⟩)) = some (H ++ [some (66, [gi x, gi y])]) := st_new hb rfl sz66 rfl
theorem w00 : C.wr 0 = false := rfl
end
end T

namespace T
open Go Go.Am Go.Proofs Go.RowKit Go.Shelf
attribute [local go_sem] Oper.semAt_some
set_option linter.unusedVariables false
set_option maxRecDepth 100000 in
set_option maxHeartbeats 4000000 in
theorem back16_no (F : Fence) (n : Nat) (h16 : F.fn 16) (h21 : F.fn 21) (hro : F.round = none) (hn : 3 ≤ n) (m : Int) (a : Option Addr) (len cap : Nat) (w : World)
    (hA : CallsIn F (n - 1) Try.prog 21 #[.int .i64 m, .slice a len cap] w fun e w' => e = .returned (.bool false) ∧ Below w.heap.size w w') :
    CallsIn F n Try.prog 16 #[.int .i64 m, .slice a len cap] w fun e w' => e = .returned (.tuple #[.slice none 0 0, .bool false]) ∧ Below w.heap.size w w' := by
  have h1 : 1 ≤ n := by omega
  refine callsIn_of_wp Try.func16 rfl h16 ?_ hro
  simp only [Try.ntmps16, List.size_toArray, List.length_cons, List.length_nil, Nat.reduceAdd, Nat.reduceSub, Array.replicate_succ, Array.replicate_zero, List.push_toArray, List.append_toArray, List.nil_append, List.cons_append]
  gi_wp2_with (gi_at_call 21; refine hA.mono ?_; rintro e w1 ⟨rfl, hb1⟩)
  go_ret2
  exact ⟨rfl, hb1⟩
theorem lc_len' (L : List (Int × Int)) : (lc L).length = L.length * 2 := T0.lc_len L
theorem lc_drop' (L : List (Int × Int)) {i : Nat} (h : i < L.length) : ∃ r, (lc L).drop (i * 2) = gi L[i].1 :: gi L[i].2 :: r := T0.lc_drop L h
theorem lcSc (L : List (Int × Int)) : (lc L).all Am.sc = true := by
  induction L with
  | nil => rfl
  | cons a l ih => simp only [lc, List.flatMap_cons, List.all_append] at ih ⊢; rw [ih]; rfl
abbrev SLb (H : Heap) (s : Value) (L : List (Int × Int)) : Prop := Shows H 2 s L.length (lc L)
theorem pairs_inv : ∀ {cs : List Value} {L : List (Int × Int)}, pairs cs = some L → cs = lc L
  | [], L, h => by simp only [pairs, Option.some.injEq] at h; subst h; rfl
  | [x], L, h => by simp [pairs] at h
  | x :: y :: r, L, h => by
    unfold pairs at h
    split at h
    · rename_i e; cases e
    · rename_i a b r' e
      cases e
      obtain ⟨l, h1, rfl⟩ := Option.map_eq_some_iff.1 h
      rw [pairs_inv h1]; rfl
    · cases h
theorem rowOf_back (M : List (Int × Int)) : rowOf (upto (bkf M) M.length) = lc (backL M) := by
  have e : M.reverse = upto (fun j => (bkf M j).2) M.length := by
    apply List.ext_getElem
    · simp [upto]
    · intro i h1 h2
      have hi : i < M.length := by simpa using h1
      simp [upto, bkf, show M.length - 1 - i < M.length by omega]
  unfold backL
  rw [e]
  simp [rowOf, lc, upto, List.flatMap_map]
theorem back_frk : ∀ g G args H v H', C.frn g = some G → G args H = some (v, H') → ∃ F, H' = H ++ F := by
  intro g G args H v H' hG h
  have hG' : (if g == 16 then some back16 else none) = some G := hG
  split at hG'
  · cases hG'
    unfold back16 at h
    split at h
    · obtain ⟨y, _, h⟩ := Option.bind_eq_some_iff.1 h
      obtain ⟨L, _, h⟩ := Option.bind_eq_some_iff.1 h
      split at h
      · split at h
        · cases h; exact ⟨_, rfl⟩
        · cases h; exact ⟨[], by simp⟩
      · cases h
    · cases h
  · cases hG'
theorem back_frn (nf : Nat) : FrnOk C nf := by
  intro g G hG
  have hG' : (if g == 16 then some back16 else none) = some G := hG
  split at hG'
  case isFalse => cases hG'
  rename_i hg
  obtain rfl : g = 16 := by simpa using hg
  cases hG'
  refine ⟨⟨Try.f16, Try.func16, by kernel_rfl, by kernel_rfl⟩, fun args H v H' hnf h => ⟨back_frk 16 back16 args H v H' rfl h, fun β w args' hs hargs => ?_⟩⟩
  unfold back16 at h
  split at h
  case h_2 => cases h
  rename_i H0 n s
  obtain ⟨y, hy, hb1⟩ := Option.bind_eq_some_iff.1 h
  clear h
  obtain ⟨L, hL, hb2⟩ := Option.bind_eq_some_iff.1 hb1
  clear hb1
  split at hb2
  case isFalse => cases hb2
  rename_i hlen
  have hcs := pairs_inv hL
  -- the arguments
  have hal : args'.toList.length = 2 := by have := hargs.1; simpa using this.symm
  obtain ⟨u0, u, hau⟩ : ∃ u0 u, args'.toList = [u0, u] := by
    match hq : args'.toList, hal with
    | [u0, u], _ => exact ⟨u0, u, rfl⟩
  have hae : args' = #[u0, u] := by rw [← Array.toArray_toList (xs := args'), hau]
  rw [hau] at hargs
  have hv0 : VR β (.int .i64 n) u0 := hargs.2 0
  have hv1 : VR β s u := hargs.2 1
  obtain rfl := hv0.of_sc rfl
  subst hae
  -- the slice
  have key : ∃ a len cap, u = .slice a len cap ∧ len = L.length ∧ Lets w.heap.size w (.slice a len cap) L ∧ SLb H s L ∧ ∃ a' c', s = .slice a' L.length c' := by
    unfold cellsA at hy
    split at hy
    · cases hy
      obtain rfl : L = [] := by simpa [pairs] using hL.symm
      cases hv1 with
      | sc h => simp [Am.sc] at h
      | snil a => exact ⟨a, 0, 0, rfl, rfl, .inl ⟨a, rfl, rfl⟩, .inl ⟨rfl, rfl, rfl⟩, none, 0, rfl⟩
    · rename_i b o es' m c
      split at hy
      case isFalse => cases hy
      rename_i hes
      subst hes
      obtain ⟨⟨T, cs⟩, hg, hy⟩ := Option.bind_eq_some_iff.1 hy
      split at hy
      case isFalse => cases hy
      rename_i hle
      cases hy
      simp only at hle hcs
      have hm : m = L.length := by
        have := congrArg List.length hcs
        rw [lc_len', List.length_take, List.length_drop] at this; omega
      subst hm
      cases hv1 with
      | sc h => simp [Am.sc] at h
      | sl hβ h1 h2 h3 h4 =>
        rename_i B s0 N cap' off
        refine ⟨_, _, _, rfl, rfl, .inr ⟨B, off, cap', rfl, hs.lt b B s0 N ⟨_, _, hget_some hg⟩ hβ, fun j hj => ?_⟩, .inr ⟨b, o, c, T, cs, rfl, hg, hle, hcs, h1⟩, _, _, rfl⟩
        have hoff : off = s0 + o := h3 (by omega)
        have cell : ∀ f, f < 2 → w.cell? ⟨B, off + (j * 2 + f), none⟩ = (lc L)[j * 2 + f]? := by
          intro f hf
          obtain ⟨_, u, k1, k2⟩ := hs.cell b T cs B s0 N (hget_some hg) hβ (o + (j * 2 + f)) (by omega)
          have e1 : cs.getD (o + (j * 2 + f)) undef = (lc L).getD (j * 2 + f) undef := by
            rw [← hcs, List.getD_eq_getElem?_getD, List.getD_eq_getElem?_getD, List.getElem?_take, if_pos (by omega), List.getElem?_drop]
          have hin : j * 2 + f < (lc L).length := by rw [lc_len']; omega
          have e2 : (lc L).getD (j * 2 + f) undef = (lc L)[j * 2 + f] := by simp [hin]
          rw [e1, e2] at k2
          have hsc : Am.sc (lc L)[j * 2 + f] = true := List.all_eq_true.1 (lcSc L) _ (List.getElem_mem hin)
          rw [k2.of_sc hsc] at k1
          rw [hoff, show s0 + o + (j * 2 + f) = s0 + (o + (j * 2 + f)) by omega, k1, List.getElem?_eq_getElem hin]
        obtain ⟨r, hr⟩ := lc_drop' L hj
        have e : ∀ f, (lc L)[j * 2 + f]? = (gi L[j].1 :: gi L[j].2 :: r)[f]? := fun f => by rw [← hr, List.getElem?_drop]
        have hjj : L[j]?.getD (0, 0) = L[j] := by simp [hj]
        rw [hjj]
        exact ⟨(cell 0 (by decide)).trans (e 0), by rw [Nat.add_assoc]; exact (cell 1 (by decide)).trans (e 1)⟩
    · rename_i st; cases hy
    · cases hy
  obtain ⟨a, len, cap, rfl, rfl, hLet, hSL, a', c', rfl⟩ := key
  have hA0 := T0.areL_c (base := H.length) (n := n) hSL hlen
  have hA : Calls Try.prog 21 #[.int .i64 n, .slice a L.length cap] w fun e w' => e = .returned (.bool (areL n L)) ∧ Below w.heap.size w w' := by
    refine (cal_ok (C := T0.C) (show C.P.follows .mixedOrders = true by kernel_rfl) (fun g G args H v H' hG => by cases hG) (FrnOk.none fun g => rfl) (nf := nf) hnf (Nat.le_refl _) hA0 (β := β) (w := w) (args' := #[.int .i64 n, .slice a L.length cap]) hs hargs).mono ?_
    rintro e w' ⟨v', β', rfl, hv, hp⟩
    rw [hv.of_sc rfl]
    exact ⟨rfl, hp.below hs⟩
  cases hq : areL n L
  · rw [hq] at hb2 hA
    cases hb2
    refine (callsIn_wide.1 (back16_no Fence.wide 3 trivial trivial rfl (Nat.le_refl _) n a L.length cap w (callsIn_wide.2 hA))).mono ?_
    rintro e w' ⟨rfl, hb⟩
    refine ⟨_, β, rfl, .tup rfl fun i => ?_, Post.ofBelow hs hb⟩
    match i with
    | 0 => exact .snil none
    | 1 => exact .sc rfl
    | i + 2 => exact .any _
  · rw [hq] at hb2 hA
    cases hb2
    have hM : L.length ≤ 60 := by simp only [areL, Bool.and_eq_true, decide_eq_true_eq] at hq; exact hq.1.2
    refine (callsIn_wide.1 (back16_in Fence.wide 3 trivial trivial trivial trivial rfl (Nat.le_refl _) n a L.length cap L hM w hLet (callsIn_wide.2 hA))).mono ?_
    rintro e w' ⟨g, cap', rfl, hrow, hb⟩
    obtain ⟨r0, ⟨h, _⟩ | ⟨g', cp, cur, e1, hgb, hgc, r1, r2, r3, r4⟩⟩ := hrow
    · cases h
    cases e1
    rw [rowOf_back] at r4
    have hlt : g < w'.heap.size := (Array.getElem?_eq_some_iff.1 hgc).1
    have hcl : ∀ i, w'.cell? ⟨g, i, none⟩ = cur[i]? := fun i => by unfold World.cell?; rw [hgc]; rfl
    have hfl : ∀ i, w'.frozen? ⟨g, i, none⟩ = false := fun i => by unfold World.frozen?; rw [hgc]; simp
    have hbl : (backL L).length = L.length := by simp [backL]
    have hp := Post.newRow (base := H.length) hs 66 (lc (backL L)) g (cap' * 2) hgb hlt hb.size hb.os hb.tape hb.output (fun k hk => hb.block k hk) (fun i hi => ?_) (by rw [lc_len', hbl]; omega) (fun off ho => ⟨?_, hfl off⟩) H rfl (fun _ => .inl rfl)
    refine ⟨_, _, rfl, .tup rfl fun i => ?_, hp⟩
    · match i with
      | 0 => exact .sl (s := 0) (N := cap' * 2) (by unfold upd; rw [if_pos rfl]) (Nat.le_refl _) r1 (fun _ => rfl) (by omega)
      | 1 => exact .sc rfl
      | i + 2 => exact .any _
    · have hsc : Am.sc (lc (backL L))[i] = true := List.all_eq_true.1 (lcSc _) _ (List.getElem_mem hi)
      have e2 : (lc (backL L)).getD i undef = (lc (backL L))[i] := by simp [hi]
      rw [e2]
      refine ⟨?_, (lc (backL L))[i], ?_, .sc hsc⟩
      · revert hsc
        cases (lc (backL L))[i] <;> simp [Am.sc, isCell]
      · rw [hcl]
        have : (cur.toList.take (L.length * 2))[i]? = some (lc (backL L))[i] := by rw [r4]; exact List.getElem?_eq_getElem hi
        rw [List.getElem?_take] at this
        split at this
        · simpa using this
        · cases this
    · rw [hcl, Array.getElem?_eq_getElem (by rw [r3]; exact ho)]; rfl
end T

open Go Go.Am
namespace T
open Go.Proofs
set_option maxRecDepth 100000
set_option maxHeartbeats 4000000
set_option linter.unusedSimpArgs false
variable {base : Nat} {H : Heap}
theorem within_c {n lo hi : Int} : cal C base 67 [gi n, gi lo, gi hi] H = some (bo (decide (lo ≤ n) && decide (n ≤ hi)), H) := by
  refine cal_fn Try.func67 rfl rfl (res := [.tmp 6]) rfl Try.ntmps67 2 base _ H ?_
  cases h : decide (lo ≤ n) <;> simp only [go_sem, h, Cwr, Chb (show wrF 67 = false from rfl)]
theorem in_c {n lo hi : Int} : cal C base 83 [gi n, gi lo, gi hi] H = some (bo (decide (lo ≤ n) && decide (n ≤ hi)), H) := by
  refine cal_fn Try.func83 rfl rfl (res := [.tmp 6]) rfl Try.ntmps83 2 base _ H ?_
  cases h : decide (lo ≤ n) <;> simp only [go_sem, h, Cwr, Chb (show wrF 83 = false from rfl)]
theorem isFriend_c {n x : Int} : cal C base 51 [gi n, gi x] H = some (bo (inF n x), H) := by
  refine cal_fn Try.func51 rfl rfl (res := [.tmp 4]) rfl Try.ntmps51 2 base _ H ?_
  simp only [go_sem, within_c, Chb (show wrF 51 = false from rfl), inF]
theorem areFriends_c {n : Int} : cal C base 48 [gi n] H = some (bo (areF n), H) := by
  refine cal_fn Try.func48 rfl rfl (res := [.tmp 2]) rfl Try.ntmps48 2 base _ H ?_
  simp only [go_sem, within_c, Chb (show wrF 48 = false from rfl), areF]
theorem caFriends_c {n : Int} : cal C base 59 [gi n] H = some (bo (areF n), H) := by
  refine cal_fn Try.func59 rfl rfl (res := [.tmp 2]) rfl Try.ntmps59 2 base _ H ?_
  simp only [go_sem, in_c, Chb (show wrF 59 = false from rfl), areF]
theorem leLetter_c {n : Int} {l : Int × Int} : cal C base 60 [gi n, lv l] H = some (bo (isL n l), H) := by
  refine cal_fn Try.func60 rfl rfl (res := [.tmp 4]) rfl Try.ntmps60 2 base _ H ?_
  obtain ⟨a, b⟩ := l
  cases h : inF n a <;> cases h2 : inF n b <;> simp only [inF] at h h2 <;> simp only [go_sem, lv, in_c, h, h2, hget_0, Chb (show wrF 60 = false from rfl), isL, inF]
theorem are1_c {n : Int} {l : Int × Int} {b : Nat} (hb : hget H b = some (3, [gi n])) : cal C base 50 [lv l, .pointer (some ⟨b, 0, none⟩)] H = some (bo (!isL n l), H) := by
  refine cal_fn Try.func50 rfl rfl (res := [.tmp 3]) rfl Try.ntmps50 2 base _ H ?_
  obtain ⟨x, y⟩ := l
  cases h : inF n x <;> cases h2 : inF n y <;> simp only [go_sem, lv, isFriend_c, h, h2, hget_0, hget_old hb, Chb (show wrF 50 = false from rfl), isL]
  cases h3 : x == y <;> simp [bne, h3]

theorem lc_len (L : List (Int × Int)) : (lc L).length = L.length * 2 := by
  induction L with
  | nil => rfl
  | cons a l ih => simp only [lc, List.flatMap_cons, List.length_append] at ih ⊢; rw [ih]; simp; omega
theorem lc_drop (L : List (Int × Int)) : ∀ {i : Nat} (h : i < L.length), ∃ r, (lc L).drop (i * 2) = gi L[i].1 :: gi L[i].2 :: r := by
  induction L with
  | nil => intro i h; simp at h
  | cons a l ih =>
    intro i h
    cases i with
    | zero => exact ⟨lc l, rfl⟩
    | succ i =>
      obtain ⟨r, hr⟩ := ih (i := i) (by simpa using h)
      refine ⟨r, ?_⟩
      rw [show (i + 1) * 2 = i * 2 + 2 by omega]
      show (gi a.1 :: gi a.2 :: lc l).drop (i * 2 + 2) = _
      simpa using hr
theorem lc_take {L : List (Int × Int)} {i : Nat} (h : i < L.length) : ((lc L).drop (i * 2)).take 2 = [gi L[i].1, gi L[i].2] := by
  obtain ⟨r, hr⟩ := lc_drop L h; rw [hr]; rfl
/-- A slice of letters. -/
abbrev SL (H : Heap) (s : Value) (L : List (Int × Int)) : Prop := Shows H 2 s L.length (lc L)
theorem SL.el {s : Value} {L : List (Int × Int)} (h : SL H s L) {i : Nat} (hi : i < L.length) : ∃ b o T cs, indexAddrA C.P 24 s (gi i) = some (.pointer (some ⟨b, o, none⟩)) ∧ hget H b = some (T, cs) ∧ ld1 C.P 66 o (some (T, cs)) = some (lv L[i]) := by
  obtain ⟨b, o, T, cs, h1, h2, h3, h4, _⟩ := Shows.at (P := C.P) (t := 24) (el := 66) (K := .i64) h hi rfl rfl
  refine ⟨b, o, T, cs, h1, h2, ?_⟩
  rw [ld66, if_pos h3, h4, lc_take hi]; rfl
theorem wrapN {i : Nat} (h : i < 2 ^ 62) : IntKind.i64.wrap ((i : Int) + 1) = ((i + 1 : Nat) : Int) := by rw [IntKind.wrap_i64]; omega
/-- An index, or -1. -/
def fx : Option Nat → Int
  | some i => i
  | none => -1
theorem indexL_c {s cap : Value} {g : FuncId} {L : List (Int × Int)} {p : Int × Int → Bool} (hs : SL H s L) (hL : L.length < 1000) (hp : ∀ l base, cal C base g [lv l, cap] H = some (bo (p l), H)) :
    cal C base 68 [s, .func (.func g) #[] #[cap]] H = some (gi (fx (L.findIdx? p)), H) := by
  refine cal_fn Try.func68 rfl rfl (res := [.tmp 4]) rfl Try.ntmps68 1001 base _ H ?_
  obtain ⟨a, c, rfl⟩ := hs.sl
  simp only [go_sem]
  rw [fin_loopk [9, 10, 5, 11, 12, 13, 14, 15, 16, 17, 4, 18] rfl]
  refine lp_run [8] (fun j vs H' => ∃ i : Nat, i + j = L.length ∧ vs = [gi i] ∧ (∀ k (h : k < L.length), k < i → p L[k] = false) ∧ H' = H) ?_ L.length [gi 0] (by omega) (by simp only [go_sem]) ⟨0, by omega, rfl, fun k _ h => absurd h (Nat.not_lt_zero _), rfl⟩
  rintro j m vs H' ⟨i, hij, rfl, hno, rfl⟩ ih
  cases hlt : decide ((i : Int) < (L.length : Int))
  · simp only [go_sem, hlt, Chb (show wrF 68 = false from rfl)]
    have : L.findIdx? p = none := by
      rw [List.findIdx?_eq_none_iff]
      intro x hx
      obtain ⟨k, hk, rfl⟩ := List.getElem_of_mem hx
      exact hno k hk (by have := of_decide_eq_false hlt; omega)
    rw [this]; rfl
  · have hi : i < L.length := by have := of_decide_eq_true hlt; omega
    obtain ⟨b, o, T, cs, h1, h2, h3⟩ := hs.el hi
    cases hpi : p L[i]
    · simp only [go_sem, hlt, h1, h2, h3, hp, hpi]
      rw [wrapN (by omega)]
      refine ih (j - 1) [gi (i + 1 : Nat)] _ _ (by omega) (by simp only [go_sem]) ⟨i + 1, by omega, rfl, fun k hk hki => ?_, rfl⟩
      by_cases e : k = i
      · subst e; exact hpi
      · exact hno k hk (by omega)
    · simp only [go_sem, hlt, h1, h2, h3, hp, hpi, Chb (show wrF 68 = false from rfl)]
      have : L.findIdx? p = some i := by
        rw [List.findIdx?_eq_some_iff_getElem]
        exact ⟨hi, hpi, fun k hk => by rw [hno k (by omega) hk]; decide⟩
      rw [this]; rfl
end T

open Go Go.Am
namespace T
open Go.Proofs
set_option maxRecDepth 100000
set_option maxHeartbeats 4000000
set_option linter.unusedSimpArgs false
variable {base : Nat} {H : Heap}
theorem cont_c {s cap : Value} {g : FuncId} {L : List (Int × Int)} {p : Int × Int → Bool} (hs : SL H s L) (hL : L.length < 1000) (hp : ∀ l base, cal C base g [lv l, cap] H = some (bo (p l), H)) :
    cal C base 49 [s, .func (.func g) #[] #[cap]] H = some (bo (L.any p), H) := by
  refine cal_fn Try.func49 rfl rfl (res := [.tmp 4]) rfl Try.ntmps49 1 base _ H ?_
  have : (L.any p) = decide (0 ≤ fx (L.findIdx? p)) := by
    cases h : L.findIdx? p with
    | none =>
      rw [List.findIdx?_eq_none_iff] at h
      have : L.any p = false := by rw [List.any_eq_false]; intro x hx; rw [h x hx]; decide
      rw [this]; rfl
    | some i =>
      obtain ⟨h1, h2, _⟩ := List.findIdx?_eq_some_iff_getElem.1 h
      have : L.any p = true := List.any_eq_true.2 ⟨_, List.getElem_mem h1, h2⟩
      rw [this]
      exact (decide_eq_true (Int.natCast_nonneg _)).symm
  simp only [go_sem, indexL_c hs hL hp, Chb (show wrF 49 = false from rfl), this]
theorem areL_c {n : Int} {s : Value} {L : List (Int × Int)} (hs : SL H s L) (hL : L.length < 1000) : cal C base 21 [gi n, s] H = some (bo (areL n L), H) := by
  refine cal_fn Try.func21 rfl rfl (res := [.tmp 4]) rfl Try.ntmps21 1 base _ H ?_
  obtain ⟨a, c, rfl⟩ := hs.sl
  have h2 := hs.add [some (3, [gi n])]
  have h3 : L.any (fun l => !isL n l) = !L.all (isL n) := by rw [List.not_all_eq_any_not]
  have hcl : ((L.length : Int) ≤ 60) = (L.length ≤ 60) := by simp; omega
  cases h : areF n <;> cases hl : decide (L.length ≤ 60) <;>
    simp only [go_sem, areFriends_c, h, hget_0, hcl, hl, cont_c h2 hL (p := fun l => !isL n l) (fun l base => are1_c hget_0), h3, Chb (show wrF 21 = false from rfl), show C.wr 21 = false from rfl, areL, Bool.not_not]
theorem leGood_c {n : Int} {s : Value} {L : List (Int × Int)} (hs : SL H s L) (hL : L.length < 1000) : cal C base 33 [gi n, s] H = some (bo (areL n L), H) := by
  refine cal_fn Try.func33 rfl rfl (res := [.tmp 4]) rfl Try.ntmps33 1001 base _ H ?_
  obtain ⟨a, c, rfl⟩ := hs.sl
  have hcl : ((60 : Int) < (L.length : Int)) = (60 < L.length) := by simp; omega
  cases h : areF n
  · simp only [go_sem, caFriends_c, h, show C.wr 33 = false from rfl, Chb (show wrF 33 = false from rfl), areL]
  cases hl : decide (60 < L.length)
  · simp only [go_sem, caFriends_c, h, hcl, hl, show C.wr 33 = false from rfl]
    rw [fin_loopk [18, 19, 20, 6, 21, 22, 23, 24, 4, 25] rfl]
    refine lp_run [17] (fun j vs H' => ∃ i : Nat, i + j = L.length ∧ vs = [gi i] ∧ (∀ k (h : k < L.length), k < i → isL n L[k] = true) ∧ Keeps H.length H H') ?_ L.length [gi 0] (by omega) (by simp only [go_sem]) ⟨0, by omega, rfl, fun k _ h => absurd h (Nat.not_lt_zero _), .refl _ _⟩
    have hl2 : L.length ≤ 60 := by have := of_decide_eq_false hl; omega
    rintro j m vs H' ⟨i, hij, rfl, hno, hk⟩ ih
    cases hlt : decide ((i : Int) < (L.length : Int))
    · simp only [go_sem, hlt, Chb (show wrF 33 = false from rfl), take_keeps hk]
      have : L.all (isL n) = true := by
        rw [List.all_eq_true]
        intro x hx
        obtain ⟨k, hk, rfl⟩ := List.getElem_of_mem hx
        exact hno k hk (by have := of_decide_eq_false hlt; omega)
      rw [areL, h, this, decide_eq_true hl2]; rfl
    · have hi : i < L.length := by have := of_decide_eq_true hlt; omega
      obtain ⟨b, o, T, cs, h1, h2, h3⟩ := SL.el (hs.keep hk) hi
      have hk2 : Keeps H.length H (H' ++ [some (66, [gi L[i].1, gi L[i].2])]) := hk.trans (.append hk.1 _)
      have h4 := leLetter_c (base := H.length) (n := n) (l := L[i]) (H := H' ++ [some (66, [gi L[i].1, gi L[i].2])])
      rw [lv] at h3 h4
      cases hpi : isL n L[i]
      · simp only [go_sem, hlt, h1, h2, h3, st66 hk.1, hget_0, h4, hpi, Chb (show wrF 33 = false from rfl), take_keeps hk2]
        have : L.all (isL n) = false := by
          rw [List.all_eq_false]; exact ⟨_, List.getElem_mem hi, by rw [hpi]; decide⟩
        rw [areL, this, Bool.and_false]
      · simp only [go_sem, hlt, h1, h2, h3, st66 hk.1, hget_0, h4, hpi]
        rw [wrapN (by omega)]
        refine ih (j - 1) [gi (i + 1 : Nat)] _ _ (by omega) (by simp only [go_sem]) ⟨i + 1, by omega, rfl, fun k hk hki => ?_, hk2⟩
        by_cases e : k = i
        · subst e; exact hpi
        · exact hno k hk (by omega)
  · simp only [go_sem, caFriends_c, h, hcl, hl, show C.wr 33 = false from rfl, Chb (show wrF 33 = false from rfl)]
    have : decide (L.length ≤ 60) = false := decide_eq_false (by have := of_decide_eq_true hl; omega)
    rw [areL, this, Bool.and_false, Bool.false_and]
theorem areL2_c {n : Int} {s : Value} {L : List (Int × Int)} (hs : SL H s L) (hL : L.length < 1000) : cal C base 22 [gi n, s] H = some (bo (areL n L), H) := by
  refine cal_fn Try.func22 rfl rfl (res := [.tmp 4]) rfl Try.ntmps22 1 base _ H ?_
  simp only [go_sem, leGood_c hs hL, Chb (show wrF 22 = false from rfl)]
end T

open Go Go.Am
namespace T
open Go.Proofs
set_option maxRecDepth 100000
set_option maxHeartbeats 4000000
set_option linter.unusedSimpArgs false
variable {base : Nat} {H : Heap}
theorem sh16 (i : Nat) (h : i < 16) : IntKind.u16.wrap (1 * 2 ^ (min ((i : Int)).toNat 16)) = ((2 ^ i : Nat) : Int) := by
  have : min (i : Int).toNat 16 = i := by omega
  rw [this]
  rcases (show i = 0 ∨ i = 1 ∨ i = 2 ∨ i = 3 ∨ i = 4 ∨ i = 5 ∨ i = 6 ∨ i = 7 ∨ i = 8 ∨ i = 9 ∨ i = 10 ∨ i = 11 ∨ i = 12 ∨ i = 13 ∨ i = 14 ∨ i = 15 by omega) with h | h | h | h | h | h | h | h | h | h | h | h | h | h | h | h <;> subst h <;> decide
theorem sh64 (i : Nat) (h : i < 16) : IntKind.i64.wrap (1 * 2 ^ (min ((i : Int)).toNat 64)) = ((2 ^ i : Nat) : Int) := by
  have : min (i : Int).toNat 64 = i := by omega
  rw [this]
  rcases (show i = 0 ∨ i = 1 ∨ i = 2 ∨ i = 3 ∨ i = 4 ∨ i = 5 ∨ i = 6 ∨ i = 7 ∨ i = 8 ∨ i = 9 ∨ i = 10 ∨ i = 11 ∨ i = 12 ∨ i = 13 ∨ i = 14 ∨ i = 15 by omega) with h | h | h | h | h | h | h | h | h | h | h | h | h | h | h | h <;> subst h <;> decide
theorem or16 {x y : Nat} (hx : x < 1024) (hy : y < 1024) : IntKind.u16.wrap ((BitVec.ofInt 16 (x : Int) ||| BitVec.ofInt 16 (y : Int)).toNat : Int) = ((x ||| y : Nat) : Int) := by
  have h := Nat.or_lt_two_pow (n := 10) hx hy
  have e : (BitVec.ofInt 16 (x : Int) ||| BitVec.ofInt 16 (y : Int)).toNat = x ||| y := by
    rw [BitVec.toNat_or, BitVec.toNat_ofInt, BitVec.toNat_ofInt]
    congr 1 <;> omega
  rw [e]; simp only [IntKind.wrap, IntKind.bits, IntKind.signed, Bool.false_and, Bool.false_eq_true, if_false]; omega
theorem or64 {x y : Nat} (hx : x < 1024) (hy : y < 1024) : IntKind.i64.wrap ((BitVec.ofInt 64 (x : Int) ||| BitVec.ofInt 64 (y : Int)).toNat : Int) = ((x ||| y : Nat) : Int) := by
  have h := Nat.or_lt_two_pow (n := 10) hx hy
  have e : (BitVec.ofInt 64 (x : Int) ||| BitVec.ofInt 64 (y : Int)).toNat = x ||| y := by
    rw [BitVec.toNat_or, BitVec.toNat_ofInt, BitVec.toNat_ofInt]
    congr 1 <;> omega
  rw [e, IntKind.wrap_i64]; omega
theorem bor16 {P : Program} {ρ : Env} {o : Oper} {x y : Nat} (hx : x < 1024) (hy : y < 1024) : bin2 P ρ o H .or (.int .u16 (x : Int)) (.int .u16 (y : Int)) = some (.int .u16 ((x ||| y : Nat) : Int), H) := by
  rw [b_or]
  exact congrArg (fun z => some (Value.int .u16 z, H)) (or16 hx hy)
theorem bor64 {P : Program} {ρ : Env} {o : Oper} {x y : Nat} (hx : x < 1024) (hy : y < 1024) : bin2 P ρ o H .or (.int .i64 (x : Int)) (.int .i64 (y : Int)) = some (.int .i64 ((x ||| y : Nat) : Int), H) := by
  rw [b_or]
  exact congrArg (fun z => some (Value.int .i64 z, H)) (or64 hx hy)
def sN (n : Nat) : List Nat := (List.range n).map (2 ^ ·)
def nu (B : List Nat) : List Value := B.map fun x : Nat => .int .u16 (x : Int)
def ni (B : List Nat) : List Value := B.map fun x : Nat => gi x

theorem first_c (n : Nat) (hn : n ≤ 10) (H : Heap) (base : Nat) : Ok (cal C base 57 [gi n] H) fun s H' => ∃ F, H' = H ++ F ∧ OwnL H.length H' 62 1 s n (nu (sN n)) := by
  refine ok_fn Try.func57 rfl rfl (res := [.tmp 2]) rfl Try.ntmps57 20 base _ H ?_
  simp only [go_sem, show C.wr 57 = false from rfl, bs_nil ts52]
  rw [fin_loopk [8, 9, 4, 10, 11, 12, 13, 14, 15] rfl]
  refine lp_ok [3, 7] (fun j vs H' => ∃ (i : Nat) (s : Value), i + j = n ∧ vs = [s, gi i] ∧ OwnL H.length H' 62 1 s i (nu (sN i)) ∧ Keeps H.length H H') n [.slice (some ⟨H.length, 0, some 1⟩) 0 0, gi 0] ?_ (by omega) (by simp only [go_sem]) ⟨0, _, by omega, rfl, .empty _ _ _ (Nat.le_refl _), .append (Nat.le_refl _) _⟩
  rintro j m vs H' ⟨i, s, hij, rfl, ho, hk⟩ ih
  cases hlt : decide ((i : Int) < (n : Int))
  · obtain rfl : i = n := by have := of_decide_eq_false hlt; omega
    obtain ⟨s', F, old, e, ho'⟩ := ho.hand (P := C.P) (acc := H) (l := []) (show tySize C.P 62 = some 1 from rfl) (by simp [isG, sc, nu])
    simp only [go_sem, hlt, Chb (show wrF 57 = false from rfl), take_keeps hk, e]
    exact .some ⟨F, rfl, ho'⟩
  · have hl2 : i < n := by have := of_decide_eq_true hlt; omega
    have hap := ho.app (base := H.length) ts52 (Nat.le_refl _) (ys := [.int .u16 ((2 ^ i : Nat) : Int)]) rfl (by unfold room; omega)
    simp only [go_sem, hlt, b_shl (Int.natCast_nonneg _), sh16 i (by omega), bs_one ts52 (x := Value.int .u16 _) rfl rfl, eo_append (show notInt C.P 52 = true from rfl), hap]
    rw [wrapN (by omega)]
    refine ih (j - 1) [.slice (some ⟨H'.length + 1, 0, some 1⟩) (i + 1) (i + 1), gi (i + 1 : Nat)] _ _ (by omega) (by simp only [go_sem]) ⟨i + 1, _, by omega, rfl, ?_, ho.keeps hk (Nat.le_refl _)⟩
    rw [show nu (sN (i + 1)) = nu (sN i) ++ [.int .u16 ((2 ^ i : Nat) : Int)] by simp [nu, sN, List.range_succ]]
    exact ho.next hk.1 rfl

theorem caStart_c (n : Nat) (hn : n ≤ 10) (H : Heap) (base : Nat) : Ok (cal C base 62 [gi n] H) fun s H' => ∃ F, H' = H ++ F ∧ OwnL H.length H' 3 1 s n (ni (sN n)) := by
  refine ok_fn Try.func62 rfl rfl (res := [.tmp 2]) rfl Try.ntmps62 20 base _ H ?_
  simp only [go_sem, show C.wr 62 = false from rfl, bs_nil ts34]
  rw [fin_loopk [5, 6, 7, 10, 11, 12, 13, 14, 8, 9] rfl]
  refine lp_ok [3, 4] (fun j vs H' => ∃ (i : Nat) (s : Value), i + j = n ∧ vs = [s, gi i] ∧ OwnL H.length H' 3 1 s i (ni (sN i)) ∧ Keeps H.length H H') n [.slice none 0 0, gi 0] ?_ (by omega) (by simp only [go_sem]) ⟨0, _, by omega, rfl, .nil _ _ _ _, .refl _ _⟩
  rintro j m vs H' ⟨i, s, hij, rfl, ho, hk⟩ ih
  cases hlt : decide ((i : Int) < (n : Int))
  · obtain rfl : i = n := by have := of_decide_eq_false hlt; omega
    obtain ⟨s', F, old, e, ho'⟩ := ho.hand (P := C.P) (acc := H) (l := []) (show tySize C.P 3 = some 1 from rfl) (by simp [isG, sc, ni])
    simp only [go_sem, hlt, Chb (show wrF 62 = false from rfl), take_keeps hk, e]
    exact .some ⟨F, rfl, ho'⟩
  · have hl2 : i < n := by have := of_decide_eq_true hlt; omega
    have hap := ho.app (base := H.length) ts34 (Nat.le_refl _) (ys := [.int .i64 ((2 ^ i : Nat) : Int)]) rfl (by unfold room; omega)
    simp only [go_sem, hlt, b_shl (Int.natCast_nonneg _), sh64 i (by omega), bs_one ts34 (x := Value.int .i64 _) rfl rfl, eo_append (show notInt C.P 34 = true from rfl), hap]
    rw [wrapN (by omega)]
    refine ih (j - 1) [.slice (some ⟨H'.length + 1, 0, some 1⟩) (i + 1) (i + 1), gi (i + 1 : Nat)] _ _ (by omega) (by simp only [go_sem]) ⟨i + 1, _, by omega, rfl, ?_, ho.keeps hk (Nat.le_refl _)⟩
    rw [show ni (sN (i + 1)) = ni (sN i) ++ [.int .i64 ((2 ^ i : Nat) : Int)] by simp [ni, sN, List.range_succ]]
    exact ho.next hk.1 rfl
end T

