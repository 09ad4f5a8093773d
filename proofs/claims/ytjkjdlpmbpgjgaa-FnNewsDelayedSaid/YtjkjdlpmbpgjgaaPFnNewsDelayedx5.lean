/- Printed by a program of this session (wip/pp) over the kit's print, for FnNewsDelayed. No conditions beyond those that each theorem names. -/
import Derived.Test.YtjkjdlpmbpgjgaaPFnNewsDelayedx0
import Derived.Test.YtjkjdlpmbpgjgaaPFnNewsDelayedx2
import Derived.Test.YtjkjdlpmbpgjgaaPFnNewsDelayedx4
namespace Go.Proofs.Ytjkjdlpmbpgjgaa.PFnNewsDelayed
open Go.RowKit Go.Proofs.YtjkjdlpmbpgjgaaW.PrintWords Go.Proofs.YtjkjdlpmbpgjgaaW.PrintLast Go.Proofs.YtjkjdlpmbpgjgaaW.PrintMore
attribute [local go_sem] max2_int min2_int max_two min_two max_three min_three max_four min_four   -- for this text's walks alone
set_option linter.unusedVariables false
set_option linter.unusedSimpArgs false

/-! ### spec_l1Cur_delayed: function 41, by hand -/
theorem infSend : (Try.prog.info? 36).map (fun i => (i.zero, i.size, i.bytes)) = some (some (.agg #[(.int .i64 0), (.int .i64 0), (.int .i64 0)]), 3, 24) := by kernel_rfl
theorem infIntD : (Try.prog.info? 3).map (fun i => (i.zero, i.size, i.bytes)) = some (some (.int .i64 0), 1, 8) := by kernel_rfl
def byteOk (l : List Int) : Bool := l.all fun y => decide (0 ≤ y ∧ y ≤ 255)
theorem byte_at {l : List Int} (h : byteOk l = true) (a : Int) : 0 ≤ rd l a ∧ rd l a ≤ 255 := by
  unfold rd
  rw [List.getD_eq_getElem?_getD]
  cases hq : l[a.toNat]? with
  | none => exact ⟨Int.le_refl _, by decide⟩
  | some y => exact of_decide_eq_true (List.all_eq_true.1 h y (List.mem_of_getElem? hq))
theorem byte_w {x : Int} (h : 0 ≤ x ∧ x ≤ 255) : 0 ≤ wrap64 x ∧ wrap64 x ≤ 255 := by unfold wrap64; omega
theorem wraps_u64 (n : Int) (h0 : 0 ≤ n) (h1 : n < 2 ^ 64) : IntKind.u64.wrap n = n := by
  show n % 18446744073709551616 = n
  omega
theorem u64_range (x : Int) : 0 ≤ IntKind.u64.wrap x ∧ IntKind.u64.wrap x < 2 ^ 64 := by
  show 0 ≤ x % 18446744073709551616 ∧ x % 18446744073709551616 < 2 ^ 64
  omega
theorem bits_byte (x : Int) : 0 ≤ wrap64 (Go.bits .and .u64 (IntKind.u64.wrap x / 1099511627776) 255) ∧ wrap64 (Go.bits .and .u64 (IntKind.u64.wrap x / 1099511627776) 255) ≤ 255 := by
  have h := u64_range x
  have e : Go.bits .and .u64 (IntKind.u64.wrap x / 1099511627776) 255 = (IntKind.u64.wrap x / 1099511627776) % 256 := bits_mask .u64 64 (by decide) wraps_u64 8 (by decide) _ (by omega) (by omega)
  rw [e]
  exact byte_w (by omega)
theorem next_ok {l0 : List Int} (hb : byteOk l0 = true) (a s : Int) (h0 : 0 ≤ a) (h1 : a ≤ 1000000) : ∃ b s', spec_l1Cur_next.f l0 a s = some (b, a + 1, s') ∧ 0 ≤ b ∧ b ≤ 255 := by
  have hw : wrap64 (a + 1) = a + 1 := by unfold wrap64; omega
  have hB := byte_w (byte_at hb a)
  unfold spec_l1Cur_next.f
  rw [hw]
  by_cases h2 : a < (l0.length : Int)
  · rw [if_pos h2, if_pos h0, if_pos (by omega)]
    exact ⟨_, _, rfl, hB⟩
  · rw [if_neg h2, if_neg (by omega)]
    exact ⟨_, _, rfl, bits_byte _⟩
theorem pick_ok {l0 : List Int} (hb : byteOk l0 = true) (a s n : Int) (h0 : 0 ≤ a) (h1 : a ≤ 900000) (hn : 1 ≤ n) (hn2 : n ≤ 200) : ∃ r a' s', spec_l1Cur_pick.f l0 a s n = some (r, a', s') ∧ 0 ≤ r ∧ r < n ∧ a ≤ a' ∧ a' ≤ a + 1 := by
  unfold spec_l1Cur_pick.f
  by_cases h2 : n ≤ 1
  · rw [if_pos h2]
    exact ⟨_, _, _, rfl, Int.le_refl _, by omega, Int.le_refl _, by omega⟩
  · obtain ⟨b, s', hx, hb0, hb1⟩ := next_ok hb a s h0 (by omega)
    rw [if_neg h2, hx, Option.bind_some, if_neg (by omega), if_neg (by omega)]
    refine ⟨_, _, _, rfl, ?_, ?_, (by show a ≤ a + 1; omega), (by show a + 1 ≤ a + 1; omega)⟩
    · exact Int.tmod_nonneg _ hb0
    · exact Int.tmod_lt_of_pos _ (by omega)
/-- the state, somewhere in the bytes -/
def CurOk (w0 W : World) (g : Nat) (l0 : List Int) (N : Nat) : Prop := ∃ a s : Int, IsS40 w0 W g l0 a s ∧ 0 ≤ a ∧ a ≤ (N : Int)
section
variable {w0 W W1 : World} {g : Nat} {l0 : List Int} {N : Nat}
theorem CurOk.below (h : CurOk w0 W g l0 N) (hw : Below W.heap.size W W1) : CurOk w0 W1 g l0 N := by
  obtain ⟨a, s, h, r⟩ := h
  exact ⟨a, s, h.below hw, r⟩
theorem CurOk.alloc (h : CurOk w0 W g l0 N) (o : Obj) : CurOk w0 (W.alloc o) g l0 N := h.below (below_alloc (Below.refl _ _) o)
theorem CurOk.grown (h : CurOk w0 W g l0 N) {row : Option Nat} (hw : W.grownBy W1 row) (hne : some g ≠ row) : CurOk w0 W1 g l0 N := by
  obtain ⟨a, s, h, r⟩ := h
  exact ⟨a, s, h.grown hw hne, r⟩
theorem CurOk.lt (h : CurOk w0 W g l0 N) : g < W.heap.size := by
  obtain ⟨a, s, h, _⟩ := h
  exact h.lt
theorem CurOk.fresh (h : CurOk w0 W g l0 N) : ∀ k, W.heap.size ≤ k → k ≠ g := fun k hk e => by have := h.lt; omega
theorem CurOk.mono (h : CurOk w0 W g l0 N) {M : Nat} (hM : N ≤ M) : CurOk w0 W g l0 M := by
  obtain ⟨a, s, h, h0, h1⟩ := h
  exact ⟨a, s, h, h0, by omega⟩
end
theorem pick_any (g : Nat) (l0 : List Int) (n : Int) (N : Nat) (w0 w : World) (hb : byteOk l0 = true) (hc : CurOk w0 w g l0 N) (hN : N ≤ 900000) (hn : 1 ≤ n) (hn2 : n ≤ 200) (hB : Below w0.heap.size w0 w) :
    Calls Try.prog 40 #[.pointer (some ⟨g, 0, none⟩), .int .i64 n] w fun e w' => ∃ r : Int, e = .returned (.int .i64 r) ∧ 0 ≤ r ∧ r < n ∧ CurOk w0 w' g l0 (N + 1) ∧ Below w0.heap.size w0 w' ∧ KeepBut w w' g none := by
  obtain ⟨a, s, hI, h0, h1⟩ := hc
  obtain ⟨r, a', s', hf, r0, r1, a0, a1⟩ := pick_ok hb a s n h0 (by omega) hn hn2
  refine (spec_l1Cur_pick.calls g l0 a s n r a' s' w0 w hI hB hf).mono ?_
  rintro e w' ⟨he, hI', hB', hK⟩
  exact ⟨r, he, r0, r1, ⟨a', s', hI', by omega, by omega⟩, hB', hK⟩
theorem one_any (g : Nat) (l0 : List Int) (n : Int) (N : Nat) (w0 w : World) (hb : byteOk l0 = true) (hc : CurOk w0 w g l0 N) (hN : N ≤ 900000) (hn : 1 ≤ n) (hn2 : n ≤ 200) (hB : Below w0.heap.size w0 w) :
    Calls Try.prog 49 #[.pointer (some ⟨g, 0, none⟩), .int .i64 n] w fun e w' => ∃ r : Bool, e = .returned (.bool r) ∧ CurOk w0 w' g l0 (N + 1) ∧ Below w0.heap.size w0 w' ∧ KeepBut w w' g none := by
  obtain ⟨a, s, hI, h0, h1⟩ := hc
  obtain ⟨r, a', s', hf, r0, r1, a0, a1⟩ := pick_ok hb a s n h0 (by omega) hn hn2
  refine (spec_l1Cur_one.calls g l0 a s n (r == 0) a' s' w0 w hI hB (by unfold spec_l1Cur_one.f; rw [hf]; rfl)).mono ?_
  rintro e w' ⟨he, hI', hB', hK⟩
  exact ⟨_, he, ⟨a', s', hI', by omega, by omega⟩, hB', hK⟩
theorem among_any (g : Nat) (l0 xs : List Int) (gx : Nat) (N : Nat) (w0 w : World) (hb : byteOk l0 = true) (hc : CurOk w0 w g l0 N) (hN : N ≤ 900000) (hn : 1 ≤ xs.length) (hn2 : xs.length ≤ 200) (hB : Below w0.heap.size w0 w) (hx : w.heap[gx]? = some (.cells (xs.map (Value.int .i64)).toArray 3 (0, 0))) (hne : gx ≠ g) :
    Calls Try.prog 22 #[.pointer (some ⟨g, 0, none⟩), .slice (some ⟨gx, 0, none⟩) xs.length xs.length] w fun e w' => ∃ r : Int, e = .returned (.int .i64 r) ∧ CurOk w0 w' g l0 (N + 1) ∧ Below w0.heap.size w0 w' ∧ KeepBut w w' g none := by
  obtain ⟨a, s, hI, h0, h1⟩ := hc
  obtain ⟨r, a', s', hf, r0, r1, a0, a1⟩ := pick_ok hb a s (xs.length : Int) h0 (by omega) (by omega) (by omega)
  refine (spec_l1Cur_among.calls g l0 a s (some ⟨gx, 0, none⟩) xs.length xs (rd xs r) a' s' w0 w hI hB (lit_C xs hx (by omega)) (Nat.le_refl _) (fun ad he _ => by cases he; exact hne) (by unfold spec_l1Cur_among.f; rw [hf, Option.bind_some, if_pos r0, if_pos r1])).mono ?_
  rintro e w' ⟨he, hI', hB', hK⟩
  exact ⟨_, he, ⟨a', s', hI', by omega, by omega⟩, hB', hK⟩
theorem quick_all : ∀ (i : Fin 4) (j : Fin 8), (spec_deQuick.f 60 (((i : Nat) + 1 : Nat) : Int) (((j : Nat) + 1 : Nat) : Int)).isSome = true := by decide +kernel
theorem send_cells {W : World} {g i : Nat} {s : S36} (h0 : W.cell? ⟨g, i * 3, none⟩ = some (.int .i64 s.f0)) (h1 : W.cell? ⟨g, i * 3 + 1, none⟩ = some (.int .i64 s.f1)) (h2 : W.cell? ⟨g, i * 3 + 2, none⟩ = some (.int .i64 s.f2)) :
    ∀ (j : Nat) (u : Value), [Value.int .i64 s.f0, .int .i64 s.f1, .int .i64 s.f2][j]? = some u → W.cell? ⟨g, ((i : Nat) : Int).toNat * k36.sz + j, none⟩ = some u := by
  intro j u h
  rw [Int.toNat_natCast]
  match j, h with
  | 0, h => cases h; exact h0
  | 1, h => cases h; exact h1
  | 2, h => cases h; exact h2
/-- the delay and the number of people that are drawn (sends are drawn, too) -/
def delD (l0 : List Int) (a s : Int) : Option (Int × Int) :=
  (spec_l1Cur_pick.f l0 a s 4).bind fun x => (spec_l1Cur_pick.f l0 x.2.1 x.2.2 8).bind fun y => (spec_l1Cur_one.f l0 y.2.1 y.2.2 14).bind fun z =>
    if z.1 = true then (spec_l1Cur_among.f l0 z.2.1 z.2.2 [0, 1, 10, 11, -1]).bind fun u => (spec_l1Cur_among.f l0 u.2.1 u.2.2 [0, 1, 40, 41, -1]).bind fun v => some (u.1, v.1) else some (1 + x.1, 1 + y.1)
set_option maxHeartbeats 4000000 in
set_option maxRecDepth 100000 in
theorem delayed_any (g : Nat) (l0 : List Int) (r1 r2 : Int) (w0 w : World) (hb : byteOk l0 = true) (hI : IsS40 w0 w g l0 0 0) (hB : Below w0.heap.size w0 w) (h : delD l0 0 0 = some (r1, r2)) :
    Calls Try.prog 41 #[.pointer (some ⟨g, 0, none⟩)] w fun e w' => ∃ v : Value, e = .returned (.tuple #[.int .i64 r1, .int .i64 r2, v]) ∧ Below w0.heap.size w0 w' := by
  have hu40 := Try.underlying40
  obtain ⟨d, a1, s1, h1, d0, d1, a10, a11⟩ := pick_ok hb 0 0 4 (by omega) (by omega) (by omega) (by omega)
  obtain ⟨p, a2, s2, h2, p0, p1, a20, a21⟩ := pick_ok hb a1 s1 8 (by omega) (by omega) (by omega) (by omega)
  obtain ⟨q, a3, s3, h3, q0, q1, a30, a31⟩ := pick_ok hb a2 s2 14 (by omega) (by omega) (by omega) (by omega)
  have ho : spec_l1Cur_one.f l0 a2 s2 14 = some (q == 0, a3, s3) := by unfold spec_l1Cur_one.f; rw [h3]; rfl
  unfold delD at h
  rw [h1, Option.bind_some, h2, Option.bind_some, ho, Option.bind_some] at h
  simp only at h
  have H1 := Aside0.mk h1
  have H2 := Aside0.mk h2
  have H3 := Aside0.mk ho
  have HI := Aside0.mk hI
  have HB := Aside0.mk hB
  clear h1 h2 ho h3 hI hB
  obtain ⟨b, hbq⟩ : ∃ b, (q == 0) = b := ⟨_, rfl⟩
  rw [hbq] at h H3
  clear hbq
  cases b with
  | true =>
    rw [if_pos rfl] at h
    obtain ⟨⟨u, a4, s4⟩, h4, h⟩ := Option.bind_eq_some_iff.1 h
    obtain ⟨⟨v, a5, s5⟩, h5, h⟩ := Option.bind_eq_some_iff.1 h
    simp only [Option.some.injEq, Prod.mk.injEq] at h h5
    obtain ⟨rfl, rfl⟩ := h
    have H4 := Aside0.mk h4
    have H5 := Aside0.mk h5
    clear h4 h5
    go_enter Try.func41, Try.ntmps41
    go_wp2_with fail
    refine (spec_l1Cur_pick.calls g l0 0 0 4 d a1 s1 w0 _ HI.out HB.out H1.out).mono ?_
    rintro e w1 ⟨rfl, hI, hB, _⟩
    replace HI := Aside0.mk hI
    replace HB := Aside0.mk hB
    clear hI hB
    go_wp2_with fail
    refine (spec_l1Cur_pick.calls g l0 a1 s1 8 p a2 s2 w0 _ HI.out HB.out H2.out).mono ?_
    rintro e w2 ⟨rfl, hI, hB, _⟩
    replace HI := Aside0.mk hI
    replace HB := Aside0.mk hB
    clear hI hB
    go_wp2_with fail
    refine (spec_l1Cur_one.calls g l0 a2 s2 14 true a3 s3 w0 _ HI.out HB.out H3.out).mono ?_
    rintro e w3 ⟨rfl, hI, hB, _⟩
    have hlt := hI.lt
    replace HI := Aside0.mk hI
    replace HB := Aside0.mk hB
    clear hI hB
    go_wp2_with fail
    refine (spec_l1Cur_among.calls g l0 a3 s3 (some ⟨w3.heap.size, 0, none⟩) 5 [0, 1, 10, 11, -1] u a4 s4 w0 _ (HI.out.alloc _) (below_alloc HB.out _) (lit_C [0, 1, 10, 11, -1] (by simpa using lit_new w3 [0, 1, 10, 11, -1]) (by decide)) (by decide) (fun ad he _ => by cases he; simp; omega) H4.out).mono ?_
    rintro e w4 ⟨rfl, hI, hB, _⟩
    have hlt2 := hI.lt
    replace HI := Aside0.mk hI
    replace HB := Aside0.mk hB
    clear hI hB
    go_wp2_with fail
    refine (spec_l1Cur_among.calls g l0 a4 s4 (some ⟨w4.heap.size, 0, none⟩) 5 [0, 1, 40, 41, -1] v a5 s5 w0 _ (HI.out.alloc _) (below_alloc HB.out _) (lit_C [0, 1, 40, 41, -1] (by simpa using lit_new w4 [0, 1, 40, 41, -1]) (by decide)) (by decide) (fun ad he _ => by cases he; simp; omega) H5.out).mono ?_
    rintro e w5 ⟨rfl, hI, hB, _⟩
    replace HB := Aside0.mk hB
    clear hI hB
    go_wp2
    go_ret3
    exact ⟨_, rfl, HB.out⟩
  | false =>
    rw [if_neg (by decide)] at h
    simp only [Option.some.injEq, Prod.mk.injEq] at h
    obtain ⟨rfl, rfl⟩ := h
    have hd1 : IntKind.i64.wrap (1 + d) = 1 + d := by rw [IntKind.wrap_i64]; omega
    have hp1 : IntKind.i64.wrap (1 + p) = 1 + p := by rw [IntKind.wrap_i64]; omega
    go_enter Try.func41, Try.ntmps41
    go_wp2_with fail
    refine (spec_l1Cur_pick.calls g l0 0 0 4 d a1 s1 w0 _ HI.out HB.out H1.out).mono ?_
    rintro e w1 ⟨rfl, hI, hB, _⟩
    replace HI := Aside0.mk hI
    replace HB := Aside0.mk hB
    clear hI hB
    go_wp2_with fail
    refine (spec_l1Cur_pick.calls g l0 a1 s1 8 p a2 s2 w0 _ HI.out HB.out H2.out).mono ?_
    rintro e w2 ⟨rfl, hI, hB, _⟩
    replace HI := Aside0.mk hI
    replace HB := Aside0.mk hB
    clear hI hB
    go_wp2_with fail
    refine (spec_l1Cur_one.calls g l0 a2 s2 14 false a3 s3 w0 _ HI.out HB.out H3.out).mono ?_
    rintro e w3 ⟨rfl, hI, hB, _⟩
    have HC : Aside0 (CurOk w0 w3 g l0 10) := ⟨a3, s3, hI, by omega, by omega⟩
    replace HB := Aside0.mk hB
    clear hI hB HI H1 H2 H3
    go_wp2_with fail
    refine (one_any g l0 3 10 w0 _ hb HC.out (by omega) (by omega) (by omega) HB.out).mono ?_
    rintro e w4 ⟨b2, rfl, hC, hB, _⟩
    replace HC := Aside0.mk hC
    replace HB := Aside0.mk hB
    clear hC hB
    cases b2 with
    | true =>
      obtain ⟨D, rfl⟩ := Int.eq_ofNat_of_zero_le d0
      obtain ⟨Q, rfl⟩ := Int.eq_ofNat_of_zero_le p0
      obtain ⟨sq, hsq⟩ := Option.isSome_iff_exists.1 (quick_all ⟨D, by omega⟩ ⟨Q, by omega⟩)
      have e1 : (((D : Nat) + 1 : Nat) : Int) = 1 + (D : Int) := by omega
      have e2 : (((Q : Nat) + 1 : Nat) : Int) = 1 + (Q : Int) := by omega
      simp only [e1, e2] at hsq
      have HSQ := Aside0.mk hsq
      clear hsq e1 e2 hd1 hp1 a10 a11 a20 a21 a30 a31
      go_wp2_with (go_at_call 37; refine (spec_deQuick.calls 60 (1 + (D : Int)) (1 + (Q : Int)) sq _ HSQ.out).mono ?_; rintro e w5 ⟨v, rfl, _, hB⟩; have HB5 := Aside0.mk (below_step HB.out hB); clear hB)
      go_ret3
      exact ⟨_, rfl, HB5.out⟩
    | false =>
      clear hd1 hp1 a10 a11 a20 a21 a30 a31 q0 q1
      have HY0 : Aside0 (Kd.R (Kd.int .i64) 3 (w4.alloc (.cells #[.int .i64 0] 3)) w0.heap.size (fun k => k ≠ g) (.slice (some ⟨w4.heap.size, 0, none⟩) 1 1) [0]) := ⟨Kd.R_of_own (xs := [(0 : Int)]) ⟨by simp [encs], .inr ⟨w4.heap.size, 1, _, rfl, HB.out.size, by simpa using lit_new w4 [0], Nat.le_refl _, by unfold maxLen; omega, by simp, by simp [encs]⟩⟩ (fun k hk => by simp only [Value.ownBlock, Option.some.injEq] at hk; subst hk; exact HC.out.fresh _ (Nat.le_refl _))⟩
      go_wp2
      go_loopw [7, 8, 9] (fun v7 v8 v9 wr => ∃ (xs : List S36) (ys : List Int), 1 ≤ ys.length ∧ ys.length ≤ 9 ∧ v9 = .int .i64 ys.length ∧ xs.length + 1 ≤ ys.length ∧ Aside0 (Kd.R k36 36 wr w0.heap.size (fun k => k ≠ g) v7 xs) ∧ Aside0 (Kd.R (Kd.int .i64) 3 wr w0.heap.size (fun k => k ≠ g) v8 ys) ∧ Aside0 (CurOk w0 wr g l0 (20 * ys.length)) ∧ Aside0 (Below w0.heap.size w0 wr)) (fun _ _ v9 _ => 10 - (intOf v9).toNat)
      case atStart => exact ⟨[], [0], Nat.le_refl _, by decide, rfl, Nat.le_refl _, ⟨Kd.R_nil _ _ _ _ _⟩, HY0, ⟨(HC.out.alloc _).mono (by decide)⟩, ⟨below_alloc HB.out _⟩⟩
      case round =>
        clear HY0 HC HB
        obtain ⟨xs, ys, hy1, hy9, rfl, hxy, HX, HY, HC, HB⟩ := hrel
        by_cases hto : (ys.length : Int) < 1 + p
        · have n1 : 20 * ys.length ≤ 900000 := by omega
          have hyl8 : ys.length ≤ 8 := by omega
          go_wp2_with fail
          refine (one_any g l0 12 (20 * ys.length) w0 _ hb HC.out n1 (by omega) (by omega) HB.out).mono ?_
          rintro e v0 ⟨b3, rfl, hC, hB, hK⟩
          replace HX := Aside0.mk (Kd.R_keep HX.out hK (fun _ hk => hk))
          replace HY := Aside0.mk (Kd.R_keep HY.out hK (fun _ hk => hk))
          replace HC := Aside0.mk hC
          replace HB := Aside0.mk hB
          clear hC hB hK
          cases b3 with
          | true =>
            replace HC := Aside0.mk (HC.out.mono (show _ ≤ 190 by omega))
            have hxl : xs.length ≤ 8 := by omega
            clear HY
            go_wp2_with fail
            refine (pick_any g l0 10 190 w0 _ hb HC.out (by omega) (by omega) (by omega) HB.out).mono ?_
            rintro e v1 ⟨k, rfl, k0, k1, hC, hB, hK⟩
            replace HX := Aside0.mk (Kd.R_keep HX.out hK (fun _ hk => hk))
            replace HC := Aside0.mk hC
            replace HB := Aside0.mk hB
            clear hC hB hK
            by_cases hk0 : k = 0
            · subst hk0
              go_wp2_with fail
              refine (among_any g l0 [0, 1, -1, 40] v1.heap.size 191 w0 _ hb (HC.out.alloc _) (by omega) (by decide) (by decide) (below_alloc HB.out _) (by simpa using lit_new v1 [0, 1, -1, 40]) (HC.out.fresh _ (Nat.le_refl _))).mono ?_
              rintro e v2 ⟨x1, rfl, hC, hB, hK⟩
              replace HX := Aside0.mk (Kd.R_keep (Kd.R_alloc HX.out _) hK (fun _ hk => hk))
              replace HC := Aside0.mk hC
              replace HB := Aside0.mk hB
              clear hC hB hK
              go_wp2_with fail
              refine (among_any g l0 [0, 1, 2, 40] v2.heap.size 192 w0 _ hb (HC.out.alloc _) (by omega) (by decide) (by decide) (below_alloc HB.out _) (by simpa using lit_new v2 [0, 1, 2, 40]) (HC.out.fresh _ (Nat.le_refl _))).mono ?_
              rintro e v3 ⟨x2, rfl, hC, hB, hK⟩
              replace HX := Aside0.mk (Kd.R_keep (Kd.R_alloc HX.out _) hK (fun _ hk => hk))
              replace HC := Aside0.mk hC
              replace HB := Aside0.mk hB
              clear hC hB hK
              go_wp2_with fail
              refine (among_any g l0 [0, 1, 60, 61] v3.heap.size 193 w0 _ hb (HC.out.alloc _) (by omega) (by decide) (by decide) (below_alloc HB.out _) (by simpa using lit_new v3 [0, 1, 60, 61]) (HC.out.fresh _ (Nat.le_refl _))).mono ?_
              rintro e v4 ⟨x3, rfl, hC, hB, hK⟩
              replace HX := Aside0.mk (Kd.R_keep (Kd.R_alloc HX.out _) hK (fun _ hk => hk))
              replace HC := Aside0.mk hC
              replace HB := Aside0.mk hB
              clear hC hB hK
              go_wp2_with (at_builtin; refine Kd.R_append k36 (w0 := w0) w0.heap.size rfl (.tmp 100) (.tmp 111) 28 36 (.agg #[.int .i64 0, .int .i64 0, .int .i64 0]) 24 rfl Try.underlying28 infSend rfl (by decide) (by decide) _ xs ⟨x1, x2, x3⟩ [.int .i64 x1, .int .i64 x2, .int .i64 x3] (fun k => k ≠ g) (fun _ => False) rfl rfl (k36_mkM _ _ _ ⟨x1, x2, x3⟩) (fun _ hk => hk.elim) HC.out.fresh HX.out HB.out HB.out.size (by omega) ?_; intro u1 v5 h1 h2 h3 h4; have HB5 := Aside0.mk h2; clear h1 h2 h3 h4)
              go_ret3
              exact ⟨_, rfl, HB5.out⟩
            · have hk0b : (k == (0 : Int)) = false := beq_eq_false_iff_ne.mpr hk0
              by_cases hk1 : k = 1
              · subst hk1
                clear hk0 hk0b k0 k1
                obtain ⟨A7, c7, rfl⟩ := Kd.R_slice HX.out
                go_wp2
                go_loopw [117] (fun v117 wr => ∃ (j : Nat) (zs : List S36), j ≤ xs.length ∧ v117 = .int .i64 j ∧ zs.length = xs.length ∧ Aside0 (Kd.R k36 36 wr w0.heap.size (fun k => k ≠ g) (.slice A7 xs.length c7) zs) ∧ Aside0 (CurOk w0 wr g l0 (200 + j)) ∧ Aside0 (Below w0.heap.size w0 wr)) (fun v117 _ => xs.length - (intOf v117).toNat)
                case atStart => exact ⟨0, xs, Nat.zero_le _, rfl, rfl, HX, ⟨HC.out.mono (by omega)⟩, HB⟩
                case round =>
                  clear HX HC HB
                  obtain ⟨j, zs, hj, rfl, hzl, HX, HC, HB⟩ := hrel
                  by_cases hlt : j < xs.length
                  · have p1 : (0 : Int) ≤ (j : Int) := by omega
                    have q1 : (j : Int) < (xs.length : Int) := by omega
                    have hx1 : (1 : Int) ≤ (xs.length : Int) := by omega
                    have hx2 : (xs.length : Int) ≤ 200 := by omega
                    have hx3 : 200 + j ≤ 900000 := by omega
                    go_wp2_with fail
                    refine (pick_any g l0 (xs.length : Int) (200 + j) w0 _ hb HC.out hx3 hx1 hx2 HB.out).mono ?_
                    rintro e v2 ⟨m, rfl, m0, m1, hC, hB, hK⟩
                    obtain ⟨m, rfl⟩ := Int.eq_ofNat_of_zero_le m0
                    replace HX := Aside0.mk (Kd.R_keep HX.out hK (fun _ hk => hk))
                    replace HC := Aside0.mk hC
                    replace HB := Aside0.mk hB
                    clear hC hB hK
                    obtain ⟨g7, c7', hs7⟩ := R_form HX.out (by omega)
                    injection hs7 with hs7 hn7 hc7
                    subst hs7
                    clear hn7 hc7
                    have HXC := Aside0.mk (Kd.R_reads' HX.out)
                    obtain ⟨ad, e1, hy0, hy1, hy2⟩ := at_T36 HXC.out.2.2 (j : Int) p1 (by omega)
                    obtain ⟨ad2, e2, hz0, hz1, hz2⟩ := at_T36 HXC.out.2.2 (m : Int) m0 (by omega)
                    cases e1
                    cases e2
                    have ea : ∀ n, (⟨g7, 0, none⟩ : Addr).add n = ⟨g7, n, none⟩ := fun n => by cases n <;> simp [Addr.add]
                    simp only [Int.toNat_natCast, ea] at hy0 hy1 hy2 hz0 hz1 hz2
                    obtain ⟨s, hs⟩ : ∃ s_, s_ = rd_T36 zs (j : Int) := ⟨_, rfl⟩
                    obtain ⟨r, hr⟩ : ∃ r_, r_ = rd_T36 zs (m : Int) := ⟨_, rfl⟩
                    rw [← hs] at hy0 hy1 hy2
                    rw [← hr] at hz0 hz1 hz2
                    have HEA := Aside0.mk ea
                    have HCC := Aside0.mk (fun (o : Obj) => send_cells (W := v2.alloc o) (g := g7) (i := j) (s := s) (((below_alloc (Below.refl v2.heap.size v2) o).cell (World.block_lt_of_cell? v2 _ hy0)).trans hy0) (((below_alloc (Below.refl v2.heap.size v2) o).cell (World.block_lt_of_cell? v2 _ hy1)).trans hy1) (((below_alloc (Below.refl v2.heap.size v2) o).cell (World.block_lt_of_cell? v2 _ hy2)).trans hy2))
                    have HZL := Aside0.mk hzl
                    have hg7 : g7 < v2.heap.size := Kd.R_lt HX.out g7 rfl
                    have HGG := Aside0.mk (HX.out.1 g7 rfl)
                    have hne7 : ¬ g7 = v2.heap.size := Nat.ne_of_lt hg7
                    have hne8 : ¬ v2.heap.size = g7 := fun h => hne7 h.symm
                    clear hs hr ea hzl
                    go_wp2_with (first
                      | (refine gate_ (.store 36 (.tmp 134) (.tmp 133)) rfl ?_; refine Kd.R_store k36 (w0 := w0) w0.heap.size rfl rfl 36 (.tmp 134) (.tmp 133) rfl 36 (g := g7) (n := xs.length) (cap := c7) (j : Int) 0 zs r (.agg #[.int .i64 r.f0, .int .i64 r.f1, .int .i64 r.f2]) [.int .i64 r.f0, .int .i64 r.f1, .int .i64 r.f2] [.int .i64 s.f0, .int .i64 s.f1, .int .i64 s.f2] (fun k => k ≠ g) (fun _ => False) rfl rfl rfl rfl (by kernel_rfl) (by simp [Value.oneCell']) (Kd.R_alloc HX.out _) p1 q1 rfl (HCC.out _) (show (3 : Nat) ≤ 3 from Nat.le_refl 3) (k36_mkM _ _ _ r) (fun _ hk => hk.elim) (below_alloc HB.out _) ?_; intro w5 h1 h2 h3; have hbox : w5.heap[v2.heap.size]? = some (.cells #[.int .i64 s.f0, .int .i64 s.f1, .int .i64 s.f2] 36 (0, 0)) := blk_grown (heap_alloc_new v2 _) h3 (fun he => hne8 (Option.some.inj he)); have hb0 := (blk_cell hbox 0).trans rfl; have hb1 := (blk_cell hbox 1).trans rfl; have hb2 := (blk_cell hbox 2).trans rfl; obtain ⟨ad3, e3, hq0, hq1, hq2⟩ := at_T36 (Kd.R_reads' h1).2.2 (m : Int) m0 (by rw [List.length_set, HZL.out]; exact m1); cases e3; simp only [Int.toNat_natCast, HEA.out] at hq0 hq1 hq2; have HC5 := Aside0.mk ((HC.out.alloc _).grown h3 (fun he => HGG.out (Option.some.inj he).symm)); have HX5 := Aside0.mk h1; have HB5 := Aside0.mk h2; clear h1 h2 h3 hbox)
                      | (refine gate_ (.store 36 (.tmp 138) (.tmp 137)) rfl ?_; go_loud (refine Kd.R_store k36 (w0 := w0) w0.heap.size rfl rfl 36 (.tmp 138) (.tmp 137) rfl 36 (g := g7) (n := xs.length) (cap := c7) (m : Int) 0 (zs.set ((j : Int).toNat) r) s (.agg #[.int .i64 s.f0, .int .i64 s.f1, .int .i64 s.f2]) [.int .i64 s.f0, .int .i64 s.f1, .int .i64 s.f2] [.int .i64 (rd_T36 (zs.set ((j : Int).toNat) r) (m : Int)).f0, .int .i64 (rd_T36 (zs.set ((j : Int).toNat) r) (m : Int)).f1, .int .i64 (rd_T36 (zs.set ((j : Int).toNat) r) (m : Int)).f2] (fun k => k ≠ g) (fun _ => False) rfl rfl rfl rfl (by kernel_rfl) (by simp [Value.oneCell']) HX5.out m0 m1 rfl (send_cells hq0 hq1 hq2) (show (3 : Nat) ≤ 3 from Nat.le_refl 3) (k36_mkM _ _ _ s) (fun _ hk => hk.elim) HB5.out ?_; intro w6 h1 h2 h3; have HC6 := Aside0.mk (HC5.out.grown h3 (fun he => HGG.out (Option.some.inj he).symm)); have HX6 := Aside0.mk h1; have HB6 := Aside0.mk h2; clear h1 h2 h3)))
                    go_roundw
                    case rel => exact ⟨j + 1, _, by omega, by go_num, by rw [List.length_set, List.length_set]; exact HZL.out, HX6, ⟨HC6.out.mono (by omega)⟩, HB6⟩
                    case measure => simp [intOf]; omega
                  · go_wp2
                    go_ret3
                    exact ⟨_, rfl, HB.out⟩
              · have hk1b : (k == (1 : Int)) = false := beq_eq_false_iff_ne.mpr hk1
                go_wp2
                go_ret3
                exact ⟨_, rfl, HB.out⟩
          | false =>
            obtain ⟨A8, c8, rfl⟩ := Kd.R_slice HY.out
            obtain ⟨A7, c7, rfl⟩ := Kd.R_slice HX.out
            have ht1 : (1 : Int) ≤ (ys.length : Int) := by omega
            have ht2 : (ys.length : Int) ≤ 200 := by omega
            have n2 : 20 * ys.length + 1 ≤ 900000 := by omega
            have n3 : 20 * ys.length + 2 ≤ 900000 := by omega
            go_wp2_with fail
            refine (pick_any g l0 (ys.length : Int) (20 * ys.length + 1) w0 _ hb HC.out n2 ht1 ht2 HB.out).mono ?_
            rintro e v1 ⟨m, rfl, m0, m1, hC, hB, hK⟩
            obtain ⟨m, rfl⟩ := Int.eq_ofNat_of_zero_le m0
            replace HX := Aside0.mk (Kd.R_keep HX.out hK (fun _ hk => hk))
            replace HY := Aside0.mk (Kd.R_keep HY.out hK (fun _ hk => hk))
            replace HC := Aside0.mk hC
            replace HB := Aside0.mk hB
            clear hC hB hK
            have hge : decide ((ys.length : Int) ≤ (m : Int)) = false := decide_eq_false (by omega)
            obtain ⟨ad, e1, hx⟩ := Kd.at_int (Kd.R_reads' HY.out).2.2 (m : Int) m0 m1
            cases e1
            simp only [Int.toNat_natCast] at hx
            go_wp2_with fail
            go_region_held3 (fun W => W.cell? (ad.add m) = some (.int .i64 (rd ys m)))
              (first | assumption)
              (first
                | (go_at_call 40; refine (pick_any g l0 3 (20 * ys.length + 2) w0 _ hb (HC.out.below (below_drew1 (Below.refl _ _))) n3 (by omega) (by omega) (below_drew1 HB.out)).mono ?_; rintro e v2 ⟨m2, rfl, _, _, hC, hB, hK⟩; have HX2 := Aside0.mk (Kd.R_keep (Kd.R_drew HX.out) hK (fun _ hk => hk)); have HY2 := Aside0.mk (Kd.R_keep (Kd.R_drew HY.out) hK (fun _ hk => hk)); obtain ⟨ad_, e1_, hx2⟩ := Kd.at_int (Kd.R_reads' HY2.out).2.2 (m : Int) m0 m1; cases e1_; simp only [Int.toNat_natCast] at hx2; have HC2 := Aside0.mk hC; have HB2 := Aside0.mk hB; clear hC hB hK))
            clear hx hx2 HX HY HC HB
            go_wp2_with fail
            have hxl7 : xs.length ≤ 8 := by omega
            generalize IntKind.i64.wrap (rd ys (m : Int) + m2) = z0
            go_loopw [11, 65] (fun v11 v65 wr => ∃ (j : Nat) (z : Int), j ≤ xs.length ∧ v65 = .int .i64 j ∧ v11 = .int .i64 z ∧ Aside0 (Kd.R k36 36 wr w0.heap.size (fun k => k ≠ g) (.slice A7 xs.length c7) xs) ∧ Aside0 (Kd.R (Kd.int .i64) 3 wr w0.heap.size (fun k => k ≠ g) (.slice (some ad) ys.length c8) ys) ∧ Aside0 (CurOk w0 wr g l0 (20 * ys.length + 3)) ∧ Aside0 (Below w0.heap.size w0 wr)) (fun _ v65 _ => xs.length - (intOf v65).toNat)
            case atStart => exact ⟨0, _, Nat.zero_le _, rfl, rfl, HX2, HY2, HC2, HB2⟩
            case round =>
              clear HX2 HY2 HC2 HB2
              obtain ⟨j, z, hj, rfl, rfl, HX, HY, HC, HB⟩ := hrel
              by_cases hlt : j < xs.length
              · have p1 : (0 : Int) ≤ (j : Int) := by omega
                have q1 : (j : Int) < (xs.length : Int) := by omega
                obtain ⟨ad7, e1, hy0, hy1', hy2⟩ := at_T36 (Kd.R_reads' HX.out).2.2 (j : Int) p1 q1
                cases e1
                simp only [Int.toNat_natCast] at hy0 hy1' hy2
                obtain ⟨s, hs⟩ : ∃ s_, s_ = rd_T36 xs (j : Int) := ⟨_, rfl⟩
                rw [← hs] at hy0 hy1' hy2
                clear hs
                go_wp2_with fail
                all_goals
                  go_roundw
                  case rel => exact ⟨j + 1, _, by omega, by go_num, rfl, ⟨by (repeat apply Kd.R_alloc); exact HX.out⟩, ⟨by (repeat apply Kd.R_alloc); exact HY.out⟩, ⟨by (repeat apply CurOk.alloc); exact HC.out⟩, ⟨by (repeat apply below_alloc); exact HB.out⟩⟩
                  case measure => simp [intOf]; omega
              · go_wp2_with (first
                  | (refine gate_builtin (b := .append) (xs := #[.tmp 83, .tmp 88]) rfl ?_; go_loud (at_builtin; refine Kd.R_append k36 (w0 := w0) w0.heap.size rfl (.tmp 83) (.tmp 88) 28 36 (.agg #[.int .i64 0, .int .i64 0, .int .i64 0]) 24 rfl Try.underlying28 infSend rfl (by decide) (by decide) _ xs ⟨(m : Int), (ys.length : Int), z⟩ [.int .i64 (m : Int), .int .i64 (ys.length : Int), .int .i64 z] (fun k => k ≠ g) (fun _ => False) rfl rfl (k36_mkM _ _ _ ⟨(m : Int), (ys.length : Int), z⟩) (fun _ hk => hk.elim) HC.out.fresh HX.out HB.out HB.out.size (by omega) ?_; intro v7' w7 h1 h2 h3 h4; have HX7 := Aside0.mk h1; have HC7 := Aside0.mk (HC.out.grown h3 (Kd.R_away HX.out (fun _ hk => hk))); have HY7 := Aside0.mk (Kd.R_over' HY.out (Kd.R_typed HX.out) (by decide) h3); have HB7 := Aside0.mk h2; clear h1 h2 h3 h4))
                  | (refine gate_builtin (b := .append) (xs := #[.tmp 90, .tmp 94]) rfl ?_; go_loud (at_builtin; refine Kd.R_append (Kd.int .i64) (w0 := w0) w0.heap.size rfl (.tmp 90) (.tmp 94) 42 3 (.int .i64 0) 8 rfl Try.underlying42 infIntD rfl (by decide) (by decide) _ ys _ _ (fun k => k ≠ g) (fun _ => False) rfl rfl rfl (fun _ hk => hk.elim) HC7.out.fresh HY7.out HB7.out HB7.out.size (by omega) ?_; intro v8' w8 h1 h2 h3 h4; have HY8 := Aside0.mk h1; have HC8 := Aside0.mk (HC7.out.grown h3 (Kd.R_away HY7.out (fun _ hk => hk))); have HX8 := Aside0.mk (Kd.R_over' HX7.out (Kd.R_typed HY7.out) (by decide) h3); have HB8 := Aside0.mk h2; clear h1 h2 h3 h4)))
                go_roundw
                case rel => exact ⟨_, _, by rw [List.length_append]; omega, by rw [List.length_append, List.length_singleton]; omega, by rw [List.length_append, List.length_singleton]; rfl, by rw [List.length_append, List.length_append, List.length_singleton, List.length_singleton]; omega, HX8, HY8, ⟨HC8.out.mono (by rw [List.length_append, List.length_singleton]; omega)⟩, HB8⟩
                case measure => simp [intOf]; omega
        · replace HC := Aside0.mk (HC.out.mono (show _ ≤ 190 by omega))
          have hxl : xs.length ≤ 8 := by omega
          clear HY
          go_wp2_with fail
          refine (pick_any g l0 10 190 w0 _ hb HC.out (by omega) (by omega) (by omega) HB.out).mono ?_
          rintro e v1 ⟨k, rfl, k0, k1, hC, hB, hK⟩
          replace HX := Aside0.mk (Kd.R_keep HX.out hK (fun _ hk => hk))
          replace HC := Aside0.mk hC
          replace HB := Aside0.mk hB
          clear hC hB hK
          by_cases hk0 : k = 0
          · subst hk0
            go_wp2_with fail
            refine (among_any g l0 [0, 1, -1, 40] v1.heap.size 191 w0 _ hb (HC.out.alloc _) (by omega) (by decide) (by decide) (below_alloc HB.out _) (by simpa using lit_new v1 [0, 1, -1, 40]) (HC.out.fresh _ (Nat.le_refl _))).mono ?_
            rintro e v2 ⟨x1, rfl, hC, hB, hK⟩
            replace HX := Aside0.mk (Kd.R_keep (Kd.R_alloc HX.out _) hK (fun _ hk => hk))
            replace HC := Aside0.mk hC
            replace HB := Aside0.mk hB
            clear hC hB hK
            go_wp2_with fail
            refine (among_any g l0 [0, 1, 2, 40] v2.heap.size 192 w0 _ hb (HC.out.alloc _) (by omega) (by decide) (by decide) (below_alloc HB.out _) (by simpa using lit_new v2 [0, 1, 2, 40]) (HC.out.fresh _ (Nat.le_refl _))).mono ?_
            rintro e v3 ⟨x2, rfl, hC, hB, hK⟩
            replace HX := Aside0.mk (Kd.R_keep (Kd.R_alloc HX.out _) hK (fun _ hk => hk))
            replace HC := Aside0.mk hC
            replace HB := Aside0.mk hB
            clear hC hB hK
            go_wp2_with fail
            refine (among_any g l0 [0, 1, 60, 61] v3.heap.size 193 w0 _ hb (HC.out.alloc _) (by omega) (by decide) (by decide) (below_alloc HB.out _) (by simpa using lit_new v3 [0, 1, 60, 61]) (HC.out.fresh _ (Nat.le_refl _))).mono ?_
            rintro e v4 ⟨x3, rfl, hC, hB, hK⟩
            replace HX := Aside0.mk (Kd.R_keep (Kd.R_alloc HX.out _) hK (fun _ hk => hk))
            replace HC := Aside0.mk hC
            replace HB := Aside0.mk hB
            clear hC hB hK
            go_wp2_with (at_builtin; refine Kd.R_append k36 (w0 := w0) w0.heap.size rfl (.tmp 100) (.tmp 111) 28 36 (.agg #[.int .i64 0, .int .i64 0, .int .i64 0]) 24 rfl Try.underlying28 infSend rfl (by decide) (by decide) _ xs ⟨x1, x2, x3⟩ [.int .i64 x1, .int .i64 x2, .int .i64 x3] (fun k => k ≠ g) (fun _ => False) rfl rfl (k36_mkM _ _ _ ⟨x1, x2, x3⟩) (fun _ hk => hk.elim) HC.out.fresh HX.out HB.out HB.out.size (by omega) ?_; intro u1 v5 h1 h2 h3 h4; have HB5 := Aside0.mk h2; clear h1 h2 h3 h4)
            go_ret3
            exact ⟨_, rfl, HB5.out⟩
          · have hk0b : (k == (0 : Int)) = false := beq_eq_false_iff_ne.mpr hk0
            by_cases hk1 : k = 1
            · subst hk1
              clear hk0 hk0b k0 k1
              obtain ⟨A7, c7, rfl⟩ := Kd.R_slice HX.out
              go_wp2
              go_loopw [117] (fun v117 wr => ∃ (j : Nat) (zs : List S36), j ≤ xs.length ∧ v117 = .int .i64 j ∧ zs.length = xs.length ∧ Aside0 (Kd.R k36 36 wr w0.heap.size (fun k => k ≠ g) (.slice A7 xs.length c7) zs) ∧ Aside0 (CurOk w0 wr g l0 (200 + j)) ∧ Aside0 (Below w0.heap.size w0 wr)) (fun v117 _ => xs.length - (intOf v117).toNat)
              case atStart => exact ⟨0, xs, Nat.zero_le _, rfl, rfl, HX, ⟨HC.out.mono (by omega)⟩, HB⟩
              case round =>
                clear HX HC HB
                obtain ⟨j, zs, hj, rfl, hzl, HX, HC, HB⟩ := hrel
                by_cases hlt : j < xs.length
                · have p1 : (0 : Int) ≤ (j : Int) := by omega
                  have q1 : (j : Int) < (xs.length : Int) := by omega
                  have hx1 : (1 : Int) ≤ (xs.length : Int) := by omega
                  have hx2 : (xs.length : Int) ≤ 200 := by omega
                  have hx3 : 200 + j ≤ 900000 := by omega
                  go_wp2_with fail
                  refine (pick_any g l0 (xs.length : Int) (200 + j) w0 _ hb HC.out hx3 hx1 hx2 HB.out).mono ?_
                  rintro e v2 ⟨m, rfl, m0, m1, hC, hB, hK⟩
                  obtain ⟨m, rfl⟩ := Int.eq_ofNat_of_zero_le m0
                  replace HX := Aside0.mk (Kd.R_keep HX.out hK (fun _ hk => hk))
                  replace HC := Aside0.mk hC
                  replace HB := Aside0.mk hB
                  clear hC hB hK
                  obtain ⟨g7, c7', hs7⟩ := R_form HX.out (by omega)
                  injection hs7 with hs7 hn7 hc7
                  subst hs7
                  clear hn7 hc7
                  have HXC := Aside0.mk (Kd.R_reads' HX.out)
                  obtain ⟨ad, e1, hy0, hy1, hy2⟩ := at_T36 HXC.out.2.2 (j : Int) p1 (by omega)
                  obtain ⟨ad2, e2, hz0, hz1, hz2⟩ := at_T36 HXC.out.2.2 (m : Int) m0 (by omega)
                  cases e1
                  cases e2
                  have ea : ∀ n, (⟨g7, 0, none⟩ : Addr).add n = ⟨g7, n, none⟩ := fun n => by cases n <;> simp [Addr.add]
                  simp only [Int.toNat_natCast, ea] at hy0 hy1 hy2 hz0 hz1 hz2
                  obtain ⟨s, hs⟩ : ∃ s_, s_ = rd_T36 zs (j : Int) := ⟨_, rfl⟩
                  obtain ⟨r, hr⟩ : ∃ r_, r_ = rd_T36 zs (m : Int) := ⟨_, rfl⟩
                  rw [← hs] at hy0 hy1 hy2
                  rw [← hr] at hz0 hz1 hz2
                  have HEA := Aside0.mk ea
                  have HCC := Aside0.mk (fun (o : Obj) => send_cells (W := v2.alloc o) (g := g7) (i := j) (s := s) (((below_alloc (Below.refl v2.heap.size v2) o).cell (World.block_lt_of_cell? v2 _ hy0)).trans hy0) (((below_alloc (Below.refl v2.heap.size v2) o).cell (World.block_lt_of_cell? v2 _ hy1)).trans hy1) (((below_alloc (Below.refl v2.heap.size v2) o).cell (World.block_lt_of_cell? v2 _ hy2)).trans hy2))
                  have HZL := Aside0.mk hzl
                  have hg7 : g7 < v2.heap.size := Kd.R_lt HX.out g7 rfl
                  have HGG := Aside0.mk (HX.out.1 g7 rfl)
                  have hne7 : ¬ g7 = v2.heap.size := Nat.ne_of_lt hg7
                  have hne8 : ¬ v2.heap.size = g7 := fun h => hne7 h.symm
                  clear hs hr ea hzl
                  go_wp2_with (first
                    | (refine gate_ (.store 36 (.tmp 134) (.tmp 133)) rfl ?_; refine Kd.R_store k36 (w0 := w0) w0.heap.size rfl rfl 36 (.tmp 134) (.tmp 133) rfl 36 (g := g7) (n := xs.length) (cap := c7) (j : Int) 0 zs r (.agg #[.int .i64 r.f0, .int .i64 r.f1, .int .i64 r.f2]) [.int .i64 r.f0, .int .i64 r.f1, .int .i64 r.f2] [.int .i64 s.f0, .int .i64 s.f1, .int .i64 s.f2] (fun k => k ≠ g) (fun _ => False) rfl rfl rfl rfl (by kernel_rfl) (by simp [Value.oneCell']) (Kd.R_alloc HX.out _) p1 q1 rfl (HCC.out _) (show (3 : Nat) ≤ 3 from Nat.le_refl 3) (k36_mkM _ _ _ r) (fun _ hk => hk.elim) (below_alloc HB.out _) ?_; intro w5 h1 h2 h3; have hbox : w5.heap[v2.heap.size]? = some (.cells #[.int .i64 s.f0, .int .i64 s.f1, .int .i64 s.f2] 36 (0, 0)) := blk_grown (heap_alloc_new v2 _) h3 (fun he => hne8 (Option.some.inj he)); have hb0 := (blk_cell hbox 0).trans rfl; have hb1 := (blk_cell hbox 1).trans rfl; have hb2 := (blk_cell hbox 2).trans rfl; obtain ⟨ad3, e3, hq0, hq1, hq2⟩ := at_T36 (Kd.R_reads' h1).2.2 (m : Int) m0 (by rw [List.length_set, HZL.out]; exact m1); cases e3; simp only [Int.toNat_natCast, HEA.out] at hq0 hq1 hq2; have HC5 := Aside0.mk ((HC.out.alloc _).grown h3 (fun he => HGG.out (Option.some.inj he).symm)); have HX5 := Aside0.mk h1; have HB5 := Aside0.mk h2; clear h1 h2 h3 hbox)
                    | (refine gate_ (.store 36 (.tmp 138) (.tmp 137)) rfl ?_; go_loud (refine Kd.R_store k36 (w0 := w0) w0.heap.size rfl rfl 36 (.tmp 138) (.tmp 137) rfl 36 (g := g7) (n := xs.length) (cap := c7) (m : Int) 0 (zs.set ((j : Int).toNat) r) s (.agg #[.int .i64 s.f0, .int .i64 s.f1, .int .i64 s.f2]) [.int .i64 s.f0, .int .i64 s.f1, .int .i64 s.f2] [.int .i64 (rd_T36 (zs.set ((j : Int).toNat) r) (m : Int)).f0, .int .i64 (rd_T36 (zs.set ((j : Int).toNat) r) (m : Int)).f1, .int .i64 (rd_T36 (zs.set ((j : Int).toNat) r) (m : Int)).f2] (fun k => k ≠ g) (fun _ => False) rfl rfl rfl rfl (by kernel_rfl) (by simp [Value.oneCell']) HX5.out m0 m1 rfl (send_cells hq0 hq1 hq2) (show (3 : Nat) ≤ 3 from Nat.le_refl 3) (k36_mkM _ _ _ s) (fun _ hk => hk.elim) HB5.out ?_; intro w6 h1 h2 h3; have HC6 := Aside0.mk (HC5.out.grown h3 (fun he => HGG.out (Option.some.inj he).symm)); have HX6 := Aside0.mk h1; have HB6 := Aside0.mk h2; clear h1 h2 h3)))
                  go_roundw
                  case rel => exact ⟨j + 1, _, by omega, by go_num, by rw [List.length_set, List.length_set]; exact HZL.out, HX6, ⟨HC6.out.mono (by omega)⟩, HB6⟩
                  case measure => simp [intOf]; omega
                · go_wp2
                  go_ret3
                  exact ⟨_, rfl, HB.out⟩
            · have hk1b : (k == (1 : Int)) = false := beq_eq_false_iff_ne.mpr hk1
              go_wp2
              go_ret3
              exact ⟨_, rfl, HB.out⟩

/-! ### spec_DrawAreSends: function 33, by hand -/
set_option maxHeartbeats 1000000 in
set_option maxRecDepth 100000 in
theorem areSends_any (A0 : Option Addr) (c0 : Nat) (l0 : List Int) (r1 r2 : Int) (w : World) (hb : byteOk l0 = true) (hr0 : Kd.C (Kd.int .u8) w A0 l0.length l0) (h : delD l0 0 0 = some (r1, r2)) :
    Calls Try.prog 33 #[.slice A0 l0.length c0] w fun e w' => ∃ v : Value, e = .returned (.tuple #[.int .i64 r1, .int .i64 r2, v]) ∧ Below w.heap.size w w' := by
  have hu40 := Try.underlying40
  have HI0 := Aside0.mk (IsS40.new w w A0 c0 l0 0 0 (Below.refl _ _) hr0)
  have HB0 := Aside0.mk (below_alloc (Below.refl w.heap.size w) (.cells #[.slice A0 l0.length c0, .int .i64 0, .int .u64 0] 40))
  have HD := Aside0.mk h
  clear hr0 h
  go_enter Try.func33, Try.ntmps33
  go_wp2_with fail
  refine (delayed_any w.heap.size l0 r1 r2 w _ hb HI0.out HB0.out HD.out).mono ?_
  rintro e w1 ⟨v, rfl, hB⟩
  have HB1 := Aside0.mk hB
  clear hB
  go_wp2
  go_ret3
  exact ⟨_, rfl, HB1.out⟩

/-! ### spec_DrawQuickSends: function 16, by hand -/
def spec_DrawQuickSends.f (l0 : List Int) : Option (Int × Int) := if byteOk l0 = true then delD l0 0 0 else none
set_option maxHeartbeats 1000000 in
set_option maxRecDepth 100000 in
theorem spec_DrawQuickSends.calls (A0 : Option Addr) (c0 : Nat) (l0 : List Int) (r1 r2 : Int) (w : World) (hr0 : Kd.C (Kd.int .u8) w A0 l0.length l0) (hc0 : l0.length ≤ c0) (h : spec_DrawQuickSends.f l0 = some (r1, r2)) :
    Calls Try.prog 16 #[.slice A0 l0.length c0] w fun e w' => e = .returned (.tuple #[.int .i64 r1, .int .i64 r2]) ∧ Below w.heap.size w w' := by
  unfold spec_DrawQuickSends.f at h
  by_cases hb : byteOk l0 = true
  · rw [if_pos hb] at h
    have HD := Aside0.mk (areSends_any A0 c0 l0 r1 r2 w hb hr0 h)
    clear h hb hr0
    go_enter Try.func16, Try.ntmps16
    go_wp2_with (go_at_call 33; refine HD.out.mono ?_; rintro e w1 ⟨v, rfl, hB⟩; have HB1 := Aside0.mk hB; clear hB)
    go_ret2
    exact ⟨rfl, HB1.out⟩
  · rw [if_neg hb] at h
    cases h

/-! ### impl_areDelayed: function 34 -/
def impl_areDelayed.f (a0 : Int) (a1 : Int) : Option (Bool) := (impl_isDelay.f a0).bind fun t194 => (if t194 = true then ((impl_within.f a1 1 40).bind fun t195 => (some t195)) else (some false))
set_option maxHeartbeats 8000000 in
set_option maxRecDepth 100000 in
theorem impl_areDelayed.calls (a0 : Int) (a1 : Int) (r : Bool) (w : World) (h : impl_areDelayed.f a0 a1 = some r) :
    Calls Try.prog 34 #[.int .i64 a0, .int .i64 a1] w fun e w' => e = .returned (.bool r) ∧ Drawn0 w w' := by
  have H : ((impl_isDelay.f a0).bind fun t194 => (if t194 = true then ((impl_within.f a1 1 40).bind fun t195 => (some t195)) else (some false))) = some r := h
  clear h
  replace H := Option.bind_eq_some_iff.mp H
  obtain ⟨t194, A30, H⟩ := H
  replace H : (if t194 = true then ((impl_within.f a1 1 40).bind fun t195 => (some t195)) else (some false)) = some r := H
  have A3 := Aside0.mk A30
  clear A30
  by_cases c4 : t194 = true
  · subst c4
    have H1 : ((impl_within.f a1 1 40).bind fun t195 => (some t195)) = some r := by rw [if_pos rfl] at H; exact H
    clear H
    have H := H1
    clear H1
    replace H := Option.bind_eq_some_iff.mp H
    obtain ⟨t195, A50, H⟩ := H
    replace H : (some t195) = some r := H
    have A5 := Aside0.mk A50
    clear A50
    obtain rfl := Option.some.inj H
    go_enter Try.func34, Try.ntmps34
    go_wp2_with (first | ((with_reducible refine gate_callee (f := 23) rfl ?_); refine goesL_ (some 6) rfl rfl Try.func23 (by kernel_rfl) rfl #[.int .i64 a0] rfl (by (try simp only [List.map_toArray, List.map_cons, List.map_nil]); first | done | rfl | (simp only [List.length_drop, List.length_take]; rfl)) ?_; (with_reducible refine (impl_isDelay.calls a0 true _ A3.out).mono ?_); rintro e w' ⟨rfl, ⟨nd, rfl⟩⟩; refine ⟨_, rfl, ?_⟩) | (go_at_call 29; (with_reducible refine (impl_within.calls a1 1 40 t195 _ A5.out).mono ?_); rintro e w' ⟨rfl, ⟨nd, rfl⟩⟩))
    go_ret
    exact ⟨by first | rfl | (simp; done) | (simp [*]; done), by repeat (first | exact Drawn0.refl _ | apply Drawn0.step)⟩
  · replace c4 := Bool.eq_false_iff.mpr c4
    subst c4
    have H1 : (some false) = some r := by rw [if_neg (show ¬ (false = true) by decide)] at H; exact H
    clear H
    have H := H1
    clear H1
    obtain rfl := Option.some.inj H
    go_enter Try.func34, Try.ntmps34
    go_wp2_with (first | ((with_reducible refine gate_callee (f := 23) rfl ?_); refine goesL_ (some 6) rfl rfl Try.func23 (by kernel_rfl) rfl #[.int .i64 a0] rfl (by (try simp only [List.map_toArray, List.map_cons, List.map_nil]); first | done | rfl | (simp only [List.length_drop, List.length_take]; rfl)) ?_; (with_reducible refine (impl_isDelay.calls a0 false _ A3.out).mono ?_); rintro e w' ⟨rfl, ⟨nd, rfl⟩⟩; refine ⟨_, rfl, ?_⟩))
    go_ret
    exact ⟨by first | rfl | (simp; done) | (simp [*]; done), by repeat (first | exact Drawn0.refl _ | apply Drawn0.step)⟩

/-! ### slices_Clone_int_int: function 35, by hand -/
theorem infIntC : (Try.prog.info? 3).map (fun i => (i.zero, i.size, i.bytes)) = some (some (.int .i64 0), 1, 8) := by kernel_rfl
set_option maxHeartbeats 1000000 in
set_option maxRecDepth 100000 in
theorem cloneInt (A0 : Option Addr) (c0 : Nat) (l0 : List Int) (w : World) (hr0 : Kd.C (Kd.int .i64) w A0 l0.length l0) (hl : l0.length ≤ 1048576) :
    Calls Try.prog 35 #[.slice A0 l0.length c0] w fun e w' => ∃ v0_ : Value, e = .returned (v0_) ∧ Kd.R (Kd.int .i64) 3 w' w.heap.size (fun _ => True) v0_ l0 ∧ Below w.heap.size w w' := by
  have hnil : ∀ (w : World) (a : Option Addr) (n c : Nat), (binOp .eql 42 (.slice a n c) (.slice none 0 0)).run Try.prog w = .ok (.bool a.isNone) w := fun w a n c => Lib.run_eql_slice_nil w 42 3 a n c 0 0 Try.underlying42
  have HR0 := Aside0.mk hr0
  clear hr0
  cases A0 with
  | none =>
    have h0 : l0 = [] := by
      have h1 := HR0.out
      by_cases hn : 0 < l0.length
      · obtain ⟨ad, h2, _⟩ := h1.2.2 hn
        cases h2
      · exact List.eq_nil_of_length_eq_zero (by omega)
    subst h0
    go_enter Try.func35, Try.ntmps35
    go_wp2
    go_ret
    exact ⟨_, rfl, Kd.R_nil _ _ _ _ _, by repeat (first | exact Below.refl _ _ | apply below_alloc | apply pw_below_drewN | apply below_drew1)⟩
  | some ad =>
    have HE := Aside0.mk (R_empty (Kd.int .i64) 3 w)
    go_enter Try.func35, Try.ntmps35
    go_wp2_with (at_builtin; refine Kd.R_append_rows (Kd.int .i64) (w0 := w) w.heap.size rfl (.tmp 5) (.tmp 6) 42 3 (.int .i64 0) 8 rfl Try.underlying42 infIntC rfl (by decide) (by decide) _ [] l0 _ _ _ (fun _ => True) (fun k => some k ≠ (Value.slice (some ⟨w.heap.size, 0, none⟩) 0 0).ownBlock) rfl rfl HE.out (Kd.C_below HR0.out (below_alloc (Below.refl _ _) _)) (fun x cs h => h) (fun k hk => ⟨trivial, hk⟩) (fun k _ => trivial) (below_alloc (Below.refl _ _) _) (by simp) (by simp; omega) ?_; intro v1 w1 h1 h2 h3 h4; have H1 := Aside0.mk h1; have H2 := Aside0.mk h2; clear h1 h2 h3 h4)
    go_ret
    exact ⟨_, rfl, H1.out, H2.out⟩
def slices_Clone_int_int.f (l0 : List Int) : Option (List Int) := if l0.length ≤ 1048576 then some l0 else none
theorem slices_Clone_int_int.calls (A0 : Option Addr) (c0 : Nat) (l0 : List Int) (r : List Int) (w : World) (hr0 : Kd.C (Kd.int .i64) w A0 l0.length l0) (hc0 : l0.length ≤ c0) (h : slices_Clone_int_int.f l0 = some r) :
    Calls Try.prog 35 #[.slice A0 l0.length c0] w fun e w' => ∃ v0_ : Value, e = .returned (v0_) ∧ Kd.R (Kd.int .i64) 3 w' w.heap.size (fun _ => True) v0_ r ∧ Below w.heap.size w w' := by
  unfold slices_Clone_int_int.f at h
  by_cases hk : l0.length ≤ 1048576
  · rw [if_pos hk] at h
    obtain rfl := Option.some.inj h
    exact cloneInt A0 c0 l0 w hr0 hk
  · rw [if_neg hk] at h
    cases h

/-! ### impl_QuickSends: function 17 -/
mutual
def impl_QuickSends.l0 : Nat → Int → Int → List (S36) → List Int → Int → Option ((List (S36)) × Bool)
  | 0, _, _, _, _, _ => none
  | k + 1, x0, x1, x6, x7, x8 => if (x7.length : Int) < x1 then ((slices_Clone_int_int.f x7).bind fun t203 => (impl_QuickSends.l1 k x0 x1 x6 x7 x8 t203 (t203.length : Int) 0)) else (some (x6, true))
def impl_QuickSends.l1 : Nat → Int → Int → List (S36) → List Int → Int → List Int → Int → Int → Option ((List (S36)) × Bool)
  | 0, _, _, _, _, _, _, _, _ => none
  | k + 1, x0, x1, x6, x7, x8, x24, x25, x26 => if x26 < x25 then (if 0 ≤ x26 then (if x26 < (x24.length : Int) then (if (rd x24 x26) ≤ x8 then (if (x7.length : Int) < x1 then (if x6.length < 5864062014805 then (if x7.length < 17592186044416 then (impl_QuickSends.l1 k x0 x1 (x6 ++ [(⟨x26, (x7.length : Int), x8⟩ : S36)]) (x7 ++ [wrap64 (x8 + x0)]) x8 x24 x25 (wrap64 (x26 + 1))) else (none)) else (none)) else (impl_QuickSends.l1 k x0 x1 x6 x7 x8 x24 x25 (wrap64 (x26 + 1)))) else (impl_QuickSends.l1 k x0 x1 x6 x7 x8 x24 x25 (wrap64 (x26 + 1)))) else (none)) else (none)) else (impl_QuickSends.l0 k x0 x1 x6 x7 (wrap64 (x8 + 1)))
end
def impl_QuickSends.f (k : Nat) (a0 : Int) (a1 : Int) : Option ((List (S36)) × Bool) := (impl_areDelayed.f a0 a1).bind fun t196 => (if t196 = true then (impl_QuickSends.l0 k a0 a1 (([] : List (S36))) (([0] : List Int)) 0) else (some (([] : List (S36)), false)))
theorem impl_QuickSends.mono_l : ∀ k, (∀ y0 y1 y2 y3 y4, LeO (impl_QuickSends.l0 k y0 y1 y2 y3 y4) (impl_QuickSends.l0 (k + 1) y0 y1 y2 y3 y4)) ∧ (∀ y0 y1 y2 y3 y4 y5 y6 y7, LeO (impl_QuickSends.l1 k y0 y1 y2 y3 y4 y5 y6 y7) (impl_QuickSends.l1 (k + 1) y0 y1 y2 y3 y4 y5 y6 y7))
  | 0 => ⟨fun _ _ _ _ _ r h => by simp [impl_QuickSends.l0] at h, fun _ _ _ _ _ _ _ _ r h => by simp [impl_QuickSends.l1] at h⟩
  | k + 1 => by
    obtain ⟨ih0, ih1⟩ := impl_QuickSends.mono_l k
    refine ⟨?_, ?_⟩
    · intro y0 y1 y2 y3 y4
      unfold impl_QuickSends.l0
      repeat' first
      | (with_reducible exact ih0 _ _ _ _ _)
      | (with_reducible exact ih1 _ _ _ _ _ _ _ _)
      | (with_reducible exact LeO.refl _)
      | (with_reducible exact LeO.none _)
      | (with_reducible refine LeO.ite ?_ ?_)
      | (with_reducible refine LeO.bind ?_ (fun _ => ?_))
      | exact ih0 _ _ _ _ _
      | exact ih1 _ _ _ _ _ _ _ _
      | exact LeO.none _
      | refine LeO.ite ?_ ?_
      | refine LeO.bind ?_ (fun _ => ?_)
    · intro y0 y1 y2 y3 y4 y5 y6 y7
      unfold impl_QuickSends.l1
      repeat' first
      | (with_reducible exact ih0 _ _ _ _ _)
      | (with_reducible exact ih1 _ _ _ _ _ _ _ _)
      | (with_reducible exact LeO.refl _)
      | (with_reducible exact LeO.none _)
      | (with_reducible refine LeO.ite ?_ ?_)
      | (with_reducible refine LeO.bind ?_ (fun _ => ?_))
      | exact ih0 _ _ _ _ _
      | exact ih1 _ _ _ _ _ _ _ _
      | exact LeO.none _
      | refine LeO.ite ?_ ?_
      | refine LeO.bind ?_ (fun _ => ?_)
theorem impl_QuickSends.mono : ∀ a0 a1 k, LeO (impl_QuickSends.f k a0 a1) (impl_QuickSends.f (k + 1) a0 a1) := by
  intro a0 a1 k
  obtain ⟨ih0, ih1⟩ := impl_QuickSends.mono_l k
  unfold impl_QuickSends.f
  repeat' first
      | (with_reducible exact ih0 _ _ _ _ _)
      | (with_reducible exact ih1 _ _ _ _ _ _ _ _)
      | (with_reducible exact LeO.refl _)
      | (with_reducible exact LeO.none _)
      | (with_reducible refine LeO.ite ?_ ?_)
      | (with_reducible refine LeO.bind ?_ (fun _ => ?_))
      | exact ih0 _ _ _ _ _
      | exact ih1 _ _ _ _ _ _ _ _
      | exact LeO.none _
      | refine LeO.ite ?_ ?_
      | refine LeO.bind ?_ (fun _ => ?_)
set_option maxHeartbeats 8000000 in
set_option maxRecDepth 100000 in
theorem impl_QuickSends.calls (k : Nat) (a0 : Int) (a1 : Int) (r1 : List (S36)) (r2 : Bool) (w : World) (h : impl_QuickSends.f k a0 a1 = some (r1, r2)) :
    Calls Try.prog 17 #[.int .i64 a0, .int .i64 a1] w fun e w' => ∃ v0_ : Value, e = .returned (.tuple #[v0_, .bool r2]) ∧ Kd.R k36 36 w' w.heap.size (fun _ => True) v0_ r1 ∧ Below w.heap.size w w' := by
  have hu36 := Try.underlying36
  have HB := Aside0.mk (Below.refl w.heap.size w)
  have H : ((impl_areDelayed.f a0 a1).bind fun t196 => (if t196 = true then (impl_QuickSends.l0 k a0 a1 (([] : List (S36))) (([0] : List Int)) 0) else (some (([] : List (S36)), false)))) = some (r1, r2) := h
  clear h
  replace H := Option.bind_eq_some_iff.mp H
  obtain ⟨t196, A30, H⟩ := H
  replace H : (if t196 = true then (impl_QuickSends.l0 k a0 a1 (([] : List (S36))) (([0] : List Int)) 0) else (some (([] : List (S36)), false))) = some (r1, r2) := H
  have A3 := Aside0.mk A30
  clear A30
  by_cases c4 : t196 = true
  · subst c4
    have H1 : (impl_QuickSends.l0 k a0 a1 (([] : List (S36))) (([0] : List Int)) 0) = some (r1, r2) := by rw [if_pos rfl] at H; exact H
    clear H
    have H := H1
    clear H1
    obtain ⟨y197, hy197⟩ : ∃ y_ : List (S36), y_ = (([] : List (S36))) := ⟨_, rfl⟩
    replace H : (impl_QuickSends.l0 k a0 a1 y197 (([0] : List Int)) 0) = some (r1, r2) := by first | (rw [hy197]; with_reducible exact H) | (have H2_ := (Option.bind_some _ _).symm.trans H; rw [hy197]; with_reducible exact H2_) | (have H2_ := (Option.bind_some _ _).symm.trans H; with_reducible exact H2_) | with_reducible exact H | (rw [hy197]; exact H) | exact H
    have Ny197 := Aside0.mk hy197
    clear hy197
    obtain ⟨y200, hy200⟩ : ∃ y_ : List Int, y_ = (([0] : List Int)) := ⟨_, rfl⟩
    replace H : (impl_QuickSends.l0 k a0 a1 y197 y200 0) = some (r1, r2) := by first | (rw [hy200]; with_reducible exact H) | (have H2_ := (Option.bind_some _ _).symm.trans H; rw [hy200]; with_reducible exact H2_) | (have H2_ := (Option.bind_some _ _).symm.trans H; with_reducible exact H2_) | with_reducible exact H | (rw [hy200]; exact H) | exact H
    have Ny200 := Aside0.mk hy200
    clear hy200
    have H' := Aside0.mk H
    clear H
    go_enter Try.func17, Try.ntmps17
    go_wp2_with (first | ((with_reducible refine gate_callee (f := 34) rfl ?_); refine goesL_ (some 13) rfl rfl Try.func34 (by kernel_rfl) rfl #[.int .i64 a0, .int .i64 a1] rfl (by (try simp only [List.map_toArray, List.map_cons, List.map_nil]); first | done | rfl | (simp only [List.length_drop, List.length_take]; rfl)) ?_; (with_reducible refine (impl_areDelayed.calls a0 a1 true _ A3.out).mono ?_); rintro e w' ⟨rfl, ⟨nd, rfl⟩⟩; refine ⟨_, rfl, ?_⟩) | ((with_reducible refine gate_dst (N := 15) rfl ?_); (try (refine gate_guard (by rfl) ?_; dsimp only)); refine Kd.R_lit k36 _ 36 ?hg (N := 15) ?hd (xs := ([] : List (S36))) (inner := []) (ok := fun _ => True) (okp := fun _ => True) ?hr ?hp (fun _ hk => hk) trivial (Below.refl _ _) (Nat.le_refl _) (by simp) ?_; (case hd => rfl); (case hg => rfl); (case hr => first | (go_simp; done) | (go_simp; rfl)); (case hp => exact (Reps.none _ _)); intro v198 w5 ho6 hb hg_ hnew_; clear hg_ hnew_; (first | rw [← Ny197.out] at ho6 | (simp only [Int.reduceToNat] at ho6; rw [← Ny197.out] at ho6)); have n0_ := Aside0.mk (Kd.R_lower ho6 (below_size (by repeat (first | (with_reducible first | exact HB.out | apply below_alloc | apply pw_below_drewN | apply below_drew1) | exact HB.out)))); have n1_ := Aside0.mk (below_step (by repeat (first | (with_reducible first | exact HB.out | apply below_alloc | apply pw_below_drewN | apply below_drew1) | exact HB.out)) hb); clear HB; have HO199 := n0_; have HB := n1_; clear n0_ n1_; clear hb ho6) | ((with_reducible refine gate_dst (N := 16) rfl ?_); (try (refine gate_guard (by rfl) ?_; dsimp only)); refine Kd.R_lit (Kd.int .i64) _ 3 ?hg (N := 16) ?hd (xs := ([0] : List Int)) (inner := [.int .i64 0]) (ok := fun _ => True) (okp := fun _ => True) ?hr ?hp (fun _ hk => hk) trivial (Below.refl _ _) (Nat.le_refl _) (by simp) ?_; (case hd => rfl); (case hg => rfl); (case hr => first | (go_simp; done) | (go_simp; rfl)); (case hp => exact (Reps.one (show Kd.M (Kd.int .i64) _ _ _ 0 [.int .i64 0] from rfl) (Reps.none _ _))); intro v201 w7 ho8 hb hg_ hnew_; clear hg_ hnew_; (first | rw [← Ny200.out] at ho8 | (simp only [Int.reduceToNat] at ho8; rw [← Ny200.out] at ho8)); have n0_ := Aside0.mk (Kd.R_below (by (with_reducible repeat (first | apply Kd.R_alloc | apply Kd.R_drewN | apply Kd.R_drew)); exact HO199.out) hb); have n1_ := Aside0.mk (Kd.R_lower ho8 (below_size (by repeat (first | (with_reducible first | exact HB.out | apply below_alloc | apply pw_below_drewN | apply below_drew1) | exact HB.out)))); have n2_ := Aside0.mk (below_step (by repeat (first | (with_reducible first | exact HB.out | apply below_alloc | apply pw_below_drewN | apply below_drew1) | exact HB.out)) hb); clear HO199; clear HB; have HO199 := n0_; have HO202 := n1_; have HB := n2_; clear n0_ n1_ n2_; clear hb ho8))
    go_loopg [6, 7, 8] k (fun kq v6 v7 v8 w' => ∃ (x6_1 : List (S36)) (x7_1 : List Int) (x8_1 : Int), v8 = .int .i64 x8_1 ∧ Aside0 (impl_QuickSends.l0 kq a0 a1 x6_1 x7_1 x8_1 = some (r1, r2)) ∧ Aside0 (kq ≤ k) ∧ Aside0 (Kd.R k36 36 w' w.heap.size (fun _ => True) v6 x6_1) ∧ Aside0 (Kd.R (Kd.int .i64) 3 w' w.heap.size (fun _ => True) v7 x7_1) ∧ Aside0 (Below w.heap.size w w'))
    case atStart => exact ⟨(y197), (y200), (0), (by first | rfl | (simp; done) | (simp [*]; done)), H', ⟨Nat.le_refl _⟩, ⟨by (with_reducible repeat (first | apply Kd.R_alloc | apply Kd.R_drewN | apply Kd.R_drew)); exact HO199.out⟩, ⟨by (with_reducible repeat (first | apply Kd.R_alloc | apply Kd.R_drewN | apply Kd.R_drew)); exact HO202.out⟩, ⟨by repeat (first | (with_reducible first | exact HB.out | apply below_alloc | apply pw_below_drewN | apply below_drew1) | exact HB.out)⟩⟩
    case round =>
      clear H'
      try clear c1
      try clear p2
      try clear c3
      try clear c4
      obtain ⟨x6_1, x7_1, x8_1, rfl, HA, HK1, HO_6, HO_7, HB⟩ := hrel
      cases gk with
      | zero => exact absurd HA.out (by simp [impl_QuickSends.l0])
      | succ k1 =>
        have H := HA.out
        clear HA
        simp only [impl_QuickSends.l0] at H
        by_cases c9 : (x7_1.length : Int) < a1
        · rw [if_pos c9] at H
          have c9b0 : decide ((x7_1.length : Int) < a1) = true := decide_eq_true c9
          clear c9
          replace H := Option.bind_eq_some_iff.mp H
          obtain ⟨t203, A100, H⟩ := H
          replace H : (impl_QuickSends.l1 k1 a0 a1 x6_1 x7_1 x8_1 t203 (t203.length : Int) 0) = some (r1, r2) := H
          have A10 := Aside0.mk A100
          clear A100
          have H' := Aside0.mk H
          clear H
          obtain ⟨Ao11, co11, eo11⟩ := Kd.R_slice HO_7.out
          subst eo11
          go_wp2_with (first | ((with_reducible refine gate_callee (f := 35) rfl ?_); refine goesL_ (some 24) rfl rfl Try.func35 (by kernel_rfl) rfl #[.slice Ao11 x7_1.length co11] rfl (by (try simp only [List.map_toArray, List.map_cons, List.map_nil]); first | done | rfl | (simp only [List.length_drop, List.length_take]; rfl)) ?_; (with_reducible refine (slices_Clone_int_int.calls _ _ x7_1 t203 _ ?side1 ?side2 A10.out).mono ?_); (case side1 => repeat (first | exact (Kd.R_reads' HO_7.out).2.2 | (with_reducible refine Kd.C_alloc ?_ _) | (with_reducible refine Kd.C_drewN ?_ _) | (with_reducible refine Kd.C_drew ?_))); (case side2 => exact (Kd.R_reads' HO_7.out).2.1); rintro e w12 ⟨v204, rfl, ho0, hb⟩; refine ⟨_, rfl, ?_⟩; have n0_ := Aside0.mk (Kd.R_below (by (with_reducible repeat (first | apply Kd.R_alloc | apply Kd.R_drewN | apply Kd.R_drew)); exact HO_6.out) hb); have n1_ := Aside0.mk (Kd.R_elder' (by (with_reducible repeat (first | apply Kd.R_alloc | apply Kd.R_drewN | apply Kd.R_drew)); exact HO_7.out) (Kd.R_base ho0) hb); have n2_ := Aside0.mk (Kd.R_lower (Kd.R_new' ho0 (Kd.R_lt (by (with_reducible repeat (first | apply Kd.R_alloc | apply Kd.R_drewN | apply Kd.R_drew)); exact HO_7.out))) (below_size (by repeat (first | (with_reducible first | exact HB.out | apply below_alloc | apply pw_below_drewN | apply below_drew1) | exact HB.out)))); have n3_ := Aside0.mk (below_step (by repeat (first | (with_reducible first | exact HB.out | apply below_alloc | apply pw_below_drewN | apply below_drew1) | exact HB.out)) hb); clear HO_6; clear HO_7; clear HB; have HO_6 := n0_; have HO_7 := n1_; have HO205 := n2_; have HB := n3_; clear n0_ n1_ n2_ n3_; (try clear hb); (try clear hb2); (try clear hk); (try clear hi); (try clear ho0); obtain ⟨Ao13, co13, eo13⟩ := Kd.R_slice HO205.out; subst eo13))
          go_loopg [6, 7, 26] k1 (fun kq v6 v7 v26 w' => ∃ (x6_2 : List (S36)) (x7_2 : List Int) (x26_2 : Int), v26 = .int .i64 x26_2 ∧ Aside0 (impl_QuickSends.l1 kq a0 a1 x6_2 x7_2 x8_1 t203 (t203.length : Int) x26_2 = some (r1, r2)) ∧ Aside0 (kq ≤ k1) ∧ Aside0 (Kd.R k36 36 w' w.heap.size (fun _ => True) v6 x6_2) ∧ Aside0 (Kd.R (Kd.int .i64) 3 w' w.heap.size (fun k_ => some k_ ≠ ((.slice Ao13 t203.length co13) : Value).ownBlock) v7 x7_2) ∧ Aside0 (Kd.R (Kd.int .i64) 3 w' w.heap.size (fun k_ => some k_ ≠ (v7 : Value).ownBlock) (.slice Ao13 t203.length co13) t203) ∧ Aside0 (Below w.heap.size w w'))
          case atStart => exact ⟨(x6_1), (x7_1), (0), (by first | rfl | (simp; done) | (simp [*]; done)), H', ⟨Nat.le_refl _⟩, ⟨by (with_reducible repeat (first | apply Kd.R_alloc | apply Kd.R_drewN | apply Kd.R_drew)); exact HO_6.out⟩, ⟨by (with_reducible repeat (first | apply Kd.R_alloc | apply Kd.R_drewN | apply Kd.R_drew)); exact Kd.R_mono HO_7.out (fun _ hk => hk.2)⟩, ⟨by (with_reducible repeat (first | apply Kd.R_alloc | apply Kd.R_drewN | apply Kd.R_drew)); exact Kd.R_mono HO205.out (fun _ hk => hk.2)⟩, ⟨by repeat (first | (with_reducible first | exact HB.out | apply below_alloc | apply pw_below_drewN | apply below_drew1) | exact HB.out)⟩⟩
          case round =>
            clear H'
            try clear c1
            try clear p2
            try clear c3
            try clear c4
            try clear c9
            try clear c9b0
            try clear p2
            obtain ⟨x6_2, x7_2, x26_2, rfl, HA, HK2, HO_6, HO_7, HO_24, HB⟩ := hrel
            cases gk with
            | zero => exact absurd HA.out (by simp [impl_QuickSends.l1])
            | succ k2 =>
              have H := HA.out
              clear HA
              simp only [impl_QuickSends.l1] at H
              by_cases c14 : x26_2 < (t203.length : Int)
              · rw [if_pos c14] at H
                have c14b0 : decide (x26_2 < (t203.length : Int)) = true := decide_eq_true c14
                clear c14
                by_cases c15 : 0 ≤ x26_2
                · rw [if_pos c15] at H
                  have c15b0 : decide (0 ≤ x26_2) = true := decide_eq_true c15
                  clear c15
                  by_cases c16 : x26_2 < (t203.length : Int)
                  · rw [if_pos c16] at H
                    have c16b0 : decide (x26_2 < (t203.length : Int)) = true := decide_eq_true c16
                    clear c16
                    by_cases c17 : (rd t203 x26_2) ≤ x8_1
                    · rw [if_pos c17] at H
                      have c17b0 : decide ((rd t203 x26_2) ≤ x8_1) = true := decide_eq_true c17
                      clear c17
                      by_cases c18 : (x7_2.length : Int) < a1
                      · rw [if_pos c18] at H
                        have c18b0 : decide ((x7_2.length : Int) < a1) = true := decide_eq_true c18
                        clear c18
                        by_cases c19 : x6_2.length < 5864062014805
                        · rw [if_pos c19] at H
                          have LMc19 := Aside0.mk c19
                          clear c19
                          obtain ⟨y207, hy207⟩ : ∃ y_ : List (S36), y_ = (x6_2 ++ [(⟨x26_2, (x7_2.length : Int), x8_1⟩ : S36)]) := ⟨_, rfl⟩
                          replace H : (if x7_2.length < 17592186044416 then (impl_QuickSends.l1 k2 a0 a1 y207 (x7_2 ++ [wrap64 (x8_1 + a0)]) x8_1 t203 (t203.length : Int) (wrap64 (x26_2 + 1))) else (none)) = some (r1, r2) := by first | (rw [hy207]; with_reducible exact H) | (have H2_ := (Option.bind_some _ _).symm.trans H; rw [hy207]; with_reducible exact H2_) | (have H2_ := (Option.bind_some _ _).symm.trans H; with_reducible exact H2_) | with_reducible exact H | (rw [hy207]; exact H) | exact H
                          have Ny207 := Aside0.mk hy207
                          clear hy207
                          by_cases c20 : x7_2.length < 17592186044416
                          · rw [if_pos c20] at H
                            have LMc20 := Aside0.mk c20
                            clear c20
                            obtain ⟨y210, hy210⟩ : ∃ y_ : List Int, y_ = (x7_2 ++ [wrap64 (x8_1 + a0)]) := ⟨_, rfl⟩
                            replace H : (impl_QuickSends.l1 k2 a0 a1 y207 y210 x8_1 t203 (t203.length : Int) (wrap64 (x26_2 + 1))) = some (r1, r2) := by first | (rw [hy210]; with_reducible exact H) | (have H2_ := (Option.bind_some _ _).symm.trans H; rw [hy210]; with_reducible exact H2_) | (have H2_ := (Option.bind_some _ _).symm.trans H; with_reducible exact H2_) | with_reducible exact H | (rw [hy210]; exact H) | exact H
                            have Ny210 := Aside0.mk hy210
                            clear hy210
                            have H' := Aside0.mk H
                            clear H
                            have p206 : 0 ≤ (x26_2 : Int) := of_decide_eq_true (by first | (with_reducible assumption) | assumption)
                            have q206 : x26_2 < (t203.length : Int) := of_decide_eq_true (by first | (with_reducible assumption) | assumption)
                            obtain ⟨ad206, e206, hx206_0⟩ := Kd.at_int (Kd.R_reads' HO_24.out).2.2 x26_2 p206 q206
                            cases e206
                            replace p206 := eq_true p206
                            replace q206 := eq_true q206
                            obtain ⟨Ao21, co21, eo21⟩ := Kd.R_slice HO_7.out
                            subst eo21
                            go_wp2_with (first | ((with_reducible refine gate_builtin (b := .append) (xs := #[.tmp 40, .tmp 46]) rfl ?_); (try (refine gate_guard (by rfl) ?_; dsimp only)); at_builtin; refine Kd.R_append k36 (w0 := w) w.heap.size rfl (.tmp 40) (.tmp 46) 28 36 (.agg #[(.int .i64 0), (.int .i64 0), (.int .i64 0)]) 24 rfl Try.underlying28 info36 rfl (by decide) (by omega) u6 x6_2 (⟨x26_2, (x7_2.length : Int), x8_1⟩ : S36) [.int .i64 x26_2, .int .i64 (x7_2.length : Int), .int .i64 x8_1] (fun _ => True) (fun _ => False) rfl rfl ?aP (fun _ hk => hk.elim) ?aF ?aO ?aB ?aS ?aL ?_; (case aP => exact k36_mkM _ _ _ (⟨x26_2, (x7_2.length : Int), x8_1⟩ : S36)); (case aB => exact (by repeat (first | (with_reducible first | exact HB.out | apply below_alloc | apply pw_below_drewN | apply below_drew1) | exact HB.out))); (case aF => exact (fun _ _ => trivial)); (case aO => exact (by (with_reducible repeat (first | apply Kd.R_alloc | apply Kd.R_drewN | apply Kd.R_drew)); exact HO_6.out)); (case aS => exact (below_size (by repeat (first | (with_reducible first | exact HB.out | apply below_alloc | apply pw_below_drewN | apply below_drew1) | exact HB.out)))); (case aL => have := LMc19.out; omega); intro v208 w22 ho hb hg hat; rw [← Ny207.out] at ho; have n0_ := Aside0.mk (Kd.R_over' (by (with_reducible repeat (first | apply Kd.R_alloc | apply Kd.R_drewN | apply Kd.R_drew)); exact HO_7.out) (Kd.R_typed (by (with_reducible repeat (first | apply Kd.R_alloc | apply Kd.R_drewN | apply Kd.R_drew)); exact HO_6.out)) (by decide) hg); have n1_ := Aside0.mk (Kd.R_over' (by (with_reducible repeat (first | apply Kd.R_alloc | apply Kd.R_drewN | apply Kd.R_drew)); exact HO_24.out) (Kd.R_typed (by (with_reducible repeat (first | apply Kd.R_alloc | apply Kd.R_drewN | apply Kd.R_drew)); exact HO_6.out)) (by decide) hg); have n2_ := Aside0.mk (hb); have n3_ := Aside0.mk (ho); clear HO_7; clear HO_24; clear HB; clear HO_6; have HO_7 := n0_; have HO_24 := n1_; have HB := n2_; have HO209 := n3_; clear n0_ n1_ n2_ n3_; clear ho hb hg hat) | ((with_reducible refine gate_builtin (b := .append) (xs := #[.tmp 48, .tmp 52]) rfl ?_); (try (refine gate_guard (by rfl) ?_; dsimp only)); at_builtin; refine Kd.R_append (Kd.int .i64) (w0 := w) w.heap.size rfl (.tmp 48) (.tmp 52) 42 3 (.int .i64 0) 8 rfl Try.underlying42 info3 rfl (by decide) (by omega) (.slice Ao21 x7_2.length co21) x7_2 (wrap64 (x8_1 + a0)) [.int .i64 (wrap64 (x8_1 + a0))] (fun k_ => some k_ ≠ (.slice (some ad206) t203.length co13 : Value).ownBlock) (fun _ => False) rfl rfl ?aP (fun _ hk => hk.elim) ?aF ?aO ?aB ?aS ?aL ?_; (case aP => exact rfl); (case aB => exact (by repeat (first | (with_reducible first | exact HB.out | apply below_alloc | apply pw_below_drewN | apply below_drew1) | exact HB.out))); (case aF => exact (fun k_ hk => Kd.fresh' (Kd.R_lt (by (with_reducible repeat (first | apply Kd.R_alloc | apply Kd.R_drewN | apply Kd.R_drew)); exact HO_24.out)) k_ hk)); (case aO => exact (by (with_reducible repeat (first | apply Kd.R_alloc | apply Kd.R_drewN | apply Kd.R_drew)); exact HO_7.out)); (case aS => exact (below_size (by repeat (first | (with_reducible first | exact HB.out | apply below_alloc | apply pw_below_drewN | apply below_drew1) | exact HB.out)))); (case aL => have := LMc20.out; omega); intro v211 w23 ho hb hg hat; rw [← Ny210.out] at ho; have n0_ := Aside0.mk (Kd.R_after (ok := (fun _ => True)) (by (with_reducible repeat (first | apply Kd.R_alloc | apply Kd.R_drewN | apply Kd.R_drew)); exact Kd.R_mono HO_24.out (fun _ hk => ⟨trivial, hk⟩)) hg hat); have n1_ := Aside0.mk (Kd.R_over' (by (with_reducible repeat (first | apply Kd.R_alloc | apply Kd.R_drewN | apply Kd.R_drew)); exact HO209.out) (Kd.R_typed (by (with_reducible repeat (first | apply Kd.R_alloc | apply Kd.R_drewN | apply Kd.R_drew)); exact HO_7.out)) (by decide) hg); have n2_ := Aside0.mk (hb); have n3_ := Aside0.mk (ho); clear HO_24; clear HO209; clear HB; clear HO_7; have HO_24 := n0_; have HO209 := n1_; have HB := n2_; have HO212 := n3_; clear n0_ n1_ n2_ n3_; clear ho hb hg hat))
                            go_roundg k2
                            case measure => have := HK1.out; have := HK2.out; omega
                            case rel => exact ⟨(y207), (y210), (wrap64 (x26_2 + 1)), (by first | rfl | (simp; done) | (simp [*]; done)), H', ⟨by have := HK1.out; have := HK2.out; omega⟩, ⟨by (with_reducible repeat (first | apply Kd.R_alloc | apply Kd.R_drewN | apply Kd.R_drew)); exact HO209.out⟩, ⟨by (with_reducible repeat (first | apply Kd.R_alloc | apply Kd.R_drewN | apply Kd.R_drew)); exact HO212.out⟩, ⟨by (with_reducible repeat (first | apply Kd.R_alloc | apply Kd.R_drewN | apply Kd.R_drew)); exact Kd.R_mono HO_24.out (fun _ hk => hk.2)⟩, ⟨by repeat (first | (with_reducible first | exact HB.out | apply below_alloc | apply pw_below_drewN | apply below_drew1) | exact HB.out)⟩⟩
                          · rw [if_neg c20] at H
                            exact absurd H (by simp)
                        · rw [if_neg c19] at H
                          exact absurd H (by simp)
                      · rw [if_neg c18] at H
                        have c18b0 : decide ((x7_2.length : Int) < a1) = false := decide_eq_false c18
                        clear c18
                        have H' := Aside0.mk H
                        clear H
                        have p206 : 0 ≤ (x26_2 : Int) := of_decide_eq_true (by first | (with_reducible assumption) | assumption)
                        have q206 : x26_2 < (t203.length : Int) := of_decide_eq_true (by first | (with_reducible assumption) | assumption)
                        obtain ⟨ad206, e206, hx206_0⟩ := Kd.at_int (Kd.R_reads' HO_24.out).2.2 x26_2 p206 q206
                        cases e206
                        replace p206 := eq_true p206
                        replace q206 := eq_true q206
                        obtain ⟨Ao24, co24, eo24⟩ := Kd.R_slice HO_7.out
                        subst eo24
                        go_wp2
                        go_roundg k2
                        case measure => have := HK1.out; have := HK2.out; omega
                        case rel => exact ⟨(x6_2), (x7_2), (wrap64 (x26_2 + 1)), (by first | rfl | (simp; done) | (simp [*]; done)), H', ⟨by have := HK1.out; have := HK2.out; omega⟩, ⟨by (with_reducible repeat (first | apply Kd.R_alloc | apply Kd.R_drewN | apply Kd.R_drew)); exact HO_6.out⟩, ⟨by (with_reducible repeat (first | apply Kd.R_alloc | apply Kd.R_drewN | apply Kd.R_drew)); exact HO_7.out⟩, ⟨by (with_reducible repeat (first | apply Kd.R_alloc | apply Kd.R_drewN | apply Kd.R_drew)); exact HO_24.out⟩, ⟨by repeat (first | (with_reducible first | exact HB.out | apply below_alloc | apply pw_below_drewN | apply below_drew1) | exact HB.out)⟩⟩
                    · rw [if_neg c17] at H
                      have c17b0 : decide ((rd t203 x26_2) ≤ x8_1) = false := decide_eq_false c17
                      clear c17
                      have H' := Aside0.mk H
                      clear H
                      have p206 : 0 ≤ (x26_2 : Int) := of_decide_eq_true (by first | (with_reducible assumption) | assumption)
                      have q206 : x26_2 < (t203.length : Int) := of_decide_eq_true (by first | (with_reducible assumption) | assumption)
                      obtain ⟨ad206, e206, hx206_0⟩ := Kd.at_int (Kd.R_reads' HO_24.out).2.2 x26_2 p206 q206
                      cases e206
                      replace p206 := eq_true p206
                      replace q206 := eq_true q206
                      go_wp2
                      go_roundg k2
                      case measure => have := HK1.out; have := HK2.out; omega
                      case rel => exact ⟨(x6_2), (x7_2), (wrap64 (x26_2 + 1)), (by first | rfl | (simp; done) | (simp [*]; done)), H', ⟨by have := HK1.out; have := HK2.out; omega⟩, ⟨by (with_reducible repeat (first | apply Kd.R_alloc | apply Kd.R_drewN | apply Kd.R_drew)); exact HO_6.out⟩, ⟨by (with_reducible repeat (first | apply Kd.R_alloc | apply Kd.R_drewN | apply Kd.R_drew)); exact HO_7.out⟩, ⟨by (with_reducible repeat (first | apply Kd.R_alloc | apply Kd.R_drewN | apply Kd.R_drew)); exact HO_24.out⟩, ⟨by repeat (first | (with_reducible first | exact HB.out | apply below_alloc | apply pw_below_drewN | apply below_drew1) | exact HB.out)⟩⟩
                  · rw [if_neg c16] at H
                    first | exact absurd (beq_iff_eq.mp c14b0) c16 | exact absurd (of_decide_eq_true c14b0) c16
                · rw [if_neg c15] at H
                  exact absurd H (by simp)
              · rw [if_neg c14] at H
                have c14b0 : decide (x26_2 < (t203.length : Int)) = false := decide_eq_false c14
                clear c14
                have H' := Aside0.mk H
                clear H
                go_wp2
                go_roundg k2
                case measure => have := HK1.out; have := HK2.out; omega
                case rel => exact ⟨(x6_2), (x7_2), (wrap64 (x8_1 + 1)), (by first | rfl | (simp; done) | (simp [*]; done)), H', ⟨by have := HK1.out; have := HK2.out; omega⟩, ⟨by (with_reducible repeat (first | apply Kd.R_alloc | apply Kd.R_drewN | apply Kd.R_drew)); exact HO_6.out⟩, ⟨by (with_reducible repeat (first | apply Kd.R_alloc | apply Kd.R_drewN | apply Kd.R_drew)); exact Kd.R_mono HO_7.out (fun _ hk => trivial)⟩, ⟨by repeat (first | (with_reducible first | exact HB.out | apply below_alloc | apply pw_below_drewN | apply below_drew1) | exact HB.out)⟩⟩
        · rw [if_neg c9] at H
          have c9b0 : decide ((x7_1.length : Int) < a1) = false := decide_eq_false c9
          clear c9
          simp only [Option.some.injEq, Prod.mk.injEq] at H
          obtain ⟨rfl, rfl⟩ := H
          obtain ⟨Ao25, co25, eo25⟩ := Kd.R_slice HO_7.out
          subst eo25
          go_wp2
          go_ret2
          exact ⟨_, by first | rfl | (simp [errW_none, errW_some] <;> rfl) | (simp [*, errW_none, errW_some] <;> rfl), by (with_reducible repeat (first | apply Kd.R_alloc | apply Kd.R_drewN | apply Kd.R_drew)); exact HO_6.out, by repeat (first | (with_reducible first | exact HB.out | apply below_alloc | apply pw_below_drewN | apply below_drew1) | exact HB.out)⟩
  · replace c4 := Bool.eq_false_iff.mpr c4
    subst c4
    have H1 : (some (([] : List (S36)), false)) = some (r1, r2) := by rw [if_neg (show ¬ (false = true) by decide)] at H; exact H
    clear H
    have H := H1
    clear H1
    simp only [Option.some.injEq, Prod.mk.injEq] at H
    obtain ⟨rfl, rfl⟩ := H
    go_enter Try.func17, Try.ntmps17
    go_wp2_with (first | ((with_reducible refine gate_callee (f := 34) rfl ?_); refine goesL_ (some 13) rfl rfl Try.func34 (by kernel_rfl) rfl #[.int .i64 a0, .int .i64 a1] rfl (by (try simp only [List.map_toArray, List.map_cons, List.map_nil]); first | done | rfl | (simp only [List.length_drop, List.length_take]; rfl)) ?_; (with_reducible refine (impl_areDelayed.calls a0 a1 false _ A3.out).mono ?_); rintro e w' ⟨rfl, ⟨nd, rfl⟩⟩; refine ⟨_, rfl, ?_⟩))
    go_ret2
    exact ⟨_, by first | rfl | (simp [errW_none, errW_some] <;> rfl) | (simp [*, errW_none, errW_some] <;> rfl), by first | exact Kd.R_nil _ _ _ _ _ | exact Kd.N_nil _ _ _ _ _ | exact Kd.V_nil _ _ _ _ _ | exact Kd.Q_nil _ _ _ _ _ | exact Kd.S_nil _ _ _ _ _, by repeat (first | (with_reducible first | exact HB.out | apply below_alloc | apply pw_below_drewN | apply below_drew1) | exact HB.out)⟩

/-! ### spec_deAsked: function 36 -/
def spec_deAsked.f (a0 : Int) (a1 : Int) : Option (Bool) := (spec_deDelay.f a0).bind fun t213 => (if t213 = true then ((spec_l1In.f a1 1 40).bind fun t214 => (some t214)) else (some false))
set_option maxHeartbeats 8000000 in
set_option maxRecDepth 100000 in
theorem spec_deAsked.calls (a0 : Int) (a1 : Int) (r : Bool) (w : World) (h : spec_deAsked.f a0 a1 = some r) :
    Calls Try.prog 36 #[.int .i64 a0, .int .i64 a1] w fun e w' => e = .returned (.bool r) ∧ Drawn0 w w' := by
  have H : ((spec_deDelay.f a0).bind fun t213 => (if t213 = true then ((spec_l1In.f a1 1 40).bind fun t214 => (some t214)) else (some false))) = some r := h
  clear h
  replace H := Option.bind_eq_some_iff.mp H
  obtain ⟨t213, A30, H⟩ := H
  replace H : (if t213 = true then ((spec_l1In.f a1 1 40).bind fun t214 => (some t214)) else (some false)) = some r := H
  have A3 := Aside0.mk A30
  clear A30
  by_cases c4 : t213 = true
  · subst c4
    have H1 : ((spec_l1In.f a1 1 40).bind fun t214 => (some t214)) = some r := by rw [if_pos rfl] at H; exact H
    clear H
    have H := H1
    clear H1
    replace H := Option.bind_eq_some_iff.mp H
    obtain ⟨t214, A50, H⟩ := H
    replace H : (some t214) = some r := H
    have A5 := Aside0.mk A50
    clear A50
    obtain rfl := Option.some.inj H
    go_enter Try.func36, Try.ntmps36
    go_wp2_with (first | ((with_reducible refine gate_callee (f := 26) rfl ?_); refine goesL_ (some 6) rfl rfl Try.func26 (by kernel_rfl) rfl #[.int .i64 a0] rfl (by (try simp only [List.map_toArray, List.map_cons, List.map_nil]); first | done | rfl | (simp only [List.length_drop, List.length_take]; rfl)) ?_; (with_reducible refine (spec_deDelay.calls a0 true _ A3.out).mono ?_); rintro e w' ⟨rfl, ⟨nd, rfl⟩⟩; refine ⟨_, rfl, ?_⟩) | (go_at_call 27; (with_reducible refine (spec_l1In.calls a1 1 40 t214 _ A5.out).mono ?_); rintro e w' ⟨rfl, ⟨nd, rfl⟩⟩))
    go_ret
    exact ⟨by first | rfl | (simp; done) | (simp [*]; done), by repeat (first | exact Drawn0.refl _ | apply Drawn0.step)⟩
  · replace c4 := Bool.eq_false_iff.mpr c4
    subst c4
    have H1 : (some false) = some r := by rw [if_neg (show ¬ (false = true) by decide)] at H; exact H
    clear H
    have H := H1
    clear H1
    obtain rfl := Option.some.inj H
    go_enter Try.func36, Try.ntmps36
    go_wp2_with (first | ((with_reducible refine gate_callee (f := 26) rfl ?_); refine goesL_ (some 6) rfl rfl Try.func26 (by kernel_rfl) rfl #[.int .i64 a0] rfl (by (try simp only [List.map_toArray, List.map_cons, List.map_nil]); first | done | rfl | (simp only [List.length_drop, List.length_take]; rfl)) ?_; (with_reducible refine (spec_deDelay.calls a0 false _ A3.out).mono ?_); rintro e w' ⟨rfl, ⟨nd, rfl⟩⟩; refine ⟨_, rfl, ?_⟩))
    go_ret
    exact ⟨by first | rfl | (simp; done) | (simp [*]; done), by repeat (first | exact Drawn0.refl _ | apply Drawn0.step)⟩

end Go.Proofs.Ytjkjdlpmbpgjgaa.PFnNewsDelayed
