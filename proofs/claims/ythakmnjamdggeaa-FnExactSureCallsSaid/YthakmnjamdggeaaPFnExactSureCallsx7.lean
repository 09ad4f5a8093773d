/- Printed by a program of this session (wip/pp) over the kit's print, for FnExactSureCalls. No conditions beyond those that each theorem names. -/
import Derived.Test.YthakmnjamdggeaaPFnExactSureCallsx0
namespace Go.Proofs.Ythakmnjamdggeaa.PFnExactSureCalls
open Go.RowKit Go.Proofs.YthakmnjamdggeaaW.PrintWords Go.Proofs.YthakmnjamdggeaaW.PrintLast Go.Proofs.YthakmnjamdggeaaW.PrintMore
attribute [local go_sem] max2_int min2_int max_two min_two max_three min_three max_four min_four   -- for this text's walks alone
set_option linter.unusedVariables false
set_option linter.unusedSimpArgs false

/-! ### impl_first: function 115 -/
def impl_first.l0 : Nat → List Int → Int → Int → Option (List Int)
  | 0, _, _, _ => none
  | k + 1, x3, x6, x7 => if x7 < x6 then (if 0 ≤ x7 then (if x3.length < 70368744177664 then (impl_first.l0 k (x3 ++ [shl .u16 1 x7]) x6 (wrap64 (x7 + 1))) else (none)) else (none)) else (some x3)
def impl_first.f (k : Nat) (a0 : Int) : Option (List Int) := impl_first.l0 k (([] : List Int)) a0 0
theorem impl_first.mono_l : ∀ k, (∀ y0 y1 y2, LeO (impl_first.l0 k y0 y1 y2) (impl_first.l0 (k + 1) y0 y1 y2))
  | 0 => fun _ _ _ r h => by simp [impl_first.l0] at h
  | k + 1 => by
    have ih0 := impl_first.mono_l k
    · intro y0 y1 y2
      unfold impl_first.l0
      repeat' first
      | (with_reducible exact ih0 _ _ _)
      | (with_reducible exact LeO.refl _)
      | (with_reducible exact LeO.none _)
      | (with_reducible refine LeO.ite ?_ ?_)
      | (with_reducible refine LeO.bind ?_ (fun _ => ?_))
      | exact ih0 _ _ _
      | exact LeO.none _
      | refine LeO.ite ?_ ?_
      | refine LeO.bind ?_ (fun _ => ?_)
theorem impl_first.mono : ∀ a0 k, LeO (impl_first.f k a0) (impl_first.f (k + 1) a0) := by
  intro a0 k
  have ih0 := impl_first.mono_l k
  unfold impl_first.f
  repeat' first
      | (with_reducible exact ih0 _ _ _)
      | (with_reducible exact LeO.refl _)
      | (with_reducible exact LeO.none _)
      | (with_reducible refine LeO.ite ?_ ?_)
      | (with_reducible refine LeO.bind ?_ (fun _ => ?_))
      | exact ih0 _ _ _
      | exact LeO.none _
      | refine LeO.ite ?_ ?_
      | refine LeO.bind ?_ (fun _ => ?_)
set_option maxHeartbeats 8000000 in
set_option maxRecDepth 100000 in
theorem impl_first.calls (k : Nat) (a0 : Int) (r : List Int) (w : World) (h : impl_first.f k a0 = some r) :
    Calls Try.prog 115 #[.int .i64 a0] w fun e w' => ∃ v0_ : Value, e = .returned (v0_) ∧ Kd.R (Kd.int .u16) 120 w' w.heap.size (fun _ => True) v0_ r ∧ Below w.heap.size w w' := by
  have HB := Aside0.mk (Below.refl w.heap.size w)
  have H : (impl_first.l0 k (([] : List Int)) a0 0) = some r := h
  clear h
  obtain ⟨y208, hy208⟩ : ∃ y_ : List Int, y_ = (([] : List Int)) := ⟨_, rfl⟩
  replace H : (impl_first.l0 k y208 a0 0) = some r := by first | (rw [hy208]; with_reducible exact H) | (have H2_ := (Option.bind_some _ _).symm.trans H; rw [hy208]; with_reducible exact H2_) | (have H2_ := (Option.bind_some _ _).symm.trans H; with_reducible exact H2_) | with_reducible exact H | (rw [hy208]; exact H) | exact H
  have Ny208 := Aside0.mk hy208
  clear hy208
  have H' := Aside0.mk H
  clear H
  go_enter Try.func115, Try.ntmps115
  go_wp2_with (first | ((with_reducible refine gate_dst (N := 5) rfl ?_); refine Kd.R_lit (Kd.int .u16) _ 120 ?hg (N := 5) ?hd (xs := ([] : List Int)) (inner := []) (ok := fun _ => True) (okp := fun _ => True) ?hr ?hp (fun _ hk => hk) trivial (Below.refl _ _) (Nat.le_refl _) (by simp) ?_; (case hd => rfl); (case hg => rfl); (case hr => first | (go_simp; done) | (go_simp; rfl)); (case hp => exact (Reps.none _ _)); intro v209 w2 ho3 hb hg_ hnew_; clear hg_ hnew_; (first | rw [← Ny208.out] at ho3 | (simp only [Int.reduceToNat] at ho3; rw [← Ny208.out] at ho3)); have n0_ := Aside0.mk (Kd.R_lower ho3 (below_size (by repeat (first | (with_reducible first | exact HB.out | apply below_alloc | apply pw_below_drewN | apply below_drew1) | exact HB.out)))); have n1_ := Aside0.mk (below_step (by repeat (first | (with_reducible first | exact HB.out | apply below_alloc | apply pw_below_drewN | apply below_drew1) | exact HB.out)) hb); clear HB; have HO210 := n0_; have HB := n1_; clear n0_ n1_; clear hb ho3))
  go_loopg [3, 7] k (fun kq v3 v7 w' => ∃ (x3_1 : List Int) (x7_1 : Int), v7 = .int .i64 x7_1 ∧ Aside0 (impl_first.l0 kq x3_1 a0 x7_1 = some r) ∧ Aside0 (kq ≤ k) ∧ Aside0 (Kd.R (Kd.int .u16) 120 w' w.heap.size (fun _ => True) v3 x3_1) ∧ Aside0 (Below w.heap.size w w'))
  case atStart => exact ⟨(y208), (0), (by first | rfl | (simp; done) | (simp [*]; done)), H', ⟨Nat.le_refl _⟩, ⟨by (with_reducible repeat (first | apply Kd.R_alloc | apply Kd.R_drewN | apply Kd.R_drew)); exact HO210.out⟩, ⟨by repeat (first | (with_reducible first | exact HB.out | apply below_alloc | apply pw_below_drewN | apply below_drew1) | exact HB.out)⟩⟩
  case round =>
    clear H'
    try clear c1
    try clear p2
    obtain ⟨x3_1, x7_1, rfl, HA, HK1, HO_3, HB⟩ := hrel
    cases gk with
    | zero => exact absurd HA.out (by simp [impl_first.l0])
    | succ k1 =>
      have H := HA.out
      clear HA
      simp only [impl_first.l0] at H
      by_cases c4 : x7_1 < a0
      · rw [if_pos c4] at H
        have c4b0 : decide (x7_1 < a0) = true := decide_eq_true c4
        clear c4
        by_cases c5 : 0 ≤ x7_1
        · rw [if_pos c5] at H
          have c5b0 := eq_true c5
          have c5b1 : decide (0 ≤ x7_1) = true := decide_eq_true c5
          clear c5
          obtain ⟨ji6, hji6⟩ : ∃ j_ : Int, (shl .u16 1 x7_1) = j_ := ⟨_, rfl⟩
          replace H : (if x3_1.length < 70368744177664 then (impl_first.l0 k1 (x3_1 ++ [ji6]) a0 (wrap64 (x7_1 + 1))) else (none)) = some r := by first | (rw [hji6] at H; exact H) | (simp only [hji6] at H ⊢; exact H)
          have hji6_ : (IntKind.u16.wrap (1 * 2 ^ min x7_1.toNat 16)) = ji6 := hji6
          have hji6z : x7_1 ≤ 16 → (IntKind.u16.wrap (1 * 2 ^ x7_1.toNat)) = ji6 := shl_small hji6
          have hji6u : (IntKind.u16.wrap (2 ^ min x7_1.toNat 16)) = ji6 := by have h_ := hji6_; rw [Int.one_mul] at h_; exact h_
          have hji6v : x7_1 ≤ 16 → (IntKind.u16.wrap (2 ^ x7_1.toNat)) = ji6 := fun hle_ => by have h_ := hji6z hle_; rw [Int.one_mul] at h_; exact h_
          by_cases c7 : x3_1.length < 70368744177664
          · rw [if_pos c7] at H
            have LMc7 := Aside0.mk c7
            clear c7
            obtain ⟨y211, hy211⟩ : ∃ y_ : List Int, y_ = (x3_1 ++ [ji6]) := ⟨_, rfl⟩
            replace H : (impl_first.l0 k1 y211 a0 (wrap64 (x7_1 + 1))) = some r := by first | (rw [hy211]; with_reducible exact H) | (have H2_ := (Option.bind_some _ _).symm.trans H; rw [hy211]; with_reducible exact H2_) | (have H2_ := (Option.bind_some _ _).symm.trans H; with_reducible exact H2_) | with_reducible exact H | (rw [hy211]; exact H) | exact H
            have Ny211 := Aside0.mk hy211
            clear hy211
            have H' := Aside0.mk H
            clear H
            go_wp2_with (first | ((with_reducible refine gate_builtin (b := .append) (xs := #[.tmp 10, .tmp 13]) rfl ?_); at_builtin; refine Kd.R_append (Kd.int .u16) (w0 := w) w.heap.size rfl (.tmp 10) (.tmp 13) 116 120 (.int .u16 0) 2 rfl Try.underlying116 info120 rfl (by decide) (by omega) u3 x3_1 ji6 [.int .u16 ji6] (fun _ => True) (fun _ => False) rfl rfl ?aP (fun _ hk => hk.elim) ?aF ?aO ?aB ?aS ?aL ?_; (case aP => exact rfl); (case aB => exact (by repeat (first | (with_reducible first | exact HB.out | apply below_alloc | apply pw_below_drewN | apply below_drew1) | exact HB.out))); (case aF => exact (fun _ _ => trivial)); (case aO => exact (by (with_reducible repeat (first | apply Kd.R_alloc | apply Kd.R_drewN | apply Kd.R_drew)); exact HO_3.out)); (case aS => exact (below_size (by repeat (first | (with_reducible first | exact HB.out | apply below_alloc | apply pw_below_drewN | apply below_drew1) | exact HB.out)))); (case aL => have := LMc7.out; omega); intro v212 w8 ho hb hg hat; rw [← Ny211.out] at ho; have n0_ := Aside0.mk (hb); have n1_ := Aside0.mk (ho); clear HB; clear HO_3; have HB := n0_; have HO213 := n1_; clear n0_ n1_; clear ho hb hg hat))
            go_roundg k1
            case measure => have := HK1.out; omega
            case rel => exact ⟨(y211), (wrap64 (x7_1 + 1)), (by first | rfl | (simp; done) | (simp [*]; done)), H', ⟨by have := HK1.out; omega⟩, ⟨by (with_reducible repeat (first | apply Kd.R_alloc | apply Kd.R_drewN | apply Kd.R_drew)); exact HO213.out⟩, ⟨by repeat (first | (with_reducible first | exact HB.out | apply below_alloc | apply pw_below_drewN | apply below_drew1) | exact HB.out)⟩⟩
          · rw [if_neg c7] at H
            exact absurd H (by simp)
        · rw [if_neg c5] at H
          exact absurd H (by simp)
      · rw [if_neg c4] at H
        have c4b0 : decide (x7_1 < a0) = false := decide_eq_false c4
        clear c4
        obtain rfl := Option.some.inj H
        go_wp2
        go_ret
        exact ⟨_, by first | rfl | (simp [errW_none, errW_some] <;> rfl) | (simp [*, errW_none, errW_some] <;> rfl), by (with_reducible repeat (first | apply Kd.R_alloc | apply Kd.R_drewN | apply Kd.R_drew)); exact HO_3.out, by repeat (first | (with_reducible first | exact HB.out | apply below_alloc | apply pw_below_drewN | apply below_drew1) | exact HB.out)⟩

/-! ### impl_news_meet: function 116, by hand -/
/-- what is known behind a call -/
def meetL (t : List Int) (c : S74) : List Int := (t.set c.f0.toNat (Go.bits .or .u16 (rd t c.f0) (rd t c.f1))).set c.f1.toNat (Go.bits .or .u16 (rd t c.f0) (rd t c.f1))
theorem meetL_len (t : List Int) (c : S74) : (meetL t c).length = t.length := by simp [meetL]
set_option maxHeartbeats 1000000 in
set_option maxRecDepth 100000 in
theorem meet_own (c : S74) (g cap : Nat) (xs : List Int) (ok : Nat → Prop) (w0 w : World) (HO : Kd.R (Kd.int .u16) 120 w w0.heap.size ok (.slice (some ⟨g, 0, none⟩) xs.length cap) xs) (HB : Below w0.heap.size w0 w)
    (h0 : 0 ≤ c.f0) (h1 : c.f0 < c.f1) (h2 : c.f1 < xs.length) :
    Calls Try.prog 116 #[.slice (some ⟨g, 0, none⟩) xs.length cap, .agg #[.int .i64 c.f0, .int .i64 c.f1]] w fun e w' => e = .returned (.tuple #[]) ∧ Kd.R (Kd.int .u16) 120 w' w0.heap.size ok (.slice (some ⟨g, 0, none⟩) (meetL xs c).length cap) (meetL xs c) ∧ Below w0.heap.size w0 w' := by
  have hu := Try.underlying74
  rw [meetL_len]
  obtain ⟨x, y⟩ := c
  obtain ⟨i, rfl⟩ := Int.eq_ofNat_of_zero_le h0
  obtain ⟨j, rfl⟩ := Int.eq_ofNat_of_zero_le (show 0 ≤ y by simp at h1; omega)
  simp only [Int.ofNat_lt] at h1 h2
  obtain ⟨hca, hfa⟩ := Kd.R_celln 0 HO (i : Int) (by omega) (by omega)
  obtain ⟨hcb, hfb⟩ := Kd.R_celln 0 HO (j : Int) (by omega) (by omega)
  simp only [Int.toNat_natCast] at hca hfa hcb hfb
  have hgl := World.block_lt_of_cell? _ _ hca
  have HR := Aside0.mk HO
  have HBB := Aside0.mk HB
  clear HO HB
  go_enter Try.func116, Try.ntmps116
  go_wp2
  go_quiet (fail)
  go_wp2
  go_region
  have hb := Kd.R_base HR.out g (by simp [Value.ownBlock])
  have H1 := Aside0.mk (Kd.R_putn (Kd.R_putn (Kd.R_below HR.out (show Below w.heap.size w ((w.alloc (Obj.cells #[Value.int IntKind.i64 (i : Int), Value.int IntKind.i64 (j : Int)] 74)).drewN (nq + 1)) from pw_below_drewN (below_alloc (Below.refl _ _) _) _)) (i : Int) (Go.bits .or .u16 (rdOf 0 xs (i : Int)) (rdOf 0 xs (j : Int)))) (j : Int) (Go.bits .or .u16 (rdOf 0 xs (i : Int)) (rdOf 0 xs (j : Int))))
  have H2 := Aside0.mk (Below.setCell (Below.setCell (pw_below_drewN (below_alloc HBB.out (Obj.cells #[Value.int IntKind.i64 (i : Int), Value.int IntKind.i64 (j : Int)] 74)) (nq + 1)) (p := ⟨g, i, none⟩) hb (Value.int .u16 (Go.bits .or .u16 (rdOf 0 xs (i : Int)) (rdOf 0 xs (j : Int))))) (p := ⟨g, j, none⟩) hb (Value.int .u16 (Go.bits .or .u16 (rdOf 0 xs (i : Int)) (rdOf 0 xs (j : Int)))))
  clear hca hfa hcb hfb hb
  go_end0
  have h1 := H1.out
  have h2 := H2.out
  simp only [Int.toNat_natCast] at h1 h2
  exact ⟨rfl, by unfold meetL rd; simp only [Int.toNat_natCast]; exact h1, h2⟩


/-! ### impl_after: function 95, by hand -/
/-- (only where all calls are calls of the friends) -/
def impl_after.f (k : Nat) (a0 : Int) (l1 : List S74) : Option (List Int) :=
  (impl_first.f k a0).bind fun t => if l1.length ≤ 1048576 ∧ ∀ c, c ∈ l1 → 0 ≤ c.f0 ∧ c.f0 < c.f1 ∧ c.f1 < t.length then some (l1.foldl meetL t) else none
theorem impl_after.mono : ∀ a0 a1 k, LeO (impl_after.f k a0 a1) (impl_after.f (k + 1) a0 a1) := by
  intro a0 a1 k r h
  unfold impl_after.f at h ⊢
  obtain ⟨p, h1, h2⟩ := Option.bind_eq_some_iff.1 h
  rw [impl_first.mono a0 k _ h1]
  exact h2
theorem meets_len (l : List S74) (t : List Int) : (l.foldl meetL t).length = t.length := by
  induction l generalizing t with
  | nil => rfl
  | cons c l ih => rw [List.foldl_cons, ih, meetL_len]
theorem meets_succ (l : List S74) (t : List Int) (j : Nat) (h : j < l.length) : (l.take (j + 1)).foldl meetL t = meetL ((l.take j).foldl meetL t) l[j] := by
  rw [List.take_succ_eq_append_getElem h, List.foldl_append]
  rfl
set_option maxHeartbeats 1000000 in
set_option maxRecDepth 100000 in
theorem impl_after.calls (k : Nat) (a0 : Int) (A1 : Option Addr) (c1 : Nat) (l1 : List S74) (r : List Int) (w : World) (hr1 : Kd.C k74 w A1 l1.length l1) (hc1 : l1.length ≤ c1) (h : impl_after.f k a0 l1 = some r) :
    Calls Try.prog 95 #[.int .i64 a0, .slice A1 l1.length c1] w fun e w' => ∃ v0_ : Value, e = .returned (v0_) ∧ Kd.R (Kd.int .u16) 120 w' w.heap.size (fun _ => True) v0_ r ∧ Below w.heap.size w w' := by
  unfold impl_after.f at h
  obtain ⟨t, h1, h2⟩ := Option.bind_eq_some_iff.1 h
  clear h
  by_cases hk : l1.length ≤ 1048576 ∧ ∀ c, c ∈ l1 → 0 ≤ c.f0 ∧ c.f0 < c.f1 ∧ c.f1 < t.length
  · rw [if_pos hk] at h2
    obtain rfl := Option.some.inj h2
    have HF := Aside0.mk (impl_first.calls k a0 t w h1)
    have HR1 := Aside0.mk hr1
    have HK := Aside0.mk hk.2
    have hm := hk.1
    have hu := Try.underlying74
    clear h1 h2 hr1 hc1 hk
    go_enter Try.func95, Try.ntmps95
    go_wp2_with (go_at_call 115; refine HF.out.mono ?_; rintro e w1 ⟨v, rfl, hr, hb⟩; have HR := Aside0.mk hr; have HB := Aside0.mk hb; clear hr hb)
    go_loopw [12] (fun n wr => ∃ j : Nat, j ≤ l1.length ∧ n = .int .i64 j ∧ Aside0 (Kd.R (Kd.int .u16) 120 wr w.heap.size (fun _ => True) v ((l1.take j).foldl meetL t)) ∧ Aside0 (Below w.heap.size w wr)) (fun n _ => l1.length - (intOf n).toNat)
    case atStart => exact ⟨0, Nat.zero_le _, rfl, HR, HB⟩
    case round =>
      obtain ⟨j, hj, rfl, HX, HB1⟩ := hrel
      by_cases hlt : j < l1.length
      · have p1 : (0 : Int) ≤ (j : Int) := by omega
        have q1 : (j : Int) < (l1.length : Int) := by omega
        obtain ⟨ad, e1, hx0, hx1⟩ := at_T74 HR1.out (j : Int) p1 q1
        cases e1
        replace hx0 := (HB1.out.cell (World.block_lt_of_cell? w _ hx0)).trans hx0
        replace hx1 := (HB1.out.cell (World.block_lt_of_cell? w _ hx1)).trans hx1
        simp only [Int.toNat_natCast] at hx0 hx1
        have he : rd_T74 l1 (j : Int) = l1[j] := by simp [rd_T74, List.getD_eq_getElem?_getD, List.getElem?_eq_getElem hlt]
        have HS := Aside0.mk ((meets_succ l1 t j hlt).trans (by rw [← he]))
        have hc := HK.out (rd_T74 l1 (j : Int)) (by rw [he]; exact List.getElem_mem hlt)
        have hln : ((l1.take j).foldl meetL t).length = t.length := meets_len _ _
        obtain ⟨g, cap, rfl⟩ := R_form HX.out (by rw [hln]; omega)
        have HC := Aside0.mk (fun (W : World) (hB : Below wr.heap.size wr W) => meet_own (rd_T74 l1 (j : Int)) g cap _ _ w W (Kd.R_below HX.out hB) (HB1.out.trans (hB.mono HB1.out.size)) hc.1 hc.2.1 (by rw [hln]; exact hc.2.2))
        clear hc he
        rw [hln] at HC ⊢
        go_wp2_with (go_at_call 116; refine (HC.out _ ?s1).mono ?_; (case s1 => repeat (first | exact Below.refl _ _ | apply below_alloc | apply pw_below_drewN | apply below_drew1)); rintro e w2 ⟨rfl, h1, h2⟩; have G1 := Aside0.mk h1; have G2 := Aside0.mk h2; clear h1 h2)
        go_roundw
        case rel => exact ⟨j + 1, by omega, by go_num, ⟨by rw [HS.out]; have h1 := G1.out; rw [meetL_len, hln] at h1; exact h1⟩, G2⟩
        case measure => simp [intOf]; omega
      · go_wp2
        go_ret
        exact ⟨_, rfl, by have h1 := HX.out; rw [List.take_of_length_le (by omega)] at h1; exact h1, HB1.out⟩
  · rw [if_neg hk] at h2
    cases h2


/-! ### impl_within: function 75 -/
def impl_within.f (a0 : Int) (a1 : Int) (a2 : Int) : Option (Bool) := if a1 ≤ a0 then (some (decide (a0 ≤ a2))) else (some false)
set_option maxHeartbeats 8000000 in
set_option maxRecDepth 100000 in
theorem impl_within.calls (a0 : Int) (a1 : Int) (a2 : Int) (r : Bool) (w : World) (h : impl_within.f a0 a1 a2 = some r) :
    Calls Try.prog 75 #[.int .i64 a0, .int .i64 a1, .int .i64 a2] w fun e w' => e = .returned (.bool r) ∧ Drawn0 w w' := by
  have H : (if a1 ≤ a0 then (some (decide (a0 ≤ a2))) else (some false)) = some r := h
  clear h
  by_cases c4 : a1 ≤ a0
  · rw [if_pos c4] at H
    have c4b0 : decide (a1 ≤ a0) = true := decide_eq_true c4
    clear c4
    obtain rfl := Option.some.inj H
    go_enter Try.func75, Try.ntmps75
    go_wp2
    go_ret
    exact ⟨by first | rfl | (simp; done) | (simp [*]; done), by repeat (first | exact Drawn0.refl _ | apply Drawn0.step)⟩
  · rw [if_neg c4] at H
    have c4b0 : decide (a1 ≤ a0) = false := decide_eq_false c4
    clear c4
    obtain rfl := Option.some.inj H
    go_enter Try.func75, Try.ntmps75
    go_wp2
    go_ret
    exact ⟨by first | rfl | (simp; done) | (simp [*]; done), by repeat (first | exact Drawn0.refl _ | apply Drawn0.step)⟩

/-! ### impl_areFriends: function 109 -/
def impl_areFriends.f (a0 : Int) : Option (Bool) := (impl_within.f a0 1 10).bind fun t214 => (some t214)
set_option maxHeartbeats 8000000 in
set_option maxRecDepth 100000 in
theorem impl_areFriends.calls (a0 : Int) (r : Bool) (w : World) (h : impl_areFriends.f a0 = some r) :
    Calls Try.prog 109 #[.int .i64 a0] w fun e w' => e = .returned (.bool r) ∧ Drawn0 w w' := by
  have H : ((impl_within.f a0 1 10).bind fun t214 => (some t214)) = some r := h
  clear h
  replace H := Option.bind_eq_some_iff.mp H
  obtain ⟨t214, A20, H⟩ := H
  replace H : (some t214) = some r := H
  have A2 := Aside0.mk A20
  clear A20
  obtain rfl := Option.some.inj H
  go_enter Try.func109, Try.ntmps109
  go_wp2_with (first | ((with_reducible refine gate_callee (f := 75) rfl ?_); refine goesL_ (some 4) rfl rfl Try.func75 (by kernel_rfl) rfl #[.int .i64 a0, .int .i64 1, .int .i64 10] rfl (by (try simp only [List.map_toArray, List.map_cons, List.map_nil]); first | done | rfl | (simp only [List.length_drop, List.length_take]; rfl)) ?_; (with_reducible refine (impl_within.calls a0 1 10 t214 _ A2.out).mono ?_); rintro e w' ⟨rfl, ⟨nd, rfl⟩⟩; refine ⟨_, rfl, ?_⟩))
  go_ret
  exact ⟨by first | rfl | (simp; done) | (simp [*]; done), by repeat (first | exact Drawn0.refl _ | apply Drawn0.step)⟩

/-! ### impl_Call_125: function 125, by hand -/
set_option maxHeartbeats 1000000 in
set_option maxRecDepth 100000 in
theorem idxCall (fn : FuncId) (g : Func) (cap : Array Value) (p : S74 → Bool) (hf : Try.prog.funcs[fn]? = some g) (hname : (g.name == "runtime.NumGoroutine") = false) (hb : g.body.isSome = true)
    (A0 : Option Addr) (c0 : Nat) (l0 : List S74) (w : World) (hr0 : Kd.C k74 w A0 l0.length l0)
    (ho : Owes Try.prog fn (fun x : S74 => .agg #[.int .i64 x.f0, .int .i64 x.f1]) cap p l0 w) :
    Calls Try.prog 125 #[.slice A0 l0.length c0, .func (.func fn) #[] cap] w fun e w' => ∃ r : Int, e = .returned (.int .i64 r) ∧ decide (r ≥ 0) = l0.any p ∧ Below w.heap.size w w' := by
  have hu := Try.underlying74
  have HR0 := Aside0.mk hr0
  have HO := Aside0.mk ho
  have HF := Aside0.mk hf
  have HM := hr0.2.1
  clear hr0 ho hf
  go_enter Try.func125, Try.ntmps125
  go_wp2
  go_loopw [8] (fun v wr => ∃ k : Nat, k ≤ l0.length ∧ v = .int .i64 k ∧ Aside0 ((l0.take k).any p = false) ∧ Aside0 (Below w.heap.size w wr)) (fun v _ => l0.length - (intOf v).toNat)
  case atStart => exact ⟨0, Nat.zero_le _, rfl, ⟨rfl⟩, ⟨Below.refl _ _⟩⟩
  case round =>
    obtain ⟨k, hk, rfl, HA, HB⟩ := hrel
    by_cases hlt : k < l0.length
    · have p1 : (0 : Int) ≤ (k : Int) := by omega
      have q1 : (k : Int) < (l0.length : Int) := by omega
      obtain ⟨ad, e1, hx0, hx1⟩ := at_T74 HR0.out (k : Int) p1 q1
      cases e1
      replace hx0 := (HB.out.cell (World.block_lt_of_cell? w _ hx0)).trans hx0
      replace hx1 := (HB.out.cell (World.block_lt_of_cell? w _ hx1)).trans hx1
      simp only [Int.toNat_natCast] at hx0 hx1
      have hmem := mem_getD l0 k hlt z74
      have hc := HO.out (rd_T74 l0 (k : Int)) (by simpa [rd_T74] using hmem) wr HB.out
      obtain ⟨b, hpb⟩ : ∃ b, p (rd_T74 l0 (k : Int)) = b := ⟨_, rfl⟩
      rw [hpb] at hc
      have HC := Aside0.mk hc
      have HP := Aside0.mk hpb
      clear hc hpb hmem
      cases b with
      | true =>
        go_wp2_with (refine goesV_ (some 16) rfl rfl HF.out hname hb (#[_] ++ cap) rfl rfl (by simp; rfl) ?_; refine HC.out.mono ?_; rintro e w1 ⟨rfl, hb1⟩; refine ⟨_, rfl, ?_⟩)
        go_ret
        exact ⟨_, rfl, by rw [any_of_at p l0 k hlt z74 (by simpa [rd_T74] using HP.out)]; simp, HB.out.trans (hb1.mono HB.out.size)⟩
      | false =>
        go_wp2_with (refine goesV_ (some 16) rfl rfl HF.out hname hb (#[_] ++ cap) rfl rfl (by simp; rfl) ?_; refine HC.out.mono ?_; rintro e w1 ⟨rfl, hb1⟩; refine ⟨_, rfl, ?_⟩)
        go_roundw
        case rel => exact ⟨k + 1, by omega, by go_num, ⟨take_any_snoc p l0 k hlt z74 HA.out (by simpa [rd_T74] using HP.out)⟩, ⟨HB.out.trans (hb1.mono HB.out.size)⟩⟩
        case measure => simp [intOf]; omega
    · go_wp2
      go_ret
      exact ⟨_, rfl, by have h1 := HA.out; rw [List.take_of_length_le (by omega)] at h1; rw [h1]; rfl, HB.out⟩


/-! ### impl_Call_110: function 110, by hand -/
theorem hasCall (fn : FuncId) (g : Func) (cap : Array Value) (p : S74 → Bool) (hf : Try.prog.funcs[fn]? = some g) (hname : (g.name == "runtime.NumGoroutine") = false) (hb : g.body.isSome = true)
    (A0 : Option Addr) (c0 : Nat) (l0 : List S74) (w : World) (hr0 : Kd.C k74 w A0 l0.length l0)
    (ho : Owes Try.prog fn (fun x : S74 => .agg #[.int .i64 x.f0, .int .i64 x.f1]) cap p l0 w) :
    Calls Try.prog 110 #[.slice A0 l0.length c0, .func (.func fn) #[] cap] w fun e w' => e = .returned (.bool (l0.any p)) ∧ Below w.heap.size w w' := by
  have HC := Aside0.mk (idxCall fn g cap p hf hname hb A0 c0 l0 w hr0 ho)
  clear hr0 ho hf
  go_enter Try.func110, Try.ntmps110
  go_wp2_with (go_at_call 125; refine HC.out.mono ?_; rintro e w1 ⟨r, rfl, hr, hb1⟩; have HR := Aside0.mk hr; have HB := Aside0.mk hb1; clear hr hb1)
  go_ret
  exact ⟨by rw [HR.out]; rfl, HB.out⟩

/-! ### impl_isCall: function 112 -/
def impl_isCall.f (a0 : Int) (a1_0 : Int) (a1_1 : Int) : Option (Bool) := if a1_0 ≥ 0 then (if a1_0 < a1_1 then (some (decide (a1_1 < a0))) else (some false)) else (some false)
set_option maxHeartbeats 8000000 in
set_option maxRecDepth 100000 in
theorem impl_isCall.calls (a0 : Int) (a1_0 : Int) (a1_1 : Int) (r : Bool) (w : World) (h : impl_isCall.f a0 a1_0 a1_1 = some r) :
    Calls Try.prog 112 #[.int .i64 a0, .agg #[.int .i64 a1_0, .int .i64 a1_1]] w fun e w' => e = .returned (.bool r) ∧ Below w.heap.size w w' := by
  have hu74 := Try.underlying74
  have HB := Aside0.mk (Below.refl w.heap.size w)
  have H : (if a1_0 ≥ 0 then (if a1_0 < a1_1 then (some (decide (a1_1 < a0))) else (some false)) else (some false)) = some r := h
  clear h
  by_cases c3 : a1_0 ≥ 0
  · rw [if_pos c3] at H
    have c3b0 : decide (0 ≤ a1_0) = true := decide_eq_true c3
    clear c3
    by_cases c4 : a1_0 < a1_1
    · rw [if_pos c4] at H
      have c4b0 : decide (a1_0 < a1_1) = true := decide_eq_true c4
      clear c4
      obtain rfl := Option.some.inj H
      go_enter Try.func112, Try.ntmps112
      go_wp2_with (first | ((with_reducible refine gate_dst (N := 3) rfl ?_); refine box_event ?hg (N := 3) ?hd (cs := #[.int .i64 a1_0, .int .i64 a1_1]) (t := 74) ?hr ?_; (case hd => rfl); (case hg => rfl); (case hr => first | (go_simp; done) | (go_simp; rfl)); intro gb215 hg w5 hbox hb; have n0_ := Aside0.mk (below_step (by repeat (first | (with_reducible first | exact HB.out | apply below_alloc | apply pw_below_drewN | apply below_drew1) | exact HB.out)) hb); have n1_ := Aside0.mk (hbox); have n2_ := Aside0.mk ((by rw [hg]; exact (below_size (by repeat (first | (with_reducible first | exact HB.out | apply below_alloc | apply pw_below_drewN | apply below_drew1) | exact HB.out))) : w.heap.size ≤ gb215)); have n3_ := Aside0.mk ((by rw [hg]; exact (below_size (by repeat (first | (with_reducible first | exact HB.out | apply below_alloc | apply pw_below_drewN | apply below_drew1) | exact HB.out))) : w.heap.size ≤ gb215)); clear HB; have HB := n0_; have BK215 := n1_; have GW215 := n2_; have GE215 := n3_; clear n0_ n1_ n2_ n3_; clear hb hbox hg; have hcz6_0 : w5.cell? ⟨gb215, 0, none⟩ = some (.int .i64 a1_0) := (blk_cell BK215.out 0).trans rfl; have hcz6_1 : w5.cell? ⟨gb215, 1, none⟩ = some (.int .i64 a1_1) := (blk_cell BK215.out 1).trans rfl; have hfz6_0 := blk_frozen BK215.out 0; have hfz6_1 := blk_frozen BK215.out 1))
      go_ret
      exact ⟨by first | rfl | (simp [errW_none, errW_some] <;> rfl) | (simp [*, errW_none, errW_some] <;> rfl), by repeat (first | (with_reducible first | exact HB.out | apply below_alloc | apply pw_below_drewN | apply below_drew1 | refine below_set ?_ GE215.out) | exact HB.out)⟩
    · rw [if_neg c4] at H
      have c4b0 : decide (a1_0 < a1_1) = false := decide_eq_false c4
      clear c4
      obtain rfl := Option.some.inj H
      go_enter Try.func112, Try.ntmps112
      go_wp2_with (first | ((with_reducible refine gate_dst (N := 3) rfl ?_); refine box_event ?hg (N := 3) ?hd (cs := #[.int .i64 a1_0, .int .i64 a1_1]) (t := 74) ?hr ?_; (case hd => rfl); (case hg => rfl); (case hr => first | (go_simp; done) | (go_simp; rfl)); intro gb215 hg w7 hbox hb; have n0_ := Aside0.mk (below_step (by repeat (first | (with_reducible first | exact HB.out | apply below_alloc | apply pw_below_drewN | apply below_drew1) | exact HB.out)) hb); have n1_ := Aside0.mk (hbox); have n2_ := Aside0.mk ((by rw [hg]; exact (below_size (by repeat (first | (with_reducible first | exact HB.out | apply below_alloc | apply pw_below_drewN | apply below_drew1) | exact HB.out))) : w.heap.size ≤ gb215)); have n3_ := Aside0.mk ((by rw [hg]; exact (below_size (by repeat (first | (with_reducible first | exact HB.out | apply below_alloc | apply pw_below_drewN | apply below_drew1) | exact HB.out))) : w.heap.size ≤ gb215)); clear HB; have HB := n0_; have BK215 := n1_; have GW215 := n2_; have GE215 := n3_; clear n0_ n1_ n2_ n3_; clear hb hbox hg; have hcz8_0 : w7.cell? ⟨gb215, 0, none⟩ = some (.int .i64 a1_0) := (blk_cell BK215.out 0).trans rfl; have hcz8_1 : w7.cell? ⟨gb215, 1, none⟩ = some (.int .i64 a1_1) := (blk_cell BK215.out 1).trans rfl; have hfz8_0 := blk_frozen BK215.out 0; have hfz8_1 := blk_frozen BK215.out 1))
      go_ret
      exact ⟨by first | rfl | (simp [errW_none, errW_some] <;> rfl) | (simp [*, errW_none, errW_some] <;> rfl), by repeat (first | (with_reducible first | exact HB.out | apply below_alloc | apply pw_below_drewN | apply below_drew1 | refine below_set ?_ GE215.out) | exact HB.out)⟩
  · rw [if_neg c3] at H
    have c3b0 : decide (0 ≤ a1_0) = false := decide_eq_false c3
    clear c3
    obtain rfl := Option.some.inj H
    go_enter Try.func112, Try.ntmps112
    go_wp2_with (first | ((with_reducible refine gate_dst (N := 3) rfl ?_); refine box_event ?hg (N := 3) ?hd (cs := #[.int .i64 a1_0, .int .i64 a1_1]) (t := 74) ?hr ?_; (case hd => rfl); (case hg => rfl); (case hr => first | (go_simp; done) | (go_simp; rfl)); intro gb215 hg w9 hbox hb; have n0_ := Aside0.mk (below_step (by repeat (first | (with_reducible first | exact HB.out | apply below_alloc | apply pw_below_drewN | apply below_drew1) | exact HB.out)) hb); have n1_ := Aside0.mk (hbox); have n2_ := Aside0.mk ((by rw [hg]; exact (below_size (by repeat (first | (with_reducible first | exact HB.out | apply below_alloc | apply pw_below_drewN | apply below_drew1) | exact HB.out))) : w.heap.size ≤ gb215)); have n3_ := Aside0.mk ((by rw [hg]; exact (below_size (by repeat (first | (with_reducible first | exact HB.out | apply below_alloc | apply pw_below_drewN | apply below_drew1) | exact HB.out))) : w.heap.size ≤ gb215)); clear HB; have HB := n0_; have BK215 := n1_; have GW215 := n2_; have GE215 := n3_; clear n0_ n1_ n2_ n3_; clear hb hbox hg; have hcz10_0 : w9.cell? ⟨gb215, 0, none⟩ = some (.int .i64 a1_0) := (blk_cell BK215.out 0).trans rfl; have hcz10_1 : w9.cell? ⟨gb215, 1, none⟩ = some (.int .i64 a1_1) := (blk_cell BK215.out 1).trans rfl; have hfz10_0 := blk_frozen BK215.out 0; have hfz10_1 := blk_frozen BK215.out 1))
    go_ret
    exact ⟨by first | rfl | (simp [errW_none, errW_some] <;> rfl) | (simp [*, errW_none, errW_some] <;> rfl), by repeat (first | (with_reducible first | exact HB.out | apply below_alloc | apply pw_below_drewN | apply below_drew1 | refine below_set ?_ GE215.out) | exact HB.out)⟩

-- NOT PRINTED: function 111 (impl_AreCalls_1)

/-! ### impl_AreCalls: function 87, by hand -/
def impl_AreCalls.ok (n : Int) (c : S74) : Bool := decide (0 ≤ c.f0 ∧ c.f0 < c.f1 ∧ c.f1 < n)
def impl_AreCalls.f (a0 : Int) (l1 : List S74) : Option Bool := some (decide (1 ≤ a0 ∧ a0 ≤ 10) && decide (l1.length ≤ 60) && !l1.any fun c => !impl_AreCalls.ok a0 c)
theorem isCall_val (n x y : Int) : impl_isCall.f n x y = some (decide (0 ≤ x ∧ x < y ∧ y < n)) := by
  unfold impl_isCall.f
  by_cases h : 0 ≤ x
  · rw [if_pos h]
    by_cases h1 : x < y <;> simp [h, h1]
  · rw [if_neg h]
    simp [h]
theorem areFriends_val (n : Int) : impl_areFriends.f n = some (decide (1 ≤ n ∧ n ≤ 10)) := by
  unfold impl_areFriends.f impl_within.f
  by_cases h : 1 ≤ n <;> simp [h]
set_option maxHeartbeats 1000000 in
set_option maxRecDepth 100000 in
theorem areCalls_1 (n : Int) (c : S74) (B : Nat) (w : World) (hB : B < w.heap.size) (hq : w.cell? ⟨B, 0, none⟩ = some (.int .i64 n)) :
    Calls Try.prog 111 #[.agg #[.int .i64 c.f0, .int .i64 c.f1], .pointer (some ⟨B, 0, none⟩)] w fun e w' => e = .returned (.bool (!impl_AreCalls.ok n c)) ∧ Below w.heap.size w w' := by
  have hu := Try.underlying74
  have HC := Aside0.mk (fun W => impl_isCall.calls n c.f0 c.f1 _ W (isCall_val n c.f0 c.f1))
  have HQ := Aside0.mk (fun (W : World) (hW : Below w.heap.size w W) => (hW.cell hB).trans hq)
  unfold impl_AreCalls.ok
  generalize (decide (0 ≤ c.f0 ∧ c.f0 < c.f1 ∧ c.f1 < n)) = b at HC ⊢
  go_enter Try.func111, Try.ntmps111
  go_wp2_with (go_at_call 112; refine (HC.out _).mono ?_; rintro e w1 ⟨rfl, hb⟩)
  go_ret
  exact ⟨by simp, below_step (by repeat (first | exact Below.refl _ _ | apply below_alloc | apply pw_below_drewN | apply below_drew1)) hb⟩
set_option maxHeartbeats 1000000 in
set_option maxRecDepth 100000 in
theorem impl_AreCalls.calls (a0 : Int) (A1 : Option Addr) (c1 : Nat) (l1 : List S74) (r : Bool) (w : World) (hr1 : Kd.C k74 w A1 l1.length l1) (hc1 : l1.length ≤ c1) (h : impl_AreCalls.f a0 l1 = some r) :
    Calls Try.prog 87 #[.int .i64 a0, .slice A1 l1.length c1] w fun e w' => e = .returned (.bool r) ∧ Below w.heap.size w w' := by
  have hmf : ∀ (fn : Fn) (first cap : Array Value) (w : World), (Instr.makeFunc fn first cap).run Try.prog w = .ok (.func fn first cap) w := fun _ _ _ _ => rfl
  have hm := hr1.2.1
  have HR1 := Aside0.mk hr1
  clear hr1 hc1
  obtain ⟨b0, h0⟩ : ∃ b, decide (1 ≤ a0 ∧ a0 ≤ 10) = b := ⟨_, rfl⟩
  have H0 := Aside0.mk (fun W => impl_areFriends.calls a0 b0 W ((areFriends_val a0).trans (congrArg some h0)))
  unfold impl_AreCalls.f at h
  rw [h0] at h
  cases b0 with
  | false =>
    obtain rfl : r = false := by simpa using h.symm
    go_enter Try.func87, Try.ntmps87
    go_wp2_with (go_at_call 109; refine (H0.out _).mono ?_; rintro e w' ⟨rfl, ⟨nd, rfl⟩⟩)
    go_ret
    exact ⟨by simp, by repeat (first | exact Below.refl _ _ | apply below_alloc | apply pw_below_drewN | apply below_drew1)⟩
  | true =>
    clear h0
    by_cases hlen : l1.length ≤ 60
    · have hlb : decide ((l1.length : Int) ≤ 60) = true := by simp; omega
      have HV := Aside0.mk (show r = !(l1.any fun c => !impl_AreCalls.ok a0 c) by simpa [hlen] using h.symm)
      clear h
      have HC := Aside0.mk (fun (W : World) (hB : Below w.heap.size w W) (hg : w.heap.size < W.heap.size) (hq : W.cell? ⟨w.heap.size, 0, none⟩ = some (.int .i64 a0)) => hasCall 111 _ #[.pointer (some ⟨w.heap.size, 0, none⟩)] (fun c => !impl_AreCalls.ok a0 c) Try.func111 rfl rfl A1 c1 l1 W (Kd.C_below HR1.out hB) (fun x _ W2 hW => areCalls_1 a0 x w.heap.size W2 (Nat.lt_of_lt_of_le hg hW.size) ((hW.cell hg).trans hq)))
      go_enter Try.func87, Try.ntmps87
      go_wp2_with (first | (go_at_call 109; refine (H0.out _).mono ?_; rintro e w' ⟨rfl, ⟨nd, rfl⟩⟩) | (go_at_call 110; refine (HC.out _ ?s1 ?s2 ?s3).mono ?_; (case s1 => repeat (first | exact Below.refl _ _ | apply below_alloc | apply pw_below_drewN | apply below_drew1)); (case s2 => simp); (case s3 => go_simp); rintro e w1 ⟨rfl, hb1⟩))
      go_ret
      exact ⟨by rw [HV.out]; rfl, below_step (by repeat (first | exact Below.refl _ _ | apply below_alloc | apply pw_below_drewN | apply below_drew1)) hb1⟩
    · have hlb : decide ((l1.length : Int) ≤ 60) = false := by simp; omega
      obtain rfl : r = false := by simpa [hlen] using h.symm
      go_enter Try.func87, Try.ntmps87
      go_wp2_with (go_at_call 109; refine (H0.out _).mono ?_; rintro e w' ⟨rfl, ⟨nd, rfl⟩⟩)
      go_ret
      exact ⟨by simp, by repeat (first | exact Below.refl _ _ | apply below_alloc | apply pw_below_drewN | apply below_drew1)⟩

/-! ### impl_isFriend: function 117 -/
def impl_isFriend.f (a0 : Int) (a1 : Int) : Option (Bool) := (impl_within.f a1 0 (wrap64 (a0 - 1))).bind fun t216 => (some t216)
set_option maxHeartbeats 8000000 in
set_option maxRecDepth 100000 in
theorem impl_isFriend.calls (a0 : Int) (a1 : Int) (r : Bool) (w : World) (h : impl_isFriend.f a0 a1 = some r) :
    Calls Try.prog 117 #[.int .i64 a0, .int .i64 a1] w fun e w' => e = .returned (.bool r) ∧ Drawn0 w w' := by
  have H : ((impl_within.f a1 0 (wrap64 (a0 - 1))).bind fun t216 => (some t216)) = some r := h
  clear h
  replace H := Option.bind_eq_some_iff.mp H
  obtain ⟨t216, A30, H⟩ := H
  replace H : (some t216) = some r := H
  have A3 := Aside0.mk A30
  clear A30
  obtain rfl := Option.some.inj H
  go_enter Try.func117, Try.ntmps117
  go_wp2_with (first | ((with_reducible refine gate_callee (f := 75) rfl ?_); refine goesL_ (some 8) rfl rfl Try.func75 (by kernel_rfl) rfl #[.int .i64 a1, .int .i64 0, .int .i64 (wrap64 (a0 - 1))] rfl (by (try simp only [List.map_toArray, List.map_cons, List.map_nil]); first | done | rfl | (simp only [List.length_drop, List.length_take]; rfl)) ?_; (with_reducible refine (impl_within.calls a1 0 (wrap64 (a0 - 1)) t216 _ A3.out).mono ?_); rintro e w' ⟨rfl, ⟨nd, rfl⟩⟩; refine ⟨_, rfl, ?_⟩))
  go_ret
  exact ⟨by first | rfl | (simp; done) | (simp [*]; done), by repeat (first | exact Drawn0.refl _ | apply Drawn0.step)⟩

/-! ### impl_indices: function 118, by hand -/
theorem infInt : (Try.prog.info? 3).map (fun i => (i.zero, i.size, i.bytes)) = some (some (.int .i64 0), 1, 8) := by kernel_rfl
/-- the numbers below n for which p holds -/
def idxs (p : Int → Bool) (n : Nat) : List Int := ((List.range n).map fun i : Nat => (i : Int)).filter p
theorem idxs_succ (p : Int → Bool) (n : Nat) : idxs p (n + 1) = idxs p n ++ if p (n : Int) = true then [(n : Int)] else [] := by
  unfold idxs
  rw [List.range_succ, List.map_append, List.filter_append]
  by_cases h : p (n : Int) = true <;> simp [h]
theorem idxs_len (p : Int → Bool) (n : Nat) : (idxs p n).length ≤ n := Nat.le_trans (List.length_filter_le _ _) (by simp)
set_option maxHeartbeats 1000000 in
set_option maxRecDepth 100000 in
theorem indices_by (fn : FuncId) (g : Func) (cap : Array Value) (p : Int → Bool) (hf : Try.prog.funcs[fn]? = some g) (hname : (g.name == "runtime.NumGoroutine") = false) (hb : g.body.isSome = true)
    (n : Nat) (hn : n ≤ 1048576) (w : World)
    (ho : ∀ i : Nat, i < n → ∀ W, Below w.heap.size w W → Calls Try.prog fn (#[.int .i64 i] ++ cap) W fun e W' => e = .returned (.bool (p i)) ∧ Below W.heap.size W W') :
    Calls Try.prog 118 #[.int .i64 n, .func (.func fn) #[] cap] w fun e w' => ∃ v, e = .returned v ∧ Kd.R (Kd.int .i64) 3 w' w.heap.size (fun _ => True) v (idxs p n) ∧ Below w.heap.size w w' := by
  have HO := Aside0.mk ho
  have HF := Aside0.mk hf
  have HE := Aside0.mk (R_empty (Kd.int .i64) 3 w)
  clear ho hf
  go_enter Try.func118, Try.ntmps118
  go_wp2
  go_loopw [5, 9] (fun v u wr => ∃ k : Nat, k ≤ n ∧ u = .int .i64 k ∧ Aside0 (Kd.R (Kd.int .i64) 3 wr w.heap.size (fun _ => True) v (idxs p k)) ∧ Aside0 (Below w.heap.size w wr)) (fun _ u _ => n - (intOf u).toNat)
  case atStart => exact ⟨0, Nat.zero_le _, rfl, HE, ⟨by repeat (first | exact Below.refl _ _ | apply below_alloc | apply pw_below_drewN | apply below_drew1)⟩⟩
  case round =>
    obtain ⟨k, hk, rfl, HR, HB⟩ := hrel
    by_cases hlt : k < n
    · have hc := HO.out k hlt wr HB.out
      have hl := idxs_len p k
      obtain ⟨b, hpb⟩ : ∃ b, p (k : Int) = b := ⟨_, rfl⟩
      rw [hpb] at hc
      have HC := Aside0.mk hc
      have HP := Aside0.mk hpb
      have HS := Aside0.mk (idxs_succ p k)
      clear hc hpb
      cases b with
      | false =>
        go_wp2_with (refine goesV_ (some 14) rfl rfl HF.out hname hb (#[_] ++ cap) rfl rfl (by simp; rfl) ?_; refine HC.out.mono ?_; rintro e w1 ⟨rfl, hb1⟩; refine ⟨_, rfl, ?_⟩; have H1 := Aside0.mk hb1; clear hb1)
        go_roundw
        case rel => exact ⟨k + 1, by omega, by go_num, ⟨by rw [HS.out, HP.out]; simpa using Kd.R_below HR.out H1.out⟩, ⟨HB.out.trans (H1.out.mono HB.out.size)⟩⟩
        case measure => simp [intOf]; omega
      | true =>
        go_wp2_with (first | (refine goesV_ (some 14) rfl rfl HF.out hname hb (#[_] ++ cap) rfl rfl (by simp; rfl) ?_; refine HC.out.mono ?_; rintro e w1 ⟨rfl, hb1⟩; refine ⟨_, rfl, ?_⟩; have H1 := Aside0.mk hb1; clear hb1) | (at_builtin; refine Kd.R_append (Kd.int .i64) (w0 := w) w.heap.size rfl (.tmp 15) (.tmp 17) 60 3 (.int .i64 0) 8 rfl Try.underlying60 infInt rfl (by decide) (by omega) _ (idxs p k) (k : Int) [.int .i64 k] (fun _ => True) (fun _ => False) rfl rfl rfl (fun _ hk => hk.elim) (fun _ _ => trivial) (Kd.R_below HR.out H1.out) (HB.out.trans (H1.out.mono HB.out.size)) (Nat.le_trans HB.out.size H1.out.size) (by omega) ?_; intro v1 w2 h1 h2 h3 h4; have G1 := Aside0.mk h1; have G2 := Aside0.mk h2; clear h1 h2 h3 h4))
        go_roundw
        case rel => exact ⟨k + 1, by omega, by go_num, ⟨by rw [HS.out, HP.out]; exact G1.out⟩, ⟨G2.out⟩⟩
        case measure => simp [intOf]; omega
    · go_wp2
      go_ret
      exact ⟨_, rfl, by rw [show n = k by omega]; exact HR.out, HB.out⟩


-- NOT PRINTED: function 119 (impl_CallsOf_1)

/-! ### impl_CallsOf: function 96, by hand -/
def inCall (l : List S74) (x j : Int) : Bool := ((rd_T74 l j).f0 == x) || ((rd_T74 l j).f1 == x)
/-- (only where it answers true) -/
def impl_CallsOf.f (a0 : Int) (l1 : List S74) (a2 : Int) : Option (List Int × Bool) := if impl_AreCalls.f a0 l1 = some true ∧ impl_isFriend.f a0 a2 = some true ∧ l1.length ≤ 1048576 then some (idxs (inCall l1 a2) l1.length, true) else none
set_option maxHeartbeats 1000000 in
set_option maxRecDepth 100000 in
theorem callsOf_1 (A1 : Option Addr) (c1 : Nat) (l1 : List S74) (x : Int) (i B0 B1 : Nat) (w : World) (hr1 : Kd.C k74 w A1 l1.length l1) (hc1 : l1.length ≤ c1) (hi : i < l1.length)
    (q0 : w.cell? ⟨B0, 0, none⟩ = some (.slice A1 l1.length c1)) (q1 : w.cell? ⟨B1, 0, none⟩ = some (.int .i64 x)) :
    Calls Try.prog 119 #[.int .i64 i, .pointer (some ⟨B0, 0, none⟩), .pointer (some ⟨B1, 0, none⟩)] w fun e w' => e = .returned (.bool (inCall l1 x i)) ∧ Below w.heap.size w w' := by
  have hu := Try.underlying74
  have p1 : (0 : Int) ≤ (i : Int) := by omega
  have p2 : (i : Int) < (l1.length : Int) := by omega
  obtain ⟨ad, e1, hx0, hx1⟩ := at_T74 hr1 (i : Int) p1 p2
  cases e1
  simp only [Int.toNat_natCast] at hx0 hx1
  unfold inCall
  generalize rd_T74 l1 (i : Int) = c at hx0 hx1 ⊢
  clear hr1 hc1
  by_cases he : c.f0 = x
  · have b0 : (c.f0 == x) = true := by simpa using he
    clear he
    go_enter Try.func119, Try.ntmps119
    go_wp2
    go_quiet (fail)
    go_wp2
    go_ret
    exact ⟨by simp [b0], by repeat (first | exact Below.refl _ _ | apply below_alloc | apply pw_below_drewN | apply below_drew1)⟩
  · have b0 : (c.f0 == x) = false := by simpa using he
    clear he
    go_enter Try.func119, Try.ntmps119
    go_wp2
    go_quiet (fail)
    go_wp2
    go_ret
    exact ⟨by simp [b0], by repeat (first | exact Below.refl _ _ | apply below_alloc | apply pw_below_drewN | apply below_drew1)⟩
set_option maxHeartbeats 1000000 in
set_option maxRecDepth 100000 in
theorem impl_CallsOf.calls (a0 : Int) (A1 : Option Addr) (c1 : Nat) (l1 : List S74) (a2 : Int) (r1 : List Int) (r2 : Bool) (w : World) (hr1 : Kd.C k74 w A1 l1.length l1) (hc1 : l1.length ≤ c1) (h : impl_CallsOf.f a0 l1 a2 = some (r1, r2)) :
    Calls Try.prog 96 #[.int .i64 a0, .slice A1 l1.length c1, .int .i64 a2] w fun e w' => ∃ v0_ : Value, e = .returned (.tuple #[v0_, .bool r2]) ∧ Kd.R (Kd.int .i64) 3 w' w.heap.size (fun _ => True) v0_ r1 ∧ Below w.heap.size w w' := by
  have hmf : ∀ (fn : Fn) (first cap : Array Value) (w : World), (Instr.makeFunc fn first cap).run Try.prog w = .ok (.func fn first cap) w := fun _ _ _ _ => rfl
  unfold impl_CallsOf.f at h
  by_cases hk : impl_AreCalls.f a0 l1 = some true ∧ impl_isFriend.f a0 a2 = some true ∧ l1.length ≤ 1048576
  · rw [if_pos hk] at h
    simp only [Option.some.injEq, Prod.mk.injEq] at h
    obtain ⟨rfl, rfl⟩ := h
    have HA := Aside0.mk (fun (W : World) (hB : Below w.heap.size w W) => impl_AreCalls.calls a0 A1 c1 l1 true W (Kd.C_below hr1 hB) hc1 hk.1)
    have HF := Aside0.mk (fun W => impl_isFriend.calls a0 a2 true W hk.2.1)
    have HN := Aside0.mk (fun (W : World) (i B0 B1 : Nat) (hB : Below w.heap.size w W) (hi : i < l1.length) q0 q1 => callsOf_1 A1 c1 l1 a2 i B0 B1 W (Kd.C_below hr1 hB) hc1 hi q0 q1)
    have HL := Aside0.mk hk.2.2
    clear hk hr1 hc1
    go_enter Try.func96, Try.ntmps96
    go_wp2_with (first
      | (go_at_call 87; refine (HA.out _ ?s1).mono ?_; (case s1 => repeat (first | exact Below.refl _ _ | apply below_alloc | apply pw_below_drewN | apply below_drew1)); rintro e w1 ⟨rfl, hb⟩; have e0 : w1.cell? ⟨w.heap.size, 0, none⟩ = some (.slice A1 l1.length c1) := (hb.cell (p := ⟨w.heap.size, 0, none⟩) (by simp; omega)).trans (by go_simp); have e1 : w1.cell? ⟨w.heap.size + 1, 0, none⟩ = some (.int .i64 a2) := (hb.cell (p := ⟨w.heap.size + 1, 0, none⟩) (by simp)).trans (by go_simp); have hsz : w.heap.size + 2 ≤ w1.heap.size := (by simpa using hb.size); have HB := Aside0.mk (show Below w.heap.size w w1 from below_step (by repeat (first | exact Below.refl _ _ | apply below_alloc | apply pw_below_drewN | apply below_drew1)) hb); clear hb)
      | (go_at_call 117; refine (HF.out _).mono ?_; rintro e w2 ⟨rfl, ⟨nd, rfl⟩⟩)
      | (go_at_call 118; refine (indices_by 119 Try.f119 #[.pointer (some ⟨w.heap.size, 0, none⟩), .pointer (some ⟨w.heap.size + 1, 0, none⟩)] (inCall l1 a2) Try.func119 rfl rfl l1.length HL.out _ (fun i hi W hW => HN.out W i w.heap.size (w.heap.size + 1) ((pw_below_drewN HB.out _).trans (hW.mono (by simp; omega))) hi ((hW.cell (by simp; omega)).trans (by simpa using e0)) ((hW.cell (by simp; omega)).trans (by simpa using e1)))).mono ?_; rintro e w3 ⟨v2, rfl, h1, h2⟩; have H1 := Aside0.mk (Kd.R_lower h1 (show w.heap.size ≤ _ by simp; omega)); have H2 := Aside0.mk ((pw_below_drewN HB.out _).trans (h2.mono (by simp; omega))); clear h1 h2))
    go_ret2
    exact ⟨_, rfl, H1.out, H2.out⟩
  · rw [if_neg hk] at h
    cases h


/-! ### impl_listed: function 97 -/
def impl_listed.l0 : Nat → Int → List Int → Int → Option (List Int)
  | 0, _, _, _ => none
  | k + 1, x0, x3, x6 => if x6 < 16 then (if 0 ≤ x6 then (if (Go.bits .and .u16 (shr .u16 x0 x6) 1) = 1 then (if x3.length < 17592186044416 then (impl_listed.l0 k x0 (x3 ++ [x6]) (wrap64 (x6 + 1))) else (none)) else (impl_listed.l0 k x0 x3 (wrap64 (x6 + 1)))) else (none)) else (some x3)
def impl_listed.f (k : Nat) (a0 : Int) : Option (List Int) := impl_listed.l0 k a0 (([] : List Int)) 0
theorem impl_listed.mono_l : ∀ k, (∀ y0 y1 y2, LeO (impl_listed.l0 k y0 y1 y2) (impl_listed.l0 (k + 1) y0 y1 y2))
  | 0 => fun _ _ _ r h => by simp [impl_listed.l0] at h
  | k + 1 => by
    have ih0 := impl_listed.mono_l k
    · intro y0 y1 y2
      unfold impl_listed.l0
      repeat' first
      | (with_reducible exact ih0 _ _ _)
      | (with_reducible exact LeO.refl _)
      | (with_reducible exact LeO.none _)
      | (with_reducible refine LeO.ite ?_ ?_)
      | (with_reducible refine LeO.bind ?_ (fun _ => ?_))
      | exact ih0 _ _ _
      | exact LeO.none _
      | refine LeO.ite ?_ ?_
      | refine LeO.bind ?_ (fun _ => ?_)
theorem impl_listed.mono : ∀ a0 k, LeO (impl_listed.f k a0) (impl_listed.f (k + 1) a0) := by
  intro a0 k
  have ih0 := impl_listed.mono_l k
  unfold impl_listed.f
  repeat' first
      | (with_reducible exact ih0 _ _ _)
      | (with_reducible exact LeO.refl _)
      | (with_reducible exact LeO.none _)
      | (with_reducible refine LeO.ite ?_ ?_)
      | (with_reducible refine LeO.bind ?_ (fun _ => ?_))
      | exact ih0 _ _ _
      | exact LeO.none _
      | refine LeO.ite ?_ ?_
      | refine LeO.bind ?_ (fun _ => ?_)
set_option maxHeartbeats 8000000 in
set_option maxRecDepth 100000 in
theorem impl_listed.calls (k : Nat) (a0 : Int) (r : List Int) (w : World) (h : impl_listed.f k a0 = some r) :
    Calls Try.prog 97 #[.int .u16 a0] w fun e w' => ∃ v0_ : Value, e = .returned (v0_) ∧ Kd.R (Kd.int .i64) 3 w' w.heap.size (fun _ => True) v0_ r ∧ Below w.heap.size w w' := by
  have HB := Aside0.mk (Below.refl w.heap.size w)
  have H : (impl_listed.l0 k a0 (([] : List Int)) 0) = some r := h
  clear h
  obtain ⟨y217, hy217⟩ : ∃ y_ : List Int, y_ = (([] : List Int)) := ⟨_, rfl⟩
  replace H : (impl_listed.l0 k a0 y217 0) = some r := by first | (rw [hy217]; with_reducible exact H) | (have H2_ := (Option.bind_some _ _).symm.trans H; rw [hy217]; with_reducible exact H2_) | (have H2_ := (Option.bind_some _ _).symm.trans H; with_reducible exact H2_) | with_reducible exact H | (rw [hy217]; exact H) | exact H
  have Ny217 := Aside0.mk hy217
  clear hy217
  have H' := Aside0.mk H
  clear H
  go_enter Try.func97, Try.ntmps97
  go_wp2_with (first | ((with_reducible refine gate_dst (N := 5) rfl ?_); refine Kd.R_lit (Kd.int .i64) _ 3 ?hg (N := 5) ?hd (xs := ([] : List Int)) (inner := []) (ok := fun _ => True) (okp := fun _ => True) ?hr ?hp (fun _ hk => hk) trivial (Below.refl _ _) (Nat.le_refl _) (by simp) ?_; (case hd => rfl); (case hg => rfl); (case hr => first | (go_simp; done) | (go_simp; rfl)); (case hp => exact (Reps.none _ _)); intro v218 w2 ho3 hb hg_ hnew_; clear hg_ hnew_; (first | rw [← Ny217.out] at ho3 | (simp only [Int.reduceToNat] at ho3; rw [← Ny217.out] at ho3)); have n0_ := Aside0.mk (Kd.R_lower ho3 (below_size (by repeat (first | (with_reducible first | exact HB.out | apply below_alloc | apply pw_below_drewN | apply below_drew1) | exact HB.out)))); have n1_ := Aside0.mk (below_step (by repeat (first | (with_reducible first | exact HB.out | apply below_alloc | apply pw_below_drewN | apply below_drew1) | exact HB.out)) hb); clear HB; have HO219 := n0_; have HB := n1_; clear n0_ n1_; clear hb ho3))
  go_loopg [3, 6] k (fun kq v3 v6 w' => ∃ (x3_1 : List Int) (x6_1 : Int), v6 = .int .i64 x6_1 ∧ Aside0 (impl_listed.l0 kq a0 x3_1 x6_1 = some r) ∧ Aside0 (kq ≤ k) ∧ Aside0 (Kd.R (Kd.int .i64) 3 w' w.heap.size (fun _ => True) v3 x3_1) ∧ Aside0 (Below w.heap.size w w'))
  case atStart => exact ⟨(y217), (0), (by first | rfl | (simp; done) | (simp [*]; done)), H', ⟨Nat.le_refl _⟩, ⟨by (with_reducible repeat (first | apply Kd.R_alloc | apply Kd.R_drewN | apply Kd.R_drew)); exact HO219.out⟩, ⟨by repeat (first | (with_reducible first | exact HB.out | apply below_alloc | apply pw_below_drewN | apply below_drew1) | exact HB.out)⟩⟩
  case round =>
    clear H'
    try clear p2
    obtain ⟨x3_1, x6_1, rfl, HA, HK1, HO_3, HB⟩ := hrel
    cases gk with
    | zero => exact absurd HA.out (by simp [impl_listed.l0])
    | succ k1 =>
      have H := HA.out
      clear HA
      simp only [impl_listed.l0] at H
      by_cases c4 : x6_1 < 16
      · rw [if_pos c4] at H
        have c4b0 : decide (x6_1 < 16) = true := decide_eq_true c4
        clear c4
        by_cases c5 : 0 ≤ x6_1
        · rw [if_pos c5] at H
          have c5b0 := eq_true c5
          have c5b1 : decide (0 ≤ x6_1) = true := decide_eq_true c5
          clear c5
          obtain ⟨ji6, hji6⟩ : ∃ j_ : Int, (shr .u16 a0 x6_1) = j_ := ⟨_, rfl⟩
          replace H : (if (Go.bits .and .u16 (ji6) 1) = 1 then (if x3_1.length < 17592186044416 then (impl_listed.l0 k1 a0 (x3_1 ++ [x6_1]) (wrap64 (x6_1 + 1))) else (none)) else (impl_listed.l0 k1 a0 x3_1 (wrap64 (x6_1 + 1)))) = some r := by first | (rw [hji6] at H; exact H) | (simp only [hji6] at H ⊢; exact H)
          have hji6_ : (a0 / 2 ^ min x6_1.toNat 16) = ji6 := hji6
          have hji6z : x6_1 ≤ 16 → (a0 / 2 ^ x6_1.toNat) = ji6 := shr_small hji6
          by_cases c7 : (Go.bits .and .u16 (ji6) 1) = 1
          · rw [if_pos c7] at H
            have c7b0 : ((Go.bits .and .u16 (ji6) 1) == 1) = true := beq_iff_eq.mpr c7
            have c7b1 : ((Go.bits .and .u16 (ji6) 1) != 1) = false := bne_eq_false_iff_eq.mpr c7
            clear c7
            by_cases c8 : x3_1.length < 17592186044416
            · rw [if_pos c8] at H
              have LMc8 := Aside0.mk c8
              clear c8
              obtain ⟨y220, hy220⟩ : ∃ y_ : List Int, y_ = (x3_1 ++ [x6_1]) := ⟨_, rfl⟩
              replace H : (impl_listed.l0 k1 a0 y220 (wrap64 (x6_1 + 1))) = some r := by first | (rw [hy220]; with_reducible exact H) | (have H2_ := (Option.bind_some _ _).symm.trans H; rw [hy220]; with_reducible exact H2_) | (have H2_ := (Option.bind_some _ _).symm.trans H; with_reducible exact H2_) | with_reducible exact H | (rw [hy220]; exact H) | exact H
              have Ny220 := Aside0.mk hy220
              clear hy220
              have H' := Aside0.mk H
              clear H
              go_wp2_with (first | ((with_reducible refine gate_builtin (b := .append) (xs := #[.tmp 14, .tmp 16]) rfl ?_); at_builtin; refine Kd.R_append (Kd.int .i64) (w0 := w) w.heap.size rfl (.tmp 14) (.tmp 16) 60 3 (.int .i64 0) 8 rfl Try.underlying60 info3 rfl (by decide) (by omega) u3 x3_1 x6_1 [.int .i64 x6_1] (fun _ => True) (fun _ => False) rfl rfl ?aP (fun _ hk => hk.elim) ?aF ?aO ?aB ?aS ?aL ?_; (case aP => exact rfl); (case aB => exact (by repeat (first | (with_reducible first | exact HB.out | apply below_alloc | apply pw_below_drewN | apply below_drew1) | exact HB.out))); (case aF => exact (fun _ _ => trivial)); (case aO => exact (by (with_reducible repeat (first | apply Kd.R_alloc | apply Kd.R_drewN | apply Kd.R_drew)); exact HO_3.out)); (case aS => exact (below_size (by repeat (first | (with_reducible first | exact HB.out | apply below_alloc | apply pw_below_drewN | apply below_drew1) | exact HB.out)))); (case aL => have := LMc8.out; omega); intro v221 w9 ho hb hg hat; rw [← Ny220.out] at ho; have n0_ := Aside0.mk (hb); have n1_ := Aside0.mk (ho); clear HB; clear HO_3; have HB := n0_; have HO222 := n1_; clear n0_ n1_; clear ho hb hg hat))
              go_roundg k1
              case measure => have := HK1.out; omega
              case rel => exact ⟨(y220), (wrap64 (x6_1 + 1)), (by first | rfl | (simp; done) | (simp [*]; done)), H', ⟨by have := HK1.out; omega⟩, ⟨by (with_reducible repeat (first | apply Kd.R_alloc | apply Kd.R_drewN | apply Kd.R_drew)); exact HO222.out⟩, ⟨by repeat (first | (with_reducible first | exact HB.out | apply below_alloc | apply pw_below_drewN | apply below_drew1) | exact HB.out)⟩⟩
            · rw [if_neg c8] at H
              exact absurd H (by simp)
          · rw [if_neg c7] at H
            have c7b0 : ((Go.bits .and .u16 (ji6) 1) == 1) = false := beq_eq_false_iff_ne.mpr c7
            have c7b1 : ((Go.bits .and .u16 (ji6) 1) != 1) = true := bne_iff_ne.mpr c7
            have H' := Aside0.mk H
            clear H
            go_wp2
            go_roundg k1
            case measure => have := HK1.out; omega
            case rel => exact ⟨(x3_1), (wrap64 (x6_1 + 1)), (by first | rfl | (simp; done) | (simp [*]; done)), H', ⟨by have := HK1.out; omega⟩, ⟨by (with_reducible repeat (first | apply Kd.R_alloc | apply Kd.R_drewN | apply Kd.R_drew)); exact HO_3.out⟩, ⟨by repeat (first | (with_reducible first | exact HB.out | apply below_alloc | apply pw_below_drewN | apply below_drew1) | exact HB.out)⟩⟩
        · rw [if_neg c5] at H
          exact absurd H (by simp)
      · rw [if_neg c4] at H
        have c4b0 : decide (x6_1 < 16) = false := decide_eq_false c4
        clear c4
        obtain rfl := Option.some.inj H
        go_wp2
        go_ret
        exact ⟨_, by first | rfl | (simp [errW_none, errW_some] <;> rfl) | (simp [*, errW_none, errW_some] <;> rfl), by (with_reducible repeat (first | apply Kd.R_alloc | apply Kd.R_drewN | apply Kd.R_drew)); exact HO_3.out, by repeat (first | (with_reducible first | exact HB.out | apply below_alloc | apply pw_below_drewN | apply below_drew1) | exact HB.out)⟩

/-! ### impl_bit: function 98 -/
def impl_bit.f (a0 : Bool) : Option (Int) := if a0 = true then (some 1) else (some 0)
set_option maxHeartbeats 8000000 in
set_option maxRecDepth 100000 in
theorem impl_bit.calls (a0 : Bool) (r : Int) (w : World) (h : impl_bit.f a0 = some r) :
    Calls Try.prog 98 #[.bool a0] w fun e w' => e = .returned (.int .i64 r) ∧ Drawn0 w w' := by
  have H : (if a0 = true then (some 1) else (some 0)) = some r := h
  clear h
  by_cases c2 : a0 = true
  · subst c2
    have H1 : (some 1) = some r := by rw [if_pos rfl] at H; exact H
    clear H
    have H := H1
    clear H1
    obtain rfl := Option.some.inj H
    go_enter Try.func98, Try.ntmps98
    go_wp2
    go_ret
    exact ⟨by first | rfl | (simp; done) | (simp [*]; done), by repeat (first | exact Drawn0.refl _ | apply Drawn0.step)⟩
  · replace c2 := Bool.eq_false_iff.mpr c2
    subst c2
    have H1 : (some 0) = some r := by rw [if_neg (show ¬ (false = true) by decide)] at H; exact H
    clear H
    have H := H1
    clear H1
    obtain rfl := Option.some.inj H
    go_enter Try.func98, Try.ntmps98
    go_wp2
    go_ret
    exact ⟨by first | rfl | (simp; done) | (simp [*]; done), by repeat (first | exact Drawn0.refl _ | apply Drawn0.step)⟩

/-! ### bits_OnesCount16: function 122, by hand -/
def popTab : List Int := [0, 1, 1, 2, 1, 2, 2, 3, 1, 2, 2, 3, 2, 3, 3, 4]
/-- (only below 16) -/
def bits_OnesCount16.f (a0 : Int) : Option Int := if 0 ≤ a0 ∧ a0 < 16 then some (popTab.getD a0.toNat 0) else none
def popS : ByteArray := { data := (([0, 1, 1, 2, 1, 2, 2, 3, 1, 2, 2, 3, 2, 3, 3, 4, 1, 2, 2, 3, 2, 3, 3, 4, 2, 3, 3, 4, 3, 4, 4, 5, 1, 2, 2, 3, 2, 3, 3, 4, 2, 3, 3, 4, 3, 4, 4, 5, 2, 3, 3, 4, 3, 4, 4, 5, 3, 4, 4, 5, 4, 5, 5, 6].append [1, 2, 2, 3, 2, 3, 3, 4, 2, 3, 3, 4, 3, 4, 4, 5, 2, 3, 3, 4, 3, 4, 4, 5, 3, 4, 4, 5, 4, 5, 5, 6, 2, 3, 3, 4, 3, 4, 4, 5, 3, 4, 4, 5, 4, 5, 5, 6, 3, 4, 4, 5, 4, 5, 5, 6, 4, 5, 5, 6, 5, 6, 6, 7]).append ([1, 2, 2, 3, 2, 3, 3, 4, 2, 3, 3, 4, 3, 4, 4, 5, 2, 3, 3, 4, 3, 4, 4, 5, 3, 4, 4, 5, 4, 5, 5, 6, 2, 3, 3, 4, 3, 4, 4, 5, 3, 4, 4, 5, 4, 5, 5, 6, 3, 4, 4, 5, 4, 5, 5, 6, 4, 5, 5, 6, 5, 6, 6, 7].append [2, 3, 3, 4, 3, 4, 4, 5, 3, 4, 4, 5, 4, 5, 5, 6, 3, 4, 4, 5, 4, 5, 5, 6, 4, 5, 5, 6, 5, 6, 6, 7, 3, 4, 4, 5, 4, 5, 5, 6, 4, 5, 5, 6, 5, 6, 6, 7, 4, 5, 5, 6, 5, 6, 6, 7, 5, 6, 6, 7, 6, 7, 7, 8])).toArray }
theorem popS_size : popS.size = 256 := by decide +kernel
theorem popS_at : ∀ i : Fin 16, bt popS ((i : Nat) : Int) = popTab.getD i 0 := by decide +kernel
theorem and255 : ∀ i : Fin 16, Go.bits .and .u16 ((i : Nat) : Int) 255 = ((i : Nat) : Int) := by decide +kernel
set_option maxHeartbeats 8000000 in
set_option maxRecDepth 100000 in
theorem bits_OnesCount16.calls (a0 : Int) (r : Int) (w : World) (h : bits_OnesCount16.f a0 = some r) :
    Calls Try.prog 122 #[.int .u16 a0] w fun e w' => e = .returned (.int .i64 r) ∧ Drawn0 w w' := by
  unfold bits_OnesCount16.f at h
  by_cases hk : 0 ≤ a0 ∧ a0 < 16
  · rw [if_pos hk] at h
    obtain ⟨i, rfl⟩ := Int.eq_ofNat_of_zero_le hk.1
    have hi : i < 16 := by omega
    have e1 : (i : Int) / 256 = 0 := by omega
    have e2 : Go.bits .and .u16 (i : Int) 255 = (i : Int) := and255 ⟨i, hi⟩
    have e3 : bt popS (i : Int) = r := (popS_at ⟨i, hi⟩).trans (Option.some.inj h)
    have e4 : bt popS 0 = 0 := popS_at ⟨0, by omega⟩
    have e5 : 0 ≤ r ∧ r ≤ 255 := by rw [← e3]; exact bt_range _ _
    have e6 : r % 256 = r := by omega
    have hx5 := bt_at popS 0
    have hx8 := bt_at popS (Go.bits .and .u16 (i : Int) 255)
    have hz := popS_size
    have p5 := eq_true (show (0 : Int) ≤ 0 by omega)
    have q5 := eq_true (show (0 : Int) < (256 : Int) by omega)
    have p8 := eq_true (show (0 : Int) ≤ Go.bits .and .u16 (i : Int) 255 by rw [e2]; omega)
    have q8 := eq_true (show Go.bits .and .u16 (i : Int) 255 < (256 : Int) by rw [e2]; omega)
    rw [← e2] at e3
    clear e2
    have hS : popS = { data := (([0, 1, 1, 2, 1, 2, 2, 3, 1, 2, 2, 3, 2, 3, 3, 4, 1, 2, 2, 3, 2, 3, 3, 4, 2, 3, 3, 4, 3, 4, 4, 5, 1, 2, 2, 3, 2, 3, 3, 4, 2, 3, 3, 4, 3, 4, 4, 5, 2, 3, 3, 4, 3, 4, 4, 5, 3, 4, 4, 5, 4, 5, 5, 6].append [1, 2, 2, 3, 2, 3, 3, 4, 2, 3, 3, 4, 3, 4, 4, 5, 2, 3, 3, 4, 3, 4, 4, 5, 3, 4, 4, 5, 4, 5, 5, 6, 2, 3, 3, 4, 3, 4, 4, 5, 3, 4, 4, 5, 4, 5, 5, 6, 3, 4, 4, 5, 4, 5, 5, 6, 4, 5, 5, 6, 5, 6, 6, 7]).append ([1, 2, 2, 3, 2, 3, 3, 4, 2, 3, 3, 4, 3, 4, 4, 5, 2, 3, 3, 4, 3, 4, 4, 5, 3, 4, 4, 5, 4, 5, 5, 6, 2, 3, 3, 4, 3, 4, 4, 5, 3, 4, 4, 5, 4, 5, 5, 6, 3, 4, 4, 5, 4, 5, 5, 6, 4, 5, 5, 6, 5, 6, 6, 7].append [2, 3, 3, 4, 3, 4, 4, 5, 3, 4, 4, 5, 4, 5, 5, 6, 3, 4, 4, 5, 4, 5, 5, 6, 4, 5, 5, 6, 5, 6, 6, 7, 3, 4, 4, 5, 4, 5, 5, 6, 4, 5, 5, 6, 5, 6, 6, 7, 4, 5, 5, 6, 5, 6, 6, 7, 5, 6, 6, 7, 6, 7, 7, 8])).toArray } := rfl
    clear h
    go_enter Try.func122, Try.ntmps122
    rw [← hS]
    clear hS
    go_wp2
    go_quiet (fail)
    go_wp2
    go_ret
    have hx0 : ∀ h : 0 < popS.size, ((popS[0]'h).toNat : Int) = 0 := fun h => (bt_at popS 0 h).trans e4
    exact ⟨by simp [*], by repeat (first | exact Drawn0.refl _ | apply Drawn0.step)⟩
  · rw [if_neg hk] at h
    cases h


/-! ### impl_news_count: function 100 -/
def impl_news_count.l0 : Nat → Int → List Int → Int → Int → Option (Int)
  | 0, _, _, _, _ => none
  | k + 1, x3, x6, x7, x8 => if x8 < x7 then (if 0 ≤ x8 then (if x8 < (x6.length : Int) then ((bits_OnesCount16.f (rd x6 x8)).bind fun t224 => (impl_news_count.l0 k (wrap64 (x3 + t224)) x6 x7 (wrap64 (x8 + 1)))) else (none)) else (none)) else (some x3)
def impl_news_count.f (k : Nat) (l0 : List Int) : Option (Int) := impl_news_count.l0 k 0 l0 (l0.length : Int) 0
theorem impl_news_count.mono_l : ∀ k, (∀ y0 y1 y2 y3, LeO (impl_news_count.l0 k y0 y1 y2 y3) (impl_news_count.l0 (k + 1) y0 y1 y2 y3))
  | 0 => fun _ _ _ _ r h => by simp [impl_news_count.l0] at h
  | k + 1 => by
    have ih0 := impl_news_count.mono_l k
    · intro y0 y1 y2 y3
      unfold impl_news_count.l0
      repeat' first
      | (with_reducible exact ih0 _ _ _ _)
      | (with_reducible exact LeO.refl _)
      | (with_reducible exact LeO.none _)
      | (with_reducible refine LeO.ite ?_ ?_)
      | (with_reducible refine LeO.bind ?_ (fun _ => ?_))
      | exact ih0 _ _ _ _
      | exact LeO.none _
      | refine LeO.ite ?_ ?_
      | refine LeO.bind ?_ (fun _ => ?_)
theorem impl_news_count.mono : ∀ a0 k, LeO (impl_news_count.f k a0) (impl_news_count.f (k + 1) a0) := by
  intro a0 k
  have ih0 := impl_news_count.mono_l k
  unfold impl_news_count.f
  repeat' first
      | (with_reducible exact ih0 _ _ _ _)
      | (with_reducible exact LeO.refl _)
      | (with_reducible exact LeO.none _)
      | (with_reducible refine LeO.ite ?_ ?_)
      | (with_reducible refine LeO.bind ?_ (fun _ => ?_))
      | exact ih0 _ _ _ _
      | exact LeO.none _
      | refine LeO.ite ?_ ?_
      | refine LeO.bind ?_ (fun _ => ?_)
set_option maxHeartbeats 8000000 in
set_option maxRecDepth 100000 in
theorem impl_news_count.calls (k : Nat) (A0 : Option Addr) (c0 : Nat) (l0 : List Int) (r : Int) (w : World) (hr0 : Kd.C (Kd.int .u16) w A0 l0.length l0) (hc0 : l0.length ≤ c0) (h : impl_news_count.f k l0 = some r) :
    Calls Try.prog 100 #[.slice A0 l0.length c0] w fun e w' => e = .returned (.int .i64 r) ∧ Drawn0 w w' := by
  have HR0 := Aside0.mk hr0
  have HC0 := Aside0.mk hc0
  clear hr0 hc0
  have H : (impl_news_count.l0 k 0 l0 (l0.length : Int) 0) = some r := h
  clear h
  have H' := Aside0.mk H
  clear H
  go_enter Try.func100, Try.ntmps100
  go_wp2
  go_loopg [3, 8] k (fun kq v3 v8 w' => ∃ (x3_1 : Int) (x8_1 : Int), v3 = .int .i64 x3_1 ∧ v8 = .int .i64 x8_1 ∧ Aside0 (impl_news_count.l0 kq x3_1 l0 (l0.length : Int) x8_1 = some r) ∧ Aside0 (kq ≤ k) ∧ Drawn0 w w')
  case atStart => exact ⟨(0), (0), (by first | rfl | (simp; done) | (simp [*]; done)), (by first | rfl | (simp; done) | (simp [*]; done)), H', ⟨Nat.le_refl _⟩, by repeat (first | exact Drawn0.refl _ | apply Drawn0.step)⟩
  case round =>
    clear H'
    try clear c1
    obtain ⟨x3_1, x8_1, rfl, rfl, HA, HK1, ⟨m1, rfl⟩⟩ := hrel
    cases gk with
    | zero => exact absurd HA.out (by simp [impl_news_count.l0])
    | succ k1 =>
      have H := HA.out
      clear HA
      simp only [impl_news_count.l0] at H
      by_cases c2 : x8_1 < (l0.length : Int)
      · rw [if_pos c2] at H
        have c2b0 : decide (x8_1 < (l0.length : Int)) = true := decide_eq_true c2
        clear c2
        by_cases c3 : 0 ≤ x8_1
        · rw [if_pos c3] at H
          have c3b0 : decide (0 ≤ x8_1) = true := decide_eq_true c3
          clear c3
          by_cases c4 : x8_1 < (l0.length : Int)
          · rw [if_pos c4] at H
            have c4b0 : decide (x8_1 < (l0.length : Int)) = true := decide_eq_true c4
            clear c4
            replace H := Option.bind_eq_some_iff.mp H
            obtain ⟨t224, A50, H⟩ := H
            replace H : (impl_news_count.l0 k1 (wrap64 (x3_1 + t224)) l0 (l0.length : Int) (wrap64 (x8_1 + 1))) = some r := H
            have A5 := Aside0.mk A50
            clear A50
            have H' := Aside0.mk H
            clear H
            have p223 : 0 ≤ (x8_1 : Int) := of_decide_eq_true (by first | (with_reducible assumption) | assumption)
            have q223 : x8_1 < (l0.length : Int) := of_decide_eq_true (by first | (with_reducible assumption) | assumption)
            obtain ⟨ad223, e223, hx223_0⟩ := Kd.at_int HR0.out x8_1 p223 q223
            cases e223
            replace p223 := eq_true p223
            replace q223 := eq_true q223
            go_wp2_with (first | ((with_reducible refine gate_callee (f := 122) rfl ?_); refine goesL_ (some 14) rfl rfl Try.func122 (by kernel_rfl) rfl #[.int .u16 (rd l0 x8_1)] rfl (by (try simp only [List.map_toArray, List.map_cons, List.map_nil]); first | done | rfl | (simp only [List.length_drop, List.length_take]; rfl)) ?_; (with_reducible refine (bits_OnesCount16.calls (rd l0 x8_1) t224 _ A5.out).mono ?_); rintro e w' ⟨rfl, ⟨nd, rfl⟩⟩; refine ⟨_, rfl, ?_⟩))
            go_roundg k1
            case measure => have := HK1.out; omega
            case rel => exact ⟨(wrap64 (x3_1 + t224)), (wrap64 (x8_1 + 1)), (by first | rfl | (simp; done) | (simp [*]; done)), (by first | rfl | (simp; done) | (simp [*]; done)), H', ⟨by have := HK1.out; omega⟩, by repeat (first | exact Drawn0.refl _ | apply Drawn0.step)⟩
          · rw [if_neg c4] at H
            first | exact absurd (beq_iff_eq.mp c2b0) c4 | exact absurd (of_decide_eq_true c2b0) c4
        · rw [if_neg c3] at H
          exact absurd H (by simp)
      · rw [if_neg c2] at H
        have c2b0 : decide (x8_1 < (l0.length : Int)) = false := decide_eq_false c2
        clear c2
        obtain rfl := Option.some.inj H
        go_wp2
        go_ret
        exact ⟨by first | rfl | (simp; done) | (simp [*]; done), by repeat (first | exact Drawn0.refl _ | apply Drawn0.step)⟩

end Go.Proofs.Ythakmnjamdggeaa.PFnExactSureCalls
