/- Printed by a program of this session (wip/pp) over the kit's print, for FnExactPathsHeard. No conditions beyond those that each theorem names. -/
import Derived.Test.YtjkildnpnjhgfaaDoorPFnExactPathsHeardx0
namespace Go.Proofs.YtjkildnpnjhgfaaDoor.PFnExactPathsHeard
open Go.RowKit Go.Proofs.YtjkildnpnjhgfaaDoorW.PrintWords Go.Proofs.YtjkildnpnjhgfaaDoorW.PrintLast Go.Proofs.YtjkildnpnjhgfaaDoorW.PrintMore
attribute [local go_sem] max2_int min2_int max_two min_two max_three min_three max_four min_four   -- for this text's walks alone
set_option linter.unusedVariables false
set_option linter.unusedSimpArgs false

/-! ### laws_eqIntS: function 14 -/
def laws_eqIntS.l0 : Nat → List Int → List Int → Int → Option (Bool)
  | 0, _, _, _ => none
  | k + 1, x0, x1, x5 => if x5 < (x0.length : Int) then (if 0 ≤ x5 then (if x5 < (x1.length : Int) then (if (rd x0 x5) = (rd x1 x5) then (laws_eqIntS.l0 k x0 x1 (wrap64 (x5 + 1))) else (some false)) else (none)) else (none)) else (some true)
def laws_eqIntS.f (k : Nat) (l0 : List Int) (l1 : List Int) : Option (Bool) := if (l0.length : Int) = (l1.length : Int) then (laws_eqIntS.l0 k l0 l1 0) else (some false)
theorem laws_eqIntS.mono_l : ∀ k, (∀ y0 y1 y2, LeO (laws_eqIntS.l0 k y0 y1 y2) (laws_eqIntS.l0 (k + 1) y0 y1 y2))
  | 0 => fun _ _ _ r h => by simp [laws_eqIntS.l0] at h
  | k + 1 => by
    have ih0 := laws_eqIntS.mono_l k
    · intro y0 y1 y2
      unfold laws_eqIntS.l0
      repeat' first
      | (with_reducible exact ih0 _ _ _)
      | (with_reducible exact LeO.refl _)
      | (with_reducible exact LeO.none _)
      | (with_reducible refine LeO.ite ?_ ?_)
      | (with_reducible refine LeO.bind ?_ (fun _ => ?_))
      | exact ih0 _ _ _
      | exact LeO.none _
      | refine LeO.ite ?_ ?_
      | refine LeO.bind ?_ (fun _ => ?_)
theorem laws_eqIntS.mono : ∀ a0 a1 k, LeO (laws_eqIntS.f k a0 a1) (laws_eqIntS.f (k + 1) a0 a1) := by
  intro a0 a1 k
  have ih0 := laws_eqIntS.mono_l k
  unfold laws_eqIntS.f
  repeat' first
      | (with_reducible exact ih0 _ _ _)
      | (with_reducible exact LeO.refl _)
      | (with_reducible exact LeO.none _)
      | (with_reducible refine LeO.ite ?_ ?_)
      | (with_reducible refine LeO.bind ?_ (fun _ => ?_))
      | exact ih0 _ _ _
      | exact LeO.none _
      | refine LeO.ite ?_ ?_
      | refine LeO.bind ?_ (fun _ => ?_)
set_option maxHeartbeats 8000000 in
set_option maxRecDepth 100000 in
theorem laws_eqIntS.calls (k : Nat) (A0 : Option Addr) (c0 : Nat) (l0 : List Int) (A1 : Option Addr) (c1 : Nat) (l1 : List Int) (r : Bool) (w : World) (hr0 : Kd.C (Kd.int .i64) w A0 l0.length l0) (hc0 : l0.length ≤ c0) (hr1 : Kd.C (Kd.int .i64) w A1 l1.length l1) (hc1 : l1.length ≤ c1) (h : laws_eqIntS.f k l0 l1 = some r) :
    Calls Tryd.prog 14 #[.slice A0 l0.length c0, .slice A1 l1.length c1] w fun e w' => e = .returned (.bool r) ∧ Drawn0 w w' := by
  have HR0 := Aside0.mk hr0
  have HC0 := Aside0.mk hc0
  clear hr0 hc0
  have HR1 := Aside0.mk hr1
  have HC1 := Aside0.mk hc1
  clear hr1 hc1
  have H : (if (l0.length : Int) = (l1.length : Int) then (laws_eqIntS.l0 k l0 l1 0) else (some false)) = some r := h
  clear h
  by_cases c3 : (l0.length : Int) = (l1.length : Int)
  · rw [if_pos c3] at H
    have c3b0 : ((l0.length : Int) == (l1.length : Int)) = true := beq_iff_eq.mpr c3
    have c3b1 : ((l0.length : Int) != (l1.length : Int)) = false := bne_eq_false_iff_eq.mpr c3
    have c3b2 : (l0.length == l1.length) = true := by first | simpa using c3 | (simp at c3 ⊢; omega)
    clear c3
    have H' := Aside0.mk H
    clear H
    go_enter Tryd.func14, Tryd.ntmps14
    go_wp2
    repeat (go_quiet (fail); try go_wp2)
    go_loopg [5] k (fun kq v5 w' => ∃ (x5_1 : Int), v5 = .int .i64 x5_1 ∧ Aside0 (laws_eqIntS.l0 kq l0 l1 x5_1 = some r) ∧ Aside0 (kq ≤ k) ∧ Drawn0 w w')
    case atStart => exact ⟨(0), (by first | rfl | (simp; done) | (simp [*]; done)), H', ⟨Nat.le_refl _⟩, by repeat (first | exact Drawn0.refl _ | apply Drawn0.step)⟩
    case round =>
      clear H'
      try clear c1
      try clear p2
      try clear c3
      try clear c3b0
      try clear c3b1
      try clear c3b2
      obtain ⟨x5_1, rfl, HA, HK1, ⟨m1, rfl⟩⟩ := hrel
      cases gk with
      | zero => exact absurd HA.out (by simp [laws_eqIntS.l0])
      | succ k1 =>
        have H := HA.out
        clear HA
        simp only [laws_eqIntS.l0] at H
        by_cases c4 : x5_1 < (l0.length : Int)
        · rw [if_pos c4] at H
          have c4b0 : decide (x5_1 < (l0.length : Int)) = true := decide_eq_true c4
          clear c4
          by_cases c5 : 0 ≤ x5_1
          · rw [if_pos c5] at H
            have c5b0 : decide (0 ≤ x5_1) = true := decide_eq_true c5
            clear c5
            by_cases c6 : x5_1 < (l1.length : Int)
            · rw [if_pos c6] at H
              have c6b0 : decide (x5_1 < (l1.length : Int)) = true := decide_eq_true c6
              clear c6
              by_cases c7 : (rd l0 x5_1) = (rd l1 x5_1)
              · rw [if_pos c7] at H
                have c7b0 : ((rd l0 x5_1) == (rd l1 x5_1)) = true := beq_iff_eq.mpr c7
                have c7b1 : ((rd l0 x5_1) != (rd l1 x5_1)) = false := bne_eq_false_iff_eq.mpr c7
                clear c7
                have H' := Aside0.mk H
                clear H
                have p101 : 0 ≤ (x5_1 : Int) := of_decide_eq_true (by first | (with_reducible assumption) | assumption)
                have q101 : x5_1 < (l0.length : Int) := of_decide_eq_true (by first | (with_reducible assumption) | assumption)
                obtain ⟨ad101, e101, hx101_0⟩ := Kd.at_int HR0.out x5_1 p101 q101
                cases e101
                replace p101 := eq_true p101
                replace q101 := eq_true q101
                have p102 : 0 ≤ (x5_1 : Int) := of_decide_eq_true (by first | (with_reducible assumption) | assumption)
                have q102 : x5_1 < (l1.length : Int) := of_decide_eq_true (by first | (with_reducible assumption) | assumption)
                obtain ⟨ad102, e102, hx102_0⟩ := Kd.at_int HR1.out x5_1 p102 q102
                cases e102
                replace p102 := eq_true p102
                replace q102 := eq_true q102
                go_wp2
                repeat (go_quiet (fail); try go_wp2)
                go_roundg k1
                case measure => have := HK1.out; omega
                case rel => exact ⟨(wrap64 (x5_1 + 1)), (by first | rfl | (simp; done) | (simp [*]; done)), H', ⟨by have := HK1.out; omega⟩, by repeat (first | exact Drawn0.refl _ | apply Drawn0.step)⟩
              · rw [if_neg c7] at H
                have c7b0 : ((rd l0 x5_1) == (rd l1 x5_1)) = false := beq_eq_false_iff_ne.mpr c7
                have c7b1 : ((rd l0 x5_1) != (rd l1 x5_1)) = true := bne_iff_ne.mpr c7
                obtain rfl := Option.some.inj H
                have p101 : 0 ≤ (x5_1 : Int) := of_decide_eq_true (by first | (with_reducible assumption) | assumption)
                have q101 : x5_1 < (l0.length : Int) := of_decide_eq_true (by first | (with_reducible assumption) | assumption)
                obtain ⟨ad101, e101, hx101_0⟩ := Kd.at_int HR0.out x5_1 p101 q101
                cases e101
                replace p101 := eq_true p101
                replace q101 := eq_true q101
                have p102 : 0 ≤ (x5_1 : Int) := of_decide_eq_true (by first | (with_reducible assumption) | assumption)
                have q102 : x5_1 < (l1.length : Int) := of_decide_eq_true (by first | (with_reducible assumption) | assumption)
                obtain ⟨ad102, e102, hx102_0⟩ := Kd.at_int HR1.out x5_1 p102 q102
                cases e102
                replace p102 := eq_true p102
                replace q102 := eq_true q102
                go_wp2
                repeat (go_quiet (fail); try go_wp2)
                go_ret
                exact ⟨by first | rfl | (simp; done) | (simp [*]; done), by repeat (first | exact Drawn0.refl _ | apply Drawn0.step)⟩
            · rw [if_neg c6] at H
              exact absurd H (by simp)
          · rw [if_neg c5] at H
            exact absurd H (by simp)
        · rw [if_neg c4] at H
          have c4b0 : decide (x5_1 < (l0.length : Int)) = false := decide_eq_false c4
          clear c4
          obtain rfl := Option.some.inj H
          go_wp2
          repeat (go_quiet (fail); try go_wp2)
          go_ret
          exact ⟨by first | rfl | (simp; done) | (simp [*]; done), by repeat (first | exact Drawn0.refl _ | apply Drawn0.step)⟩
  · rw [if_neg c3] at H
    have c3b0 : ((l0.length : Int) == (l1.length : Int)) = false := beq_eq_false_iff_ne.mpr c3
    have c3b1 : ((l0.length : Int) != (l1.length : Int)) = true := bne_iff_ne.mpr c3
    have c3b2 : (l0.length == l1.length) = false := by first | simpa using c3 | (simp at c3 ⊢; omega)
    obtain rfl := Option.some.inj H
    go_enter Tryd.func14, Tryd.ntmps14
    go_wp2
    repeat (go_quiet (fail); try go_wp2)
    go_ret
    exact ⟨by first | rfl | (simp; done) | (simp [*]; done), by repeat (first | exact Drawn0.refl _ | apply Drawn0.step)⟩

/-! ### spec_l1In: function 31 -/
def spec_l1In.f (a0 : Int) (a1 : Int) (a2 : Int) : Option (Bool) := if a0 ≥ a1 then (some (decide (a0 ≤ a2))) else (some false)
set_option maxHeartbeats 8000000 in
set_option maxRecDepth 100000 in
theorem spec_l1In.calls (a0 : Int) (a1 : Int) (a2 : Int) (r : Bool) (w : World) (h : spec_l1In.f a0 a1 a2 = some r) :
    Calls Tryd.prog 31 #[.int .i64 a0, .int .i64 a1, .int .i64 a2] w fun e w' => e = .returned (.bool r) ∧ Drawn0 w w' := by
  have H : (if a0 ≥ a1 then (some (decide (a0 ≤ a2))) else (some false)) = some r := h
  clear h
  by_cases c4 : a0 ≥ a1
  · rw [if_pos c4] at H
    have c4b0 : decide (a1 ≤ a0) = true := decide_eq_true c4
    clear c4
    obtain rfl := Option.some.inj H
    go_enter Tryd.func31, Tryd.ntmps31
    go_wp2
    go_ret
    exact ⟨by first | rfl | (simp; done) | (simp [*]; done), by repeat (first | exact Drawn0.refl _ | apply Drawn0.step)⟩
  · rw [if_neg c4] at H
    have c4b0 : decide (a1 ≤ a0) = false := decide_eq_false c4
    clear c4
    obtain rfl := Option.some.inj H
    go_enter Tryd.func31, Tryd.ntmps31
    go_wp2
    go_ret
    exact ⟨by first | rfl | (simp; done) | (simp [*]; done), by repeat (first | exact Drawn0.refl _ | apply Drawn0.step)⟩

/-! ### spec_liFriends: function 50 -/
def spec_liFriends.f (a0 : Int) : Option (Bool) := (spec_l1In.f a0 1 8).bind fun t103 => (some t103)
set_option maxHeartbeats 8000000 in
set_option maxRecDepth 100000 in
theorem spec_liFriends.calls (a0 : Int) (r : Bool) (w : World) (h : spec_liFriends.f a0 = some r) :
    Calls Tryd.prog 50 #[.int .i64 a0] w fun e w' => e = .returned (.bool r) ∧ Drawn0 w w' := by
  have H : ((spec_l1In.f a0 1 8).bind fun t103 => (some t103)) = some r := h
  clear h
  replace H := Option.bind_eq_some_iff.mp H
  obtain ⟨t103, A20, H⟩ := H
  replace H : (some t103) = some r := H
  have A2 := Aside0.mk A20
  clear A20
  obtain rfl := Option.some.inj H
  go_enter Tryd.func50, Tryd.ntmps50
  go_wp2_with (first | ((with_reducible refine gate_callee (f := 31) rfl ?_); refine goesL_ (some 4) rfl rfl Tryd.func31 (by kernel_rfl) rfl #[.int .i64 a0, .int .i64 1, .int .i64 8] rfl (by (try simp only [List.map_toArray, List.map_cons, List.map_nil]); first | done | rfl | (simp only [List.length_drop, List.length_take]; rfl)) ?_; (with_reducible refine (spec_l1In.calls a0 1 8 t103 _ A2.out).mono ?_); rintro e w' ⟨rfl, ⟨nd, rfl⟩⟩; refine ⟨_, rfl, ?_⟩))
  go_ret
  exact ⟨by first | rfl | (simp; done) | (simp [*]; done), by repeat (first | exact Drawn0.refl _ | apply Drawn0.step)⟩

/-! ### spec_liCast: function 30, by hand -/
/-- all signs are h or l -/
def castB (l : List UInt8) : Bool := l.all fun b => b == 104 || b == 108
theorem castB_snoc (s : ByteArray) (k : Nat) (h : k < s.size) : castB (s.data.toList.take (k + 1)) = (castB (s.data.toList.take k) && (s[k] == 104 || s[k] == 108)) := by
  unfold castB
  rw [List.take_succ_eq_append_getElem (by simpa using h), List.all_append]
  have e : s.data.toList[k]'(by simpa using h) = s[k] := rfl
  rw [e]
  simp
theorem castB_at (s : ByteArray) (k : Nat) (h : k < s.size) (hb : (s[k] == 104 || s[k] == 108) = false) : castB s.data.toList = false := by
  have hm : s[k] ∈ s.data.toList := by
    have e : s.data.toList[k]'(by simpa using h) = s[k] := rfl
    rw [← e]
    exact List.getElem_mem _
  cases hc : castB s.data.toList with
  | false => rfl
  | true =>
    unfold castB at hc
    have := List.all_eq_true.1 hc _ hm
    rw [hb] at this
    cases this
theorem byte_is (x c : UInt8) (n : Int) (hn : (c.toNat : Int) = n) : ((x.toNat : Int) == n) = (x == c) := by
  rw [Bool.eq_iff_iff, beq_iff_eq, beq_iff_eq, ← hn]
  constructor
  · intro h
    exact UInt8.toNat_inj.1 (by omega)
  · rintro rfl
    rfl
def spec_liCast.f (a0 : ByteArray) : Option Bool := some (decide (1 ≤ a0.size ∧ a0.size ≤ 8) && castB a0.data.toList)
theorem liFriends_val (n : Nat) : spec_liFriends.f (n : Int) = some (decide (1 ≤ n ∧ n ≤ 8)) := by
  unfold spec_liFriends.f spec_l1In.f
  by_cases h1 : 1 ≤ n
  · rw [if_pos (by omega)]
    by_cases h2 : n ≤ 8
    · rw [decide_eq_true (show (n : Int) ≤ 8 by omega), decide_eq_true (show 1 ≤ n ∧ n ≤ 8 by omega)]; rfl
    · rw [decide_eq_false (show ¬ (n : Int) ≤ 8 by omega), decide_eq_false (show ¬ (1 ≤ n ∧ n ≤ 8) by omega)]; rfl
  · rw [if_neg (by omega), decide_eq_false (show ¬ (1 ≤ n ∧ n ≤ 8) by omega)]; rfl
set_option maxHeartbeats 1000000 in
set_option maxRecDepth 100000 in
theorem spec_liCast.calls (a0 : ByteArray) (r : Bool) (w : World) (h : spec_liCast.f a0 = some r) :
    Calls Tryd.prog 30 #[.string a0] w fun e w' => e = .returned (.bool r) ∧ Below w.heap.size w w' := by
  unfold spec_liCast.f at h
  have HF := Aside0.mk (liFriends_val a0.size)
  by_cases hk : 1 ≤ a0.size ∧ a0.size ≤ 8
  · rw [decide_eq_true hk, Bool.true_and] at h
    have HV := Aside0.mk (Option.some.inj h)
    have HF' := Aside0.mk (HF.out.trans (congrArg some (decide_eq_true hk)))
    obtain ⟨hk1, hz⟩ := hk
    clear h HF
    go_enter Tryd.func30, Tryd.ntmps30
    go_wp2_with (go_at_call 50; refine (spec_liFriends.calls _ _ _ HF'.out).mono ?_; rintro e w' ⟨rfl, ⟨nd, rfl⟩⟩)
    go_loopw [] (fun wr => ∃ pos : Nat, pos ≤ a0.size ∧ Aside0 (castB (a0.data.toList.take pos) = true) ∧ Aside0 (wr.heap[w.heap.size]? = some (.stringIter a0 pos)) ∧ Aside0 (Below w.heap.size w wr)) (fun wr => a0.size - wr.iterPos w.heap.size)
    case atStart => exact ⟨0, Nat.zero_le _, ⟨rfl⟩, ⟨heap_alloc_new w _⟩, ⟨by repeat (first | exact Below.refl _ _ | apply below_alloc | apply pw_below_drewN | apply below_drew1)⟩⟩
    case round =>
      obtain ⟨pos, hp, HC, HI, HB⟩ := hrel
      have HM := Aside0.mk (Go.iterPos_of HI.out)
      by_cases hlt : pos < a0.size
      · have p1 : (0 : Int) ≤ (pos : Int) := by omega
        have q1 : (pos : Int) < (a0.size : Int) := by omega
        have HS := Aside0.mk (castB_snoc a0 pos hlt)
        obtain ⟨b1, hb1⟩ : ∃ b, (a0[pos] == 104) = b := ⟨_, rfl⟩
        obtain ⟨b2, hb2⟩ : ∃ b, (a0[pos] == 108) = b := ⟨_, rfl⟩
        have hm1 := (byte_is (a0[pos]'hlt) 104 104 rfl).trans hb1
        have hm2 := (byte_is (a0[pos]'hlt) 108 108 rfl).trans hb2
        have hx1 : ((((a0[pos]'hlt).toNat : Int)) != 104) = !b1 := by rw [bne, hm1]
        have hx2 : ((((a0[pos]'hlt).toNat : Int)) != 108) = !b2 := by rw [bne, hm2]
        have H1 := Aside0.mk hb1
        have H2 := Aside0.mk hb2
        have hbt : bt a0 (pos : Int) = ((a0[pos]'hlt).toNat : Int) := by unfold bt; simp [hlt]
        by_cases hor : (b1 || b2) = true
        · have ha : (a0[pos]'hlt).toNat < 128 := by
            rcases (Bool.or_eq_true _ _).mp hor with h | h
            · rw [h] at hb1
              rw [beq_iff_eq.1 hb1]
              decide
            · rw [h] at hb2
              rw [beq_iff_eq.1 hb2]
              decide
          have hnx : ∀ ty, (Instr.next (.pointer (some ⟨w.heap.size, 0, none⟩)) true ty).run Tryd.prog wr = _ := fun ty => Lib.run_next_ascii_at wr w.heap.size a0 pos ty HI.out hlt ha
          have HM1 := Aside0.mk (show a0.size - (wr.iterAt w.heap.size a0 (pos + 1)).iterPos w.heap.size < a0.size - wr.iterPos w.heap.size by
            rw [HM.out, Go.iterPos_of (Lib.iterAt_heap wr _ a0 pos (pos + 1) HI.out)]
            omega)
          have HO := Aside0.mk hor
          clear hb1 hb2 ha
          cases b1 with
          | true =>
            clear hm2 hx2 hor
            simp only [Bool.not_true] at hx1
            go_wp2
            exact ⟨⟨pos + 1, by omega, ⟨by rw [HS.out, HC.out, H1.out]; rfl⟩, ⟨Lib.iterAt_heap wr _ a0 pos (pos + 1) HI.out⟩, ⟨Lib.below_iterAt HB.out (Nat.le_refl _) a0 (pos + 1)⟩⟩, HM1.out⟩
          | false =>
            have e2 : b2 = true := by simpa using hor
            subst e2
            clear hor
            simp only [Bool.not_true, Bool.not_false] at hx1 hx2
            go_wp2
            exact ⟨⟨pos + 1, by omega, ⟨by rw [HS.out, HC.out, H1.out, H2.out]; rfl⟩, ⟨Lib.iterAt_heap wr _ a0 pos (pos + 1) HI.out⟩, ⟨Lib.below_iterAt HB.out (Nat.le_refl _) a0 (pos + 1)⟩⟩, HM1.out⟩
        · have e1 : b1 = false := by cases b1 with
            | true => simp at hor
            | false => rfl
          have e2 : b2 = false := by cases b2 with
            | true => simp at hor
            | false => rfl
          subst e1 e2
          have hnx : ∀ ty, (Instr.next (.pointer (some ⟨w.heap.size, 0, none⟩)) true ty).run Tryd.prog wr = _ := fun ty => Lib.run_next_any_at wr w.heap.size a0 pos ty HI.out hlt
          simp only [Bool.not_false] at hx1 hx2
          clear hor hb1 hb2
          go_wp2
          go_ret
          exact ⟨congrArg (fun b => Ending.returned (.bool b)) (show false = r by rw [← HV.out, castB_at a0 pos hlt (by rw [H1.out, H2.out]; rfl)]), Lib.below_iterAt HB.out (Nat.le_refl _) a0 _⟩
      · have hnx : ∀ ty, (Instr.next (.pointer (some ⟨w.heap.size, 0, none⟩)) true ty).run Tryd.prog wr = _ := fun ty => Lib.run_next_end_at wr w.heap.size a0 pos ty HI.out hlt
        go_wp2
        go_ret
        exact ⟨congrArg (fun b => Ending.returned (.bool b)) (show true = r by rw [← HV.out, ← HC.out, List.take_of_length_le (by simp; omega)]), HB.out⟩
  · rw [decide_eq_false hk, Bool.false_and] at h
    have HF' := Aside0.mk (HF.out.trans (congrArg some (decide_eq_false hk)))
    obtain rfl : false = r := Option.some.inj h
    clear h HF hk
    go_enter Tryd.func30, Tryd.ntmps30
    go_wp2_with (go_at_call 50; refine (spec_liFriends.calls _ _ _ HF'.out).mono ?_; rintro e w' ⟨rfl, ⟨nd, rfl⟩⟩)
    go_ret
    exact ⟨rfl, by repeat (first | exact Below.refl _ _ | apply below_alloc | apply pw_below_drewN | apply below_drew1)⟩


/-! ### spec_liPaths: function 39 -/
mutual
def spec_liPaths.l0 : Nat → ByteArray → Int → Int → List Bool → Bool → List Int → Int → Int → Option (List Bool × List Int)
  | 0, _, _, _, _, _, _, _, _ => none
  | k + 1, x0, x1, x2, x3, x4, x5, x37, x38 => if x38 < x37 then (if 0 ≤ x38 then (if x38 < (x3.length : Int) then (if rdOf false x3 x38 = true then (spec_liPaths.l0 k x0 x1 x2 x3 x4 x5 x37 (wrap64 (x38 + 1))) else ((spec_liPaths.f k x0 x38 x2 x3 x4 x5).bind fun bt110 => (spec_liPaths.l0 k x0 x1 x2 bt110.1 x4 bt110.2 x37 (wrap64 (x38 + 1))))) else (none)) else (none)) else (if 0 ≤ x1 then (if x1 < (x3.length : Int) then (some ((x3.set (x1 : Int).toNat false), x5)) else (none)) else (none))
def spec_liPaths.f : Nat → ByteArray → Int → Int → List Bool → Bool → List Int → Option (List Bool × List Int)
  | 0, _, _, _, _, _, _ => none
  | k + 1, a0, a1, a2, l3, a4, l5 => if 0 ≤ a1 then (if a1 < (a0.size : Int) then (if a1 = a2 then (if (a4 != ((bt a0 a1) == 108)) = true then (if 1 < (l5.length : Int) then (some (l3, (l5.set (1 : Int).toNat (wrap64 ((rd l5 1) + 1))))) else (none)) else (if 0 < (l5.length : Int) then (some (l3, (l5.set (0 : Int).toNat (wrap64 ((rd l5 0) + 1))))) else (none))) else (if a1 < (l3.length : Int) then (spec_liPaths.l0 k a0 a1 a2 (l3.set (a1 : Int).toNat true) (a4 != ((bt a0 a1) == 108)) l5 (l3.length : Int) 0) else (none))) else (none)) else (none)
end
theorem spec_liPaths.mono_l : ∀ k, (∀ y0 y1 y2 y3 y4 y5, LeO (spec_liPaths.f k y0 y1 y2 y3 y4 y5) (spec_liPaths.f (k + 1) y0 y1 y2 y3 y4 y5)) ∧ (∀ y0 y1 y2 y3 y4 y5 y6 y7, LeO (spec_liPaths.l0 k y0 y1 y2 y3 y4 y5 y6 y7) (spec_liPaths.l0 (k + 1) y0 y1 y2 y3 y4 y5 y6 y7))
  | 0 => ⟨fun _ _ _ _ _ _ r h => by simp [spec_liPaths.f] at h, fun _ _ _ _ _ _ _ _ r h => by simp [spec_liPaths.l0] at h⟩
  | k + 1 => by
    obtain ⟨ih0, ih1⟩ := spec_liPaths.mono_l k
    refine ⟨?_, ?_⟩
    · intro y0 y1 y2 y3 y4 y5
      unfold spec_liPaths.f
      repeat' first
      | (with_reducible exact ih0 _ _ _ _ _ _)
      | (with_reducible exact ih1 _ _ _ _ _ _ _ _)
      | (with_reducible exact LeO.refl _)
      | (with_reducible exact LeO.none _)
      | (with_reducible refine LeO.ite ?_ ?_)
      | (with_reducible refine LeO.bind ?_ (fun _ => ?_))
      | exact ih0 _ _ _ _ _ _
      | exact ih1 _ _ _ _ _ _ _ _
      | exact LeO.none _
      | refine LeO.ite ?_ ?_
      | refine LeO.bind ?_ (fun _ => ?_)
    · intro y0 y1 y2 y3 y4 y5 y6 y7
      unfold spec_liPaths.l0
      repeat' first
      | (with_reducible exact ih0 _ _ _ _ _ _)
      | (with_reducible exact ih1 _ _ _ _ _ _ _ _)
      | (with_reducible exact LeO.refl _)
      | (with_reducible exact LeO.none _)
      | (with_reducible refine LeO.ite ?_ ?_)
      | (with_reducible refine LeO.bind ?_ (fun _ => ?_))
      | exact ih0 _ _ _ _ _ _
      | exact ih1 _ _ _ _ _ _ _ _
      | exact LeO.none _
      | refine LeO.ite ?_ ?_
      | refine LeO.bind ?_ (fun _ => ?_)
theorem spec_liPaths.mono : ∀ a0 a1 a2 a3 a4 a5 k, LeO (spec_liPaths.f k a0 a1 a2 a3 a4 a5) (spec_liPaths.f (k + 1) a0 a1 a2 a3 a4 a5) := by
  intro a0 a1 a2 a3 a4 a5 k
  obtain ⟨ih0, ih1⟩ := spec_liPaths.mono_l k
  exact ih0 a0 a1 a2 a3 a4 a5
set_option maxHeartbeats 8000000 in
set_option maxRecDepth 100000 in
theorem spec_liPaths.calls (k : Nat) : ∀ (a0 : ByteArray) (a1 : Int) (a2 : Int) (P3_ : Nat → Prop) (u9000_ : Value) (l3 : List Bool) (a4 : Bool) (P5_ : Nat → Prop) (u9001_ : Value) (l5 : List Int) (r1 : List Bool) (r2 : List Int) (w0 w : World) (hB : Below w0.heap.size w0 w) (ho3 : Kd.R Kd.bool 4 w w0.heap.size P3_ u9000_ l3) (ho5 : Kd.R (Kd.int .i64) 3 w w0.heap.size P5_ u9001_ l5) (h : spec_liPaths.f k a0 a1 a2 l3 a4 l5 = some (r1, r2)),
    Calls Tryd.prog 39 #[.string a0, .int .i64 a1, .int .i64 a2, u9000_, .bool a4, u9001_] w fun e w' => e = .returned (.tuple #[]) ∧ Kd.R Kd.bool 4 w' w0.heap.size (fun k_ => ((P3_ k_ ∨ P5_ k_) ∨ w.heap.size ≤ k_)) u9000_ r1 ∧ Kd.R (Kd.int .i64) 3 w' w0.heap.size (fun k_ => ((P3_ k_ ∨ P5_ k_) ∨ w.heap.size ≤ k_)) u9001_ r2 ∧ Below w0.heap.size w0 w' ∧ Kept w w' (fun k_ => P3_ k_ ∨ P5_ k_) := by
  induction k using Nat.strongRecOn with
  | _ k ih =>
  intro a0 a1 a2 P3_ u9000_ l3 a4 P5_ u9001_ l5 r1 r2 w0 w hB ho3 ho5 h
  cases k with
  | zero => exact absurd h (by simp [spec_liPaths.f])
  | succ k =>
  simp only [spec_liPaths.f] at h
  have HO3 := Aside0.mk (show Kd.R Kd.bool 4 w w0.heap.size (fun k_ => ((P3_ k_ ∨ P5_ k_) ∨ w.heap.size ≤ k_)) u9000_ l3 from Kd.R_mono ho3 (fun k_ hk => (.inl (.inl hk))))
  have HO5 := Aside0.mk (show Kd.R (Kd.int .i64) 3 w w0.heap.size (fun k_ => ((P3_ k_ ∨ P5_ k_) ∨ w.heap.size ≤ k_)) u9001_ l5 from Kd.R_mono ho5 (fun k_ hk => (.inl (.inr hk))))
  have HK := Aside0.mk (Kept.refl w (fun k_ => P3_ k_ ∨ P5_ k_))
  have HW0 := Aside0.mk hB.size
  have HB := Aside0.mk hB
  clear hB
  have H : (if 0 ≤ a1 then (if a1 < (a0.size : Int) then (if a1 = a2 then (if (a4 != ((bt a0 a1) == 108)) = true then (if 1 < (l5.length : Int) then (some (l3, (l5.set (1 : Int).toNat (wrap64 ((rd l5 1) + 1))))) else (none)) else (if 0 < (l5.length : Int) then (some (l3, (l5.set (0 : Int).toNat (wrap64 ((rd l5 0) + 1))))) else (none))) else (if a1 < (l3.length : Int) then (spec_liPaths.l0 k a0 a1 a2 (l3.set (a1 : Int).toNat true) (a4 != ((bt a0 a1) == 108)) l5 (l3.length : Int) 0) else (none))) else (none)) else (none)) = some (r1, r2) := h
  clear h
  by_cases c7 : 0 ≤ a1
  · rw [if_pos c7] at H
    have c7b0 : decide (0 ≤ a1) = true := decide_eq_true c7
    clear c7
    by_cases c8 : a1 < (a0.size : Int)
    · rw [if_pos c8] at H
      have c8b0 : decide (a1 < (a0.size : Int)) = true := decide_eq_true c8
      clear c8
      by_cases c10 : a1 = a2
      · rw [if_pos c10] at H
        have c10b0 : (a1 == a2) = true := beq_iff_eq.mpr c10
        have c10b1 : (a1 != a2) = false := bne_eq_false_iff_eq.mpr c10
        clear c10
        by_cases c11 : (a4 != ((bt a0 a1) == 108)) = true
        · rw [if_pos c11] at H
          have c11b0 : (a4 != ((bt a0 a1) == 108)) = true := c11
          (try (have c11b1 : decide (a4 = ((bt a0 a1) == 108)) = false := by simpa using c11))
          (try (have c11b2 : (a4 == ((bt a0 a1) == 108)) = false := by simpa using c11))
          (try (have c11b3 : ¬ (a4 = ((bt a0 a1) == 108)) := by simpa using c11))
          clear c11
          by_cases c12 : 1 < (l5.length : Int)
          · rw [if_pos c12] at H
            have c12b0 : decide (1 < (l5.length : Int)) = true := decide_eq_true c12
            have c12b1 : decide (1 < l5.length) = true := decide_eq_true (by omega)
            clear c12
            obtain ⟨y105, hy105⟩ : ∃ y_ : List Int, y_ = (l5.set (1 : Int).toNat (wrap64 ((rd l5 1) + 1))) := ⟨_, rfl⟩
            replace H : (some (l3, y105)) = some (r1, r2) := by first | (rw [hy105]; with_reducible exact H) | (have H2_ := (Option.bind_some _ _).symm.trans H; rw [hy105]; with_reducible exact H2_) | (have H2_ := (Option.bind_some _ _).symm.trans H; with_reducible exact H2_) | with_reducible exact H | (rw [hy105]; exact H) | exact H
            have Ny105 := Aside0.mk hy105
            clear hy105
            simp only [Option.some.injEq, Prod.mk.injEq] at H
            obtain ⟨rfl, rfl⟩ := H
            have p9 : 0 ≤ (a1 : Int) := of_decide_eq_true (by first | (with_reducible assumption) | assumption)
            have q9 : a1 < (a0.size : Int) := of_decide_eq_true (by first | (with_reducible assumption) | assumption)
            have hx9 := bt_at a0 a1
            replace p9 := eq_true p9
            replace q9 := eq_true q9
            obtain ⟨Ao14, co14, eo14⟩ := Kd.R_slice HO5.out
            subst eo14
            have p104 : 0 ≤ (1 : Int) := (by omega)
            have q104 : 1 < (l5.length : Int) := of_decide_eq_true (by first | (with_reducible assumption) | assumption)
            obtain ⟨ad104, e104, hx104_0⟩ := Kd.at_int (Kd.R_reads' HO5.out).2.2 1 p104 q104
            cases e104
            (try simp only [show (1 : Int).toNat = 1 from rfl, Nat.reduceMul, Nat.reduceEqDiff, Go.Addr.add, ↓reduceIte] at hx104_0)
            have qi104 : (1 < l5.length) = True := eq_true (by omega)
            (try rw [show ((1 : Int)).toNat = 1 from rfl] at hx104_0)
            replace p104 := eq_true p104
            replace q104 := eq_true q104
            have p13 : 0 ≤ (1 : Int) := (by omega)
            have q13 : (1 : Int) < ((l5.length : Int) : Int) := of_decide_eq_true (by first | (with_reducible assumption) | assumption)
            have qi13 : (1 < l5.length) = True := eq_true (by omega)
            obtain ⟨go13, co13, eo13, gb13, gl13, cl13, HG13⟩ := Kd.R_form HO5.out (by omega)
            (first | cases eo13 | (injection eo13 with ea_ en_ ec_; (first | subst ea_ | (injection ea_ with ea_; subst ea_)); subst ec_; clear en_))
            have GB13 := Aside0.mk gb13
            have GG13 := Aside0.mk HG13
            clear gb13 gl13 HG13
            have HMgo13 := Aside0.mk (show ((P3_ go13 ∨ P5_ go13) ∨ w.heap.size ≤ go13) from (HO5.out.1 _ rfl))
            (first | simp only [add_plain] at hx104_0 | skip)
            obtain ⟨hx13_0, hf13_0⟩ := Kd.R_celln 0 HO5.out (1 : Int) p13 q13
            (try rw [show ((1 : Int)).toNat = 1 from rfl] at hx13_0)
            (try simp only [Nat.reduceMul, Nat.zero_mul, Nat.zero_add, Nat.reduceAdd] at hx13_0)
            (try rw [show ((1 : Int)).toNat = 1 from rfl] at hf13_0)
            (try simp only [Nat.reduceMul, Nat.zero_mul, Nat.zero_add, Nat.reduceAdd] at hf13_0)
            replace p13 := eq_true p13
            replace q13 := eq_true q13
            have HP15 := Kd.R_putg HO5.out (1 : Int) (wrap64 ((rd l5 1) + 1))
            go_enter Tryd.func39, Tryd.ntmps39
            go_wp2_with (first | ((with_reducible refine gate_store (t := 3) (p := 27) rfl ?_); refine store_event (t := 3) (p := 27) (v := ?vo_w16) (w1 := (w.setCell ⟨go13, (1 : Int).toNat, none⟩ (.int .i64 (wrap64 ((rd l5 1) + 1))))) ?hg ?ho ?hn ?hr ?_; (case ho => rfl); (case hg => rfl); (case hn => rfl); (case hr => first | (go_simp; done) | (go_simp; rfl)); intro w16 hw; have hg : w.grownBy w16 (some go13) := (by rw [hw]; exact HP15.2); have hp_ : Kd.R (Kd.int .i64) 3 w16 w0.heap.size (fun k_ => ((P3_ k_ ∨ P5_ k_) ∨ w.heap.size ≤ k_)) (.slice (some ⟨go13, 0, none⟩) l5.length co14) y105 := (by rw [hw, Ny105.out]; exact HP15.1); clear HP15; have n0_ := Aside0.mk (Kd.R_over' (v := (.slice (some ⟨go13, 0, none⟩) l5.length co14)) (by (with_reducible repeat (first | apply Kd.R_alloc | apply Kd.R_drewN | apply Kd.R_drew)); exact HO3.out) (Kd.R_typed HO5.out) (by decide) hg); have n1_ := Aside0.mk (hp_); have n2_ := Aside0.mk ((by rw [hw]; exact below_set (HB.out) GB13.out : Below w0.heap.size w0 w16)); have n3_ := Aside0.mk (Kept.of_grown (S := (fun k_ => P3_ k_ ∨ P5_ k_)) hg (by repeat (first | (with_reducible first | exact HK.out | apply Kept.alloc | apply Kept.drewN | apply Kept.drew) | exact HK.out)) (fun k_ e_ => (HO5.out.1 k_ e_))); clear HO3; clear HO5; clear HB; clear HK; have HO3 := n0_; have HO5 := n1_; have HB := n2_; have HK := n3_; clear n0_ n1_ n2_ n3_; clear hg hw hp_))
            first | go_end0 | ((try simp only [Exit.inBlock, Exit.then]); refine bodyPost_ret (results_none rfl _ _ _) rfl ?_)
            exact ⟨by first | rfl | (simp [errW_none, errW_some] <;> rfl) | (simp [*, errW_none, errW_some] <;> rfl), by (with_reducible repeat (first | apply Kd.R_alloc | apply Kd.R_drewN | apply Kd.R_drew)); exact HO3.out, by (with_reducible repeat (first | apply Kd.R_alloc | apply Kd.R_drewN | apply Kd.R_drew)); exact HO5.out, by repeat (first | (with_reducible first | exact HB.out | apply below_alloc | apply pw_below_drewN | apply below_drew1) | exact HB.out), by repeat (first | (with_reducible first | exact HK.out | apply Kept.alloc | apply Kept.drewN | apply Kept.drew) | exact HK.out)⟩
          · rw [if_neg c12] at H
            exact absurd H (by simp)
        · rw [if_neg c11] at H
          have c11b0 : (a4 != ((bt a0 a1) == 108)) = false := by simpa using c11
          (try (have c11b1 : decide (a4 = ((bt a0 a1) == 108)) = true := by simpa using c11))
          (try (have c11b2 : (a4 == ((bt a0 a1) == 108)) = true := by simpa using c11))
          clear c11
          by_cases c17 : 0 < (l5.length : Int)
          · rw [if_pos c17] at H
            have c17b0 : decide (0 < (l5.length : Int)) = true := decide_eq_true c17
            have c17b1 : decide (0 < l5.length) = true := decide_eq_true (by omega)
            clear c17
            obtain ⟨y107, hy107⟩ : ∃ y_ : List Int, y_ = (l5.set (0 : Int).toNat (wrap64 ((rd l5 0) + 1))) := ⟨_, rfl⟩
            replace H : (some (l3, y107)) = some (r1, r2) := by first | (rw [hy107]; with_reducible exact H) | (have H2_ := (Option.bind_some _ _).symm.trans H; rw [hy107]; with_reducible exact H2_) | (have H2_ := (Option.bind_some _ _).symm.trans H; with_reducible exact H2_) | with_reducible exact H | (rw [hy107]; exact H) | exact H
            have Ny107 := Aside0.mk hy107
            clear hy107
            simp only [Option.some.injEq, Prod.mk.injEq] at H
            obtain ⟨rfl, rfl⟩ := H
            have p9 : 0 ≤ (a1 : Int) := of_decide_eq_true (by first | (with_reducible assumption) | assumption)
            have q9 : a1 < (a0.size : Int) := of_decide_eq_true (by first | (with_reducible assumption) | assumption)
            have hx9 := bt_at a0 a1
            replace p9 := eq_true p9
            replace q9 := eq_true q9
            obtain ⟨Ao19, co19, eo19⟩ := Kd.R_slice HO5.out
            subst eo19
            have p106 : 0 ≤ (0 : Int) := (by omega)
            have q106 : 0 < (l5.length : Int) := of_decide_eq_true (by first | (with_reducible assumption) | assumption)
            obtain ⟨ad106, e106, hx106_0⟩ := Kd.at_int (Kd.R_reads' HO5.out).2.2 0 p106 q106
            cases e106
            have qi106 : (0 < l5.length) = True := eq_true (by omega)
            (try rw [show ((0 : Int)).toNat = 0 from rfl] at hx106_0)
            (try rw [Addr.add_zero'] at hx106_0)
            replace p106 := eq_true p106
            replace q106 := eq_true q106
            have p18 : 0 ≤ (0 : Int) := (by omega)
            have q18 : (0 : Int) < ((l5.length : Int) : Int) := of_decide_eq_true (by first | (with_reducible assumption) | assumption)
            have qi18 : (0 < l5.length) = True := eq_true (by omega)
            obtain ⟨go18, co18, eo18, gb18, gl18, cl18, HG18⟩ := Kd.R_form HO5.out (by omega)
            (first | cases eo18 | (injection eo18 with ea_ en_ ec_; (first | subst ea_ | (injection ea_ with ea_; subst ea_)); subst ec_; clear en_))
            have GB18 := Aside0.mk gb18
            have GG18 := Aside0.mk HG18
            clear gb18 gl18 HG18
            have HMgo18 := Aside0.mk (show ((P3_ go18 ∨ P5_ go18) ∨ w.heap.size ≤ go18) from (HO5.out.1 _ rfl))
            (first | simp only [add_plain] at hx106_0 | skip)
            obtain ⟨hx18_0, hf18_0⟩ := Kd.R_celln 0 HO5.out (0 : Int) p18 q18
            (try rw [show ((0 : Int)).toNat = 0 from rfl] at hx18_0)
            (try simp only [Nat.reduceMul, Nat.zero_mul, Nat.zero_add, Nat.reduceAdd] at hx18_0)
            (try rw [show ((0 : Int)).toNat = 0 from rfl] at hf18_0)
            (try simp only [Nat.reduceMul, Nat.zero_mul, Nat.zero_add, Nat.reduceAdd] at hf18_0)
            replace p18 := eq_true p18
            replace q18 := eq_true q18
            have HP20 := Kd.R_putg HO5.out (0 : Int) (wrap64 ((rd l5 0) + 1))
            go_enter Tryd.func39, Tryd.ntmps39
            go_wp2_with (first | ((with_reducible refine gate_store (t := 3) (p := 32) rfl ?_); refine store_event (t := 3) (p := 32) (v := ?vo_w21) (w1 := (w.setCell ⟨go18, (0 : Int).toNat, none⟩ (.int .i64 (wrap64 ((rd l5 0) + 1))))) ?hg ?ho ?hn ?hr ?_; (case ho => rfl); (case hg => rfl); (case hn => rfl); (case hr => first | (go_simp; done) | (go_simp; rfl)); intro w21 hw; have hg : w.grownBy w21 (some go18) := (by rw [hw]; exact HP20.2); have hp_ : Kd.R (Kd.int .i64) 3 w21 w0.heap.size (fun k_ => ((P3_ k_ ∨ P5_ k_) ∨ w.heap.size ≤ k_)) (.slice (some ⟨go18, 0, none⟩) l5.length co19) y107 := (by rw [hw, Ny107.out]; exact HP20.1); clear HP20; have n0_ := Aside0.mk (Kd.R_over' (v := (.slice (some ⟨go18, 0, none⟩) l5.length co19)) (by (with_reducible repeat (first | apply Kd.R_alloc | apply Kd.R_drewN | apply Kd.R_drew)); exact HO3.out) (Kd.R_typed HO5.out) (by decide) hg); have n1_ := Aside0.mk (hp_); have n2_ := Aside0.mk ((by rw [hw]; exact below_set (HB.out) GB18.out : Below w0.heap.size w0 w21)); have n3_ := Aside0.mk (Kept.of_grown (S := (fun k_ => P3_ k_ ∨ P5_ k_)) hg (by repeat (first | (with_reducible first | exact HK.out | apply Kept.alloc | apply Kept.drewN | apply Kept.drew) | exact HK.out)) (fun k_ e_ => (HO5.out.1 k_ e_))); clear HO3; clear HO5; clear HB; clear HK; have HO3 := n0_; have HO5 := n1_; have HB := n2_; have HK := n3_; clear n0_ n1_ n2_ n3_; clear hg hw hp_))
            first | go_end0 | ((try simp only [Exit.inBlock, Exit.then]); refine bodyPost_ret (results_none rfl _ _ _) rfl ?_)
            exact ⟨by first | rfl | (simp [errW_none, errW_some] <;> rfl) | (simp [*, errW_none, errW_some] <;> rfl), by (with_reducible repeat (first | apply Kd.R_alloc | apply Kd.R_drewN | apply Kd.R_drew)); exact HO3.out, by (with_reducible repeat (first | apply Kd.R_alloc | apply Kd.R_drewN | apply Kd.R_drew)); exact HO5.out, by repeat (first | (with_reducible first | exact HB.out | apply below_alloc | apply pw_below_drewN | apply below_drew1) | exact HB.out), by repeat (first | (with_reducible first | exact HK.out | apply Kept.alloc | apply Kept.drewN | apply Kept.drew) | exact HK.out)⟩
          · rw [if_neg c17] at H
            exact absurd H (by simp)
      · rw [if_neg c10] at H
        have c10b0 : (a1 == a2) = false := beq_eq_false_iff_ne.mpr c10
        have c10b1 : (a1 != a2) = true := bne_iff_ne.mpr c10
        by_cases c22 : a1 < (l3.length : Int)
        · rw [if_pos c22] at H
          have c22b0 : decide (a1 < (l3.length : Int)) = true := decide_eq_true c22
          clear c22
          obtain ⟨y108, hy108⟩ : ∃ y_ : List Bool, y_ = (l3.set (a1 : Int).toNat true) := ⟨_, rfl⟩
          replace H : (spec_liPaths.l0 k a0 a1 a2 y108 (a4 != ((bt a0 a1) == 108)) l5 (l3.length : Int) 0) = some (r1, r2) := by first | (rw [hy108]; with_reducible exact H) | (have H2_ := (Option.bind_some _ _).symm.trans H; rw [hy108]; with_reducible exact H2_) | (have H2_ := (Option.bind_some _ _).symm.trans H; with_reducible exact H2_) | with_reducible exact H | (rw [hy108]; exact H) | exact H
          have Ny108 := Aside0.mk hy108
          clear hy108
          have H' := Aside0.mk H
          clear H
          have p9 : 0 ≤ (a1 : Int) := of_decide_eq_true (by first | (with_reducible assumption) | assumption)
          have q9 : a1 < (a0.size : Int) := of_decide_eq_true (by first | (with_reducible assumption) | assumption)
          have hx9 := bt_at a0 a1
          replace p9 := eq_true p9
          replace q9 := eq_true q9
          have p23 : 0 ≤ (a1 : Int) := of_decide_eq_true (by first | (with_reducible assumption) | assumption)
          have q23 : (a1 : Int) < ((l3.length : Int) : Int) := of_decide_eq_true (by first | (with_reducible assumption) | assumption)
          obtain ⟨go23, co23, eo23, gb23, gl23, cl23, HG23⟩ := Kd.R_form HO3.out (by omega)
          (first | cases eo23 | (injection eo23 with ea_ en_ ec_; (first | subst ea_ | (injection ea_ with ea_; subst ea_)); subst ec_; clear en_))
          have GB23 := Aside0.mk gb23
          have GG23 := Aside0.mk HG23
          clear gb23 gl23 HG23
          have HMgo23 := Aside0.mk (show ((P3_ go23 ∨ P5_ go23) ∨ w.heap.size ≤ go23) from (HO3.out.1 _ rfl))
          obtain ⟨hx23_0, hf23_0⟩ := Kd.R_celln false HO3.out (a1 : Int) p23 q23
          replace p23 := eq_true p23
          replace q23 := eq_true q23
          have HP24 := Kd.R_putg HO3.out (a1 : Int) true
          go_enter Tryd.func39, Tryd.ntmps39
          go_wp2_with (first | ((with_reducible refine gate_store (t := 4) (p := 35) rfl ?_); refine store_event (t := 4) (p := 35) (v := ?vo_w25) (w1 := (w.setCell ⟨go23, (a1 : Int).toNat, none⟩ (.bool true))) ?hg ?ho ?hn ?hr ?_; (case ho => rfl); (case hg => rfl); (case hn => rfl); (case hr => first | (go_simp; done) | (go_simp; rfl)); intro w25 hw; have hg : w.grownBy w25 (some go23) := (by rw [hw]; exact HP24.2); have hp_ : Kd.R Kd.bool 4 w25 w0.heap.size (fun k_ => ((P3_ k_ ∨ P5_ k_) ∨ w.heap.size ≤ k_)) (.slice (some ⟨go23, 0, none⟩) l3.length co23) y108 := (by rw [hw, Ny108.out]; exact HP24.1); clear HP24; have n0_ := Aside0.mk (hp_); have n1_ := Aside0.mk (Kd.R_over' (v := (.slice (some ⟨go23, 0, none⟩) l3.length co23)) (by (with_reducible repeat (first | apply Kd.R_alloc | apply Kd.R_drewN | apply Kd.R_drew)); exact HO5.out) (Kd.R_typed HO3.out) (by decide) hg); have n2_ := Aside0.mk ((by rw [hw]; exact below_set (HB.out) GB23.out : Below w0.heap.size w0 w25)); have n3_ := Aside0.mk (Kept.of_grown (S := (fun k_ => P3_ k_ ∨ P5_ k_)) hg (by repeat (first | (with_reducible first | exact HK.out | apply Kept.alloc | apply Kept.drewN | apply Kept.drew) | exact HK.out)) (fun k_ e_ => (HO3.out.1 k_ e_))); clear HO3; clear HO5; clear HB; clear HK; have HO3 := n0_; have HO5 := n1_; have HB := n2_; have HK := n3_; clear n0_ n1_ n2_ n3_; clear hg hw hp_))
          go_loopg [38] k (fun kq v38 w' => ∃ (x3_1 : List Bool) (x5_1 : List Int) (x38_1 : Int), v38 = .int .i64 x38_1 ∧ Aside0 (spec_liPaths.l0 kq a0 a1 a2 x3_1 (a4 != ((bt a0 a1) == 108)) x5_1 (l3.length : Int) x38_1 = some (r1, r2)) ∧ Aside0 (kq ≤ k) ∧ Aside0 (Kd.R Kd.bool 4 w' w0.heap.size (fun k_ => ((P3_ k_ ∨ P5_ k_) ∨ w.heap.size ≤ k_)) (.slice (some ⟨go23, 0, none⟩) l3.length co23) x3_1) ∧ Aside0 (Kd.R (Kd.int .i64) 3 w' w0.heap.size (fun k_ => ((P3_ k_ ∨ P5_ k_) ∨ w.heap.size ≤ k_)) u9001_ x5_1) ∧ Aside0 (Kept w w' (fun k_ => P3_ k_ ∨ P5_ k_)) ∧ Aside0 (Below w0.heap.size w0 w'))
          case atStart => exact ⟨(y108), (l5), (0), (by first | rfl | (simp; done) | (simp [*]; done)), H', ⟨Nat.le_refl _⟩, ⟨by (with_reducible repeat (first | apply Kd.R_alloc | apply Kd.R_drewN | apply Kd.R_drew)); exact HO3.out⟩, ⟨by (with_reducible repeat (first | apply Kd.R_alloc | apply Kd.R_drewN | apply Kd.R_drew)); exact HO5.out⟩, ⟨by repeat (first | (with_reducible first | exact HK.out | apply Kept.alloc | apply Kept.drewN | apply Kept.drew) | exact HK.out)⟩, ⟨by repeat (first | (with_reducible first | exact HB.out | apply below_alloc | apply pw_below_drewN | apply below_drew1) | exact HB.out)⟩⟩
          case round =>
            clear H'
            try clear c1
            try clear p1
            try clear q1
            try clear hx1
            try clear qi1
            try clear c2
            try clear p2
            try clear q2
            try clear hx2
            try clear c3
            try clear p6
            try clear c7
            try clear c7b0
            try clear c8
            try clear c8b0
            try clear p9
            try clear q9
            try clear hx9
            try clear c10
            try clear c10b0
            try clear c10b1
            try clear p10
            try clear q10
            try clear hx10
            try clear qi10
            try clear c11
            try clear c11b0
            try clear c11b1
            try clear c11b2
            try clear c12
            try clear c12b0
            try clear c12b1
            try clear p13
            try clear q13
            try clear hx13
            try clear qi13
            try clear hf13
            try clear c17
            try clear c17b0
            try clear c17b1
            try clear p18
            try clear q18
            try clear hx18
            try clear qi18
            try clear hf18
            try clear c22
            try clear c22b0
            try clear p23
            try clear q23
            try clear hx23
            try clear hf23
            try clear hx104_0
            try clear hx106_0
            try clear hx13_0
            try clear hx18_0
            try clear hx23_0
            try clear p104
            try clear p106
            try clear p13
            try clear p18
            try clear p23
            try clear p9
            try clear q104
            try clear q106
            try clear q13
            try clear q18
            try clear q23
            try clear q9
            obtain ⟨x3_1, x5_1, x38_1, rfl, HA, HK1, HO_3, HO_5, HK, HB⟩ := hrel
            have hl3_1 := (Kd.R_reads' HO_3.out).1
            rw [hl3_1] at HO_3
            (try simp only [hl3_1])
            (try simp only [hl3_1] at HO_5)
            cases gk with
            | zero => exact absurd HA.out (by simp [spec_liPaths.l0])
            | succ k1 =>
              have H := HA.out
              clear HA
              simp only [spec_liPaths.l0] at H
              by_cases c26 : x38_1 < (l3.length : Int)
              · rw [if_pos c26] at H
                have c26b0 : decide (x38_1 < (l3.length : Int)) = true := decide_eq_true c26
                clear c26
                by_cases c27 : 0 ≤ x38_1
                · rw [if_pos c27] at H
                  have c27b0 : decide (0 ≤ x38_1) = true := decide_eq_true c27
                  clear c27
                  by_cases c28 : x38_1 < (x3_1.length : Int)
                  · rw [if_pos c28] at H
                    have c28b0 : decide (x38_1 < (x3_1.length : Int)) = true := decide_eq_true c28
                    clear c28
                    obtain ⟨bq29, hbq29⟩ : ∃ b_ : Bool, b_ = (rdOf false x3_1 x38_1) := ⟨_, rfl⟩
                    replace H : (if bq29 = true then (spec_liPaths.l0 k1 a0 a1 a2 x3_1 (a4 != ((bt a0 a1) == 108)) x5_1 (l3.length : Int) (wrap64 (x38_1 + 1))) else ((spec_liPaths.f k1 a0 x38_1 a2 x3_1 (a4 != ((bt a0 a1) == 108)) x5_1).bind fun bt110 => (spec_liPaths.l0 k1 a0 a1 a2 bt110.1 (a4 != ((bt a0 a1) == 108)) bt110.2 (l3.length : Int) (wrap64 (x38_1 + 1))))) = some (r1, r2) := by rw [← hbq29] at H; exact H
                    have Nbq29 := Aside0.mk hbq29
                    clear hbq29
                    by_cases c30 : bq29 = true
                    · subst c30
                      have H1 : (spec_liPaths.l0 k1 a0 a1 a2 x3_1 (a4 != ((bt a0 a1) == 108)) x5_1 (l3.length : Int) (wrap64 (x38_1 + 1))) = some (r1, r2) := by rw [if_pos rfl] at H; exact H
                      clear H
                      have H := H1
                      clear H1
                      have H' := Aside0.mk H
                      clear H
                      have p109 : 0 ≤ (x38_1 : Int) := of_decide_eq_true (by first | (with_reducible assumption) | assumption)
                      have q109 : x38_1 < (x3_1.length : Int) := of_decide_eq_true (by first | (with_reducible assumption) | assumption)
                      obtain ⟨ad109, e109, hx109_0⟩ := Kd.at_bool (Kd.R_reads' HO_3.out).2.2 x38_1 p109 q109
                      (try rw [← Nbq29.out] at hx109_0)
                      obtain rfl : (⟨go23, 0, none⟩ : Addr) = ad109 := (by injection e109)
                      (first | simp only [add_plain] at hx109_0 | simp only [add_at] at hx109_0 | simp only [Addr.add, Nat.zero_add] at hx109_0 | skip)
                      replace p109 := eq_true p109
                      replace q109 := eq_true q109
                      go_wp2
                      (try simp only [← hl3_1])
                      go_roundg k1
                      case measure => have := HK1.out; omega
                      case rel => exact ⟨(x3_1), (x5_1), (wrap64 (x38_1 + 1)), (by first | rfl | (simp; done) | (simp [*]; done)), H', ⟨by have := HK1.out; omega⟩, ⟨by (try simp only [hl3_1]); (with_reducible repeat (first | apply Kd.R_alloc | apply Kd.R_drewN | apply Kd.R_drew)); exact HO_3.out⟩, ⟨by (try simp only [hl3_1]); (with_reducible repeat (first | apply Kd.R_alloc | apply Kd.R_drewN | apply Kd.R_drew)); exact HO_5.out⟩, ⟨by repeat (first | (with_reducible first | exact HK.out | apply Kept.alloc | apply Kept.drewN | apply Kept.drew) | exact HK.out)⟩, ⟨by repeat (first | (with_reducible first | exact HB.out | apply below_alloc | apply pw_below_drewN | apply below_drew1) | exact HB.out)⟩⟩
                    · replace c30 := Bool.eq_false_iff.mpr c30
                      subst c30
                      have H1 : ((spec_liPaths.f k1 a0 x38_1 a2 x3_1 (a4 != ((bt a0 a1) == 108)) x5_1).bind fun bt110 => (spec_liPaths.l0 k1 a0 a1 a2 bt110.1 (a4 != ((bt a0 a1) == 108)) bt110.2 (l3.length : Int) (wrap64 (x38_1 + 1)))) = some (r1, r2) := by rw [if_neg (show ¬ (false = true) by decide)] at H; exact H
                      clear H
                      have H := H1
                      clear H1
                      replace H := Option.bind_eq_some_iff.mp H
                      obtain ⟨⟨t110, t111⟩, A310, H⟩ := H
                      replace H : (spec_liPaths.l0 k1 a0 a1 a2 t110 (a4 != ((bt a0 a1) == 108)) t111 (l3.length : Int) (wrap64 (x38_1 + 1))) = some (r1, r2) := H
                      have A31 := Aside0.mk A310
                      clear A310
                      have H' := Aside0.mk H
                      clear H
                      have p109 : 0 ≤ (x38_1 : Int) := of_decide_eq_true (by first | (with_reducible assumption) | assumption)
                      have q109 : x38_1 < (x3_1.length : Int) := of_decide_eq_true (by first | (with_reducible assumption) | assumption)
                      obtain ⟨ad109, e109, hx109_0⟩ := Kd.at_bool (Kd.R_reads' HO_3.out).2.2 x38_1 p109 q109
                      (try rw [← Nbq29.out] at hx109_0)
                      obtain rfl : (⟨go23, 0, none⟩ : Addr) = ad109 := (by injection e109)
                      (first | simp only [add_plain] at hx109_0 | simp only [add_at] at hx109_0 | simp only [Addr.add, Nat.zero_add] at hx109_0 | skip)
                      replace p109 := eq_true p109
                      replace q109 := eq_true q109
                      obtain ⟨Ao32, co32, eo32⟩ := Kd.R_slice HO_5.out
                      subst eo32
                      go_wp2_with (first | ((with_reducible refine gate_callee (f := 39) rfl ?_); refine goesL_ (some 52) rfl rfl Tryd.func39 (by kernel_rfl) rfl #[.string a0, .int .i64 x38_1, .int .i64 a2, .slice (some ⟨go23, 0, none⟩) x3_1.length co23, .bool (a4 != ((bt a0 a1) == 108)), .slice Ao32 x5_1.length co32] rfl (by (try simp only [List.map_toArray, List.map_cons, List.map_nil]); first | done | rfl | (simp only [List.length_drop, List.length_take]; rfl)) ?_; (with_reducible refine (ih k1 (by have := HK1.out; omega) a0 x38_1 a2 (fun k_ => some k_ = (.slice (some ⟨go23, 0, none⟩) x3_1.length co23 : Value).ownBlock) (.slice (some ⟨go23, 0, none⟩) x3_1.length co23) x3_1 (a4 != ((bt a0 a1) == 108)) (fun k_ => some k_ = (.slice Ao32 x5_1.length co32 : Value).ownBlock) (.slice Ao32 x5_1.length co32) x5_1 t110 t111 w0 _ ?side1 ?side2 ?side3 A31.out).mono ?_); (case side1 => repeat (first | (with_reducible first | exact HB.out | apply below_alloc | apply pw_below_drewN | apply below_drew1) | exact HB.out)); (case side2 => exact Kd.R_tight rfl HO_3.out); (case side3 => exact Kd.R_tight rfl HO_5.out); rintro e w33 ⟨rfl, hy0, hy1, hb, hkp⟩; refine ⟨_, rfl, ?_⟩; have n0_ := Aside0.mk (Kd.R_reok rfl hy0 (fun k_ e_ => HO_3.out.1 k_ e_)); have n1_ := Aside0.mk (Kd.R_reok rfl hy1 (fun k_ e_ => HO_5.out.1 k_ e_)); have n2_ := Aside0.mk (Kept.then_ (S := (fun k_ => P3_ k_ ∨ P5_ k_)) (by repeat (first | (with_reducible first | exact HK.out | apply Kept.alloc | apply Kept.drewN | apply Kept.drew) | exact HK.out)) hkp (fun k_ hs_ => Or.elim hs_ (fun e_ => (fun e_ => (HO_3.out.1 k_ e_.symm)) e_) (fun e_ => (fun e_ => (HO_5.out.1 k_ e_.symm)) e_))); have n3_ := Aside0.mk (hb); clear HO_3; clear HO_5; clear HK; clear HB; have HO_3 := n0_; have HO_5 := n1_; have HK := n2_; have HB := n3_; clear n0_ n1_ n2_ n3_; (try clear hb); (try clear hkp); (try clear hy0); (try clear hy1)))
                      (try simp only [← hl3_1])
                      go_roundg k1
                      case measure => have := HK1.out; omega
                      case rel => exact ⟨(t110), (t111), (wrap64 (x38_1 + 1)), (by first | rfl | (simp; done) | (simp [*]; done)), H', ⟨by have := HK1.out; omega⟩, ⟨by (try simp only [hl3_1]); (with_reducible repeat (first | apply Kd.R_alloc | apply Kd.R_drewN | apply Kd.R_drew)); exact HO_3.out⟩, ⟨by (try simp only [hl3_1]); (with_reducible repeat (first | apply Kd.R_alloc | apply Kd.R_drewN | apply Kd.R_drew)); exact HO_5.out⟩, ⟨by repeat (first | (with_reducible first | exact HK.out | apply Kept.alloc | apply Kept.drewN | apply Kept.drew) | exact HK.out)⟩, ⟨by repeat (first | (with_reducible first | exact HB.out | apply below_alloc | apply pw_below_drewN | apply below_drew1) | exact HB.out)⟩⟩
                  · rw [if_neg c28] at H
                    exact absurd H (by simp)
                · rw [if_neg c27] at H
                  exact absurd H (by simp)
              · rw [if_neg c26] at H
                have c26b0 : decide (x38_1 < (l3.length : Int)) = false := decide_eq_false c26
                (try simp only [hl3_1] at c26b0)
                clear c26
                by_cases c34 : 0 ≤ a1
                · rw [if_pos c34] at H
                  have c34b0 : decide (0 ≤ a1) = true := decide_eq_true c34
                  clear c34
                  by_cases c35 : a1 < (x3_1.length : Int)
                  · rw [if_pos c35] at H
                    have c35b0 : decide (a1 < (x3_1.length : Int)) = true := decide_eq_true c35
                    clear c35
                    obtain ⟨y112, hy112⟩ : ∃ y_ : List Bool, y_ = (x3_1.set (a1 : Int).toNat false) := ⟨_, rfl⟩
                    replace H : (some (y112, x5_1)) = some (r1, r2) := by first | (rw [hy112]; with_reducible exact H) | (have H2_ := (Option.bind_some _ _).symm.trans H; rw [hy112]; with_reducible exact H2_) | (have H2_ := (Option.bind_some _ _).symm.trans H; with_reducible exact H2_) | with_reducible exact H | (rw [hy112]; exact H) | exact H
                    have Ny112 := Aside0.mk hy112
                    clear hy112
                    simp only [Option.some.injEq, Prod.mk.injEq] at H
                    obtain ⟨rfl, rfl⟩ := H
                    have p36 : 0 ≤ (a1 : Int) := of_decide_eq_true (by first | (with_reducible assumption) | assumption)
                    have q36 : (a1 : Int) < ((x3_1.length : Int) : Int) := of_decide_eq_true (by first | (with_reducible assumption) | assumption)
                    obtain ⟨hx36_0, hf36_0⟩ := Kd.R_celln false HO_3.out (a1 : Int) p36 q36
                    replace p36 := eq_true p36
                    replace q36 := eq_true q36
                    have HP37 := Kd.R_putg HO_3.out (a1 : Int) false
                    go_wp2_with (first | ((with_reducible refine gate_store (t := 4) (p := 56) rfl ?_); refine store_event (t := 4) (p := 56) (v := ?vo_w38) (w1 := (wr.setCell ⟨go23, (a1 : Int).toNat, none⟩ (.bool false))) ?hg ?ho ?hn ?hr ?_; (case ho => rfl); (case hg => rfl); (case hn => rfl); (case hr => first | (go_simp; done) | (go_simp; rfl)); intro w38 hw; have hg : wr.grownBy w38 (some go23) := (by rw [hw]; exact HP37.2); have hp_ : Kd.R Kd.bool 4 w38 w0.heap.size (fun k_ => ((P3_ k_ ∨ P5_ k_) ∨ w.heap.size ≤ k_)) (.slice (some ⟨go23, 0, none⟩) x3_1.length co23) y112 := (by rw [hw, Ny112.out]; exact HP37.1); clear HP37; have n0_ := Aside0.mk (hp_); have n1_ := Aside0.mk (Kd.R_over' (v := (.slice (some ⟨go23, 0, none⟩) x3_1.length co23)) (by (with_reducible repeat (first | apply Kd.R_alloc | apply Kd.R_drewN | apply Kd.R_drew)); exact HO_5.out) (Kd.R_typed HO_3.out) (by decide) hg); have n2_ := Aside0.mk ((by rw [hw]; exact below_set (HB.out) GB23.out : Below w0.heap.size w0 w38)); have n3_ := Aside0.mk (Kept.of_grown (S := (fun k_ => P3_ k_ ∨ P5_ k_)) hg (by repeat (first | (with_reducible first | exact HK.out | apply Kept.alloc | apply Kept.drewN | apply Kept.drew) | exact HK.out)) (fun k_ e_ => (HO_3.out.1 k_ e_))); clear HO_3; clear HO_5; clear HB; clear HK; have HO_3 := n0_; have HO_5 := n1_; have HB := n2_; have HK := n3_; clear n0_ n1_ n2_ n3_; clear hg hw hp_))
                    first | go_end0 | ((try simp only [Exit.inBlock, Exit.then]); refine bodyPost_ret (results_none rfl _ _ _) rfl ?_)
                    exact ⟨by first | rfl | (simp [errW_none, errW_some] <;> rfl) | (simp [*, errW_none, errW_some] <;> rfl), (by first | exact (by (with_reducible repeat (first | apply Kd.R_alloc | apply Kd.R_drewN | apply Kd.R_drew)); exact HO_3.out) | (simp only [hl3_1]; exact (by (with_reducible repeat (first | apply Kd.R_alloc | apply Kd.R_drewN | apply Kd.R_drew)); exact HO_3.out))), (by first | exact (by (with_reducible repeat (first | apply Kd.R_alloc | apply Kd.R_drewN | apply Kd.R_drew)); exact HO_5.out) | (simp only [hl3_1]; exact (by (with_reducible repeat (first | apply Kd.R_alloc | apply Kd.R_drewN | apply Kd.R_drew)); exact HO_5.out))), by repeat (first | (with_reducible first | exact HB.out | apply below_alloc | apply pw_below_drewN | apply below_drew1) | exact HB.out), by repeat (first | (with_reducible first | exact HK.out | apply Kept.alloc | apply Kept.drewN | apply Kept.drew) | exact HK.out)⟩
                  · rw [if_neg c35] at H
                    exact absurd H (by simp)
                · rw [if_neg c34] at H
                  exact absurd H (by simp)
        · rw [if_neg c22] at H
          exact absurd H (by simp)
    · rw [if_neg c8] at H
      exact absurd H (by simp)
  · rw [if_neg c7] at H
    exact absurd H (by simp)

/-! ### spec_PathsHeard: function 20 -/
def spec_PathsHeard.f (k : Nat) (a0 : ByteArray) (a1 : Int) (a2 : Int) : Option (List Int × Bool) := (spec_liCast.f a0).bind fun t113 => (if t113 = true then ((spec_l1In.f a1 0 (wrap64 ((a0.size : Int) - 1))).bind fun t114 => (if t114 = true then ((spec_l1In.f a2 0 (wrap64 ((a0.size : Int) - 1))).bind fun t115 => (if t115 = true then (if a1 = a2 then (some (([] : List Int), false)) else (if 2 ≤ 35184372088832 then (if 0 ≤ (a0.size : Int) then (if ((a0.size : Int) : Int).toNat ≤ 281474976710656 then ((spec_liPaths.f k a0 a1 a2 (List.replicate ((a0.size : Int) : Int).toNat false) false (List.replicate 2 0)).bind fun bt122 => (some (bt122.2, true))) else (none)) else (none)) else (none))) else (some (([] : List Int), false)))) else (some (([] : List Int), false)))) else (some (([] : List Int), false)))
theorem spec_PathsHeard.mono : ∀ a0 a1 a2 k, LeO (spec_PathsHeard.f k a0 a1 a2) (spec_PathsHeard.f (k + 1) a0 a1 a2) := by
  intro a0 a1 a2 k
  unfold spec_PathsHeard.f
  repeat' first
      | (with_reducible exact spec_liPaths.mono _ _ _ _ _ _ _)
      | (with_reducible exact LeO.refl _)
      | (with_reducible exact LeO.none _)
      | (with_reducible refine LeO.ite ?_ ?_)
      | (with_reducible refine LeO.bind ?_ (fun _ => ?_))
      | exact spec_liPaths.mono _ _ _ _ _ _ _
      | exact LeO.none _
      | refine LeO.ite ?_ ?_
      | refine LeO.bind ?_ (fun _ => ?_)
set_option maxHeartbeats 8000000 in
set_option maxRecDepth 100000 in
theorem spec_PathsHeard.calls (k : Nat) (a0 : ByteArray) (a1 : Int) (a2 : Int) (r1 : List Int) (r2 : Bool) (w : World) (h : spec_PathsHeard.f k a0 a1 a2 = some (r1, r2)) :
    Calls Tryd.prog 20 #[.string a0, .int .i64 a1, .int .i64 a2] w fun e w' => ∃ v0_ : Value, e = .returned (.tuple #[v0_, .bool r2]) ∧ Kd.R (Kd.int .i64) 3 w' w.heap.size (fun _ => True) v0_ r1 ∧ Below w.heap.size w w' := by
  have HB := Aside0.mk (Below.refl w.heap.size w)
  have H : ((spec_liCast.f a0).bind fun t113 => (if t113 = true then ((spec_l1In.f a1 0 (wrap64 ((a0.size : Int) - 1))).bind fun t114 => (if t114 = true then ((spec_l1In.f a2 0 (wrap64 ((a0.size : Int) - 1))).bind fun t115 => (if t115 = true then (if a1 = a2 then (some (([] : List Int), false)) else (if 2 ≤ 35184372088832 then (if 0 ≤ (a0.size : Int) then (if ((a0.size : Int) : Int).toNat ≤ 281474976710656 then ((spec_liPaths.f k a0 a1 a2 (List.replicate ((a0.size : Int) : Int).toNat false) false (List.replicate 2 0)).bind fun bt122 => (some (bt122.2, true))) else (none)) else (none)) else (none))) else (some (([] : List Int), false)))) else (some (([] : List Int), false)))) else (some (([] : List Int), false)))) = some (r1, r2) := h
  clear h
  replace H := Option.bind_eq_some_iff.mp H
  obtain ⟨t113, A40, H⟩ := H
  replace H : (if t113 = true then ((spec_l1In.f a1 0 (wrap64 ((a0.size : Int) - 1))).bind fun t114 => (if t114 = true then ((spec_l1In.f a2 0 (wrap64 ((a0.size : Int) - 1))).bind fun t115 => (if t115 = true then (if a1 = a2 then (some (([] : List Int), false)) else (if 2 ≤ 35184372088832 then (if 0 ≤ (a0.size : Int) then (if ((a0.size : Int) : Int).toNat ≤ 281474976710656 then ((spec_liPaths.f k a0 a1 a2 (List.replicate ((a0.size : Int) : Int).toNat false) false (List.replicate 2 0)).bind fun bt122 => (some (bt122.2, true))) else (none)) else (none)) else (none))) else (some (([] : List Int), false)))) else (some (([] : List Int), false)))) else (some (([] : List Int), false))) = some (r1, r2) := H
  have A4 := Aside0.mk A40
  clear A40
  by_cases c5 : t113 = true
  · subst c5
    have H1 : ((spec_l1In.f a1 0 (wrap64 ((a0.size : Int) - 1))).bind fun t114 => (if t114 = true then ((spec_l1In.f a2 0 (wrap64 ((a0.size : Int) - 1))).bind fun t115 => (if t115 = true then (if a1 = a2 then (some (([] : List Int), false)) else (if 2 ≤ 35184372088832 then (if 0 ≤ (a0.size : Int) then (if ((a0.size : Int) : Int).toNat ≤ 281474976710656 then ((spec_liPaths.f k a0 a1 a2 (List.replicate ((a0.size : Int) : Int).toNat false) false (List.replicate 2 0)).bind fun bt122 => (some (bt122.2, true))) else (none)) else (none)) else (none))) else (some (([] : List Int), false)))) else (some (([] : List Int), false)))) = some (r1, r2) := by rw [if_pos rfl] at H; exact H
    clear H
    have H := H1
    clear H1
    replace H := Option.bind_eq_some_iff.mp H
    obtain ⟨t114, A60, H⟩ := H
    replace H : (if t114 = true then ((spec_l1In.f a2 0 (wrap64 ((a0.size : Int) - 1))).bind fun t115 => (if t115 = true then (if a1 = a2 then (some (([] : List Int), false)) else (if 2 ≤ 35184372088832 then (if 0 ≤ (a0.size : Int) then (if ((a0.size : Int) : Int).toNat ≤ 281474976710656 then ((spec_liPaths.f k a0 a1 a2 (List.replicate ((a0.size : Int) : Int).toNat false) false (List.replicate 2 0)).bind fun bt122 => (some (bt122.2, true))) else (none)) else (none)) else (none))) else (some (([] : List Int), false)))) else (some (([] : List Int), false))) = some (r1, r2) := H
    have A6 := Aside0.mk A60
    clear A60
    by_cases c7 : t114 = true
    · subst c7
      have H1 : ((spec_l1In.f a2 0 (wrap64 ((a0.size : Int) - 1))).bind fun t115 => (if t115 = true then (if a1 = a2 then (some (([] : List Int), false)) else (if 2 ≤ 35184372088832 then (if 0 ≤ (a0.size : Int) then (if ((a0.size : Int) : Int).toNat ≤ 281474976710656 then ((spec_liPaths.f k a0 a1 a2 (List.replicate ((a0.size : Int) : Int).toNat false) false (List.replicate 2 0)).bind fun bt122 => (some (bt122.2, true))) else (none)) else (none)) else (none))) else (some (([] : List Int), false)))) = some (r1, r2) := by rw [if_pos rfl] at H; exact H
      clear H
      have H := H1
      clear H1
      replace H := Option.bind_eq_some_iff.mp H
      obtain ⟨t115, A80, H⟩ := H
      replace H : (if t115 = true then (if a1 = a2 then (some (([] : List Int), false)) else (if 2 ≤ 35184372088832 then (if 0 ≤ (a0.size : Int) then (if ((a0.size : Int) : Int).toNat ≤ 281474976710656 then ((spec_liPaths.f k a0 a1 a2 (List.replicate ((a0.size : Int) : Int).toNat false) false (List.replicate 2 0)).bind fun bt122 => (some (bt122.2, true))) else (none)) else (none)) else (none))) else (some (([] : List Int), false))) = some (r1, r2) := H
      have A8 := Aside0.mk A80
      clear A80
      by_cases c9 : t115 = true
      · subst c9
        have H1 : (if a1 = a2 then (some (([] : List Int), false)) else (if 2 ≤ 35184372088832 then (if 0 ≤ (a0.size : Int) then (if ((a0.size : Int) : Int).toNat ≤ 281474976710656 then ((spec_liPaths.f k a0 a1 a2 (List.replicate ((a0.size : Int) : Int).toNat false) false (List.replicate 2 0)).bind fun bt122 => (some (bt122.2, true))) else (none)) else (none)) else (none))) = some (r1, r2) := by rw [if_pos rfl] at H; exact H
        clear H
        have H := H1
        clear H1
        by_cases c10 : a1 = a2
        · rw [if_pos c10] at H
          have c10b0 : (a1 == a2) = true := beq_iff_eq.mpr c10
          have c10b1 : (a1 != a2) = false := bne_eq_false_iff_eq.mpr c10
          clear c10
          simp only [Option.some.injEq, Prod.mk.injEq] at H
          obtain ⟨rfl, rfl⟩ := H
          go_enter Tryd.func20, Tryd.ntmps20
          go_wp2_with (first | ((with_reducible refine gate_callee (f := 30) rfl ?_); refine goesL_ (some 10) rfl rfl Tryd.func30 (by kernel_rfl) rfl #[.string a0] rfl (by (try simp only [List.map_toArray, List.map_cons, List.map_nil]); first | done | rfl | (simp only [List.length_drop, List.length_take]; rfl)) ?_; (with_reducible refine (spec_liCast.calls a0 true _ A4.out).mono ?_); rintro e w11 ⟨rfl, hb⟩; refine ⟨_, rfl, ?_⟩; have n0_ := Aside0.mk (below_step (by repeat (first | (with_reducible first | exact HB.out | apply below_alloc | apply pw_below_drewN | apply below_drew1) | exact HB.out)) hb); clear HB; have HB := n0_; clear n0_; (try clear hb); (try clear hb2); (try clear hk); (try clear hi)) | (go_at_call 31; (with_reducible refine (spec_l1In.calls a1 0 (wrap64 ((a0.size : Int) - 1)) true _ A6.out).mono ?_); rintro e w' ⟨rfl, ⟨nd, rfl⟩⟩) | (go_at_call 31; (with_reducible refine (spec_l1In.calls a2 0 (wrap64 ((a0.size : Int) - 1)) true _ A8.out).mono ?_); rintro e w' ⟨rfl, ⟨nd, rfl⟩⟩))
          go_ret2
          exact ⟨_, by first | rfl | (simp [errW_none, errW_some] <;> rfl) | (simp [*, errW_none, errW_some] <;> rfl), by first | exact Kd.R_nil _ _ _ _ _ | exact Kd.N_nil _ _ _ _ _ | exact Kd.V_nil _ _ _ _ _ | exact Kd.Q_nil _ _ _ _ _ | exact Kd.S_nil _ _ _ _ _, by repeat (first | (with_reducible first | exact HB.out | apply below_alloc | apply pw_below_drewN | apply below_drew1) | exact HB.out)⟩
        · rw [if_neg c10] at H
          have c10b0 : (a1 == a2) = false := beq_eq_false_iff_ne.mpr c10
          have c10b1 : (a1 != a2) = true := bne_iff_ne.mpr c10
          by_cases c12 : 2 ≤ 35184372088832
          · rw [if_pos c12] at H
            have c12b0 := eq_true c12
            have c12b1 : decide (2 ≤ 35184372088832) = true := decide_eq_true c12
            clear c12
            obtain ⟨y116, hy116⟩ : ∃ y_ : List Int, y_ = (List.replicate 2 0) := ⟨_, rfl⟩
            replace H : (if 0 ≤ (a0.size : Int) then (if ((a0.size : Int) : Int).toNat ≤ 281474976710656 then ((spec_liPaths.f k a0 a1 a2 (List.replicate ((a0.size : Int) : Int).toNat false) false y116).bind fun bt122 => (some (bt122.2, true))) else (none)) else (none)) = some (r1, r2) := by first | (rw [hy116]; with_reducible exact H) | (have H2_ := (Option.bind_some _ _).symm.trans H; rw [hy116]; with_reducible exact H2_) | (have H2_ := (Option.bind_some _ _).symm.trans H; with_reducible exact H2_) | with_reducible exact H | (rw [hy116]; exact H) | exact H
            have Ny116 := Aside0.mk hy116
            clear hy116
            by_cases c13 : 0 ≤ (a0.size : Int)
            · rw [if_pos c13] at H
              have c13b0 := eq_true c13
              have c13b1 : decide (0 ≤ (a0.size : Int)) = true := decide_eq_true c13
              clear c13
              by_cases c14 : ((a0.size : Int) : Int).toNat ≤ 281474976710656
              · rw [if_pos c14] at H
                have c14b0 := eq_true c14
                have c14b1 : decide (((a0.size : Int) : Int).toNat ≤ 281474976710656) = true := decide_eq_true c14
                clear c14
                obtain ⟨y119, hy119⟩ : ∃ y_ : List Bool, y_ = (List.replicate ((a0.size : Int) : Int).toNat false) := ⟨_, rfl⟩
                replace H : ((spec_liPaths.f k a0 a1 a2 y119 false y116).bind fun bt122 => (some (bt122.2, true))) = some (r1, r2) := by first | (rw [hy119]; with_reducible exact H) | (have H2_ := (Option.bind_some _ _).symm.trans H; rw [hy119]; with_reducible exact H2_) | (have H2_ := (Option.bind_some _ _).symm.trans H; with_reducible exact H2_) | with_reducible exact H | (rw [hy119]; exact H) | exact H
                have Ny119 := Aside0.mk hy119
                clear hy119
                replace H := Option.bind_eq_some_iff.mp H
                obtain ⟨⟨t122, t123⟩, A150, H⟩ := H
                replace H : (some (t123, true)) = some (r1, r2) := H
                have A15 := Aside0.mk A150
                clear A150
                simp only [Option.some.injEq, Prod.mk.injEq] at H
                obtain ⟨rfl, rfl⟩ := H
                go_enter Tryd.func20, Tryd.ntmps20
                go_wp2_with (first | ((with_reducible refine gate_callee (f := 30) rfl ?_); refine goesL_ (some 10) rfl rfl Tryd.func30 (by kernel_rfl) rfl #[.string a0] rfl (by (try simp only [List.map_toArray, List.map_cons, List.map_nil]); first | done | rfl | (simp only [List.length_drop, List.length_take]; rfl)) ?_; (with_reducible refine (spec_liCast.calls a0 true _ A4.out).mono ?_); rintro e w16 ⟨rfl, hb⟩; refine ⟨_, rfl, ?_⟩; have n0_ := Aside0.mk (below_step (by repeat (first | (with_reducible first | exact HB.out | apply below_alloc | apply pw_below_drewN | apply below_drew1) | exact HB.out)) hb); clear HB; have HB := n0_; clear n0_; (try clear hb); (try clear hb2); (try clear hk); (try clear hi)) | (go_at_call 31; (with_reducible refine (spec_l1In.calls a1 0 (wrap64 ((a0.size : Int) - 1)) true _ A6.out).mono ?_); rintro e w' ⟨rfl, ⟨nd, rfl⟩⟩) | (go_at_call 31; (with_reducible refine (spec_l1In.calls a2 0 (wrap64 ((a0.size : Int) - 1)) true _ A8.out).mono ?_); rintro e w' ⟨rfl, ⟨nd, rfl⟩⟩) | ((with_reducible refine gate_dst (N := 33) rfl ?_); (try (refine gate_guard (by rfl) ?_; dsimp only)); refine Kd.R_make (Kd.int .i64) _ 3 rfl (N := 33) rfl 25 _ _ rfl 2 rfl rfl Tryd.underlying25 (.int .i64 0) 8 info3 rfl (by decide) (by omega) 0 (ok := fun _ => True) (okp := fun _ => True) rfl (fun _ hk => hk) trivial (by omega) (by omega) (Below.refl _ _) (Nat.le_refl _) ?_; intro v117 w17 ho18 hb hg_ hnew_; clear hg_ hnew_; (first | rw [← Ny116.out] at ho18 | (simp only [Int.reduceToNat] at ho18; rw [← Ny116.out] at ho18)); have n0_ := Aside0.mk (Kd.R_lower ho18 (below_size (by repeat (first | (with_reducible first | exact HB.out | apply below_alloc | apply pw_below_drewN | apply below_drew1) | exact HB.out)))); have n1_ := Aside0.mk (below_step (by repeat (first | (with_reducible first | exact HB.out | apply below_alloc | apply pw_below_drewN | apply below_drew1) | exact HB.out)) hb); clear HB; have HO118 := n0_; have HB := n1_; clear n0_ n1_; clear hb ho18) | ((with_reducible refine gate_dst (N := 39) rfl ?_); (try (refine gate_guard (by rfl) ?_; dsimp only)); refine Kd.R_make Kd.bool _ 4 rfl (N := 39) rfl 52 _ _ rfl (a0.size : Int) rfl rfl Tryd.underlying52 (.bool false) 1 info4 rfl (by decide) (by omega) false (ok := fun _ => True) (okp := fun _ => True) rfl (fun _ hk => hk) trivial (of_decide_eq_true (by first | (with_reducible assumption) | assumption)) (Nat.le_trans (Nat.mul_le_mul_right _ (of_decide_eq_true (by first | (with_reducible assumption) | assumption) : (a0.size : Int).toNat ≤ 281474976710656)) (by omega)) (Below.refl _ _) (Nat.le_refl _) ?_; intro v120 w19 ho20 hb hg_ hnew_; clear hg_ hnew_; (first | rw [← Ny119.out] at ho20 | (simp only [Int.reduceToNat] at ho20; rw [← Ny119.out] at ho20)); have n0_ := Aside0.mk (Kd.R_below (by (with_reducible repeat (first | apply Kd.R_alloc | apply Kd.R_drewN | apply Kd.R_drew)); exact HO118.out) hb); have n1_ := Aside0.mk (Kd.R_lower ho20 (below_size (by repeat (first | (with_reducible first | exact HB.out | apply below_alloc | apply pw_below_drewN | apply below_drew1) | exact HB.out)))); have n2_ := Aside0.mk (below_step (by repeat (first | (with_reducible first | exact HB.out | apply below_alloc | apply pw_below_drewN | apply below_drew1) | exact HB.out)) hb); clear HO118; clear HB; have HO118 := n0_; have HO121 := n1_; have HB := n2_; clear n0_ n1_ n2_; clear hb ho20; obtain ⟨Ao21, co21, eo21⟩ := Kd.R_slice HO121.out; subst eo21; obtain ⟨Ao22, co22, eo22⟩ := Kd.R_slice HO118.out; subst eo22) | ((with_reducible refine gate_callee (f := 39) rfl ?_); refine goesL_ (some 41) rfl rfl Tryd.func39 (by kernel_rfl) rfl #[.string a0, .int .i64 a1, .int .i64 a2, .slice Ao21 y119.length co21, .bool false, .slice Ao22 y116.length co22] rfl (by (try simp only [List.map_toArray, List.map_cons, List.map_nil]); first | done | rfl | (simp only [List.length_drop, List.length_take]; rfl)) ?_; (with_reducible refine (spec_liPaths.calls k a0 a1 a2 (fun k_ => some k_ = (.slice Ao21 y119.length co21 : Value).ownBlock) (.slice Ao21 y119.length co21) y119 false (fun k_ => some k_ = (.slice Ao22 y116.length co22 : Value).ownBlock) (.slice Ao22 y116.length co22) y116 t122 t123 w _ ?side1 ?side2 ?side3 A15.out).mono ?_); (case side1 => repeat (first | (with_reducible first | exact HB.out | apply below_alloc | apply pw_below_drewN | apply below_drew1) | exact HB.out)); (case side2 => exact Kd.R_tight rfl HO121.out); (case side3 => exact Kd.R_tight rfl HO118.out); rintro e w23 ⟨rfl, hy0, hy1, hb, hkp⟩; refine ⟨_, rfl, ?_⟩; have n0_ := Aside0.mk (Kd.R_reok rfl hy1 (fun k_ e_ => HO118.out.1 k_ e_)); have n1_ := Aside0.mk (Kd.R_reok rfl hy0 (fun k_ e_ => HO121.out.1 k_ e_)); have n2_ := Aside0.mk (hb); clear HO118; clear HO121; clear HB; have HO118 := n0_; have HO121 := n1_; have HB := n2_; clear n0_ n1_ n2_; (try clear hb); (try clear hkp); (try clear hy0); (try clear hy1)))
                go_ret2
                exact ⟨_, by first | rfl | (simp [errW_none, errW_some] <;> rfl) | (simp [*, errW_none, errW_some] <;> rfl), by (with_reducible repeat (first | apply Kd.R_alloc | apply Kd.R_drewN | apply Kd.R_drew)); exact HO118.out, by repeat (first | (with_reducible first | exact HB.out | apply below_alloc | apply pw_below_drewN | apply below_drew1) | exact HB.out)⟩
              · rw [if_neg c14] at H
                exact absurd H (by simp)
            · rw [if_neg c13] at H
              exact absurd H (by simp)
          · rw [if_neg c12] at H
            exact absurd H (by simp)
      · replace c9 := Bool.eq_false_iff.mpr c9
        subst c9
        have H1 : (some (([] : List Int), false)) = some (r1, r2) := by rw [if_neg (show ¬ (false = true) by decide)] at H; exact H
        clear H
        have H := H1
        clear H1
        simp only [Option.some.injEq, Prod.mk.injEq] at H
        obtain ⟨rfl, rfl⟩ := H
        go_enter Tryd.func20, Tryd.ntmps20
        go_wp2_with (first | ((with_reducible refine gate_callee (f := 30) rfl ?_); refine goesL_ (some 10) rfl rfl Tryd.func30 (by kernel_rfl) rfl #[.string a0] rfl (by (try simp only [List.map_toArray, List.map_cons, List.map_nil]); first | done | rfl | (simp only [List.length_drop, List.length_take]; rfl)) ?_; (with_reducible refine (spec_liCast.calls a0 true _ A4.out).mono ?_); rintro e w24 ⟨rfl, hb⟩; refine ⟨_, rfl, ?_⟩; have n0_ := Aside0.mk (below_step (by repeat (first | (with_reducible first | exact HB.out | apply below_alloc | apply pw_below_drewN | apply below_drew1) | exact HB.out)) hb); clear HB; have HB := n0_; clear n0_; (try clear hb); (try clear hb2); (try clear hk); (try clear hi)) | (go_at_call 31; (with_reducible refine (spec_l1In.calls a1 0 (wrap64 ((a0.size : Int) - 1)) true _ A6.out).mono ?_); rintro e w' ⟨rfl, ⟨nd, rfl⟩⟩) | (go_at_call 31; (with_reducible refine (spec_l1In.calls a2 0 (wrap64 ((a0.size : Int) - 1)) false _ A8.out).mono ?_); rintro e w' ⟨rfl, ⟨nd, rfl⟩⟩))
        go_ret2
        exact ⟨_, by first | rfl | (simp [errW_none, errW_some] <;> rfl) | (simp [*, errW_none, errW_some] <;> rfl), by first | exact Kd.R_nil _ _ _ _ _ | exact Kd.N_nil _ _ _ _ _ | exact Kd.V_nil _ _ _ _ _ | exact Kd.Q_nil _ _ _ _ _ | exact Kd.S_nil _ _ _ _ _, by repeat (first | (with_reducible first | exact HB.out | apply below_alloc | apply pw_below_drewN | apply below_drew1) | exact HB.out)⟩
    · replace c7 := Bool.eq_false_iff.mpr c7
      subst c7
      have H1 : (some (([] : List Int), false)) = some (r1, r2) := by rw [if_neg (show ¬ (false = true) by decide)] at H; exact H
      clear H
      have H := H1
      clear H1
      simp only [Option.some.injEq, Prod.mk.injEq] at H
      obtain ⟨rfl, rfl⟩ := H
      go_enter Tryd.func20, Tryd.ntmps20
      go_wp2_with (first | ((with_reducible refine gate_callee (f := 30) rfl ?_); refine goesL_ (some 10) rfl rfl Tryd.func30 (by kernel_rfl) rfl #[.string a0] rfl (by (try simp only [List.map_toArray, List.map_cons, List.map_nil]); first | done | rfl | (simp only [List.length_drop, List.length_take]; rfl)) ?_; (with_reducible refine (spec_liCast.calls a0 true _ A4.out).mono ?_); rintro e w25 ⟨rfl, hb⟩; refine ⟨_, rfl, ?_⟩; have n0_ := Aside0.mk (below_step (by repeat (first | (with_reducible first | exact HB.out | apply below_alloc | apply pw_below_drewN | apply below_drew1) | exact HB.out)) hb); clear HB; have HB := n0_; clear n0_; (try clear hb); (try clear hb2); (try clear hk); (try clear hi)) | (go_at_call 31; (with_reducible refine (spec_l1In.calls a1 0 (wrap64 ((a0.size : Int) - 1)) false _ A6.out).mono ?_); rintro e w' ⟨rfl, ⟨nd, rfl⟩⟩))
      go_ret2
      exact ⟨_, by first | rfl | (simp [errW_none, errW_some] <;> rfl) | (simp [*, errW_none, errW_some] <;> rfl), by first | exact Kd.R_nil _ _ _ _ _ | exact Kd.N_nil _ _ _ _ _ | exact Kd.V_nil _ _ _ _ _ | exact Kd.Q_nil _ _ _ _ _ | exact Kd.S_nil _ _ _ _ _, by repeat (first | (with_reducible first | exact HB.out | apply below_alloc | apply pw_below_drewN | apply below_drew1) | exact HB.out)⟩
  · replace c5 := Bool.eq_false_iff.mpr c5
    subst c5
    have H1 : (some (([] : List Int), false)) = some (r1, r2) := by rw [if_neg (show ¬ (false = true) by decide)] at H; exact H
    clear H
    have H := H1
    clear H1
    simp only [Option.some.injEq, Prod.mk.injEq] at H
    obtain ⟨rfl, rfl⟩ := H
    go_enter Tryd.func20, Tryd.ntmps20
    go_wp2_with (first | ((with_reducible refine gate_callee (f := 30) rfl ?_); refine goesL_ (some 10) rfl rfl Tryd.func30 (by kernel_rfl) rfl #[.string a0] rfl (by (try simp only [List.map_toArray, List.map_cons, List.map_nil]); first | done | rfl | (simp only [List.length_drop, List.length_take]; rfl)) ?_; (with_reducible refine (spec_liCast.calls a0 false _ A4.out).mono ?_); rintro e w26 ⟨rfl, hb⟩; refine ⟨_, rfl, ?_⟩; have n0_ := Aside0.mk (below_step (by repeat (first | (with_reducible first | exact HB.out | apply below_alloc | apply pw_below_drewN | apply below_drew1) | exact HB.out)) hb); clear HB; have HB := n0_; clear n0_; (try clear hb); (try clear hb2); (try clear hk); (try clear hi)))
    go_ret2
    exact ⟨_, by first | rfl | (simp [errW_none, errW_some] <;> rfl) | (simp [*, errW_none, errW_some] <;> rfl), by first | exact Kd.R_nil _ _ _ _ _ | exact Kd.N_nil _ _ _ _ _ | exact Kd.V_nil _ _ _ _ _ | exact Kd.Q_nil _ _ _ _ _ | exact Kd.S_nil _ _ _ _ _, by repeat (first | (with_reducible first | exact HB.out | apply below_alloc | apply pw_below_drewN | apply below_drew1) | exact HB.out)⟩

end Go.Proofs.YtjkildnpnjhgfaaDoor.PFnExactPathsHeard
