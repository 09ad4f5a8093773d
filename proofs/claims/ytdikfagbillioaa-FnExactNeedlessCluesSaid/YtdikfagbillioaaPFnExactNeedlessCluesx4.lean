/- Printed by a program of this session (wip/pp) over the kit's print, for FnExactNeedlessClues. No conditions beyond those that each theorem names. -/
import Derived.Test.YtdikfagbillioaaPFnExactNeedlessCluesx0
import Derived.Test.YtdikfagbillioaaPFnExactNeedlessCluesx3
namespace Go.Proofs.Ytdikfagbillioaa.PFnExactNeedlessClues
open Go.RowKit Go.Proofs.YtdikfagbillioaaW.PrintWords Go.Proofs.YtdikfagbillioaaW.PrintLast Go.Proofs.YtdikfagbillioaaW.PrintMore
attribute [local go_sem] max2_int min2_int max_two min_two max_three min_three max_four min_four   -- for this text's walks alone
set_option linter.unusedVariables false
set_option linter.unusedSimpArgs false

/-! ### spec_pzFits: function 52 -/
def spec_pzFits.f (k : Nat) (a0 : Int) (a1_0 : Int) (a1_1 : Int) (a1_2 : Int) (a1_3 : Int) (l2 : List (S78)) : Option (Bool) := (spec_pzValue.f k a0 a1_0 a1_1 a1_2 l2).bind fun t201 => (some (t201 == a1_3))
theorem spec_pzFits.mono : ∀ a0 a1 a2 a3 a4 a5 k, LeO (spec_pzFits.f k a0 a1 a2 a3 a4 a5) (spec_pzFits.f (k + 1) a0 a1 a2 a3 a4 a5) := by
  intro a0 a1 a2 a3 a4 a5 k
  unfold spec_pzFits.f
  repeat' first
      | (with_reducible exact spec_pzValue.mono _ _ _ _ _ _)
      | (with_reducible exact LeO.refl _)
      | (with_reducible exact LeO.none _)
      | (with_reducible refine LeO.ite ?_ ?_)
      | (with_reducible refine LeO.bind ?_ (fun _ => ?_))
      | exact spec_pzValue.mono _ _ _ _ _ _
      | exact LeO.none _
      | refine LeO.ite ?_ ?_
      | refine LeO.bind ?_ (fun _ => ?_)
def spec_pzFits.T1 : Bool × List (List Nat × List Nat) := (true, [([], []), ([], []), ([1], [1]), ([], []), ([3], [3]), ([], []), ([5], [5]), ([], []), ([0, 2, 4, 6, 7], [0, 2, 4, 6, 7]), ([], []), ([9], [9]), ([8, 10], [8, 10]), ([11, 8, 0, 1, 2, 3, 4, 5, 6, 7, 8, 9, 10, 11], [11])])
def spec_pzFits.B1 : List Nat := [0, 0, 2, 0, 8, 0, 32, 0, 255, 0, 512, 2047, 4095]
theorem spec_pzFits.tab1 : rtab .any (opsOf Try.f52 1) = spec_pzFits.T1 := by kernel_rfl
theorem spec_pzFits.bits1 : waitsOk spec_pzFits.T1.2 spec_pzFits.B1 = true := by kernel_rfl
set_option maxHeartbeats 8000000 in
set_option maxRecDepth 100000 in
theorem spec_pzFits.calls (k : Nat) (a0 : Int) (a1_0 : Int) (a1_1 : Int) (a1_2 : Int) (a1_3 : Int) (A2 : Option Addr) (c2 : Nat) (l2 : List (S78)) (r : Bool) (w : World) (hr2 : Kd.C k78 w A2 l2.length l2) (hc2 : l2.length ≤ c2) (h : spec_pzFits.f k a0 a1_0 a1_1 a1_2 a1_3 l2 = some r) :
    Calls Try.prog 52 #[.int .i64 a0, .agg #[.int .i64 a1_0, .int .i64 a1_1, .int .i64 a1_2, .int .i64 a1_3], .slice A2 l2.length c2] w fun e w' => e = .returned (.bool r) ∧ Below w.heap.size w w' := by
  have hu48 := Try.underlying48
  have HR2 := Aside0.mk hr2
  have HC2 := Aside0.mk hc2
  clear hr2 hc2
  have HB := Aside0.mk (Below.refl w.heap.size w)
  have H : ((spec_pzValue.f k a0 a1_0 a1_1 a1_2 l2).bind fun t201 => (some (t201 == a1_3))) = some r := h
  clear h
  replace H := Option.bind_eq_some_iff.mp H
  obtain ⟨t201, A40, H⟩ := H
  replace H : (some (t201 == a1_3)) = some r := H
  have A4 := Aside0.mk A40
  clear A40
  obtain rfl := Option.some.inj H
  go_enter Try.func52, Try.ntmps52
  try go_wp2_with (first | ((with_reducible refine gate_dst (N := 4) rfl ?_); refine box_event ?hg (N := 4) ?hd (cs := #[.int .i64 a1_0, .int .i64 a1_1, .int .i64 a1_2, .int .i64 a1_3]) (t := 48) ?hr ?_; (case hd => rfl); (case hg => rfl); (case hr => first | (go_simp; done) | (go_simp; rfl)); intro gb200 hg w5 hbox hb; have n0_ := Aside0.mk (below_step (by repeat (first | (with_reducible first | exact HB.out | apply below_alloc | apply pw_below_drewN | apply below_drew1) | exact HB.out)) hb); have n1_ := Aside0.mk (hbox); have n2_ := Aside0.mk ((by rw [hg]; exact (below_size (by repeat (first | (with_reducible first | exact HB.out | apply below_alloc | apply pw_below_drewN | apply below_drew1) | exact HB.out))) : w.heap.size ≤ gb200)); have n3_ := Aside0.mk ((by rw [hg]; exact (below_size (by repeat (first | (with_reducible first | exact HB.out | apply below_alloc | apply pw_below_drewN | apply below_drew1) | exact HB.out))) : w.heap.size ≤ gb200)); clear HB; have HB := n0_; have BK200 := n1_; have GW200 := n2_; have GE200 := n3_; clear n0_ n1_ n2_ n3_; clear hb hbox hg))
  have n0_ := Aside0.mk (blk_drew BK200.out)
  have n1_ := Aside0.mk (below_drew1 HB.out)
  clear BK200
  clear HB
  have BK200 := n0_
  have HB := n1_
  clear n0_ n1_
  refine start_ (n := 13) (S := fun w' => w'.cell? ⟨gb200, 0, none⟩ = some (.int .i64 a1_0) ∧ w'.cell? ⟨gb200, 1, none⟩ = some (.int .i64 a1_1) ∧ w'.cell? ⟨gb200, 2, none⟩ = some (.int .i64 a1_2) ∧ w'.cell? ⟨gb200, 3, none⟩ = some (.int .i64 a1_3)) (ds := []) #[false, false, false, false, false, false, false, false, false, false, false, false, false] (by kernel_rfl) rfl rfl ⟨(blk_cell BK200.out 0).trans rfl, (blk_cell BK200.out 1).trans rfl, (blk_cell BK200.out 2).trans rfl, (blk_cell BK200.out 3).trans rfl⟩ (fun hHeld => ?_); refine with_tabW spec_pzFits.tab1 spec_pzFits.bits1 (fun HT_ HW_ => ?_)
  generalize w5.drew = w6 at BK200 HB hHeld ⊢
  refine pure_ (i := 0) (N := some 7) (v := ?_) (a' := ?_) #[true, false, false, false, false, false, false, false, false, false, false, false, false] rfl rfl (any_of HT_.out (by kernel_rfl)) (fun _ _ _ h => h) (Or.inl ⟨by rfl, ?_⟩) ?_ ?_
  rotate_left
  · intro w'
    go_simp
    with_reducible rfl
  rotate_left
  · simp only [Act.put, List.setIfInBounds_toArray, List.set_cons_zero, List.set_cons_succ, i64_w, i32_w]
    rfl
  refine pure_ (i := 1) (N := some 8) (v := ?_) (a' := ?_) #[true, true, false, false, false, false, false, false, false, false, false, false, false] rfl rfl (any_of HT_.out (by kernel_rfl)) (fun _ _ _ h => h) (Or.inl ⟨by rfl, ?_⟩) ?_ ?_
  rotate_left
  · intro w'
    go_simp
    with_reducible rfl
  rotate_left
  · simp only [Act.put, List.setIfInBounds_toArray, List.set_cons_zero, List.set_cons_succ, i64_w, i32_w]
    rfl
  refine pure_ (i := 3) (N := some 10) (v := ?_) (a' := ?_) #[true, true, false, true, false, false, false, false, false, false, false, false, false] rfl rfl (any_of HT_.out (by kernel_rfl)) (fun _ _ _ h => h) (Or.inl ⟨by rfl, ?_⟩) ?_ ?_
  rotate_left
  · intro w'
    go_simp
    with_reducible rfl
  rotate_left
  · simp only [Act.put, List.setIfInBounds_toArray, List.set_cons_zero, List.set_cons_succ, i64_w, i32_w]
    rfl
  refine pure_ (i := 5) (N := some 12) (v := ?_) (a' := ?_) #[true, true, false, true, false, true, false, false, false, false, false, false, false] rfl rfl (any_of HT_.out (by kernel_rfl)) (fun _ _ _ h => h) (Or.inl ⟨by rfl, ?_⟩) ?_ ?_
  rotate_left
  · intro w'
    go_simp
    with_reducible rfl
  rotate_left
  · simp only [Act.put, List.setIfInBounds_toArray, List.set_cons_zero, List.set_cons_succ, i64_w, i32_w]
    rfl
  refine pure_ (i := 7) (N := some 14) (v := ?_) (a' := ?_) #[true, true, false, true, false, true, false, true, false, false, false, false, false] rfl rfl (any_of HT_.out (by kernel_rfl)) (fun _ _ _ h => h) (Or.inl ⟨by rfl, ?_⟩) ?_ ?_
  rotate_left
  · intro w'
    go_simp
    with_reducible rfl
  rotate_left
  · simp only [Act.put, List.setIfInBounds_toArray, List.set_cons_zero, List.set_cons_succ, i64_w, i32_w]
    rfl
  refine pure_ (i := 9) (N := some 16) (v := ?_) (a' := ?_) #[true, true, false, true, false, true, false, true, false, true, false, false, false] rfl rfl (any_of HT_.out (by kernel_rfl)) (fun _ _ _ h => h) (Or.inl ⟨by rfl, ?_⟩) ?_ ?_
  rotate_left
  · intro w'
    go_simp
    with_reducible rfl
  rotate_left
  · simp only [Act.put, List.setIfInBounds_toArray, List.set_cons_zero, List.set_cons_succ, i64_w, i32_w]
    rfl
  refine take_ (i := 2) (N := some 9) (v := ?_) (a' := ?_) #[true, true, true, true, false, true, false, true, false, true, false, false, false] rfl rfl (take_ofW HT_.out HW_.out (by kernel_rfl)) (fun _ _ _ h => h) (Or.inl ⟨by rfl, ?_⟩) hHeld ?_ ?_
  rotate_left
  · rintro w' ⟨s0, s1, s2, s3⟩
    go_simp
    with_reducible rfl
  rotate_left
  · simp only [Act.put, List.setIfInBounds_toArray, List.set_cons_zero, List.set_cons_succ, i64_w, i32_w]
    rfl
  refine take_ (i := 4) (N := some 11) (v := ?_) (a' := ?_) #[true, true, true, true, true, true, false, true, false, true, false, false, false] rfl rfl (take_ofW HT_.out HW_.out (by kernel_rfl)) (fun _ _ _ h => h) (Or.inl ⟨by rfl, ?_⟩) hHeld ?_ ?_
  rotate_left
  · rintro w' ⟨s0, s1, s2, s3⟩
    go_simp
    with_reducible rfl
  rotate_left
  · simp only [Act.put, List.setIfInBounds_toArray, List.set_cons_zero, List.set_cons_succ, i64_w, i32_w]
    rfl
  refine take_ (i := 6) (N := some 13) (v := ?_) (a' := ?_) #[true, true, true, true, true, true, true, true, false, true, false, false, false] rfl rfl (take_ofW HT_.out HW_.out (by kernel_rfl)) (fun _ _ _ h => h) (Or.inl ⟨by rfl, ?_⟩) hHeld ?_ ?_
  rotate_left
  · rintro w' ⟨s0, s1, s2, s3⟩
    go_simp
    with_reducible rfl
  rotate_left
  · simp only [Act.put, List.setIfInBounds_toArray, List.set_cons_zero, List.set_cons_succ, i64_w, i32_w]
    rfl
  refine take_ (i := 10) (N := some 17) (v := ?_) (a' := ?_) #[true, true, true, true, true, true, true, true, false, true, true, false, false] rfl rfl (take_ofW HT_.out HW_.out (by kernel_rfl)) (fun _ _ _ h => h) (Or.inl ⟨by rfl, ?_⟩) hHeld ?_ ?_
  rotate_left
  · rintro w' ⟨s0, s1, s2, s3⟩
    go_simp
    with_reducible rfl
  rotate_left
  · simp only [Act.put, List.setIfInBounds_toArray, List.set_cons_zero, List.set_cons_succ, i64_w, i32_w]
    rfl
  refine one_ (i := 8) (N := some 15) #[true, true, true, true, true, true, true, true, true, true, true, false, false] rfl rfl (one_of HT_.out (by kernel_rfl)) (by decide) (fun K hK => ?_)
  refine goes_ Try.func61 (by kernel_rfl) rfl #[.int .i64 a0, .int .i64 a1_0, .int .i64 a1_1, .int .i64 a1_2, .slice A2 l2.length c2] (by rfl) rfl rfl (by (try simp only [List.map_toArray, List.map_cons, List.map_nil]); first | done | rfl | (simp only [List.length_drop, List.length_take]; rfl)) ?_
  with_reducible refine (spec_pzValue.calls k a0 a1_0 a1_1 a1_2 _ _ l2 t201 _ ?side1 ?side2 A4.out).mono ?_
  (case side1 => repeat (first | exact (Kd.C_below HR2.out HB.out) | (with_reducible refine Kd.C_alloc ?_ _) | (with_reducible refine Kd.C_drewN ?_ _) | (with_reducible refine Kd.C_drew ?_)))
  (case side2 => exact HC2.out)
  rintro e w7 ⟨rfl, hb⟩
  refine ⟨_, rfl, ?_⟩
  have n0_ := Aside0.mk (blk_below (g := gb200) (o := .cells #[.int .i64 a1_0, .int .i64 a1_1, .int .i64 a1_2, .int .i64 a1_3] 48 (0, 0)) (by (with_reducible repeat (first | refine blk_drewN ?_ _ | refine blk_drew ?_ | refine blk_alloc ?_ _)); exact BK200.out) hb)
  have n1_ := Aside0.mk (below_step (by repeat (first | (with_reducible first | exact HB.out | apply below_alloc | apply pw_below_drewN | apply below_drew1 | refine below_set ?_ GE200.out) | exact HB.out)) hb)
  clear BK200
  clear HB
  have BK200 := n0_
  have HB := n1_
  clear n0_ n1_
  (try clear hb)
  (try clear hb2)
  (try clear hk)
  (try clear hi)
  refine hK.out _ _ ⟨(blk_cell BK200.out 0).trans rfl, (blk_cell BK200.out 1).trans rfl, (blk_cell BK200.out 2).trans rfl, (blk_cell BK200.out 3).trans rfl⟩ (fun hHeld => ?_)
  clear hK K
  refine norm_ (a' := ?_) ?_ ?_
  rotate_left
  · show Act.put _ (some 15) _ = _
    simp only [Act.put, List.setIfInBounds_toArray, List.set_cons_zero, List.set_cons_succ, i64_w, i32_w]
    rfl
  refine pure_ (i := 11) (N := some 18) (v := ?_) (a' := ?_) #[true, true, true, true, true, true, true, true, true, true, true, true, false] rfl rfl (any_of HT_.out (by kernel_rfl)) (fun _ _ _ h => h) (Or.inl ⟨by rfl, ?_⟩) ?_ ?_
  rotate_left
  · intro w'
    go_simp
    with_reducible rfl
  rotate_left
  · simp only [Act.put, List.setIfInBounds_toArray, List.set_cons_zero, List.set_cons_succ, i64_w, i32_w]
    rfl
  refine pure_ (i := 12) (N := some 6) (v := ?_) (a' := ?_) #[true, true, true, true, true, true, true, true, true, true, true, true, true] rfl rfl (any_of HT_.out (by kernel_rfl)) (fun _ _ _ h => h) (Or.inl ⟨by rfl, ?_⟩) ?_ ?_
  rotate_left
  · intro w'
    go_simp
    with_reducible rfl
  rotate_left
  · simp only [Act.put, List.setIfInBounds_toArray, List.set_cons_zero, List.set_cons_succ, i64_w, i32_w]
    rfl
  refine done_ (done_of HT_.out (by kernel_rfl)) ?_
  try go_wp2
  go_ret
  exact ⟨by first | rfl | (simp [errW_none, errW_some] <;> rfl) | (simp [*, errW_none, errW_some] <;> rfl), by repeat (first | (with_reducible first | exact HB.out | apply below_alloc | apply pw_below_drewN | apply below_drew1 | refine below_set ?_ GE200.out) | exact HB.out)⟩

/-! ### spec_pzLook: function 41, by hand -/
def fitsS (k : Nat) (n : Int) (l : List S78) (c : S48) : Bool := (spec_pzFits.f k n c.f0 c.f1 c.f2 c.f3 l).getD false
/-- all that is asked is told -/
def lookOk (k N : Nat) (cs : List S48) : Nat → List S78 → Bool
  | 0, l => cs.all fun c => (spec_pzFits.f k (N : Int) c.f0 c.f1 c.f2 c.f3 l).isSome
  | m + 1, l => (List.range N).all fun a => (List.range (N - (a + 1))).all fun q => lookOk k N cs m (l ++ [⟨(a : Int), ((a + 1 + q : Nat) : Int)⟩])
/-- the lists that begin so, with m calls more -/
def lookL (k N : Nat) (cs : List S48) : Nat → List S78 → List (List S78)
  | 0, l => if (cs.any fun c => !fitsS k N l c) = true then [] else [l]
  | m + 1, l => (List.range N).flatMap fun a => (List.range (N - (a + 1))).flatMap fun q => lookL k N cs m (l ++ [⟨(a : Int), ((a + 1 + q : Nat) : Int)⟩])
theorem range_succ_flat {α : Type} (f : Nat → List α) (j : Nat) : (List.range (j + 1)).flatMap f = (List.range j).flatMap f ++ f j := by
  rw [List.range_succ, List.flatMap_append, List.flatMap_cons, List.flatMap_nil, List.append_nil]
theorem flat_range_len {α : Type} (f : Nat → List α) (B : Nat) (hf : ∀ i, (f i).length ≤ B) (j : Nat) : ((List.range j).flatMap f).length ≤ j * B := by
  induction j with
  | zero => simp
  | succ j ih =>
    rw [range_succ_flat, List.length_append, Nat.add_mul, Nat.one_mul]
    have := hf j
    omega
theorem lookL_len (k N : Nat) (hN : N ≤ 4) (cs : List S48) : ∀ (m : Nat) (l : List S78), (lookL k N cs m l).length ≤ 16 ^ m := by
  intro m
  induction m with
  | zero => intro l; unfold lookL; split <;> simp
  | succ m ih =>
    intro l
    unfold lookL
    refine Nat.le_trans (flat_range_len _ (4 * 16 ^ m) (fun a => Nat.le_trans (flat_range_len _ (16 ^ m) (fun q => ih _) _) (Nat.mul_le_mul_right _ (by omega))) N) ?_
    rw [Nat.pow_succ]
    have := Nat.mul_le_mul_right (4 * 16 ^ m) hN
    omega
structure LPre (bO : Nat) (ok : Nat → Prop) (W W1 : World) : Prop where
  size : W.heap.size ≤ W1.heap.size
  block : ∀ k, k < W.heap.size → ¬ ok k → k ≠ bO → W1.heap[k]? = W.heap[k]?
theorem LPre.refl (bO : Nat) (ok : Nat → Prop) (W : World) : LPre bO ok W W := ⟨Nat.le_refl _, fun _ _ _ _ => rfl⟩
theorem LPre.below {bO : Nat} {ok : Nat → Prop} {W W1 W2 : World} (h : LPre bO ok W W1) (hb : Below W1.heap.size W1 W2) : LPre bO ok W W2 := ⟨Nat.le_trans h.size hb.size, fun k hk h1 h2 => (hb.block k (Nat.lt_of_lt_of_le hk h.size)).trans (h.block k hk h1 h2)⟩
theorem LPre.trans {bO : Nat} {ok okj : Nat → Prop} {W W1 W2 : World} (h : LPre bO ok W W1) (h2 : LPre bO okj W1 W2) (ho : ∀ k, okj k → ok k ∨ W.heap.size ≤ k) : LPre bO ok W W2 :=
  ⟨Nat.le_trans h.size h2.size, fun k hk n1 n2 => (h2.block k (Nat.lt_of_lt_of_le hk h.size) (fun hx => (ho k hx).elim n1 (fun hy => by omega)) n2).trans (h.block k hk n1 n2)⟩
structure LInv (w0 : World) (bO : Nat) (ok : Nat → Prop) (acc : List (List S78)) (W : World) : Prop where
  below : Below w0.heap.size w0 W
  base : w0.heap.size ≤ bO
  out : ∃ v, W.cell? ⟨bO, 0, none⟩ = some v ∧ W.frozen? ⟨bO, 0, none⟩ = false ∧ Kd.S (Kd.slice 78 k78) 75 W w0.heap.size ok v acc
  okb : ∀ k, ok k → k < W.heap.size ∧ k ≠ bO
theorem LInv.step {w0 W W1 : World} {bO : Nat} {ok : Nat → Prop} {acc : List (List S78)} (h : LInv w0 bO ok acc W) (hb : Below W.heap.size W W1) : LInv w0 bO ok acc W1 := by
  obtain ⟨v, h1, h2, h3⟩ := h.out
  refine ⟨h.below.trans (hb.mono h.below.size), h.base, ⟨v, (hb.cell (World.block_lt_of_cell? _ _ h1)).trans h1, ?_, Kd.S_below h3 hb⟩, fun k hk => ⟨Nat.lt_of_lt_of_le (h.okb k hk).1 hb.size, (h.okb k hk).2⟩⟩
  rw [← h2]
  exact hb.frozen (World.block_lt_of_cell? _ _ h1)
theorem LInv.put {w0 W w1 w2 : World} {bO : Nat} {ok okL : Nat → Prop} {acc acc' : List (List S78)} {v v1 : Value} (hI : LInv w0 bO ok acc W) (hB : Below W.heap.size W w1) (hL : ∀ k, okL k → ¬ ok k ∧ k ≠ bO) (hv : ∀ k, v.ownBlock = some k → ok k)
    (h1 : Kd.S (Kd.slice 78 k78) 75 w2 w0.heap.size (fun k => ok k ∨ okL k ∨ w1.heap.size ≤ k) v1 acc') (h2 : Below w0.heap.size w0 w2) (h3 : w1.grownBy w2 v.ownBlock) :
    (∃ ok1, LInv w0 bO ok1 acc' (w2.setCell ⟨bO, 0, none⟩ v1) ∧ ∀ k, ok1 k → ok k ∨ okL k ∨ W.heap.size ≤ k) ∧ LPre bO ok W (w2.setCell ⟨bO, 0, none⟩ v1) := by
  obtain ⟨v0, qo, qf, _⟩ := hI.out
  have zo := World.block_lt_of_cell? _ _ qo
  simp only at zo
  have hkeep : ∀ k, k < W.heap.size → some k ≠ v.ownBlock → w2.heap[k]? = W.heap[k]? := fun k hk hne => (h3.block k (Nat.lt_of_lt_of_le hk hB.size) hne).trans (hB.block k hk)
  have hso : some bO ≠ v.ownBlock := fun he => (hI.okb _ (hv _ he.symm)).2 rfl
  have hsz : (w2.setCell ⟨bO, 0, none⟩ v1).heap.size = w2.heap.size := by simp [World.setCell]
  have hle : w1.heap.size ≤ w2.heap.size := h3.size
  have hnb2 : ∀ k, (ok k ∨ okL k ∨ w1.heap.size ≤ k) → k ≠ bO := by
    rintro k (hk | hk | hk)
    · exact (hI.okb k hk).2
    · exact (hL k hk).2
    · have := hB.size
      omega
  refine ⟨⟨fun k => (ok k ∨ okL k ∨ w1.heap.size ≤ k) ∧ k < w2.heap.size, ⟨Below.setCell h2 hI.base _, hI.base, ⟨v1, ?_, ?_, ?_⟩, ?_⟩, ?_⟩, ⟨?_, ?_⟩⟩
  · exact World.cell?_setCell_same' _ _ _ (by rw [World.cell?_of_block (w := W) (hkeep bO zo hso), qo]; rfl)
  · rw [World.frozen?_setCell]
    exact (World.frozen?_of_block (hkeep bO zo hso)).trans qf
  · exact Kd.S_far (p := ⟨bO, 0, none⟩) (Kd.S_mono (Kd.S_bound h1) (fun k hk => ⟨hk.1, hk.2.2.1⟩)) (fun k hk => hnb2 k hk.1) v1
  · exact fun k hk => ⟨by rw [hsz]; exact hk.2, hnb2 k hk.1⟩
  · rintro k ⟨hk | hk | hk, _⟩
    · exact .inl hk
    · exact .inr (.inl hk)
    · exact .inr (.inr (Nat.le_trans hB.size hk))
  · rw [hsz]
    exact Nat.le_trans hB.size hle
  · exact fun k hk h1 h2 => (Below.heap_setCell w2 ⟨bO, 0, none⟩ v1 k h2).trans (hkeep k hk (fun he => h1 (hv k he.symm)))
theorem infCallSS : (Try.prog.info? 75).map (fun i => (i.zero, i.size, i.bytes)) = some (some (.slice none 0 0), 1, 24) := by kernel_rfl
theorem infCall' : (Try.prog.info? 78).map (fun i => (i.zero, i.size, i.bytes)) = some (some (.agg #[.int .i64 0, .int .i64 0]), 2, 16) := by kernel_rfl
theorem flatCall' (W w : World) (base : Nat) (okp : Nat → Prop) : ∀ x cs, k78.K w x cs → k78.M W base okp x cs := by
  intro x cs h
  obtain rfl := k78_open h
  exact k78_mkM W base okp x
theorem any_snoc' {α : Type} (p : α → Bool) (l : List α) (k : Nat) (h : k < l.length) (ha : (l.take k).any p = false) (hp : p l[k] = false) : (l.take (k + 1)).any p = false := by
  rw [List.take_succ_eq_append_getElem h, List.any_append, ha]
  simpa using hp
set_option maxHeartbeats 4000000 in
set_option maxRecDepth 100000 in
theorem look_leaf (k : Nat) (w0 : World) (bO N : Nat) (cs : List S48) (A2 : Option Addr) (c2 : Nat) (hC : Kd.C k48 w0 A2 cs.length cs) (l : List S78) (acc : List (List S78)) (W : World) (ok okL : Nat → Prop) (A : Option Addr) (c : Nat)
    (hI : LInv w0 bO ok acc W) (hR : Kd.R k78 78 W w0.heap.size okL (.slice A l.length c) l) (hL : ∀ k, okL k → ¬ ok k ∧ k ≠ bO) (hacc : acc.length < 5000) (hok : lookOk k N cs 0 l = true) :
    Calls Try.prog 41 #[.int .i64 N, .int .i64 0, .slice A2 cs.length c2, .slice A l.length c, .pointer (some ⟨bO, 0, none⟩)] W fun e W1 => e = .returned (.tuple #[]) ∧ (∃ ok1, LInv w0 bO ok1 (acc ++ lookL k N cs 0 l) W1 ∧ ∀ k, ok1 k → ok k ∨ okL k ∨ W.heap.size ≤ k) ∧ LPre bO ok W W1 := by
  have hu := Try.underlying75
  have hu2 := Try.underlying48
  obtain ⟨_, hlc, hRC⟩ := Kd.R_reads' hR
  obtain ⟨v, qo, qf, hO⟩ := hI.out
  obtain ⟨Ao, co, rfl⟩ := Kd.S_slice hO
  have z3 := World.block_lt_of_cell? _ _ qo
  have hmx := hRC.2.1
  have hmc := hC.2.1
  unfold lookOk at hok
  rw [List.all_eq_true] at hok
  have HC := Aside0.mk (fun (x : S48) (W1 : World) (hx : x ∈ cs) (hB : Below W.heap.size W W1) => spec_pzFits.calls k N x.f0 x.f1 x.f2 x.f3 A c l (fitsS k N l x) W1 (Kd.C_below hRC hB) hlc (by
    obtain ⟨b, hb⟩ := Option.isSome_iff_exists.1 (hok x hx)
    unfold fitsS
    rw [hb]
    rfl))
  have HCC := Aside0.mk (fun (W1 : World) (hB : Below W.heap.size W W1) => Kd.C_below hC (hI.below.trans (hB.mono hI.below.size)))
  have HI := Aside0.mk hI
  have HR := Aside0.mk hR
  have HL := Aside0.mk hL
  have HO := Aside0.mk hO
  have QO := Aside0.mk qo
  have QF := Aside0.mk qf
  clear hC hI hR hRC hL hok hO qo qf
  unfold lookL
  obtain ⟨RL, hRL⟩ : ∃ x_, x_ = (if (cs.any fun c => !fitsS k N l c) = true then [] else [l]) := ⟨_, rfl⟩
  rw [← hRL]
  have HRL := Aside0.mk hRL
  clear hRL
  go_enter Try.func41, Try.ntmps41
  go_wp2
  go_loopw [19] (fun n wr => ∃ i : Nat, i ≤ cs.length ∧ n = .int .i64 i ∧ Aside0 ((cs.take i).any (fun c => !fitsS k N l c) = false) ∧ Aside0 (Below W.heap.size W wr)) (fun n _ => cs.length - (intOf n).toNat)
  case atStart => exact ⟨0, Nat.zero_le _, rfl, ⟨rfl⟩, ⟨by repeat (first | exact Below.refl _ _ | apply below_alloc)⟩⟩
  case round =>
    obtain ⟨i, hi, rfl, HA, HB⟩ := hrel
    by_cases hlt : i < cs.length
    · have p1 : (0 : Int) ≤ (i : Int) := by omega
      have q1 : (i : Int) < (cs.length : Int) := by omega
      obtain ⟨ad, e1, hx0, hx1, hx2, hx3⟩ := at_T48 (HCC.out wr HB.out) (i : Int) p1 q1
      cases e1
      simp only [Int.toNat_natCast] at hx0 hx1 hx2 hx3
      have he : rd_T48 cs (i : Int) = cs[i] := by simp [rd_T48, List.getD_eq_getElem?_getD, List.getElem?_eq_getElem hlt]
      rw [he] at hx0 hx1 hx2 hx3
      have HF := Aside0.mk (fun (W1 : World) (hB : Below wr.heap.size wr W1) => HC.out cs[i] W1 (List.getElem_mem hlt) (HB.out.trans (hB.mono HB.out.size)))
      obtain ⟨f, hf⟩ : ∃ f, fitsS k N l cs[i] = f := ⟨_, rfl⟩
      rw [hf] at HF
      have HV := Aside0.mk hf
      clear hf he
      cases f with
      | false =>
        go_wp2_with (go_at_call 52; refine (HF.out _ ?s1).mono ?_; (case s1 => repeat (first | exact Below.refl _ _ | apply below_alloc | apply pw_below_drewN | apply below_drew1)); rintro e w1 ⟨rfl, hb⟩; have HB1 := Aside0.mk (show Below wr.heap.size wr w1 from below_step (by repeat (first | exact Below.refl _ _ | apply below_alloc | apply pw_below_drewN | apply below_drew1)) hb); clear hb)
        (try simp only [Exit.inBlock, Exit.then])
        refine bodyPost_ret (results_none rfl _ _ _) rfl ?_
        have hbw : Below W.heap.size W w1 := HB.out.trans (HB1.out.mono HB.out.size)
        have hrl : RL = [] := HRL.out.trans (if_pos (List.any_eq_true.2 ⟨cs[i], List.getElem_mem hlt, by rw [HV.out]; rfl⟩))
        subst hrl
        exact ⟨rfl, ⟨ok, by simpa using HI.out.step hbw, fun k hk => .inl hk⟩, (LPre.refl _ _ _).below hbw⟩
      | true =>
        go_wp2_with (go_at_call 52; refine (HF.out _ ?s2).mono ?_; (case s2 => repeat (first | exact Below.refl _ _ | apply below_alloc | apply pw_below_drewN | apply below_drew1)); rintro e w1 ⟨rfl, hb⟩; have HB1 := Aside0.mk (show Below wr.heap.size wr w1 from below_step (by repeat (first | exact Below.refl _ _ | apply below_alloc | apply pw_below_drewN | apply below_drew1)) hb); clear hb)
        go_roundw
        case rel => exact ⟨i + 1, by omega, by go_num, ⟨any_snoc' _ cs i hlt HA.out (by rw [HV.out]; rfl)⟩, ⟨HB.out.trans (HB1.out.mono HB.out.size)⟩⟩
        case measure => simp [intOf]; omega
    · have e1 := (HB.out.cell z3).trans QO.out
      have e2 : wr.frozen? ⟨bO, 0, none⟩ = false := (HB.out.frozen z3).trans QF.out
      have hany : (cs.any fun c => !fitsS k N l c) = false := by have h := HA.out; rw [List.take_of_length_le (by omega)] at h; exact h
      have hrl : RL = [l] := HRL.out.trans (by rw [hany]; rfl)
      subst hrl
      clear hany
      go_wp2_with (at_builtin; refine Kd.S_append (Kd.slice 78 k78) (w0 := w0) w0.heap.size rfl (.tmp 32) (.tmp 34) 44 75 (.slice none 0 0) 24 rfl Try.underlying44 infCallSS rfl (by decide) (by decide) _ acc l [.slice A l.length c] (fun k => ok k ∨ okL k ∨ wr.heap.size ≤ k) okL rfl rfl ⟨_, rfl, Kd.R_below HR.out HB.out⟩ (fun k hk => ⟨.inr (.inl hk), fun he => (HL.out k hk).1 ((Kd.S_R HO.out).1 k he.symm)⟩) (fun k hk => .inr (.inr hk)) (Kd.S_mono (Kd.S_below HO.out HB.out) (fun k hk => ⟨.inl hk, fun hx => (HL.out k hx).1 hk⟩)) (HI.out.below.trans (HB.out.mono HI.out.below.size)) (Nat.le_trans HI.out.below.size HB.out.size) (by omega) ?_; intro v1 w2 h1 h2 h3 h4; obtain ⟨A3, c3, rfl⟩ := Kd.S_slice h1; have f0 : w2.heap[bO]? = wr.heap[bO]? := h3.block bO (Nat.lt_of_lt_of_le z3 HB.out.size) (fun he => (HI.out.okb _ ((Kd.S_R HO.out).1 _ he.symm)).2 rfl); have f1 : w2.cell? ⟨bO, 0, none⟩ = _ := (World.cell?_of_block f0).trans e1; have f2 : w2.frozen? ⟨bO, 0, none⟩ = false := (World.frozen?_of_block f0).trans e2; have HX := Aside0.mk (HI.out.put HB.out HL.out (fun k hk => (Kd.S_R HO.out).1 k hk) h1 h2 h3); clear h1 h2 h3 h4 f0)
      (try simp only [Exit.inBlock, Exit.then])
      refine bodyPost_ret (results_none rfl _ _ _) rfl ?_
      exact ⟨rfl, by have h := HX.out; simp only [List.length_append, List.length_cons, List.length_nil, Nat.zero_add] at h; exact h⟩
set_option maxHeartbeats 4000000 in
set_option maxRecDepth 100000 in
theorem look_step (k : Nat) (w0 : World) (bO N : Nat) (hN : N ≤ 4) (cs : List S48) (A2 : Option Addr) (c2 m : Nat) (hm3 : m ≤ 3)
    (ih : ∀ (l : List S78) (acc : List (List S78)) (W : World) (ok okL : Nat → Prop) (A : Option Addr) (c : Nat), LInv w0 bO ok acc W → Kd.R k78 78 W w0.heap.size okL (.slice A l.length c) l → (∀ k, okL k → ¬ ok k ∧ k ≠ bO) → acc.length + 16 ^ m < 5000 → l.length + m ≤ 3 → lookOk k N cs m l = true →
      Calls Try.prog 41 #[.int .i64 N, .int .i64 m, .slice A2 cs.length c2, .slice A l.length c, .pointer (some ⟨bO, 0, none⟩)] W fun e W1 => e = .returned (.tuple #[]) ∧ (∃ ok1, LInv w0 bO ok1 (acc ++ lookL k N cs m l) W1 ∧ ∀ k, ok1 k → ok k ∨ okL k ∨ W.heap.size ≤ k) ∧ LPre bO ok W W1)
    (l : List S78) (acc : List (List S78)) (W : World) (ok okL : Nat → Prop) (A : Option Addr) (c : Nat)
    (hI : LInv w0 bO ok acc W) (hR : Kd.R k78 78 W w0.heap.size okL (.slice A l.length c) l) (hL : ∀ k, okL k → ¬ ok k ∧ k ≠ bO) (hacc : acc.length + 16 ^ (m + 1) < 5000) (hl3 : l.length + (m + 1) ≤ 3) (hok : lookOk k N cs (m + 1) l = true) (M : Int) (hM : M = ((m + 1 : Nat) : Int)) :
    Calls Try.prog 41 #[.int .i64 N, .int .i64 M, .slice A2 cs.length c2, .slice A l.length c, .pointer (some ⟨bO, 0, none⟩)] W fun e W1 => e = .returned (.tuple #[]) ∧ (∃ ok1, LInv w0 bO ok1 (acc ++ lookL k N cs (m + 1) l) W1 ∧ ∀ k, ok1 k → ok k ∨ okL k ∨ W.heap.size ≤ k) ∧ LPre bO ok W W1 := by
  have hu := Try.underlying78
  have hne : (M == 0) = false := beq_eq_false_iff_ne.2 (by omega)
  have hM1 : 1 ≤ M := by omega
  have hM4 : M ≤ 4 := by omega
  have HM := Aside0.mk (show M - 1 = (m : Int) by omega)
  clear hM
  have zO : bO < W.heap.size := by obtain ⟨v, qo, _⟩ := hI.out; exact World.block_lt_of_cell? _ _ qo
  unfold lookOk at hok
  have HK := Aside0.mk (fun (a q : Nat) (ha : a < N) (hq : q < N - (a + 1)) => List.all_eq_true.1 (List.all_eq_true.1 hok a (List.mem_range.2 ha)) q (List.mem_range.2 hq))
  have HI := Aside0.mk hI
  have HR := Aside0.mk hR
  have HL := Aside0.mk hL
  have HRC := Aside0.mk (Kd.R_reads' hR).2.2
  have hlc := (Kd.R_reads' hR).2.1
  have hmx := (Kd.R_reads' hR).2.2.2.1
  obtain ⟨F, hF⟩ : ∃ F : Nat → Nat → List (List S78), F = fun a q => lookL k N cs m (l ++ [⟨(a : Int), ((a + 1 + q : Nat) : Int)⟩]) := ⟨_, rfl⟩
  have hFl : ∀ a q, (F a q).length ≤ 16 ^ m := by intro a q; rw [hF]; exact lookL_len k N hN cs m _
  have hFF : acc ++ lookL k N cs (m + 1) l = acc ++ (List.range N).flatMap fun a => (List.range (N - (a + 1))).flatMap (F a) := by rw [hF]; rfl
  rw [hFF]
  have hbound : ∀ a q, a < N → q < N - (a + 1) → acc.length + (((List.range a).flatMap fun a => (List.range (N - (a + 1))).flatMap (F a)).length + ((List.range q).flatMap (F a)).length) + 16 ^ m < 5000 := by
    intro a q ha hq
    have h1 := flat_range_len (fun a => (List.range (N - (a + 1))).flatMap (F a)) (4 * 16 ^ m) (fun a => Nat.le_trans (flat_range_len _ (16 ^ m) (fun q => hFl a q) _) (Nat.mul_le_mul_right _ (by omega))) a
    have h2 := flat_range_len (F a) (16 ^ m) (fun q => hFl a q) q
    have h3 : a * (4 * 16 ^ m) ≤ 3 * (4 * 16 ^ m) := Nat.mul_le_mul_right _ (by omega)
    have h4 : q * 16 ^ m ≤ 3 * 16 ^ m := Nat.mul_le_mul_right _ (by omega)
    rw [Nat.pow_succ] at hacc
    omega
  have HBd := Aside0.mk hbound
  have HF := Aside0.mk hF
  clear hI hR hL hok hF hFl hFF hbound hacc
  go_enter Try.func41, Try.ntmps41
  go_wp2
  go_loopw [12] (fun n wr => ∃ a : Nat, a ≤ N ∧ n = .int .i64 a ∧ Aside0 (∃ okj, LInv w0 bO okj (acc ++ (List.range a).flatMap fun a => (List.range (N - (a + 1))).flatMap (F a)) wr ∧ ∀ k, okj k → ok k ∨ W.heap.size ≤ k) ∧ Aside0 (LPre bO ok W wr)) (fun n _ => N - (intOf n).toNat)
  case atStart => exact ⟨0, Nat.zero_le _, rfl, ⟨ok, by simpa using HI.out, fun k hk => .inl hk⟩, ⟨LPre.refl _ _ _⟩⟩
  case round =>
    obtain ⟨a, ha, rfl, HJ, HPr⟩ := hrel
    by_cases hlt : a < N
    · have hga : wrap64 ((a : Int) + 1) = ((a + 1 : Nat) : Int) := by unfold wrap64; omega
      go_wp2
      go_loopw [13] (fun n wr2 => ∃ (q : Nat) (B : Int), q ≤ N - (a + 1) ∧ B = ((a + 1 + q : Nat) : Int) ∧ n = .int .i64 B ∧ Aside0 (∃ okj, LInv w0 bO okj ((acc ++ (List.range a).flatMap fun a => (List.range (N - (a + 1))).flatMap (F a)) ++ (List.range q).flatMap (F a)) wr2 ∧ ∀ k, okj k → ok k ∨ W.heap.size ≤ k) ∧ Aside0 (LPre bO ok W wr2)) (fun n _ => N - (intOf n).toNat)
      case atStart => exact ⟨0, (a : Int) + 1, Nat.zero_le _, by omega, by go_num, by simpa using HJ, HPr⟩
      case round =>
        obtain ⟨q, B, hq, hB, rfl, ⟨okj, hIj, hokj⟩, HPq⟩ := hrel
        have hB0 : 0 ≤ B := by omega
        have hB4 : B ≤ 4 := by omega
        by_cases hlt2 : q < N - (a + 1)
        · have hBN : B < (N : Int) := by omega
          have HRl := Kd.R_step (Kd.R_bound HR.out) (fun k hk hlt => HPq.out.block k hlt (HL.out k hk.1).1 (HL.out k hk.1).2)
          have HCl := Aside0.mk (Kd.R_reads' HRl).2.2
          obtain ⟨x, hx⟩ : ∃ x : S78, x = ⟨(a : Int), B⟩ := ⟨_, rfl⟩
          have hFx : F a q = lookL k N cs m (l ++ [x]) := by rw [HF.out, hx, hB]
          have hkx := HK.out a q hlt hlt2
          rw [← hB, ← hx] at hkx
          have HIH := Aside0.mk (fun (W1 : World) (A3 : Option Addr) (c3 n3 : Nat) (hW : Below wr.heap.size wr W1) (hn : (l ++ [x]).length = n3) (hR3 : Kd.R k78 78 W1 wr.heap.size (fun _ => True) (.slice A3 n3 c3) (l ++ [x])) =>
            (show Calls Try.prog 41 #[.int .i64 N, .int .i64 (M - 1), .slice A2 cs.length c2, .slice A3 n3 c3, .pointer (some ⟨bO, 0, none⟩)] W1 fun e W4 => e = .returned (.tuple #[]) ∧ (∃ ok1, LInv w0 bO ok1 (((acc ++ (List.range a).flatMap fun a => (List.range (N - (a + 1))).flatMap (F a)) ++ (List.range q).flatMap (F a)) ++ F a q) W4 ∧ ∀ k, ok1 k → okj k ∨ (True ∧ wr.heap.size ≤ k ∧ k < W1.heap.size ∧ ∃ q, q ∈ 78 :: k78.E ∧ ∃ cells, W1.heap[k]? = some (.cells cells q (0, 0))) ∨ W1.heap.size ≤ k) ∧ LPre bO okj W1 W4 from by
              have h := ih (l ++ [x]) ((acc ++ (List.range a).flatMap fun a => (List.range (N - (a + 1))).flatMap (F a)) ++ (List.range q).flatMap (F a)) W1 okj _ A3 c3 (hIj.step hW) (by rw [hn]; exact Kd.R_lower (Kd.R_bound hR3) (by have := hIj.below.size; omega)) (fun k hk => ⟨fun ho => by have := (hIj.okb k ho).1; have := hk.2.1; omega, fun he => by have h1 := hk.2.1; have h2 := HPq.out.size; omega⟩) (by have h1 := HBd.out a q hlt hlt2; rw [List.length_append, List.length_append]; omega) (by simp only [List.length_append, List.length_cons, List.length_nil]; omega) hkx
              rw [hn, ← hFx] at h
              rw [HM.out]
              exact h))
          have HX := Aside0.mk hx
          have HBB := Aside0.mk hB
          have HJ2 := Aside0.mk hIj
          have HO2 := Aside0.mk hokj
          have HE := Aside0.mk (R_empty k78 78 wr)
          clear hx hB hFx hkx HRl hIj hokj hq
          go_wp2_with (first
            | (at_builtin; refine Kd.R_append_rows k78 (w0 := wr) wr.heap.size rfl (.tmp 49) (.tmp 50) 75 78 (.agg #[.int .i64 0, .int .i64 0]) 16 rfl Try.underlying75 infCall' rfl (by decide) (by decide) _ [] l A l.length c (fun _ => True) (fun _ => False) rfl rfl HE.out (Kd.C_below HCl.out (by repeat (first | exact Below.refl _ _ | apply below_alloc))) (fun y cs => flatCall' _ _ _ _ y cs) (fun _ hk => hk.elim) (fun _ _ => trivial) (by repeat (first | exact Below.refl _ _ | apply below_alloc)) (by simp) (by simp; omega) ?_; intro v1 w2 h1 h2 h3 h4; rw [List.nil_append] at h1; obtain ⟨A5, c5, rfl⟩ := Kd.R_slice h1; have G1 := Aside0.mk h1; have G2 := Aside0.mk h2; clear h1 h2 h3 h4)
            | (at_builtin; refine Kd.R_append k78 (w0 := wr) wr.heap.size rfl (.tmp 51) (.tmp 55) 75 78 (.agg #[.int .i64 0, .int .i64 0]) 16 rfl Try.underlying75 infCall' rfl (by decide) (by decide) _ l ⟨(a : Int), B⟩ [.int .i64 (a : Int), .int .i64 B] (fun _ => True) (fun _ => False) rfl rfl (k78_mkM w2 wr.heap.size _ ⟨(a : Int), B⟩) (fun _ hk => hk.elim) (fun _ _ => trivial) G1.out G2.out G2.out.size (by omega) ?_; intro v1 w3 h1 h2 h3 h4; rw [← HX.out] at h1; obtain ⟨A6, c6, rfl⟩ := Kd.R_slice h1; have G3 := Aside0.mk h1; have G4 := Aside0.mk h2; clear h1 h2 h3 h4)
            | (go_at_call 41; refine Calls.mono (HIH.out w3 A6 c6 _ G4.out (by simp) (by first | exact G3.out | (have h := G3.out; simp only [List.length_append, List.length_cons, List.length_nil, Nat.zero_add] at h; exact h))) ?_; rintro e w4 ⟨rfl, ⟨ok4, hI4, ho4⟩, hp4⟩; have HD4 := Aside0.mk hI4; have HO4 := Aside0.mk ho4; have HP4 := Aside0.mk hp4; clear hI4 ho4 hp4))
          go_roundw
          case rel =>
            have s1 := HPq.out.size
            have s2 := G4.out.size
            exact ⟨q + 1, B + 1, by omega, by rw [HBB.out]; omega, by go_num, ⟨ok4, by rw [range_succ_flat, ← List.append_assoc]; exact HD4.out, fun k hk => by
              rcases HO4.out k hk with h | ⟨_, h, _⟩ | h
              · exact HO2.out k h
              · exact .inr (by omega)
              · exact .inr (by omega)⟩, ⟨(HPq.out.below G4.out).trans HP4.out HO2.out⟩⟩
          case measure => simp [intOf]; omega
        · have hBN : ¬ (B < (N : Int)) := by omega
          have HJ2 := Aside0.mk hIj
          have HO2 := Aside0.mk hokj
          clear hIj hokj
          go_wp2
          go_roundw
          case rel => exact ⟨a + 1, by omega, by go_num, ⟨okj, by rw [range_succ_flat, ← List.append_assoc]; rw [show q = N - (a + 1) by omega] at HJ2; exact HJ2.out, HO2.out⟩, HPq⟩
          case measure => simp [intOf]; omega
    · go_wp2
      go_end0
      obtain ⟨okj, hIj, hokj⟩ := HJ
      exact ⟨rfl, ⟨okj, by rw [show a = N by omega] at hIj; exact hIj, fun k hk => (hokj k hk).imp id .inr⟩, HPr.out⟩
theorem look_all (k : Nat) (w0 : World) (bO N : Nat) (hN : N ≤ 4) (cs : List S48) (A2 : Option Addr) (c2 : Nat) (hC : Kd.C k48 w0 A2 cs.length cs) : ∀ (m : Nat) (l : List S78) (acc : List (List S78)) (W : World) (ok okL : Nat → Prop) (A : Option Addr) (c : Nat), LInv w0 bO ok acc W → Kd.R k78 78 W w0.heap.size okL (.slice A l.length c) l → (∀ k, okL k → ¬ ok k ∧ k ≠ bO) → acc.length + 16 ^ m < 5000 → l.length + m ≤ 3 → lookOk k N cs m l = true →
      Calls Try.prog 41 #[.int .i64 N, .int .i64 m, .slice A2 cs.length c2, .slice A l.length c, .pointer (some ⟨bO, 0, none⟩)] W fun e W1 => e = .returned (.tuple #[]) ∧ (∃ ok1, LInv w0 bO ok1 (acc ++ lookL k N cs m l) W1 ∧ ∀ k, ok1 k → ok k ∨ okL k ∨ W.heap.size ≤ k) ∧ LPre bO ok W W1 := by
  intro m
  induction m with
  | zero => exact fun l acc W ok okL A c hI hR hL hacc hl hok => look_leaf k w0 bO N cs A2 c2 hC l acc W ok okL A c hI hR hL (by simp at hacc; omega) hok
  | succ m ih => exact fun l acc W ok okL A c hI hR hL hacc hl hok => look_step k w0 bO N hN cs A2 c2 m (by omega) ih l acc W ok okL A c hI hR hL hacc hl hok _ rfl


/-! ### spec_pzAll: function 22, by hand -/
theorem look_mono (k N : Nat) (cs : List S48) : ∀ (m : Nat) (l : List S78), lookOk k N cs m l = true → lookOk (k + 1) N cs m l = true ∧ lookL (k + 1) N cs m l = lookL k N cs m l := by
  intro m
  induction m with
  | zero =>
    intro l h
    unfold lookOk at h ⊢
    rw [List.all_eq_true] at h
    have hs : ∀ c, c ∈ cs → spec_pzFits.f (k + 1) (N : Int) c.f0 c.f1 c.f2 c.f3 l = spec_pzFits.f k (N : Int) c.f0 c.f1 c.f2 c.f3 l := fun c hc => by
      obtain ⟨x, hx⟩ := Option.isSome_iff_exists.1 (h c hc)
      rw [spec_pzFits.mono _ _ _ _ _ _ k _ hx, hx]
    refine ⟨?_, ?_⟩
    · rw [List.all_eq_true]
      exact fun c hc => by rw [hs c hc]; exact h c hc
    · unfold lookL
      have e : (cs.any fun c => !fitsS (k + 1) N l c) = (cs.any fun c => !fitsS k N l c) := by
        rw [Bool.eq_iff_iff, List.any_eq_true, List.any_eq_true]
        constructor
        · rintro ⟨c, hc, h2⟩
          exact ⟨c, hc, by unfold fitsS at h2 ⊢; rw [hs c hc] at h2; exact h2⟩
        · rintro ⟨c, hc, h2⟩
          exact ⟨c, hc, by unfold fitsS at h2 ⊢; rw [hs c hc]; exact h2⟩
      rw [e]
  | succ m ih =>
    intro l h
    unfold lookOk at h ⊢
    have h' : ∀ a, a < N → ∀ q, q < N - (a + 1) → lookOk k N cs m (l ++ [⟨(a : Int), ((a + 1 + q : Nat) : Int)⟩]) = true := fun a ha q hq => List.all_eq_true.1 (List.all_eq_true.1 h a (List.mem_range.2 ha)) q (List.mem_range.2 hq)
    refine ⟨?_, ?_⟩
    · rw [List.all_eq_true]
      intro a ha
      rw [List.all_eq_true]
      exact fun q hq => (ih _ (h' a (List.mem_range.1 ha) q (List.mem_range.1 hq))).1
    · unfold lookL
      rw [List.flatMap_def, List.flatMap_def]
      refine congrArg _ (List.map_congr_left fun a ha => ?_)
      rw [List.flatMap_def, List.flatMap_def]
      exact congrArg _ (List.map_congr_left fun q hq => (ih _ (h' a (List.mem_range.1 ha) q (List.mem_range.1 hq))).2)
/-- (only where it is a puzzle's) -/
def spec_pzAll.f (k : Nat) (a0 a1 : Int) (l2 l3 : List S48) : Option (List (List S78)) :=
  if 0 ≤ a0 ∧ a0 ≤ 4 ∧ 0 ≤ a1 ∧ a1 ≤ 3 ∧ lookOk k a0.toNat l3 a1.toNat [] = true then some (lookL k a0.toNat l3 a1.toNat []) else none
theorem spec_pzAll.mono : ∀ a0 a1 a2 a3 k, LeO (spec_pzAll.f k a0 a1 a2 a3) (spec_pzAll.f (k + 1) a0 a1 a2 a3) := by
  intro a0 a1 a2 a3 k r h
  unfold spec_pzAll.f at h ⊢
  by_cases hc : 0 ≤ a0 ∧ a0 ≤ 4 ∧ 0 ≤ a1 ∧ a1 ≤ 3 ∧ lookOk k a0.toNat a3 a1.toNat [] = true
  · rw [if_pos hc] at h
    obtain ⟨h3, h4⟩ := look_mono k a0.toNat a3 a1.toNat [] hc.2.2.2.2
    rw [if_pos ⟨hc.1, hc.2.1, hc.2.2.1, hc.2.2.2.1, h3⟩, h4, h]
  · rw [if_neg hc] at h
    cases h
set_option maxHeartbeats 4000000 in
set_option maxRecDepth 100000 in
theorem spec_pzAll.calls (k : Nat) (a0_0 : Int) (a0_1 : Int) (A0_2 : Option Addr) (c0_2 : Nat) (l0_2 : List S48) (A1 : Option Addr) (c1 : Nat) (l1 : List S48) (r : List (List S78)) (w : World) (hr0_2 : Kd.C k48 w A0_2 l0_2.length l0_2) (hc0_2 : l0_2.length ≤ c0_2) (hr1 : Kd.C k48 w A1 l1.length l1) (hc1 : l1.length ≤ c1) (h : spec_pzAll.f k a0_0 a0_1 l0_2 l1 = some r) :
    Calls Try.prog 22 #[.agg #[.int .i64 a0_0, .int .i64 a0_1, .slice A0_2 l0_2.length c0_2], .slice A1 l1.length c1] w fun e w' => ∃ v0_ : Value, e = .returned (v0_) ∧ Kd.S (Kd.slice 78 k78) 75 w' w.heap.size (fun _ => True) v0_ r ∧ Below w.heap.size w w' := by
  have hp := Try.underlying30
  unfold spec_pzAll.f at h
  by_cases hk : 0 ≤ a0_0 ∧ a0_0 ≤ 4 ∧ 0 ≤ a0_1 ∧ a0_1 ≤ 3 ∧ lookOk k a0_0.toNat l1 a0_1.toNat [] = true
  · rw [if_pos hk] at h
    obtain rfl := Option.some.inj h
    obtain ⟨N, rfl⟩ := Int.eq_ofNat_of_zero_le hk.1
    obtain ⟨m, rfl⟩ := Int.eq_ofNat_of_zero_le hk.2.2.1
    simp only [Int.toNat_natCast] at hk ⊢
    have hpow : (16 : Nat) ^ m ≤ 16 ^ 3 := Nat.pow_le_pow_right (by omega) (by omega)
    have h216 : (16 : Nat) ^ 3 = 4096 := by decide
    have HA := Aside0.mk (fun (W : World) (bO : Nat) (hI : LInv w bO (fun _ => False) [] W) =>
      (show Calls Try.prog 41 #[.int .i64 N, .int .i64 m, .slice A1 l1.length c1, .slice none 0 0, .pointer (some ⟨bO, 0, none⟩)] W fun e W1 => e = .returned (.tuple #[]) ∧ ∃ ok1, LInv w bO ok1 (lookL k N l1 m []) W1 from
        (look_all k w bO N (by omega) l1 A1 c1 hr1 m [] [] W (fun _ => False) (fun _ => False) none 0 hI (Kd.R_nil _ _ _ _ _) (fun _ hk => hk.elim) (by simp; omega) (by simp; omega) hk.2.2.2.2).mono (by
          rintro e W1 ⟨h1, ⟨ok1, h2, _⟩, _⟩
          exact ⟨h1, ok1, h2⟩)))
    have HI := Aside0.mk (show LInv w (w.heap.size + 1) (fun _ => False) [] ((w.alloc (Obj.cells #[Value.int .i64 (N : Int), Value.int .i64 (m : Int), Value.slice A0_2 l0_2.length c0_2] 30)).alloc (Obj.cells #[Value.slice none 0 0] 44)) from by
      refine ⟨by repeat (first | exact Below.refl _ _ | apply below_alloc), by omega, ⟨Value.slice none 0 0, by go_simp, by go_simp, Kd.S_nil _ _ _ _ _⟩, fun _ hk => hk.elim⟩)
    clear hk hr1 hc1 hr0_2 hc0_2 hpow h216 h
    go_enter Try.func22, Try.ntmps22
    go_wp2_with (go_at_call 41; refine Calls.mono (HA.out _ _ HI.out) ?_; rintro e w1 ⟨rfl, ok1, hI1⟩; obtain ⟨v1, f1, _, hr1⟩ := hI1.out; obtain ⟨A4, c4, rfl⟩ := Kd.S_slice hr1; have HR1 := Aside0.mk hr1; have HB1 := Aside0.mk hI1.below; clear hr1 hI1)
    go_ret
    exact ⟨_, rfl, Kd.S_mono HR1.out (fun _ _ => trivial), HB1.out⟩
  · rw [if_neg hk] at h
    cases h

/-! ### spec_pzWithout: function 27 -/
def spec_pzWithout.f (l0 : List (S48)) (a1 : Int) : Option ((List (S48))) := (some (([] : List (S48)) : List (S48))).bind fun y202 => (if 0 ≤ a1 then (if a1 ≤ (l0.length : Int) then ((some (l0.take (a1 : Int).toNat : List (S48))).bind fun y205 => (if y202.length + y205.length < 4398046511104 then ((some (y202 ++ y205 : List (S48))).bind fun y209 => (if 0 ≤ (wrap64 (a1 + 1)) then (if (wrap64 (a1 + 1)) ≤ (l0.length : Int) then ((some (l0.drop ((wrap64 (a1 + 1)) : Int).toNat : List (S48))).bind fun y212 => (if y209.length + y212.length < 4398046511104 then (some (y209 ++ y212)) else (none))) else (none)) else (none))) else (none))) else (none)) else (none))
def spec_pzWithout.T1 : Bool × List (List Nat × List Nat) := (true, [([], []), ([], []), ([], []), ([1, 2], [1, 2]), ([0, 3], [0, 3]), ([], []), ([], []), ([6], [6]), ([5, 7], [5, 7]), ([4, 8, 4], [4, 8]), ([9, 9, 0, 1, 2, 3, 4, 5, 6, 7, 8, 9], [9])])
def spec_pzWithout.B1 : List Nat := [0, 0, 0, 6, 15, 0, 0, 64, 224, 511, 1023]
theorem spec_pzWithout.tab1 : rtab .any (opsOf Try.f27 1) = spec_pzWithout.T1 := by kernel_rfl
theorem spec_pzWithout.bits1 : waitsOk spec_pzWithout.T1.2 spec_pzWithout.B1 = true := by kernel_rfl
set_option maxHeartbeats 8000000 in
set_option maxRecDepth 100000 in
theorem spec_pzWithout.calls (A0 : Option Addr) (c0 : Nat) (l0 : List (S48)) (a1 : Int) (r : List (S48)) (w : World) (hr0 : Kd.C k48 w A0 l0.length l0) (hc0 : l0.length ≤ c0) (h : spec_pzWithout.f l0 a1 = some r) :
    Calls Try.prog 27 #[.slice A0 l0.length c0, .int .i64 a1] w fun e w' => ∃ v0_ : Value, e = .returned (v0_) ∧ Kd.R k48 48 w' w.heap.size (fun _ => True) v0_ r ∧ Below w.heap.size w w' := by
  have HR0 := Aside0.mk hr0
  have HC0 := Aside0.mk hc0
  clear hr0 hc0
  have HB := Aside0.mk (Below.refl w.heap.size w)
  have H : ((some (([] : List (S48)) : List (S48))).bind fun y202 => (if 0 ≤ a1 then (if a1 ≤ (l0.length : Int) then ((some (l0.take (a1 : Int).toNat : List (S48))).bind fun y205 => (if y202.length + y205.length < 4398046511104 then ((some (y202 ++ y205 : List (S48))).bind fun y209 => (if 0 ≤ (wrap64 (a1 + 1)) then (if (wrap64 (a1 + 1)) ≤ (l0.length : Int) then ((some (l0.drop ((wrap64 (a1 + 1)) : Int).toNat : List (S48))).bind fun y212 => (if y209.length + y212.length < 4398046511104 then (some (y209 ++ y212)) else (none))) else (none)) else (none))) else (none))) else (none)) else (none))) = some r := h
  clear h
  obtain ⟨y202, hy202⟩ : ∃ y_ : List (S48), y_ = (([] : List (S48))) := ⟨_, rfl⟩
  replace H : (if 0 ≤ a1 then (if a1 ≤ (l0.length : Int) then ((some (l0.take (a1 : Int).toNat : List (S48))).bind fun y205 => (if y202.length + y205.length < 4398046511104 then ((some (y202 ++ y205 : List (S48))).bind fun y209 => (if 0 ≤ (wrap64 (a1 + 1)) then (if (wrap64 (a1 + 1)) ≤ (l0.length : Int) then ((some (l0.drop ((wrap64 (a1 + 1)) : Int).toNat : List (S48))).bind fun y212 => (if y209.length + y212.length < 4398046511104 then (some (y209 ++ y212)) else (none))) else (none)) else (none))) else (none))) else (none)) else (none)) = some r := by first | (rw [hy202]; with_reducible exact H) | (have H2_ := (Option.bind_some _ _).symm.trans H; rw [hy202]; with_reducible exact H2_) | (have H2_ := (Option.bind_some _ _).symm.trans H; with_reducible exact H2_) | with_reducible exact H | (rw [hy202]; exact H) | exact H
  have Ny202 := Aside0.mk hy202
  clear hy202
  by_cases c3 : 0 ≤ a1
  · rw [if_pos c3] at H
    have c3b0 := eq_true c3
    have c3b1 : decide (0 ≤ a1) = true := decide_eq_true c3
    clear c3
    by_cases c4 : a1 ≤ (l0.length : Int)
    · rw [if_pos c4] at H
      have c4b0 := eq_true c4
      have c4b1 : decide (a1 ≤ (l0.length : Int)) = true := decide_eq_true c4
      clear c4
      obtain ⟨y205, hy205⟩ : ∃ y_ : List (S48), y_ = (l0.take (a1 : Int).toNat) := ⟨_, rfl⟩
      replace H : (if y202.length + y205.length < 4398046511104 then ((some (y202 ++ y205 : List (S48))).bind fun y209 => (if 0 ≤ (wrap64 (a1 + 1)) then (if (wrap64 (a1 + 1)) ≤ (l0.length : Int) then ((some (l0.drop ((wrap64 (a1 + 1)) : Int).toNat : List (S48))).bind fun y212 => (if y209.length + y212.length < 4398046511104 then (some (y209 ++ y212)) else (none))) else (none)) else (none))) else (none)) = some r := by first | (rw [hy205]; with_reducible exact H) | (have H2_ := (Option.bind_some _ _).symm.trans H; rw [hy205]; with_reducible exact H2_) | (have H2_ := (Option.bind_some _ _).symm.trans H; with_reducible exact H2_) | with_reducible exact H | (rw [hy205]; exact H) | exact H
      have Ny205 := Aside0.mk hy205
      clear hy205
      by_cases c5 : y202.length + y205.length < 4398046511104
      · rw [if_pos c5] at H
        have LMc5 := Aside0.mk c5
        clear c5
        obtain ⟨y209, hy209⟩ : ∃ y_ : List (S48), y_ = (y202 ++ y205) := ⟨_, rfl⟩
        replace H : (if 0 ≤ (wrap64 (a1 + 1)) then (if (wrap64 (a1 + 1)) ≤ (l0.length : Int) then ((some (l0.drop ((wrap64 (a1 + 1)) : Int).toNat : List (S48))).bind fun y212 => (if y209.length + y212.length < 4398046511104 then (some (y209 ++ y212)) else (none))) else (none)) else (none)) = some r := by first | (rw [hy209]; with_reducible exact H) | (have H2_ := (Option.bind_some _ _).symm.trans H; rw [hy209]; with_reducible exact H2_) | (have H2_ := (Option.bind_some _ _).symm.trans H; with_reducible exact H2_) | with_reducible exact H | (rw [hy209]; exact H) | exact H
        have Ny209 := Aside0.mk hy209
        clear hy209
        obtain ⟨ji6, hji6⟩ : ∃ j_ : Int, (wrap64 (a1 + 1)) = j_ := ⟨_, rfl⟩
        replace H : (if 0 ≤ (ji6) then (if (ji6) ≤ (l0.length : Int) then ((some (l0.drop ((ji6) : Int).toNat : List (S48))).bind fun y212 => (if y209.length + y212.length < 4398046511104 then (some (y209 ++ y212)) else (none))) else (none)) else (none)) = some r := by first | (rw [hji6] at H; exact H) | (simp only [hji6] at H ⊢; exact H)
        have hji6w : (IntKind.i64.wrap (a1 + 1)) = ji6 := (i64_w _).trans hji6
        by_cases c7 : 0 ≤ (ji6)
        · rw [if_pos c7] at H
          have c7b0 := eq_true c7
          have c7b1 : decide (0 ≤ (ji6)) = true := decide_eq_true c7
          clear c7
          by_cases c8 : (ji6) ≤ (l0.length : Int)
          · rw [if_pos c8] at H
            have c8b0 := eq_true c8
            have c8b1 : decide ((ji6) ≤ (l0.length : Int)) = true := decide_eq_true c8
            clear c8
            obtain ⟨y212, hy212⟩ : ∃ y_ : List (S48), y_ = (l0.drop ((ji6) : Int).toNat) := ⟨_, rfl⟩
            replace H : (if y209.length + y212.length < 4398046511104 then (some (y209 ++ y212)) else (none)) = some r := by first | (rw [hy212]; with_reducible exact H) | (have H2_ := (Option.bind_some _ _).symm.trans H; rw [hy212]; with_reducible exact H2_) | (have H2_ := (Option.bind_some _ _).symm.trans H; with_reducible exact H2_) | with_reducible exact H | (rw [hy212]; exact H) | exact H
            have Ny212 := Aside0.mk hy212
            clear hy212
            by_cases c9 : y209.length + y212.length < 4398046511104
            · rw [if_pos c9] at H
              have LMc9 := Aside0.mk c9
              clear c9
              obtain ⟨y216, hy216⟩ : ∃ y_ : List (S48), y_ = (y209 ++ y212) := ⟨_, rfl⟩
              replace H : (some y216) = some r := by first | (rw [hy216]; with_reducible exact H) | (have H2_ := (Option.bind_some _ _).symm.trans H; rw [hy216]; with_reducible exact H2_) | (have H2_ := (Option.bind_some _ _).symm.trans H; with_reducible exact H2_) | with_reducible exact H | (rw [hy216]; exact H) | exact H
              have Ny216 := Aside0.mk hy216
              clear hy216
              obtain rfl := Option.some.inj H
              go_enter Try.func27, Try.ntmps27
              try go_wp2
              have n0_ := Aside0.mk (below_drew1 HB.out)
              clear HB
              have HB := n0_
              clear n0_
              have q11 : (a1 : Int) ≤ ((l0.length : Int) : Int) := of_decide_eq_true (by first | (with_reducible assumption) | assumption)
              obtain ⟨i011, hi011, _, hsz11, _⟩ := info_parts info48
              have hroom11 : l0.length ≤ c0 := HC0.out
              have hC11 : Kd.C k48 _ A0 l0.length l0 := HR0.out
              have hcut11 := cut_to (P := Try.prog) 28 48 .i64 Try.underlying28 hi011 A0 l0.length c0 a1 (of_decide_eq_true (by first | (with_reducible assumption) | assumption)) q11 hroom11
              have hr11 := Kd.C_take (m := (a1 : Int).toNat) hC11 (by omega)
              have hy11 : y205.length = (a1 : Int).toNat := (by rw [Ny205.out, List.length_take]; omega)
              rw [← Ny205.out] at hr11
              rw [← hy11] at hcut11
              have HR208 := Aside0.mk hr11
              have HC208 := Aside0.mk (show y205.length ≤ c0 from by omega)
              clear hr11 hC11 hroom11 hi011 hsz11
              have KY11 := Aside0.mk hy11
              clear hy11
              replace q11 := eq_true q11
              have q12 : ((ji6) : Int) ≤ ((l0.length : Int) : Int) := of_decide_eq_true (by first | (with_reducible assumption) | assumption)
              obtain ⟨i012, hi012, _, hsz12, _⟩ := info_parts info48
              have hroom12 : l0.length ≤ c0 := HC0.out
              have hC12 : Kd.C k48 _ A0 l0.length l0 := HR0.out
              have q012 : (0 : Int) ≤ ((ji6) : Int) := of_decide_eq_true (by first | (with_reducible assumption) | assumption)
              have hcut12 := cut_from (P := Try.prog) 28 48 .i64 Try.underlying28 hi012 4 hsz12 A0 l0.length c0 (ji6) q012 q12
              have hr12 := Kd.C_drop (m := ((ji6) : Int).toNat) (c := c0) hC12 (by omega) hroom12
              obtain ⟨A12, hA12⟩ : ∃ A1_, A1_ = (if c0 = ((ji6) : Int).toNat then A0 else (A0 : Option Addr).map (·.add (((ji6) : Int).toNat * 4))) := ⟨_, rfl⟩
              obtain ⟨c12, hc12⟩ : ∃ c1_, c1_ = c0 - ((ji6) : Int).toNat := ⟨_, rfl⟩
              have hy12 : y212.length = l0.length - ((ji6) : Int).toNat := (by rw [Ny212.out, List.length_drop] <;> omega)
              rw [show (l0).drop ((ji6) : Int).toNat = y212 from Ny212.out.symm] at hr12
              replace hr12 : Kd.C k48 _ A12 y212.length y212 := (by rw [hA12]; exact hr12)
              rw [← hy12, ← hA12, ← hc12] at hcut12
              have HR215 := Aside0.mk hr12
              have HC215 := Aside0.mk (show y212.length ≤ c12 from by rw [hy12, hc12]; exact Nat.sub_le_sub_right hroom12 _)
              clear hr12 hC12 hroom12 hi012 hsz12 hc12
              have KY12 := Aside0.mk hy12
              have KA12 := Aside0.mk hA12
              clear hy12 hA12
              replace q12 := eq_true q12
              refine start_ (n := 11) (S := fun w' => True) (ds := []) #[false, false, false, false, false, false, false, false, false, false, false] (by kernel_rfl) rfl rfl trivial (fun hHeld => ?_); refine with_tabW spec_pzWithout.tab1 spec_pzWithout.bits1 (fun HT_ HW_ => ?_)
              generalize w.drew = w10 at HB HR208 HR215 hHeld ⊢
              refine pure_ (i := 1) (N := some 6) (v := ?_) (a' := ?_) #[false, true, false, false, false, false, false, false, false, false, false] rfl rfl (any_of HT_.out (by kernel_rfl)) (fun _ _ _ h => h) (Or.inl ⟨by rfl, ?_⟩) ?_ ?_
              rotate_left
              · intro w'
                go_simp
                with_reducible rfl
              rotate_left
              · simp only [Act.put, List.setIfInBounds_toArray, List.set_cons_zero, List.set_cons_succ, i64_w, i32_w]
                rfl
              refine pure_ (i := 2) (N := some 7) (v := ?_) (a' := ?_) #[false, true, true, false, false, false, false, false, false, false, false] rfl rfl (any_of HT_.out (by kernel_rfl)) (fun _ _ _ h => h) (Or.inl ⟨by rfl, ?_⟩) ?_ ?_
              rotate_left
              · intro w'
                go_simp
                with_reducible rfl
              rotate_left
              · simp only [Act.put, List.setIfInBounds_toArray, List.set_cons_zero, List.set_cons_succ, i64_w, i32_w]
                rfl
              refine pure_ (i := 3) (N := some 8) (v := ?_) (a' := ?_) #[false, true, true, true, false, false, false, false, false, false, false] rfl rfl (any_of HT_.out (by kernel_rfl)) (fun _ _ _ h => h) (Or.inl ⟨by rfl, ?_⟩) ?_ ?_
              rotate_left
              · intro w'
                go_simp
                with_reducible rfl
              rotate_left
              · simp only [Act.put, List.setIfInBounds_toArray, List.set_cons_zero, List.set_cons_succ, i64_w, i32_w]
                rfl
              refine pure_ (i := 5) (N := some 10) (v := ?_) (a' := ?_) #[false, true, true, true, false, true, false, false, false, false, false] rfl rfl (any_of HT_.out (by kernel_rfl)) (fun _ _ _ h => h) (Or.inl ⟨by rfl, ?_⟩) ?_ ?_
              rotate_left
              · intro w'
                go_simp
                with_reducible rfl
              rotate_left
              · simp only [Act.put, List.setIfInBounds_toArray, List.set_cons_zero, List.set_cons_succ, i64_w, i32_w]
                rfl
              refine pure_ (i := 6) (N := some 11) (v := ?_) (a' := ?_) #[false, true, true, true, false, true, true, false, false, false, false] rfl rfl (any_of HT_.out (by kernel_rfl)) (fun _ _ _ h => h) (Or.inl ⟨by rfl, ?_⟩) ?_ ?_
              rotate_left
              · intro w'
                go_simp
                with_reducible rfl
              rotate_left
              · simp only [Act.put, List.setIfInBounds_toArray, List.set_cons_zero, List.set_cons_succ, i64_w, i32_w]
                rfl
              refine pure_ (i := 7) (N := some 12) (v := ?_) (a' := ?_) #[false, true, true, true, false, true, true, true, false, false, false] rfl rfl (any_of HT_.out (by kernel_rfl)) (fun _ _ _ h => h) (Or.inl ⟨by rfl, ?_⟩) ?_ ?_
              rotate_left
              · intro w'
                go_simp
                with_reducible rfl
              rotate_left
              · simp only [Act.put, List.setIfInBounds_toArray, List.set_cons_zero, List.set_cons_succ, i64_w, i32_w]
                rfl
              refine pure_ (i := 8) (N := some 13) (v := ?_) (a' := ?_) #[false, true, true, true, false, true, true, true, true, false, false] rfl rfl (any_of HT_.out (by kernel_rfl)) (fun _ _ _ h => h) (Or.inl ⟨by rfl, ?_⟩) ?_ ?_
              rotate_left
              · intro w'
                go_simp
                with_reducible rfl
              rotate_left
              · simp only [Act.put, List.setIfInBounds_toArray, List.set_cons_zero, List.set_cons_succ, i64_w, i32_w]
                rfl
              refine one_ (i := 0) (N := some 5) #[true, true, true, true, false, true, true, true, true, false, false] rfl rfl (one_of HT_.out (by kernel_rfl)) (by decide) (fun K hK => ?_)
              refine Kd.R_lit_step k48 _ 48 ?hg (N := 5) ?hd (xs := ([] : List (S48))) (inner := []) (ok := fun _ => True) (okp := fun _ => True) ?hr ?hp (fun _ hk => hk) trivial (Below.refl _ _) (Nat.le_refl _) (by simp) ?_; (case hd => rfl); (case hg => rfl); (case hr => first | (go_simp; done) | (go_simp; rfl)); (case hp => exact (Reps.none _ _))
              intro v203 w13 ho14 hb hg_ hnew_
              clear hg_ hnew_
              (first | rw [← Ny202.out] at ho14 | (simp only [Int.reduceToNat] at ho14; rw [← Ny202.out] at ho14))
              have n0_ := Aside0.mk (Kd.R_lower ho14 (below_size (by repeat (first | (with_reducible first | exact HB.out | apply below_alloc | apply pw_below_drewN | apply below_drew1) | exact HB.out))))
              have n1_ := Aside0.mk (below_step (by repeat (first | (with_reducible first | exact HB.out | apply below_alloc | apply pw_below_drewN | apply below_drew1) | exact HB.out)) hb)
              clear HB
              have HO204 := n0_
              have HB := n1_
              clear n0_ n1_
              clear hb ho14
              refine hK.out _ _ trivial (fun hHeld => ?_)
              clear hK K
              refine norm_ (a' := ?_) ?_ ?_
              rotate_left
              · show Act.put _ (some 5) _ = _
                simp only [Act.put, List.setIfInBounds_toArray, List.set_cons_zero, List.set_cons_succ, i64_w, i32_w]
                rfl
              refine one_ (i := 4) (N := some 9) #[true, true, true, true, true, true, true, true, true, false, false] rfl rfl (one_of HT_.out (by kernel_rfl)) (by decide) (fun K hK => ?_)
              refine Kd.R_append_rows_step k48 (w0 := w) w.heap.size (by rfl) (.tmp 5) (.tmp 8) 28 48 (.agg #[(.int .i64 0), (.int .i64 0), (.int .i64 0), (.int .i64 0)]) 32 rfl Try.underlying28 info48 rfl (by decide) (by omega) v203 y202 y205 _ _ _ (fun _ => True) (fun _ => False) rfl rfl ?aO ?aR (fun _ _ h => h) (fun _ h => h.elim) ?aF ?aB ?aS ?aL ?_
              (case aR => repeat (first | exact (Kd.C_below HR208.out HB.out) | (with_reducible refine Kd.C_alloc ?_ _) | (with_reducible refine Kd.C_drewN ?_ _) | (with_reducible refine Kd.C_drew ?_)))
              (case aB => exact (by repeat (first | (with_reducible first | exact HB.out | apply below_alloc | apply pw_below_drewN | apply below_drew1) | exact HB.out)))
              (case aF => exact (fun _ _ => trivial))
              (case aO => exact (by (with_reducible repeat (first | apply Kd.R_alloc | apply Kd.R_drewN | apply Kd.R_drew)); exact HO204.out))
              (case aS => exact (below_size (by repeat (first | (with_reducible first | exact HB.out | apply below_alloc | apply pw_below_drewN | apply below_drew1) | exact HB.out))))
              (case aL => have := LMc5.out; omega)
              intro v210 w15 ho hb hg hat
              rw [← Ny209.out] at ho
              have n0_ := Aside0.mk (hb)
              have n1_ := Aside0.mk (ho)
              clear HB
              clear HO204
              have HB := n0_
              have HO211 := n1_
              clear n0_ n1_
              clear ho hb hg hat
              refine hK.out _ _ trivial (fun hHeld => ?_)
              clear hK K
              refine norm_ (a' := ?_) ?_ ?_
              rotate_left
              · show Act.put _ (some 9) _ = _
                simp only [Act.put, List.setIfInBounds_toArray, List.set_cons_zero, List.set_cons_succ, i64_w, i32_w]
                rfl
              refine one_ (i := 9) (N := some 14) #[true, true, true, true, true, true, true, true, true, true, false] rfl rfl (one_of HT_.out (by kernel_rfl)) (by decide) (fun K hK => ?_)
              refine Kd.R_append_rows_step k48 (w0 := w) w.heap.size (by rfl) (.tmp 9) (.tmp 13) 28 48 (.agg #[(.int .i64 0), (.int .i64 0), (.int .i64 0), (.int .i64 0)]) 32 rfl Try.underlying28 info48 rfl (by decide) (by omega) v210 y209 y212 _ _ _ (fun _ => True) (fun _ => False) rfl rfl ?aO ?aR (fun _ _ h => h) (fun _ h => h.elim) ?aF ?aB ?aS ?aL ?_
              (case aR => repeat (first | exact (Kd.C_below HR215.out HB.out) | (with_reducible refine Kd.C_alloc ?_ _) | (with_reducible refine Kd.C_drewN ?_ _) | (with_reducible refine Kd.C_drew ?_)))
              (case aB => exact (by repeat (first | (with_reducible first | exact HB.out | apply below_alloc | apply pw_below_drewN | apply below_drew1) | exact HB.out)))
              (case aF => exact (fun _ _ => trivial))
              (case aO => exact (by (with_reducible repeat (first | apply Kd.R_alloc | apply Kd.R_drewN | apply Kd.R_drew)); exact HO211.out))
              (case aS => exact (below_size (by repeat (first | (with_reducible first | exact HB.out | apply below_alloc | apply pw_below_drewN | apply below_drew1) | exact HB.out))))
              (case aL => have := LMc9.out; omega)
              intro v217 w16 ho hb hg hat
              rw [← Ny216.out] at ho
              have n0_ := Aside0.mk (hb)
              have n1_ := Aside0.mk (ho)
              clear HB
              clear HO211
              have HB := n0_
              have HO218 := n1_
              clear n0_ n1_
              clear ho hb hg hat
              refine hK.out _ _ trivial (fun hHeld => ?_)
              clear hK K
              refine norm_ (a' := ?_) ?_ ?_
              rotate_left
              · show Act.put _ (some 14) _ = _
                simp only [Act.put, List.setIfInBounds_toArray, List.set_cons_zero, List.set_cons_succ, i64_w, i32_w]
                rfl
              refine pure_ (i := 10) (N := some 4) (v := ?_) (a' := ?_) #[true, true, true, true, true, true, true, true, true, true, true] rfl rfl (any_of HT_.out (by kernel_rfl)) (fun _ _ _ h => h) (Or.inl ⟨by rfl, ?_⟩) ?_ ?_
              rotate_left
              · intro w'
                go_simp
                with_reducible rfl
              rotate_left
              · simp only [Act.put, List.setIfInBounds_toArray, List.set_cons_zero, List.set_cons_succ, i64_w, i32_w]
                rfl
              refine done_ (done_of HT_.out (by kernel_rfl)) ?_
              try go_wp2
              go_ret
              exact ⟨_, by first | rfl | (simp [errW_none, errW_some] <;> rfl) | (simp only [← hji6]; first | rfl | (simp [errW_none, errW_some] <;> rfl)) | (simp [*, errW_none, errW_some] <;> rfl), by (with_reducible repeat (first | apply Kd.R_alloc | apply Kd.R_drewN | apply Kd.R_drew)); exact HO218.out, by repeat (first | (with_reducible first | exact HB.out | apply below_alloc | apply pw_below_drewN | apply below_drew1) | exact HB.out)⟩
            · rw [if_neg c9] at H
              exact absurd H (by simp)
          · rw [if_neg c8] at H
            exact absurd H (by simp)
        · rw [if_neg c7] at H
          exact absurd H (by simp)
      · rw [if_neg c5] at H
        exact absurd H (by simp)
    · rw [if_neg c4] at H
      exact absurd H (by simp)
  · rw [if_neg c3] at H
    exact absurd H (by simp)

end Go.Proofs.Ytdikfagbillioaa.PFnExactNeedlessClues
