/- Printed by a program of this session (wip/pp) over the kit's print, for FnExactMakePuzzle. No conditions beyond those that each theorem names. -/
import Derived.Test.YthakmnjamdggeaaPFnExactMakePuzzlex0
import Derived.Test.YthakmnjamdggeaaPFnExactMakePuzzlex6
import Derived.Test.YthakmnjamdggeaaPFnExactMakePuzzlex8
namespace Go.Proofs.Ythakmnjamdggeaa.PFnExactMakePuzzle
open Go.RowKit Go.Proofs.YthakmnjamdggeaaW.PrintWords Go.Proofs.YthakmnjamdggeaaW.PrintLast Go.Proofs.YthakmnjamdggeaaW.PrintMore
attribute [local go_sem] max2_int min2_int max_two min_two max_three min_three max_four min_four   -- for this text's walks alone
set_option linter.unusedVariables false
set_option linter.unusedSimpArgs false

/-! ### impl_MakePuzzle: function 45, by hand -/
/-- the next number -/
def nxt (z : Int) : Int := Int.tmod (wrap64 (wrap64 (z * 197) + 2531)) 10007
def mkKind (l : List S74) (z : Int) : Int := if Int.tmod z 6 = 4 ∧ l.length = 0 then 0 else Int.tmod z 6
def mkA (n : Int) (l : List S74) (K y : Int) : Int := if K = 0 ∨ K = 1 ∨ K = 2 then Int.tmod y n else if K = 4 then Int.tmod y (l.length : Int) else 0
def mkB (n K y : Int) : Int := if K = 2 ∨ K = 4 then Int.tmod (wrap64 (Int.tdiv y 7)) n else 0
/-- m clues more -/
def mkN (k : Nat) (n : Int) (l : List S74) : Nat → Int → List S31 → Option (List S31)
  | 0, _, cs => some cs
  | m + 1, z, cs => (impl_told.f k n (mkKind l (nxt z)) (mkA n l (mkKind l (nxt z)) (nxt (nxt z))) (mkB n (mkKind l (nxt z)) (nxt (nxt z))) l).bind fun v => mkN k n l m (nxt (nxt z)) (cs ++ [⟨mkKind l (nxt z), mkA n l (mkKind l (nxt z)) (nxt (nxt z)), mkB n (mkKind l (nxt z)) (nxt (nxt z)), v⟩])
def mkOk (a2 a3 : Int) : Bool := decide (0 ≤ a2 ∧ a2 ≤ 6) && decide (0 ≤ a3 ∧ a3 ≤ 9999)
def impl_MakePuzzle.f (k : Nat) (a0 : Int) (l1 : List S74) (a2 a3 : Int) : Option (Int × Int × List S31 × Bool) :=
  (impl_isHidden.f a0 l1).bind fun h => if (h && mkOk a2 a3) = true then (if a0 = 0 then none else (mkN k a0 l1 a2.toNat a3 []).bind fun cs => some (a0, (l1.length : Int), cs, true)) else some (0, 0, [], false)
theorem mkN_mono (k : Nat) (n : Int) (l : List S74) : ∀ (m : Nat) (z : Int) (cs : List S31), LeO (mkN k n l m z cs) (mkN (k + 1) n l m z cs) := by
  intro m
  induction m with
  | zero => intro z cs; exact LeO.refl _
  | succ m ih =>
    intro z cs
    unfold mkN
    exact LeO.bind (impl_told.mono _ _ _ _ _ _) (fun v => ih _ _)
theorem impl_MakePuzzle.mono : ∀ a0 a1 a2 a3 k, LeO (impl_MakePuzzle.f k a0 a1 a2 a3) (impl_MakePuzzle.f (k + 1) a0 a1 a2 a3) := by
  intro a0 a1 a2 a3 k
  unfold impl_MakePuzzle.f
  exact LeO.bind (LeO.refl _) (fun h => LeO.ite (LeO.ite (LeO.refl _) (LeO.bind (mkN_mono _ _ _ _ _ _) (fun c => LeO.refl _))) (LeO.refl _))
structure MBox where
  a0 : Int
  n : Int
  bS : Nat
  bR : Nat
  bP : Nat
structure MInv (w : World) (b : MBox) (z : Int) (u : Value) (cs : List S31) (W : World) : Prop where
  below : Below w.heap.size w W
  s : W.heap[b.bS]? = some (.cells #[.int .i64 z] 3 (0, 0))
  r : W.heap[b.bR]? = some (.cells #[.int .i64 0, .int .i64 0, .slice none 0 0] 44 (0, 0))
  p : W.heap[b.bP]? = some (.cells #[.int .i64 b.a0, .int .i64 b.n, u] 44 (0, 0))
  o : Kd.R k31 31 W w.heap.size (fun _ => True) u cs
  ne : b.bS ≠ b.bR ∧ b.bS ≠ b.bP ∧ b.bR ≠ b.bP ∧ w.heap.size ≤ b.bS ∧ w.heap.size ≤ b.bR ∧ w.heap.size ≤ b.bP
theorem MInv.step {w W W1 : World} {b : MBox} {z : Int} {u : Value} {cs : List S31} (h : MInv w b z u cs W) (hb : Below W.heap.size W W1) : MInv w b z u cs W1 :=
  ⟨h.below.trans (hb.mono h.below.size), blk_below h.s hb, blk_below h.r hb, blk_below h.p hb, Kd.R_below h.o hb, h.ne⟩
theorem MInv.next {w W : World} {b : MBox} {z : Int} {u : Value} {cs : List S31} (h : MInv w b z u cs W) (z' : Int) : MInv w b z' u cs (W.setCell ⟨b.bS, 0, none⟩ (.int .i64 z')) :=
  ⟨Below.setCell h.below h.ne.2.2.2.1 _, blk_put h.s 0 _ rfl, blk_far h.r (Ne.symm h.ne.1) _, blk_far h.p (Ne.symm h.ne.2.1) _, Kd.R_mono (Kd.R_far (p := ⟨b.bS, 0, none⟩) (Kd.R_types h.o h.s (by decide)) (fun _ hk => hk.2) (.int .i64 z')) (fun _ _ => trivial), h.ne⟩
theorem MInv.put {w W w6 : World} {b : MBox} {z : Int} {u v1 : Value} {cs cs' : List S31} (h : MInv w b z u cs W) (hg : W.grownBy w6 u.ownBlock) (hb : Below w.heap.size w w6) (ho : Kd.R k31 31 w6 w.heap.size (fun _ => True) v1 cs') : MInv w b z v1 cs' (w6.setCell ⟨b.bP, 2, none⟩ v1) := by
  have s6 := blk_grown h.s hg (Kd.R_ne h.o h.s (by decide))
  have r6 := blk_grown h.r hg (Kd.R_ne h.o h.r (by decide))
  have p6 := blk_grown h.p hg (Kd.R_ne h.o h.p (by decide))
  exact ⟨Below.setCell hb h.ne.2.2.2.2.2 _, blk_far s6 h.ne.2.1 _, blk_far r6 h.ne.2.2.1 _, blk_put p6 2 _ rfl, Kd.R_mono (Kd.R_far (p := ⟨b.bP, 2, none⟩) (Kd.R_types ho p6 (by decide)) (fun _ hk => hk.2) v1) (fun _ _ => trivial), h.ne⟩
set_option maxHeartbeats 1000000 in
set_option maxRecDepth 100000 in
theorem next_1 (z : Int) (B : Nat) (w : World) (q : w.cell? ⟨B, 0, none⟩ = some (.int .i64 z)) (f : w.frozen? ⟨B, 0, none⟩ = false) :
    Calls Try.prog 76 #[.pointer (some ⟨B, 0, none⟩)] w fun e w' => e = .returned (.int .i64 (nxt z)) ∧ w' = w.setCell ⟨B, 0, none⟩ (.int .i64 (nxt z)) := by
  unfold nxt
  go_enter Try.func76, Try.ntmps76
  go_wp2
  go_ret
  exact ⟨rfl, rfl⟩
theorem next_c {w W : World} {b : MBox} {z z1 : Int} {u : Value} {cs : List S31} (h : MInv w b z u cs W) (hz : z1 = nxt z) :
    Calls Try.prog 76 #[.pointer (some ⟨b.bS, 0, none⟩)] W fun e w' => e = .returned (.int .i64 z1) ∧ MInv w b z1 u cs w' :=
  (next_1 z b.bS W ((blk_cell h.s 0).trans rfl) (blk_frozen h.s 0)).mono (by
    rintro e w' ⟨rfl, rfl⟩
    subst hz
    exact ⟨rfl, h.next _⟩)
def mkT20 : Bool × List (List Nat × List Nat) := (true, [([], []), ([0], [0]), ([], []), ([], []), ([], []), ([], []), ([], []), ([], []), ([], []), ([], []), ([5, 6, 7, 8, 9], [5, 6, 7, 8, 9]), ([2, 3, 4, 10], [2, 3, 4, 10]), ([11], [11]), ([1, 12, 10], [1, 12]), ([0, 1, 2, 3, 4, 5, 6, 7, 8, 9, 10, 11, 12, 13], []), ([14, 13, 13, 0, 1, 2, 3, 4, 5, 6, 7, 8, 9, 10, 11, 12, 13], [13, 14])])
def mkB20 : List Nat := [0, 1, 0, 0, 0, 0, 0, 0, 0, 0, 992, 2044, 4092, 8191, 16383, 32767]
theorem mk_tab20 : rtab .any (opsOf Try.f45 20) = mkT20 := by kernel_rfl
theorem mk_bits20 : waitsOk mkT20.2 mkB20 = true := by kernel_rfl
theorem infClue4 : (Try.prog.info? 31).map (fun i => (i.zero, i.size, i.bytes)) = some (some (.agg #[(.int .i64 0), (.int .i64 0), (.int .i64 0), (.int .i64 0)]), 4, 32) := by kernel_rfl
set_option maxHeartbeats 4000000 in
set_option maxRecDepth 100000 in
theorem impl_MakePuzzle.calls (k : Nat) (a0 : Int) (A1 : Option Addr) (c1 : Nat) (l1 : List S74) (a2 a3 : Int) (r1 r2 : Int) (r3 : List S31) (r4 : Bool) (w : World) (hr1 : Kd.C k74 w A1 l1.length l1) (hc1 : l1.length ≤ c1) (h : impl_MakePuzzle.f k a0 l1 a2 a3 = some (r1, r2, r3, r4)) :
    Calls Try.prog 45 #[.int .i64 a0, .slice A1 l1.length c1, .int .i64 a2, .int .i64 a3] w fun e w' => ∃ v2_ : Value, e = .returned (.tuple #[.agg #[.int .i64 r1, .int .i64 r2, v2_], .bool r4]) ∧ Kd.R k31 31 w' w.heap.size (fun _ => True) v2_ r3 ∧ Below w.heap.size w w' := by
  have hmf : ∀ (fn : Fn) (first cap : Array Value) (w : World), (Instr.makeFunc fn first cap).run Try.prog w = .ok (.func fn first cap) w := fun _ _ _ _ => rfl
  have hu44 := Try.underlying44
  have hu31 := Try.underlying31
  unfold impl_MakePuzzle.f at h
  obtain ⟨x0, hx0, h⟩ := Option.bind_eq_some_iff.1 h
  have HF := Aside0.mk hx0
  have HR1 := Aside0.mk hr1
  have HC1 := Aside0.mk hc1
  have hmx := hr1.2.1
  have HH := Aside0.mk (fun (W : World) (hB : Below w.heap.size w W) => impl_isHidden.calls a0 A1 c1 l1 x0 W (Kd.C_below hr1 hB) hc1 hx0)
  clear hx0 hr1 hc1
  by_cases hall : (x0 && mkOk a2 a3) = true
  · rw [if_pos hall] at h
    by_cases ha0 : a0 = 0
    · rw [if_pos ha0] at h; cases h
    rw [if_neg ha0] at h
    obtain ⟨cs, hcs, h2⟩ := Option.bind_eq_some_iff.1 h
    simp only [Option.some.injEq, Prod.mk.injEq] at h2
    obtain ⟨rfl, rfl, rfl, rfl⟩ := h2
    simp only [Bool.and_eq_true] at hall
    obtain ⟨rfl, hk⟩ := hall
    unfold mkOk at hk
    simp only [Bool.and_eq_true, decide_eq_true_eq] at hk
    obtain ⟨⟨k0, k1⟩, k2, k3⟩ := hk
    obtain ⟨m, rfl⟩ := Int.eq_ofNat_of_zero_le k0
    rw [Int.toNat_natCast] at hcs
    have HCS := Aside0.mk hcs
    clear h hcs
    have HW1 := Aside0.mk (show impl_within.f (m : Int) 0 6 = some true by unfold impl_within.f; rw [if_pos (by omega), decide_eq_true (by omega)])
    have HW2 := Aside0.mk (show impl_within.f a3 0 9999 = some true by unfold impl_within.f; rw [if_pos (by omega), decide_eq_true (by omega)])
    have N1 := Aside0.mk (show ((w.alloc (Obj.cells #[Value.int .i64 a3] 3)).alloc (Obj.cells #[Value.int .i64 0, Value.int .i64 0, Value.slice none 0 0] 44)).heap[w.heap.size + 1]? = some (.cells #[.int .i64 0, .int .i64 0, .slice none 0 0] 44 (0, 0)) by
      have h := blk_new (w.alloc (Obj.cells #[Value.int .i64 a3] 3)) (Obj.cells #[Value.int .i64 0, Value.int .i64 0, Value.slice none 0 0] 44)
      rw [show (w.alloc (Obj.cells #[Value.int .i64 a3] 3)).heap.size = w.heap.size + 1 by simp] at h
      exact h)
    go_enter Try.func45, Try.ntmps45
    go_wp2_with (first
      | (go_at_call 55; refine (HH.out _ ?s1).mono ?_; (case s1 => repeat (first | exact Below.refl _ _ | apply below_alloc | apply pw_below_drewN | apply below_drew1)); rintro e w1 ⟨rfl, hb1⟩; have e0 : w1.heap[w.heap.size]? = some (.cells #[.int .i64 a3] 3 (0, 0)) := blk_below (by repeat (first | exact blk_new _ _ | apply blk_alloc)) hb1; have e1 : w1.heap[w.heap.size + 1]? = some (.cells #[.int .i64 0, .int .i64 0, .slice none 0 0] 44 (0, 0)) := blk_below N1.out hb1; have HB1 := Aside0.mk (show Below w.heap.size w w1 from below_step (by repeat (first | exact Below.refl _ _ | apply below_alloc)) hb1); clear hb1; have E0 := Aside0.mk e0; have E1 := Aside0.mk e1; have q0 : w1.cell? ⟨w.heap.size, 0, none⟩ = some (.int .i64 a3) := (blk_cell e0 0).trans rfl; clear e0 e1)
      | (go_at_call 75; (first | (with_reducible refine (impl_within.calls _ _ _ _ _ HW1.out).mono ?_) | (with_reducible refine (impl_within.calls _ _ _ _ _ HW2.out).mono ?_)); rintro e w' ⟨rfl, ⟨nd, rfl⟩⟩)
      | ((with_reducible refine gate_dst (N := 11) rfl ?_); refine box_event ?hg (N := 11) ?hd (cs := #[.int .i64 0, .int .i64 0, .slice none 0 0]) (t := 44) ?hr ?_; (case hd => rfl); (case hg => rfl); (case hr => first | (go_simp; done) | (go_simp; rfl)); intro bP hgP w2 hbox hb2; have F0 := Aside0.mk (blk_below (g := w.heap.size) (o := .cells #[.int .i64 a3] 3 (0, 0)) (by (with_reducible repeat (first | refine blk_drewN ?_ _ | refine blk_drew ?_)); exact E0.out) hb2); have F1 := Aside0.mk (blk_below (g := w.heap.size + 1) (o := .cells #[.int .i64 0, .int .i64 0, .slice none 0 0] 44 (0, 0)) (by (with_reducible repeat (first | refine blk_drewN ?_ _ | refine blk_drew ?_)); exact E1.out) hb2); have HB2 := Aside0.mk (below_step (by repeat (first | exact HB1.out | apply below_alloc | apply pw_below_drewN | apply below_drew1)) hb2); have hP1 : w.heap.size + 1 < bP := (by rw [hgP]; exact blk_lt E1.out); have F2 := Aside0.mk hbox; have hcz0 : w2.cell? ⟨bP, 0, none⟩ = some (.int .i64 0) := (blk_cell F2.out 0).trans rfl; have hcz1 : w2.cell? ⟨bP, 1, none⟩ = some (.int .i64 0) := (blk_cell F2.out 1).trans rfl; have hcz2 : w2.cell? ⟨bP, 2, none⟩ = some (.slice none 0 0) := (blk_cell F2.out 2).trans rfl; have hfz0 := blk_frozen F2.out 0; have hfz1 := blk_frozen F2.out 1; have hfz2 := blk_frozen F2.out 2; clear hb2 hbox hgP))
    have HI0 := Aside0.mk (show MInv w ⟨a0, (l1.length : Int), w.heap.size, w.heap.size + 1, bP⟩ a3 (.slice none 0 0) [] (((w2.setCell ⟨bP, 0, none⟩ (.int .i64 a0)).setCell ⟨bP, 1, none⟩ (.int .i64 (l1.length : Int))).setCell ⟨bP, 2, none⟩ (.slice none 0 0)) from
      ⟨Below.setCell (Below.setCell (Below.setCell HB2.out (show w.heap.size ≤ bP by omega) _) (show w.heap.size ≤ bP by omega) _) (show w.heap.size ≤ bP by omega) _,
        blk_far (blk_far (blk_far F0.out (show w.heap.size ≠ bP by omega) _) (show w.heap.size ≠ bP by omega) _) (show w.heap.size ≠ bP by omega) _,
        blk_far (blk_far (blk_far F1.out (show w.heap.size + 1 ≠ bP by omega) _) (show w.heap.size + 1 ≠ bP by omega) _) (show w.heap.size + 1 ≠ bP by omega) _,
        blk_put (cs := #[.int .i64 a0, .int .i64 (l1.length : Int), .slice none 0 0]) (blk_put (cs := #[.int .i64 a0, .int .i64 0, .slice none 0 0]) (blk_put (cs := #[.int .i64 0, .int .i64 0, .slice none 0 0]) F2.out 0 _ rfl) 1 _ rfl) 2 _ rfl,
        Kd.R_nil _ _ _ _ _, ⟨show w.heap.size ≠ w.heap.size + 1 by omega, show w.heap.size ≠ bP by omega, show w.heap.size + 1 ≠ bP by omega, Nat.le_refl _, show w.heap.size ≤ w.heap.size + 1 by omega, show w.heap.size ≤ bP by omega⟩⟩)
    go_loopw [37] (fun n wr => ∃ (j : Nat) (z : Int) (u : Value) (ds : List S31), j ≤ m ∧ n = .int .i64 j ∧ Aside0 (mkN k a0 l1 (m - j) z ds = some cs) ∧ Aside0 (ds.length = j) ∧ Aside0 (MInv w ⟨a0, (l1.length : Int), w.heap.size, w.heap.size + 1, bP⟩ z u ds wr)) (fun n _ => m - (intOf n).toNat)
    case atStart => exact ⟨0, a3, .slice none 0 0, [], Nat.zero_le _, rfl, HCS, ⟨rfl⟩, HI0⟩
    case round =>
      obtain ⟨j, z, u, ds, hj, rfl, HM, HLM, HI⟩ := hrel
      by_cases hlt : j < m
      · have l1_ : (j : Int) < (m : Int) := by omega
        obtain ⟨z1, hz1⟩ : ∃ z1_, z1_ = nxt z := ⟨_, rfl⟩
        obtain ⟨z2, hz2⟩ : ∃ z2_, z2_ = nxt z1 := ⟨_, rfl⟩
        have hM := HM.out
        rw [show m - j = (m - (j + 1)) + 1 by omega] at hM
        unfold mkN at hM
        rw [← hz1, ← hz2] at hM
        obtain ⟨v, hv, hrest⟩ := Option.bind_eq_some_iff.1 hM
        have HN1 := Aside0.mk (fun (W : World) (h : MInv w ⟨a0, (l1.length : Int), w.heap.size, w.heap.size + 1, bP⟩ z u ds W) => (show Calls Try.prog 76 #[.pointer (some ⟨w.heap.size, 0, none⟩)] W fun e w' => e = .returned (.int .i64 z1) ∧ MInv w ⟨a0, (l1.length : Int), w.heap.size, w.heap.size + 1, bP⟩ z1 u ds w' from next_c h hz1))
        have HN2 := Aside0.mk (fun (W : World) (h : MInv w ⟨a0, (l1.length : Int), w.heap.size, w.heap.size + 1, bP⟩ z1 u ds W) => (show Calls Try.prog 76 #[.pointer (some ⟨w.heap.size, 0, none⟩)] W fun e w' => e = .returned (.int .i64 z2) ∧ MInv w ⟨a0, (l1.length : Int), w.heap.size, w.heap.size + 1, bP⟩ z2 u ds w' from next_c h hz2))
        obtain ⟨kd, hKd⟩ : ∃ kd, Int.tmod z1 6 = kd := ⟨_, rfl⟩
        obtain ⟨p1, hp1⟩ : ∃ p, Int.tmod z2 a0 = p := ⟨_, rfl⟩
        obtain ⟨p2, hp2⟩ : ∃ p, Int.tmod z2 (l1.length : Int) = p := ⟨_, rfl⟩
        obtain ⟨p3, hp3⟩ : ∃ p, Int.tmod (wrap64 (Int.tdiv z2 7)) a0 = p := ⟨_, rfl⟩
        have ha0' : (a0 == (0 : Int)) = false := beq_eq_false_iff_ne.mpr ha0
        clear hM hz1 hz2
        by_cases k4 : kd = 4
        · subst k4
          by_cases hl0 : l1.length = 0
          · have hl1 : ((l1.length : Int) == (0 : Int)) = true := by rw [hl0]; rfl
            have hkk : mkKind l1 z1 = 0 := by unfold mkKind; rw [hKd]; exact if_pos ⟨rfl, hl0⟩
            have haa : mkA a0 l1 0 z2 = p1 := by unfold mkA; rw [if_pos (Or.inl rfl), hp1]
            have hbb : mkB a0 0 z2 = 0 := by unfold mkB; rw [if_neg (by decide)]
            have HT := Aside0.mk (show impl_told.f k a0 0 p1 0 l1 = some v from by have h := hv; rw [hkk, haa, hbb] at h; exact h)
            obtain ⟨ys, hys⟩ : ∃ ys_, ys_ = ds ++ [(⟨0, p1, 0, v⟩ : S31)] := ⟨_, rfl⟩
            have HRest := Aside0.mk (show mkN k a0 l1 (m - (j + 1)) z2 ys = some cs from by have h := hrest; rw [hkk, haa, hbb] at h; rw [hys]; exact h)
            have HY := Aside0.mk hys
            clear hys
            clear hv hrest hkk haa hbb
            try clear hl0
            go_wp2_with (go_at_call 76; first | (refine (HN1.out _ HI.out).mono ?_; rintro e w2_ ⟨rfl, hI2⟩; have HI2 := Aside0.mk hI2; clear hI2) | (refine (HN2.out _ HI2.out).mono ?_; rintro e w3 ⟨rfl, hI3⟩; have HI3 := Aside0.mk hI3; clear hI3))
            refine start_ (n := 16) (S := fun w' => w'.cell? ⟨bP, 2, none⟩ = some u) (ds := [15]) #[false, false, false, false, false, false, false, false, false, false, false, false, false, false, false, false] (by kernel_rfl) rfl rfl ((blk_cell HI3.out.p 2).trans rfl) (fun hHeld => ?_)
            refine with_tabW mk_tab20 mk_bits20 (fun HT_ HW_ => ?_)
            have HI4 := Aside0.mk (HI3.out.step (show Below w3.heap.size w3 w3.drew from below_drew (Below.refl _ _)))
            clear HI3
            generalize w3.drew = w4 at HI4 hHeld ⊢
            refine pure_ (i := 0) (N := some 75) (v := ?_) (a' := ?_) #[true, false, false, false, false, false, false, false, false, false, false, false, false, false, false, false] rfl rfl (any_of HT_.out (by kernel_rfl)) (fun _ _ _ h => h) (Or.inl ⟨by rfl, ?_⟩) ?_ ?_
            rotate_left
            · intro w'
              go_simp
              with_reducible rfl
            rotate_left
            · simp only [Act.put, List.setIfInBounds_toArray, List.set_cons_zero, List.set_cons_succ, i64_w, i32_w]
              rfl
            refine pure_ (i := 2) (N := some 77) (v := ?_) (a' := ?_) #[true, false, true, false, false, false, false, false, false, false, false, false, false, false, false, false] rfl rfl (any_of HT_.out (by kernel_rfl)) (fun _ _ _ h => h) (Or.inl ⟨by rfl, ?_⟩) ?_ ?_
            rotate_left
            · intro w'
              go_simp
              with_reducible rfl
            rotate_left
            · simp only [Act.put, List.setIfInBounds_toArray, List.set_cons_zero, List.set_cons_succ, i64_w, i32_w]
              rfl
            refine pure_ (i := 3) (N := some 78) (v := ?_) (a' := ?_) #[true, false, true, true, false, false, false, false, false, false, false, false, false, false, false, false] rfl rfl (any_of HT_.out (by kernel_rfl)) (fun _ _ _ h => h) (Or.inl ⟨by rfl, ?_⟩) ?_ ?_
            rotate_left
            · intro w'
              go_simp
              with_reducible rfl
            rotate_left
            · simp only [Act.put, List.setIfInBounds_toArray, List.set_cons_zero, List.set_cons_succ, i64_w, i32_w]
              rfl
            refine pure_ (i := 4) (N := some 79) (v := ?_) (a' := ?_) #[true, false, true, true, true, false, false, false, false, false, false, false, false, false, false, false] rfl rfl (any_of HT_.out (by kernel_rfl)) (fun _ _ _ h => h) (Or.inl ⟨by rfl, ?_⟩) ?_ ?_
            rotate_left
            · intro w'
              go_simp
              with_reducible rfl
            rotate_left
            · simp only [Act.put, List.setIfInBounds_toArray, List.set_cons_zero, List.set_cons_succ, i64_w, i32_w]
              rfl
            refine pure_ (i := 5) (N := some 80) (v := ?_) (a' := ?_) #[true, false, true, true, true, true, false, false, false, false, false, false, false, false, false, false] rfl rfl (any_of HT_.out (by kernel_rfl)) (fun _ _ _ h => h) (Or.inl ⟨by rfl, ?_⟩) ?_ ?_
            rotate_left
            · intro w'
              go_simp
              with_reducible rfl
            rotate_left
            · simp only [Act.put, List.setIfInBounds_toArray, List.set_cons_zero, List.set_cons_succ, i64_w, i32_w]
              rfl
            refine pure_ (i := 6) (N := some 81) (v := ?_) (a' := ?_) #[true, false, true, true, true, true, true, false, false, false, false, false, false, false, false, false] rfl rfl (any_of HT_.out (by kernel_rfl)) (fun _ _ _ h => h) (Or.inl ⟨by rfl, ?_⟩) ?_ ?_
            rotate_left
            · intro w'
              go_simp
              with_reducible rfl
            rotate_left
            · simp only [Act.put, List.setIfInBounds_toArray, List.set_cons_zero, List.set_cons_succ, i64_w, i32_w]
              rfl
            refine pure_ (i := 7) (N := some 82) (v := ?_) (a' := ?_) #[true, false, true, true, true, true, true, true, false, false, false, false, false, false, false, false] rfl rfl (any_of HT_.out (by kernel_rfl)) (fun _ _ _ h => h) (Or.inl ⟨by rfl, ?_⟩) ?_ ?_
            rotate_left
            · intro w'
              go_simp
              with_reducible rfl
            rotate_left
            · simp only [Act.put, List.setIfInBounds_toArray, List.set_cons_zero, List.set_cons_succ, i64_w, i32_w]
              rfl
            refine pure_ (i := 8) (N := some 83) (v := ?_) (a' := ?_) #[true, false, true, true, true, true, true, true, true, false, false, false, false, false, false, false] rfl rfl (any_of HT_.out (by kernel_rfl)) (fun _ _ _ h => h) (Or.inl ⟨by rfl, ?_⟩) ?_ ?_
            rotate_left
            · intro w'
              go_simp
              with_reducible rfl
            rotate_left
            · simp only [Act.put, List.setIfInBounds_toArray, List.set_cons_zero, List.set_cons_succ, i64_w, i32_w]
              rfl
            refine pure_ (i := 9) (N := some 84) (v := ?_) (a' := ?_) #[true, false, true, true, true, true, true, true, true, true, false, false, false, false, false, false] rfl rfl (any_of HT_.out (by kernel_rfl)) (fun _ _ _ h => h) (Or.inl ⟨by rfl, ?_⟩) ?_ ?_
            rotate_left
            · intro w'
              go_simp
              with_reducible rfl
            rotate_left
            · simp only [Act.put, List.setIfInBounds_toArray, List.set_cons_zero, List.set_cons_succ, i64_w, i32_w]
              rfl
            refine take_ (i := 1) (N := some 76) (v := ?_) (a' := ?_) #[true, true, true, true, true, true, true, true, true, true, false, false, false, false, false, false] rfl rfl (take_ofW HT_.out HW_.out (by kernel_rfl)) (fun _ _ _ h => h) (Or.inl ⟨by rfl, ?_⟩) hHeld ?_ ?_
            rotate_left
            · intro w' s0
              go_simp
              with_reducible rfl
            rotate_left
            · simp only [Act.put, List.setIfInBounds_toArray, List.set_cons_zero, List.set_cons_succ, i64_w, i32_w]
              rfl
            refine one_ (i := 10) (N := some 85) #[true, true, true, true, true, true, true, true, true, true, true, false, false, false, false, false] rfl rfl (one_of HT_.out (by kernel_rfl)) (by decide) (fun K hK => ?_)
            refine goes_ Try.func77 (by kernel_rfl) rfl #[.int .i64 a0, .int .i64 0, .int .i64 p1, .int .i64 0, .slice A1 l1.length c1] (by rfl) rfl rfl (by (try simp only [List.map_toArray, List.map_cons, List.map_nil]); first | done | rfl) ?_
            with_reducible refine (impl_told.calls k a0 0 p1 0 _ _ l1 v w4 (Kd.C_below HR1.out HI4.out.below) HC1.out HT.out).mono ?_
            rintro e w5 ⟨rfl, hb⟩
            refine ⟨_, rfl, ?_⟩
            have HI5 := Aside0.mk (HI4.out.step hb)
            clear hb HI4
            refine hK.out _ _ ((blk_cell HI5.out.p 2).trans rfl) (fun hHeld => ?_)
            clear hK K
            refine norm_ (a' := ?_) ?_ ?_
            rotate_left
            · show Act.put _ (some 85) _ = _
              simp only [Act.put, List.setIfInBounds_toArray, List.set_cons_zero, List.set_cons_succ, i64_w, i32_w]
              rfl
            refine pure_ (i := 11) (N := some 86) (v := ?_) (a' := ?_) #[true, true, true, true, true, true, true, true, true, true, true, true, false, false, false, false] rfl rfl (any_of HT_.out (by kernel_rfl)) (fun _ _ _ h => h) (Or.inl ⟨by rfl, ?_⟩) ?_ ?_
            rotate_left
            · intro w'
              go_simp
              with_reducible rfl
            rotate_left
            · simp only [Act.put, List.setIfInBounds_toArray, List.set_cons_zero, List.set_cons_succ, i64_w, i32_w]
              rfl
            refine one_ (i := 12) (N := some 87) #[true, true, true, true, true, true, true, true, true, true, true, true, true, false, false, false] rfl rfl (one_of HT_.out (by kernel_rfl)) (by decide) (fun K hK => ?_)
            refine value_ (w1 := ?_) (v := ?_) (by rfl) rfl ?_ ?_
            rotate_left 2
            · go_simp
              constructor
              · rfl
              · rfl
            refine hK.out _ _ ((blk_cell (blk_alloc HI5.out.p _) 2).trans rfl) (fun hHeld => ?_)
            clear hK K
            refine norm_ (a' := ?_) ?_ ?_
            rotate_left
            · show Act.put _ (some 87) _ = _
              simp only [Act.put, List.setIfInBounds_toArray, List.set_cons_zero, List.set_cons_succ, i64_w, i32_w]
              rfl
            refine one_ (i := 13) (N := some 88) #[true, true, true, true, true, true, true, true, true, true, true, true, true, true, false, false] rfl rfl (one_of HT_.out (by kernel_rfl)) (by decide) (fun K hK => ?_)
            refine Kd.R_append_step k31 (w0 := w) w.heap.size (by rfl) (.tmp 76) (.tmp 87) 42 31 (.agg #[(.int .i64 0), (.int .i64 0), (.int .i64 0), (.int .i64 0)]) 32 rfl Try.underlying42 infClue4 rfl (by decide) (by omega) u ds (⟨0, p1, 0, v⟩ : S31) [.int .i64 0, .int .i64 p1, .int .i64 0, .int .i64 v] (fun _ => True) (fun _ => False) rfl rfl ?aP (fun _ hk => hk.elim) ?aF ?aO ?aB ?aS ?aL ?_
            case aP => exact k31_mkM _ _ _ (⟨0, p1, 0, v⟩ : S31)
            case aB => exact HI5.out.below
            case aF => exact (fun _ _ => trivial)
            case aO => exact HI5.out.o
            case aS => exact HI5.out.below.size
            case aL => have := HLM.out; omega
            intro v1 w6 ho hb hg hat
            rw [← HY.out] at ho
            have HX := Aside0.mk (HI5.out.put hg hb ho)
            have HP6 := Aside0.mk (blk_grown HI5.out.p hg (Kd.R_ne HI5.out.o HI5.out.p (by decide)))
            obtain ⟨A7, c7, rfl⟩ := Kd.R_slice ho
            clear ho hb hg hat HI5
            refine hK.out _ _ ((blk_cell HP6.out 2).trans rfl) (fun hHeld => ?_)
            clear hK K
            refine norm_ (a' := ?_) ?_ ?_
            rotate_left
            · show Act.put _ (some 88) _ = _
              simp only [Act.put, List.setIfInBounds_toArray, List.set_cons_zero, List.set_cons_succ, i64_w, i32_w]
              rfl
            refine pure_ (i := 14) (N := some 89) (v := ?_) (a' := ?_) #[true, true, true, true, true, true, true, true, true, true, true, true, true, true, true, false] rfl rfl (any_of HT_.out (by kernel_rfl)) (fun _ _ _ h => h) (Or.inl ⟨by rfl, ?_⟩) ?_ ?_
            rotate_left
            · intro w'
              go_simp
              with_reducible rfl
            rotate_left
            · simp only [Act.put, List.setIfInBounds_toArray, List.set_cons_zero, List.set_cons_succ, i64_w, i32_w]
              rfl
            refine last_ (i := 15) (N := none) #[true, true, true, true, true, true, true, true, true, true, true, true, true, true, true, true] rfl rfl (one_of HT_.out (by kernel_rfl)) (by decide) (fun K hK => ?_)
            have hs29 : w6.cell? ⟨bP, 2, none⟩ = some u := (blk_cell HP6.out 2).trans rfl
            have hfs29 := blk_frozen HP6.out 2
            refine skip_ (w1 := ?_) (by rfl) rfl ?_ ?_
            rotate_left
            · go_simp
              rfl
            refine hK.out _ _ ?_
            clear hK K
            refine done_ (done_of HT_.out (by kernel_rfl)) ?_
            try go_wp2
            go_roundw
            case rel => exact ⟨j + 1, z2, _, ys, by omega, by go_num, HRest, ⟨by rw [HY.out, List.length_append, HLM.out]; rfl⟩, HX⟩
            case measure => simp [intOf]; omega
          · have hl1 : ((l1.length : Int) == (0 : Int)) = false := beq_eq_false_iff_ne.mpr (by omega)
            have hl2 : ¬ (l1.length : Int) = 0 := by omega
            have hkk : mkKind l1 z1 = 4 := by unfold mkKind; rw [hKd]; exact if_neg (fun h => hl0 h.2)
            have haa : mkA a0 l1 4 z2 = p2 := by unfold mkA; rw [if_neg (by decide), if_pos rfl, hp2]
            have hbb : mkB a0 4 z2 = p3 := by unfold mkB; rw [if_pos (Or.inr rfl), hp3]
            have HT := Aside0.mk (show impl_told.f k a0 4 p2 p3 l1 = some v from by have h := hv; rw [hkk, haa, hbb] at h; exact h)
            obtain ⟨ys, hys⟩ : ∃ ys_, ys_ = ds ++ [(⟨4, p2, p3, v⟩ : S31)] := ⟨_, rfl⟩
            have HRest := Aside0.mk (show mkN k a0 l1 (m - (j + 1)) z2 ys = some cs from by have h := hrest; rw [hkk, haa, hbb] at h; rw [hys]; exact h)
            have HY := Aside0.mk hys
            clear hys
            clear hv hrest hkk haa hbb
            try clear hl0
            go_wp2_with (go_at_call 76; first | (refine (HN1.out _ HI.out).mono ?_; rintro e w2_ ⟨rfl, hI2⟩; have HI2 := Aside0.mk hI2; clear hI2) | (refine (HN2.out _ HI2.out).mono ?_; rintro e w3 ⟨rfl, hI3⟩; have HI3 := Aside0.mk hI3; clear hI3))
            refine start_ (n := 16) (S := fun w' => w'.cell? ⟨bP, 2, none⟩ = some u) (ds := [15]) #[false, false, false, false, false, false, false, false, false, false, false, false, false, false, false, false] (by kernel_rfl) rfl rfl ((blk_cell HI3.out.p 2).trans rfl) (fun hHeld => ?_)
            refine with_tabW mk_tab20 mk_bits20 (fun HT_ HW_ => ?_)
            have HI4 := Aside0.mk (HI3.out.step (show Below w3.heap.size w3 w3.drew from below_drew (Below.refl _ _)))
            clear HI3
            generalize w3.drew = w4 at HI4 hHeld ⊢
            refine pure_ (i := 0) (N := some 75) (v := ?_) (a' := ?_) #[true, false, false, false, false, false, false, false, false, false, false, false, false, false, false, false] rfl rfl (any_of HT_.out (by kernel_rfl)) (fun _ _ _ h => h) (Or.inl ⟨by rfl, ?_⟩) ?_ ?_
            rotate_left
            · intro w'
              go_simp
              with_reducible rfl
            rotate_left
            · simp only [Act.put, List.setIfInBounds_toArray, List.set_cons_zero, List.set_cons_succ, i64_w, i32_w]
              rfl
            refine pure_ (i := 2) (N := some 77) (v := ?_) (a' := ?_) #[true, false, true, false, false, false, false, false, false, false, false, false, false, false, false, false] rfl rfl (any_of HT_.out (by kernel_rfl)) (fun _ _ _ h => h) (Or.inl ⟨by rfl, ?_⟩) ?_ ?_
            rotate_left
            · intro w'
              go_simp
              with_reducible rfl
            rotate_left
            · simp only [Act.put, List.setIfInBounds_toArray, List.set_cons_zero, List.set_cons_succ, i64_w, i32_w]
              rfl
            refine pure_ (i := 3) (N := some 78) (v := ?_) (a' := ?_) #[true, false, true, true, false, false, false, false, false, false, false, false, false, false, false, false] rfl rfl (any_of HT_.out (by kernel_rfl)) (fun _ _ _ h => h) (Or.inl ⟨by rfl, ?_⟩) ?_ ?_
            rotate_left
            · intro w'
              go_simp
              with_reducible rfl
            rotate_left
            · simp only [Act.put, List.setIfInBounds_toArray, List.set_cons_zero, List.set_cons_succ, i64_w, i32_w]
              rfl
            refine pure_ (i := 4) (N := some 79) (v := ?_) (a' := ?_) #[true, false, true, true, true, false, false, false, false, false, false, false, false, false, false, false] rfl rfl (any_of HT_.out (by kernel_rfl)) (fun _ _ _ h => h) (Or.inl ⟨by rfl, ?_⟩) ?_ ?_
            rotate_left
            · intro w'
              go_simp
              with_reducible rfl
            rotate_left
            · simp only [Act.put, List.setIfInBounds_toArray, List.set_cons_zero, List.set_cons_succ, i64_w, i32_w]
              rfl
            refine pure_ (i := 5) (N := some 80) (v := ?_) (a' := ?_) #[true, false, true, true, true, true, false, false, false, false, false, false, false, false, false, false] rfl rfl (any_of HT_.out (by kernel_rfl)) (fun _ _ _ h => h) (Or.inl ⟨by rfl, ?_⟩) ?_ ?_
            rotate_left
            · intro w'
              go_simp
              with_reducible rfl
            rotate_left
            · simp only [Act.put, List.setIfInBounds_toArray, List.set_cons_zero, List.set_cons_succ, i64_w, i32_w]
              rfl
            refine pure_ (i := 6) (N := some 81) (v := ?_) (a' := ?_) #[true, false, true, true, true, true, true, false, false, false, false, false, false, false, false, false] rfl rfl (any_of HT_.out (by kernel_rfl)) (fun _ _ _ h => h) (Or.inl ⟨by rfl, ?_⟩) ?_ ?_
            rotate_left
            · intro w'
              go_simp
              with_reducible rfl
            rotate_left
            · simp only [Act.put, List.setIfInBounds_toArray, List.set_cons_zero, List.set_cons_succ, i64_w, i32_w]
              rfl
            refine pure_ (i := 7) (N := some 82) (v := ?_) (a' := ?_) #[true, false, true, true, true, true, true, true, false, false, false, false, false, false, false, false] rfl rfl (any_of HT_.out (by kernel_rfl)) (fun _ _ _ h => h) (Or.inl ⟨by rfl, ?_⟩) ?_ ?_
            rotate_left
            · intro w'
              go_simp
              with_reducible rfl
            rotate_left
            · simp only [Act.put, List.setIfInBounds_toArray, List.set_cons_zero, List.set_cons_succ, i64_w, i32_w]
              rfl
            refine pure_ (i := 8) (N := some 83) (v := ?_) (a' := ?_) #[true, false, true, true, true, true, true, true, true, false, false, false, false, false, false, false] rfl rfl (any_of HT_.out (by kernel_rfl)) (fun _ _ _ h => h) (Or.inl ⟨by rfl, ?_⟩) ?_ ?_
            rotate_left
            · intro w'
              go_simp
              with_reducible rfl
            rotate_left
            · simp only [Act.put, List.setIfInBounds_toArray, List.set_cons_zero, List.set_cons_succ, i64_w, i32_w]
              rfl
            refine pure_ (i := 9) (N := some 84) (v := ?_) (a' := ?_) #[true, false, true, true, true, true, true, true, true, true, false, false, false, false, false, false] rfl rfl (any_of HT_.out (by kernel_rfl)) (fun _ _ _ h => h) (Or.inl ⟨by rfl, ?_⟩) ?_ ?_
            rotate_left
            · intro w'
              go_simp
              with_reducible rfl
            rotate_left
            · simp only [Act.put, List.setIfInBounds_toArray, List.set_cons_zero, List.set_cons_succ, i64_w, i32_w]
              rfl
            refine take_ (i := 1) (N := some 76) (v := ?_) (a' := ?_) #[true, true, true, true, true, true, true, true, true, true, false, false, false, false, false, false] rfl rfl (take_ofW HT_.out HW_.out (by kernel_rfl)) (fun _ _ _ h => h) (Or.inl ⟨by rfl, ?_⟩) hHeld ?_ ?_
            rotate_left
            · intro w' s0
              go_simp
              with_reducible rfl
            rotate_left
            · simp only [Act.put, List.setIfInBounds_toArray, List.set_cons_zero, List.set_cons_succ, i64_w, i32_w]
              rfl
            refine one_ (i := 10) (N := some 85) #[true, true, true, true, true, true, true, true, true, true, true, false, false, false, false, false] rfl rfl (one_of HT_.out (by kernel_rfl)) (by decide) (fun K hK => ?_)
            refine goes_ Try.func77 (by kernel_rfl) rfl #[.int .i64 a0, .int .i64 4, .int .i64 p2, .int .i64 p3, .slice A1 l1.length c1] (by rfl) rfl rfl (by (try simp only [List.map_toArray, List.map_cons, List.map_nil]); first | done | rfl) ?_
            with_reducible refine (impl_told.calls k a0 4 p2 p3 _ _ l1 v w4 (Kd.C_below HR1.out HI4.out.below) HC1.out HT.out).mono ?_
            rintro e w5 ⟨rfl, hb⟩
            refine ⟨_, rfl, ?_⟩
            have HI5 := Aside0.mk (HI4.out.step hb)
            clear hb HI4
            refine hK.out _ _ ((blk_cell HI5.out.p 2).trans rfl) (fun hHeld => ?_)
            clear hK K
            refine norm_ (a' := ?_) ?_ ?_
            rotate_left
            · show Act.put _ (some 85) _ = _
              simp only [Act.put, List.setIfInBounds_toArray, List.set_cons_zero, List.set_cons_succ, i64_w, i32_w]
              rfl
            refine pure_ (i := 11) (N := some 86) (v := ?_) (a' := ?_) #[true, true, true, true, true, true, true, true, true, true, true, true, false, false, false, false] rfl rfl (any_of HT_.out (by kernel_rfl)) (fun _ _ _ h => h) (Or.inl ⟨by rfl, ?_⟩) ?_ ?_
            rotate_left
            · intro w'
              go_simp
              with_reducible rfl
            rotate_left
            · simp only [Act.put, List.setIfInBounds_toArray, List.set_cons_zero, List.set_cons_succ, i64_w, i32_w]
              rfl
            refine one_ (i := 12) (N := some 87) #[true, true, true, true, true, true, true, true, true, true, true, true, true, false, false, false] rfl rfl (one_of HT_.out (by kernel_rfl)) (by decide) (fun K hK => ?_)
            refine value_ (w1 := ?_) (v := ?_) (by rfl) rfl ?_ ?_
            rotate_left 2
            · go_simp
              constructor
              · rfl
              · rfl
            refine hK.out _ _ ((blk_cell (blk_alloc HI5.out.p _) 2).trans rfl) (fun hHeld => ?_)
            clear hK K
            refine norm_ (a' := ?_) ?_ ?_
            rotate_left
            · show Act.put _ (some 87) _ = _
              simp only [Act.put, List.setIfInBounds_toArray, List.set_cons_zero, List.set_cons_succ, i64_w, i32_w]
              rfl
            refine one_ (i := 13) (N := some 88) #[true, true, true, true, true, true, true, true, true, true, true, true, true, true, false, false] rfl rfl (one_of HT_.out (by kernel_rfl)) (by decide) (fun K hK => ?_)
            refine Kd.R_append_step k31 (w0 := w) w.heap.size (by rfl) (.tmp 76) (.tmp 87) 42 31 (.agg #[(.int .i64 0), (.int .i64 0), (.int .i64 0), (.int .i64 0)]) 32 rfl Try.underlying42 infClue4 rfl (by decide) (by omega) u ds (⟨4, p2, p3, v⟩ : S31) [.int .i64 4, .int .i64 p2, .int .i64 p3, .int .i64 v] (fun _ => True) (fun _ => False) rfl rfl ?aP (fun _ hk => hk.elim) ?aF ?aO ?aB ?aS ?aL ?_
            case aP => exact k31_mkM _ _ _ (⟨4, p2, p3, v⟩ : S31)
            case aB => exact HI5.out.below
            case aF => exact (fun _ _ => trivial)
            case aO => exact HI5.out.o
            case aS => exact HI5.out.below.size
            case aL => have := HLM.out; omega
            intro v1 w6 ho hb hg hat
            rw [← HY.out] at ho
            have HX := Aside0.mk (HI5.out.put hg hb ho)
            have HP6 := Aside0.mk (blk_grown HI5.out.p hg (Kd.R_ne HI5.out.o HI5.out.p (by decide)))
            obtain ⟨A7, c7, rfl⟩ := Kd.R_slice ho
            clear ho hb hg hat HI5
            refine hK.out _ _ ((blk_cell HP6.out 2).trans rfl) (fun hHeld => ?_)
            clear hK K
            refine norm_ (a' := ?_) ?_ ?_
            rotate_left
            · show Act.put _ (some 88) _ = _
              simp only [Act.put, List.setIfInBounds_toArray, List.set_cons_zero, List.set_cons_succ, i64_w, i32_w]
              rfl
            refine pure_ (i := 14) (N := some 89) (v := ?_) (a' := ?_) #[true, true, true, true, true, true, true, true, true, true, true, true, true, true, true, false] rfl rfl (any_of HT_.out (by kernel_rfl)) (fun _ _ _ h => h) (Or.inl ⟨by rfl, ?_⟩) ?_ ?_
            rotate_left
            · intro w'
              go_simp
              with_reducible rfl
            rotate_left
            · simp only [Act.put, List.setIfInBounds_toArray, List.set_cons_zero, List.set_cons_succ, i64_w, i32_w]
              rfl
            refine last_ (i := 15) (N := none) #[true, true, true, true, true, true, true, true, true, true, true, true, true, true, true, true] rfl rfl (one_of HT_.out (by kernel_rfl)) (by decide) (fun K hK => ?_)
            have hs29 : w6.cell? ⟨bP, 2, none⟩ = some u := (blk_cell HP6.out 2).trans rfl
            have hfs29 := blk_frozen HP6.out 2
            refine skip_ (w1 := ?_) (by rfl) rfl ?_ ?_
            rotate_left
            · go_simp
              rfl
            refine hK.out _ _ ?_
            clear hK K
            refine done_ (done_of HT_.out (by kernel_rfl)) ?_
            try go_wp2
            go_roundw
            case rel => exact ⟨j + 1, z2, _, ys, by omega, by go_num, HRest, ⟨by rw [HY.out, List.length_append, HLM.out]; rfl⟩, HX⟩
            case measure => simp [intOf]; omega
        · have hkk0 : mkKind l1 z1 = kd := by unfold mkKind; rw [hKd]; exact if_neg (fun h => k4 h.1)
          by_cases k0 : kd = 0
          · subst k0
            have hkk : mkKind l1 z1 = 0 := hkk0
            have haa : mkA a0 l1 0 z2 = p1 := by unfold mkA; rw [if_pos (by decide), hp1]
            have hbb : mkB a0 0 z2 = 0 := by unfold mkB; rw [if_neg (by decide)]
            have HT := Aside0.mk (show impl_told.f k a0 0 p1 0 l1 = some v from by have h := hv; rw [hkk, haa, hbb] at h; exact h)
            obtain ⟨ys, hys⟩ : ∃ ys_, ys_ = ds ++ [(⟨0, p1, 0, v⟩ : S31)] := ⟨_, rfl⟩
            have HRest := Aside0.mk (show mkN k a0 l1 (m - (j + 1)) z2 ys = some cs from by have h := hrest; rw [hkk, haa, hbb] at h; rw [hys]; exact h)
            have HY := Aside0.mk hys
            clear hys
            clear hv hrest hkk haa hbb
            try clear hl0
            go_wp2_with (go_at_call 76; first | (refine (HN1.out _ HI.out).mono ?_; rintro e w2_ ⟨rfl, hI2⟩; have HI2 := Aside0.mk hI2; clear hI2) | (refine (HN2.out _ HI2.out).mono ?_; rintro e w3 ⟨rfl, hI3⟩; have HI3 := Aside0.mk hI3; clear hI3))
            refine start_ (n := 16) (S := fun w' => w'.cell? ⟨bP, 2, none⟩ = some u) (ds := [15]) #[false, false, false, false, false, false, false, false, false, false, false, false, false, false, false, false] (by kernel_rfl) rfl rfl ((blk_cell HI3.out.p 2).trans rfl) (fun hHeld => ?_)
            refine with_tabW mk_tab20 mk_bits20 (fun HT_ HW_ => ?_)
            have HI4 := Aside0.mk (HI3.out.step (show Below w3.heap.size w3 w3.drew from below_drew (Below.refl _ _)))
            clear HI3
            generalize w3.drew = w4 at HI4 hHeld ⊢
            refine pure_ (i := 0) (N := some 75) (v := ?_) (a' := ?_) #[true, false, false, false, false, false, false, false, false, false, false, false, false, false, false, false] rfl rfl (any_of HT_.out (by kernel_rfl)) (fun _ _ _ h => h) (Or.inl ⟨by rfl, ?_⟩) ?_ ?_
            rotate_left
            · intro w'
              go_simp
              with_reducible rfl
            rotate_left
            · simp only [Act.put, List.setIfInBounds_toArray, List.set_cons_zero, List.set_cons_succ, i64_w, i32_w]
              rfl
            refine pure_ (i := 2) (N := some 77) (v := ?_) (a' := ?_) #[true, false, true, false, false, false, false, false, false, false, false, false, false, false, false, false] rfl rfl (any_of HT_.out (by kernel_rfl)) (fun _ _ _ h => h) (Or.inl ⟨by rfl, ?_⟩) ?_ ?_
            rotate_left
            · intro w'
              go_simp
              with_reducible rfl
            rotate_left
            · simp only [Act.put, List.setIfInBounds_toArray, List.set_cons_zero, List.set_cons_succ, i64_w, i32_w]
              rfl
            refine pure_ (i := 3) (N := some 78) (v := ?_) (a' := ?_) #[true, false, true, true, false, false, false, false, false, false, false, false, false, false, false, false] rfl rfl (any_of HT_.out (by kernel_rfl)) (fun _ _ _ h => h) (Or.inl ⟨by rfl, ?_⟩) ?_ ?_
            rotate_left
            · intro w'
              go_simp
              with_reducible rfl
            rotate_left
            · simp only [Act.put, List.setIfInBounds_toArray, List.set_cons_zero, List.set_cons_succ, i64_w, i32_w]
              rfl
            refine pure_ (i := 4) (N := some 79) (v := ?_) (a' := ?_) #[true, false, true, true, true, false, false, false, false, false, false, false, false, false, false, false] rfl rfl (any_of HT_.out (by kernel_rfl)) (fun _ _ _ h => h) (Or.inl ⟨by rfl, ?_⟩) ?_ ?_
            rotate_left
            · intro w'
              go_simp
              with_reducible rfl
            rotate_left
            · simp only [Act.put, List.setIfInBounds_toArray, List.set_cons_zero, List.set_cons_succ, i64_w, i32_w]
              rfl
            refine pure_ (i := 5) (N := some 80) (v := ?_) (a' := ?_) #[true, false, true, true, true, true, false, false, false, false, false, false, false, false, false, false] rfl rfl (any_of HT_.out (by kernel_rfl)) (fun _ _ _ h => h) (Or.inl ⟨by rfl, ?_⟩) ?_ ?_
            rotate_left
            · intro w'
              go_simp
              with_reducible rfl
            rotate_left
            · simp only [Act.put, List.setIfInBounds_toArray, List.set_cons_zero, List.set_cons_succ, i64_w, i32_w]
              rfl
            refine pure_ (i := 6) (N := some 81) (v := ?_) (a' := ?_) #[true, false, true, true, true, true, true, false, false, false, false, false, false, false, false, false] rfl rfl (any_of HT_.out (by kernel_rfl)) (fun _ _ _ h => h) (Or.inl ⟨by rfl, ?_⟩) ?_ ?_
            rotate_left
            · intro w'
              go_simp
              with_reducible rfl
            rotate_left
            · simp only [Act.put, List.setIfInBounds_toArray, List.set_cons_zero, List.set_cons_succ, i64_w, i32_w]
              rfl
            refine pure_ (i := 7) (N := some 82) (v := ?_) (a' := ?_) #[true, false, true, true, true, true, true, true, false, false, false, false, false, false, false, false] rfl rfl (any_of HT_.out (by kernel_rfl)) (fun _ _ _ h => h) (Or.inl ⟨by rfl, ?_⟩) ?_ ?_
            rotate_left
            · intro w'
              go_simp
              with_reducible rfl
            rotate_left
            · simp only [Act.put, List.setIfInBounds_toArray, List.set_cons_zero, List.set_cons_succ, i64_w, i32_w]
              rfl
            refine pure_ (i := 8) (N := some 83) (v := ?_) (a' := ?_) #[true, false, true, true, true, true, true, true, true, false, false, false, false, false, false, false] rfl rfl (any_of HT_.out (by kernel_rfl)) (fun _ _ _ h => h) (Or.inl ⟨by rfl, ?_⟩) ?_ ?_
            rotate_left
            · intro w'
              go_simp
              with_reducible rfl
            rotate_left
            · simp only [Act.put, List.setIfInBounds_toArray, List.set_cons_zero, List.set_cons_succ, i64_w, i32_w]
              rfl
            refine pure_ (i := 9) (N := some 84) (v := ?_) (a' := ?_) #[true, false, true, true, true, true, true, true, true, true, false, false, false, false, false, false] rfl rfl (any_of HT_.out (by kernel_rfl)) (fun _ _ _ h => h) (Or.inl ⟨by rfl, ?_⟩) ?_ ?_
            rotate_left
            · intro w'
              go_simp
              with_reducible rfl
            rotate_left
            · simp only [Act.put, List.setIfInBounds_toArray, List.set_cons_zero, List.set_cons_succ, i64_w, i32_w]
              rfl
            refine take_ (i := 1) (N := some 76) (v := ?_) (a' := ?_) #[true, true, true, true, true, true, true, true, true, true, false, false, false, false, false, false] rfl rfl (take_ofW HT_.out HW_.out (by kernel_rfl)) (fun _ _ _ h => h) (Or.inl ⟨by rfl, ?_⟩) hHeld ?_ ?_
            rotate_left
            · intro w' s0
              go_simp
              with_reducible rfl
            rotate_left
            · simp only [Act.put, List.setIfInBounds_toArray, List.set_cons_zero, List.set_cons_succ, i64_w, i32_w]
              rfl
            refine one_ (i := 10) (N := some 85) #[true, true, true, true, true, true, true, true, true, true, true, false, false, false, false, false] rfl rfl (one_of HT_.out (by kernel_rfl)) (by decide) (fun K hK => ?_)
            refine goes_ Try.func77 (by kernel_rfl) rfl #[.int .i64 a0, .int .i64 0, .int .i64 p1, .int .i64 0, .slice A1 l1.length c1] (by rfl) rfl rfl (by (try simp only [List.map_toArray, List.map_cons, List.map_nil]); first | done | rfl) ?_
            with_reducible refine (impl_told.calls k a0 0 p1 0 _ _ l1 v w4 (Kd.C_below HR1.out HI4.out.below) HC1.out HT.out).mono ?_
            rintro e w5 ⟨rfl, hb⟩
            refine ⟨_, rfl, ?_⟩
            have HI5 := Aside0.mk (HI4.out.step hb)
            clear hb HI4
            refine hK.out _ _ ((blk_cell HI5.out.p 2).trans rfl) (fun hHeld => ?_)
            clear hK K
            refine norm_ (a' := ?_) ?_ ?_
            rotate_left
            · show Act.put _ (some 85) _ = _
              simp only [Act.put, List.setIfInBounds_toArray, List.set_cons_zero, List.set_cons_succ, i64_w, i32_w]
              rfl
            refine pure_ (i := 11) (N := some 86) (v := ?_) (a' := ?_) #[true, true, true, true, true, true, true, true, true, true, true, true, false, false, false, false] rfl rfl (any_of HT_.out (by kernel_rfl)) (fun _ _ _ h => h) (Or.inl ⟨by rfl, ?_⟩) ?_ ?_
            rotate_left
            · intro w'
              go_simp
              with_reducible rfl
            rotate_left
            · simp only [Act.put, List.setIfInBounds_toArray, List.set_cons_zero, List.set_cons_succ, i64_w, i32_w]
              rfl
            refine one_ (i := 12) (N := some 87) #[true, true, true, true, true, true, true, true, true, true, true, true, true, false, false, false] rfl rfl (one_of HT_.out (by kernel_rfl)) (by decide) (fun K hK => ?_)
            refine value_ (w1 := ?_) (v := ?_) (by rfl) rfl ?_ ?_
            rotate_left 2
            · go_simp
              constructor
              · rfl
              · rfl
            refine hK.out _ _ ((blk_cell (blk_alloc HI5.out.p _) 2).trans rfl) (fun hHeld => ?_)
            clear hK K
            refine norm_ (a' := ?_) ?_ ?_
            rotate_left
            · show Act.put _ (some 87) _ = _
              simp only [Act.put, List.setIfInBounds_toArray, List.set_cons_zero, List.set_cons_succ, i64_w, i32_w]
              rfl
            refine one_ (i := 13) (N := some 88) #[true, true, true, true, true, true, true, true, true, true, true, true, true, true, false, false] rfl rfl (one_of HT_.out (by kernel_rfl)) (by decide) (fun K hK => ?_)
            refine Kd.R_append_step k31 (w0 := w) w.heap.size (by rfl) (.tmp 76) (.tmp 87) 42 31 (.agg #[(.int .i64 0), (.int .i64 0), (.int .i64 0), (.int .i64 0)]) 32 rfl Try.underlying42 infClue4 rfl (by decide) (by omega) u ds (⟨0, p1, 0, v⟩ : S31) [.int .i64 0, .int .i64 p1, .int .i64 0, .int .i64 v] (fun _ => True) (fun _ => False) rfl rfl ?aP (fun _ hk => hk.elim) ?aF ?aO ?aB ?aS ?aL ?_
            case aP => exact k31_mkM _ _ _ (⟨0, p1, 0, v⟩ : S31)
            case aB => exact HI5.out.below
            case aF => exact (fun _ _ => trivial)
            case aO => exact HI5.out.o
            case aS => exact HI5.out.below.size
            case aL => have := HLM.out; omega
            intro v1 w6 ho hb hg hat
            rw [← HY.out] at ho
            have HX := Aside0.mk (HI5.out.put hg hb ho)
            have HP6 := Aside0.mk (blk_grown HI5.out.p hg (Kd.R_ne HI5.out.o HI5.out.p (by decide)))
            obtain ⟨A7, c7, rfl⟩ := Kd.R_slice ho
            clear ho hb hg hat HI5
            refine hK.out _ _ ((blk_cell HP6.out 2).trans rfl) (fun hHeld => ?_)
            clear hK K
            refine norm_ (a' := ?_) ?_ ?_
            rotate_left
            · show Act.put _ (some 88) _ = _
              simp only [Act.put, List.setIfInBounds_toArray, List.set_cons_zero, List.set_cons_succ, i64_w, i32_w]
              rfl
            refine pure_ (i := 14) (N := some 89) (v := ?_) (a' := ?_) #[true, true, true, true, true, true, true, true, true, true, true, true, true, true, true, false] rfl rfl (any_of HT_.out (by kernel_rfl)) (fun _ _ _ h => h) (Or.inl ⟨by rfl, ?_⟩) ?_ ?_
            rotate_left
            · intro w'
              go_simp
              with_reducible rfl
            rotate_left
            · simp only [Act.put, List.setIfInBounds_toArray, List.set_cons_zero, List.set_cons_succ, i64_w, i32_w]
              rfl
            refine last_ (i := 15) (N := none) #[true, true, true, true, true, true, true, true, true, true, true, true, true, true, true, true] rfl rfl (one_of HT_.out (by kernel_rfl)) (by decide) (fun K hK => ?_)
            have hs29 : w6.cell? ⟨bP, 2, none⟩ = some u := (blk_cell HP6.out 2).trans rfl
            have hfs29 := blk_frozen HP6.out 2
            refine skip_ (w1 := ?_) (by rfl) rfl ?_ ?_
            rotate_left
            · go_simp
              rfl
            refine hK.out _ _ ?_
            clear hK K
            refine done_ (done_of HT_.out (by kernel_rfl)) ?_
            try go_wp2
            go_roundw
            case rel => exact ⟨j + 1, z2, _, ys, by omega, by go_num, HRest, ⟨by rw [HY.out, List.length_append, HLM.out]; rfl⟩, HX⟩
            case measure => simp [intOf]; omega
          · have n0 : (kd == (0 : Int)) = false := beq_eq_false_iff_ne.mpr k0
            by_cases k1 : kd = 1
            · subst k1
              have hkk : mkKind l1 z1 = 1 := hkk0
              have haa : mkA a0 l1 1 z2 = p1 := by unfold mkA; rw [if_pos (by decide), hp1]
              have hbb : mkB a0 1 z2 = 0 := by unfold mkB; rw [if_neg (by decide)]
              have HT := Aside0.mk (show impl_told.f k a0 1 p1 0 l1 = some v from by have h := hv; rw [hkk, haa, hbb] at h; exact h)
              obtain ⟨ys, hys⟩ : ∃ ys_, ys_ = ds ++ [(⟨1, p1, 0, v⟩ : S31)] := ⟨_, rfl⟩
              have HRest := Aside0.mk (show mkN k a0 l1 (m - (j + 1)) z2 ys = some cs from by have h := hrest; rw [hkk, haa, hbb] at h; rw [hys]; exact h)
              have HY := Aside0.mk hys
              clear hys
              clear hv hrest hkk haa hbb
              try clear hl0
              go_wp2_with (go_at_call 76; first | (refine (HN1.out _ HI.out).mono ?_; rintro e w2_ ⟨rfl, hI2⟩; have HI2 := Aside0.mk hI2; clear hI2) | (refine (HN2.out _ HI2.out).mono ?_; rintro e w3 ⟨rfl, hI3⟩; have HI3 := Aside0.mk hI3; clear hI3))
              refine start_ (n := 16) (S := fun w' => w'.cell? ⟨bP, 2, none⟩ = some u) (ds := [15]) #[false, false, false, false, false, false, false, false, false, false, false, false, false, false, false, false] (by kernel_rfl) rfl rfl ((blk_cell HI3.out.p 2).trans rfl) (fun hHeld => ?_)
              refine with_tabW mk_tab20 mk_bits20 (fun HT_ HW_ => ?_)
              have HI4 := Aside0.mk (HI3.out.step (show Below w3.heap.size w3 w3.drew from below_drew (Below.refl _ _)))
              clear HI3
              generalize w3.drew = w4 at HI4 hHeld ⊢
              refine pure_ (i := 0) (N := some 75) (v := ?_) (a' := ?_) #[true, false, false, false, false, false, false, false, false, false, false, false, false, false, false, false] rfl rfl (any_of HT_.out (by kernel_rfl)) (fun _ _ _ h => h) (Or.inl ⟨by rfl, ?_⟩) ?_ ?_
              rotate_left
              · intro w'
                go_simp
                with_reducible rfl
              rotate_left
              · simp only [Act.put, List.setIfInBounds_toArray, List.set_cons_zero, List.set_cons_succ, i64_w, i32_w]
                rfl
              refine pure_ (i := 2) (N := some 77) (v := ?_) (a' := ?_) #[true, false, true, false, false, false, false, false, false, false, false, false, false, false, false, false] rfl rfl (any_of HT_.out (by kernel_rfl)) (fun _ _ _ h => h) (Or.inl ⟨by rfl, ?_⟩) ?_ ?_
              rotate_left
              · intro w'
                go_simp
                with_reducible rfl
              rotate_left
              · simp only [Act.put, List.setIfInBounds_toArray, List.set_cons_zero, List.set_cons_succ, i64_w, i32_w]
                rfl
              refine pure_ (i := 3) (N := some 78) (v := ?_) (a' := ?_) #[true, false, true, true, false, false, false, false, false, false, false, false, false, false, false, false] rfl rfl (any_of HT_.out (by kernel_rfl)) (fun _ _ _ h => h) (Or.inl ⟨by rfl, ?_⟩) ?_ ?_
              rotate_left
              · intro w'
                go_simp
                with_reducible rfl
              rotate_left
              · simp only [Act.put, List.setIfInBounds_toArray, List.set_cons_zero, List.set_cons_succ, i64_w, i32_w]
                rfl
              refine pure_ (i := 4) (N := some 79) (v := ?_) (a' := ?_) #[true, false, true, true, true, false, false, false, false, false, false, false, false, false, false, false] rfl rfl (any_of HT_.out (by kernel_rfl)) (fun _ _ _ h => h) (Or.inl ⟨by rfl, ?_⟩) ?_ ?_
              rotate_left
              · intro w'
                go_simp
                with_reducible rfl
              rotate_left
              · simp only [Act.put, List.setIfInBounds_toArray, List.set_cons_zero, List.set_cons_succ, i64_w, i32_w]
                rfl
              refine pure_ (i := 5) (N := some 80) (v := ?_) (a' := ?_) #[true, false, true, true, true, true, false, false, false, false, false, false, false, false, false, false] rfl rfl (any_of HT_.out (by kernel_rfl)) (fun _ _ _ h => h) (Or.inl ⟨by rfl, ?_⟩) ?_ ?_
              rotate_left
              · intro w'
                go_simp
                with_reducible rfl
              rotate_left
              · simp only [Act.put, List.setIfInBounds_toArray, List.set_cons_zero, List.set_cons_succ, i64_w, i32_w]
                rfl
              refine pure_ (i := 6) (N := some 81) (v := ?_) (a' := ?_) #[true, false, true, true, true, true, true, false, false, false, false, false, false, false, false, false] rfl rfl (any_of HT_.out (by kernel_rfl)) (fun _ _ _ h => h) (Or.inl ⟨by rfl, ?_⟩) ?_ ?_
              rotate_left
              · intro w'
                go_simp
                with_reducible rfl
              rotate_left
              · simp only [Act.put, List.setIfInBounds_toArray, List.set_cons_zero, List.set_cons_succ, i64_w, i32_w]
                rfl
              refine pure_ (i := 7) (N := some 82) (v := ?_) (a' := ?_) #[true, false, true, true, true, true, true, true, false, false, false, false, false, false, false, false] rfl rfl (any_of HT_.out (by kernel_rfl)) (fun _ _ _ h => h) (Or.inl ⟨by rfl, ?_⟩) ?_ ?_
              rotate_left
              · intro w'
                go_simp
                with_reducible rfl
              rotate_left
              · simp only [Act.put, List.setIfInBounds_toArray, List.set_cons_zero, List.set_cons_succ, i64_w, i32_w]
                rfl
              refine pure_ (i := 8) (N := some 83) (v := ?_) (a' := ?_) #[true, false, true, true, true, true, true, true, true, false, false, false, false, false, false, false] rfl rfl (any_of HT_.out (by kernel_rfl)) (fun _ _ _ h => h) (Or.inl ⟨by rfl, ?_⟩) ?_ ?_
              rotate_left
              · intro w'
                go_simp
                with_reducible rfl
              rotate_left
              · simp only [Act.put, List.setIfInBounds_toArray, List.set_cons_zero, List.set_cons_succ, i64_w, i32_w]
                rfl
              refine pure_ (i := 9) (N := some 84) (v := ?_) (a' := ?_) #[true, false, true, true, true, true, true, true, true, true, false, false, false, false, false, false] rfl rfl (any_of HT_.out (by kernel_rfl)) (fun _ _ _ h => h) (Or.inl ⟨by rfl, ?_⟩) ?_ ?_
              rotate_left
              · intro w'
                go_simp
                with_reducible rfl
              rotate_left
              · simp only [Act.put, List.setIfInBounds_toArray, List.set_cons_zero, List.set_cons_succ, i64_w, i32_w]
                rfl
              refine take_ (i := 1) (N := some 76) (v := ?_) (a' := ?_) #[true, true, true, true, true, true, true, true, true, true, false, false, false, false, false, false] rfl rfl (take_ofW HT_.out HW_.out (by kernel_rfl)) (fun _ _ _ h => h) (Or.inl ⟨by rfl, ?_⟩) hHeld ?_ ?_
              rotate_left
              · intro w' s0
                go_simp
                with_reducible rfl
              rotate_left
              · simp only [Act.put, List.setIfInBounds_toArray, List.set_cons_zero, List.set_cons_succ, i64_w, i32_w]
                rfl
              refine one_ (i := 10) (N := some 85) #[true, true, true, true, true, true, true, true, true, true, true, false, false, false, false, false] rfl rfl (one_of HT_.out (by kernel_rfl)) (by decide) (fun K hK => ?_)
              refine goes_ Try.func77 (by kernel_rfl) rfl #[.int .i64 a0, .int .i64 1, .int .i64 p1, .int .i64 0, .slice A1 l1.length c1] (by rfl) rfl rfl (by (try simp only [List.map_toArray, List.map_cons, List.map_nil]); first | done | rfl) ?_
              with_reducible refine (impl_told.calls k a0 1 p1 0 _ _ l1 v w4 (Kd.C_below HR1.out HI4.out.below) HC1.out HT.out).mono ?_
              rintro e w5 ⟨rfl, hb⟩
              refine ⟨_, rfl, ?_⟩
              have HI5 := Aside0.mk (HI4.out.step hb)
              clear hb HI4
              refine hK.out _ _ ((blk_cell HI5.out.p 2).trans rfl) (fun hHeld => ?_)
              clear hK K
              refine norm_ (a' := ?_) ?_ ?_
              rotate_left
              · show Act.put _ (some 85) _ = _
                simp only [Act.put, List.setIfInBounds_toArray, List.set_cons_zero, List.set_cons_succ, i64_w, i32_w]
                rfl
              refine pure_ (i := 11) (N := some 86) (v := ?_) (a' := ?_) #[true, true, true, true, true, true, true, true, true, true, true, true, false, false, false, false] rfl rfl (any_of HT_.out (by kernel_rfl)) (fun _ _ _ h => h) (Or.inl ⟨by rfl, ?_⟩) ?_ ?_
              rotate_left
              · intro w'
                go_simp
                with_reducible rfl
              rotate_left
              · simp only [Act.put, List.setIfInBounds_toArray, List.set_cons_zero, List.set_cons_succ, i64_w, i32_w]
                rfl
              refine one_ (i := 12) (N := some 87) #[true, true, true, true, true, true, true, true, true, true, true, true, true, false, false, false] rfl rfl (one_of HT_.out (by kernel_rfl)) (by decide) (fun K hK => ?_)
              refine value_ (w1 := ?_) (v := ?_) (by rfl) rfl ?_ ?_
              rotate_left 2
              · go_simp
                constructor
                · rfl
                · rfl
              refine hK.out _ _ ((blk_cell (blk_alloc HI5.out.p _) 2).trans rfl) (fun hHeld => ?_)
              clear hK K
              refine norm_ (a' := ?_) ?_ ?_
              rotate_left
              · show Act.put _ (some 87) _ = _
                simp only [Act.put, List.setIfInBounds_toArray, List.set_cons_zero, List.set_cons_succ, i64_w, i32_w]
                rfl
              refine one_ (i := 13) (N := some 88) #[true, true, true, true, true, true, true, true, true, true, true, true, true, true, false, false] rfl rfl (one_of HT_.out (by kernel_rfl)) (by decide) (fun K hK => ?_)
              refine Kd.R_append_step k31 (w0 := w) w.heap.size (by rfl) (.tmp 76) (.tmp 87) 42 31 (.agg #[(.int .i64 0), (.int .i64 0), (.int .i64 0), (.int .i64 0)]) 32 rfl Try.underlying42 infClue4 rfl (by decide) (by omega) u ds (⟨1, p1, 0, v⟩ : S31) [.int .i64 1, .int .i64 p1, .int .i64 0, .int .i64 v] (fun _ => True) (fun _ => False) rfl rfl ?aP (fun _ hk => hk.elim) ?aF ?aO ?aB ?aS ?aL ?_
              case aP => exact k31_mkM _ _ _ (⟨1, p1, 0, v⟩ : S31)
              case aB => exact HI5.out.below
              case aF => exact (fun _ _ => trivial)
              case aO => exact HI5.out.o
              case aS => exact HI5.out.below.size
              case aL => have := HLM.out; omega
              intro v1 w6 ho hb hg hat
              rw [← HY.out] at ho
              have HX := Aside0.mk (HI5.out.put hg hb ho)
              have HP6 := Aside0.mk (blk_grown HI5.out.p hg (Kd.R_ne HI5.out.o HI5.out.p (by decide)))
              obtain ⟨A7, c7, rfl⟩ := Kd.R_slice ho
              clear ho hb hg hat HI5
              refine hK.out _ _ ((blk_cell HP6.out 2).trans rfl) (fun hHeld => ?_)
              clear hK K
              refine norm_ (a' := ?_) ?_ ?_
              rotate_left
              · show Act.put _ (some 88) _ = _
                simp only [Act.put, List.setIfInBounds_toArray, List.set_cons_zero, List.set_cons_succ, i64_w, i32_w]
                rfl
              refine pure_ (i := 14) (N := some 89) (v := ?_) (a' := ?_) #[true, true, true, true, true, true, true, true, true, true, true, true, true, true, true, false] rfl rfl (any_of HT_.out (by kernel_rfl)) (fun _ _ _ h => h) (Or.inl ⟨by rfl, ?_⟩) ?_ ?_
              rotate_left
              · intro w'
                go_simp
                with_reducible rfl
              rotate_left
              · simp only [Act.put, List.setIfInBounds_toArray, List.set_cons_zero, List.set_cons_succ, i64_w, i32_w]
                rfl
              refine last_ (i := 15) (N := none) #[true, true, true, true, true, true, true, true, true, true, true, true, true, true, true, true] rfl rfl (one_of HT_.out (by kernel_rfl)) (by decide) (fun K hK => ?_)
              have hs29 : w6.cell? ⟨bP, 2, none⟩ = some u := (blk_cell HP6.out 2).trans rfl
              have hfs29 := blk_frozen HP6.out 2
              refine skip_ (w1 := ?_) (by rfl) rfl ?_ ?_
              rotate_left
              · go_simp
                rfl
              refine hK.out _ _ ?_
              clear hK K
              refine done_ (done_of HT_.out (by kernel_rfl)) ?_
              try go_wp2
              go_roundw
              case rel => exact ⟨j + 1, z2, _, ys, by omega, by go_num, HRest, ⟨by rw [HY.out, List.length_append, HLM.out]; rfl⟩, HX⟩
              case measure => simp [intOf]; omega
            · have n1 : (kd == (1 : Int)) = false := beq_eq_false_iff_ne.mpr k1
              by_cases k2 : kd = 2
              · subst k2
                have hkk : mkKind l1 z1 = 2 := hkk0
                have haa : mkA a0 l1 2 z2 = p1 := by unfold mkA; rw [if_pos (by decide), hp1]
                have hbb : mkB a0 2 z2 = p3 := by unfold mkB; rw [if_pos (Or.inl rfl), hp3]
                have HT := Aside0.mk (show impl_told.f k a0 2 p1 p3 l1 = some v from by have h := hv; rw [hkk, haa, hbb] at h; exact h)
                obtain ⟨ys, hys⟩ : ∃ ys_, ys_ = ds ++ [(⟨2, p1, p3, v⟩ : S31)] := ⟨_, rfl⟩
                have HRest := Aside0.mk (show mkN k a0 l1 (m - (j + 1)) z2 ys = some cs from by have h := hrest; rw [hkk, haa, hbb] at h; rw [hys]; exact h)
                have HY := Aside0.mk hys
                clear hys
                clear hv hrest hkk haa hbb
                try clear hl0
                go_wp2_with (go_at_call 76; first | (refine (HN1.out _ HI.out).mono ?_; rintro e w2_ ⟨rfl, hI2⟩; have HI2 := Aside0.mk hI2; clear hI2) | (refine (HN2.out _ HI2.out).mono ?_; rintro e w3 ⟨rfl, hI3⟩; have HI3 := Aside0.mk hI3; clear hI3))
                refine start_ (n := 16) (S := fun w' => w'.cell? ⟨bP, 2, none⟩ = some u) (ds := [15]) #[false, false, false, false, false, false, false, false, false, false, false, false, false, false, false, false] (by kernel_rfl) rfl rfl ((blk_cell HI3.out.p 2).trans rfl) (fun hHeld => ?_)
                refine with_tabW mk_tab20 mk_bits20 (fun HT_ HW_ => ?_)
                have HI4 := Aside0.mk (HI3.out.step (show Below w3.heap.size w3 w3.drew from below_drew (Below.refl _ _)))
                clear HI3
                generalize w3.drew = w4 at HI4 hHeld ⊢
                refine pure_ (i := 0) (N := some 75) (v := ?_) (a' := ?_) #[true, false, false, false, false, false, false, false, false, false, false, false, false, false, false, false] rfl rfl (any_of HT_.out (by kernel_rfl)) (fun _ _ _ h => h) (Or.inl ⟨by rfl, ?_⟩) ?_ ?_
                rotate_left
                · intro w'
                  go_simp
                  with_reducible rfl
                rotate_left
                · simp only [Act.put, List.setIfInBounds_toArray, List.set_cons_zero, List.set_cons_succ, i64_w, i32_w]
                  rfl
                refine pure_ (i := 2) (N := some 77) (v := ?_) (a' := ?_) #[true, false, true, false, false, false, false, false, false, false, false, false, false, false, false, false] rfl rfl (any_of HT_.out (by kernel_rfl)) (fun _ _ _ h => h) (Or.inl ⟨by rfl, ?_⟩) ?_ ?_
                rotate_left
                · intro w'
                  go_simp
                  with_reducible rfl
                rotate_left
                · simp only [Act.put, List.setIfInBounds_toArray, List.set_cons_zero, List.set_cons_succ, i64_w, i32_w]
                  rfl
                refine pure_ (i := 3) (N := some 78) (v := ?_) (a' := ?_) #[true, false, true, true, false, false, false, false, false, false, false, false, false, false, false, false] rfl rfl (any_of HT_.out (by kernel_rfl)) (fun _ _ _ h => h) (Or.inl ⟨by rfl, ?_⟩) ?_ ?_
                rotate_left
                · intro w'
                  go_simp
                  with_reducible rfl
                rotate_left
                · simp only [Act.put, List.setIfInBounds_toArray, List.set_cons_zero, List.set_cons_succ, i64_w, i32_w]
                  rfl
                refine pure_ (i := 4) (N := some 79) (v := ?_) (a' := ?_) #[true, false, true, true, true, false, false, false, false, false, false, false, false, false, false, false] rfl rfl (any_of HT_.out (by kernel_rfl)) (fun _ _ _ h => h) (Or.inl ⟨by rfl, ?_⟩) ?_ ?_
                rotate_left
                · intro w'
                  go_simp
                  with_reducible rfl
                rotate_left
                · simp only [Act.put, List.setIfInBounds_toArray, List.set_cons_zero, List.set_cons_succ, i64_w, i32_w]
                  rfl
                refine pure_ (i := 5) (N := some 80) (v := ?_) (a' := ?_) #[true, false, true, true, true, true, false, false, false, false, false, false, false, false, false, false] rfl rfl (any_of HT_.out (by kernel_rfl)) (fun _ _ _ h => h) (Or.inl ⟨by rfl, ?_⟩) ?_ ?_
                rotate_left
                · intro w'
                  go_simp
                  with_reducible rfl
                rotate_left
                · simp only [Act.put, List.setIfInBounds_toArray, List.set_cons_zero, List.set_cons_succ, i64_w, i32_w]
                  rfl
                refine pure_ (i := 6) (N := some 81) (v := ?_) (a' := ?_) #[true, false, true, true, true, true, true, false, false, false, false, false, false, false, false, false] rfl rfl (any_of HT_.out (by kernel_rfl)) (fun _ _ _ h => h) (Or.inl ⟨by rfl, ?_⟩) ?_ ?_
                rotate_left
                · intro w'
                  go_simp
                  with_reducible rfl
                rotate_left
                · simp only [Act.put, List.setIfInBounds_toArray, List.set_cons_zero, List.set_cons_succ, i64_w, i32_w]
                  rfl
                refine pure_ (i := 7) (N := some 82) (v := ?_) (a' := ?_) #[true, false, true, true, true, true, true, true, false, false, false, false, false, false, false, false] rfl rfl (any_of HT_.out (by kernel_rfl)) (fun _ _ _ h => h) (Or.inl ⟨by rfl, ?_⟩) ?_ ?_
                rotate_left
                · intro w'
                  go_simp
                  with_reducible rfl
                rotate_left
                · simp only [Act.put, List.setIfInBounds_toArray, List.set_cons_zero, List.set_cons_succ, i64_w, i32_w]
                  rfl
                refine pure_ (i := 8) (N := some 83) (v := ?_) (a' := ?_) #[true, false, true, true, true, true, true, true, true, false, false, false, false, false, false, false] rfl rfl (any_of HT_.out (by kernel_rfl)) (fun _ _ _ h => h) (Or.inl ⟨by rfl, ?_⟩) ?_ ?_
                rotate_left
                · intro w'
                  go_simp
                  with_reducible rfl
                rotate_left
                · simp only [Act.put, List.setIfInBounds_toArray, List.set_cons_zero, List.set_cons_succ, i64_w, i32_w]
                  rfl
                refine pure_ (i := 9) (N := some 84) (v := ?_) (a' := ?_) #[true, false, true, true, true, true, true, true, true, true, false, false, false, false, false, false] rfl rfl (any_of HT_.out (by kernel_rfl)) (fun _ _ _ h => h) (Or.inl ⟨by rfl, ?_⟩) ?_ ?_
                rotate_left
                · intro w'
                  go_simp
                  with_reducible rfl
                rotate_left
                · simp only [Act.put, List.setIfInBounds_toArray, List.set_cons_zero, List.set_cons_succ, i64_w, i32_w]
                  rfl
                refine take_ (i := 1) (N := some 76) (v := ?_) (a' := ?_) #[true, true, true, true, true, true, true, true, true, true, false, false, false, false, false, false] rfl rfl (take_ofW HT_.out HW_.out (by kernel_rfl)) (fun _ _ _ h => h) (Or.inl ⟨by rfl, ?_⟩) hHeld ?_ ?_
                rotate_left
                · intro w' s0
                  go_simp
                  with_reducible rfl
                rotate_left
                · simp only [Act.put, List.setIfInBounds_toArray, List.set_cons_zero, List.set_cons_succ, i64_w, i32_w]
                  rfl
                refine one_ (i := 10) (N := some 85) #[true, true, true, true, true, true, true, true, true, true, true, false, false, false, false, false] rfl rfl (one_of HT_.out (by kernel_rfl)) (by decide) (fun K hK => ?_)
                refine goes_ Try.func77 (by kernel_rfl) rfl #[.int .i64 a0, .int .i64 2, .int .i64 p1, .int .i64 p3, .slice A1 l1.length c1] (by rfl) rfl rfl (by (try simp only [List.map_toArray, List.map_cons, List.map_nil]); first | done | rfl) ?_
                with_reducible refine (impl_told.calls k a0 2 p1 p3 _ _ l1 v w4 (Kd.C_below HR1.out HI4.out.below) HC1.out HT.out).mono ?_
                rintro e w5 ⟨rfl, hb⟩
                refine ⟨_, rfl, ?_⟩
                have HI5 := Aside0.mk (HI4.out.step hb)
                clear hb HI4
                refine hK.out _ _ ((blk_cell HI5.out.p 2).trans rfl) (fun hHeld => ?_)
                clear hK K
                refine norm_ (a' := ?_) ?_ ?_
                rotate_left
                · show Act.put _ (some 85) _ = _
                  simp only [Act.put, List.setIfInBounds_toArray, List.set_cons_zero, List.set_cons_succ, i64_w, i32_w]
                  rfl
                refine pure_ (i := 11) (N := some 86) (v := ?_) (a' := ?_) #[true, true, true, true, true, true, true, true, true, true, true, true, false, false, false, false] rfl rfl (any_of HT_.out (by kernel_rfl)) (fun _ _ _ h => h) (Or.inl ⟨by rfl, ?_⟩) ?_ ?_
                rotate_left
                · intro w'
                  go_simp
                  with_reducible rfl
                rotate_left
                · simp only [Act.put, List.setIfInBounds_toArray, List.set_cons_zero, List.set_cons_succ, i64_w, i32_w]
                  rfl
                refine one_ (i := 12) (N := some 87) #[true, true, true, true, true, true, true, true, true, true, true, true, true, false, false, false] rfl rfl (one_of HT_.out (by kernel_rfl)) (by decide) (fun K hK => ?_)
                refine value_ (w1 := ?_) (v := ?_) (by rfl) rfl ?_ ?_
                rotate_left 2
                · go_simp
                  constructor
                  · rfl
                  · rfl
                refine hK.out _ _ ((blk_cell (blk_alloc HI5.out.p _) 2).trans rfl) (fun hHeld => ?_)
                clear hK K
                refine norm_ (a' := ?_) ?_ ?_
                rotate_left
                · show Act.put _ (some 87) _ = _
                  simp only [Act.put, List.setIfInBounds_toArray, List.set_cons_zero, List.set_cons_succ, i64_w, i32_w]
                  rfl
                refine one_ (i := 13) (N := some 88) #[true, true, true, true, true, true, true, true, true, true, true, true, true, true, false, false] rfl rfl (one_of HT_.out (by kernel_rfl)) (by decide) (fun K hK => ?_)
                refine Kd.R_append_step k31 (w0 := w) w.heap.size (by rfl) (.tmp 76) (.tmp 87) 42 31 (.agg #[(.int .i64 0), (.int .i64 0), (.int .i64 0), (.int .i64 0)]) 32 rfl Try.underlying42 infClue4 rfl (by decide) (by omega) u ds (⟨2, p1, p3, v⟩ : S31) [.int .i64 2, .int .i64 p1, .int .i64 p3, .int .i64 v] (fun _ => True) (fun _ => False) rfl rfl ?aP (fun _ hk => hk.elim) ?aF ?aO ?aB ?aS ?aL ?_
                case aP => exact k31_mkM _ _ _ (⟨2, p1, p3, v⟩ : S31)
                case aB => exact HI5.out.below
                case aF => exact (fun _ _ => trivial)
                case aO => exact HI5.out.o
                case aS => exact HI5.out.below.size
                case aL => have := HLM.out; omega
                intro v1 w6 ho hb hg hat
                rw [← HY.out] at ho
                have HX := Aside0.mk (HI5.out.put hg hb ho)
                have HP6 := Aside0.mk (blk_grown HI5.out.p hg (Kd.R_ne HI5.out.o HI5.out.p (by decide)))
                obtain ⟨A7, c7, rfl⟩ := Kd.R_slice ho
                clear ho hb hg hat HI5
                refine hK.out _ _ ((blk_cell HP6.out 2).trans rfl) (fun hHeld => ?_)
                clear hK K
                refine norm_ (a' := ?_) ?_ ?_
                rotate_left
                · show Act.put _ (some 88) _ = _
                  simp only [Act.put, List.setIfInBounds_toArray, List.set_cons_zero, List.set_cons_succ, i64_w, i32_w]
                  rfl
                refine pure_ (i := 14) (N := some 89) (v := ?_) (a' := ?_) #[true, true, true, true, true, true, true, true, true, true, true, true, true, true, true, false] rfl rfl (any_of HT_.out (by kernel_rfl)) (fun _ _ _ h => h) (Or.inl ⟨by rfl, ?_⟩) ?_ ?_
                rotate_left
                · intro w'
                  go_simp
                  with_reducible rfl
                rotate_left
                · simp only [Act.put, List.setIfInBounds_toArray, List.set_cons_zero, List.set_cons_succ, i64_w, i32_w]
                  rfl
                refine last_ (i := 15) (N := none) #[true, true, true, true, true, true, true, true, true, true, true, true, true, true, true, true] rfl rfl (one_of HT_.out (by kernel_rfl)) (by decide) (fun K hK => ?_)
                have hs29 : w6.cell? ⟨bP, 2, none⟩ = some u := (blk_cell HP6.out 2).trans rfl
                have hfs29 := blk_frozen HP6.out 2
                refine skip_ (w1 := ?_) (by rfl) rfl ?_ ?_
                rotate_left
                · go_simp
                  rfl
                refine hK.out _ _ ?_
                clear hK K
                refine done_ (done_of HT_.out (by kernel_rfl)) ?_
                try go_wp2
                go_roundw
                case rel => exact ⟨j + 1, z2, _, ys, by omega, by go_num, HRest, ⟨by rw [HY.out, List.length_append, HLM.out]; rfl⟩, HX⟩
                case measure => simp [intOf]; omega
              · have n2 : (kd == (2 : Int)) = false := beq_eq_false_iff_ne.mpr k2
                have n4 : (kd == (4 : Int)) = false := beq_eq_false_iff_ne.mpr k4
                have hkk : mkKind l1 z1 = kd := hkk0
                have haa : mkA a0 l1 kd z2 = 0 := by unfold mkA; rw [if_neg (by omega), if_neg k4]
                have hbb : mkB a0 kd z2 = 0 := by unfold mkB; rw [if_neg (by omega)]
                have HT := Aside0.mk (show impl_told.f k a0 kd 0 0 l1 = some v from by have h := hv; rw [hkk, haa, hbb] at h; exact h)
                obtain ⟨ys, hys⟩ : ∃ ys_, ys_ = ds ++ [(⟨kd, 0, 0, v⟩ : S31)] := ⟨_, rfl⟩
                have HRest := Aside0.mk (show mkN k a0 l1 (m - (j + 1)) z2 ys = some cs from by have h := hrest; rw [hkk, haa, hbb] at h; rw [hys]; exact h)
                have HY := Aside0.mk hys
                clear hys
                clear hv hrest hkk haa hbb
                try clear hl0
                go_wp2_with (go_at_call 76; first | (refine (HN1.out _ HI.out).mono ?_; rintro e w2_ ⟨rfl, hI2⟩; have HI2 := Aside0.mk hI2; clear hI2) | (refine (HN2.out _ HI2.out).mono ?_; rintro e w3 ⟨rfl, hI3⟩; have HI3 := Aside0.mk hI3; clear hI3))
                refine start_ (n := 16) (S := fun w' => w'.cell? ⟨bP, 2, none⟩ = some u) (ds := [15]) #[false, false, false, false, false, false, false, false, false, false, false, false, false, false, false, false] (by kernel_rfl) rfl rfl ((blk_cell HI3.out.p 2).trans rfl) (fun hHeld => ?_)
                refine with_tabW mk_tab20 mk_bits20 (fun HT_ HW_ => ?_)
                have HI4 := Aside0.mk (HI3.out.step (show Below w3.heap.size w3 w3.drew from below_drew (Below.refl _ _)))
                clear HI3
                generalize w3.drew = w4 at HI4 hHeld ⊢
                refine pure_ (i := 0) (N := some 75) (v := ?_) (a' := ?_) #[true, false, false, false, false, false, false, false, false, false, false, false, false, false, false, false] rfl rfl (any_of HT_.out (by kernel_rfl)) (fun _ _ _ h => h) (Or.inl ⟨by rfl, ?_⟩) ?_ ?_
                rotate_left
                · intro w'
                  go_simp
                  with_reducible rfl
                rotate_left
                · simp only [Act.put, List.setIfInBounds_toArray, List.set_cons_zero, List.set_cons_succ, i64_w, i32_w]
                  rfl
                refine pure_ (i := 2) (N := some 77) (v := ?_) (a' := ?_) #[true, false, true, false, false, false, false, false, false, false, false, false, false, false, false, false] rfl rfl (any_of HT_.out (by kernel_rfl)) (fun _ _ _ h => h) (Or.inl ⟨by rfl, ?_⟩) ?_ ?_
                rotate_left
                · intro w'
                  go_simp
                  with_reducible rfl
                rotate_left
                · simp only [Act.put, List.setIfInBounds_toArray, List.set_cons_zero, List.set_cons_succ, i64_w, i32_w]
                  rfl
                refine pure_ (i := 3) (N := some 78) (v := ?_) (a' := ?_) #[true, false, true, true, false, false, false, false, false, false, false, false, false, false, false, false] rfl rfl (any_of HT_.out (by kernel_rfl)) (fun _ _ _ h => h) (Or.inl ⟨by rfl, ?_⟩) ?_ ?_
                rotate_left
                · intro w'
                  go_simp
                  with_reducible rfl
                rotate_left
                · simp only [Act.put, List.setIfInBounds_toArray, List.set_cons_zero, List.set_cons_succ, i64_w, i32_w]
                  rfl
                refine pure_ (i := 4) (N := some 79) (v := ?_) (a' := ?_) #[true, false, true, true, true, false, false, false, false, false, false, false, false, false, false, false] rfl rfl (any_of HT_.out (by kernel_rfl)) (fun _ _ _ h => h) (Or.inl ⟨by rfl, ?_⟩) ?_ ?_
                rotate_left
                · intro w'
                  go_simp
                  with_reducible rfl
                rotate_left
                · simp only [Act.put, List.setIfInBounds_toArray, List.set_cons_zero, List.set_cons_succ, i64_w, i32_w]
                  rfl
                refine pure_ (i := 5) (N := some 80) (v := ?_) (a' := ?_) #[true, false, true, true, true, true, false, false, false, false, false, false, false, false, false, false] rfl rfl (any_of HT_.out (by kernel_rfl)) (fun _ _ _ h => h) (Or.inl ⟨by rfl, ?_⟩) ?_ ?_
                rotate_left
                · intro w'
                  go_simp
                  with_reducible rfl
                rotate_left
                · simp only [Act.put, List.setIfInBounds_toArray, List.set_cons_zero, List.set_cons_succ, i64_w, i32_w]
                  rfl
                refine pure_ (i := 6) (N := some 81) (v := ?_) (a' := ?_) #[true, false, true, true, true, true, true, false, false, false, false, false, false, false, false, false] rfl rfl (any_of HT_.out (by kernel_rfl)) (fun _ _ _ h => h) (Or.inl ⟨by rfl, ?_⟩) ?_ ?_
                rotate_left
                · intro w'
                  go_simp
                  with_reducible rfl
                rotate_left
                · simp only [Act.put, List.setIfInBounds_toArray, List.set_cons_zero, List.set_cons_succ, i64_w, i32_w]
                  rfl
                refine pure_ (i := 7) (N := some 82) (v := ?_) (a' := ?_) #[true, false, true, true, true, true, true, true, false, false, false, false, false, false, false, false] rfl rfl (any_of HT_.out (by kernel_rfl)) (fun _ _ _ h => h) (Or.inl ⟨by rfl, ?_⟩) ?_ ?_
                rotate_left
                · intro w'
                  go_simp
                  with_reducible rfl
                rotate_left
                · simp only [Act.put, List.setIfInBounds_toArray, List.set_cons_zero, List.set_cons_succ, i64_w, i32_w]
                  rfl
                refine pure_ (i := 8) (N := some 83) (v := ?_) (a' := ?_) #[true, false, true, true, true, true, true, true, true, false, false, false, false, false, false, false] rfl rfl (any_of HT_.out (by kernel_rfl)) (fun _ _ _ h => h) (Or.inl ⟨by rfl, ?_⟩) ?_ ?_
                rotate_left
                · intro w'
                  go_simp
                  with_reducible rfl
                rotate_left
                · simp only [Act.put, List.setIfInBounds_toArray, List.set_cons_zero, List.set_cons_succ, i64_w, i32_w]
                  rfl
                refine pure_ (i := 9) (N := some 84) (v := ?_) (a' := ?_) #[true, false, true, true, true, true, true, true, true, true, false, false, false, false, false, false] rfl rfl (any_of HT_.out (by kernel_rfl)) (fun _ _ _ h => h) (Or.inl ⟨by rfl, ?_⟩) ?_ ?_
                rotate_left
                · intro w'
                  go_simp
                  with_reducible rfl
                rotate_left
                · simp only [Act.put, List.setIfInBounds_toArray, List.set_cons_zero, List.set_cons_succ, i64_w, i32_w]
                  rfl
                refine take_ (i := 1) (N := some 76) (v := ?_) (a' := ?_) #[true, true, true, true, true, true, true, true, true, true, false, false, false, false, false, false] rfl rfl (take_ofW HT_.out HW_.out (by kernel_rfl)) (fun _ _ _ h => h) (Or.inl ⟨by rfl, ?_⟩) hHeld ?_ ?_
                rotate_left
                · intro w' s0
                  go_simp
                  with_reducible rfl
                rotate_left
                · simp only [Act.put, List.setIfInBounds_toArray, List.set_cons_zero, List.set_cons_succ, i64_w, i32_w]
                  rfl
                refine one_ (i := 10) (N := some 85) #[true, true, true, true, true, true, true, true, true, true, true, false, false, false, false, false] rfl rfl (one_of HT_.out (by kernel_rfl)) (by decide) (fun K hK => ?_)
                refine goes_ Try.func77 (by kernel_rfl) rfl #[.int .i64 a0, .int .i64 kd, .int .i64 0, .int .i64 0, .slice A1 l1.length c1] (by rfl) rfl rfl (by (try simp only [List.map_toArray, List.map_cons, List.map_nil]); first | done | rfl) ?_
                with_reducible refine (impl_told.calls k a0 kd 0 0 _ _ l1 v w4 (Kd.C_below HR1.out HI4.out.below) HC1.out HT.out).mono ?_
                rintro e w5 ⟨rfl, hb⟩
                refine ⟨_, rfl, ?_⟩
                have HI5 := Aside0.mk (HI4.out.step hb)
                clear hb HI4
                refine hK.out _ _ ((blk_cell HI5.out.p 2).trans rfl) (fun hHeld => ?_)
                clear hK K
                refine norm_ (a' := ?_) ?_ ?_
                rotate_left
                · show Act.put _ (some 85) _ = _
                  simp only [Act.put, List.setIfInBounds_toArray, List.set_cons_zero, List.set_cons_succ, i64_w, i32_w]
                  rfl
                refine pure_ (i := 11) (N := some 86) (v := ?_) (a' := ?_) #[true, true, true, true, true, true, true, true, true, true, true, true, false, false, false, false] rfl rfl (any_of HT_.out (by kernel_rfl)) (fun _ _ _ h => h) (Or.inl ⟨by rfl, ?_⟩) ?_ ?_
                rotate_left
                · intro w'
                  go_simp
                  with_reducible rfl
                rotate_left
                · simp only [Act.put, List.setIfInBounds_toArray, List.set_cons_zero, List.set_cons_succ, i64_w, i32_w]
                  rfl
                refine one_ (i := 12) (N := some 87) #[true, true, true, true, true, true, true, true, true, true, true, true, true, false, false, false] rfl rfl (one_of HT_.out (by kernel_rfl)) (by decide) (fun K hK => ?_)
                refine value_ (w1 := ?_) (v := ?_) (by rfl) rfl ?_ ?_
                rotate_left 2
                · go_simp
                  constructor
                  · rfl
                  · rfl
                refine hK.out _ _ ((blk_cell (blk_alloc HI5.out.p _) 2).trans rfl) (fun hHeld => ?_)
                clear hK K
                refine norm_ (a' := ?_) ?_ ?_
                rotate_left
                · show Act.put _ (some 87) _ = _
                  simp only [Act.put, List.setIfInBounds_toArray, List.set_cons_zero, List.set_cons_succ, i64_w, i32_w]
                  rfl
                refine one_ (i := 13) (N := some 88) #[true, true, true, true, true, true, true, true, true, true, true, true, true, true, false, false] rfl rfl (one_of HT_.out (by kernel_rfl)) (by decide) (fun K hK => ?_)
                refine Kd.R_append_step k31 (w0 := w) w.heap.size (by rfl) (.tmp 76) (.tmp 87) 42 31 (.agg #[(.int .i64 0), (.int .i64 0), (.int .i64 0), (.int .i64 0)]) 32 rfl Try.underlying42 infClue4 rfl (by decide) (by omega) u ds (⟨kd, 0, 0, v⟩ : S31) [.int .i64 kd, .int .i64 0, .int .i64 0, .int .i64 v] (fun _ => True) (fun _ => False) rfl rfl ?aP (fun _ hk => hk.elim) ?aF ?aO ?aB ?aS ?aL ?_
                case aP => exact k31_mkM _ _ _ (⟨kd, 0, 0, v⟩ : S31)
                case aB => exact HI5.out.below
                case aF => exact (fun _ _ => trivial)
                case aO => exact HI5.out.o
                case aS => exact HI5.out.below.size
                case aL => have := HLM.out; omega
                intro v1 w6 ho hb hg hat
                rw [← HY.out] at ho
                have HX := Aside0.mk (HI5.out.put hg hb ho)
                have HP6 := Aside0.mk (blk_grown HI5.out.p hg (Kd.R_ne HI5.out.o HI5.out.p (by decide)))
                obtain ⟨A7, c7, rfl⟩ := Kd.R_slice ho
                clear ho hb hg hat HI5
                refine hK.out _ _ ((blk_cell HP6.out 2).trans rfl) (fun hHeld => ?_)
                clear hK K
                refine norm_ (a' := ?_) ?_ ?_
                rotate_left
                · show Act.put _ (some 88) _ = _
                  simp only [Act.put, List.setIfInBounds_toArray, List.set_cons_zero, List.set_cons_succ, i64_w, i32_w]
                  rfl
                refine pure_ (i := 14) (N := some 89) (v := ?_) (a' := ?_) #[true, true, true, true, true, true, true, true, true, true, true, true, true, true, true, false] rfl rfl (any_of HT_.out (by kernel_rfl)) (fun _ _ _ h => h) (Or.inl ⟨by rfl, ?_⟩) ?_ ?_
                rotate_left
                · intro w'
                  go_simp
                  with_reducible rfl
                rotate_left
                · simp only [Act.put, List.setIfInBounds_toArray, List.set_cons_zero, List.set_cons_succ, i64_w, i32_w]
                  rfl
                refine last_ (i := 15) (N := none) #[true, true, true, true, true, true, true, true, true, true, true, true, true, true, true, true] rfl rfl (one_of HT_.out (by kernel_rfl)) (by decide) (fun K hK => ?_)
                have hs29 : w6.cell? ⟨bP, 2, none⟩ = some u := (blk_cell HP6.out 2).trans rfl
                have hfs29 := blk_frozen HP6.out 2
                refine skip_ (w1 := ?_) (by rfl) rfl ?_ ?_
                rotate_left
                · go_simp
                  rfl
                refine hK.out _ _ ?_
                clear hK K
                refine done_ (done_of HT_.out (by kernel_rfl)) ?_
                try go_wp2
                go_roundw
                case rel => exact ⟨j + 1, z2, _, ys, by omega, by go_num, HRest, ⟨by rw [HY.out, List.length_append, HLM.out]; rfl⟩, HX⟩
                case measure => simp [intOf]; omega
      · have l1_ : ¬ (j : Int) < (m : Int) := by omega
        obtain ⟨A8, c8, rfl⟩ := Kd.R_slice HI.out.o
        have hd : ds = cs := by
          have h := HM.out
          rw [show m - j = 0 by omega] at h
          exact Option.some.inj (show some ds = some cs from h)
        subst hd
        have hcz0 : wr.cell? ⟨bP, 0, none⟩ = some (.int .i64 a0) := (blk_cell HI.out.p 0).trans rfl
        have hcz1 : wr.cell? ⟨bP, 1, none⟩ = some (.int .i64 (l1.length : Int)) := (blk_cell HI.out.p 1).trans rfl
        have hcz2 : wr.cell? ⟨bP, 2, none⟩ = some (.slice A8 ds.length c8) := (blk_cell HI.out.p 2).trans rfl
        have hcy0 : wr.cell? ⟨w.heap.size + 1, 0, none⟩ = some (.int .i64 0) := (blk_cell HI.out.r 0).trans rfl
        have hcy1 : wr.cell? ⟨w.heap.size + 1, 1, none⟩ = some (.int .i64 0) := (blk_cell HI.out.r 1).trans rfl
        have hcy2 : wr.cell? ⟨w.heap.size + 1, 2, none⟩ = some (.slice none 0 0) := (blk_cell HI.out.r 2).trans rfl
        have hfy0 : wr.frozen? ⟨w.heap.size + 1, 0, none⟩ = false := blk_frozen HI.out.r 0
        have hfy1 : wr.frozen? ⟨w.heap.size + 1, 1, none⟩ = false := blk_frozen HI.out.r 1
        have hfy2 : wr.frozen? ⟨w.heap.size + 1, 2, none⟩ = false := blk_frozen HI.out.r 2
        go_wp2
        refine bodyPost_ret (results_ct rfl _ _ (w.heap.size + 1) 44 #[.int .i64 a0, .int .i64 (l1.length : Int), .slice A8 ds.length c8] (0, 0) _ rfl (blk_put (cs := #[.int .i64 a0, .int .i64 (l1.length : Int), .slice none 0 0]) (blk_put (cs := #[.int .i64 a0, .int .i64 0, .slice none 0 0]) (blk_put (cs := #[.int .i64 0, .int .i64 0, .slice none 0 0]) HI.out.r 0 _ rfl) 1 _ rfl) 2 _ rfl) Try.underlying44 rfl (by kernel_rfl)) rfl ?_
        exact ⟨_, rfl, Kd.R_mono (Kd.R_far (p := ⟨w.heap.size + 1, 2, none⟩) (Kd.R_far (p := ⟨w.heap.size + 1, 1, none⟩) (Kd.R_far (p := ⟨w.heap.size + 1, 0, none⟩) (Kd.R_types HI.out.o HI.out.r (by decide)) (fun _ hk => hk.2) (.int .i64 a0)) (fun _ hk => hk.2) (.int .i64 (l1.length : Int))) (fun _ hk => hk.2) (.slice A8 ds.length c8)) (fun _ _ => trivial), Below.setCell (Below.setCell (Below.setCell HI.out.below (show w.heap.size ≤ w.heap.size + 1 by omega) _) (show w.heap.size ≤ w.heap.size + 1 by omega) _) (show w.heap.size ≤ w.heap.size + 1 by omega) _⟩
  · rw [if_neg hall] at h
    simp only [Option.some.injEq, Prod.mk.injEq] at h
    obtain ⟨rfl, rfl, rfl, rfl⟩ := h
    have within_f : ∀ x lo hi : Int, impl_within.f x lo hi = some (decide (lo ≤ x ∧ x ≤ hi)) := fun x lo hi => by
      unfold impl_within.f
      by_cases h1 : lo ≤ x
      · rw [if_pos h1]
        congr 1
        rw [Bool.eq_iff_iff, decide_eq_true_eq, decide_eq_true_eq]
        omega
      · rw [if_neg h1, decide_eq_false (show ¬ (lo ≤ x ∧ x ≤ hi) from fun h => h1 h.1)]
    have HW1 := Aside0.mk (within_f a2 0 6)
    have HW2 := Aside0.mk (within_f a3 0 9999)
    unfold mkOk at hall
    generalize decide (0 ≤ a2 ∧ a2 ≤ 6) = x1 at hall HW1
    generalize decide (0 ≤ a3 ∧ a3 ≤ 9999) = x2 at hall HW2
    clear within_f
    have N1 := Aside0.mk (show ((w.alloc (Obj.cells #[Value.int .i64 a3] 3)).alloc (Obj.cells #[Value.int .i64 0, Value.int .i64 0, Value.slice none 0 0] 44)).heap[w.heap.size + 1]? = some (.cells #[.int .i64 0, .int .i64 0, .slice none 0 0] 44 (0, 0)) by
      have h := blk_new (w.alloc (Obj.cells #[Value.int .i64 a3] 3)) (Obj.cells #[Value.int .i64 0, Value.int .i64 0, Value.slice none 0 0] 44)
      rw [show (w.alloc (Obj.cells #[Value.int .i64 a3] 3)).heap.size = w.heap.size + 1 by simp] at h
      exact h)
    cases x0 <;> cases x1 <;> cases x2
    case neg.true.true.true => exact absurd rfl hall
    all_goals
      clear hall
      go_enter Try.func45, Try.ntmps45
      go_wp2_with (first
        | (go_at_call 55; refine (HH.out _ ?s1).mono ?_; (case s1 => repeat (first | exact Below.refl _ _ | apply below_alloc | apply pw_below_drewN | apply below_drew1)); rintro e w1 ⟨rfl, hb1⟩; have e0 : w1.heap[w.heap.size]? = some (.cells #[.int .i64 a3] 3 (0, 0)) := blk_below (by repeat (first | exact blk_new _ _ | apply blk_alloc)) hb1; have e1 : w1.heap[w.heap.size + 1]? = some (.cells #[.int .i64 0, .int .i64 0, .slice none 0 0] 44 (0, 0)) := blk_below N1.out hb1; have HB1 := Aside0.mk (show Below w.heap.size w w1 from below_step (by repeat (first | exact Below.refl _ _ | apply below_alloc)) hb1); clear hb1; have E1 := Aside0.mk e1; have q0 : w1.cell? ⟨w.heap.size, 0, none⟩ = some (.int .i64 a3) := (blk_cell e0 0).trans rfl; have hcy0 : w1.cell? ⟨w.heap.size + 1, 0, none⟩ = some (.int .i64 0) := (blk_cell e1 0).trans rfl; have hcy1 : w1.cell? ⟨w.heap.size + 1, 1, none⟩ = some (.int .i64 0) := (blk_cell e1 1).trans rfl; have hcy2 : w1.cell? ⟨w.heap.size + 1, 2, none⟩ = some (.slice none 0 0) := (blk_cell e1 2).trans rfl; have hfy0 : w1.frozen? ⟨w.heap.size + 1, 0, none⟩ = false := blk_frozen e1 0; have hfy1 : w1.frozen? ⟨w.heap.size + 1, 1, none⟩ = false := blk_frozen e1 1; have hfy2 : w1.frozen? ⟨w.heap.size + 1, 2, none⟩ = false := blk_frozen e1 2; clear e0 e1)
        | (go_at_call 75; (first | (with_reducible refine (impl_within.calls _ _ _ _ _ HW1.out).mono ?_) | (with_reducible refine (impl_within.calls _ _ _ _ _ HW2.out).mono ?_)); rintro e w' ⟨rfl, ⟨nd, rfl⟩⟩))
      refine bodyPost_ret (results_ct rfl _ _ (w.heap.size + 1) 44 #[.int .i64 0, .int .i64 0, .slice none 0 0] (0, 0) _ rfl (blk_put (cs := #[.int .i64 0, .int .i64 0, .slice none 0 0]) (blk_put (cs := #[.int .i64 0, .int .i64 0, .slice none 0 0]) (blk_put (cs := #[.int .i64 0, .int .i64 0, .slice none 0 0]) (by (with_reducible repeat (first | refine blk_drewN ?_ _ | refine blk_drew ?_)); exact E1.out) 0 _ rfl) 1 _ rfl) 2 _ rfl) Try.underlying44 rfl (by kernel_rfl)) rfl ?_
      exact ⟨_, rfl, Kd.R_nil _ _ _ _ _, Below.setCell (Below.setCell (Below.setCell (by repeat (first | exact HB1.out | apply below_alloc | apply pw_below_drewN | apply below_drew1)) (show w.heap.size ≤ w.heap.size + 1 by omega) _) (show w.heap.size ≤ w.heap.size + 1 by omega) _) (show w.heap.size ≤ w.heap.size + 1 by omega) _⟩

end Go.Proofs.Ythakmnjamdggeaa.PFnExactMakePuzzle
