/- Printed by a program of this session (wip/pp) over the kit's print, for FnExactSureCalls. No conditions beyond those that each theorem names. -/
import Derived.Test.YthakmnjamdggeaaPFnExactSureCallsx0
import Derived.Test.YthakmnjamdggeaaPFnExactSureCallsx7
import Derived.Test.YthakmnjamdggeaaPFnExactSureCallsx8
namespace Go.Proofs.Ythakmnjamdggeaa.PFnExactSureCalls
open Go.RowKit Go.Proofs.YthakmnjamdggeaaW.PrintWords Go.Proofs.YthakmnjamdggeaaW.PrintLast Go.Proofs.YthakmnjamdggeaaW.PrintMore
attribute [local go_sem] max2_int min2_int max_two min_two max_three min_three max_four min_four   -- for this text's walks alone
set_option linter.unusedVariables false
set_option linter.unusedSimpArgs false

/-! ### impl_Call_82: function 82, by hand -/
theorem infCall : (Try.prog.info? 74).map (fun i => (i.zero, i.size, i.bytes)) = some (some (.agg #[(.int .i64 0), (.int .i64 0)]), 2, 16) := by kernel_rfl
theorem infCalls : (Try.prog.info? 74).map (·.size) = some k74.sz := by kernel_rfl
theorem flatCall (W w : World) (base : Nat) (okp : Nat → Prop) : ∀ x cs, k74.K w x cs → k74.M W base okp x cs := by
  intro x cs h
  obtain rfl := k74_open h
  exact k74_mkM W base okp x
set_option maxHeartbeats 1000000 in
set_option maxRecDepth 100000 in
theorem cloneCall (A0 : Option Addr) (c0 : Nat) (l0 : List S74) (w : World) (hr0 : Kd.C k74 w A0 l0.length l0) (hl : l0.length ≤ 1048576) :
    Calls Try.prog 82 #[.slice A0 l0.length c0] w fun e w' => ∃ v0_ : Value, e = .returned (v0_) ∧ Kd.R k74 74 w' w.heap.size (fun _ => True) v0_ l0 ∧ Below w.heap.size w w' := by
  have hnil : ∀ (w : World) (a : Option Addr) (n c : Nat), (binOp .eql 33 (.slice a n c) (.slice none 0 0)).run Try.prog w = .ok (.bool a.isNone) w := fun w a n c => Lib.run_eql_slice_nil w 33 74 a n c 0 0 Try.underlying33
  have HR0 := Aside0.mk hr0
  clear hr0
  cases A0 with
  | none =>
    have h0 : l0 = [] := by
      have h1 := HR0.out
      by_cases hn : 0 < l0.length
      · obtain ⟨ad, h2, _⟩ := h1.2.2 hn
        cases h2
      · exact List.eq_nil_of_length_eq_zero (by omega)
    subst h0
    go_enter Try.func82, Try.ntmps82
    go_wp2
    go_ret
    exact ⟨_, rfl, Kd.R_nil _ _ _ _ _, by repeat (first | exact Below.refl _ _ | apply below_alloc | apply pw_below_drewN | apply below_drew1)⟩
  | some ad =>
    have HE := Aside0.mk (R_empty k74 74 w)
    go_enter Try.func82, Try.ntmps82
    go_wp2_with (at_builtin; refine Kd.R_append_rows k74 (w0 := w) w.heap.size rfl (.tmp 5) (.tmp 6) 33 74 (.agg #[(.int .i64 0), (.int .i64 0)]) 16 rfl Try.underlying33 infCall rfl (by decide) (by decide) _ [] l0 _ _ _ (fun _ => True) (fun k => some k ≠ (Value.slice (some ⟨w.heap.size, 0, none⟩) 0 0).ownBlock) rfl rfl HE.out (Kd.C_below HR0.out (below_alloc (Below.refl _ _) _)) (fun x cs => flatCall _ _ _ _ x cs) (fun k hk => ⟨trivial, hk⟩) (fun k _ => trivial) (below_alloc (Below.refl _ _) _) (by simp) (by simp; omega) ?_; intro v1 w1 h1 h2 h3 h4; have H1 := Aside0.mk h1; have H2 := Aside0.mk h2; clear h1 h2 h3 h4)
    go_ret
    exact ⟨_, rfl, H1.out, H2.out⟩
def impl_Call_82.f (l0 : List S74) : Option (List S74) := if l0.length ≤ 1048576 then some l0 else none
theorem impl_Call_82.calls (A0 : Option Addr) (c0 : Nat) (l0 : List S74) (r : List S74) (w : World) (hr0 : Kd.C k74 w A0 l0.length l0) (hc0 : l0.length ≤ c0) (h : impl_Call_82.f l0 = some r) :
    Calls Try.prog 82 #[.slice A0 l0.length c0] w fun e w' => ∃ v0_ : Value, e = .returned (v0_) ∧ Kd.R k74 74 w' w.heap.size (fun _ => True) v0_ r ∧ Below w.heap.size w w' := by
  unfold impl_Call_82.f at h
  by_cases hk : l0.length ≤ 1048576
  · rw [if_pos hk] at h
    obtain rfl := Option.some.inj h
    exact cloneCall A0 c0 l0 w hr0 hk
  · rw [if_neg hk] at h
    cases h


/-! ### impl_Clue_101: function 101, by hand -/
set_option maxHeartbeats 1000000 in
set_option maxRecDepth 100000 in
theorem idxClue (fn : FuncId) (g : Func) (cap : Array Value) (p : S31 → Bool) (hf : Try.prog.funcs[fn]? = some g) (hname : (g.name == "runtime.NumGoroutine") = false) (hb : g.body.isSome = true)
    (A0 : Option Addr) (c0 : Nat) (l0 : List S31) (w : World) (hr0 : Kd.C k31 w A0 l0.length l0)
    (ho : Owes Try.prog fn (fun x : S31 => .agg #[.int .i64 x.f0, .int .i64 x.f1, .int .i64 x.f2, .int .i64 x.f3]) cap p l0 w) :
    Calls Try.prog 101 #[.slice A0 l0.length c0, .func (.func fn) #[] cap] w fun e w' => ∃ r : Int, e = .returned (.int .i64 r) ∧ decide (r ≥ 0) = l0.any p ∧ Below w.heap.size w w' := by
  have hu := Try.underlying31
  have HR0 := Aside0.mk hr0
  have HO := Aside0.mk ho
  have HF := Aside0.mk hf
  have HM := hr0.2.1
  clear hr0 ho hf
  go_enter Try.func101, Try.ntmps101
  go_wp2
  go_loopw [8] (fun v wr => ∃ k : Nat, k ≤ l0.length ∧ v = .int .i64 k ∧ Aside0 ((l0.take k).any p = false) ∧ Aside0 (Below w.heap.size w wr)) (fun v _ => l0.length - (intOf v).toNat)
  case atStart => exact ⟨0, Nat.zero_le _, rfl, ⟨rfl⟩, ⟨Below.refl _ _⟩⟩
  case round =>
    obtain ⟨k, hk, rfl, HA, HB⟩ := hrel
    by_cases hlt : k < l0.length
    · have p1 : (0 : Int) ≤ (k : Int) := by omega
      have q1 : (k : Int) < (l0.length : Int) := by omega
      obtain ⟨ad, e1, hx0, hx1, hx2, hx3⟩ := at_T31 HR0.out (k : Int) p1 q1
      cases e1
      replace hx0 := (HB.out.cell (World.block_lt_of_cell? w _ hx0)).trans hx0
      replace hx1 := (HB.out.cell (World.block_lt_of_cell? w _ hx1)).trans hx1
      replace hx2 := (HB.out.cell (World.block_lt_of_cell? w _ hx2)).trans hx2
      replace hx3 := (HB.out.cell (World.block_lt_of_cell? w _ hx3)).trans hx3
      simp only [Int.toNat_natCast] at hx0 hx1 hx2 hx3
      have hmem := mem_getD l0 k hlt z31
      have hc := HO.out (rd_T31 l0 (k : Int)) (by simpa [rd_T31] using hmem) wr HB.out
      obtain ⟨b, hpb⟩ : ∃ b, p (rd_T31 l0 (k : Int)) = b := ⟨_, rfl⟩
      rw [hpb] at hc
      have HC := Aside0.mk hc
      have HP := Aside0.mk hpb
      clear hc hpb hmem
      cases b with
      | true =>
        go_wp2_with (refine goesV_ (some 16) rfl rfl HF.out hname hb (#[_] ++ cap) rfl rfl (by simp; rfl) ?_; refine HC.out.mono ?_; rintro e w1 ⟨rfl, hb1⟩; refine ⟨_, rfl, ?_⟩)
        go_ret
        exact ⟨_, rfl, by rw [any_of_at p l0 k hlt z31 (by simpa [rd_T31] using HP.out)]; simp, HB.out.trans (hb1.mono HB.out.size)⟩
      | false =>
        go_wp2_with (refine goesV_ (some 16) rfl rfl HF.out hname hb (#[_] ++ cap) rfl rfl (by simp; rfl) ?_; refine HC.out.mono ?_; rintro e w1 ⟨rfl, hb1⟩; refine ⟨_, rfl, ?_⟩)
        go_roundw
        case rel => exact ⟨k + 1, by omega, by go_num, ⟨take_any_snoc p l0 k hlt z31 HA.out (by simpa [rd_T31] using HP.out)⟩, ⟨HB.out.trans (hb1.mono HB.out.size)⟩⟩
        case measure => simp [intOf]; omega
    · go_wp2
      go_ret
      exact ⟨_, rfl, by have h1 := HA.out; rw [List.take_of_length_le (by omega)] at h1; rw [h1]; rfl, HB.out⟩


/-! ### impl_Clue_83: function 83, by hand -/
theorem hasClue (fn : FuncId) (g : Func) (cap : Array Value) (p : S31 → Bool) (hf : Try.prog.funcs[fn]? = some g) (hname : (g.name == "runtime.NumGoroutine") = false) (hb : g.body.isSome = true)
    (A0 : Option Addr) (c0 : Nat) (l0 : List S31) (w : World) (hr0 : Kd.C k31 w A0 l0.length l0)
    (ho : Owes Try.prog fn (fun x : S31 => .agg #[.int .i64 x.f0, .int .i64 x.f1, .int .i64 x.f2, .int .i64 x.f3]) cap p l0 w) :
    Calls Try.prog 83 #[.slice A0 l0.length c0, .func (.func fn) #[] cap] w fun e w' => e = .returned (.bool (l0.any p)) ∧ Below w.heap.size w w' := by
  have HC := Aside0.mk (idxClue fn g cap p hf hname hb A0 c0 l0 w hr0 ho)
  clear hr0 ho hf
  go_enter Try.func83, Try.ntmps83
  go_wp2_with (go_at_call 101; refine HC.out.mono ?_; rintro e w1 ⟨r, rfl, hr, hb1⟩; have HR := Aside0.mk hr; have HB := Aside0.mk hb1; clear hr hb1)
  go_ret
  exact ⟨by rw [HR.out]; rfl, HB.out⟩

-- NOT PRINTED: function 84 (impl_hidden_1_1)

-- NOT PRINTED: function 80 (impl_hidden_1)

/-! ### impl_hidden: function 50, by hand -/
def fitsB (k : Nat) (n : Int) (l : List S74) (c : S31) : Bool := (impl_Clue_fits.f k c.f0 c.f1 c.f2 c.f3 n l).getD false
/-- all that is asked is told -/
def hidOk (k : Nat) (n : Int) (cs : List S31) (ps : List S74) : Nat → List S74 → Bool
  | 0, l => cs.all fun c => (impl_Clue_fits.f k c.f0 c.f1 c.f2 c.f3 n l).isSome
  | m + 1, l => ps.all fun p => hidOk k n cs ps m (l ++ [p])
/-- the lists that begin so, with m calls more -/
def hidL (k : Nat) (n : Int) (cs : List S31) (ps : List S74) : Nat → List S74 → List (List S74)
  | 0, l => if (cs.any fun c => !fitsB k n l c) = true then [] else [l]
  | m + 1, l => ps.flatMap fun p => hidL k n cs ps m (l ++ [p])
def impl_hidden.f (k : Nat) (a0 a1 : Int) (l2 : List S31) : Option (List (List S74)) :=
  (impl_allPairs.f k a0).bind fun ps => if 0 ≤ a1 ∧ a1 ≤ 3 ∧ ps.length ≤ 6 ∧ l2.length ≤ 1048576 ∧ hidOk k a0 l2 ps a1.toNat [] = true then some (hidL k a0 l2 ps a1.toNat []) else none
theorem hid_mono (k : Nat) (n : Int) (cs : List S31) (ps : List S74) : ∀ (m : Nat) (l : List S74), hidOk k n cs ps m l = true → hidOk (k + 1) n cs ps m l = true ∧ hidL (k + 1) n cs ps m l = hidL k n cs ps m l := by
  intro m
  induction m with
  | zero =>
    intro l h
    unfold hidOk at h ⊢
    rw [List.all_eq_true] at h
    have hs : ∀ c, c ∈ cs → impl_Clue_fits.f (k + 1) c.f0 c.f1 c.f2 c.f3 n l = impl_Clue_fits.f k c.f0 c.f1 c.f2 c.f3 n l := fun c hc => by
      obtain ⟨x, hx⟩ := Option.isSome_iff_exists.1 (h c hc)
      rw [impl_Clue_fits.mono _ _ _ _ _ _ k _ hx, hx]
    refine ⟨?_, ?_⟩
    · rw [List.all_eq_true]
      exact fun c hc => by rw [hs c hc]; exact h c hc
    · unfold hidL
      have e : (cs.any fun c => !fitsB (k + 1) n l c) = (cs.any fun c => !fitsB k n l c) := by
        rw [Bool.eq_iff_iff, List.any_eq_true, List.any_eq_true]
        constructor
        · rintro ⟨c, hc, h2⟩
          exact ⟨c, hc, by unfold fitsB at h2 ⊢; rw [hs c hc] at h2; exact h2⟩
        · rintro ⟨c, hc, h2⟩
          exact ⟨c, hc, by unfold fitsB at h2 ⊢; rw [hs c hc]; exact h2⟩
      rw [e]
  | succ m ih =>
    intro l h
    unfold hidOk at h ⊢
    rw [List.all_eq_true] at h
    refine ⟨?_, ?_⟩
    · rw [List.all_eq_true]
      exact fun p hp => (ih _ (h p hp)).1
    · unfold hidL
      rw [List.flatMap_def, List.flatMap_def]
      exact congrArg _ (List.map_congr_left fun p hp => (ih _ (h p hp)).2)
theorem impl_hidden.mono : ∀ a0 a1 a2 k, LeO (impl_hidden.f k a0 a1 a2) (impl_hidden.f (k + 1) a0 a1 a2) := by
  intro a0 a1 a2 k r h
  unfold impl_hidden.f at h ⊢
  obtain ⟨p, h1, h2⟩ := Option.bind_eq_some_iff.1 h
  rw [impl_allPairs.mono a0 k _ h1, Option.bind_some]
  by_cases hc : 0 ≤ a1 ∧ a1 ≤ 3 ∧ p.length ≤ 6 ∧ a2.length ≤ 1048576 ∧ hidOk k a0 a2 p a1.toNat [] = true
  · rw [if_pos hc] at h2
    obtain ⟨h3, h4⟩ := hid_mono k a0 a2 p a1.toNat [] hc.2.2.2.2
    rw [if_pos ⟨hc.1, hc.2.1, hc.2.2.1, hc.2.2.2.1, h3⟩, h4, h2]
  · rw [if_neg hc] at h2
    cases h2
theorem hidL_len (k : Nat) (n : Int) (cs : List S31) (ps : List S74) (h6 : ps.length ≤ 6) : ∀ (m : Nat) (l : List S74), (hidL k n cs ps m l).length ≤ 6 ^ m := by
  intro m
  induction m with
  | zero => intro l; unfold hidL; split <;> simp
  | succ m ih =>
    intro l
    unfold hidL
    have : ∀ qs : List S74, (qs.flatMap fun p => hidL k n cs ps m (l ++ [p])).length ≤ qs.length * 6 ^ m := by
      intro qs
      induction qs with
      | nil => simp
      | cons p qs ih2 =>
        rw [List.flatMap_cons, List.length_append, List.length_cons, Nat.add_mul, Nat.one_mul]
        have := ih (l ++ [p])
        omega
    exact Nat.le_trans (this ps) (by rw [Nat.pow_succ, Nat.mul_comm]; exact Nat.mul_le_mul_left _ h6)
theorem flat_len (k : Nat) (n : Int) (cs : List S31) (ps : List S74) (h6 : ps.length ≤ 6) (m : Nat) (l : List S74) (j : Nat) : ((ps.take j).flatMap fun p => hidL k n cs ps m (l ++ [p])).length ≤ j * 6 ^ m := by
  induction j with
  | zero => simp
  | succ j ih =>
    by_cases hj : j < ps.length
    · rw [List.take_succ_eq_append_getElem hj, List.flatMap_append, List.length_append, List.flatMap_cons, List.flatMap_nil, List.append_nil, Nat.add_mul, Nat.one_mul]
      have := hidL_len k n cs ps h6 m (l ++ [ps[j]])
      omega
    · rw [List.take_of_length_le (by omega)] at ih ⊢
      exact Nat.le_trans ih (Nat.mul_le_mul_right _ (by omega))
set_option maxHeartbeats 1000000 in
set_option maxRecDepth 100000 in
theorem hid_11 (k : Nat) (n : Int) (A : Option Addr) (c : Nat) (l : List S74) (x : S31) (B0 B1 : Nat) (w : World) (hr : Kd.C k74 w A l.length l) (hc : l.length ≤ c) (hs : (impl_Clue_fits.f k x.f0 x.f1 x.f2 x.f3 n l).isSome = true)
    (q0 : w.cell? ⟨B0, 0, none⟩ = some (.int .i64 n)) (q1 : w.cell? ⟨B1, 0, none⟩ = some (.slice A l.length c)) :
    Calls Try.prog 84 #[.agg #[.int .i64 x.f0, .int .i64 x.f1, .int .i64 x.f2, .int .i64 x.f3], .pointer (some ⟨B0, 0, none⟩), .pointer (some ⟨B1, 0, none⟩)] w fun e w' => e = .returned (.bool (!fitsB k n l x)) ∧ Below w.heap.size w w' := by
  have hu := Try.underlying31
  obtain ⟨b, hb⟩ := Option.isSome_iff_exists.1 hs
  have HC := Aside0.mk (fun (W : World) (hB : Below w.heap.size w W) => impl_Clue_fits.calls k x.f0 x.f1 x.f2 x.f3 n A c l b W (Kd.C_below hr hB) hc hb)
  have HV := Aside0.mk (show fitsB k n l x = b by unfold fitsB; rw [hb]; rfl)
  have b0 := World.block_lt_of_cell? _ _ q0
  have b1 := World.block_lt_of_cell? _ _ q1
  clear hs hb hr hc
  rw [HV.out]
  go_enter Try.func84, Try.ntmps84
  go_wp2_with (go_at_call 57; refine (HC.out _ ?s1).mono ?_; (case s1 => repeat (first | exact Below.refl _ _ | apply below_alloc | apply pw_below_drewN | apply below_drew1)); rintro e w1 ⟨rfl, hb⟩)
  go_ret
  exact ⟨by simp, below_step (by repeat (first | exact Below.refl _ _ | apply below_alloc | apply pw_below_drewN | apply below_drew1)) hb⟩
/-- the variables of 'hidden' in memory, and the closure's own value -/
structure HBox where
  n : Int
  m : Int
  A2 : Option Addr
  k2 : Nat
  c2 : Nat
  bF : Nat
  bM : Nat
  bC : Nat
  bO : Nat
  bA : Nat
def HBox.caps (b : HBox) : Array Value := #[.pointer (some ⟨b.bM, 0, none⟩), .pointer (some ⟨b.bF, 0, none⟩), .pointer (some ⟨b.bA, 0, none⟩), .pointer (some ⟨b.bC, 0, none⟩), .pointer (some ⟨b.bO, 0, none⟩)]
def HBox.args (b : HBox) (v : Value) : Array Value := #[v, .pointer (some ⟨b.bM, 0, none⟩), .pointer (some ⟨b.bF, 0, none⟩), .pointer (some ⟨b.bA, 0, none⟩), .pointer (some ⟨b.bC, 0, none⟩), .pointer (some ⟨b.bO, 0, none⟩)]
def HBox.F (b : HBox) : Value := .func (.func 80) #[] b.caps
def HBox.nb (b : HBox) (k : Nat) : Prop := k ≠ b.bF ∧ k ≠ b.bM ∧ k ≠ b.bC ∧ k ≠ b.bO ∧ k ≠ b.bA
/-- what stays from W to W1: all blocks but out's own and those of its rows -/
structure HPre (b : HBox) (ok : Nat → Prop) (W W1 : World) : Prop where
  size : W.heap.size ≤ W1.heap.size
  block : ∀ k, k < W.heap.size → ¬ ok k → k ≠ b.bO → W1.heap[k]? = W.heap[k]?
theorem HPre.refl (b : HBox) (ok : Nat → Prop) (W : World) : HPre b ok W W := ⟨Nat.le_refl _, fun _ _ _ _ => rfl⟩
theorem HPre.cell {b : HBox} {ok : Nat → Prop} {W W1 : World} (h : HPre b ok W W1) {p : Addr} (hp : p.block < W.heap.size) (h1 : ¬ ok p.block) (h2 : p.block ≠ b.bO) : W1.cell? p = W.cell? p := World.cell?_of_block (h.block _ hp h1 h2)
theorem HPre.below {b : HBox} {ok : Nat → Prop} {W W1 W2 : World} (h : HPre b ok W W1) (hb : Below W1.heap.size W1 W2) : HPre b ok W W2 := ⟨Nat.le_trans h.size hb.size, fun k hk h1 h2 => (hb.block k (Nat.lt_of_lt_of_le hk h.size)).trans (h.block k hk h1 h2)⟩
theorem HPre.trans {b : HBox} {ok okj : Nat → Prop} {W W1 W2 : World} (h : HPre b ok W W1) (h2 : HPre b okj W1 W2) (ho : ∀ k, okj k → ok k ∨ W.heap.size ≤ k) : HPre b ok W W2 :=
  ⟨Nat.le_trans h.size h2.size, fun k hk n1 n2 => (h2.block k (Nat.lt_of_lt_of_le hk h.size) (fun hx => (ho k hx).elim n1 (fun hy => by omega)) n2).trans (h.block k hk n1 n2)⟩
structure HInv (w0 : World) (b : HBox) (ok : Nat → Prop) (acc : List (List S74)) (W : World) : Prop where
  below : Below w0.heap.size w0 W
  fr : W.cell? ⟨b.bF, 0, none⟩ = some (.int .i64 b.n)
  ca : W.cell? ⟨b.bM, 0, none⟩ = some (.int .i64 b.m)
  cl : W.cell? ⟨b.bC, 0, none⟩ = some (.slice b.A2 b.k2 b.c2)
  ad : W.cell? ⟨b.bA, 0, none⟩ = some b.F
  base : w0.heap.size ≤ b.bO
  ne : b.bF ≠ b.bO ∧ b.bM ≠ b.bO ∧ b.bC ≠ b.bO ∧ b.bA ≠ b.bO
  out : ∃ v, W.cell? ⟨b.bO, 0, none⟩ = some v ∧ W.frozen? ⟨b.bO, 0, none⟩ = false ∧ Kd.S (Kd.slice 74 k74) 33 W w0.heap.size ok v acc
  okb : ∀ k, ok k → k < W.heap.size ∧ b.nb k
theorem HInv.step {w0 W W1 : World} {b : HBox} {ok : Nat → Prop} {acc : List (List S74)} (h : HInv w0 b ok acc W) (hb : Below W.heap.size W W1) : HInv w0 b ok acc W1 := by
  obtain ⟨v, h1, h2, h3⟩ := h.out
  refine ⟨h.below.trans (hb.mono h.below.size), (hb.cell (World.block_lt_of_cell? _ _ h.fr)).trans h.fr, (hb.cell (World.block_lt_of_cell? _ _ h.ca)).trans h.ca, (hb.cell (World.block_lt_of_cell? _ _ h.cl)).trans h.cl, (hb.cell (World.block_lt_of_cell? _ _ h.ad)).trans h.ad, h.base, h.ne, ⟨v, (hb.cell (World.block_lt_of_cell? _ _ h1)).trans h1, ?_, Kd.S_below h3 hb⟩, fun k hk => ⟨Nat.lt_of_lt_of_le (h.okb k hk).1 hb.size, (h.okb k hk).2⟩⟩
  rw [← h2]
  exact hb.frozen (World.block_lt_of_cell? _ _ h1)
theorem HInv.size {w0 W : World} {b : HBox} {ok : Nat → Prop} {acc : List (List S74)} (h : HInv w0 b ok acc W) : w0.heap.size ≤ W.heap.size := h.below.size
/-- one call in a row of its own -/
theorem oneCall (W0 W : World) (c : S74) (B : Nat) (q0 : W.cell? ⟨B, 0, none⟩ = some (.int .i64 c.f0)) (q1 : W.cell? ⟨B, 1, none⟩ = some (.int .i64 c.f1)) : ReadsRow (fun y cs => k74.K W0 y cs) k74.sz W (some ⟨B, 0, none⟩) 1 [c] := by
  refine ⟨rfl, by omega, fun _ => ⟨_, rfl, fun j p hj => ?_⟩⟩
  have h0 : j = 0 := by
    have := (List.getElem?_eq_some_iff.1 hj).1
    simp at this
    omega
  subst h0
  obtain rfl : c = p := by simpa using hj
  refine ⟨_, rfl, k74_mk W0 c, fun i u hi => ?_⟩
  match i, hi with
  | 0, hi => obtain rfl : Value.int .i64 c.f0 = u := by simpa using hi
             simpa [Addr.add] using q0
  | 1, hi => obtain rfl : Value.int .i64 c.f1 = u := by simpa using hi
             simpa [Addr.add] using q1
  | i + 2, hi => simp at hi
theorem HInv.put {w0 W w1 w2 : World} {b : HBox} {ok okL : Nat → Prop} {acc acc' : List (List S74)} {v v1 : Value} (hI : HInv w0 b ok acc W) (hB : Below W.heap.size W w1) (hL : ∀ k, okL k → ¬ ok k ∧ b.nb k) (hv : ∀ k, v.ownBlock = some k → ok k)
    (h1 : Kd.S (Kd.slice 74 k74) 33 w2 w0.heap.size (fun k => ok k ∨ okL k ∨ w1.heap.size ≤ k) v1 acc') (h2 : Below w0.heap.size w0 w2) (h3 : w1.grownBy w2 v.ownBlock) :
    (∃ ok1, HInv w0 b ok1 acc' (w2.setCell ⟨b.bO, 0, none⟩ v1) ∧ ∀ k, ok1 k → ok k ∨ okL k ∨ W.heap.size ≤ k) ∧ HPre b ok W (w2.setCell ⟨b.bO, 0, none⟩ v1) := by
  obtain ⟨v0, qo, qf, _⟩ := hI.out
  have zo := World.block_lt_of_cell? _ _ qo
  have zF := World.block_lt_of_cell? _ _ hI.fr
  have zM := World.block_lt_of_cell? _ _ hI.ca
  have zC := World.block_lt_of_cell? _ _ hI.cl
  have zA := World.block_lt_of_cell? _ _ hI.ad
  simp only at zo zF zM zC zA
  have hnb : ∀ k, v.ownBlock = some k → b.nb k := fun k hk => (hI.okb k (hv k hk)).2
  have hkeep : ∀ k, k < W.heap.size → some k ≠ v.ownBlock → w2.heap[k]? = W.heap[k]? := fun k hk hne => (h3.block k (Nat.lt_of_lt_of_le hk hB.size) hne).trans (hB.block k hk)
  have hbx : ∀ p : Addr, p.block < W.heap.size → (¬ b.nb p.block) → w2.cell? p = W.cell? p := fun p hp hn => World.cell?_of_block (hkeep p.block hp (fun he => hn (hnb _ he.symm)))
  have nF : ¬ b.nb b.bF := fun h => h.1 rfl
  have nM : ¬ b.nb b.bM := fun h => h.2.1 rfl
  have nC : ¬ b.nb b.bC := fun h => h.2.2.1 rfl
  have nO : ¬ b.nb b.bO := fun h => h.2.2.2.1 rfl
  have nA : ¬ b.nb b.bA := fun h => h.2.2.2.2 rfl
  have hsz : (w2.setCell ⟨b.bO, 0, none⟩ v1).heap.size = w2.heap.size := by simp [World.setCell]
  have hle : w1.heap.size ≤ w2.heap.size := h3.size
  have hnb2 : ∀ k, (ok k ∨ okL k ∨ w1.heap.size ≤ k) → b.nb k := by
    rintro k (hk | hk | hk)
    · exact (hI.okb k hk).2
    · exact (hL k hk).2
    · have := hB.size
      exact ⟨by omega, by omega, by omega, by omega, by omega⟩
  have hfar : ∀ p : Addr, p.block ≠ b.bO → (w2.setCell ⟨b.bO, 0, none⟩ v1).cell? p = w2.cell? p := fun p hp => World.cell?_of_block (Below.heap_setCell w2 ⟨b.bO, 0, none⟩ v1 p.block hp)
  refine ⟨⟨fun k => (ok k ∨ okL k ∨ w1.heap.size ≤ k) ∧ k < w2.heap.size, ⟨Below.setCell h2 hI.base _, (hfar _ hI.ne.1).trans ((hbx _ zF nF).trans hI.fr), (hfar _ hI.ne.2.1).trans ((hbx _ zM nM).trans hI.ca), (hfar _ hI.ne.2.2.1).trans ((hbx _ zC nC).trans hI.cl), (hfar _ hI.ne.2.2.2).trans ((hbx _ zA nA).trans hI.ad), hI.base, hI.ne, ⟨v1, ?_, ?_, ?_⟩, ?_⟩, ?_⟩, ⟨?_, ?_⟩⟩
  · exact World.cell?_setCell_same' _ _ _ (by rw [hbx _ zo nO, qo]; rfl)
  · rw [World.frozen?_setCell]
    exact (World.frozen?_of_block (hkeep b.bO zo (fun he => nO (hnb _ he.symm)))).trans qf
  · exact Kd.S_far (p := ⟨b.bO, 0, none⟩) (Kd.S_mono (Kd.S_bound h1) (fun k hk => ⟨hk.1, hk.2.2.1⟩)) (fun k hk => (hnb2 k hk.1).2.2.2.1) v1
  · exact fun k hk => ⟨by rw [hsz]; exact hk.2, hnb2 k hk.1⟩
  · rintro k ⟨hk | hk | hk, _⟩
    · exact .inl hk
    · exact .inr (.inl hk)
    · exact .inr (.inr (Nat.le_trans hB.size hk))
  · rw [hsz]
    exact Nat.le_trans hB.size hle
  · exact fun k hk h1 h2 => (Below.heap_setCell w2 ⟨b.bO, 0, none⟩ v1 k h2).trans (hkeep k hk (fun he => h1 (hv k he.symm)))
theorem infCallS : (Try.prog.info? 33).map (fun i => (i.zero, i.size, i.bytes)) = some (some (.slice none 0 0), 1, 24) := by kernel_rfl
/-- A call of a function value, in a region that draws its order. -/
theorem stepV_ {P : Program} {ops : Array Oper} {Q : Exit → Act → World → Prop} {Kc : Act → World → Prop} {o : Oper} {a : Act} {w : World} (x : Operand) {ags : Array Operand} {ts : Array TypeId} (hop : o.op = .call { callee := .value x, args := ags, argTypes := ts }) (hw : Region.wanted o (yielded ops a.tmps) = true) {f : FuncId} {fn : Func} {first cap : Array Value} (hf : P.funcs[f]? = some fn) (hname : (fn.name == "runtime.NumGoroutine") = false) (hb : fn.body.isSome = true) (args : Array Value)
    (hx : a.eval x = .func (.func f) first cap) (hargs : (first ++ ags.map a.eval) ++ cap = args)
    (h : Calls P f args w fun e w' => ∃ v, e = .returned v ∧ Kc (a.put o.dst v) w') : if Region.wanted o (yielded ops a.tmps) = true then Oper.wp P o a w Kc Q else Kc (a.put o.dst undef) w := by
  rw [if_pos hw]
  have he := enters_ hf hname hb args w
  have hrun : (execOp a.eval o).run P w = .ok (.enter f args) w := by
    unfold execOp
    simp [hop, resolve, hx, Deferred.ofValue, invoke, hargs, he]
  unfold Oper.wp
  rw [hrun, Oper.upon_enter]
  refine h.mono fun e w'' hh => ?_
  obtain ⟨v, rfl, hk⟩ := hh
  exact hk
set_option maxHeartbeats 1000000 in
set_option maxRecDepth 100000 in
theorem hid_leaf (k : Nat) (w0 : World) (b : HBox) (ps : List S74) (cs : List S31) (hC : Kd.C k31 w0 b.A2 cs.length cs) (hk2 : b.k2 = cs.length) (l : List S74) (acc : List (List S74)) (W : World) (ok okL : Nat → Prop) (A : Option Addr) (c : Nat)
    (hI : HInv w0 b ok acc W) (hR : Kd.R k74 74 W w0.heap.size okL (.slice A l.length c) l) (hL : ∀ k, okL k → ¬ ok k ∧ b.nb k) (hm : (l.length : Int) = b.m) (hacc : acc.length < 1000) (hok : hidOk k b.n cs ps 0 l = true) :
    Calls Try.prog 80 (b.args (.slice A l.length c)) W fun e W1 => e = .returned (.tuple #[]) ∧ (∃ ok1, HInv w0 b ok1 (acc ++ hidL k b.n cs ps 0 l) W1 ∧ ∀ k, ok1 k → ok k ∨ okL k ∨ W.heap.size ≤ k) ∧ HPre b ok W W1 := by
  have hmf : ∀ (fn : Fn) (first cap : Array Value) (w : World), (Instr.makeFunc fn first cap).run Try.prog w = .ok (.func fn first cap) w := fun _ _ _ _ => rfl
  have hu := Try.underlying33
  obtain ⟨_, hlc, hRC⟩ := Kd.R_reads' hR
  obtain ⟨v, qo, qf, hO⟩ := hI.out
  obtain ⟨Ao, co, rfl⟩ := Kd.S_slice hO
  have q0 := hI.fr
  have q1 := hI.ca
  have q2 := hI.cl
  have z0 := World.block_lt_of_cell? _ _ q0
  have z1 := World.block_lt_of_cell? _ _ q1
  have z2 := World.block_lt_of_cell? _ _ q2
  have z3 := World.block_lt_of_cell? _ _ qo
  rw [hk2] at q2
  have hmx := hRC.2.1
  have hlt : ¬ ((l.length : Int) < b.m) := by omega
  unfold hidOk at hok
  rw [List.all_eq_true] at hok
  have HC := Aside0.mk (fun (W1 : World) (hB : Below W.heap.size W W1) (hq0 : W1.cell? ⟨b.bF, 0, none⟩ = some (.int .i64 b.n)) (hq1 : W1.cell? ⟨W.heap.size, 0, none⟩ = some (.slice A l.length c)) => hasClue 84 _ #[.pointer (some ⟨b.bF, 0, none⟩), .pointer (some ⟨W.heap.size, 0, none⟩)] (fun x => !fitsB k b.n l x) Try.func84 rfl rfl b.A2 b.c2 cs W1 (Kd.C_below hC (hI.below.trans (hB.mono hI.size))) (fun x hx W2 hW => hid_11 k b.n A c l x b.bF W.heap.size W2 (Kd.C_below hRC (hB.trans (hW.mono hB.size))) hlc (hok x hx) ((hW.cell (World.block_lt_of_cell? _ _ hq0)).trans hq0) ((hW.cell (World.block_lt_of_cell? _ _ hq1)).trans hq1)))
  have HI := Aside0.mk hI
  have HR := Aside0.mk hR
  have HL := Aside0.mk hL
  have HO := Aside0.mk hO
  clear hC hI hR hRC hL hok hO
  unfold hidL
  unfold HBox.args at *
  obtain ⟨bb, hbb⟩ : ∃ x, (cs.any fun x => !fitsB k b.n l x) = x := ⟨_, rfl⟩
  rw [hbb] at HC ⊢
  clear hbb
  cases bb with
  | true =>
    go_enter Try.func80, Try.ntmps80
    go_wp2_with (go_at_call 83; refine (HC.out _ ?s1 ?s2 ?s3).mono ?_; (case s1 => repeat (first | exact Below.refl _ _ | apply below_alloc | apply pw_below_drewN | apply below_drew1)); (case s2 => go_simp); (case s3 => go_simp); rintro e w1 ⟨rfl, hb1⟩; have HB := Aside0.mk (show Below W.heap.size W w1 from below_step (by repeat (first | exact Below.refl _ _ | apply below_alloc | apply pw_below_drewN | apply below_drew1)) hb1); clear hb1)
    go_end0
    exact ⟨rfl, ⟨ok, by simpa using HI.out.step HB.out, fun k hk => .inl hk⟩, (HPre.refl b ok W).below HB.out⟩
  | false =>
    go_enter Try.func80, Try.ntmps80
    go_wp2_with (first | (go_at_call 83; refine (HC.out _ ?s1 ?s2 ?s3).mono ?_; (case s1 => repeat (first | exact Below.refl _ _ | apply below_alloc | apply pw_below_drewN | apply below_drew1)); (case s2 => go_simp); (case s3 => go_simp); rintro e w1 ⟨rfl, hb1⟩; have e0 : w1.cell? ⟨W.heap.size, 0, none⟩ = some (.slice A l.length c) := (hb1.cell (p := ⟨W.heap.size, 0, none⟩) (by simp)).trans (by go_simp); have HB := Aside0.mk (show Below W.heap.size W w1 from below_step (by repeat (first | exact Below.refl _ _ | apply below_alloc | apply pw_below_drewN | apply below_drew1)) hb1); clear hb1; have e1 := (HB.out.cell z3).trans qo; have e2 : w1.frozen? ⟨b.bO, 0, none⟩ = false := (HB.out.frozen z3).trans qf) | (at_builtin; refine Kd.S_append (Kd.slice 74 k74) (w0 := w0) w0.heap.size rfl (.tmp 32) (.tmp 34) 49 33 (.slice none 0 0) 24 rfl Try.underlying49 infCallS rfl (by decide) (by decide) _ acc l [.slice A l.length c] (fun k => ok k ∨ okL k ∨ w1.heap.size ≤ k) okL rfl rfl ⟨_, rfl, Kd.R_below HR.out HB.out⟩ (fun k hk => ⟨.inr (.inl hk), fun he => (HL.out k hk).1 ((Kd.S_R HO.out).1 k he.symm)⟩) (fun k hk => .inr (.inr hk)) (Kd.S_mono (Kd.S_below HO.out HB.out) (fun k hk => ⟨.inl hk, fun hx => (HL.out k hx).1 hk⟩)) (HI.out.below.trans (HB.out.mono HI.out.size)) (Nat.le_trans HI.out.size HB.out.size) (by omega) ?_; intro v1 w2 h1 h2 h3 h4; obtain ⟨A3, c3, rfl⟩ := Kd.S_slice h1; have f0 : w2.heap[b.bO]? = w1.heap[b.bO]? := h3.block b.bO (Nat.lt_of_lt_of_le z3 HB.out.size) (fun he => (HI.out.okb _ ((Kd.S_R HO.out).1 _ he.symm)).2.2.2.2.1 rfl); have f1 : w2.cell? ⟨b.bO, 0, none⟩ = _ := (World.cell?_of_block f0).trans e1; have f2 : w2.frozen? ⟨b.bO, 0, none⟩ = false := (World.frozen?_of_block f0).trans e2; have HX := Aside0.mk (HI.out.put HB.out HL.out (fun k hk => (Kd.S_R HO.out).1 k hk) h1 h2 h3); clear h1 h2 h3 h4 f0))
    go_end0
    exact ⟨rfl, by have h := HX.out; simp only [List.length_append, List.length_cons, List.length_nil, Nat.zero_add] at h; exact h⟩
set_option maxHeartbeats 4000000 in
set_option maxRecDepth 100000 in
theorem hid_step (k : Nat) (w0 : World) (b : HBox) (ps : List S74) (cs : List S31) (hps : impl_allPairs.f k b.n = some ps) (h6 : ps.length ≤ 6) (m : Nat)
    (ih : ∀ (l : List S74) (acc : List (List S74)) (W : World) (ok okL : Nat → Prop) (A : Option Addr) (c : Nat), HInv w0 b ok acc W → Kd.R k74 74 W w0.heap.size okL (.slice A l.length c) l → (∀ k, okL k → ¬ ok k ∧ b.nb k) → ((l.length + m : Nat) : Int) = b.m → acc.length + 6 ^ m < 1001 → hidOk k b.n cs ps m l = true →
      Calls Try.prog 80 (b.args (.slice A l.length c)) W fun e W1 => e = .returned (.tuple #[]) ∧ (∃ ok1, HInv w0 b ok1 (acc ++ hidL k b.n cs ps m l) W1 ∧ ∀ k, ok1 k → ok k ∨ okL k ∨ W.heap.size ≤ k) ∧ HPre b ok W W1)
    (l : List S74) (acc : List (List S74)) (W : World) (ok okL : Nat → Prop) (A : Option Addr) (c : Nat)
    (hI : HInv w0 b ok acc W) (hR : Kd.R k74 74 W w0.heap.size okL (.slice A l.length c) l) (hL : ∀ k, okL k → ¬ ok k ∧ b.nb k) (hm : ((l.length + (m + 1) : Nat) : Int) = b.m) (hacc : acc.length + 6 ^ (m + 1) < 1001) (hm2 : l.length ≤ 3) (hok : hidOk k b.n cs ps (m + 1) l = true) :
    Calls Try.prog 80 (b.args (.slice A l.length c)) W fun e W1 => e = .returned (.tuple #[]) ∧ (∃ ok1, HInv w0 b ok1 (acc ++ hidL k b.n cs ps (m + 1) l) W1 ∧ ∀ k, ok1 k → ok k ∨ okL k ∨ W.heap.size ≤ k) ∧ HPre b ok W W1 := by
  have hmf : ∀ (fn : Fn) (first cap : Array Value) (w : World), (Instr.makeFunc fn first cap).run Try.prog w = .ok (.func fn first cap) w := fun _ _ _ _ => rfl
  have hu := Try.underlying74
  obtain ⟨_, hlc, hRC⟩ := Kd.R_reads' hR
  have q0 := hI.fr
  have q1 := hI.ca
  have z0 := World.block_lt_of_cell? _ _ q0
  have z1 := World.block_lt_of_cell? _ _ q1
  have hmx := hRC.2.1
  have hlt : (l.length : Int) < b.m := by omega
  unfold hidOk at hok
  rw [List.all_eq_true] at hok
  have HP := Aside0.mk (fun W1 => impl_allPairs.calls k b.n ps W1 hps)
  have HI := Aside0.mk hI
  have HR := Aside0.mk hR
  have HL := Aside0.mk hL
  have HK := Aside0.mk hok
  clear hI hR hRC hL hok
  unfold hidL
  unfold HBox.args at *
  go_enter Try.func80, Try.ntmps80
  go_wp2_with (go_at_call 81; refine (HP.out _).mono ?_; rintro e w1 ⟨v, rfl, hr, hb⟩; obtain ⟨Ap, cp, rfl⟩ := Kd.R_slice hr; have HV := Aside0.mk hr; have HB := Aside0.mk hb; clear hr hb)
  have e0 : w1.cell? ⟨W.heap.size, 0, none⟩ = some (.slice A l.length c) := (HB.out.cell (p := ⟨W.heap.size, 0, none⟩) (by simp)).trans (by go_simp)
  have hsz : W.heap.size < w1.heap.size := by have := HB.out.size; simp at this; omega
  have HW := Aside0.mk (show Below W.heap.size W w1 from below_step (by repeat (first | exact Below.refl _ _ | apply below_alloc | apply pw_below_drewN | apply below_drew1)) HB.out)
  have HVV := Aside0.mk (Kd.R_lower (Kd.R_bound HV.out) (show w0.heap.size ≤ _ by have := HI.out.size; simp; omega))
  have zO : b.bO < W.heap.size := by obtain ⟨v, qo, _⟩ := HI.out.out; exact World.block_lt_of_cell? _ _ qo
  have hmp := (Kd.R_reads' HV.out).2.2.2.1
  have HE := Aside0.mk e0
  clear e0 hmx hlt q0 q1
  go_loopw [16] (fun n wr => ∃ j : Nat, j ≤ ps.length ∧ n = .int .i64 j ∧ Aside0 (∃ okj, HInv w0 b okj (acc ++ (ps.take j).flatMap fun p => hidL k b.n cs ps m (l ++ [p])) wr ∧ ∀ k, okj k → ok k ∨ w1.heap.size ≤ k) ∧ Aside0 (HPre b ok w1 wr)) (fun n _ => ps.length - (intOf n).toNat)
  case atStart => exact ⟨0, Nat.zero_le _, rfl, ⟨ok, by simpa using HI.out.step HW.out, fun k hk => .inl hk⟩, ⟨HPre.refl _ _ _⟩⟩
  case round =>
    obtain ⟨j, hj, rfl, ⟨okj, hIj, hokj⟩, HPr⟩ := hrel
    by_cases hlt : j < ps.length
    · have p1 : (0 : Int) ≤ (j : Int) := by omega
      have q1 : (j : Int) < (ps.length : Int) := by omega
      have hnok : ∀ k, W.heap.size ≤ k → ¬ ok k := fun k hk ho => by have := (HI.out.okb k ho).1; omega
      have HRp := Kd.R_step HVV.out (fun k hk hlt => HPr.out.block k hlt (hnok k (by have := hk.2.1; simp at this; omega)) (by have := hk.2.1; simp at this; omega))
      obtain ⟨ad, e1, hx0, hx1⟩ := at_T74 (Kd.R_reads' HRp).2.2 (j : Int) p1 q1
      cases e1
      simp only [Int.toNat_natCast] at hx0 hx1
      have hxq := (HPr.out.cell (p := ⟨W.heap.size, 0, none⟩) hsz (hnok _ (Nat.le_refl _)) (by simp; omega)).trans HE.out
      have hxa := hIj.ad
      have HRl := Kd.R_step (Kd.R_bound (Kd.R_below HR.out HW.out)) (fun k hk hlt => HPr.out.block k hlt (HL.out k hk.1).1 ((HL.out k hk.1).2.2.2.2.1))
      have he : rd_T74 ps (j : Int) = ps[j] := by simp [rd_T74, List.getD_eq_getElem?_getD, List.getElem?_eq_getElem hlt]
      have hok2 := HK.out (rd_T74 ps (j : Int)) (by rw [he]; exact List.getElem_mem hlt)
      obtain ⟨x, hxe⟩ : ∃ x_, x_ = ps[j] := ⟨_, rfl⟩
      rw [he, ← hxe] at hx0 hx1 hok2
      have hacc2 : acc.length + ((ps.take j).flatMap fun p => hidL k b.n cs ps m (l ++ [p])).length + 6 ^ m < 1001 := by
        have h1 := flat_len k b.n cs ps h6 m l j
        have h2 : (j + 1) * 6 ^ m ≤ 6 * 6 ^ m := Nat.mul_le_mul_right _ (by omega)
        rw [Nat.add_mul, Nat.one_mul] at h2
        rw [Nat.pow_succ, Nat.mul_comm] at hacc
        omega
      have HE1 := Aside0.mk (show acc ++ ((ps.take (j + 1)).flatMap fun p => hidL k b.n cs ps m (l ++ [p])) = (acc ++ (ps.take j).flatMap fun p => hidL k b.n cs ps m (l ++ [p])) ++ hidL k b.n cs ps m (l ++ [x]) by rw [List.take_succ_eq_append_getElem hlt, List.flatMap_append, List.flatMap_cons, List.flatMap_nil, List.append_nil, ← hxe, List.append_assoc])
      clear hxe he
      have hbs : wr.heap.size + 1 = (wr.alloc (Obj.cells #[Value.int .i64 x.f0, Value.int .i64 x.f1] 74)).heap.size := by simp
      obtain ⟨wb, hwb⟩ : ∃ wb_, wb_ = wr.alloc (Obj.cells #[Value.int .i64 x.f0, Value.int .i64 x.f1] 74) := ⟨_, rfl⟩
      have hBb : Below wr.heap.size wr wb := by rw [hwb]; exact below_alloc (Below.refl _ _) _
      have y0 : wb.cell? ⟨wr.heap.size, 0, none⟩ = some (.int .i64 x.f0) := by rw [hwb]; go_simp
      have y1 : wb.cell? ⟨wr.heap.size, 1, none⟩ = some (.int .i64 x.f1) := by rw [hwb]; go_simp
      rw [← hwb] at hbs
      have HQ := Aside0.mk (fun (W1 : World) (hB : Below wb.heap.size wb W1) => (⟨(hB.cell (p := ⟨b.bA, 0, none⟩) (by have := World.block_lt_of_cell? _ _ hxa; simp at this ⊢; omega)).trans ((hBb.cell (World.block_lt_of_cell? _ _ hxa)).trans hxa), (hB.cell (p := ⟨W.heap.size, 0, none⟩) (by have := World.block_lt_of_cell? _ _ hxq; simp at this ⊢; omega)).trans ((hBb.cell (World.block_lt_of_cell? _ _ hxq)).trans hxq), (hB.cell (p := ⟨wr.heap.size, 0, none⟩) (by simp; omega)).trans y0, (hB.cell (p := ⟨wr.heap.size, 1, none⟩) (by simp; omega)).trans y1⟩ :
        W1.cell? ⟨b.bA, 0, none⟩ = some (.func (.func 80) #[] #[.pointer (some ⟨b.bM, 0, none⟩), .pointer (some ⟨b.bF, 0, none⟩), .pointer (some ⟨b.bA, 0, none⟩), .pointer (some ⟨b.bC, 0, none⟩), .pointer (some ⟨b.bO, 0, none⟩)]) ∧ W1.cell? ⟨W.heap.size, 0, none⟩ = some (.slice A l.length c) ∧ W1.cell? ⟨wr.heap.size, 0, none⟩ = some (.int .i64 x.f0) ∧ W1.cell? ⟨wr.heap.size, 1, none⟩ = some (.int .i64 x.f1)))
      have HCl := Aside0.mk (fun (W1 : World) (hB : Below wb.heap.size wb W1) => cloneCall A c l W1 (Kd.C_below (Kd.R_reads' HRl).2.2 (hBb.trans (hB.mono (by omega)))) (by omega))
      have HIH := Aside0.mk (fun (W1 : World) (A3 : Option Addr) (c3 n3 : Nat) (hB : Below wb.heap.size wb W1) (hn : (l ++ [x]).length = n3) (hR3 : Kd.R k74 74 W1 wb.heap.size (fun _ => True) (.slice A3 n3 c3) (l ++ [x])) =>
        (show Calls Try.prog 80 #[.slice A3 n3 c3, .pointer (some ⟨b.bM, 0, none⟩), .pointer (some ⟨b.bF, 0, none⟩), .pointer (some ⟨b.bA, 0, none⟩), .pointer (some ⟨b.bC, 0, none⟩), .pointer (some ⟨b.bO, 0, none⟩)] W1 fun e W4 => e = .returned (.tuple #[]) ∧ (∃ ok1, HInv w0 b ok1 ((acc ++ (ps.take j).flatMap fun p => hidL k b.n cs ps m (l ++ [p])) ++ hidL k b.n cs ps m (l ++ [x])) W4 ∧ ∀ k, ok1 k → okj k ∨ (True ∧ wb.heap.size ≤ k ∧ k < W1.heap.size ∧ ∃ q, q ∈ 74 :: k74.E ∧ ∃ cells, W1.heap[k]? = some (.cells cells q (0, 0))) ∨ W1.heap.size ≤ k) ∧ HPre b okj W1 W4 from by
          have h := ih (l ++ [x]) (acc ++ (ps.take j).flatMap fun p => hidL k b.n cs ps m (l ++ [p])) W1 okj _ A3 c3 (hIj.step (hBb.trans (hB.mono (by omega)))) (by rw [hn]; exact Kd.R_lower (Kd.R_bound hR3) (by have := hIj.size; omega))
                (fun k hk => ⟨fun ho => by have := (hIj.okb k ho).1; have := hk.2.1; omega, by
                  have z1 := World.block_lt_of_cell? _ _ hIj.fr
                  have z2 := World.block_lt_of_cell? _ _ hIj.ca
                  have z3 := World.block_lt_of_cell? _ _ hIj.cl
                  have z4 := World.block_lt_of_cell? _ _ hxa
                  have z5 := hk.2.1
                  have z6 := HPr.out.size
                  simp only at z1 z2 z3 z4
                  exact ⟨by omega, by omega, by omega, by omega, by omega⟩⟩) (by simp only [List.length_append, List.length_cons, List.length_nil]; omega) (by rw [List.length_append]; exact hacc2) hok2
          rw [hn] at h
          exact h))
      have HS4 := Aside0.mk (fun (W3 W4 : World) (hB : Below wb.heap.size wb W3) (hp : HPre b okj W3 W4) =>
        (fun (h : W3.cell? ⟨b.bA, 0, none⟩ = some (.func (.func 80) #[] #[.pointer (some ⟨b.bM, 0, none⟩), .pointer (some ⟨b.bF, 0, none⟩), .pointer (some ⟨b.bA, 0, none⟩), .pointer (some ⟨b.bC, 0, none⟩), .pointer (some ⟨b.bO, 0, none⟩)]) ∧ W3.cell? ⟨W.heap.size, 0, none⟩ = some (.slice A l.length c) ∧ W3.cell? ⟨wr.heap.size, 0, none⟩ = some (.int .i64 x.f0) ∧ W3.cell? ⟨wr.heap.size, 1, none⟩ = some (.int .i64 x.f1)) =>
        (have hq : ¬ okj W.heap.size := fun ho => (hokj _ ho).elim (hnok _ (Nat.le_refl _)) (fun h => by omega)
         have hr : ¬ okj wr.heap.size := fun ho => by have := (hIj.okb _ ho).1; omega
         have ha : ¬ okj b.bA := fun ho => (hIj.okb _ ho).2.2.2.2.2 rfl
         have s1 := HPr.out.size
         have s2 := hB.size
         have z1 := World.block_lt_of_cell? _ _ hxa
         ⟨(hp.cell (p := ⟨b.bA, 0, none⟩) (by simp at z1 ⊢; omega) ha hIj.ne.2.2.2).trans h.1, (hp.cell (p := ⟨W.heap.size, 0, none⟩) (by simp; omega) hq (by simp; omega)).trans h.2.1, (hp.cell (p := ⟨wr.heap.size, 0, none⟩) (by simp; omega) hr (by simp; omega)).trans h.2.2.1, (hp.cell (p := ⟨wr.heap.size, 1, none⟩) (by simp; omega) hr (by simp; omega)).trans h.2.2.2⟩ :
         W4.cell? ⟨b.bA, 0, none⟩ = some (.func (.func 80) #[] #[.pointer (some ⟨b.bM, 0, none⟩), .pointer (some ⟨b.bF, 0, none⟩), .pointer (some ⟨b.bA, 0, none⟩), .pointer (some ⟨b.bC, 0, none⟩), .pointer (some ⟨b.bO, 0, none⟩)]) ∧ W4.cell? ⟨W.heap.size, 0, none⟩ = some (.slice A l.length c) ∧ W4.cell? ⟨wr.heap.size, 0, none⟩ = some (.int .i64 x.f0) ∧ W4.cell? ⟨wr.heap.size, 1, none⟩ = some (.int .i64 x.f1))) (HQ.out W3 hB))
      have HIJ := Aside0.mk hIj
      have HOK := Aside0.mk hokj
      have HBb := Aside0.mk hBb
      clear hIj hokj HRl HRp
      go_wp2
      rw [← hwb]
      clear hwb hx0 hx1 y0 y1 hxa hxq hBb
      go_region_held3 (fun W1 => W1.cell? ⟨b.bA, 0, none⟩ = some (.func (.func 80) #[] #[.pointer (some ⟨b.bM, 0, none⟩), .pointer (some ⟨b.bF, 0, none⟩), .pointer (some ⟨b.bA, 0, none⟩), .pointer (some ⟨b.bC, 0, none⟩), .pointer (some ⟨b.bO, 0, none⟩)]) ∧ W1.cell? ⟨W.heap.size, 0, none⟩ = some (.slice A l.length c) ∧ W1.cell? ⟨wr.heap.size, 0, none⟩ = some (.int .i64 x.f0) ∧ W1.cell? ⟨wr.heap.size, 1, none⟩ = some (.int .i64 x.f1))
        (first | assumption | exact HQ.out _ (by repeat (first | assumption | exact Below.refl _ _ | apply below_alloc | apply below_drew1 | apply pw_below_drewN)))
        (first
          | (go_at_call 82; refine Calls.mono (HCl.out _ (by repeat (first | assumption | exact Below.refl _ _ | apply below_alloc | apply below_drew1 | apply pw_below_drewN))) ?_; rintro e w2 ⟨v2, rfl, hr2, hb2⟩; obtain ⟨A2, c2, rfl⟩ := Kd.R_slice hr2; have hq2 : Below wb.heap.size wb w2 := below_step (by repeat (first | assumption | exact Below.refl _ _ | apply below_alloc | apply below_drew1 | apply pw_below_drewN)) hb2; have hO2 := Kd.R_lower hr2 (show wb.heap.size ≤ _ by simp); (try (have ha0 : w2.cell? ⟨wb.heap.size, 0, none⟩ = some (.int .i64 x.f0) := (hb2.cell (p := ⟨wb.heap.size, 0, none⟩) (by simp only [World.size_alloc, World.size_drew]; exact Nat.lt_succ_self _)).trans (by go_simp); have ha1 : w2.cell? ⟨wb.heap.size, 1, none⟩ = some (.int .i64 x.f1) := (hb2.cell (p := ⟨wb.heap.size, 1, none⟩) (by simp only [World.size_alloc, World.size_drew]; exact Nat.lt_succ_self _)).trans (by go_simp))); clear hr2 hb2)
          | (refine Kd.R_append_rows_step k74 (Rr := fun y cs => k74.K wb y cs) (w0 := wb) wb.heap.size (by rfl) (.tmp 22) (.tmp 24) 33 74 (.agg #[.int .i64 0, .int .i64 0]) 16 rfl Try.underlying33 infCall rfl (by decide) (by decide) (.slice A2 l.length c2) l [x] _ 1 1 (fun _ => True) (fun _ => False) rfl rfl (by first | exact hO2 | exact Kd.R_below hO2 (below_alloc (Below.refl _ _) _)) (by refine oneCall wb _ x _ ?_ ?_ <;> first | assumption | (go_simp; done)) (fun y cs => flatCall _ _ _ _ y cs) (fun _ hk => hk.elim) (fun _ _ => trivial) (by repeat (first | assumption | exact Below.refl _ _ | apply below_alloc | apply below_drew1 | apply pw_below_drewN)) (by have := hq2.size; first | exact this | (simp; omega)) (by omega) ?_; intro v3 w3 h1 h2 h3 h4; obtain ⟨A3, c3, rfl⟩ := Kd.R_slice h1; have hq3 := h2; clear h3 h4)
          | (go_at_call 80; refine Calls.mono (HIH.out _ A3 c3 _ hq3 (by simp) (by first | exact h1 | (have h := h1; simp only [List.length_append, List.length_cons, List.length_nil, Nat.zero_add] at h; exact h))) ?_; rintro e w4 ⟨rfl, ⟨ok4, hI4, ho4⟩, hp4⟩; have hs4 := HS4.out w3 w4 hq3 hp4))
      all_goals
        have HD4 := Aside0.mk hI4
        have HO4 := Aside0.mk ho4
        have HP4 := Aside0.mk hp4
        have HB3 := Aside0.mk hq3
        clear hI4 ho4 hp4 hq3
        go_wp2
        go_roundw
        case rel =>
          have s1 := HPr.out.size
          have s2 := HB3.out.size
          exact ⟨j + 1, by omega, by go_num, ⟨ok4, by rw [HE1.out]; exact HD4.out, fun k hk => by
            rcases HO4.out k hk with h | ⟨_, h, _⟩ | h
            · exact HOK.out k h
            · exact .inr (by omega)
            · exact .inr (by omega)⟩, ⟨(HPr.out.below (HBb.out.trans (HB3.out.mono (by omega)))).trans HP4.out HOK.out⟩⟩
        case measure => simp [intOf]; omega
    · go_wp2
      go_end0
      exact ⟨rfl, ⟨okj, by rw [List.take_of_length_le (by omega)] at hIj; exact hIj, fun k hk => (hokj k hk).imp id (fun h => .inr (by omega))⟩, ((HPre.refl b ok W).below HW.out).trans HPr.out (fun k hk => .inl hk)⟩
theorem hid_add (k : Nat) (w0 : World) (b : HBox) (ps : List S74) (cs : List S31) (hC : Kd.C k31 w0 b.A2 cs.length cs) (hk2 : b.k2 = cs.length) (hps : impl_allPairs.f k b.n = some ps) (h6 : ps.length ≤ 6) (h3 : b.m ≤ 3) : ∀ (m : Nat) (l : List S74) (acc : List (List S74)) (W : World) (ok okL : Nat → Prop) (A : Option Addr) (c : Nat), HInv w0 b ok acc W → Kd.R k74 74 W w0.heap.size okL (.slice A l.length c) l → (∀ k, okL k → ¬ ok k ∧ b.nb k) → ((l.length + m : Nat) : Int) = b.m → acc.length + 6 ^ m < 1001 → hidOk k b.n cs ps m l = true →
      Calls Try.prog 80 (b.args (.slice A l.length c)) W fun e W1 => e = .returned (.tuple #[]) ∧ (∃ ok1, HInv w0 b ok1 (acc ++ hidL k b.n cs ps m l) W1 ∧ ∀ k, ok1 k → ok k ∨ okL k ∨ W.heap.size ≤ k) ∧ HPre b ok W W1 := by
  intro m
  induction m with
  | zero => exact fun l acc W ok okL A c hI hR hL hm hacc hok => hid_leaf k w0 b ps cs hC hk2 l acc W ok okL A c hI hR hL (by omega) (by simp at hacc; omega) hok
  | succ m ih => exact fun l acc W ok okL A c hI hR hL hm hacc hok => hid_step k w0 b ps cs hps h6 m ih l acc W ok okL A c hI hR hL hm hacc (by omega) hok
set_option maxHeartbeats 4000000 in
set_option maxRecDepth 100000 in
theorem impl_hidden.calls (k : Nat) (a0 a1 : Int) (A2 : Option Addr) (c2 : Nat) (l2 : List S31) (r : List (List S74)) (w : World) (hr2 : Kd.C k31 w A2 l2.length l2) (hc2 : l2.length ≤ c2) (h : impl_hidden.f k a0 a1 l2 = some r) :
    Calls Try.prog 50 #[.int .i64 a0, .int .i64 a1, .slice A2 l2.length c2] w fun e w' => ∃ v0_ : Value, e = .returned (v0_) ∧ Kd.S (Kd.slice 74 k74) 33 w' w.heap.size (fun _ => True) v0_ r ∧ Below w.heap.size w w' := by
  have hmf : ∀ (fn : Fn) (first cap : Array Value) (w : World), (Instr.makeFunc fn first cap).run Try.prog w = .ok (.func fn first cap) w := fun _ _ _ _ => rfl
  unfold impl_hidden.f at h
  obtain ⟨ps, hps, h2⟩ := Option.bind_eq_some_iff.1 h
  clear h
  by_cases hk : 0 ≤ a1 ∧ a1 ≤ 3 ∧ ps.length ≤ 6 ∧ l2.length ≤ 1048576 ∧ hidOk k a0 l2 ps a1.toNat [] = true
  · rw [if_pos hk] at h2
    obtain rfl := Option.some.inj h2
    have hpow : (6 : Nat) ^ a1.toNat ≤ 6 ^ 3 := Nat.pow_le_pow_right (by omega) (by omega)
    have h216 : (6 : Nat) ^ 3 = 216 := by decide
    have hfit : 0 + (6 : Nat) ^ a1.toNat < 1001 := by omega
    have HA := Aside0.mk (fun (W : World) (ok okL : Nat → Prop) (A : Option Addr) (c : Nat) (hI : HInv w ⟨a0, a1, A2, l2.length, c2, w.heap.size, w.heap.size + 1, w.heap.size + 1 + 1, w.heap.size + 1 + 1 + 1 + 1, w.heap.size + 1 + 1 + 1 + 1 + 1⟩ ok [] W) (hR : Kd.R k74 74 W w.heap.size okL (.slice A 0 c) []) (hL : ∀ k, okL k → ¬ ok k ∧ (k ≠ w.heap.size ∧ k ≠ w.heap.size + 1 ∧ k ≠ w.heap.size + 1 + 1 ∧ k ≠ w.heap.size + 1 + 1 + 1 + 1 ∧ k ≠ w.heap.size + 1 + 1 + 1 + 1 + 1)) =>
      (show Calls Try.prog 80 #[.slice A 0 c, .pointer (some ⟨w.heap.size + 1, 0, none⟩), .pointer (some ⟨w.heap.size, 0, none⟩), .pointer (some ⟨w.heap.size + 1 + 1 + 1 + 1 + 1, 0, none⟩), .pointer (some ⟨w.heap.size + 1 + 1, 0, none⟩), .pointer (some ⟨w.heap.size + 1 + 1 + 1 + 1, 0, none⟩)] W fun e W1 => e = .returned (.tuple #[]) ∧ ∃ ok1, HInv w ⟨a0, a1, A2, l2.length, c2, w.heap.size, w.heap.size + 1, w.heap.size + 1 + 1, w.heap.size + 1 + 1 + 1 + 1, w.heap.size + 1 + 1 + 1 + 1 + 1⟩ ok1 (hidL k a0 l2 ps a1.toNat []) W1 from
        (hid_add k w ⟨a0, a1, A2, l2.length, c2, w.heap.size, w.heap.size + 1, w.heap.size + 1 + 1, w.heap.size + 1 + 1 + 1 + 1, w.heap.size + 1 + 1 + 1 + 1 + 1⟩ ps l2 hr2 rfl hps hk.2.2.1 hk.2.1 a1.toNat [] [] W ok okL A c hI hR hL (by simp; omega) hfit hk.2.2.2.2).mono (by
          rintro e W1 ⟨h1, ⟨ok1, h2, _⟩, _⟩
          exact ⟨h1, ok1, h2⟩)))
    have HI := Aside0.mk (show HInv w ⟨a0, a1, A2, l2.length, c2, w.heap.size, w.heap.size + 1, w.heap.size + 1 + 1, w.heap.size + 1 + 1 + 1 + 1, w.heap.size + 1 + 1 + 1 + 1 + 1⟩ (fun k => k = w.heap.size + 1 + 1 + 1) [] (((((((w.alloc (Obj.cells #[Value.int .i64 a0] 3)).alloc (Obj.cells #[Value.int .i64 a1] 3)).alloc (Obj.cells #[Value.slice A2 l2.length c2] 42)).alloc (Obj.cells #[] 33)).alloc (Obj.cells #[Value.slice (some ⟨w.heap.size + 1 + 1 + 1, 0, none⟩) 0 0] 49)).alloc (Obj.cells #[Value.func (.func 80) #[] #[Value.pointer (some ⟨w.heap.size + 1, 0, none⟩), Value.pointer (some ⟨w.heap.size, 0, none⟩), Value.pointer (some ⟨w.heap.size + 1 + 1 + 1 + 1 + 1, 0, none⟩), Value.pointer (some ⟨w.heap.size + 1 + 1, 0, none⟩), Value.pointer (some ⟨w.heap.size + 1 + 1 + 1 + 1, 0, none⟩)]] 98)).alloc (Obj.cells #[] 74)) from by
      refine ⟨by repeat (first | exact Below.refl _ _ | apply below_alloc), ?_, ?_, ?_, ?_, by show w.heap.size ≤ w.heap.size + 1 + 1 + 1 + 1; omega, ⟨by show w.heap.size ≠ w.heap.size + 1 + 1 + 1 + 1; omega, by show w.heap.size + 1 ≠ w.heap.size + 1 + 1 + 1 + 1; omega, by show w.heap.size + 1 + 1 ≠ w.heap.size + 1 + 1 + 1 + 1; omega, by show w.heap.size + 1 + 1 + 1 + 1 + 1 ≠ w.heap.size + 1 + 1 + 1 + 1; omega⟩, ⟨Value.slice (some ⟨w.heap.size + 1 + 1 + 1, 0, none⟩) 0 0, ?_, ?_, ?_⟩, ?_⟩
      · show World.cell? _ ⟨w.heap.size, 0, none⟩ = some (.int .i64 a0)
        go_simp
      · show World.cell? _ ⟨w.heap.size + 1, 0, none⟩ = some (.int .i64 a1)
        go_simp
      · show World.cell? _ ⟨w.heap.size + 1 + 1, 0, none⟩ = some (.slice A2 l2.length c2)
        go_simp
      · show World.cell? _ ⟨w.heap.size + 1 + 1 + 1 + 1 + 1, 0, none⟩ = some (Value.func (.func 80) #[] #[Value.pointer (some ⟨w.heap.size + 1, 0, none⟩), Value.pointer (some ⟨w.heap.size, 0, none⟩), Value.pointer (some ⟨w.heap.size + 1 + 1 + 1 + 1 + 1, 0, none⟩), Value.pointer (some ⟨w.heap.size + 1 + 1, 0, none⟩), Value.pointer (some ⟨w.heap.size + 1 + 1 + 1 + 1, 0, none⟩)])
        go_simp
      · show World.cell? _ ⟨w.heap.size + 1 + 1 + 1 + 1, 0, none⟩ = some (Value.slice (some ⟨w.heap.size + 1 + 1 + 1, 0, none⟩) 0 0)
        go_simp
      · show World.frozen? _ ⟨w.heap.size + 1 + 1 + 1 + 1, 0, none⟩ = false
        go_simp
      · have h := Kd.S_bound (show Kd.S (Kd.slice 74 k74) 33 _ _ (fun _ => True) _ [] from ⟨fun _ => 0, R_empty (Kd.tag (fun _ => 0) (Kd.slice 74 k74)) 33 (((w.alloc (Obj.cells #[Value.int .i64 a0] 3)).alloc (Obj.cells #[Value.int .i64 a1] 3)).alloc (Obj.cells #[Value.slice A2 l2.length c2] 42))⟩)
        have hz : ((((w.alloc (Obj.cells #[Value.int .i64 a0] 3)).alloc (Obj.cells #[Value.int .i64 a1] 3)).alloc (Obj.cells #[Value.slice A2 l2.length c2] 42))).heap.size = w.heap.size + 1 + 1 + 1 := by simp
        rw [hz] at h
        refine Kd.S_mono (Kd.S_lower (Kd.S_below h (by repeat (first | exact Below.refl _ _ | apply below_alloc))) (by omega)) (fun k hk => ?_)
        have h1 := hk.2.1
        have h2 := hk.2.2.1
        simp at h2
        omega
      · rintro k rfl
        refine ⟨by simp, ?_⟩
        unfold HBox.nb
        show w.heap.size + 1 + 1 + 1 ≠ w.heap.size ∧ w.heap.size + 1 + 1 + 1 ≠ w.heap.size + 1 ∧ w.heap.size + 1 + 1 + 1 ≠ w.heap.size + 1 + 1 ∧ w.heap.size + 1 + 1 + 1 ≠ w.heap.size + 1 + 1 + 1 + 1 ∧ w.heap.size + 1 + 1 + 1 ≠ w.heap.size + 1 + 1 + 1 + 1 + 1
        omega)
    have HR2 := Aside0.mk (show Kd.R k74 74 (((((((w.alloc (Obj.cells #[Value.int .i64 a0] 3)).alloc (Obj.cells #[Value.int .i64 a1] 3)).alloc (Obj.cells #[Value.slice A2 l2.length c2] 42)).alloc (Obj.cells #[] 33)).alloc (Obj.cells #[Value.slice (some ⟨w.heap.size + 1 + 1 + 1, 0, none⟩) 0 0] 49)).alloc (Obj.cells #[Value.func (.func 80) #[] #[Value.pointer (some ⟨w.heap.size + 1, 0, none⟩), Value.pointer (some ⟨w.heap.size, 0, none⟩), Value.pointer (some ⟨w.heap.size + 1 + 1 + 1 + 1 + 1, 0, none⟩), Value.pointer (some ⟨w.heap.size + 1 + 1, 0, none⟩), Value.pointer (some ⟨w.heap.size + 1 + 1 + 1 + 1, 0, none⟩)]] 98)).alloc (Obj.cells #[] 74)) w.heap.size (fun k => k = w.heap.size + 1 + 1 + 1 + 1 + 1 + 1) (.slice (some ⟨w.heap.size + 1 + 1 + 1 + 1 + 1 + 1, 0, none⟩) 0 0) [] from by
      have h := Kd.R_bound (R_empty k74 74 ((((((w.alloc (Obj.cells #[Value.int .i64 a0] 3)).alloc (Obj.cells #[Value.int .i64 a1] 3)).alloc (Obj.cells #[Value.slice A2 l2.length c2] 42)).alloc (Obj.cells #[] 33)).alloc (Obj.cells #[Value.slice (some ⟨w.heap.size + 1 + 1 + 1, 0, none⟩) 0 0] 49)).alloc (Obj.cells #[Value.func (.func 80) #[] #[Value.pointer (some ⟨w.heap.size + 1, 0, none⟩), Value.pointer (some ⟨w.heap.size, 0, none⟩), Value.pointer (some ⟨w.heap.size + 1 + 1 + 1 + 1 + 1, 0, none⟩), Value.pointer (some ⟨w.heap.size + 1 + 1, 0, none⟩), Value.pointer (some ⟨w.heap.size + 1 + 1 + 1 + 1, 0, none⟩)]] 98)))
      have hz : (((((((w.alloc (Obj.cells #[Value.int .i64 a0] 3)).alloc (Obj.cells #[Value.int .i64 a1] 3)).alloc (Obj.cells #[Value.slice A2 l2.length c2] 42)).alloc (Obj.cells #[] 33)).alloc (Obj.cells #[Value.slice (some ⟨w.heap.size + 1 + 1 + 1, 0, none⟩) 0 0] 49)).alloc (Obj.cells #[Value.func (.func 80) #[] #[Value.pointer (some ⟨w.heap.size + 1, 0, none⟩), Value.pointer (some ⟨w.heap.size, 0, none⟩), Value.pointer (some ⟨w.heap.size + 1 + 1 + 1 + 1 + 1, 0, none⟩), Value.pointer (some ⟨w.heap.size + 1 + 1, 0, none⟩), Value.pointer (some ⟨w.heap.size + 1 + 1 + 1 + 1, 0, none⟩)]] 98))).heap.size = w.heap.size + 1 + 1 + 1 + 1 + 1 + 1 := by simp
      rw [hz] at h
      refine Kd.R_mono (Kd.R_lower h (by omega)) (fun k hk => ?_)
      have h1 := hk.2.1
      have h2 := hk.2.2.1
      simp at h2
      omega)
    have hmx := hr2.2.1
    clear hps h2 hk hr2 hc2 hpow hfit h216
    go_enter Try.func50, Try.ntmps50
    go_wp2_with (go_at_call 80; refine Calls.mono (HA.out _ _ _ _ _ HI.out HR2.out ?s3) ?_; (case s3 => rintro k rfl; omega); rintro e w1 ⟨rfl, ok1, hI1⟩; obtain ⟨v1, f1, _, hr1⟩ := hI1.out; obtain ⟨A4, c4, rfl⟩ := Kd.S_slice hr1; have HR1 := Aside0.mk hr1; have HB1 := Aside0.mk hI1.below; clear hr1 hI1)
    go_ret
    exact ⟨_, rfl, Kd.S_mono HR1.out (fun _ _ => trivial), HB1.out⟩
  · rw [if_neg hk] at h2
    cases h2

/-! ### impl_areHidden: function 49 -/
def impl_areHidden.f (a0 : Int) (a1 : Int) : Option (Bool) := (impl_within.f a0 2 4).bind fun t270 => (if t270 = true then ((impl_within.f a1 0 3).bind fun t271 => (some t271)) else (some false))
set_option maxHeartbeats 8000000 in
set_option maxRecDepth 100000 in
theorem impl_areHidden.calls (a0 : Int) (a1 : Int) (r : Bool) (w : World) (h : impl_areHidden.f a0 a1 = some r) :
    Calls Try.prog 49 #[.int .i64 a0, .int .i64 a1] w fun e w' => e = .returned (.bool r) ∧ Drawn0 w w' := by
  have H : ((impl_within.f a0 2 4).bind fun t270 => (if t270 = true then ((impl_within.f a1 0 3).bind fun t271 => (some t271)) else (some false))) = some r := h
  clear h
  replace H := Option.bind_eq_some_iff.mp H
  obtain ⟨t270, A30, H⟩ := H
  replace H : (if t270 = true then ((impl_within.f a1 0 3).bind fun t271 => (some t271)) else (some false)) = some r := H
  have A3 := Aside0.mk A30
  clear A30
  by_cases c4 : t270 = true
  · subst c4
    have H1 : ((impl_within.f a1 0 3).bind fun t271 => (some t271)) = some r := by rw [if_pos rfl] at H; exact H
    clear H
    have H := H1
    clear H1
    replace H := Option.bind_eq_some_iff.mp H
    obtain ⟨t271, A50, H⟩ := H
    replace H : (some t271) = some r := H
    have A5 := Aside0.mk A50
    clear A50
    obtain rfl := Option.some.inj H
    go_enter Try.func49, Try.ntmps49
    go_wp2_with (first | ((with_reducible refine gate_callee (f := 75) rfl ?_); refine goesL_ (some 6) rfl rfl Try.func75 (by kernel_rfl) rfl #[.int .i64 a0, .int .i64 2, .int .i64 4] rfl (by (try simp only [List.map_toArray, List.map_cons, List.map_nil]); first | done | rfl | (simp only [List.length_drop, List.length_take]; rfl)) ?_; (with_reducible refine (impl_within.calls a0 2 4 true _ A3.out).mono ?_); rintro e w' ⟨rfl, ⟨nd, rfl⟩⟩; refine ⟨_, rfl, ?_⟩) | (go_at_call 75; (with_reducible refine (impl_within.calls a1 0 3 t271 _ A5.out).mono ?_); rintro e w' ⟨rfl, ⟨nd, rfl⟩⟩))
    go_ret
    exact ⟨by first | rfl | (simp; done) | (simp [*]; done), by repeat (first | exact Drawn0.refl _ | apply Drawn0.step)⟩
  · replace c4 := Bool.eq_false_iff.mpr c4
    subst c4
    have H1 : (some false) = some r := by rw [if_neg (show ¬ (false = true) by decide)] at H; exact H
    clear H
    have H := H1
    clear H1
    obtain rfl := Option.some.inj H
    go_enter Try.func49, Try.ntmps49
    go_wp2_with (first | ((with_reducible refine gate_callee (f := 75) rfl ?_); refine goesL_ (some 6) rfl rfl Try.func75 (by kernel_rfl) rfl #[.int .i64 a0, .int .i64 2, .int .i64 4] rfl (by (try simp only [List.map_toArray, List.map_cons, List.map_nil]); first | done | rfl | (simp only [List.length_drop, List.length_take]; rfl)) ?_; (with_reducible refine (impl_within.calls a0 2 4 false _ A3.out).mono ?_); rintro e w' ⟨rfl, ⟨nd, rfl⟩⟩; refine ⟨_, rfl, ?_⟩))
    go_ret
    exact ⟨by first | rfl | (simp; done) | (simp [*]; done), by repeat (first | exact Drawn0.refl _ | apply Drawn0.step)⟩

/-! ### impl_isBelow: function 88 -/
def impl_isBelow.f (a0 : Int) (a1 : Int) : Option (Bool) := if a0 ≥ 0 then (some (decide (a0 < a1))) else (some false)
set_option maxHeartbeats 8000000 in
set_option maxRecDepth 100000 in
theorem impl_isBelow.calls (a0 : Int) (a1 : Int) (r : Bool) (w : World) (h : impl_isBelow.f a0 a1 = some r) :
    Calls Try.prog 88 #[.int .i64 a0, .int .i64 a1] w fun e w' => e = .returned (.bool r) ∧ Drawn0 w w' := by
  have H : (if a0 ≥ 0 then (some (decide (a0 < a1))) else (some false)) = some r := h
  clear h
  by_cases c3 : a0 ≥ 0
  · rw [if_pos c3] at H
    have c3b0 : decide (0 ≤ a0) = true := decide_eq_true c3
    clear c3
    obtain rfl := Option.some.inj H
    go_enter Try.func88, Try.ntmps88
    go_wp2
    go_ret
    exact ⟨by first | rfl | (simp; done) | (simp [*]; done), by repeat (first | exact Drawn0.refl _ | apply Drawn0.step)⟩
  · rw [if_neg c3] at H
    have c3b0 : decide (0 ≤ a0) = false := decide_eq_false c3
    clear c3
    obtain rfl := Option.some.inj H
    go_enter Try.func88, Try.ntmps88
    go_wp2
    go_ret
    exact ⟨by first | rfl | (simp; done) | (simp [*]; done), by repeat (first | exact Drawn0.refl _ | apply Drawn0.step)⟩

/-! ### impl_IsClue: function 56, by hand -/
theorem within_val (a b c : Int) : impl_within.f a b c = some (decide (b ≤ a ∧ a ≤ c)) := by
  unfold impl_within.f
  by_cases h : b ≤ a <;> simp [h]
theorem isBelow_val (a n : Int) : impl_isBelow.f a n = some (decide (0 ≤ a ∧ a < n)) := by
  unfold impl_isBelow.f
  by_cases h : 0 ≤ a <;> simp [h]
def clueB (a0 a1 k x y z : Int) : Bool :=
  if k = 0 then decide (0 ≤ x ∧ x < a0) && (y == 0) && decide (0 ≤ z ∧ z ≤ a1)
  else if k = 1 then decide (0 ≤ x ∧ x < a0) && (y == 0) && decide (1 ≤ z ∧ z ≤ a0)
  else if k = 2 then decide (0 ≤ x ∧ x < a0) && decide (0 ≤ y ∧ y < a0) && decide (0 ≤ z ∧ z ≤ 1)
  else if k = 3 then (x == 0) && (y == 0) && decide (0 ≤ z ∧ z ≤ a1)
  else if k = 4 then decide (0 ≤ x ∧ x < a1) && decide (0 ≤ y ∧ y < a0) && decide (0 ≤ z ∧ z ≤ 1)
  else if k = 5 then (x == 0) && (y == 0) && decide (1 ≤ z ∧ z ≤ 16)
  else false
def impl_IsClue.f (a0 a1 k x y z : Int) : Option Bool := (impl_areHidden.f a0 a1).bind fun h => some (h && clueB a0 a1 k x y z)
set_option maxHeartbeats 8000000 in
set_option maxRecDepth 100000 in
theorem impl_IsClue.calls (a0 : Int) (a1 : Int) (a2_0 : Int) (a2_1 : Int) (a2_2 : Int) (a2_3 : Int) (r : Bool) (w : World) (h : impl_IsClue.f a0 a1 a2_0 a2_1 a2_2 a2_3 = some r) :
    Calls Try.prog 56 #[.int .i64 a0, .int .i64 a1, .agg #[.int .i64 a2_0, .int .i64 a2_1, .int .i64 a2_2, .int .i64 a2_3]] w fun e w' => e = .returned (.bool r) ∧ Below w.heap.size w w' := by
  have hu := Try.underlying31
  unfold impl_IsClue.f at h
  obtain ⟨b0, h0, h1⟩ := Option.bind_eq_some_iff.1 h
  obtain rfl := Option.some.inj h1
  have HH := Aside0.mk (fun W => impl_areHidden.calls a0 a1 b0 W h0)
  clear h h0 h1
  cases b0 with
  | false =>
    go_enter Try.func56, Try.ntmps56
    go_wp2_with (go_at_call 49; refine (HH.out _).mono ?_; rintro e w' ⟨rfl, ⟨nd, rfl⟩⟩)
    go_ret
    exact ⟨by simp, by repeat (first | exact Below.refl _ _ | apply below_alloc | apply pw_below_drewN | apply below_drew1)⟩
  | true =>
    unfold clueB
    obtain ⟨bA, hA⟩ : ∃ b, decide (0 ≤ a2_1 ∧ a2_1 < a0) = b := ⟨_, rfl⟩
    obtain ⟨bB, hB⟩ : ∃ b, decide (0 ≤ a2_2 ∧ a2_2 < a0) = b := ⟨_, rfl⟩
    obtain ⟨bD, hD⟩ : ∃ b, decide (0 ≤ a2_1 ∧ a2_1 < a1) = b := ⟨_, rfl⟩
    obtain ⟨bZ, hZ⟩ : ∃ b, decide (0 ≤ a2_3 ∧ a2_3 ≤ 1) = b := ⟨_, rfl⟩
    obtain ⟨b1, hW1⟩ : ∃ b, decide (0 ≤ a2_3 ∧ a2_3 ≤ a1) = b := ⟨_, rfl⟩
    obtain ⟨b2, hW2⟩ : ∃ b, decide (1 ≤ a2_3 ∧ a2_3 ≤ a0) = b := ⟨_, rfl⟩
    obtain ⟨b3, hW3⟩ : ∃ b, decide (1 ≤ a2_3 ∧ a2_3 ≤ 16) = b := ⟨_, rfl⟩
    obtain ⟨bX, hX⟩ : ∃ b, (a2_1 == 0) = b := ⟨_, rfl⟩
    obtain ⟨bY, hY⟩ : ∃ b, (a2_2 == 0) = b := ⟨_, rfl⟩
    have HA := Aside0.mk (fun W => impl_isBelow.calls a2_1 a0 bA W ((isBelow_val _ _).trans (congrArg some hA)))
    have HB := Aside0.mk (fun W => impl_isBelow.calls a2_2 a0 bB W ((isBelow_val _ _).trans (congrArg some hB)))
    have HD := Aside0.mk (fun W => impl_isBelow.calls a2_1 a1 bD W ((isBelow_val _ _).trans (congrArg some hD)))
    have HZ := Aside0.mk (fun W => impl_within.calls a2_3 0 1 bZ W ((within_val _ _ _).trans (congrArg some hZ)))
    have H1 := Aside0.mk (fun W => impl_within.calls a2_3 0 a1 b1 W ((within_val _ _ _).trans (congrArg some hW1)))
    have H2 := Aside0.mk (fun W => impl_within.calls a2_3 1 a0 b2 W ((within_val _ _ _).trans (congrArg some hW2)))
    have H3 := Aside0.mk (fun W => impl_within.calls a2_3 1 16 b3 W ((within_val _ _ _).trans (congrArg some hW3)))
    rw [hA, hB, hD, hZ, hW1, hW2, hW3, hX, hY]
    clear hA hB hD hZ hW1 hW2 hW3
    have hk : a2_0 = 0 ∨ a2_0 = 1 ∨ a2_0 = 2 ∨ a2_0 = 3 ∨ a2_0 = 4 ∨ a2_0 = 5 ∨ (¬ a2_0 = 0 ∧ ¬ a2_0 = 1 ∧ ¬ a2_0 = 2 ∧ ¬ a2_0 = 3 ∧ ¬ a2_0 = 4 ∧ ¬ a2_0 = 5) := by omega
    obtain ⟨v, hv⟩ : ∃ v_, v_ = (if a2_0 = 0 then bA && bY && b1 else if a2_0 = 1 then bA && bY && b2 else if a2_0 = 2 then bA && bB && bZ else if a2_0 = 3 then bX && bY && b1 else if a2_0 = 4 then bD && bB && bZ else if a2_0 = 5 then bX && bY && b3 else false) := ⟨_, rfl⟩
    rw [← hv]
    rcases hk with rfl | rfl | rfl | rfl | rfl | rfl | ⟨k0, k1, k2, k3, k4, k5⟩
    case' inl => cases bA <;> cases bY
    case' inr.inl => cases bA <;> cases bY
    case' inr.inr.inl => cases bA <;> cases bB
    case' inr.inr.inr.inl => cases bX <;> cases bY
    case' inr.inr.inr.inr.inl => cases bD <;> cases bB
    case' inr.inr.inr.inr.inr.inl => cases bX <;> cases bY
    all_goals
      have HV := Aside0.mk hv
      clear hv
      go_enter Try.func56, Try.ntmps56
      go_wp2_with (go_at_call 49; refine (HH.out _).mono ?_; rintro e w' ⟨rfl, ⟨nd, rfl⟩⟩)
      go_quiet (first
        | (go_at_call 88; (first | (with_reducible refine (HA.out _).mono ?_) | (with_reducible refine (HB.out _).mono ?_)); rintro e w' ⟨rfl, ⟨nd, rfl⟩⟩; first | exact ⟨rfl, _, World.drewN_drewN _ _ _⟩ | exact ⟨rfl, _, Eq.trans (World.drewN_drewN _ _ _) (congrArg (World.drewN _) (Nat.add_assoc _ _ _))⟩)
        | (go_at_call 75; (with_reducible refine (HZ.out _).mono ?_); rintro e w' ⟨rfl, ⟨nd, rfl⟩⟩; first | exact ⟨rfl, _, World.drewN_drewN _ _ _⟩ | exact ⟨rfl, _, Eq.trans (World.drewN_drewN _ _ _) (congrArg (World.drewN _) (Nat.add_assoc _ _ _))⟩))
      go_wp2_with (first
        | (go_at_call 88; (with_reducible refine (HD.out _).mono ?_); rintro e w' ⟨rfl, ⟨nd, rfl⟩⟩)
        | (go_at_call 75; (first | (with_reducible refine (H1.out _).mono ?_) | (with_reducible refine (H2.out _).mono ?_) | (with_reducible refine (H3.out _).mono ?_)); rintro e w' ⟨rfl, ⟨nd, rfl⟩⟩))
      go_ret
      exact ⟨by rw [HV.out]; first | rfl | (simp; done) | (simp [*]; done), by repeat (first | exact Below.refl _ _ | apply below_alloc | apply pw_below_drewN | apply below_drew1)⟩

-- NOT PRINTED: function 90 (impl_IsPuzzle_1)

/-! ### impl_IsPuzzle: function 64, by hand -/
def clueOk (n m : Int) (c : S31) : Bool := (impl_IsClue.f n m c.f0 c.f1 c.f2 c.f3).getD false
/-- (only where IsClue is told) -/
def impl_IsPuzzle.f (a0 a1 : Int) (l2 : List S31) : Option Bool := (impl_areHidden.f a0 a1).bind fun h => if ∀ c, c ∈ l2 → (impl_IsClue.f a0 a1 c.f0 c.f1 c.f2 c.f3).isSome = true then some (h && decide (l2.length ≤ 6) && !l2.any fun c => !clueOk a0 a1 c) else none
set_option maxHeartbeats 1000000 in
set_option maxRecDepth 100000 in
theorem isPuzzle_1 (n m : Int) (A2 : Option Addr) (k2 c2 : Nat) (c : S31) (B : Nat) (w : World) (hs : (impl_IsClue.f n m c.f0 c.f1 c.f2 c.f3).isSome = true) (hB : B < w.heap.size)
    (q0 : w.cell? ⟨B, 0, none⟩ = some (.int .i64 n)) (q1 : w.cell? ⟨B, 1, none⟩ = some (.int .i64 m)) :
    Calls Try.prog 90 #[.agg #[.int .i64 c.f0, .int .i64 c.f1, .int .i64 c.f2, .int .i64 c.f3], .pointer (some ⟨B, 0, none⟩)] w fun e w' => e = .returned (.bool (!clueOk n m c)) ∧ Below w.heap.size w w' := by
  have hu := Try.underlying31
  have hp := Try.underlying44
  obtain ⟨b, hb⟩ := Option.isSome_iff_exists.1 hs
  have HC := Aside0.mk (fun W => impl_IsClue.calls n m c.f0 c.f1 c.f2 c.f3 b W hb)
  have HV := Aside0.mk (show clueOk n m c = b by unfold clueOk; rw [hb]; rfl)
  rw [HV.out]
  clear hb hs
  go_enter Try.func90, Try.ntmps90
  go_wp2_with (go_at_call 56; refine (HC.out _).mono ?_; rintro e w1 ⟨rfl, hb⟩)
  go_ret
  exact ⟨by simp, below_step (by repeat (first | exact Below.refl _ _ | apply below_alloc | apply pw_below_drewN | apply below_drew1)) hb⟩
set_option maxHeartbeats 1000000 in
set_option maxRecDepth 100000 in
theorem impl_IsPuzzle.calls (a0_0 : Int) (a0_1 : Int) (A0_2 : Option Addr) (c0_2 : Nat) (l0_2 : List S31) (r : Bool) (w : World) (hr0_2 : Kd.C k31 w A0_2 l0_2.length l0_2) (hc0_2 : l0_2.length ≤ c0_2) (h : impl_IsPuzzle.f a0_0 a0_1 l0_2 = some r) :
    Calls Try.prog 64 #[.agg #[.int .i64 a0_0, .int .i64 a0_1, .slice A0_2 l0_2.length c0_2]] w fun e w' => e = .returned (.bool r) ∧ Below w.heap.size w w' := by
  have hmf : ∀ (fn : Fn) (first cap : Array Value) (w : World), (Instr.makeFunc fn first cap).run Try.prog w = .ok (.func fn first cap) w := fun _ _ _ _ => rfl
  have hp := Try.underlying44
  have hm := hr0_2.2.1
  have HR := Aside0.mk hr0_2
  clear hr0_2 hc0_2
  unfold impl_IsPuzzle.f at h
  obtain ⟨b0, h0, h⟩ := Option.bind_eq_some_iff.1 h
  have H0 := Aside0.mk (fun W => impl_areHidden.calls a0_0 a0_1 b0 W h0)
  by_cases hk : ∀ c, c ∈ l0_2 → (impl_IsClue.f a0_0 a0_1 c.f0 c.f1 c.f2 c.f3).isSome = true
  · rw [if_pos hk] at h
    have HK := Aside0.mk hk
    clear h0 hk
    cases b0 with
    | false =>
      obtain rfl : r = false := by simpa using h.symm
      go_enter Try.func64, Try.ntmps64
      go_wp2_with (go_at_call 49; refine (H0.out _).mono ?_; rintro e w' ⟨rfl, ⟨nd, rfl⟩⟩)
      go_ret
      exact ⟨by simp, by repeat (first | exact Below.refl _ _ | apply below_alloc | apply pw_below_drewN | apply below_drew1)⟩
    | true =>
      by_cases hlen : l0_2.length ≤ 6
      · have hlb : decide ((l0_2.length : Int) ≤ 6) = true := by simp; omega
        have HV := Aside0.mk (show r = !(l0_2.any fun c => !clueOk a0_0 a0_1 c) by simpa [hlen] using h.symm)
        clear h
        have HC := Aside0.mk (fun (W : World) (hB : Below w.heap.size w W) (hg : w.heap.size < W.heap.size) (hq0 : W.cell? ⟨w.heap.size, 0, none⟩ = some (.int .i64 a0_0)) (hq1 : W.cell? ⟨w.heap.size, 1, none⟩ = some (.int .i64 a0_1)) => hasClue 90 _ #[.pointer (some ⟨w.heap.size, 0, none⟩)] (fun c => !clueOk a0_0 a0_1 c) Try.func90 rfl rfl A0_2 c0_2 l0_2 W (Kd.C_below HR.out hB) (fun x hx W2 hW => isPuzzle_1 a0_0 a0_1 A0_2 l0_2.length c0_2 x w.heap.size W2 (HK.out x hx) (Nat.lt_of_lt_of_le hg hW.size) ((hW.cell hg).trans hq0) ((hW.cell hg).trans hq1)))
        go_enter Try.func64, Try.ntmps64
        go_wp2_with (first | (go_at_call 49; refine (H0.out _).mono ?_; rintro e w' ⟨rfl, ⟨nd, rfl⟩⟩) | (go_at_call 83; refine (HC.out _ ?s1 ?s2 ?s3 ?s4).mono ?_; (case s1 => repeat (first | exact Below.refl _ _ | apply below_alloc | apply pw_below_drewN | apply below_drew1)); (case s2 => simp); (case s3 => go_simp); (case s4 => go_simp); rintro e w1 ⟨rfl, hb1⟩))
        go_ret
        exact ⟨by rw [HV.out]; rfl, below_step (by repeat (first | exact Below.refl _ _ | apply below_alloc | apply pw_below_drewN | apply below_drew1)) hb1⟩
      · have hlb : decide ((l0_2.length : Int) ≤ 6) = false := by simp; omega
        obtain rfl : r = false := by simpa [hlen] using h.symm
        go_enter Try.func64, Try.ntmps64
        go_wp2_with (go_at_call 49; refine (H0.out _).mono ?_; rintro e w' ⟨rfl, ⟨nd, rfl⟩⟩)
        go_ret
        exact ⟨by simp, by repeat (first | exact Below.refl _ _ | apply below_alloc | apply pw_below_drewN | apply below_drew1)⟩
  · rw [if_neg hk] at h
    cases h

/-! ### impl_Solutions: function 28 -/
def impl_Solutions.f (k : Nat) (a0_0 : Int) (a0_1 : Int) (l0_2 : List (S31)) : Option ((List (List (S74))) × Bool) := (impl_IsPuzzle.f a0_0 a0_1 l0_2).bind fun t273 => (if t273 = true then ((impl_hidden.f k a0_0 a0_1 l0_2).bind fun t274 => (some (t274, true))) else (some (([] : List (List (S74))), false)))
theorem impl_Solutions.mono : ∀ a0 a1 a2 k, LeO (impl_Solutions.f k a0 a1 a2) (impl_Solutions.f (k + 1) a0 a1 a2) := by
  intro a0 a1 a2 k
  unfold impl_Solutions.f
  repeat' first
      | (with_reducible exact impl_hidden.mono _ _ _ _)
      | (with_reducible exact LeO.refl _)
      | (with_reducible exact LeO.none _)
      | (with_reducible refine LeO.ite ?_ ?_)
      | (with_reducible refine LeO.bind ?_ (fun _ => ?_))
      | exact impl_hidden.mono _ _ _ _
      | exact LeO.none _
      | refine LeO.ite ?_ ?_
      | refine LeO.bind ?_ (fun _ => ?_)
set_option maxHeartbeats 8000000 in
set_option maxRecDepth 100000 in
theorem impl_Solutions.calls (k : Nat) (a0_0 : Int) (a0_1 : Int) (A0_2 : Option Addr) (c0_2 : Nat) (l0_2 : List (S31)) (r1 : List (List (S74))) (r2 : Bool) (w : World) (hr0_2 : Kd.C k31 w A0_2 l0_2.length l0_2) (hc0_2 : l0_2.length ≤ c0_2) (h : impl_Solutions.f k a0_0 a0_1 l0_2 = some (r1, r2)) :
    Calls Try.prog 28 #[.agg #[.int .i64 a0_0, .int .i64 a0_1, .slice A0_2 l0_2.length c0_2]] w fun e w' => ∃ v0_ : Value, e = .returned (.tuple #[v0_, .bool r2]) ∧ Kd.S (Kd.slice 74 k74) 33 w' w.heap.size (fun _ => True) v0_ r1 ∧ Below w.heap.size w w' := by
  have hu44 := Try.underlying44
  have HR0_2 := Aside0.mk hr0_2
  have HC0_2 := Aside0.mk hc0_2
  clear hr0_2 hc0_2
  have HB := Aside0.mk (Below.refl w.heap.size w)
  have H : ((impl_IsPuzzle.f a0_0 a0_1 l0_2).bind fun t273 => (if t273 = true then ((impl_hidden.f k a0_0 a0_1 l0_2).bind fun t274 => (some (t274, true))) else (some (([] : List (List (S74))), false)))) = some (r1, r2) := h
  clear h
  replace H := Option.bind_eq_some_iff.mp H
  obtain ⟨t273, A20, H⟩ := H
  replace H : (if t273 = true then ((impl_hidden.f k a0_0 a0_1 l0_2).bind fun t274 => (some (t274, true))) else (some (([] : List (List (S74))), false))) = some (r1, r2) := H
  have A2 := Aside0.mk A20
  clear A20
  by_cases c3 : t273 = true
  · subst c3
    have H1 : ((impl_hidden.f k a0_0 a0_1 l0_2).bind fun t274 => (some (t274, true))) = some (r1, r2) := by rw [if_pos rfl] at H; exact H
    clear H
    have H := H1
    clear H1
    replace H := Option.bind_eq_some_iff.mp H
    obtain ⟨t274, A40, H⟩ := H
    replace H : (some (t274, true)) = some (r1, r2) := H
    have A4 := Aside0.mk A40
    clear A40
    simp only [Option.some.injEq, Prod.mk.injEq] at H
    obtain ⟨rfl, rfl⟩ := H
    go_enter Try.func28, Try.ntmps28
    go_wp2_with (first | ((with_reducible refine gate_dst (N := 1) rfl ?_); refine box_event ?hg (N := 1) ?hd (cs := #[.int .i64 a0_0, .int .i64 a0_1, .slice A0_2 l0_2.length c0_2]) (t := 44) ?hr ?_; (case hd => rfl); (case hg => rfl); (case hr => first | (go_simp; done) | (go_simp; rfl)); intro gb272 hg w5 hbox hb; have n0_ := Aside0.mk (below_step (by repeat (first | (with_reducible first | exact HB.out | apply below_alloc | apply pw_below_drewN | apply below_drew1) | exact HB.out)) hb); have n1_ := Aside0.mk (hbox); have n2_ := Aside0.mk ((by rw [hg]; exact (below_size (by repeat (first | (with_reducible first | exact HB.out | apply below_alloc | apply pw_below_drewN | apply below_drew1) | exact HB.out))) : w.heap.size ≤ gb272)); have n3_ := Aside0.mk ((by rw [hg]; exact (below_size (by repeat (first | (with_reducible first | exact HB.out | apply below_alloc | apply pw_below_drewN | apply below_drew1) | exact HB.out))) : w.heap.size ≤ gb272)); clear HB; have HB := n0_; have BK272 := n1_; have GW272 := n2_; have GE272 := n3_; clear n0_ n1_ n2_ n3_; clear hb hbox hg; have hcz6_0 : w5.cell? ⟨gb272, 0, none⟩ = some (.int .i64 a0_0) := (blk_cell BK272.out 0).trans rfl; have hcz6_1 : w5.cell? ⟨gb272, 1, none⟩ = some (.int .i64 a0_1) := (blk_cell BK272.out 1).trans rfl; have hcz6_2 : w5.cell? ⟨gb272, 2, none⟩ = some (.slice A0_2 l0_2.length c0_2) := (blk_cell BK272.out 2).trans rfl; have hfz6_0 := blk_frozen BK272.out 0; have hfz6_1 := blk_frozen BK272.out 1; have hfz6_2 := blk_frozen BK272.out 2) | ((with_reducible refine gate_callee (f := 64) rfl ?_); refine goesL_ (some 5) rfl rfl Try.func64 (by kernel_rfl) rfl #[.agg #[.int .i64 a0_0, .int .i64 a0_1, .slice A0_2 l0_2.length c0_2]] rfl (by (try simp only [List.map_toArray, List.map_cons, List.map_nil]); first | done | rfl | (simp only [List.length_drop, List.length_take]; rfl)) ?_; (with_reducible refine (impl_IsPuzzle.calls a0_0 a0_1 _ _ l0_2 true _ ?side1 ?side2 A2.out).mono ?_); (case side1 => repeat (first | exact (Kd.C_below HR0_2.out HB.out) | (with_reducible refine Kd.C_alloc ?_ _) | (with_reducible refine Kd.C_drewN ?_ _) | (with_reducible refine Kd.C_drew ?_))); (case side2 => exact HC0_2.out); rintro e w7 ⟨rfl, hb⟩; refine ⟨_, rfl, ?_⟩; have n0_ := Aside0.mk (blk_below (g := gb272) (o := .cells #[.int .i64 a0_0, .int .i64 a0_1, .slice A0_2 l0_2.length c0_2] 44 (0, 0)) (by (with_reducible repeat (first | refine blk_drewN ?_ _ | refine blk_drew ?_ | refine blk_alloc ?_ _)); exact BK272.out) hb); have n1_ := Aside0.mk (below_step (by repeat (first | (with_reducible first | exact HB.out | apply below_alloc | apply pw_below_drewN | apply below_drew1 | refine below_set ?_ GE272.out) | exact HB.out)) hb); clear BK272; clear HB; have BK272 := n0_; have HB := n1_; clear n0_ n1_; (try clear hb); (try clear hb2); (try clear hk); (try clear hi); have hcz8_0 : w7.cell? ⟨gb272, 0, none⟩ = some (.int .i64 a0_0) := (blk_cell BK272.out 0).trans rfl; have hcz8_1 : w7.cell? ⟨gb272, 1, none⟩ = some (.int .i64 a0_1) := (blk_cell BK272.out 1).trans rfl; have hcz8_2 : w7.cell? ⟨gb272, 2, none⟩ = some (.slice A0_2 l0_2.length c0_2) := (blk_cell BK272.out 2).trans rfl; have hfz8_0 := blk_frozen BK272.out 0; have hfz8_1 := blk_frozen BK272.out 1; have hfz8_2 := blk_frozen BK272.out 2) | ((with_reducible refine gate_callee (f := 50) rfl ?_); refine goesL_ (some 13) rfl rfl Try.func50 (by kernel_rfl) rfl #[.int .i64 a0_0, .int .i64 a0_1, .slice A0_2 l0_2.length c0_2] rfl (by (try simp only [List.map_toArray, List.map_cons, List.map_nil]); first | done | rfl | (simp only [List.length_drop, List.length_take]; rfl)) ?_; (with_reducible refine (impl_hidden.calls k a0_0 a0_1 _ _ l0_2 t274 _ ?side1 ?side2 A4.out).mono ?_); (case side1 => repeat (first | exact (Kd.C_below HR0_2.out HB.out) | (with_reducible refine Kd.C_alloc ?_ _) | (with_reducible refine Kd.C_drewN ?_ _) | (with_reducible refine Kd.C_drew ?_))); (case side2 => exact HC0_2.out); rintro e w9 ⟨v275, rfl, ho0, hb⟩; refine ⟨_, rfl, ?_⟩; have n0_ := Aside0.mk (Kd.S_lower ho0 (below_size (by repeat (first | (with_reducible first | exact HB.out | apply below_alloc | apply pw_below_drewN | apply below_drew1 | refine below_set ?_ GE272.out) | exact HB.out)))); have n1_ := Aside0.mk (blk_below (g := gb272) (o := .cells #[.int .i64 a0_0, .int .i64 a0_1, .slice A0_2 l0_2.length c0_2] 44 (0, 0)) (by (with_reducible repeat (first | refine blk_drewN ?_ _ | refine blk_drew ?_ | refine blk_alloc ?_ _)); exact BK272.out) hb); have n2_ := Aside0.mk (below_step (by repeat (first | (with_reducible first | exact HB.out | apply below_alloc | apply pw_below_drewN | apply below_drew1 | refine below_set ?_ GE272.out) | exact HB.out)) hb); clear BK272; clear HB; have HO276 := n0_; have BK272 := n1_; have HB := n2_; clear n0_ n1_ n2_; (try clear hb); (try clear hb2); (try clear hk); (try clear hi); (try clear ho0)))
    go_ret2
    exact ⟨_, by first | rfl | (simp [errW_none, errW_some] <;> rfl) | (simp [*, errW_none, errW_some] <;> rfl), by (with_reducible repeat (first | apply Kd.S_alloc | apply Kd.S_drewN | apply Kd.S_drew)); exact HO276.out, by repeat (first | (with_reducible first | exact HB.out | apply below_alloc | apply pw_below_drewN | apply below_drew1 | refine below_set ?_ GE272.out) | exact HB.out)⟩
  · replace c3 := Bool.eq_false_iff.mpr c3
    subst c3
    have H1 : (some (([] : List (List (S74))), false)) = some (r1, r2) := by rw [if_neg (show ¬ (false = true) by decide)] at H; exact H
    clear H
    have H := H1
    clear H1
    simp only [Option.some.injEq, Prod.mk.injEq] at H
    obtain ⟨rfl, rfl⟩ := H
    go_enter Try.func28, Try.ntmps28
    go_wp2_with (first | ((with_reducible refine gate_dst (N := 1) rfl ?_); refine box_event ?hg (N := 1) ?hd (cs := #[.int .i64 a0_0, .int .i64 a0_1, .slice A0_2 l0_2.length c0_2]) (t := 44) ?hr ?_; (case hd => rfl); (case hg => rfl); (case hr => first | (go_simp; done) | (go_simp; rfl)); intro gb272 hg w10 hbox hb; have n0_ := Aside0.mk (below_step (by repeat (first | (with_reducible first | exact HB.out | apply below_alloc | apply pw_below_drewN | apply below_drew1) | exact HB.out)) hb); have n1_ := Aside0.mk (hbox); have n2_ := Aside0.mk ((by rw [hg]; exact (below_size (by repeat (first | (with_reducible first | exact HB.out | apply below_alloc | apply pw_below_drewN | apply below_drew1) | exact HB.out))) : w.heap.size ≤ gb272)); have n3_ := Aside0.mk ((by rw [hg]; exact (below_size (by repeat (first | (with_reducible first | exact HB.out | apply below_alloc | apply pw_below_drewN | apply below_drew1) | exact HB.out))) : w.heap.size ≤ gb272)); clear HB; have HB := n0_; have BK272 := n1_; have GW272 := n2_; have GE272 := n3_; clear n0_ n1_ n2_ n3_; clear hb hbox hg; have hcz11_0 : w10.cell? ⟨gb272, 0, none⟩ = some (.int .i64 a0_0) := (blk_cell BK272.out 0).trans rfl; have hcz11_1 : w10.cell? ⟨gb272, 1, none⟩ = some (.int .i64 a0_1) := (blk_cell BK272.out 1).trans rfl; have hcz11_2 : w10.cell? ⟨gb272, 2, none⟩ = some (.slice A0_2 l0_2.length c0_2) := (blk_cell BK272.out 2).trans rfl; have hfz11_0 := blk_frozen BK272.out 0; have hfz11_1 := blk_frozen BK272.out 1; have hfz11_2 := blk_frozen BK272.out 2) | ((with_reducible refine gate_callee (f := 64) rfl ?_); refine goesL_ (some 5) rfl rfl Try.func64 (by kernel_rfl) rfl #[.agg #[.int .i64 a0_0, .int .i64 a0_1, .slice A0_2 l0_2.length c0_2]] rfl (by (try simp only [List.map_toArray, List.map_cons, List.map_nil]); first | done | rfl | (simp only [List.length_drop, List.length_take]; rfl)) ?_; (with_reducible refine (impl_IsPuzzle.calls a0_0 a0_1 _ _ l0_2 false _ ?side1 ?side2 A2.out).mono ?_); (case side1 => repeat (first | exact (Kd.C_below HR0_2.out HB.out) | (with_reducible refine Kd.C_alloc ?_ _) | (with_reducible refine Kd.C_drewN ?_ _) | (with_reducible refine Kd.C_drew ?_))); (case side2 => exact HC0_2.out); rintro e w12 ⟨rfl, hb⟩; refine ⟨_, rfl, ?_⟩; have n0_ := Aside0.mk (blk_below (g := gb272) (o := .cells #[.int .i64 a0_0, .int .i64 a0_1, .slice A0_2 l0_2.length c0_2] 44 (0, 0)) (by (with_reducible repeat (first | refine blk_drewN ?_ _ | refine blk_drew ?_ | refine blk_alloc ?_ _)); exact BK272.out) hb); have n1_ := Aside0.mk (below_step (by repeat (first | (with_reducible first | exact HB.out | apply below_alloc | apply pw_below_drewN | apply below_drew1 | refine below_set ?_ GE272.out) | exact HB.out)) hb); clear BK272; clear HB; have BK272 := n0_; have HB := n1_; clear n0_ n1_; (try clear hb); (try clear hb2); (try clear hk); (try clear hi)))
    go_ret2
    exact ⟨_, by first | rfl | (simp [errW_none, errW_some] <;> rfl) | (simp [*, errW_none, errW_some] <;> rfl), by first | exact Kd.S_nil _ _ _ _ _ | exact Kd.N_nil _ _ _ _ _ | exact Kd.V_nil _ _ _ _ _ | exact Kd.Q_nil _ _ _ _ _ | exact Kd.R_nil _ _ _ _ _, by repeat (first | (with_reducible first | exact HB.out | apply below_alloc | apply pw_below_drewN | apply below_drew1 | refine below_set ?_ GE272.out) | exact HB.out)⟩

/-! ### strings_Join: function 70, by hand -/
def joinB (l : List ByteArray) (sep : ByteArray) : List UInt8 := Lib.join (l.map (·.data.toList)) sep.data.toList
/-- (only where the text is not too long) -/
def strings_Join.f (l0 : List ByteArray) (a1 : ByteArray) : Option ByteArray := if l0.length ≤ 140737488355328 ∧ (joinB l0 a1).length ≤ 140737488355328 then some ⟨(joinB l0 a1).toArray⟩ else none
theorem strings_Join.calls (A0 : Option Addr) (c0 : Nat) (l0 : List ByteArray) (a1 : ByteArray) (r : ByteArray) (w : World) (hr0 : Kd.C Kd.string w A0 l0.length l0) (hc0 : l0.length ≤ c0) (h : strings_Join.f l0 a1 = some r) :
    Calls Try.prog 70 #[.slice A0 l0.length c0, .string a1] w fun e w' => e = .returned (.string r) ∧ Below w.heap.size w w' := by
  unfold strings_Join.f at h
  by_cases hk : l0.length ≤ 140737488355328 ∧ (joinB l0 a1).length ≤ 140737488355328
  · rw [if_pos hk] at h
    obtain rfl := Option.some.inj h
    cases l0 with
    | nil =>
      refine (Try.strings_Join_none A0 c0 a1 w).mono ?_
      rintro e w' ⟨rfl, rfl⟩
      exact ⟨rfl, Below.refl _ _⟩
    | cons x l =>
      have hat : ∀ (j : Nat) (y : ByteArray), (x :: l)[j]? = some y → ∃ ad, A0 = some ad ∧ w.cell? (ad.add j) = some (.string y) := fun j y hj => by
        obtain ⟨hlt, hy⟩ := List.getElem?_eq_some_iff.1 hj
        obtain ⟨ad, e1, e2⟩ := Kd.at_string hr0 (j : Int) (by omega) (by omega)
        refine ⟨ad, e1, ?_⟩
        rw [Int.toNat_natCast] at e2
        rw [e2]
        unfold rdOf
        rw [Int.toNat_natCast, List.getD_eq_getElem?_getD, hj]
        rfl
      obtain ⟨ad, e1, e2⟩ := hat 0 x rfl
      subst e1
      obtain ⟨bk, o, sp⟩ := ad
      have hsp : sp = none := by
        cases sp with
        | none => rfl
        | some s =>
          exfalso
          unfold World.cell? at e2
          simp only [Addr.add] at e2
          split at e2 <;> simp at e2
      subst hsp
      have hbk := World.block_lt_of_cell? _ _ e2
      refine (Try.strings_Join bk o c0 (x :: l) a1 w (fun j y hj => ?_) (by simpa [Addr.add] using hbk) hk.1 hc0 hk.2).mono ?_
      · obtain ⟨ad, e3, e4⟩ := hat j y hj
        injection e3 with e3
        subst e3
        cases j with
        | zero => simpa [Addr.add] using e4
        | succ j => simpa [Addr.add, Nat.succ_ne_zero] using e4
      · rintro e w' ⟨rfl, hb⟩
        exact ⟨rfl, hb⟩
  · rw [if_neg hk] at h
    cases h

end Go.Proofs.Ythakmnjamdggeaa.PFnExactSureCalls
