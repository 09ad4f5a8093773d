/- Printed by a program of this session (wip/pp) over the kit's print, for FnExactHiddenLists. No conditions beyond those that each theorem names. -/
import Derived.Test.YthakmnjamdggeaaPFnExactHiddenListsx0
import Derived.Test.YthakmnjamdggeaaPFnExactHiddenListsx1
import Derived.Test.YthakmnjamdggeaaPFnExactHiddenListsx2
namespace Go.Proofs.Ythakmnjamdggeaa.PFnExactHiddenLists
open Go.RowKit Go.Proofs.YthakmnjamdggeaaW.PrintWords Go.Proofs.YthakmnjamdggeaaW.PrintLast Go.Proofs.YthakmnjamdggeaaW.PrintMore
attribute [local go_sem] max2_int min2_int max_two min_two max_three min_three max_four min_four   -- for this text's walks alone
set_option linter.unusedVariables false
set_option linter.unusedSimpArgs false

/-! ### spec_pzLook: function 79, by hand -/
def fitsS (k : Nat) (n : Int) (l : List S74) (c : S31) : Bool := (spec_pzFits.f k n c.f0 c.f1 c.f2 c.f3 l).getD false
/-- all that is asked is told -/
def lookOk (k N : Nat) (cs : List S31) : Nat → List S74 → Bool
  | 0, l => cs.all fun c => (spec_pzFits.f k (N : Int) c.f0 c.f1 c.f2 c.f3 l).isSome
  | m + 1, l => (List.range N).all fun a => (List.range (N - (a + 1))).all fun q => lookOk k N cs m (l ++ [⟨(a : Int), ((a + 1 + q : Nat) : Int)⟩])
/-- the lists that begin so, with m calls more -/
def lookL (k N : Nat) (cs : List S31) : Nat → List S74 → List (List S74)
  | 0, l => if (cs.any fun c => !fitsS k N l c) = true then [] else [l]
  | m + 1, l => (List.range N).flatMap fun a => (List.range (N - (a + 1))).flatMap fun q => lookL k N cs m (l ++ [⟨(a : Int), ((a + 1 + q : Nat) : Int)⟩])
theorem range_succ_flat {α : Type} (f : Nat → List α) (j : Nat) : (List.range (j + 1)).flatMap f = (List.range j).flatMap f ++ f j := by
  rw [List.range_succ, List.flatMap_append, List.flatMap_cons, List.flatMap_nil, List.append_nil]
theorem flat_range_len {α : Type} (f : Nat → List α) (B : Nat) (hf : ∀ i, (f i).length ≤ B) (j : Nat) : ((List.range j).flatMap f).length ≤ j * B := by
  induction j with
  | zero => simp
  | succ j ih =>
    rw [range_succ_flat, List.length_append, Nat.add_mul, Nat.one_mul]
    have := hf j
    omega
theorem lookL_len (k N : Nat) (hN : N ≤ 4) (cs : List S31) : ∀ (m : Nat) (l : List S74), (lookL k N cs m l).length ≤ 16 ^ m := by
  intro m
  induction m with
  | zero => intro l; unfold lookL; split <;> simp
  | succ m ih =>
    intro l
    unfold lookL
    refine Nat.le_trans (flat_range_len _ (4 * 16 ^ m) (fun a => Nat.le_trans (flat_range_len _ (16 ^ m) (fun q => ih _) _) (Nat.mul_le_mul_right _ (by omega))) N) ?_
    rw [Nat.pow_succ]
    have := Nat.mul_le_mul_right (4 * 16 ^ m) hN
    omega
structure LPre (bO : Nat) (ok : Nat → Prop) (W W1 : World) : Prop where
  size : W.heap.size ≤ W1.heap.size
  block : ∀ k, k < W.heap.size → ¬ ok k → k ≠ bO → W1.heap[k]? = W.heap[k]?
theorem LPre.refl (bO : Nat) (ok : Nat → Prop) (W : World) : LPre bO ok W W := ⟨Nat.le_refl _, fun _ _ _ _ => rfl⟩
theorem LPre.below {bO : Nat} {ok : Nat → Prop} {W W1 W2 : World} (h : LPre bO ok W W1) (hb : Below W1.heap.size W1 W2) : LPre bO ok W W2 := ⟨Nat.le_trans h.size hb.size, fun k hk h1 h2 => (hb.block k (Nat.lt_of_lt_of_le hk h.size)).trans (h.block k hk h1 h2)⟩
theorem LPre.trans {bO : Nat} {ok okj : Nat → Prop} {W W1 W2 : World} (h : LPre bO ok W W1) (h2 : LPre bO okj W1 W2) (ho : ∀ k, okj k → ok k ∨ W.heap.size ≤ k) : LPre bO ok W W2 :=
  ⟨Nat.le_trans h.size h2.size, fun k hk n1 n2 => (h2.block k (Nat.lt_of_lt_of_le hk h.size) (fun hx => (ho k hx).elim n1 (fun hy => by omega)) n2).trans (h.block k hk n1 n2)⟩
structure LInv (w0 : World) (bO : Nat) (ok : Nat → Prop) (acc : List (List S74)) (W : World) : Prop where
  below : Below w0.heap.size w0 W
  base : w0.heap.size ≤ bO
  out : ∃ v, W.cell? ⟨bO, 0, none⟩ = some v ∧ W.frozen? ⟨bO, 0, none⟩ = false ∧ Kd.S (Kd.slice 74 k74) 33 W w0.heap.size ok v acc
  okb : ∀ k, ok k → k < W.heap.size ∧ k ≠ bO
theorem LInv.step {w0 W W1 : World} {bO : Nat} {ok : Nat → Prop} {acc : List (List S74)} (h : LInv w0 bO ok acc W) (hb : Below W.heap.size W W1) : LInv w0 bO ok acc W1 := by
  obtain ⟨v, h1, h2, h3⟩ := h.out
  refine ⟨h.below.trans (hb.mono h.below.size), h.base, ⟨v, (hb.cell (World.block_lt_of_cell? _ _ h1)).trans h1, ?_, Kd.S_below h3 hb⟩, fun k hk => ⟨Nat.lt_of_lt_of_le (h.okb k hk).1 hb.size, (h.okb k hk).2⟩⟩
  rw [← h2]
  exact hb.frozen (World.block_lt_of_cell? _ _ h1)
theorem LInv.put {w0 W w1 w2 : World} {bO : Nat} {ok okL : Nat → Prop} {acc acc' : List (List S74)} {v v1 : Value} (hI : LInv w0 bO ok acc W) (hB : Below W.heap.size W w1) (hL : ∀ k, okL k → ¬ ok k ∧ k ≠ bO) (hv : ∀ k, v.ownBlock = some k → ok k)
    (h1 : Kd.S (Kd.slice 74 k74) 33 w2 w0.heap.size (fun k => ok k ∨ okL k ∨ w1.heap.size ≤ k) v1 acc') (h2 : Below w0.heap.size w0 w2) (h3 : w1.grownBy w2 v.ownBlock) :
    (∃ ok1, LInv w0 bO ok1 acc' (w2.setCell ⟨bO, 0, none⟩ v1) ∧ ∀ k, ok1 k → ok k ∨ okL k ∨ W.heap.size ≤ k) ∧ LPre bO ok W (w2.setCell ⟨bO, 0, none⟩ v1) := by
  obtain ⟨v0, qo, qf, _⟩ := hI.out
  have zo := World.block_lt_of_cell? _ _ qo
  simp only at zo
  have hkeep : ∀ k, k < W.heap.size → some k ≠ v.ownBlock → w2.heap[k]? = W.heap[k]? := fun k hk hne => (h3.block k (Nat.lt_of_lt_of_le hk hB.size) hne).trans (hB.block k hk)
  have hso : some bO ≠ v.ownBlock := fun he => (hI.okb _ (hv _ he.symm)).2 rfl
  have hsz : (w2.setCell ⟨bO, 0, none⟩ v1).heap.size = w2.heap.size := by simp [World.setCell]
  have hle : w1.heap.size ≤ w2.heap.size := h3.size
  have hnb2 : ∀ k, (ok k ∨ okL k ∨ w1.heap.size ≤ k) → k ≠ bO := by
    rintro k (hk | hk | hk)
    · exact (hI.okb k hk).2
    · exact (hL k hk).2
    · have := hB.size
      omega
  refine ⟨⟨fun k => (ok k ∨ okL k ∨ w1.heap.size ≤ k) ∧ k < w2.heap.size, ⟨Below.setCell h2 hI.base _, hI.base, ⟨v1, ?_, ?_, ?_⟩, ?_⟩, ?_⟩, ⟨?_, ?_⟩⟩
  · exact World.cell?_setCell_same' _ _ _ (by rw [World.cell?_of_block (w := W) (hkeep bO zo hso), qo]; rfl)
  · rw [World.frozen?_setCell]
    exact (World.frozen?_of_block (hkeep bO zo hso)).trans qf
  · exact Kd.S_far (p := ⟨bO, 0, none⟩) (Kd.S_mono (Kd.S_bound h1) (fun k hk => ⟨hk.1, hk.2.2.1⟩)) (fun k hk => hnb2 k hk.1) v1
  · exact fun k hk => ⟨by rw [hsz]; exact hk.2, hnb2 k hk.1⟩
  · rintro k ⟨hk | hk | hk, _⟩
    · exact .inl hk
    · exact .inr (.inl hk)
    · exact .inr (.inr (Nat.le_trans hB.size hk))
  · rw [hsz]
    exact Nat.le_trans hB.size hle
  · exact fun k hk h1 h2 => (Below.heap_setCell w2 ⟨bO, 0, none⟩ v1 k h2).trans (hkeep k hk (fun he => h1 (hv k he.symm)))
theorem infCallSS : (Try.prog.info? 33).map (fun i => (i.zero, i.size, i.bytes)) = some (some (.slice none 0 0), 1, 24) := by kernel_rfl
theorem infCall' : (Try.prog.info? 74).map (fun i => (i.zero, i.size, i.bytes)) = some (some (.agg #[.int .i64 0, .int .i64 0]), 2, 16) := by kernel_rfl
theorem flatCall' (W w : World) (base : Nat) (okp : Nat → Prop) : ∀ x cs, k74.K w x cs → k74.M W base okp x cs := by
  intro x cs h
  obtain rfl := k74_open h
  exact k74_mkM W base okp x
theorem any_snoc' {α : Type} (p : α → Bool) (l : List α) (k : Nat) (h : k < l.length) (ha : (l.take k).any p = false) (hp : p l[k] = false) : (l.take (k + 1)).any p = false := by
  rw [List.take_succ_eq_append_getElem h, List.any_append, ha]
  simpa using hp
set_option maxHeartbeats 4000000 in
set_option maxRecDepth 100000 in
theorem look_leaf (k : Nat) (w0 : World) (bO N : Nat) (cs : List S31) (A2 : Option Addr) (c2 : Nat) (hC : Kd.C k31 w0 A2 cs.length cs) (l : List S74) (acc : List (List S74)) (W : World) (ok okL : Nat → Prop) (A : Option Addr) (c : Nat)
    (hI : LInv w0 bO ok acc W) (hR : Kd.R k74 74 W w0.heap.size okL (.slice A l.length c) l) (hL : ∀ k, okL k → ¬ ok k ∧ k ≠ bO) (hacc : acc.length < 5000) (hok : lookOk k N cs 0 l = true) :
    Calls Try.prog 79 #[.int .i64 N, .int .i64 0, .slice A2 cs.length c2, .slice A l.length c, .pointer (some ⟨bO, 0, none⟩)] W fun e W1 => e = .returned (.tuple #[]) ∧ (∃ ok1, LInv w0 bO ok1 (acc ++ lookL k N cs 0 l) W1 ∧ ∀ k, ok1 k → ok k ∨ okL k ∨ W.heap.size ≤ k) ∧ LPre bO ok W W1 := by
  have hu := Try.underlying33
  have hu2 := Try.underlying31
  obtain ⟨_, hlc, hRC⟩ := Kd.R_reads' hR
  obtain ⟨v, qo, qf, hO⟩ := hI.out
  obtain ⟨Ao, co, rfl⟩ := Kd.S_slice hO
  have z3 := World.block_lt_of_cell? _ _ qo
  have hmx := hRC.2.1
  have hmc := hC.2.1
  unfold lookOk at hok
  rw [List.all_eq_true] at hok
  have HC := Aside0.mk (fun (x : S31) (W1 : World) (hx : x ∈ cs) (hB : Below W.heap.size W W1) => spec_pzFits.calls k N x.f0 x.f1 x.f2 x.f3 A c l (fitsS k N l x) W1 (Kd.C_below hRC hB) hlc (by
    obtain ⟨b, hb⟩ := Option.isSome_iff_exists.1 (hok x hx)
    unfold fitsS
    rw [hb]
    rfl))
  have HCC := Aside0.mk (fun (W1 : World) (hB : Below W.heap.size W W1) => Kd.C_below hC (hI.below.trans (hB.mono hI.below.size)))
  have HI := Aside0.mk hI
  have HR := Aside0.mk hR
  have HL := Aside0.mk hL
  have HO := Aside0.mk hO
  have QO := Aside0.mk qo
  have QF := Aside0.mk qf
  clear hC hI hR hRC hL hok hO qo qf
  unfold lookL
  obtain ⟨RL, hRL⟩ : ∃ x_, x_ = (if (cs.any fun c => !fitsS k N l c) = true then [] else [l]) := ⟨_, rfl⟩
  rw [← hRL]
  have HRL := Aside0.mk hRL
  clear hRL
  go_enter Try.func79, Try.ntmps79
  go_wp2
  go_loopw [19] (fun n wr => ∃ i : Nat, i ≤ cs.length ∧ n = .int .i64 i ∧ Aside0 ((cs.take i).any (fun c => !fitsS k N l c) = false) ∧ Aside0 (Below W.heap.size W wr)) (fun n _ => cs.length - (intOf n).toNat)
  case atStart => exact ⟨0, Nat.zero_le _, rfl, ⟨rfl⟩, ⟨by repeat (first | exact Below.refl _ _ | apply below_alloc)⟩⟩
  case round =>
    obtain ⟨i, hi, rfl, HA, HB⟩ := hrel
    by_cases hlt : i < cs.length
    · have p1 : (0 : Int) ≤ (i : Int) := by omega
      have q1 : (i : Int) < (cs.length : Int) := by omega
      obtain ⟨ad, e1, hx0, hx1, hx2, hx3⟩ := at_T31 (HCC.out wr HB.out) (i : Int) p1 q1
      cases e1
      simp only [Int.toNat_natCast] at hx0 hx1 hx2 hx3
      have he : rd_T31 cs (i : Int) = cs[i] := by simp [rd_T31, List.getD_eq_getElem?_getD, List.getElem?_eq_getElem hlt]
      rw [he] at hx0 hx1 hx2 hx3
      have HF := Aside0.mk (fun (W1 : World) (hB : Below wr.heap.size wr W1) => HC.out cs[i] W1 (List.getElem_mem hlt) (HB.out.trans (hB.mono HB.out.size)))
      obtain ⟨f, hf⟩ : ∃ f, fitsS k N l cs[i] = f := ⟨_, rfl⟩
      rw [hf] at HF
      have HV := Aside0.mk hf
      clear hf he
      cases f with
      | false =>
        go_wp2_with (go_at_call 53; refine (HF.out _ ?s1).mono ?_; (case s1 => repeat (first | exact Below.refl _ _ | apply below_alloc | apply pw_below_drewN | apply below_drew1)); rintro e w1 ⟨rfl, hb⟩; have HB1 := Aside0.mk (show Below wr.heap.size wr w1 from below_step (by repeat (first | exact Below.refl _ _ | apply below_alloc | apply pw_below_drewN | apply below_drew1)) hb); clear hb)
        (try simp only [Exit.inBlock, Exit.then])
        refine bodyPost_ret (results_none rfl _ _ _) rfl ?_
        have hbw : Below W.heap.size W w1 := HB.out.trans (HB1.out.mono HB.out.size)
        have hrl : RL = [] := HRL.out.trans (if_pos (List.any_eq_true.2 ⟨cs[i], List.getElem_mem hlt, by rw [HV.out]; rfl⟩))
        subst hrl
        exact ⟨rfl, ⟨ok, by simpa using HI.out.step hbw, fun k hk => .inl hk⟩, (LPre.refl _ _ _).below hbw⟩
      | true =>
        go_wp2_with (go_at_call 53; refine (HF.out _ ?s2).mono ?_; (case s2 => repeat (first | exact Below.refl _ _ | apply below_alloc | apply pw_below_drewN | apply below_drew1)); rintro e w1 ⟨rfl, hb⟩; have HB1 := Aside0.mk (show Below wr.heap.size wr w1 from below_step (by repeat (first | exact Below.refl _ _ | apply below_alloc | apply pw_below_drewN | apply below_drew1)) hb); clear hb)
        go_roundw
        case rel => exact ⟨i + 1, by omega, by go_num, ⟨any_snoc' _ cs i hlt HA.out (by rw [HV.out]; rfl)⟩, ⟨HB.out.trans (HB1.out.mono HB.out.size)⟩⟩
        case measure => simp [intOf]; omega
    · have e1 := (HB.out.cell z3).trans QO.out
      have e2 : wr.frozen? ⟨bO, 0, none⟩ = false := (HB.out.frozen z3).trans QF.out
      have hany : (cs.any fun c => !fitsS k N l c) = false := by have h := HA.out; rw [List.take_of_length_le (by omega)] at h; exact h
      have hrl : RL = [l] := HRL.out.trans (by rw [hany]; rfl)
      subst hrl
      clear hany
      go_wp2_with (at_builtin; refine Kd.S_append (Kd.slice 74 k74) (w0 := w0) w0.heap.size rfl (.tmp 32) (.tmp 34) 49 33 (.slice none 0 0) 24 rfl Try.underlying49 infCallSS rfl (by decide) (by decide) _ acc l [.slice A l.length c] (fun k => ok k ∨ okL k ∨ wr.heap.size ≤ k) okL rfl rfl ⟨_, rfl, Kd.R_below HR.out HB.out⟩ (fun k hk => ⟨.inr (.inl hk), fun he => (HL.out k hk).1 ((Kd.S_R HO.out).1 k he.symm)⟩) (fun k hk => .inr (.inr hk)) (Kd.S_mono (Kd.S_below HO.out HB.out) (fun k hk => ⟨.inl hk, fun hx => (HL.out k hx).1 hk⟩)) (HI.out.below.trans (HB.out.mono HI.out.below.size)) (Nat.le_trans HI.out.below.size HB.out.size) (by omega) ?_; intro v1 w2 h1 h2 h3 h4; obtain ⟨A3, c3, rfl⟩ := Kd.S_slice h1; have f0 : w2.heap[bO]? = wr.heap[bO]? := h3.block bO (Nat.lt_of_lt_of_le z3 HB.out.size) (fun he => (HI.out.okb _ ((Kd.S_R HO.out).1 _ he.symm)).2 rfl); have f1 : w2.cell? ⟨bO, 0, none⟩ = _ := (World.cell?_of_block f0).trans e1; have f2 : w2.frozen? ⟨bO, 0, none⟩ = false := (World.frozen?_of_block f0).trans e2; have HX := Aside0.mk (HI.out.put HB.out HL.out (fun k hk => (Kd.S_R HO.out).1 k hk) h1 h2 h3); clear h1 h2 h3 h4 f0)
      (try simp only [Exit.inBlock, Exit.then])
      refine bodyPost_ret (results_none rfl _ _ _) rfl ?_
      exact ⟨rfl, by have h := HX.out; simp only [List.length_append, List.length_cons, List.length_nil, Nat.zero_add] at h; exact h⟩
set_option maxHeartbeats 4000000 in
set_option maxRecDepth 100000 in
theorem look_step (k : Nat) (w0 : World) (bO N : Nat) (hN : N ≤ 4) (cs : List S31) (A2 : Option Addr) (c2 m : Nat) (hm3 : m ≤ 3)
    (ih : ∀ (l : List S74) (acc : List (List S74)) (W : World) (ok okL : Nat → Prop) (A : Option Addr) (c : Nat), LInv w0 bO ok acc W → Kd.R k74 74 W w0.heap.size okL (.slice A l.length c) l → (∀ k, okL k → ¬ ok k ∧ k ≠ bO) → acc.length + 16 ^ m < 5000 → l.length + m ≤ 3 → lookOk k N cs m l = true →
      Calls Try.prog 79 #[.int .i64 N, .int .i64 m, .slice A2 cs.length c2, .slice A l.length c, .pointer (some ⟨bO, 0, none⟩)] W fun e W1 => e = .returned (.tuple #[]) ∧ (∃ ok1, LInv w0 bO ok1 (acc ++ lookL k N cs m l) W1 ∧ ∀ k, ok1 k → ok k ∨ okL k ∨ W.heap.size ≤ k) ∧ LPre bO ok W W1)
    (l : List S74) (acc : List (List S74)) (W : World) (ok okL : Nat → Prop) (A : Option Addr) (c : Nat)
    (hI : LInv w0 bO ok acc W) (hR : Kd.R k74 74 W w0.heap.size okL (.slice A l.length c) l) (hL : ∀ k, okL k → ¬ ok k ∧ k ≠ bO) (hacc : acc.length + 16 ^ (m + 1) < 5000) (hl3 : l.length + (m + 1) ≤ 3) (hok : lookOk k N cs (m + 1) l = true) (M : Int) (hM : M = ((m + 1 : Nat) : Int)) :
    Calls Try.prog 79 #[.int .i64 N, .int .i64 M, .slice A2 cs.length c2, .slice A l.length c, .pointer (some ⟨bO, 0, none⟩)] W fun e W1 => e = .returned (.tuple #[]) ∧ (∃ ok1, LInv w0 bO ok1 (acc ++ lookL k N cs (m + 1) l) W1 ∧ ∀ k, ok1 k → ok k ∨ okL k ∨ W.heap.size ≤ k) ∧ LPre bO ok W W1 := by
  have hu := Try.underlying74
  have hne : (M == 0) = false := beq_eq_false_iff_ne.2 (by omega)
  have hM1 : 1 ≤ M := by omega
  have hM4 : M ≤ 4 := by omega
  have HM := Aside0.mk (show M - 1 = (m : Int) by omega)
  clear hM
  have zO : bO < W.heap.size := by obtain ⟨v, qo, _⟩ := hI.out; exact World.block_lt_of_cell? _ _ qo
  unfold lookOk at hok
  have HK := Aside0.mk (fun (a q : Nat) (ha : a < N) (hq : q < N - (a + 1)) => List.all_eq_true.1 (List.all_eq_true.1 hok a (List.mem_range.2 ha)) q (List.mem_range.2 hq))
  have HI := Aside0.mk hI
  have HR := Aside0.mk hR
  have HL := Aside0.mk hL
  have HRC := Aside0.mk (Kd.R_reads' hR).2.2
  have hlc := (Kd.R_reads' hR).2.1
  have hmx := (Kd.R_reads' hR).2.2.2.1
  obtain ⟨F, hF⟩ : ∃ F : Nat → Nat → List (List S74), F = fun a q => lookL k N cs m (l ++ [⟨(a : Int), ((a + 1 + q : Nat) : Int)⟩]) := ⟨_, rfl⟩
  have hFl : ∀ a q, (F a q).length ≤ 16 ^ m := by intro a q; rw [hF]; exact lookL_len k N hN cs m _
  have hFF : acc ++ lookL k N cs (m + 1) l = acc ++ (List.range N).flatMap fun a => (List.range (N - (a + 1))).flatMap (F a) := by rw [hF]; rfl
  rw [hFF]
  have hbound : ∀ a q, a < N → q < N - (a + 1) → acc.length + (((List.range a).flatMap fun a => (List.range (N - (a + 1))).flatMap (F a)).length + ((List.range q).flatMap (F a)).length) + 16 ^ m < 5000 := by
    intro a q ha hq
    have h1 := flat_range_len (fun a => (List.range (N - (a + 1))).flatMap (F a)) (4 * 16 ^ m) (fun a => Nat.le_trans (flat_range_len _ (16 ^ m) (fun q => hFl a q) _) (Nat.mul_le_mul_right _ (by omega))) a
    have h2 := flat_range_len (F a) (16 ^ m) (fun q => hFl a q) q
    have h3 : a * (4 * 16 ^ m) ≤ 3 * (4 * 16 ^ m) := Nat.mul_le_mul_right _ (by omega)
    have h4 : q * 16 ^ m ≤ 3 * 16 ^ m := Nat.mul_le_mul_right _ (by omega)
    rw [Nat.pow_succ] at hacc
    omega
  have HBd := Aside0.mk hbound
  have HF := Aside0.mk hF
  clear hI hR hL hok hF hFl hFF hbound hacc
  go_enter Try.func79, Try.ntmps79
  go_wp2
  go_loopw [12] (fun n wr => ∃ a : Nat, a ≤ N ∧ n = .int .i64 a ∧ Aside0 (∃ okj, LInv w0 bO okj (acc ++ (List.range a).flatMap fun a => (List.range (N - (a + 1))).flatMap (F a)) wr ∧ ∀ k, okj k → ok k ∨ W.heap.size ≤ k) ∧ Aside0 (LPre bO ok W wr)) (fun n _ => N - (intOf n).toNat)
  case atStart => exact ⟨0, Nat.zero_le _, rfl, ⟨ok, by simpa using HI.out, fun k hk => .inl hk⟩, ⟨LPre.refl _ _ _⟩⟩
  case round =>
    obtain ⟨a, ha, rfl, HJ, HPr⟩ := hrel
    by_cases hlt : a < N
    · have hga : wrap64 ((a : Int) + 1) = ((a + 1 : Nat) : Int) := by unfold wrap64; omega
      go_wp2
      go_loopw [13] (fun n wr2 => ∃ (q : Nat) (B : Int), q ≤ N - (a + 1) ∧ B = ((a + 1 + q : Nat) : Int) ∧ n = .int .i64 B ∧ Aside0 (∃ okj, LInv w0 bO okj ((acc ++ (List.range a).flatMap fun a => (List.range (N - (a + 1))).flatMap (F a)) ++ (List.range q).flatMap (F a)) wr2 ∧ ∀ k, okj k → ok k ∨ W.heap.size ≤ k) ∧ Aside0 (LPre bO ok W wr2)) (fun n _ => N - (intOf n).toNat)
      case atStart => exact ⟨0, (a : Int) + 1, Nat.zero_le _, by omega, by go_num, by simpa using HJ, HPr⟩
      case round =>
        obtain ⟨q, B, hq, hB, rfl, ⟨okj, hIj, hokj⟩, HPq⟩ := hrel
        have hB0 : 0 ≤ B := by omega
        have hB4 : B ≤ 4 := by omega
        by_cases hlt2 : q < N - (a + 1)
        · have hBN : B < (N : Int) := by omega
          have HRl := Kd.R_step (Kd.R_bound HR.out) (fun k hk hlt => HPq.out.block k hlt (HL.out k hk.1).1 (HL.out k hk.1).2)
          have HCl := Aside0.mk (Kd.R_reads' HRl).2.2
          obtain ⟨x, hx⟩ : ∃ x : S74, x = ⟨(a : Int), B⟩ := ⟨_, rfl⟩
          have hFx : F a q = lookL k N cs m (l ++ [x]) := by rw [HF.out, hx, hB]
          have hkx := HK.out a q hlt hlt2
          rw [← hB, ← hx] at hkx
          have HIH := Aside0.mk (fun (W1 : World) (A3 : Option Addr) (c3 n3 : Nat) (hW : Below wr.heap.size wr W1) (hn : (l ++ [x]).length = n3) (hR3 : Kd.R k74 74 W1 wr.heap.size (fun _ => True) (.slice A3 n3 c3) (l ++ [x])) =>
            (show Calls Try.prog 79 #[.int .i64 N, .int .i64 (M - 1), .slice A2 cs.length c2, .slice A3 n3 c3, .pointer (some ⟨bO, 0, none⟩)] W1 fun e W4 => e = .returned (.tuple #[]) ∧ (∃ ok1, LInv w0 bO ok1 (((acc ++ (List.range a).flatMap fun a => (List.range (N - (a + 1))).flatMap (F a)) ++ (List.range q).flatMap (F a)) ++ F a q) W4 ∧ ∀ k, ok1 k → okj k ∨ (True ∧ wr.heap.size ≤ k ∧ k < W1.heap.size ∧ ∃ q, q ∈ 74 :: k74.E ∧ ∃ cells, W1.heap[k]? = some (.cells cells q (0, 0))) ∨ W1.heap.size ≤ k) ∧ LPre bO okj W1 W4 from by
              have h := ih (l ++ [x]) ((acc ++ (List.range a).flatMap fun a => (List.range (N - (a + 1))).flatMap (F a)) ++ (List.range q).flatMap (F a)) W1 okj _ A3 c3 (hIj.step hW) (by rw [hn]; exact Kd.R_lower (Kd.R_bound hR3) (by have := hIj.below.size; omega)) (fun k hk => ⟨fun ho => by have := (hIj.okb k ho).1; have := hk.2.1; omega, fun he => by have h1 := hk.2.1; have h2 := HPq.out.size; omega⟩) (by have h1 := HBd.out a q hlt hlt2; rw [List.length_append, List.length_append]; omega) (by simp only [List.length_append, List.length_cons, List.length_nil]; omega) hkx
              rw [hn, ← hFx] at h
              rw [HM.out]
              exact h))
          have HX := Aside0.mk hx
          have HBB := Aside0.mk hB
          have HJ2 := Aside0.mk hIj
          have HO2 := Aside0.mk hokj
          have HE := Aside0.mk (R_empty k74 74 wr)
          clear hx hB hFx hkx HRl hIj hokj hq
          go_wp2_with (first
            | (at_builtin; refine Kd.R_append_rows k74 (w0 := wr) wr.heap.size rfl (.tmp 49) (.tmp 50) 33 74 (.agg #[.int .i64 0, .int .i64 0]) 16 rfl Try.underlying33 infCall' rfl (by decide) (by decide) _ [] l A l.length c (fun _ => True) (fun _ => False) rfl rfl HE.out (Kd.C_below HCl.out (by repeat (first | exact Below.refl _ _ | apply below_alloc))) (fun y cs => flatCall' _ _ _ _ y cs) (fun _ hk => hk.elim) (fun _ _ => trivial) (by repeat (first | exact Below.refl _ _ | apply below_alloc)) (by simp) (by simp; omega) ?_; intro v1 w2 h1 h2 h3 h4; rw [List.nil_append] at h1; obtain ⟨A5, c5, rfl⟩ := Kd.R_slice h1; have G1 := Aside0.mk h1; have G2 := Aside0.mk h2; clear h1 h2 h3 h4)
            | (at_builtin; refine Kd.R_append k74 (w0 := wr) wr.heap.size rfl (.tmp 51) (.tmp 55) 33 74 (.agg #[.int .i64 0, .int .i64 0]) 16 rfl Try.underlying33 infCall' rfl (by decide) (by decide) _ l ⟨(a : Int), B⟩ [.int .i64 (a : Int), .int .i64 B] (fun _ => True) (fun _ => False) rfl rfl (k74_mkM w2 wr.heap.size _ ⟨(a : Int), B⟩) (fun _ hk => hk.elim) (fun _ _ => trivial) G1.out G2.out G2.out.size (by omega) ?_; intro v1 w3 h1 h2 h3 h4; rw [← HX.out] at h1; obtain ⟨A6, c6, rfl⟩ := Kd.R_slice h1; have G3 := Aside0.mk h1; have G4 := Aside0.mk h2; clear h1 h2 h3 h4)
            | (go_at_call 79; refine Calls.mono (HIH.out w3 A6 c6 _ G4.out (by simp) (by first | exact G3.out | (have h := G3.out; simp only [List.length_append, List.length_cons, List.length_nil, Nat.zero_add] at h; exact h))) ?_; rintro e w4 ⟨rfl, ⟨ok4, hI4, ho4⟩, hp4⟩; have HD4 := Aside0.mk hI4; have HO4 := Aside0.mk ho4; have HP4 := Aside0.mk hp4; clear hI4 ho4 hp4))
          go_roundw
          case rel =>
            have s1 := HPq.out.size
            have s2 := G4.out.size
            exact ⟨q + 1, B + 1, by omega, by rw [HBB.out]; omega, by go_num, ⟨ok4, by rw [range_succ_flat, ← List.append_assoc]; exact HD4.out, fun k hk => by
              rcases HO4.out k hk with h | ⟨_, h, _⟩ | h
              · exact HO2.out k h
              · exact .inr (by omega)
              · exact .inr (by omega)⟩, ⟨(HPq.out.below G4.out).trans HP4.out HO2.out⟩⟩
          case measure => simp [intOf]; omega
        · have hBN : ¬ (B < (N : Int)) := by omega
          have HJ2 := Aside0.mk hIj
          have HO2 := Aside0.mk hokj
          clear hIj hokj
          go_wp2
          go_roundw
          case rel => exact ⟨a + 1, by omega, by go_num, ⟨okj, by rw [range_succ_flat, ← List.append_assoc]; rw [show q = N - (a + 1) by omega] at HJ2; exact HJ2.out, HO2.out⟩, HPq⟩
          case measure => simp [intOf]; omega
    · go_wp2
      go_end0
      obtain ⟨okj, hIj, hokj⟩ := HJ
      exact ⟨rfl, ⟨okj, by rw [show a = N by omega] at hIj; exact hIj, fun k hk => (hokj k hk).imp id .inr⟩, HPr.out⟩
theorem look_all (k : Nat) (w0 : World) (bO N : Nat) (hN : N ≤ 4) (cs : List S31) (A2 : Option Addr) (c2 : Nat) (hC : Kd.C k31 w0 A2 cs.length cs) : ∀ (m : Nat) (l : List S74) (acc : List (List S74)) (W : World) (ok okL : Nat → Prop) (A : Option Addr) (c : Nat), LInv w0 bO ok acc W → Kd.R k74 74 W w0.heap.size okL (.slice A l.length c) l → (∀ k, okL k → ¬ ok k ∧ k ≠ bO) → acc.length + 16 ^ m < 5000 → l.length + m ≤ 3 → lookOk k N cs m l = true →
      Calls Try.prog 79 #[.int .i64 N, .int .i64 m, .slice A2 cs.length c2, .slice A l.length c, .pointer (some ⟨bO, 0, none⟩)] W fun e W1 => e = .returned (.tuple #[]) ∧ (∃ ok1, LInv w0 bO ok1 (acc ++ lookL k N cs m l) W1 ∧ ∀ k, ok1 k → ok k ∨ okL k ∨ W.heap.size ≤ k) ∧ LPre bO ok W W1 := by
  intro m
  induction m with
  | zero => exact fun l acc W ok okL A c hI hR hL hacc hl hok => look_leaf k w0 bO N cs A2 c2 hC l acc W ok okL A c hI hR hL (by simp at hacc; omega) hok
  | succ m ih => exact fun l acc W ok okL A c hI hR hL hacc hl hok => look_step k w0 bO N hN cs A2 c2 m (by omega) ih l acc W ok okL A c hI hR hL hacc hl hok _ rfl


/-! ### spec_pzAll: function 48, by hand -/
theorem look_mono (k N : Nat) (cs : List S31) : ∀ (m : Nat) (l : List S74), lookOk k N cs m l = true → lookOk (k + 1) N cs m l = true ∧ lookL (k + 1) N cs m l = lookL k N cs m l := by
  intro m
  induction m with
  | zero =>
    intro l h
    unfold lookOk at h ⊢
    rw [List.all_eq_true] at h
    have hs : ∀ c, c ∈ cs → spec_pzFits.f (k + 1) (N : Int) c.f0 c.f1 c.f2 c.f3 l = spec_pzFits.f k (N : Int) c.f0 c.f1 c.f2 c.f3 l := fun c hc => by
      obtain ⟨x, hx⟩ := Option.isSome_iff_exists.1 (h c hc)
      rw [spec_pzFits.mono _ _ _ _ _ _ k _ hx, hx]
    refine ⟨?_, ?_⟩
    · rw [List.all_eq_true]
      exact fun c hc => by rw [hs c hc]; exact h c hc
    · unfold lookL
      have e : (cs.any fun c => !fitsS (k + 1) N l c) = (cs.any fun c => !fitsS k N l c) := by
        rw [Bool.eq_iff_iff, List.any_eq_true, List.any_eq_true]
        constructor
        · rintro ⟨c, hc, h2⟩
          exact ⟨c, hc, by unfold fitsS at h2 ⊢; rw [hs c hc] at h2; exact h2⟩
        · rintro ⟨c, hc, h2⟩
          exact ⟨c, hc, by unfold fitsS at h2 ⊢; rw [hs c hc]; exact h2⟩
      rw [e]
  | succ m ih =>
    intro l h
    unfold lookOk at h ⊢
    have h' : ∀ a, a < N → ∀ q, q < N - (a + 1) → lookOk k N cs m (l ++ [⟨(a : Int), ((a + 1 + q : Nat) : Int)⟩]) = true := fun a ha q hq => List.all_eq_true.1 (List.all_eq_true.1 h a (List.mem_range.2 ha)) q (List.mem_range.2 hq)
    refine ⟨?_, ?_⟩
    · rw [List.all_eq_true]
      intro a ha
      rw [List.all_eq_true]
      exact fun q hq => (ih _ (h' a (List.mem_range.1 ha) q (List.mem_range.1 hq))).1
    · unfold lookL
      rw [List.flatMap_def, List.flatMap_def]
      refine congrArg _ (List.map_congr_left fun a ha => ?_)
      rw [List.flatMap_def, List.flatMap_def]
      exact congrArg _ (List.map_congr_left fun q hq => (ih _ (h' a (List.mem_range.1 ha) q (List.mem_range.1 hq))).2)
/-- (only where it is a puzzle's) -/
def spec_pzAll.f (k : Nat) (a0 a1 : Int) (l2 l3 : List S31) : Option (List (List S74)) :=
  if 0 ≤ a0 ∧ a0 ≤ 4 ∧ 0 ≤ a1 ∧ a1 ≤ 3 ∧ lookOk k a0.toNat l3 a1.toNat [] = true then some (lookL k a0.toNat l3 a1.toNat []) else none
theorem spec_pzAll.mono : ∀ a0 a1 a2 a3 k, LeO (spec_pzAll.f k a0 a1 a2 a3) (spec_pzAll.f (k + 1) a0 a1 a2 a3) := by
  intro a0 a1 a2 a3 k r h
  unfold spec_pzAll.f at h ⊢
  by_cases hc : 0 ≤ a0 ∧ a0 ≤ 4 ∧ 0 ≤ a1 ∧ a1 ≤ 3 ∧ lookOk k a0.toNat a3 a1.toNat [] = true
  · rw [if_pos hc] at h
    obtain ⟨h3, h4⟩ := look_mono k a0.toNat a3 a1.toNat [] hc.2.2.2.2
    rw [if_pos ⟨hc.1, hc.2.1, hc.2.2.1, hc.2.2.2.1, h3⟩, h4, h]
  · rw [if_neg hc] at h
    cases h
set_option maxHeartbeats 4000000 in
set_option maxRecDepth 100000 in
theorem spec_pzAll.calls (k : Nat) (a0_0 : Int) (a0_1 : Int) (A0_2 : Option Addr) (c0_2 : Nat) (l0_2 : List S31) (A1 : Option Addr) (c1 : Nat) (l1 : List S31) (r : List (List S74)) (w : World) (hr0_2 : Kd.C k31 w A0_2 l0_2.length l0_2) (hc0_2 : l0_2.length ≤ c0_2) (hr1 : Kd.C k31 w A1 l1.length l1) (hc1 : l1.length ≤ c1) (h : spec_pzAll.f k a0_0 a0_1 l0_2 l1 = some r) :
    Calls Try.prog 48 #[.agg #[.int .i64 a0_0, .int .i64 a0_1, .slice A0_2 l0_2.length c0_2], .slice A1 l1.length c1] w fun e w' => ∃ v0_ : Value, e = .returned (v0_) ∧ Kd.S (Kd.slice 74 k74) 33 w' w.heap.size (fun _ => True) v0_ r ∧ Below w.heap.size w w' := by
  have hp := Try.underlying44
  unfold spec_pzAll.f at h
  by_cases hk : 0 ≤ a0_0 ∧ a0_0 ≤ 4 ∧ 0 ≤ a0_1 ∧ a0_1 ≤ 3 ∧ lookOk k a0_0.toNat l1 a0_1.toNat [] = true
  · rw [if_pos hk] at h
    obtain rfl := Option.some.inj h
    obtain ⟨N, rfl⟩ := Int.eq_ofNat_of_zero_le hk.1
    obtain ⟨m, rfl⟩ := Int.eq_ofNat_of_zero_le hk.2.2.1
    simp only [Int.toNat_natCast] at hk ⊢
    have hpow : (16 : Nat) ^ m ≤ 16 ^ 3 := Nat.pow_le_pow_right (by omega) (by omega)
    have h216 : (16 : Nat) ^ 3 = 4096 := by decide
    have HA := Aside0.mk (fun (W : World) (bO : Nat) (hI : LInv w bO (fun _ => False) [] W) =>
      (show Calls Try.prog 79 #[.int .i64 N, .int .i64 m, .slice A1 l1.length c1, .slice none 0 0, .pointer (some ⟨bO, 0, none⟩)] W fun e W1 => e = .returned (.tuple #[]) ∧ ∃ ok1, LInv w bO ok1 (lookL k N l1 m []) W1 from
        (look_all k w bO N (by omega) l1 A1 c1 hr1 m [] [] W (fun _ => False) (fun _ => False) none 0 hI (Kd.R_nil _ _ _ _ _) (fun _ hk => hk.elim) (by simp; omega) (by simp; omega) hk.2.2.2.2).mono (by
          rintro e W1 ⟨h1, ⟨ok1, h2, _⟩, _⟩
          exact ⟨h1, ok1, h2⟩)))
    have HI := Aside0.mk (show LInv w (w.heap.size + 1) (fun _ => False) [] ((w.alloc (Obj.cells #[Value.int .i64 (N : Int), Value.int .i64 (m : Int), Value.slice A0_2 l0_2.length c0_2] 44)).alloc (Obj.cells #[Value.slice none 0 0] 49)) from by
      refine ⟨by repeat (first | exact Below.refl _ _ | apply below_alloc), by omega, ⟨Value.slice none 0 0, by go_simp, by go_simp, Kd.S_nil _ _ _ _ _⟩, fun _ hk => hk.elim⟩)
    clear hk hr1 hc1 hr0_2 hc0_2 hpow h216 h
    go_enter Try.func48, Try.ntmps48
    go_wp2_with (go_at_call 79; refine Calls.mono (HA.out _ _ HI.out) ?_; rintro e w1 ⟨rfl, ok1, hI1⟩; obtain ⟨v1, f1, _, hr1⟩ := hI1.out; obtain ⟨A4, c4, rfl⟩ := Kd.S_slice hr1; have HR1 := Aside0.mk hr1; have HB1 := Aside0.mk hI1.below; clear hr1 hI1)
    go_ret
    exact ⟨_, rfl, Kd.S_mono HR1.out (fun _ _ => trivial), HB1.out⟩
  · rw [if_neg hk] at h
    cases h

/-! ### spec_HiddenLists: function 12 -/
def spec_HiddenLists.f (k : Nat) (a0 : Int) (a1 : Int) : Option (Int × Bool) := (spec_pzSize.f a0 a1).bind fun t169 => (if t169 = true then ((spec_pzAll.f k a0 a1 ([] : List (S31)) ([] : List (S31))).bind fun t170 => (some ((t170.length : Int), true))) else (some (0, false)))
theorem spec_HiddenLists.mono : ∀ a0 a1 k, LeO (spec_HiddenLists.f k a0 a1) (spec_HiddenLists.f (k + 1) a0 a1) := by
  intro a0 a1 k
  unfold spec_HiddenLists.f
  repeat' first
      | (with_reducible exact spec_pzAll.mono _ _ _ _ _)
      | (with_reducible exact LeO.refl _)
      | (with_reducible exact LeO.none _)
      | (with_reducible refine LeO.ite ?_ ?_)
      | (with_reducible refine LeO.bind ?_ (fun _ => ?_))
      | exact spec_pzAll.mono _ _ _ _ _
      | exact LeO.none _
      | refine LeO.ite ?_ ?_
      | refine LeO.bind ?_ (fun _ => ?_)
set_option maxHeartbeats 8000000 in
set_option maxRecDepth 100000 in
theorem spec_HiddenLists.calls (k : Nat) (a0 : Int) (a1 : Int) (r1 : Int) (r2 : Bool) (w : World) (h : spec_HiddenLists.f k a0 a1 = some (r1, r2)) :
    Calls Try.prog 12 #[.int .i64 a0, .int .i64 a1] w fun e w' => e = .returned (.tuple #[.int .i64 r1, .bool r2]) ∧ Below w.heap.size w w' := by
  have hu44 := Try.underlying44
  have HB := Aside0.mk (Below.refl w.heap.size w)
  have H : ((spec_pzSize.f a0 a1).bind fun t169 => (if t169 = true then ((spec_pzAll.f k a0 a1 ([] : List (S31)) ([] : List (S31))).bind fun t170 => (some ((t170.length : Int), true))) else (some (0, false)))) = some (r1, r2) := h
  clear h
  replace H := Option.bind_eq_some_iff.mp H
  obtain ⟨t169, A30, H⟩ := H
  replace H : (if t169 = true then ((spec_pzAll.f k a0 a1 ([] : List (S31)) ([] : List (S31))).bind fun t170 => (some ((t170.length : Int), true))) else (some (0, false))) = some (r1, r2) := H
  have A3 := Aside0.mk A30
  clear A30
  by_cases c4 : t169 = true
  · subst c4
    have H1 : ((spec_pzAll.f k a0 a1 ([] : List (S31)) ([] : List (S31))).bind fun t170 => (some ((t170.length : Int), true))) = some (r1, r2) := by rw [if_pos rfl] at H; exact H
    clear H
    have H := H1
    clear H1
    replace H := Option.bind_eq_some_iff.mp H
    obtain ⟨t170, A50, H⟩ := H
    replace H : (some ((t170.length : Int), true)) = some (r1, r2) := H
    have A5 := Aside0.mk A50
    clear A50
    simp only [Option.some.injEq, Prod.mk.injEq] at H
    obtain ⟨rfl, rfl⟩ := H
    go_enter Try.func12, Try.ntmps12
    go_wp2_with (first | ((with_reducible refine gate_callee (f := 47) rfl ?_); refine goesL_ (some 8) rfl rfl Try.func47 (by kernel_rfl) rfl #[.int .i64 a0, .int .i64 a1] rfl (by (try simp only [List.map_toArray, List.map_cons, List.map_nil]); first | done | rfl | (simp only [List.length_drop, List.length_take]; rfl)) ?_; (with_reducible refine (spec_pzSize.calls a0 a1 true _ A3.out).mono ?_); rintro e w' ⟨rfl, ⟨nd, rfl⟩⟩; refine ⟨_, rfl, ?_⟩) | ((with_reducible refine gate_callee (f := 48) rfl ?_); refine goesL_ (some 13) rfl rfl Try.func48 (by kernel_rfl) rfl #[.agg #[.int .i64 a0, .int .i64 a1, .slice none 0 0], .slice none 0 0] rfl (by (try simp only [List.map_toArray, List.map_cons, List.map_nil]); first | done | rfl | (simp only [List.length_drop, List.length_take]; rfl)) ?_; (refine (spec_pzAll.calls k a0 a1 _ _ ([] : List (S31)) _ _ ([] : List (S31)) t170 _ ?side1 ?side2 ?side3 ?side4 A5.out).mono ?_); (case side1 => exact Kd.C_nil _ _); (case side2 => exact Nat.le_refl _); (case side3 => exact Kd.C_nil _ _); (case side4 => exact Nat.le_refl _); rintro e w6 ⟨v171, rfl, ho0, hb⟩; refine ⟨_, rfl, ?_⟩; have n0_ := Aside0.mk (Kd.S_lower ho0 (below_size (by repeat (first | (with_reducible first | exact HB.out | apply below_alloc | apply pw_below_drewN | apply below_drew1) | exact HB.out)))); have n1_ := Aside0.mk (below_step (by repeat (first | (with_reducible first | exact HB.out | apply below_alloc | apply pw_below_drewN | apply below_drew1) | exact HB.out)) hb); clear HB; have HO172 := n0_; have HB := n1_; clear n0_ n1_; (try clear hb); (try clear hb2); (try clear hk); (try clear hi); (try clear ho0); obtain ⟨Ao7, co7, eo7⟩ := Kd.S_slice HO172.out; subst eo7))
    go_ret2
    exact ⟨by first | rfl | (simp [errW_none, errW_some] <;> rfl) | (simp [*, errW_none, errW_some] <;> rfl), by repeat (first | (with_reducible first | exact HB.out | apply below_alloc | apply pw_below_drewN | apply below_drew1) | exact HB.out)⟩
  · replace c4 := Bool.eq_false_iff.mpr c4
    subst c4
    have H1 : (some (0, false)) = some (r1, r2) := by rw [if_neg (show ¬ (false = true) by decide)] at H; exact H
    clear H
    have H := H1
    clear H1
    simp only [Option.some.injEq, Prod.mk.injEq] at H
    obtain ⟨rfl, rfl⟩ := H
    go_enter Try.func12, Try.ntmps12
    go_wp2_with (first | ((with_reducible refine gate_callee (f := 47) rfl ?_); refine goesL_ (some 8) rfl rfl Try.func47 (by kernel_rfl) rfl #[.int .i64 a0, .int .i64 a1] rfl (by (try simp only [List.map_toArray, List.map_cons, List.map_nil]); first | done | rfl | (simp only [List.length_drop, List.length_take]; rfl)) ?_; (with_reducible refine (spec_pzSize.calls a0 a1 false _ A3.out).mono ?_); rintro e w' ⟨rfl, ⟨nd, rfl⟩⟩; refine ⟨_, rfl, ?_⟩))
    go_ret2
    exact ⟨by first | rfl | (simp [errW_none, errW_some] <;> rfl) | (simp [*, errW_none, errW_some] <;> rfl), by repeat (first | (with_reducible first | exact HB.out | apply below_alloc | apply pw_below_drewN | apply below_drew1) | exact HB.out)⟩

/-! ### impl_within: function 75 -/
def impl_within.f (a0 : Int) (a1 : Int) (a2 : Int) : Option (Bool) := if a1 ≤ a0 then (some (decide (a0 ≤ a2))) else (some false)
set_option maxHeartbeats 8000000 in
set_option maxRecDepth 100000 in
theorem impl_within.calls (a0 : Int) (a1 : Int) (a2 : Int) (r : Bool) (w : World) (h : impl_within.f a0 a1 a2 = some r) :
    Calls Try.prog 75 #[.int .i64 a0, .int .i64 a1, .int .i64 a2] w fun e w' => e = .returned (.bool r) ∧ Drawn0 w w' := by
  have H : (if a1 ≤ a0 then (some (decide (a0 ≤ a2))) else (some false)) = some r := h
  clear h
  by_cases c4 : a1 ≤ a0
  · rw [if_pos c4] at H
    have c4b0 : decide (a1 ≤ a0) = true := decide_eq_true c4
    clear c4
    obtain rfl := Option.some.inj H
    go_enter Try.func75, Try.ntmps75
    go_wp2
    go_ret
    exact ⟨by first | rfl | (simp; done) | (simp [*]; done), by repeat (first | exact Drawn0.refl _ | apply Drawn0.step)⟩
  · rw [if_neg c4] at H
    have c4b0 : decide (a1 ≤ a0) = false := decide_eq_false c4
    clear c4
    obtain rfl := Option.some.inj H
    go_enter Try.func75, Try.ntmps75
    go_wp2
    go_ret
    exact ⟨by first | rfl | (simp; done) | (simp [*]; done), by repeat (first | exact Drawn0.refl _ | apply Drawn0.step)⟩

/-! ### impl_areHidden: function 49 -/
def impl_areHidden.f (a0 : Int) (a1 : Int) : Option (Bool) := (impl_within.f a0 2 4).bind fun t173 => (if t173 = true then ((impl_within.f a1 0 3).bind fun t174 => (some t174)) else (some false))
set_option maxHeartbeats 8000000 in
set_option maxRecDepth 100000 in
theorem impl_areHidden.calls (a0 : Int) (a1 : Int) (r : Bool) (w : World) (h : impl_areHidden.f a0 a1 = some r) :
    Calls Try.prog 49 #[.int .i64 a0, .int .i64 a1] w fun e w' => e = .returned (.bool r) ∧ Drawn0 w w' := by
  have H : ((impl_within.f a0 2 4).bind fun t173 => (if t173 = true then ((impl_within.f a1 0 3).bind fun t174 => (some t174)) else (some false))) = some r := h
  clear h
  replace H := Option.bind_eq_some_iff.mp H
  obtain ⟨t173, A30, H⟩ := H
  replace H : (if t173 = true then ((impl_within.f a1 0 3).bind fun t174 => (some t174)) else (some false)) = some r := H
  have A3 := Aside0.mk A30
  clear A30
  by_cases c4 : t173 = true
  · subst c4
    have H1 : ((impl_within.f a1 0 3).bind fun t174 => (some t174)) = some r := by rw [if_pos rfl] at H; exact H
    clear H
    have H := H1
    clear H1
    replace H := Option.bind_eq_some_iff.mp H
    obtain ⟨t174, A50, H⟩ := H
    replace H : (some t174) = some r := H
    have A5 := Aside0.mk A50
    clear A50
    obtain rfl := Option.some.inj H
    go_enter Try.func49, Try.ntmps49
    go_wp2_with (first | ((with_reducible refine gate_callee (f := 75) rfl ?_); refine goesL_ (some 6) rfl rfl Try.func75 (by kernel_rfl) rfl #[.int .i64 a0, .int .i64 2, .int .i64 4] rfl (by (try simp only [List.map_toArray, List.map_cons, List.map_nil]); first | done | rfl | (simp only [List.length_drop, List.length_take]; rfl)) ?_; (with_reducible refine (impl_within.calls a0 2 4 true _ A3.out).mono ?_); rintro e w' ⟨rfl, ⟨nd, rfl⟩⟩; refine ⟨_, rfl, ?_⟩) | (go_at_call 75; (with_reducible refine (impl_within.calls a1 0 3 t174 _ A5.out).mono ?_); rintro e w' ⟨rfl, ⟨nd, rfl⟩⟩))
    go_ret
    exact ⟨by first | rfl | (simp; done) | (simp [*]; done), by repeat (first | exact Drawn0.refl _ | apply Drawn0.step)⟩
  · replace c4 := Bool.eq_false_iff.mpr c4
    subst c4
    have H1 : (some false) = some r := by rw [if_neg (show ¬ (false = true) by decide)] at H; exact H
    clear H
    have H := H1
    clear H1
    obtain rfl := Option.some.inj H
    go_enter Try.func49, Try.ntmps49
    go_wp2_with (first | ((with_reducible refine gate_callee (f := 75) rfl ?_); refine goesL_ (some 6) rfl rfl Try.func75 (by kernel_rfl) rfl #[.int .i64 a0, .int .i64 2, .int .i64 4] rfl (by (try simp only [List.map_toArray, List.map_cons, List.map_nil]); first | done | rfl | (simp only [List.length_drop, List.length_take]; rfl)) ?_; (with_reducible refine (impl_within.calls a0 2 4 false _ A3.out).mono ?_); rintro e w' ⟨rfl, ⟨nd, rfl⟩⟩; refine ⟨_, rfl, ?_⟩))
    go_ret
    exact ⟨by first | rfl | (simp; done) | (simp [*]; done), by repeat (first | exact Drawn0.refl _ | apply Drawn0.step)⟩

/-! ### impl_first: function 115 -/
def impl_first.l0 : Nat → List Int → Int → Int → Option (List Int)
  | 0, _, _, _ => none
  | k + 1, x3, x6, x7 => if x7 < x6 then (if 0 ≤ x7 then (if x3.length < 70368744177664 then (impl_first.l0 k (x3 ++ [shl .u16 1 x7]) x6 (wrap64 (x7 + 1))) else (none)) else (none)) else (some x3)
def impl_first.f (k : Nat) (a0 : Int) : Option (List Int) := impl_first.l0 k (([] : List Int)) a0 0
theorem impl_first.mono_l : ∀ k, (∀ y0 y1 y2, LeO (impl_first.l0 k y0 y1 y2) (impl_first.l0 (k + 1) y0 y1 y2))
  | 0 => fun _ _ _ r h => by simp [impl_first.l0] at h
  | k + 1 => by
    have ih0 := impl_first.mono_l k
    · intro y0 y1 y2
      unfold impl_first.l0
      repeat' first
      | (with_reducible exact ih0 _ _ _)
      | (with_reducible exact LeO.refl _)
      | (with_reducible exact LeO.none _)
      | (with_reducible refine LeO.ite ?_ ?_)
      | (with_reducible refine LeO.bind ?_ (fun _ => ?_))
      | exact ih0 _ _ _
      | exact LeO.none _
      | refine LeO.ite ?_ ?_
      | refine LeO.bind ?_ (fun _ => ?_)
theorem impl_first.mono : ∀ a0 k, LeO (impl_first.f k a0) (impl_first.f (k + 1) a0) := by
  intro a0 k
  have ih0 := impl_first.mono_l k
  unfold impl_first.f
  repeat' first
      | (with_reducible exact ih0 _ _ _)
      | (with_reducible exact LeO.refl _)
      | (with_reducible exact LeO.none _)
      | (with_reducible refine LeO.ite ?_ ?_)
      | (with_reducible refine LeO.bind ?_ (fun _ => ?_))
      | exact ih0 _ _ _
      | exact LeO.none _
      | refine LeO.ite ?_ ?_
      | refine LeO.bind ?_ (fun _ => ?_)
set_option maxHeartbeats 8000000 in
set_option maxRecDepth 100000 in
theorem impl_first.calls (k : Nat) (a0 : Int) (r : List Int) (w : World) (h : impl_first.f k a0 = some r) :
    Calls Try.prog 115 #[.int .i64 a0] w fun e w' => ∃ v0_ : Value, e = .returned (v0_) ∧ Kd.R (Kd.int .u16) 120 w' w.heap.size (fun _ => True) v0_ r ∧ Below w.heap.size w w' := by
  have HB := Aside0.mk (Below.refl w.heap.size w)
  have H : (impl_first.l0 k (([] : List Int)) a0 0) = some r := h
  clear h
  obtain ⟨y175, hy175⟩ : ∃ y_ : List Int, y_ = (([] : List Int)) := ⟨_, rfl⟩
  replace H : (impl_first.l0 k y175 a0 0) = some r := by first | (rw [hy175]; with_reducible exact H) | (have H2_ := (Option.bind_some _ _).symm.trans H; rw [hy175]; with_reducible exact H2_) | (have H2_ := (Option.bind_some _ _).symm.trans H; with_reducible exact H2_) | with_reducible exact H | (rw [hy175]; exact H) | exact H
  have Ny175 := Aside0.mk hy175
  clear hy175
  have H' := Aside0.mk H
  clear H
  go_enter Try.func115, Try.ntmps115
  go_wp2_with (first | ((with_reducible refine gate_dst (N := 5) rfl ?_); refine Kd.R_lit (Kd.int .u16) _ 120 ?hg (N := 5) ?hd (xs := ([] : List Int)) (inner := []) (ok := fun _ => True) (okp := fun _ => True) ?hr ?hp (fun _ hk => hk) trivial (Below.refl _ _) (Nat.le_refl _) (by simp) ?_; (case hd => rfl); (case hg => rfl); (case hr => first | (go_simp; done) | (go_simp; rfl)); (case hp => exact (Reps.none _ _)); intro v176 w2 ho3 hb hg_ hnew_; clear hg_ hnew_; (first | rw [← Ny175.out] at ho3 | (simp only [Int.reduceToNat] at ho3; rw [← Ny175.out] at ho3)); have n0_ := Aside0.mk (Kd.R_lower ho3 (below_size (by repeat (first | (with_reducible first | exact HB.out | apply below_alloc | apply pw_below_drewN | apply below_drew1) | exact HB.out)))); have n1_ := Aside0.mk (below_step (by repeat (first | (with_reducible first | exact HB.out | apply below_alloc | apply pw_below_drewN | apply below_drew1) | exact HB.out)) hb); clear HB; have HO177 := n0_; have HB := n1_; clear n0_ n1_; clear hb ho3))
  go_loopg [3, 7] k (fun kq v3 v7 w' => ∃ (x3_1 : List Int) (x7_1 : Int), v7 = .int .i64 x7_1 ∧ Aside0 (impl_first.l0 kq x3_1 a0 x7_1 = some r) ∧ Aside0 (kq ≤ k) ∧ Aside0 (Kd.R (Kd.int .u16) 120 w' w.heap.size (fun _ => True) v3 x3_1) ∧ Aside0 (Below w.heap.size w w'))
  case atStart => exact ⟨(y175), (0), (by first | rfl | (simp; done) | (simp [*]; done)), H', ⟨Nat.le_refl _⟩, ⟨by (with_reducible repeat (first | apply Kd.R_alloc | apply Kd.R_drewN | apply Kd.R_drew)); exact HO177.out⟩, ⟨by repeat (first | (with_reducible first | exact HB.out | apply below_alloc | apply pw_below_drewN | apply below_drew1) | exact HB.out)⟩⟩
  case round =>
    clear H'
    try clear c1
    try clear p2
    obtain ⟨x3_1, x7_1, rfl, HA, HK1, HO_3, HB⟩ := hrel
    cases gk with
    | zero => exact absurd HA.out (by simp [impl_first.l0])
    | succ k1 =>
      have H := HA.out
      clear HA
      simp only [impl_first.l0] at H
      by_cases c4 : x7_1 < a0
      · rw [if_pos c4] at H
        have c4b0 : decide (x7_1 < a0) = true := decide_eq_true c4
        clear c4
        by_cases c5 : 0 ≤ x7_1
        · rw [if_pos c5] at H
          have c5b0 := eq_true c5
          have c5b1 : decide (0 ≤ x7_1) = true := decide_eq_true c5
          clear c5
          obtain ⟨ji6, hji6⟩ : ∃ j_ : Int, (shl .u16 1 x7_1) = j_ := ⟨_, rfl⟩
          replace H : (if x3_1.length < 70368744177664 then (impl_first.l0 k1 (x3_1 ++ [ji6]) a0 (wrap64 (x7_1 + 1))) else (none)) = some r := by first | (rw [hji6] at H; exact H) | (simp only [hji6] at H ⊢; exact H)
          have hji6_ : (IntKind.u16.wrap (1 * 2 ^ min x7_1.toNat 16)) = ji6 := hji6
          have hji6z : x7_1 ≤ 16 → (IntKind.u16.wrap (1 * 2 ^ x7_1.toNat)) = ji6 := shl_small hji6
          have hji6u : (IntKind.u16.wrap (2 ^ min x7_1.toNat 16)) = ji6 := by have h_ := hji6_; rw [Int.one_mul] at h_; exact h_
          have hji6v : x7_1 ≤ 16 → (IntKind.u16.wrap (2 ^ x7_1.toNat)) = ji6 := fun hle_ => by have h_ := hji6z hle_; rw [Int.one_mul] at h_; exact h_
          by_cases c7 : x3_1.length < 70368744177664
          · rw [if_pos c7] at H
            have LMc7 := Aside0.mk c7
            clear c7
            obtain ⟨y178, hy178⟩ : ∃ y_ : List Int, y_ = (x3_1 ++ [ji6]) := ⟨_, rfl⟩
            replace H : (impl_first.l0 k1 y178 a0 (wrap64 (x7_1 + 1))) = some r := by first | (rw [hy178]; with_reducible exact H) | (have H2_ := (Option.bind_some _ _).symm.trans H; rw [hy178]; with_reducible exact H2_) | (have H2_ := (Option.bind_some _ _).symm.trans H; with_reducible exact H2_) | with_reducible exact H | (rw [hy178]; exact H) | exact H
            have Ny178 := Aside0.mk hy178
            clear hy178
            have H' := Aside0.mk H
            clear H
            go_wp2_with (first | ((with_reducible refine gate_builtin (b := .append) (xs := #[.tmp 10, .tmp 13]) rfl ?_); at_builtin; refine Kd.R_append (Kd.int .u16) (w0 := w) w.heap.size rfl (.tmp 10) (.tmp 13) 116 120 (.int .u16 0) 2 rfl Try.underlying116 info120 rfl (by decide) (by omega) u3 x3_1 ji6 [.int .u16 ji6] (fun _ => True) (fun _ => False) rfl rfl ?aP (fun _ hk => hk.elim) ?aF ?aO ?aB ?aS ?aL ?_; (case aP => exact rfl); (case aB => exact (by repeat (first | (with_reducible first | exact HB.out | apply below_alloc | apply pw_below_drewN | apply below_drew1) | exact HB.out))); (case aF => exact (fun _ _ => trivial)); (case aO => exact (by (with_reducible repeat (first | apply Kd.R_alloc | apply Kd.R_drewN | apply Kd.R_drew)); exact HO_3.out)); (case aS => exact (below_size (by repeat (first | (with_reducible first | exact HB.out | apply below_alloc | apply pw_below_drewN | apply below_drew1) | exact HB.out)))); (case aL => have := LMc7.out; omega); intro v179 w8 ho hb hg hat; rw [← Ny178.out] at ho; have n0_ := Aside0.mk (hb); have n1_ := Aside0.mk (ho); clear HB; clear HO_3; have HB := n0_; have HO180 := n1_; clear n0_ n1_; clear ho hb hg hat))
            go_roundg k1
            case measure => have := HK1.out; omega
            case rel => exact ⟨(y178), (wrap64 (x7_1 + 1)), (by first | rfl | (simp; done) | (simp [*]; done)), H', ⟨by have := HK1.out; omega⟩, ⟨by (with_reducible repeat (first | apply Kd.R_alloc | apply Kd.R_drewN | apply Kd.R_drew)); exact HO180.out⟩, ⟨by repeat (first | (with_reducible first | exact HB.out | apply below_alloc | apply pw_below_drewN | apply below_drew1) | exact HB.out)⟩⟩
          · rw [if_neg c7] at H
            exact absurd H (by simp)
        · rw [if_neg c5] at H
          exact absurd H (by simp)
      · rw [if_neg c4] at H
        have c4b0 : decide (x7_1 < a0) = false := decide_eq_false c4
        clear c4
        obtain rfl := Option.some.inj H
        go_wp2
        go_ret
        exact ⟨_, by first | rfl | (simp [errW_none, errW_some] <;> rfl) | (simp [*, errW_none, errW_some] <;> rfl), by (with_reducible repeat (first | apply Kd.R_alloc | apply Kd.R_drewN | apply Kd.R_drew)); exact HO_3.out, by repeat (first | (with_reducible first | exact HB.out | apply below_alloc | apply pw_below_drewN | apply below_drew1) | exact HB.out)⟩

/-! ### impl_news_meet: function 116, by hand -/
/-- what is known behind a call -/
def meetL (t : List Int) (c : S74) : List Int := (t.set c.f0.toNat (Go.bits .or .u16 (rd t c.f0) (rd t c.f1))).set c.f1.toNat (Go.bits .or .u16 (rd t c.f0) (rd t c.f1))
theorem meetL_len (t : List Int) (c : S74) : (meetL t c).length = t.length := by simp [meetL]
set_option maxHeartbeats 1000000 in
set_option maxRecDepth 100000 in
theorem meet_own (c : S74) (g cap : Nat) (xs : List Int) (ok : Nat → Prop) (w0 w : World) (HO : Kd.R (Kd.int .u16) 120 w w0.heap.size ok (.slice (some ⟨g, 0, none⟩) xs.length cap) xs) (HB : Below w0.heap.size w0 w)
    (h0 : 0 ≤ c.f0) (h1 : c.f0 < c.f1) (h2 : c.f1 < xs.length) :
    Calls Try.prog 116 #[.slice (some ⟨g, 0, none⟩) xs.length cap, .agg #[.int .i64 c.f0, .int .i64 c.f1]] w fun e w' => e = .returned (.tuple #[]) ∧ Kd.R (Kd.int .u16) 120 w' w0.heap.size ok (.slice (some ⟨g, 0, none⟩) (meetL xs c).length cap) (meetL xs c) ∧ Below w0.heap.size w0 w' := by
  have hu := Try.underlying74
  rw [meetL_len]
  obtain ⟨x, y⟩ := c
  obtain ⟨i, rfl⟩ := Int.eq_ofNat_of_zero_le h0
  obtain ⟨j, rfl⟩ := Int.eq_ofNat_of_zero_le (show 0 ≤ y by simp at h1; omega)
  simp only [Int.ofNat_lt] at h1 h2
  obtain ⟨hca, hfa⟩ := Kd.R_celln 0 HO (i : Int) (by omega) (by omega)
  obtain ⟨hcb, hfb⟩ := Kd.R_celln 0 HO (j : Int) (by omega) (by omega)
  simp only [Int.toNat_natCast] at hca hfa hcb hfb
  have hgl := World.block_lt_of_cell? _ _ hca
  have HR := Aside0.mk HO
  have HBB := Aside0.mk HB
  clear HO HB
  go_enter Try.func116, Try.ntmps116
  go_wp2
  go_quiet (fail)
  go_wp2
  go_region
  have hb := Kd.R_base HR.out g (by simp [Value.ownBlock])
  have H1 := Aside0.mk (Kd.R_putn (Kd.R_putn (Kd.R_below HR.out (show Below w.heap.size w ((w.alloc (Obj.cells #[Value.int IntKind.i64 (i : Int), Value.int IntKind.i64 (j : Int)] 74)).drewN (nq + 1)) from pw_below_drewN (below_alloc (Below.refl _ _) _) _)) (i : Int) (Go.bits .or .u16 (rdOf 0 xs (i : Int)) (rdOf 0 xs (j : Int)))) (j : Int) (Go.bits .or .u16 (rdOf 0 xs (i : Int)) (rdOf 0 xs (j : Int))))
  have H2 := Aside0.mk (Below.setCell (Below.setCell (pw_below_drewN (below_alloc HBB.out (Obj.cells #[Value.int IntKind.i64 (i : Int), Value.int IntKind.i64 (j : Int)] 74)) (nq + 1)) (p := ⟨g, i, none⟩) hb (Value.int .u16 (Go.bits .or .u16 (rdOf 0 xs (i : Int)) (rdOf 0 xs (j : Int))))) (p := ⟨g, j, none⟩) hb (Value.int .u16 (Go.bits .or .u16 (rdOf 0 xs (i : Int)) (rdOf 0 xs (j : Int)))))
  clear hca hfa hcb hfb hb
  go_end0
  have h1 := H1.out
  have h2 := H2.out
  simp only [Int.toNat_natCast] at h1 h2
  exact ⟨rfl, by unfold meetL rd; simp only [Int.toNat_natCast]; exact h1, h2⟩


/-! ### impl_after: function 95, by hand -/
/-- (only where all calls are calls of the friends) -/
def impl_after.f (k : Nat) (a0 : Int) (l1 : List S74) : Option (List Int) :=
  (impl_first.f k a0).bind fun t => if l1.length ≤ 1048576 ∧ ∀ c, c ∈ l1 → 0 ≤ c.f0 ∧ c.f0 < c.f1 ∧ c.f1 < t.length then some (l1.foldl meetL t) else none
theorem impl_after.mono : ∀ a0 a1 k, LeO (impl_after.f k a0 a1) (impl_after.f (k + 1) a0 a1) := by
  intro a0 a1 k r h
  unfold impl_after.f at h ⊢
  obtain ⟨p, h1, h2⟩ := Option.bind_eq_some_iff.1 h
  rw [impl_first.mono a0 k _ h1]
  exact h2
theorem meets_len (l : List S74) (t : List Int) : (l.foldl meetL t).length = t.length := by
  induction l generalizing t with
  | nil => rfl
  | cons c l ih => rw [List.foldl_cons, ih, meetL_len]
theorem meets_succ (l : List S74) (t : List Int) (j : Nat) (h : j < l.length) : (l.take (j + 1)).foldl meetL t = meetL ((l.take j).foldl meetL t) l[j] := by
  rw [List.take_succ_eq_append_getElem h, List.foldl_append]
  rfl
set_option maxHeartbeats 1000000 in
set_option maxRecDepth 100000 in
theorem impl_after.calls (k : Nat) (a0 : Int) (A1 : Option Addr) (c1 : Nat) (l1 : List S74) (r : List Int) (w : World) (hr1 : Kd.C k74 w A1 l1.length l1) (hc1 : l1.length ≤ c1) (h : impl_after.f k a0 l1 = some r) :
    Calls Try.prog 95 #[.int .i64 a0, .slice A1 l1.length c1] w fun e w' => ∃ v0_ : Value, e = .returned (v0_) ∧ Kd.R (Kd.int .u16) 120 w' w.heap.size (fun _ => True) v0_ r ∧ Below w.heap.size w w' := by
  unfold impl_after.f at h
  obtain ⟨t, h1, h2⟩ := Option.bind_eq_some_iff.1 h
  clear h
  by_cases hk : l1.length ≤ 1048576 ∧ ∀ c, c ∈ l1 → 0 ≤ c.f0 ∧ c.f0 < c.f1 ∧ c.f1 < t.length
  · rw [if_pos hk] at h2
    obtain rfl := Option.some.inj h2
    have HF := Aside0.mk (impl_first.calls k a0 t w h1)
    have HR1 := Aside0.mk hr1
    have HK := Aside0.mk hk.2
    have hm := hk.1
    have hu := Try.underlying74
    clear h1 h2 hr1 hc1 hk
    go_enter Try.func95, Try.ntmps95
    go_wp2_with (go_at_call 115; refine HF.out.mono ?_; rintro e w1 ⟨v, rfl, hr, hb⟩; have HR := Aside0.mk hr; have HB := Aside0.mk hb; clear hr hb)
    go_loopw [12] (fun n wr => ∃ j : Nat, j ≤ l1.length ∧ n = .int .i64 j ∧ Aside0 (Kd.R (Kd.int .u16) 120 wr w.heap.size (fun _ => True) v ((l1.take j).foldl meetL t)) ∧ Aside0 (Below w.heap.size w wr)) (fun n _ => l1.length - (intOf n).toNat)
    case atStart => exact ⟨0, Nat.zero_le _, rfl, HR, HB⟩
    case round =>
      obtain ⟨j, hj, rfl, HX, HB1⟩ := hrel
      by_cases hlt : j < l1.length
      · have p1 : (0 : Int) ≤ (j : Int) := by omega
        have q1 : (j : Int) < (l1.length : Int) := by omega
        obtain ⟨ad, e1, hx0, hx1⟩ := at_T74 HR1.out (j : Int) p1 q1
        cases e1
        replace hx0 := (HB1.out.cell (World.block_lt_of_cell? w _ hx0)).trans hx0
        replace hx1 := (HB1.out.cell (World.block_lt_of_cell? w _ hx1)).trans hx1
        simp only [Int.toNat_natCast] at hx0 hx1
        have he : rd_T74 l1 (j : Int) = l1[j] := by simp [rd_T74, List.getD_eq_getElem?_getD, List.getElem?_eq_getElem hlt]
        have HS := Aside0.mk ((meets_succ l1 t j hlt).trans (by rw [← he]))
        have hc := HK.out (rd_T74 l1 (j : Int)) (by rw [he]; exact List.getElem_mem hlt)
        have hln : ((l1.take j).foldl meetL t).length = t.length := meets_len _ _
        obtain ⟨g, cap, rfl⟩ := R_form HX.out (by rw [hln]; omega)
        have HC := Aside0.mk (fun (W : World) (hB : Below wr.heap.size wr W) => meet_own (rd_T74 l1 (j : Int)) g cap _ _ w W (Kd.R_below HX.out hB) (HB1.out.trans (hB.mono HB1.out.size)) hc.1 hc.2.1 (by rw [hln]; exact hc.2.2))
        clear hc he
        rw [hln] at HC ⊢
        go_wp2_with (go_at_call 116; refine (HC.out _ ?s1).mono ?_; (case s1 => repeat (first | exact Below.refl _ _ | apply below_alloc | apply pw_below_drewN | apply below_drew1)); rintro e w2 ⟨rfl, h1, h2⟩; have G1 := Aside0.mk h1; have G2 := Aside0.mk h2; clear h1 h2)
        go_roundw
        case rel => exact ⟨j + 1, by omega, by go_num, ⟨by rw [HS.out]; have h1 := G1.out; rw [meetL_len, hln] at h1; exact h1⟩, G2⟩
        case measure => simp [intOf]; omega
      · go_wp2
        go_ret
        exact ⟨_, rfl, by have h1 := HX.out; rw [List.take_of_length_le (by omega)] at h1; exact h1, HB1.out⟩
  · rw [if_neg hk] at h2
    cases h2


/-! ### impl_areFriends: function 109 -/
def impl_areFriends.f (a0 : Int) : Option (Bool) := (impl_within.f a0 1 10).bind fun t181 => (some t181)
set_option maxHeartbeats 8000000 in
set_option maxRecDepth 100000 in
theorem impl_areFriends.calls (a0 : Int) (r : Bool) (w : World) (h : impl_areFriends.f a0 = some r) :
    Calls Try.prog 109 #[.int .i64 a0] w fun e w' => e = .returned (.bool r) ∧ Drawn0 w w' := by
  have H : ((impl_within.f a0 1 10).bind fun t181 => (some t181)) = some r := h
  clear h
  replace H := Option.bind_eq_some_iff.mp H
  obtain ⟨t181, A20, H⟩ := H
  replace H : (some t181) = some r := H
  have A2 := Aside0.mk A20
  clear A20
  obtain rfl := Option.some.inj H
  go_enter Try.func109, Try.ntmps109
  go_wp2_with (first | ((with_reducible refine gate_callee (f := 75) rfl ?_); refine goesL_ (some 4) rfl rfl Try.func75 (by kernel_rfl) rfl #[.int .i64 a0, .int .i64 1, .int .i64 10] rfl (by (try simp only [List.map_toArray, List.map_cons, List.map_nil]); first | done | rfl | (simp only [List.length_drop, List.length_take]; rfl)) ?_; (with_reducible refine (impl_within.calls a0 1 10 t181 _ A2.out).mono ?_); rintro e w' ⟨rfl, ⟨nd, rfl⟩⟩; refine ⟨_, rfl, ?_⟩))
  go_ret
  exact ⟨by first | rfl | (simp; done) | (simp [*]; done), by repeat (first | exact Drawn0.refl _ | apply Drawn0.step)⟩

/-! ### impl_Call_125: function 125, by hand -/
set_option maxHeartbeats 1000000 in
set_option maxRecDepth 100000 in
theorem idxCall (fn : FuncId) (g : Func) (cap : Array Value) (p : S74 → Bool) (hf : Try.prog.funcs[fn]? = some g) (hname : (g.name == "runtime.NumGoroutine") = false) (hb : g.body.isSome = true)
    (A0 : Option Addr) (c0 : Nat) (l0 : List S74) (w : World) (hr0 : Kd.C k74 w A0 l0.length l0)
    (ho : Owes Try.prog fn (fun x : S74 => .agg #[.int .i64 x.f0, .int .i64 x.f1]) cap p l0 w) :
    Calls Try.prog 125 #[.slice A0 l0.length c0, .func (.func fn) #[] cap] w fun e w' => ∃ r : Int, e = .returned (.int .i64 r) ∧ decide (r ≥ 0) = l0.any p ∧ Below w.heap.size w w' := by
  have hu := Try.underlying74
  have HR0 := Aside0.mk hr0
  have HO := Aside0.mk ho
  have HF := Aside0.mk hf
  have HM := hr0.2.1
  clear hr0 ho hf
  go_enter Try.func125, Try.ntmps125
  go_wp2
  go_loopw [8] (fun v wr => ∃ k : Nat, k ≤ l0.length ∧ v = .int .i64 k ∧ Aside0 ((l0.take k).any p = false) ∧ Aside0 (Below w.heap.size w wr)) (fun v _ => l0.length - (intOf v).toNat)
  case atStart => exact ⟨0, Nat.zero_le _, rfl, ⟨rfl⟩, ⟨Below.refl _ _⟩⟩
  case round =>
    obtain ⟨k, hk, rfl, HA, HB⟩ := hrel
    by_cases hlt : k < l0.length
    · have p1 : (0 : Int) ≤ (k : Int) := by omega
      have q1 : (k : Int) < (l0.length : Int) := by omega
      obtain ⟨ad, e1, hx0, hx1⟩ := at_T74 HR0.out (k : Int) p1 q1
      cases e1
      replace hx0 := (HB.out.cell (World.block_lt_of_cell? w _ hx0)).trans hx0
      replace hx1 := (HB.out.cell (World.block_lt_of_cell? w _ hx1)).trans hx1
      simp only [Int.toNat_natCast] at hx0 hx1
      have hmem := mem_getD l0 k hlt z74
      have hc := HO.out (rd_T74 l0 (k : Int)) (by simpa [rd_T74] using hmem) wr HB.out
      obtain ⟨b, hpb⟩ : ∃ b, p (rd_T74 l0 (k : Int)) = b := ⟨_, rfl⟩
      rw [hpb] at hc
      have HC := Aside0.mk hc
      have HP := Aside0.mk hpb
      clear hc hpb hmem
      cases b with
      | true =>
        go_wp2_with (refine goesV_ (some 16) rfl rfl HF.out hname hb (#[_] ++ cap) rfl rfl (by simp; rfl) ?_; refine HC.out.mono ?_; rintro e w1 ⟨rfl, hb1⟩; refine ⟨_, rfl, ?_⟩)
        go_ret
        exact ⟨_, rfl, by rw [any_of_at p l0 k hlt z74 (by simpa [rd_T74] using HP.out)]; simp, HB.out.trans (hb1.mono HB.out.size)⟩
      | false =>
        go_wp2_with (refine goesV_ (some 16) rfl rfl HF.out hname hb (#[_] ++ cap) rfl rfl (by simp; rfl) ?_; refine HC.out.mono ?_; rintro e w1 ⟨rfl, hb1⟩; refine ⟨_, rfl, ?_⟩)
        go_roundw
        case rel => exact ⟨k + 1, by omega, by go_num, ⟨take_any_snoc p l0 k hlt z74 HA.out (by simpa [rd_T74] using HP.out)⟩, ⟨HB.out.trans (hb1.mono HB.out.size)⟩⟩
        case measure => simp [intOf]; omega
    · go_wp2
      go_ret
      exact ⟨_, rfl, by have h1 := HA.out; rw [List.take_of_length_le (by omega)] at h1; rw [h1]; rfl, HB.out⟩


/-! ### impl_Call_110: function 110, by hand -/
theorem hasCall (fn : FuncId) (g : Func) (cap : Array Value) (p : S74 → Bool) (hf : Try.prog.funcs[fn]? = some g) (hname : (g.name == "runtime.NumGoroutine") = false) (hb : g.body.isSome = true)
    (A0 : Option Addr) (c0 : Nat) (l0 : List S74) (w : World) (hr0 : Kd.C k74 w A0 l0.length l0)
    (ho : Owes Try.prog fn (fun x : S74 => .agg #[.int .i64 x.f0, .int .i64 x.f1]) cap p l0 w) :
    Calls Try.prog 110 #[.slice A0 l0.length c0, .func (.func fn) #[] cap] w fun e w' => e = .returned (.bool (l0.any p)) ∧ Below w.heap.size w w' := by
  have HC := Aside0.mk (idxCall fn g cap p hf hname hb A0 c0 l0 w hr0 ho)
  clear hr0 ho hf
  go_enter Try.func110, Try.ntmps110
  go_wp2_with (go_at_call 125; refine HC.out.mono ?_; rintro e w1 ⟨r, rfl, hr, hb1⟩; have HR := Aside0.mk hr; have HB := Aside0.mk hb1; clear hr hb1)
  go_ret
  exact ⟨by rw [HR.out]; rfl, HB.out⟩

/-! ### impl_isCall: function 112 -/
def impl_isCall.f (a0 : Int) (a1_0 : Int) (a1_1 : Int) : Option (Bool) := if a1_0 ≥ 0 then (if a1_0 < a1_1 then (some (decide (a1_1 < a0))) else (some false)) else (some false)
set_option maxHeartbeats 8000000 in
set_option maxRecDepth 100000 in
theorem impl_isCall.calls (a0 : Int) (a1_0 : Int) (a1_1 : Int) (r : Bool) (w : World) (h : impl_isCall.f a0 a1_0 a1_1 = some r) :
    Calls Try.prog 112 #[.int .i64 a0, .agg #[.int .i64 a1_0, .int .i64 a1_1]] w fun e w' => e = .returned (.bool r) ∧ Below w.heap.size w w' := by
  have hu74 := Try.underlying74
  have HB := Aside0.mk (Below.refl w.heap.size w)
  have H : (if a1_0 ≥ 0 then (if a1_0 < a1_1 then (some (decide (a1_1 < a0))) else (some false)) else (some false)) = some r := h
  clear h
  by_cases c3 : a1_0 ≥ 0
  · rw [if_pos c3] at H
    have c3b0 : decide (0 ≤ a1_0) = true := decide_eq_true c3
    clear c3
    by_cases c4 : a1_0 < a1_1
    · rw [if_pos c4] at H
      have c4b0 : decide (a1_0 < a1_1) = true := decide_eq_true c4
      clear c4
      obtain rfl := Option.some.inj H
      go_enter Try.func112, Try.ntmps112
      go_wp2_with (first | ((with_reducible refine gate_dst (N := 3) rfl ?_); refine box_event ?hg (N := 3) ?hd (cs := #[.int .i64 a1_0, .int .i64 a1_1]) (t := 74) ?hr ?_; (case hd => rfl); (case hg => rfl); (case hr => first | (go_simp; done) | (go_simp; rfl)); intro gb182 hg w5 hbox hb; have n0_ := Aside0.mk (below_step (by repeat (first | (with_reducible first | exact HB.out | apply below_alloc | apply pw_below_drewN | apply below_drew1) | exact HB.out)) hb); have n1_ := Aside0.mk (hbox); have n2_ := Aside0.mk ((by rw [hg]; exact (below_size (by repeat (first | (with_reducible first | exact HB.out | apply below_alloc | apply pw_below_drewN | apply below_drew1) | exact HB.out))) : w.heap.size ≤ gb182)); have n3_ := Aside0.mk ((by rw [hg]; exact (below_size (by repeat (first | (with_reducible first | exact HB.out | apply below_alloc | apply pw_below_drewN | apply below_drew1) | exact HB.out))) : w.heap.size ≤ gb182)); clear HB; have HB := n0_; have BK182 := n1_; have GW182 := n2_; have GE182 := n3_; clear n0_ n1_ n2_ n3_; clear hb hbox hg; have hcz6_0 : w5.cell? ⟨gb182, 0, none⟩ = some (.int .i64 a1_0) := (blk_cell BK182.out 0).trans rfl; have hcz6_1 : w5.cell? ⟨gb182, 1, none⟩ = some (.int .i64 a1_1) := (blk_cell BK182.out 1).trans rfl; have hfz6_0 := blk_frozen BK182.out 0; have hfz6_1 := blk_frozen BK182.out 1))
      go_ret
      exact ⟨by first | rfl | (simp [errW_none, errW_some] <;> rfl) | (simp [*, errW_none, errW_some] <;> rfl), by repeat (first | (with_reducible first | exact HB.out | apply below_alloc | apply pw_below_drewN | apply below_drew1 | refine below_set ?_ GE182.out) | exact HB.out)⟩
    · rw [if_neg c4] at H
      have c4b0 : decide (a1_0 < a1_1) = false := decide_eq_false c4
      clear c4
      obtain rfl := Option.some.inj H
      go_enter Try.func112, Try.ntmps112
      go_wp2_with (first | ((with_reducible refine gate_dst (N := 3) rfl ?_); refine box_event ?hg (N := 3) ?hd (cs := #[.int .i64 a1_0, .int .i64 a1_1]) (t := 74) ?hr ?_; (case hd => rfl); (case hg => rfl); (case hr => first | (go_simp; done) | (go_simp; rfl)); intro gb182 hg w7 hbox hb; have n0_ := Aside0.mk (below_step (by repeat (first | (with_reducible first | exact HB.out | apply below_alloc | apply pw_below_drewN | apply below_drew1) | exact HB.out)) hb); have n1_ := Aside0.mk (hbox); have n2_ := Aside0.mk ((by rw [hg]; exact (below_size (by repeat (first | (with_reducible first | exact HB.out | apply below_alloc | apply pw_below_drewN | apply below_drew1) | exact HB.out))) : w.heap.size ≤ gb182)); have n3_ := Aside0.mk ((by rw [hg]; exact (below_size (by repeat (first | (with_reducible first | exact HB.out | apply below_alloc | apply pw_below_drewN | apply below_drew1) | exact HB.out))) : w.heap.size ≤ gb182)); clear HB; have HB := n0_; have BK182 := n1_; have GW182 := n2_; have GE182 := n3_; clear n0_ n1_ n2_ n3_; clear hb hbox hg; have hcz8_0 : w7.cell? ⟨gb182, 0, none⟩ = some (.int .i64 a1_0) := (blk_cell BK182.out 0).trans rfl; have hcz8_1 : w7.cell? ⟨gb182, 1, none⟩ = some (.int .i64 a1_1) := (blk_cell BK182.out 1).trans rfl; have hfz8_0 := blk_frozen BK182.out 0; have hfz8_1 := blk_frozen BK182.out 1))
      go_ret
      exact ⟨by first | rfl | (simp [errW_none, errW_some] <;> rfl) | (simp [*, errW_none, errW_some] <;> rfl), by repeat (first | (with_reducible first | exact HB.out | apply below_alloc | apply pw_below_drewN | apply below_drew1 | refine below_set ?_ GE182.out) | exact HB.out)⟩
  · rw [if_neg c3] at H
    have c3b0 : decide (0 ≤ a1_0) = false := decide_eq_false c3
    clear c3
    obtain rfl := Option.some.inj H
    go_enter Try.func112, Try.ntmps112
    go_wp2_with (first | ((with_reducible refine gate_dst (N := 3) rfl ?_); refine box_event ?hg (N := 3) ?hd (cs := #[.int .i64 a1_0, .int .i64 a1_1]) (t := 74) ?hr ?_; (case hd => rfl); (case hg => rfl); (case hr => first | (go_simp; done) | (go_simp; rfl)); intro gb182 hg w9 hbox hb; have n0_ := Aside0.mk (below_step (by repeat (first | (with_reducible first | exact HB.out | apply below_alloc | apply pw_below_drewN | apply below_drew1) | exact HB.out)) hb); have n1_ := Aside0.mk (hbox); have n2_ := Aside0.mk ((by rw [hg]; exact (below_size (by repeat (first | (with_reducible first | exact HB.out | apply below_alloc | apply pw_below_drewN | apply below_drew1) | exact HB.out))) : w.heap.size ≤ gb182)); have n3_ := Aside0.mk ((by rw [hg]; exact (below_size (by repeat (first | (with_reducible first | exact HB.out | apply below_alloc | apply pw_below_drewN | apply below_drew1) | exact HB.out))) : w.heap.size ≤ gb182)); clear HB; have HB := n0_; have BK182 := n1_; have GW182 := n2_; have GE182 := n3_; clear n0_ n1_ n2_ n3_; clear hb hbox hg; have hcz10_0 : w9.cell? ⟨gb182, 0, none⟩ = some (.int .i64 a1_0) := (blk_cell BK182.out 0).trans rfl; have hcz10_1 : w9.cell? ⟨gb182, 1, none⟩ = some (.int .i64 a1_1) := (blk_cell BK182.out 1).trans rfl; have hfz10_0 := blk_frozen BK182.out 0; have hfz10_1 := blk_frozen BK182.out 1))
    go_ret
    exact ⟨by first | rfl | (simp [errW_none, errW_some] <;> rfl) | (simp [*, errW_none, errW_some] <;> rfl), by repeat (first | (with_reducible first | exact HB.out | apply below_alloc | apply pw_below_drewN | apply below_drew1 | refine below_set ?_ GE182.out) | exact HB.out)⟩

-- NOT PRINTED: function 111 (impl_AreCalls_1)

/-! ### impl_AreCalls: function 87, by hand -/
def impl_AreCalls.ok (n : Int) (c : S74) : Bool := decide (0 ≤ c.f0 ∧ c.f0 < c.f1 ∧ c.f1 < n)
def impl_AreCalls.f (a0 : Int) (l1 : List S74) : Option Bool := some (decide (1 ≤ a0 ∧ a0 ≤ 10) && decide (l1.length ≤ 60) && !l1.any fun c => !impl_AreCalls.ok a0 c)
theorem isCall_val (n x y : Int) : impl_isCall.f n x y = some (decide (0 ≤ x ∧ x < y ∧ y < n)) := by
  unfold impl_isCall.f
  by_cases h : 0 ≤ x
  · rw [if_pos h]
    by_cases h1 : x < y <;> simp [h, h1]
  · rw [if_neg h]
    simp [h]
theorem areFriends_val (n : Int) : impl_areFriends.f n = some (decide (1 ≤ n ∧ n ≤ 10)) := by
  unfold impl_areFriends.f impl_within.f
  by_cases h : 1 ≤ n <;> simp [h]
set_option maxHeartbeats 1000000 in
set_option maxRecDepth 100000 in
theorem areCalls_1 (n : Int) (c : S74) (B : Nat) (w : World) (hB : B < w.heap.size) (hq : w.cell? ⟨B, 0, none⟩ = some (.int .i64 n)) :
    Calls Try.prog 111 #[.agg #[.int .i64 c.f0, .int .i64 c.f1], .pointer (some ⟨B, 0, none⟩)] w fun e w' => e = .returned (.bool (!impl_AreCalls.ok n c)) ∧ Below w.heap.size w w' := by
  have hu := Try.underlying74
  have HC := Aside0.mk (fun W => impl_isCall.calls n c.f0 c.f1 _ W (isCall_val n c.f0 c.f1))
  have HQ := Aside0.mk (fun (W : World) (hW : Below w.heap.size w W) => (hW.cell hB).trans hq)
  unfold impl_AreCalls.ok
  generalize (decide (0 ≤ c.f0 ∧ c.f0 < c.f1 ∧ c.f1 < n)) = b at HC ⊢
  go_enter Try.func111, Try.ntmps111
  go_wp2_with (go_at_call 112; refine (HC.out _).mono ?_; rintro e w1 ⟨rfl, hb⟩)
  go_ret
  exact ⟨by simp, below_step (by repeat (first | exact Below.refl _ _ | apply below_alloc | apply pw_below_drewN | apply below_drew1)) hb⟩
set_option maxHeartbeats 1000000 in
set_option maxRecDepth 100000 in
theorem impl_AreCalls.calls (a0 : Int) (A1 : Option Addr) (c1 : Nat) (l1 : List S74) (r : Bool) (w : World) (hr1 : Kd.C k74 w A1 l1.length l1) (hc1 : l1.length ≤ c1) (h : impl_AreCalls.f a0 l1 = some r) :
    Calls Try.prog 87 #[.int .i64 a0, .slice A1 l1.length c1] w fun e w' => e = .returned (.bool r) ∧ Below w.heap.size w w' := by
  have hmf : ∀ (fn : Fn) (first cap : Array Value) (w : World), (Instr.makeFunc fn first cap).run Try.prog w = .ok (.func fn first cap) w := fun _ _ _ _ => rfl
  have hm := hr1.2.1
  have HR1 := Aside0.mk hr1
  clear hr1 hc1
  obtain ⟨b0, h0⟩ : ∃ b, decide (1 ≤ a0 ∧ a0 ≤ 10) = b := ⟨_, rfl⟩
  have H0 := Aside0.mk (fun W => impl_areFriends.calls a0 b0 W ((areFriends_val a0).trans (congrArg some h0)))
  unfold impl_AreCalls.f at h
  rw [h0] at h
  cases b0 with
  | false =>
    obtain rfl : r = false := by simpa using h.symm
    go_enter Try.func87, Try.ntmps87
    go_wp2_with (go_at_call 109; refine (H0.out _).mono ?_; rintro e w' ⟨rfl, ⟨nd, rfl⟩⟩)
    go_ret
    exact ⟨by simp, by repeat (first | exact Below.refl _ _ | apply below_alloc | apply pw_below_drewN | apply below_drew1)⟩
  | true =>
    clear h0
    by_cases hlen : l1.length ≤ 60
    · have hlb : decide ((l1.length : Int) ≤ 60) = true := by simp; omega
      have HV := Aside0.mk (show r = !(l1.any fun c => !impl_AreCalls.ok a0 c) by simpa [hlen] using h.symm)
      clear h
      have HC := Aside0.mk (fun (W : World) (hB : Below w.heap.size w W) (hg : w.heap.size < W.heap.size) (hq : W.cell? ⟨w.heap.size, 0, none⟩ = some (.int .i64 a0)) => hasCall 111 _ #[.pointer (some ⟨w.heap.size, 0, none⟩)] (fun c => !impl_AreCalls.ok a0 c) Try.func111 rfl rfl A1 c1 l1 W (Kd.C_below HR1.out hB) (fun x _ W2 hW => areCalls_1 a0 x w.heap.size W2 (Nat.lt_of_lt_of_le hg hW.size) ((hW.cell hg).trans hq)))
      go_enter Try.func87, Try.ntmps87
      go_wp2_with (first | (go_at_call 109; refine (H0.out _).mono ?_; rintro e w' ⟨rfl, ⟨nd, rfl⟩⟩) | (go_at_call 110; refine (HC.out _ ?s1 ?s2 ?s3).mono ?_; (case s1 => repeat (first | exact Below.refl _ _ | apply below_alloc | apply pw_below_drewN | apply below_drew1)); (case s2 => simp); (case s3 => go_simp); rintro e w1 ⟨rfl, hb1⟩))
      go_ret
      exact ⟨by rw [HV.out]; rfl, below_step (by repeat (first | exact Below.refl _ _ | apply below_alloc | apply pw_below_drewN | apply below_drew1)) hb1⟩
    · have hlb : decide ((l1.length : Int) ≤ 60) = false := by simp; omega
      obtain rfl : r = false := by simpa [hlen] using h.symm
      go_enter Try.func87, Try.ntmps87
      go_wp2_with (go_at_call 109; refine (H0.out _).mono ?_; rintro e w' ⟨rfl, ⟨nd, rfl⟩⟩)
      go_ret
      exact ⟨by simp, by repeat (first | exact Below.refl _ _ | apply below_alloc | apply pw_below_drewN | apply below_drew1)⟩

/-! ### impl_isFriend: function 117 -/
def impl_isFriend.f (a0 : Int) (a1 : Int) : Option (Bool) := (impl_within.f a1 0 (wrap64 (a0 - 1))).bind fun t183 => (some t183)
set_option maxHeartbeats 8000000 in
set_option maxRecDepth 100000 in
theorem impl_isFriend.calls (a0 : Int) (a1 : Int) (r : Bool) (w : World) (h : impl_isFriend.f a0 a1 = some r) :
    Calls Try.prog 117 #[.int .i64 a0, .int .i64 a1] w fun e w' => e = .returned (.bool r) ∧ Drawn0 w w' := by
  have H : ((impl_within.f a1 0 (wrap64 (a0 - 1))).bind fun t183 => (some t183)) = some r := h
  clear h
  replace H := Option.bind_eq_some_iff.mp H
  obtain ⟨t183, A30, H⟩ := H
  replace H : (some t183) = some r := H
  have A3 := Aside0.mk A30
  clear A30
  obtain rfl := Option.some.inj H
  go_enter Try.func117, Try.ntmps117
  go_wp2_with (first | ((with_reducible refine gate_callee (f := 75) rfl ?_); refine goesL_ (some 8) rfl rfl Try.func75 (by kernel_rfl) rfl #[.int .i64 a1, .int .i64 0, .int .i64 (wrap64 (a0 - 1))] rfl (by (try simp only [List.map_toArray, List.map_cons, List.map_nil]); first | done | rfl | (simp only [List.length_drop, List.length_take]; rfl)) ?_; (with_reducible refine (impl_within.calls a1 0 (wrap64 (a0 - 1)) t183 _ A3.out).mono ?_); rintro e w' ⟨rfl, ⟨nd, rfl⟩⟩; refine ⟨_, rfl, ?_⟩))
  go_ret
  exact ⟨by first | rfl | (simp; done) | (simp [*]; done), by repeat (first | exact Drawn0.refl _ | apply Drawn0.step)⟩

end Go.Proofs.Ythakmnjamdggeaa.PFnExactHiddenLists
