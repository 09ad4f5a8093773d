/- Printed by a program of this session (wip/pp) over the kit's print, for FnExactSureCast. No conditions beyond those that each theorem names. -/
import Derived.Test.YtidinhkaclaanaaPFnExactSureCastx0
import Derived.Test.YtidinhkaclaanaaPFnExactSureCastx1
import Derived.Test.YtidinhkaclaanaaPFnExactSureCastx3
namespace Go.Proofs.Ytidinhkaclaanaa.PFnExactSureCast
open Go.RowKit Go.Proofs.YtidinhkaclaanaaW.PrintWords Go.Proofs.YtidinhkaclaanaaW.PrintLast Go.Proofs.YtidinhkaclaanaaW.PrintMore
attribute [local go_sem] max2_int min2_int max_two min_two max_three min_three max_four min_four   -- for this text's walks alone
set_option linter.unusedVariables false
set_option linter.unusedSimpArgs false

/-! ### impl_CastsOf: function 25 -/
def impl_CastsOf.f (k : Nat) (a0 : Int) (l1 : List (S55)) : Option (List ByteArray × Bool) := (impl_AreClaims.f a0 l1).bind fun t151 => (if t151 = true then ((impl_casts.f k a0 l1).bind fun t152 => (some (t152, true))) else (some (([] : List ByteArray), false)))
theorem impl_CastsOf.mono : ∀ a0 a1 k, LeO (impl_CastsOf.f k a0 a1) (impl_CastsOf.f (k + 1) a0 a1) := by
  intro a0 a1 k
  unfold impl_CastsOf.f
  repeat' first
      | (with_reducible exact impl_casts.mono _ _ _)
      | (with_reducible exact LeO.refl _)
      | (with_reducible exact LeO.none _)
      | (with_reducible refine LeO.ite ?_ ?_)
      | (with_reducible refine LeO.bind ?_ (fun _ => ?_))
      | exact impl_casts.mono _ _ _
      | exact LeO.none _
      | refine LeO.ite ?_ ?_
      | refine LeO.bind ?_ (fun _ => ?_)
set_option maxHeartbeats 8000000 in
set_option maxRecDepth 100000 in
theorem impl_CastsOf.calls (k : Nat) (a0 : Int) (A1 : Option Addr) (c1 : Nat) (l1 : List (S55)) (r1 : List ByteArray) (r2 : Bool) (w : World) (hr1 : Kd.C k55 w A1 l1.length l1) (hc1 : l1.length ≤ c1) (h : impl_CastsOf.f k a0 l1 = some (r1, r2)) :
    Calls Try.prog 25 #[.int .i64 a0, .slice A1 l1.length c1] w fun e w' => ∃ v0_ : Value, e = .returned (.tuple #[v0_, .bool r2]) ∧ Kd.R Kd.string 9 w' w.heap.size (fun _ => True) v0_ r1 ∧ Below w.heap.size w w' := by
  have HR1 := Aside0.mk hr1
  have HC1 := Aside0.mk hc1
  clear hr1 hc1
  have HB := Aside0.mk (Below.refl w.heap.size w)
  have H : ((impl_AreClaims.f a0 l1).bind fun t151 => (if t151 = true then ((impl_casts.f k a0 l1).bind fun t152 => (some (t152, true))) else (some (([] : List ByteArray), false)))) = some (r1, r2) := h
  clear h
  replace H := Option.bind_eq_some_iff.mp H
  obtain ⟨t151, A30, H⟩ := H
  replace H : (if t151 = true then ((impl_casts.f k a0 l1).bind fun t152 => (some (t152, true))) else (some (([] : List ByteArray), false))) = some (r1, r2) := H
  have A3 := Aside0.mk A30
  clear A30
  by_cases c4 : t151 = true
  · subst c4
    have H1 : ((impl_casts.f k a0 l1).bind fun t152 => (some (t152, true))) = some (r1, r2) := by rw [if_pos rfl] at H; exact H
    clear H
    have H := H1
    clear H1
    replace H := Option.bind_eq_some_iff.mp H
    obtain ⟨t152, A50, H⟩ := H
    replace H : (some (t152, true)) = some (r1, r2) := H
    have A5 := Aside0.mk A50
    clear A50
    simp only [Option.some.injEq, Prod.mk.injEq] at H
    obtain ⟨rfl, rfl⟩ := H
    go_enter Try.func25, Try.ntmps25
    go_wp2_with (first | ((with_reducible refine gate_callee (f := 50) rfl ?_); refine goesL_ (some 8) rfl rfl Try.func50 (by kernel_rfl) rfl #[.int .i64 a0, .slice A1 l1.length c1] rfl (by (try simp only [List.map_toArray, List.map_cons, List.map_nil]); first | done | rfl | (simp only [List.length_drop, List.length_take]; rfl)) ?_; (with_reducible refine (impl_AreClaims.calls a0 _ _ l1 true _ ?side1 ?side2 A3.out).mono ?_); (case side1 => repeat (first | exact HR1.out | (with_reducible refine Kd.C_alloc ?_ _) | (with_reducible refine Kd.C_drewN ?_ _) | (with_reducible refine Kd.C_drew ?_))); (case side2 => exact HC1.out); rintro e w6 ⟨rfl, hb⟩; refine ⟨_, rfl, ?_⟩; have n0_ := Aside0.mk (below_step (by repeat (first | (with_reducible first | exact HB.out | apply below_alloc | apply pw_below_drewN | apply below_drew1) | exact HB.out)) hb); clear HB; have HB := n0_; clear n0_; (try clear hb); (try clear hb2); (try clear hk); (try clear hi)) | ((with_reducible refine gate_callee (f := 51) rfl ?_); refine goesL_ (some 12) rfl rfl Try.func51 (by kernel_rfl) rfl #[.int .i64 a0, .slice A1 l1.length c1] rfl (by (try simp only [List.map_toArray, List.map_cons, List.map_nil]); first | done | rfl | (simp only [List.length_drop, List.length_take]; rfl)) ?_; (with_reducible refine (impl_casts.calls k a0 _ _ l1 t152 _ ?side1 ?side2 A5.out).mono ?_); (case side1 => repeat (first | exact (Kd.C_below HR1.out HB.out) | (with_reducible refine Kd.C_alloc ?_ _) | (with_reducible refine Kd.C_drewN ?_ _) | (with_reducible refine Kd.C_drew ?_))); (case side2 => exact HC1.out); rintro e w7 ⟨v153, rfl, ho0, hb⟩; refine ⟨_, rfl, ?_⟩; have n0_ := Aside0.mk (Kd.R_lower ho0 (below_size (by repeat (first | (with_reducible first | exact HB.out | apply below_alloc | apply pw_below_drewN | apply below_drew1) | exact HB.out)))); have n1_ := Aside0.mk (below_step (by repeat (first | (with_reducible first | exact HB.out | apply below_alloc | apply pw_below_drewN | apply below_drew1) | exact HB.out)) hb); clear HB; have HO154 := n0_; have HB := n1_; clear n0_ n1_; (try clear hb); (try clear hb2); (try clear hk); (try clear hi); (try clear ho0)))
    go_ret2
    exact ⟨_, by first | rfl | (simp [errW_none, errW_some] <;> rfl) | (simp [*, errW_none, errW_some] <;> rfl), by (with_reducible repeat (first | apply Kd.R_alloc | apply Kd.R_drewN | apply Kd.R_drew)); exact HO154.out, by repeat (first | (with_reducible first | exact HB.out | apply below_alloc | apply pw_below_drewN | apply below_drew1) | exact HB.out)⟩
  · replace c4 := Bool.eq_false_iff.mpr c4
    subst c4
    have H1 : (some (([] : List ByteArray), false)) = some (r1, r2) := by rw [if_neg (show ¬ (false = true) by decide)] at H; exact H
    clear H
    have H := H1
    clear H1
    simp only [Option.some.injEq, Prod.mk.injEq] at H
    obtain ⟨rfl, rfl⟩ := H
    go_enter Try.func25, Try.ntmps25
    go_wp2_with (first | ((with_reducible refine gate_callee (f := 50) rfl ?_); refine goesL_ (some 8) rfl rfl Try.func50 (by kernel_rfl) rfl #[.int .i64 a0, .slice A1 l1.length c1] rfl (by (try simp only [List.map_toArray, List.map_cons, List.map_nil]); first | done | rfl | (simp only [List.length_drop, List.length_take]; rfl)) ?_; (with_reducible refine (impl_AreClaims.calls a0 _ _ l1 false _ ?side1 ?side2 A3.out).mono ?_); (case side1 => repeat (first | exact HR1.out | (with_reducible refine Kd.C_alloc ?_ _) | (with_reducible refine Kd.C_drewN ?_ _) | (with_reducible refine Kd.C_drew ?_))); (case side2 => exact HC1.out); rintro e w8 ⟨rfl, hb⟩; refine ⟨_, rfl, ?_⟩; have n0_ := Aside0.mk (below_step (by repeat (first | (with_reducible first | exact HB.out | apply below_alloc | apply pw_below_drewN | apply below_drew1) | exact HB.out)) hb); clear HB; have HB := n0_; clear n0_; (try clear hb); (try clear hb2); (try clear hk); (try clear hi)))
    go_ret2
    exact ⟨_, by first | rfl | (simp [errW_none, errW_some] <;> rfl) | (simp [*, errW_none, errW_some] <;> rfl), by first | exact Kd.R_nil _ _ _ _ _ | exact Kd.N_nil _ _ _ _ _ | exact Kd.V_nil _ _ _ _ _ | exact Kd.Q_nil _ _ _ _ _ | exact Kd.S_nil _ _ _ _ _, by repeat (first | (with_reducible first | exact HB.out | apply below_alloc | apply pw_below_drewN | apply below_drew1) | exact HB.out)⟩

/-! ### impl_SureCast: function 21, by hand -/
/-- out behind the comparison at index i -/
def sureStep (s0 s : ByteArray) (st : List Int) (i : Nat) : List Int := if bt s (i : Int) = bt s0 (i : Int) then st else st.set i 63
def sureRow (s0 s : ByteArray) (st : List Int) (i : Nat) : List Int := (List.range i).foldl (sureStep s0 s) st
def sureAll (s0 : ByteArray) (c : List ByteArray) (j : Nat) : List Int := (c.take j).foldl (fun st s => sureRow s0 s st s.size) (bytesOf s0)
theorem sureRow_len (s0 s : ByteArray) (st : List Int) (i : Nat) : (sureRow s0 s st i).length = st.length := by
  unfold sureRow
  induction i with
  | zero => rfl
  | succ i ih =>
    rw [List.range_succ, List.foldl_append, List.foldl_cons, List.foldl_nil, ← ih]
    unfold sureStep
    split <;> simp
theorem sureRow_succ (s0 s : ByteArray) (st : List Int) (i : Nat) : sureRow s0 s st (i + 1) = sureStep s0 s (sureRow s0 s st i) i := by
  unfold sureRow
  rw [List.range_succ, List.foldl_append]
  rfl
theorem sureAll_succ (s0 : ByteArray) (c : List ByteArray) (j : Nat) (h : j < c.length) : sureAll s0 c (j + 1) = sureRow s0 c[j] (sureAll s0 c j) c[j].size := by
  unfold sureAll
  rw [List.take_succ_eq_append_getElem h, List.foldl_append]
  rfl
theorem sureAll_len (s0 : ByteArray) (c : List ByteArray) (j : Nat) : (sureAll s0 c j).length = s0.size := by
  unfold sureAll
  generalize hq : bytesOf s0 = q
  have : q.length = s0.size := by rw [← hq]; exact bytesOf_length s0
  clear hq
  generalize c.take j = l
  induction l generalizing q with
  | nil => simpa using this
  | cons a l ih => rw [List.foldl_cons]; exact ih _ (by rw [sureRow_len]; exact this)
/-- the row of bytes that the conversion made, as it stands -/
structure ByteRow (W : World) (G : Nat) (xs : List Int) : Prop where
  lt : G < W.heap.size
  cell : ∀ j, j < xs.length → W.cell? ⟨G, j, none⟩ = some (.int .u8 (xs.getD j 0))
  thawed : ∀ j, j < xs.length → W.frozen? ⟨G, j, none⟩ = false
theorem ByteRow.put {W : World} {G : Nat} {xs : List Int} (h : ByteRow W G xs) (i : Nat) (x : Int) (hi : i < xs.length) : ByteRow (W.setCell ⟨G, i, none⟩ (.int .u8 x)) G (xs.set i x) := by
  refine ⟨by simpa [World.setCell] using h.lt, fun j hj => ?_, fun j hj => (World.frozen?_setCell _ _ _ _).trans (h.thawed j (by simpa using hj))⟩
  rw [List.length_set] at hj
  by_cases e : i = j
  · subst e
    rw [World.cell?_setCell_same' _ _ _ (by rw [h.cell i hi]; rfl)]
    simp [List.getD_eq_getElem?_getD, hi]
  · rw [World.cell?_setCell_other (h := fun he => e (by injection he)), h.cell j hj]
    simp [List.getD_eq_getElem?_getD, List.getElem?_set_ne e]
theorem ByteRow.reads {W : World} {G : Nat} {xs : List Int} (h : ByteRow W G xs) (hm : xs.length ≤ 9223372036854775807) : ReadsInt W .u8 (some ⟨G, 0, none⟩) xs.length xs :=
  ⟨rfl, hm, fun _ => ⟨_, rfl, fun j hj => by rw [add_plain]; exact h.cell j hj⟩⟩
theorem ByteRow.made (w : World) (e : TypeId) (s : ByteArray) : ByteRow (Lib.bytesWorld w e s) w.heap.size (bytesOf s) := by
  have hl : (bytesOf s).length = s.size := bytesOf_length s
  refine ⟨by rw [Lib.bytesWorld_size]; omega, fun j hj => ?_, fun j hj => ?_⟩
  · rw [Lib.bytesWorld_cell w e s j (by omega)]
    have hd : j < s.data.toList.length := by rw [data_length]; omega
    simp [bytesOf, List.getD_eq_getElem?_getD, List.getElem?_eq_getElem hd]
  · simp [World.frozen?, Lib.bytesWorld_at_new, Lib.bytesCells]
    omega
/-- (only where all casts are as long as the first one) -/
def impl_SureCast.f (k : Nat) (a0 : Int) (l1 : List S55) : Option (ByteArray × Bool) :=
  (impl_CastsOf.f k a0 l1).bind fun p => match p.1 with
    | [] => some (⟨#[]⟩, false)
    | s0 :: c => if ∀ s, s ∈ s0 :: c → s.size = s0.size ∧ s0.size ≤ 1000 then some (strOfNums (sureAll s0 (s0 :: c) (s0 :: c).length), true) else none
theorem impl_SureCast.mono : ∀ a0 a1 k, LeO (impl_SureCast.f k a0 a1) (impl_SureCast.f (k + 1) a0 a1) := by
  intro a0 a1 k r h
  unfold impl_SureCast.f at h ⊢
  obtain ⟨p, h1, h2⟩ := Option.bind_eq_some_iff.1 h
  rw [impl_CastsOf.mono a0 a1 k _ h1]
  exact h2
set_option maxHeartbeats 1000000 in
set_option maxRecDepth 100000 in
theorem impl_SureCast.calls (k : Nat) (a0 : Int) (A1 : Option Addr) (c1 : Nat) (l1 : List S55) (r1 : ByteArray) (r2 : Bool) (w : World) (hr1 : Kd.C k55 w A1 l1.length l1) (hc1 : l1.length ≤ c1) (h : impl_SureCast.f k a0 l1 = some (r1, r2)) :
    Calls Try.prog 21 #[.int .i64 a0, .slice A1 l1.length c1] w fun e w' => e = .returned (.tuple #[.string r1, .bool r2]) ∧ Below w.heap.size w w' := by
  unfold impl_SureCast.f at h
  obtain ⟨⟨cs, b⟩, h1, h2⟩ := Option.bind_eq_some_iff.1 h
  clear h
  have HC := Aside0.mk (impl_CastsOf.calls k a0 A1 c1 l1 cs b w hr1 hc1 h1)
  clear h1 hr1 hc1
  match cs, h2 with
  | [], h2 =>
    simp only [Option.some.injEq, Prod.mk.injEq] at h2
    obtain ⟨rfl, rfl⟩ := h2
    go_enter Try.func21, Try.ntmps21
    go_wp2_with (go_at_call 25; refine HC.out.mono ?_; rintro e w1 ⟨v, rfl, hr, hb⟩; obtain ⟨A, c, rfl⟩ := Kd.R_slice hr; have HB := Aside0.mk hb; clear hr hb)
    go_ret2
    exact ⟨rfl, HB.out⟩
  | s0 :: cs, h2 =>
    simp only [] at h2
    by_cases hk : ∀ s, s ∈ s0 :: cs → s.size = s0.size ∧ s0.size ≤ 1000
    · rw [if_pos hk] at h2
      simp only [Option.some.injEq, Prod.mk.injEq] at h2
      obtain ⟨rfl, rfl⟩ := h2
      obtain ⟨C, hC⟩ : ∃ C_, C_ = s0 :: cs := ⟨_, rfl⟩
      have h0 : 0 < C.length := by rw [hC]; simp
      have e0 : C.getD 0 ByteArray.empty = s0 := by rw [hC]; rfl
      rw [← hC] at HC hk ⊢
      have HK := Aside0.mk hk
      have hsz := (HK.out s0 (by rw [hC]; simp)).2
      clear hk hC
      have hcv : ∀ W, (convert 9 59 (.string s0)).run Try.prog W = _ := fun W => Lib.run_convert_string_bytes W 9 59 5 s0 Try.underlying9 Try.underlying59 Try.underlying5
      have hnz : ((C.length : Int) == 0) = false := beq_eq_false_iff_ne.2 (by omega)
      go_enter Try.func21, Try.ntmps21
      go_wp2_with (go_at_call 25; refine HC.out.mono ?_; rintro e w1 ⟨v, rfl, hr, hb⟩; obtain ⟨A, c, rfl⟩ := Kd.R_slice hr; obtain ⟨_, _, hcc⟩ := Kd.R_reads' hr; have HB := Aside0.mk hb; have HCC := Aside0.mk hcc; obtain ⟨ad, e1, hx0⟩ := Kd.at_string hcc 0 (Int.le_refl 0) (by omega); cases e1; rw [show rdOf ByteArray.empty C 0 = s0 from e0] at hx0; have hx : w1.cell? ad = some (.string s0) := (by rw [show ad.add (Int.toNat 0) = ad from Addr.add_zero' ad] at hx0; exact hx0); clear hr hb hcc hx0)
      have hmC := Kd.C_max HCC.out
      go_loopw [27] (fun v wr => ∃ j : Nat, j ≤ C.length ∧ v = .int .i64 j ∧ Aside0 (ByteRow wr w1.heap.size (sureAll s0 C j)) ∧ Aside0 (Below w1.heap.size w1 wr)) (fun v _ => C.length - (intOf v).toNat)
      case atStart => exact ⟨0, Nat.zero_le _, rfl, ⟨ByteRow.made w1 5 s0⟩, ⟨⟨rfl, rfl, rfl, by rw [Lib.bytesWorld_size]; omega, fun k hk => Lib.bytesWorld_at_old w1 5 s0 k hk⟩⟩⟩
      case round =>
        obtain ⟨j, hj, rfl, HX, HB1⟩ := hrel
        by_cases hlt : j < C.length
        · obtain ⟨ad', e2, hx1⟩ := Kd.at_string HCC.out (j : Int) (by omega) (by omega)
          cases e2
          obtain ⟨s, hs⟩ : ∃ s_, s_ = C[j] := ⟨_, rfl⟩
          rw [show rdOf ByteArray.empty C (j : Int) = s by rw [hs]; unfold rdOf; rw [Int.toNat_natCast, List.getD_eq_getElem?_getD, List.getElem?_eq_getElem hlt]; rfl, Int.toNat_natCast] at hx1
          have hss := (HK.out s (by rw [hs]; exact List.getElem_mem hlt)).1
          have hy1 := (HB1.out.cell (World.block_lt_of_cell? w1 _ hx1)).trans hx1
          have HS := Aside0.mk hs
          clear hs
          go_wp2
          go_loopw [33] (fun v wr2 => ∃ i : Nat, i ≤ s.size ∧ v = .int .i64 i ∧ Aside0 (ByteRow wr2 w1.heap.size (sureRow s0 s (sureAll s0 C j) i)) ∧ Aside0 (Below w1.heap.size w1 wr2)) (fun v _ => s.size - (intOf v).toNat)
          case atStart => exact ⟨0, Nat.zero_le _, rfl, HX, HB1⟩
          case round =>
            obtain ⟨i, hi, rfl, HX2, HB2⟩ := hrel
            by_cases hlt2 : i < s.size
            · have hz := (HB2.out.cell (World.block_lt_of_cell? w1 _ hx)).trans hx
              have hlt3 : i < s0.size := by omega
              have hlen : (sureRow s0 s (sureAll s0 C j) i).length = s0.size := by rw [sureRow_len, sureAll_len]
              have hc3 := HX2.out.cell i (by omega)
              have hf3 := HX2.out.thawed i (by omega)
              have hb1 : ((s[i]'hlt2).toNat : Int) = bt s (i : Int) := by simp [bt, hlt2]
              have hb0 : ((s0[i]'hlt3).toNat : Int) = bt s0 (i : Int) := by simp [bt, hlt3]
              have HSC := Aside0.mk (sureRow_succ s0 s (sureAll s0 C j) i)
              have HLE := Aside0.mk hlen
              by_cases heq : bt s (i : Int) = bt s0 (i : Int)
              · have hne : (((s[i]'hlt2).toNat : Int) != ((s0[i]'hlt3).toNat : Int)) = false := by rw [hb1, hb0, heq]; simp
                have HST := Aside0.mk (show sureStep s0 s (sureRow s0 s (sureAll s0 C j) i) i = sureRow s0 s (sureAll s0 C j) i by unfold sureStep; rw [if_pos heq])
                clear heq hb1 hb0 hlen hc3 hf3
                go_wp2
                go_quiet (fail)
                go_wp2
                go_roundw
                case rel => exact ⟨i + 1, by omega, by go_num, ⟨by rw [HSC.out, HST.out]; exact ⟨HX2.out.lt, HX2.out.cell, HX2.out.thawed⟩⟩, ⟨pw_below_drewN HB2.out _⟩⟩
                case measure => simp [intOf]; omega
              · have hne : (((s[i]'hlt2).toNat : Int) != ((s0[i]'hlt3).toNat : Int)) = true := by rw [hb1, hb0]; simpa using heq
                have HST := Aside0.mk (show sureStep s0 s (sureRow s0 s (sureAll s0 C j) i) i = (sureRow s0 s (sureAll s0 C j) i).set i 63 by unfold sureStep; rw [if_neg heq])
                clear heq hb1 hb0 hlen
                go_wp2
                go_quiet (fail)
                go_wp2
                go_roundw
                case rel => exact ⟨i + 1, by omega, by go_num, ⟨by rw [HSC.out, HST.out]; exact ByteRow.put (W := wr.drewN nq) ⟨HX2.out.lt, HX2.out.cell, HX2.out.thawed⟩ i 63 (by rw [HLE.out]; exact hlt3)⟩, ⟨Below.setCell (pw_below_drewN HB2.out _) (Nat.le_refl _) _⟩⟩
                case measure => simp [intOf]; omega
            · obtain rfl : i = s.size := Nat.le_antisymm hi (Nat.le_of_not_lt hlt2)
              go_wp2
              go_roundw
              case rel => exact ⟨j + 1, by omega, by go_num, ⟨by rw [sureAll_succ s0 C j hlt, ← HS.out]; exact HX2.out⟩, HB2⟩
              case measure => simp [intOf]; omega
        · obtain rfl : j = C.length := by omega
          have hl := sureAll_len s0 C C.length
          have hst : ∀ c, (convert 59 9 (.slice (some ⟨w1.heap.size, 0, none⟩) s0.size c)).run Try.prog wr = .ok (.string (strOfNums (sureAll s0 C C.length))) wr := fun c => string_of_reads Try.underlying59 Try.underlying5 Try.underlying9 (by rw [← hl]; exact HX.out.reads (by omega))
          go_wp2
          go_ret2
          exact ⟨rfl, HB.out.trans (HB1.out.mono HB.out.size)⟩
    · rw [if_neg hk] at h2
      cases h2

/-! ### laws_FnExactSureCast: function 5 -/
def laws_FnExactSureCast.j0 : Nat → List (S57) → List (S55) → Bool → Option (Bool)
  | 0, _, _, _ => none
  | k + 1, x1, x8, x38 => if x38 = true then (some false) else ((laws_toClaimS.f k x1).bind fun t166 => ((laws_eqClaimS.f k x8 t166).bind fun t169 => (if t169 = true then (some true) else (some false))))
def laws_FnExactSureCast.f (k : Nat) (a0 : Int) (l1 : List (S57)) : Option (Bool) := (laws_szClaimS.f l1 1048576).bind fun t155 => (if t155 < 0 then (some true) else ((laws_toClaimS.f k l1).bind fun t156 => ((spec_SureCast.f k a0 t156).bind fun bt159 => ((laws_toClaimS.f k l1).bind fun t161 => ((impl_SureCast.f k a0 t161).bind fun bt164 => (if bt164.1.toList = bt159.1.toList then (laws_FnExactSureCast.j0 k l1 t161 (bt164.2 != bt159.2)) else (laws_FnExactSureCast.j0 k l1 t161 true)))))))
theorem laws_FnExactSureCast.mono_l : ∀ k, (∀ y0 y1 y2, LeO (laws_FnExactSureCast.j0 k y0 y1 y2) (laws_FnExactSureCast.j0 (k + 1) y0 y1 y2))
  | 0 => fun _ _ _ r h => by simp [laws_FnExactSureCast.j0] at h
  | k + 1 => by
    have ih0 := laws_FnExactSureCast.mono_l k
    · intro y0 y1 y2
      unfold laws_FnExactSureCast.j0
      repeat' first
      | (with_reducible exact ih0 _ _ _)
      | (with_reducible exact impl_SureCast.mono _ _ _)
      | (with_reducible exact laws_eqClaimS.mono _ _ _)
      | (with_reducible exact laws_toClaimS.mono _ _)
      | (with_reducible exact spec_SureCast.mono _ _ _)
      | (with_reducible exact LeO.refl _)
      | (with_reducible exact LeO.none _)
      | (with_reducible refine LeO.ite ?_ ?_)
      | (with_reducible refine LeO.bind ?_ (fun _ => ?_))
      | exact ih0 _ _ _
      | exact impl_SureCast.mono _ _ _
      | exact laws_eqClaimS.mono _ _ _
      | exact laws_toClaimS.mono _ _
      | exact spec_SureCast.mono _ _ _
      | exact LeO.none _
      | refine LeO.ite ?_ ?_
      | refine LeO.bind ?_ (fun _ => ?_)
theorem laws_FnExactSureCast.mono : ∀ a0 a1 k, LeO (laws_FnExactSureCast.f k a0 a1) (laws_FnExactSureCast.f (k + 1) a0 a1) := by
  intro a0 a1 k
  have ih0 := laws_FnExactSureCast.mono_l k
  unfold laws_FnExactSureCast.f
  repeat' first
      | (with_reducible exact ih0 _ _ _)
      | (with_reducible exact impl_SureCast.mono _ _ _)
      | (with_reducible exact laws_eqClaimS.mono _ _ _)
      | (with_reducible exact laws_toClaimS.mono _ _)
      | (with_reducible exact spec_SureCast.mono _ _ _)
      | (with_reducible exact LeO.refl _)
      | (with_reducible exact LeO.none _)
      | (with_reducible refine LeO.ite ?_ ?_)
      | (with_reducible refine LeO.bind ?_ (fun _ => ?_))
      | exact ih0 _ _ _
      | exact impl_SureCast.mono _ _ _
      | exact laws_eqClaimS.mono _ _ _
      | exact laws_toClaimS.mono _ _
      | exact spec_SureCast.mono _ _ _
      | exact LeO.none _
      | refine LeO.ite ?_ ?_
      | refine LeO.bind ?_ (fun _ => ?_)
set_option maxHeartbeats 8000000 in
set_option maxRecDepth 100000 in
theorem laws_FnExactSureCast.calls (k : Nat) (a0 : Int) (A1 : Option Addr) (c1 : Nat) (l1 : List (S57)) (r : Bool) (w : World) (hr1 : Kd.C k57 w A1 l1.length l1) (hc1 : l1.length ≤ c1) (h : laws_FnExactSureCast.f k a0 l1 = some r) :
    Calls Try.prog 5 #[.int .i64 a0, .slice A1 l1.length c1] w fun e w' => e = .returned (.bool r) ∧ Below w.heap.size w w' := by
  have HR1 := Aside0.mk hr1
  have HC1 := Aside0.mk hc1
  clear hr1 hc1
  have HB := Aside0.mk (Below.refl w.heap.size w)
  have H : ((laws_szClaimS.f l1 1048576).bind fun t155 => (if t155 < 0 then (some true) else ((laws_toClaimS.f k l1).bind fun t156 => ((spec_SureCast.f k a0 t156).bind fun bt159 => ((laws_toClaimS.f k l1).bind fun t161 => ((impl_SureCast.f k a0 t161).bind fun bt164 => (if bt164.1.toList = bt159.1.toList then (laws_FnExactSureCast.j0 k l1 t161 (bt164.2 != bt159.2)) else (laws_FnExactSureCast.j0 k l1 t161 true)))))))) = some r := h
  clear h
  replace H := Option.bind_eq_some_iff.mp H
  obtain ⟨t155, A30, H⟩ := H
  replace H : (if t155 < 0 then (some true) else ((laws_toClaimS.f k l1).bind fun t156 => ((spec_SureCast.f k a0 t156).bind fun bt159 => ((laws_toClaimS.f k l1).bind fun t161 => ((impl_SureCast.f k a0 t161).bind fun bt164 => (if bt164.1.toList = bt159.1.toList then (laws_FnExactSureCast.j0 k l1 t161 (bt164.2 != bt159.2)) else (laws_FnExactSureCast.j0 k l1 t161 true))))))) = some r := H
  have A3 := Aside0.mk A30
  clear A30
  by_cases c4 : t155 < 0
  · rw [if_pos c4] at H
    have c4b0 : decide (t155 < 0) = true := decide_eq_true c4
    clear c4
    obtain rfl := Option.some.inj H
    go_enter Try.func5, Try.ntmps5
    go_wp2_with (first | ((with_reducible refine gate_callee (f := 13) rfl ?_); refine goesL_ (some 13) rfl rfl Try.func13 (by kernel_rfl) rfl #[.slice A1 l1.length c1, .int .i64 1048576] rfl (by (try simp only [List.map_toArray, List.map_cons, List.map_nil]); first | done | rfl | (simp only [List.length_drop, List.length_take]; rfl)) ?_; (with_reducible refine (laws_szClaimS.calls _ _ l1 1048576 t155 _ ?side1 ?side2 A3.out).mono ?_); (case side1 => repeat (first | exact HR1.out | (with_reducible refine Kd.C_alloc ?_ _) | (with_reducible refine Kd.C_drewN ?_ _) | (with_reducible refine Kd.C_drew ?_))); (case side2 => exact HC1.out); rintro e w' ⟨rfl, ⟨nd, rfl⟩⟩; refine ⟨_, rfl, ?_⟩))
    go_ret
    exact ⟨by first | rfl | (simp [errW_none, errW_some] <;> rfl) | (simp [*, errW_none, errW_some] <;> rfl), by repeat (first | (with_reducible first | exact HB.out | apply below_alloc | apply pw_below_drewN | apply below_drew1) | exact HB.out)⟩
  · rw [if_neg c4] at H
    have c4b0 : decide (t155 < 0) = false := decide_eq_false c4
    clear c4
    replace H := Option.bind_eq_some_iff.mp H
    obtain ⟨t156, A50, H⟩ := H
    replace H : ((spec_SureCast.f k a0 t156).bind fun bt159 => ((laws_toClaimS.f k l1).bind fun t161 => ((impl_SureCast.f k a0 t161).bind fun bt164 => (if bt164.1.toList = bt159.1.toList then (laws_FnExactSureCast.j0 k l1 t161 (bt164.2 != bt159.2)) else (laws_FnExactSureCast.j0 k l1 t161 true))))) = some r := H
    have A5 := Aside0.mk A50
    clear A50
    replace H := Option.bind_eq_some_iff.mp H
    obtain ⟨⟨t159, t160⟩, A60, H⟩ := H
    replace H : ((laws_toClaimS.f k l1).bind fun t161 => ((impl_SureCast.f k a0 t161).bind fun bt164 => (if bt164.1.toList = t159.toList then (laws_FnExactSureCast.j0 k l1 t161 (bt164.2 != t160)) else (laws_FnExactSureCast.j0 k l1 t161 true)))) = some r := H
    have A6 := Aside0.mk A60
    clear A60
    replace H := Option.bind_eq_some_iff.mp H
    obtain ⟨t161, A70, H⟩ := H
    replace H : ((impl_SureCast.f k a0 t161).bind fun bt164 => (if bt164.1.toList = t159.toList then (laws_FnExactSureCast.j0 k l1 t161 (bt164.2 != t160)) else (laws_FnExactSureCast.j0 k l1 t161 true))) = some r := H
    have A7 := Aside0.mk A70
    clear A70
    replace H := Option.bind_eq_some_iff.mp H
    obtain ⟨⟨t164, t165⟩, A80, H⟩ := H
    replace H : (if t164.toList = t159.toList then (laws_FnExactSureCast.j0 k l1 t161 (t165 != t160)) else (laws_FnExactSureCast.j0 k l1 t161 true)) = some r := H
    have A8 := Aside0.mk A80
    clear A80
    have HC9 := Aside0.mk H
    clear H
    go_enter Try.func5, Try.ntmps5
    go_upto_region 8 with (first | ((with_reducible refine gate_callee (f := 13) rfl ?_); refine goesL_ (some 13) rfl rfl Try.func13 (by kernel_rfl) rfl #[.slice A1 l1.length c1, .int .i64 1048576] rfl (by (try simp only [List.map_toArray, List.map_cons, List.map_nil]); first | done | rfl | (simp only [List.length_drop, List.length_take]; rfl)) ?_; (with_reducible refine (laws_szClaimS.calls _ _ l1 1048576 t155 _ ?side1 ?side2 A3.out).mono ?_); (case side1 => repeat (first | exact HR1.out | (with_reducible refine Kd.C_alloc ?_ _) | (with_reducible refine Kd.C_drewN ?_ _) | (with_reducible refine Kd.C_drew ?_))); (case side2 => exact HC1.out); rintro e w' ⟨rfl, ⟨nd, rfl⟩⟩; refine ⟨_, rfl, ?_⟩) | ((with_reducible refine gate_callee (f := 15) rfl ?_); refine goesL_ (some 19) rfl rfl Try.func15 (by kernel_rfl) rfl #[.slice A1 l1.length c1] rfl (by (try simp only [List.map_toArray, List.map_cons, List.map_nil]); first | done | rfl | (simp only [List.length_drop, List.length_take]; rfl)) ?_; (with_reducible refine (laws_toClaimS.calls k _ _ l1 t156 _ ?side1 ?side2 A5.out).mono ?_); (case side1 => repeat (first | exact HR1.out | (with_reducible refine Kd.C_alloc ?_ _) | (with_reducible refine Kd.C_drewN ?_ _) | (with_reducible refine Kd.C_drew ?_))); (case side2 => exact HC1.out); rintro e w10 ⟨v157, rfl, ho0, hb⟩; refine ⟨_, rfl, ?_⟩; have n0_ := Aside0.mk (Kd.R_lower ho0 (below_size (by repeat (first | (with_reducible first | exact HB.out | apply below_alloc | apply pw_below_drewN | apply below_drew1) | exact HB.out)))); have n1_ := Aside0.mk (below_step (by repeat (first | (with_reducible first | exact HB.out | apply below_alloc | apply pw_below_drewN | apply below_drew1) | exact HB.out)) hb); clear HB; have HO158 := n0_; have HB := n1_; clear n0_ n1_; (try clear hb); (try clear hb2); (try clear hk); (try clear hi); (try clear ho0); obtain ⟨Ao11, co11, eo11⟩ := Kd.R_slice HO158.out; subst eo11) | ((with_reducible refine gate_callee (f := 20) rfl ?_); refine goesL_ (some 20) rfl rfl Try.func20 (by kernel_rfl) rfl #[.int .i64 a0, .slice Ao11 t156.length co11] rfl (by (try simp only [List.map_toArray, List.map_cons, List.map_nil]); first | done | rfl | (simp only [List.length_drop, List.length_take]; rfl)) ?_; (with_reducible refine (spec_SureCast.calls k a0 _ _ t156 t159 t160 _ ?side1 ?side2 A6.out).mono ?_); (case side1 => repeat (first | exact (Kd.R_reads' HO158.out).2.2 | (with_reducible refine Kd.C_alloc ?_ _) | (with_reducible refine Kd.C_drewN ?_ _) | (with_reducible refine Kd.C_drew ?_))); (case side2 => exact (Kd.R_reads' HO158.out).2.1); rintro e w12 ⟨rfl, hb⟩; refine ⟨_, rfl, ?_⟩; have n0_ := Aside0.mk (Kd.R_below (by (with_reducible repeat (first | apply Kd.R_alloc | apply Kd.R_drewN | apply Kd.R_drew)); exact HO158.out) hb); have n1_ := Aside0.mk (below_step (by repeat (first | (with_reducible first | exact HB.out | apply below_alloc | apply pw_below_drewN | apply below_drew1) | exact HB.out)) hb); clear HO158; clear HB; have HO158 := n0_; have HB := n1_; clear n0_ n1_; (try clear hb); (try clear hb2); (try clear hk); (try clear hi)) | ((with_reducible refine gate_callee (f := 15) rfl ?_); refine goesL_ (some 24) rfl rfl Try.func15 (by kernel_rfl) rfl #[.slice A1 l1.length c1] rfl (by (try simp only [List.map_toArray, List.map_cons, List.map_nil]); first | done | rfl | (simp only [List.length_drop, List.length_take]; rfl)) ?_; (with_reducible refine (laws_toClaimS.calls k _ _ l1 t161 _ ?side1 ?side2 A7.out).mono ?_); (case side1 => repeat (first | exact (Kd.C_below HR1.out HB.out) | (with_reducible refine Kd.C_alloc ?_ _) | (with_reducible refine Kd.C_drewN ?_ _) | (with_reducible refine Kd.C_drew ?_))); (case side2 => exact HC1.out); rintro e w13 ⟨v162, rfl, ho0, hb⟩; refine ⟨_, rfl, ?_⟩; have n0_ := Aside0.mk (Kd.R_elder' (by (with_reducible repeat (first | apply Kd.R_alloc | apply Kd.R_drewN | apply Kd.R_drew)); exact HO158.out) (Kd.R_base ho0) hb); have n1_ := Aside0.mk (Kd.R_lower (Kd.R_new' ho0 (Kd.R_lt (by (with_reducible repeat (first | apply Kd.R_alloc | apply Kd.R_drewN | apply Kd.R_drew)); exact HO158.out))) (below_size (by repeat (first | (with_reducible first | exact HB.out | apply below_alloc | apply pw_below_drewN | apply below_drew1) | exact HB.out)))); have n2_ := Aside0.mk (below_step (by repeat (first | (with_reducible first | exact HB.out | apply below_alloc | apply pw_below_drewN | apply below_drew1) | exact HB.out)) hb); clear HO158; clear HB; have HO158 := n0_; have HO163 := n1_; have HB := n2_; clear n0_ n1_ n2_; (try clear hb); (try clear hb2); (try clear hk); (try clear hi); (try clear ho0); obtain ⟨Ao14, co14, eo14⟩ := Kd.R_slice HO163.out; subst eo14) | ((with_reducible refine gate_callee (f := 21) rfl ?_); refine goesL_ (some 28) rfl rfl Try.func21 (by kernel_rfl) rfl #[.int .i64 a0, .slice Ao14 t161.length co14] rfl (by (try simp only [List.map_toArray, List.map_cons, List.map_nil]); first | done | rfl | (simp only [List.length_drop, List.length_take]; rfl)) ?_; (with_reducible refine (impl_SureCast.calls k a0 _ _ t161 t164 t165 _ ?side1 ?side2 A8.out).mono ?_); (case side1 => repeat (first | exact (Kd.R_reads' HO163.out).2.2 | (with_reducible refine Kd.C_alloc ?_ _) | (with_reducible refine Kd.C_drewN ?_ _) | (with_reducible refine Kd.C_drew ?_))); (case side2 => exact (Kd.R_reads' HO163.out).2.1); rintro e w15 ⟨rfl, hb⟩; refine ⟨_, rfl, ?_⟩; have n0_ := Aside0.mk (Kd.R_below (by (with_reducible repeat (first | apply Kd.R_alloc | apply Kd.R_drewN | apply Kd.R_drew)); exact HO158.out) hb); have n1_ := Aside0.mk (Kd.R_below (by (with_reducible repeat (first | apply Kd.R_alloc | apply Kd.R_drewN | apply Kd.R_drew)); exact HO163.out) hb); have n2_ := Aside0.mk (below_step (by repeat (first | (with_reducible first | exact HB.out | apply below_alloc | apply pw_below_drewN | apply below_drew1) | exact HB.out)) hb); clear HO158; clear HO163; clear HB; have HO158 := n0_; have HO163 := n1_; have HB := n2_; clear n0_ n1_ n2_; (try clear hb); (try clear hb2); (try clear hk); (try clear hi)))
    (try simp only [Act.put, List.setIfInBounds_toArray, List.set_cons_zero, List.set_cons_succ])
    go_cut [38] (fun v38 wc => ∃ (kq : Nat) (x38_8 : Bool), v38 = .bool x38_8 ∧ Aside0 (laws_FnExactSureCast.j0 kq l1 t161 x38_8 = some r) ∧ Aside0 (kq ≤ k) ∧ Aside0 (Kd.R k55 55 wc w.heap.size (fun _ => True) (.slice Ao14 t161.length co14) t161) ∧ Aside0 (Below w.heap.size w wc))
    case first =>
      have H := HC9.out
      clear HC9
      by_cases c16 : t164.toList = t159.toList
      · rw [if_pos c16] at H
        have c16b0 : (t164.toList == t159.toList) = true := beq_iff_eq.mpr c16
        have c16b1 : (t164.toList != t159.toList) = false := bne_eq_false_iff_eq.mpr c16
        clear c16
        (first | rw [c16b0] | (simp only [i64_w, i32_w]; rw [c16b0]) | skip)
        have H' := Aside0.mk H
        clear H
        go_wp2
        go_meet
        case rel => exact ⟨_, ((t165 != t160)), (by first | rfl | (simp; done) | (simp [*]; done)), H', ⟨by first | omega | exact Nat.le_refl _⟩, ⟨by (with_reducible repeat (first | apply Kd.R_alloc | apply Kd.R_drewN | apply Kd.R_drew)); exact Kd.R_mono HO163.out (fun _ hk => trivial)⟩, ⟨by repeat (first | (with_reducible first | exact HB.out | apply below_alloc | apply pw_below_drewN | apply below_drew1) | exact HB.out)⟩⟩
      · rw [if_neg c16] at H
        have c16b0 : (t164.toList == t159.toList) = false := beq_eq_false_iff_ne.mpr c16
        have c16b1 : (t164.toList != t159.toList) = true := bne_iff_ne.mpr c16
        (first | rw [c16b0] | (simp only [i64_w, i32_w]; rw [c16b0]) | skip)
        have H' := Aside0.mk H
        clear H
        go_wp2
        go_meet
        case rel => exact ⟨_, (true), (by first | rfl | (simp; done) | (simp [*]; done)), H', ⟨by first | omega | exact Nat.le_refl _⟩, ⟨by (with_reducible repeat (first | apply Kd.R_alloc | apply Kd.R_drewN | apply Kd.R_drew)); exact Kd.R_mono HO163.out (fun _ hk => trivial)⟩, ⟨by repeat (first | (with_reducible first | exact HB.out | apply below_alloc | apply pw_below_drewN | apply below_drew1) | exact HB.out)⟩⟩
    case rest =>
      clear HC9
      try clear c1
      try clear c2
      try clear p2
      try clear c4
      try clear c4b0
      try clear c5
      try clear c13
      try clear c15
      try clear c16
      try clear c16b0
      try clear c16b1
      obtain ⟨kq, x38_8, rfl, HA, HJ8, HO_8, HB⟩ := hcut
      cases kq with
      | zero => exact absurd HA.out (by simp [laws_FnExactSureCast.j0])
      | succ kj8 =>
        have H := HA.out
        clear HA
        simp only [laws_FnExactSureCast.j0] at H
        by_cases c17 : x38_8 = true
        · subst c17
          have H1 : (some false) = some r := by rw [if_pos rfl] at H; exact H
          clear H
          have H := H1
          clear H1
          obtain rfl := Option.some.inj H
          go_wp2
          go_ret
          exact ⟨by first | rfl | (simp [errW_none, errW_some] <;> rfl) | (simp [*, errW_none, errW_some] <;> rfl), by repeat (first | (with_reducible first | exact HB.out | apply below_alloc | apply pw_below_drewN | apply below_drew1) | exact HB.out)⟩
        · replace c17 := Bool.eq_false_iff.mpr c17
          subst c17
          have H1 : ((laws_toClaimS.f kj8 l1).bind fun t166 => ((laws_eqClaimS.f kj8 t161 t166).bind fun t169 => (if t169 = true then (some true) else (some false)))) = some r := by rw [if_neg (show ¬ (false = true) by decide)] at H; exact H
          clear H
          have H := H1
          clear H1
          replace H := Option.bind_eq_some_iff.mp H
          obtain ⟨t166, A180, H⟩ := H
          replace H : ((laws_eqClaimS.f kj8 t161 t166).bind fun t169 => (if t169 = true then (some true) else (some false))) = some r := H
          have A18 := Aside0.mk A180
          clear A180
          replace H := Option.bind_eq_some_iff.mp H
          obtain ⟨t169, A190, H⟩ := H
          replace H : (if t169 = true then (some true) else (some false)) = some r := H
          have A19 := Aside0.mk A190
          clear A190
          by_cases c20 : t169 = true
          · subst c20
            have H1 : (some true) = some r := by rw [if_pos rfl] at H; exact H
            clear H
            have H := H1
            clear H1
            obtain rfl := Option.some.inj H
            go_wp2_with (first | ((with_reducible refine gate_callee (f := 15) rfl ?_); refine goesL_ (some 41) rfl rfl Try.func15 (by kernel_rfl) rfl #[.slice A1 l1.length c1] rfl (by (try simp only [List.map_toArray, List.map_cons, List.map_nil]); first | done | rfl | (simp only [List.length_drop, List.length_take]; rfl)) ?_; (with_reducible refine (laws_toClaimS.calls kj8 _ _ l1 t166 _ ?side1 ?side2 A18.out).mono ?_); (case side1 => repeat (first | exact (Kd.C_below HR1.out HB.out) | (with_reducible refine Kd.C_alloc ?_ _) | (with_reducible refine Kd.C_drewN ?_ _) | (with_reducible refine Kd.C_drew ?_))); (case side2 => exact HC1.out); rintro e w21 ⟨v167, rfl, ho0, hb⟩; refine ⟨_, rfl, ?_⟩; have n0_ := Aside0.mk (Kd.R_elder' (by (with_reducible repeat (first | apply Kd.R_alloc | apply Kd.R_drewN | apply Kd.R_drew)); exact HO_8.out) (Kd.R_base ho0) hb); have n1_ := Aside0.mk (Kd.R_lower (Kd.R_new' ho0 (Kd.R_lt (by (with_reducible repeat (first | apply Kd.R_alloc | apply Kd.R_drewN | apply Kd.R_drew)); exact HO_8.out))) (below_size (by repeat (first | (with_reducible first | exact HB.out | apply below_alloc | apply pw_below_drewN | apply below_drew1) | exact HB.out)))); have n2_ := Aside0.mk (below_step (by repeat (first | (with_reducible first | exact HB.out | apply below_alloc | apply pw_below_drewN | apply below_drew1) | exact HB.out)) hb); clear HO_8; clear HB; have HO_8 := n0_; have HO168 := n1_; have HB := n2_; clear n0_ n1_ n2_; (try clear hb); (try clear hb2); (try clear hk); (try clear hi); (try clear ho0); obtain ⟨Ao22, co22, eo22⟩ := Kd.R_slice HO168.out; subst eo22) | ((with_reducible refine gate_callee (f := 17) rfl ?_); refine goesL_ (some 42) rfl rfl Try.func17 (by kernel_rfl) rfl #[.slice Ao14 t161.length co14, .slice Ao22 t166.length co22] rfl (by (try simp only [List.map_toArray, List.map_cons, List.map_nil]); first | done | rfl | (simp only [List.length_drop, List.length_take]; rfl)) ?_; (with_reducible refine (laws_eqClaimS.calls kj8 _ _ t161 _ _ t166 true _ ?side1 ?side2 ?side3 ?side4 A19.out).mono ?_); (case side1 => repeat (first | exact (Kd.R_reads' HO_8.out).2.2 | (with_reducible refine Kd.C_alloc ?_ _) | (with_reducible refine Kd.C_drewN ?_ _) | (with_reducible refine Kd.C_drew ?_))); (case side2 => exact (Kd.R_reads' HO_8.out).2.1); (case side3 => repeat (first | exact (Kd.R_reads' HO168.out).2.2 | (with_reducible refine Kd.C_alloc ?_ _) | (with_reducible refine Kd.C_drewN ?_ _) | (with_reducible refine Kd.C_drew ?_))); (case side4 => exact (Kd.R_reads' HO168.out).2.1); rintro e w23 ⟨rfl, hb⟩; refine ⟨_, rfl, ?_⟩; have n0_ := Aside0.mk (Kd.R_below (by (with_reducible repeat (first | apply Kd.R_alloc | apply Kd.R_drewN | apply Kd.R_drew)); exact HO_8.out) hb); have n1_ := Aside0.mk (Kd.R_below (by (with_reducible repeat (first | apply Kd.R_alloc | apply Kd.R_drewN | apply Kd.R_drew)); exact HO168.out) hb); have n2_ := Aside0.mk (below_step (by repeat (first | (with_reducible first | exact HB.out | apply below_alloc | apply pw_below_drewN | apply below_drew1) | exact HB.out)) hb); clear HO_8; clear HO168; clear HB; have HO_8 := n0_; have HO168 := n1_; have HB := n2_; clear n0_ n1_ n2_; (try clear hb); (try clear hb2); (try clear hk); (try clear hi)))
            go_ret
            exact ⟨by first | rfl | (simp [errW_none, errW_some] <;> rfl) | (simp [*, errW_none, errW_some] <;> rfl), by repeat (first | (with_reducible first | exact HB.out | apply below_alloc | apply pw_below_drewN | apply below_drew1) | exact HB.out)⟩
          · replace c20 := Bool.eq_false_iff.mpr c20
            subst c20
            have H1 : (some false) = some r := by rw [if_neg (show ¬ (false = true) by decide)] at H; exact H
            clear H
            have H := H1
            clear H1
            obtain rfl := Option.some.inj H
            go_wp2_with (first | ((with_reducible refine gate_callee (f := 15) rfl ?_); refine goesL_ (some 41) rfl rfl Try.func15 (by kernel_rfl) rfl #[.slice A1 l1.length c1] rfl (by (try simp only [List.map_toArray, List.map_cons, List.map_nil]); first | done | rfl | (simp only [List.length_drop, List.length_take]; rfl)) ?_; (with_reducible refine (laws_toClaimS.calls kj8 _ _ l1 t166 _ ?side1 ?side2 A18.out).mono ?_); (case side1 => repeat (first | exact (Kd.C_below HR1.out HB.out) | (with_reducible refine Kd.C_alloc ?_ _) | (with_reducible refine Kd.C_drewN ?_ _) | (with_reducible refine Kd.C_drew ?_))); (case side2 => exact HC1.out); rintro e w24 ⟨v167, rfl, ho0, hb⟩; refine ⟨_, rfl, ?_⟩; have n0_ := Aside0.mk (Kd.R_elder' (by (with_reducible repeat (first | apply Kd.R_alloc | apply Kd.R_drewN | apply Kd.R_drew)); exact HO_8.out) (Kd.R_base ho0) hb); have n1_ := Aside0.mk (Kd.R_lower (Kd.R_new' ho0 (Kd.R_lt (by (with_reducible repeat (first | apply Kd.R_alloc | apply Kd.R_drewN | apply Kd.R_drew)); exact HO_8.out))) (below_size (by repeat (first | (with_reducible first | exact HB.out | apply below_alloc | apply pw_below_drewN | apply below_drew1) | exact HB.out)))); have n2_ := Aside0.mk (below_step (by repeat (first | (with_reducible first | exact HB.out | apply below_alloc | apply pw_below_drewN | apply below_drew1) | exact HB.out)) hb); clear HO_8; clear HB; have HO_8 := n0_; have HO168 := n1_; have HB := n2_; clear n0_ n1_ n2_; (try clear hb); (try clear hb2); (try clear hk); (try clear hi); (try clear ho0); obtain ⟨Ao25, co25, eo25⟩ := Kd.R_slice HO168.out; subst eo25) | ((with_reducible refine gate_callee (f := 17) rfl ?_); refine goesL_ (some 42) rfl rfl Try.func17 (by kernel_rfl) rfl #[.slice Ao14 t161.length co14, .slice Ao25 t166.length co25] rfl (by (try simp only [List.map_toArray, List.map_cons, List.map_nil]); first | done | rfl | (simp only [List.length_drop, List.length_take]; rfl)) ?_; (with_reducible refine (laws_eqClaimS.calls kj8 _ _ t161 _ _ t166 false _ ?side1 ?side2 ?side3 ?side4 A19.out).mono ?_); (case side1 => repeat (first | exact (Kd.R_reads' HO_8.out).2.2 | (with_reducible refine Kd.C_alloc ?_ _) | (with_reducible refine Kd.C_drewN ?_ _) | (with_reducible refine Kd.C_drew ?_))); (case side2 => exact (Kd.R_reads' HO_8.out).2.1); (case side3 => repeat (first | exact (Kd.R_reads' HO168.out).2.2 | (with_reducible refine Kd.C_alloc ?_ _) | (with_reducible refine Kd.C_drewN ?_ _) | (with_reducible refine Kd.C_drew ?_))); (case side4 => exact (Kd.R_reads' HO168.out).2.1); rintro e w26 ⟨rfl, hb⟩; refine ⟨_, rfl, ?_⟩; have n0_ := Aside0.mk (Kd.R_below (by (with_reducible repeat (first | apply Kd.R_alloc | apply Kd.R_drewN | apply Kd.R_drew)); exact HO_8.out) hb); have n1_ := Aside0.mk (Kd.R_below (by (with_reducible repeat (first | apply Kd.R_alloc | apply Kd.R_drewN | apply Kd.R_drew)); exact HO168.out) hb); have n2_ := Aside0.mk (below_step (by repeat (first | (with_reducible first | exact HB.out | apply below_alloc | apply pw_below_drewN | apply below_drew1) | exact HB.out)) hb); clear HO_8; clear HO168; clear HB; have HO_8 := n0_; have HO168 := n1_; have HB := n2_; clear n0_ n1_ n2_; (try clear hb); (try clear hb2); (try clear hk); (try clear hi)))
            go_ret
            exact ⟨by first | rfl | (simp [errW_none, errW_some] <;> rfl) | (simp [*, errW_none, errW_some] <;> rfl), by repeat (first | (with_reducible first | exact HB.out | apply below_alloc | apply pw_below_drewN | apply below_drew1) | exact HB.out)⟩

end Go.Proofs.Ytidinhkaclaanaa.PFnExactSureCast
