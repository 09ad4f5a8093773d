/- Printed by a program of this session (wip/pp) over the kit's print, for FnExactPathsHeard. No conditions beyond those that each theorem names. -/
import Derived.Test.YtjkildnpnjhgfaaDoorPFnExactPathsHeardx0
namespace Go.Proofs.YtjkildnpnjhgfaaDoor.PFnExactPathsHeard
open Go.RowKit Go.Proofs.YtjkildnpnjhgfaaDoorW.PrintWords Go.Proofs.YtjkildnpnjhgfaaDoorW.PrintLast Go.Proofs.YtjkildnpnjhgfaaDoorW.PrintMore
attribute [local go_sem] max2_int min2_int max_two min_two max_three min_three max_four min_four   -- for this text's walks alone
set_option linter.unusedVariables false
set_option linter.unusedSimpArgs false

/-! ### impl_within: function 53 -/
def impl_within.f (a0 : Int) (a1 : Int) (a2 : Int) : Option (Bool) := if a1 ≤ a0 then (some (decide (a0 ≤ a2))) else (some false)
set_option maxHeartbeats 8000000 in
set_option maxRecDepth 100000 in
theorem impl_within.calls (a0 : Int) (a1 : Int) (a2 : Int) (r : Bool) (w : World) (h : impl_within.f a0 a1 a2 = some r) :
    Calls Tryd.prog 53 #[.int .i64 a0, .int .i64 a1, .int .i64 a2] w fun e w' => e = .returned (.bool r) ∧ Drawn0 w w' := by
  have H : (if a1 ≤ a0 then (some (decide (a0 ≤ a2))) else (some false)) = some r := h
  clear h
  by_cases c4 : a1 ≤ a0
  · rw [if_pos c4] at H
    have c4b0 : decide (a1 ≤ a0) = true := decide_eq_true c4
    clear c4
    obtain rfl := Option.some.inj H
    go_enter Tryd.func53, Tryd.ntmps53
    go_wp2
    go_ret
    exact ⟨by first | rfl | (simp; done) | (simp [*]; done), by repeat (first | exact Drawn0.refl _ | apply Drawn0.step)⟩
  · rw [if_neg c4] at H
    have c4b0 : decide (a1 ≤ a0) = false := decide_eq_false c4
    clear c4
    obtain rfl := Option.some.inj H
    go_enter Tryd.func53, Tryd.ntmps53
    go_wp2
    go_ret
    exact ⟨by first | rfl | (simp; done) | (simp [*]; done), by repeat (first | exact Drawn0.refl _ | apply Drawn0.step)⟩

/-! ### impl_areAsked: function 51 -/
def impl_areAsked.f (a0 : Int) : Option (Bool) := (impl_within.f a0 1 8).bind fun t124 => (some t124)
set_option maxHeartbeats 8000000 in
set_option maxRecDepth 100000 in
theorem impl_areAsked.calls (a0 : Int) (r : Bool) (w : World) (h : impl_areAsked.f a0 = some r) :
    Calls Tryd.prog 51 #[.int .i64 a0] w fun e w' => e = .returned (.bool r) ∧ Drawn0 w w' := by
  have H : ((impl_within.f a0 1 8).bind fun t124 => (some t124)) = some r := h
  clear h
  replace H := Option.bind_eq_some_iff.mp H
  obtain ⟨t124, A20, H⟩ := H
  replace H : (some t124) = some r := H
  have A2 := Aside0.mk A20
  clear A20
  obtain rfl := Option.some.inj H
  go_enter Tryd.func51, Tryd.ntmps51
  go_wp2_with (first | ((with_reducible refine gate_callee (f := 53) rfl ?_); refine goesL_ (some 4) rfl rfl Tryd.func53 (by kernel_rfl) rfl #[.int .i64 a0, .int .i64 1, .int .i64 8] rfl (by (try simp only [List.map_toArray, List.map_cons, List.map_nil]); first | done | rfl | (simp only [List.length_drop, List.length_take]; rfl)) ?_; (with_reducible refine (impl_within.calls a0 1 8 t124 _ A2.out).mono ?_); rintro e w' ⟨rfl, ⟨nd, rfl⟩⟩; refine ⟨_, rfl, ?_⟩))
  go_ret
  exact ⟨by first | rfl | (simp; done) | (simp [*]; done), by repeat (first | exact Drawn0.refl _ | apply Drawn0.step)⟩

/-! ### strings_Trim: function 52, by hand -/
/-- (at an ASCII cutset) -/
def strings_Trim.f (a0 a1 : ByteArray) : Option ByteArray := if a0.size ≤ 9223372036854775807 ∧ a1.size < 4294967281 ∧ (a1.data.toList.all fun b => decide (b.toNat < 128)) = true then some ⟨(Lib.trimS a0.data.toList a1.data.toList).toArray⟩ else none
theorem strings_Trim.calls (a0 a1 r : ByteArray) (w : World) (h : strings_Trim.f a0 a1 = some r) :
    Calls Tryd.prog 52 #[.string a0, .string a1] w fun e w' => e = .returned (.string r) ∧ Below w.heap.size w w' := by
  unfold strings_Trim.f at h
  by_cases hk : a0.size ≤ 9223372036854775807 ∧ a1.size < 4294967281 ∧ (a1.data.toList.all fun b => decide (b.toNat < 128)) = true
  · rw [if_pos hk] at h
    obtain rfl := Option.some.inj h
    exact Any.strings_Trim_laid Tryd.lays160 (by kernel_rfl) a0 a1 w hk.1 hk.2.1 (ascii_of_all hk.2.2)
  · rw [if_neg hk] at h
    cases h


/-! ### impl_isCast: function 33, by hand -/
theorem dropWhile_all {α : Type} (p : α → Bool) : ∀ l : List α, l.dropWhile p = [] ↔ l.all p = true := by
  intro l
  induction l with
  | nil => simp
  | cons x l ih =>
    rw [List.dropWhile_cons, List.all_cons]
    by_cases h : p x = true
    · rw [if_pos h, h, ih]; simp
    · rw [if_neg h]
      simp [h]
theorem all_drop {α : Type} (p : α → Bool) : ∀ l : List α, (l.dropWhile p).all p = true → l.all p = true := by
  intro l
  induction l with
  | nil => simp
  | cons x l ih =>
    rw [List.dropWhile_cons]
    by_cases h : p x = true
    · rw [if_pos h, List.all_cons, h, Bool.true_and]; exact ih
    · rw [if_neg h]; exact id
theorem trim_nil (l cs : List UInt8) : Lib.trimS l cs = [] ↔ (l.all (cs.contains ·)) = true := by
  unfold Lib.trimS Lib.trimLeftS Lib.trimRightS
  rw [dropWhile_all, List.all_reverse]
  constructor
  · intro h
    have := all_drop _ _ h
    rwa [List.all_reverse] at this
  · intro h
    have h2 : l.reverse.dropWhile (cs.contains ·) = [] := (dropWhile_all _ _).2 (by rwa [List.all_reverse])
    rw [h2]
    rfl
def castI (l : List UInt8) : Bool := l.all fun b => b == 104 || b == 108
theorem trim_hl (s : ByteArray) : (⟨(Lib.trimS s.data.toList [104, 108]).toArray⟩ : ByteArray).toList.isEmpty = castI s.data.toList := by
  have e : castI s.data.toList = s.data.toList.all (([104, 108] : List UInt8).contains ·) := by
    unfold castI
    congr 1
    funext b
    simp only [List.contains_cons, List.contains_nil, Bool.or_false]
  rw [e, Lib.toList_data, Bool.eq_iff_iff, ← trim_nil]
  simp
theorem areAsked_n (n : Nat) : impl_areAsked.f (n : Int) = some (decide (1 ≤ n ∧ n ≤ 8)) := by
  unfold impl_areAsked.f impl_within.f
  by_cases h1 : 1 ≤ n
  · rw [if_pos (by omega)]
    by_cases h2 : n ≤ 8
    · rw [decide_eq_true (show (n : Int) ≤ 8 by omega), decide_eq_true (show 1 ≤ n ∧ n ≤ 8 by omega)]; rfl
    · rw [decide_eq_false (show ¬ (n : Int) ≤ 8 by omega), decide_eq_false (show ¬ (1 ≤ n ∧ n ≤ 8) by omega)]; rfl
  · rw [if_neg (by omega), decide_eq_false (show ¬ (1 ≤ n ∧ n ≤ 8) by omega)]; rfl
def impl_isCast.f (a0 : ByteArray) : Option Bool := some (decide (1 ≤ a0.size ∧ a0.size ≤ 8) && castI a0.data.toList)
set_option maxHeartbeats 1000000 in
set_option maxRecDepth 100000 in
theorem impl_isCast.calls (a0 : ByteArray) (r : Bool) (w : World) (h : impl_isCast.f a0 = some r) :
    Calls Tryd.prog 33 #[.string a0] w fun e w' => e = .returned (.bool r) ∧ Below w.heap.size w w' := by
  unfold impl_isCast.f at h
  have HF := Aside0.mk (areAsked_n a0.size)
  by_cases hk : 1 ≤ a0.size ∧ a0.size ≤ 8
  · rw [decide_eq_true hk, Bool.true_and] at h
    have HV := Aside0.mk (Option.some.inj h)
    have HF' := Aside0.mk (HF.out.trans (congrArg some (decide_eq_true hk)))
    obtain ⟨hk1, hz⟩ := hk
    obtain ⟨t, ht⟩ : ∃ t : ByteArray, t = ⟨(Lib.trimS a0.data.toList [104, 108]).toArray⟩ := ⟨_, rfl⟩
    have HT := Aside0.mk (show strings_Trim.f a0 ⟨#[104, 108]⟩ = some t by unfold strings_Trim.f; rw [if_pos ⟨by omega, by decide, by decide⟩, ht])
    have HE := Aside0.mk (show t.toList.isEmpty = r by rw [ht, trim_hl]; exact HV.out)
    clear h HF ht
    go_enter Tryd.func33, Tryd.ntmps33
    go_wp2_with (first | (go_at_call 51; refine (impl_areAsked.calls _ _ _ HF'.out).mono ?_; rintro e w' ⟨rfl, ⟨nd, rfl⟩⟩) | (go_at_call 52; refine (strings_Trim.calls _ _ _ _ HT.out).mono ?_; rintro e w1 ⟨rfl, hb1⟩; have HB1 := Aside0.mk (below_step (show Below w.heap.size w _ from by repeat (first | exact Below.refl _ _ | apply below_alloc | apply pw_below_drewN | apply below_drew1)) hb1); clear hb1))
    go_ret
    exact ⟨congrArg (fun b => Ending.returned (.bool b)) (show _ = r from HE.out), HB1.out⟩
  · rw [decide_eq_false hk, Bool.false_and] at h
    have HF' := Aside0.mk (HF.out.trans (congrArg some (decide_eq_false hk)))
    obtain rfl : false = r := Option.some.inj h
    clear h HF hk
    go_enter Tryd.func33, Tryd.ntmps33
    go_wp2_with (go_at_call 51; refine (impl_areAsked.calls _ _ _ HF'.out).mono ?_; rintro e w' ⟨rfl, ⟨nd, rfl⟩⟩)
    go_ret
    exact ⟨rfl, by repeat (first | exact Below.refl _ _ | apply below_alloc | apply pw_below_drewN | apply below_drew1)⟩

/-! ### impl_isFriend: function 34 -/
def impl_isFriend.f (a0 : Int) (a1 : Int) : Option (Bool) := (impl_within.f a1 0 (wrap64 (a0 - 1))).bind fun t125 => (some t125)
set_option maxHeartbeats 8000000 in
set_option maxRecDepth 100000 in
theorem impl_isFriend.calls (a0 : Int) (a1 : Int) (r : Bool) (w : World) (h : impl_isFriend.f a0 a1 = some r) :
    Calls Tryd.prog 34 #[.int .i64 a0, .int .i64 a1] w fun e w' => e = .returned (.bool r) ∧ Drawn0 w w' := by
  have H : ((impl_within.f a1 0 (wrap64 (a0 - 1))).bind fun t125 => (some t125)) = some r := h
  clear h
  replace H := Option.bind_eq_some_iff.mp H
  obtain ⟨t125, A30, H⟩ := H
  replace H : (some t125) = some r := H
  have A3 := Aside0.mk A30
  clear A30
  obtain rfl := Option.some.inj H
  go_enter Tryd.func34, Tryd.ntmps34
  go_wp2_with (first | ((with_reducible refine gate_callee (f := 53) rfl ?_); refine goesL_ (some 8) rfl rfl Tryd.func53 (by kernel_rfl) rfl #[.int .i64 a1, .int .i64 0, .int .i64 (wrap64 (a0 - 1))] rfl (by (try simp only [List.map_toArray, List.map_cons, List.map_nil]); first | done | rfl | (simp only [List.length_drop, List.length_take]; rfl)) ?_; (with_reducible refine (impl_within.calls a1 0 (wrap64 (a0 - 1)) t125 _ A3.out).mono ?_); rintro e w' ⟨rfl, ⟨nd, rfl⟩⟩; refine ⟨_, rfl, ?_⟩))
  go_ret
  exact ⟨by first | rfl | (simp; done) | (simp [*]; done), by repeat (first | exact Drawn0.refl _ | apply Drawn0.step)⟩

/-! ### impl_bit: function 41 -/
def impl_bit.f (a0 : Bool) : Option (Int) := if a0 = true then (some 1) else (some 0)
set_option maxHeartbeats 8000000 in
set_option maxRecDepth 100000 in
theorem impl_bit.calls (a0 : Bool) (r : Int) (w : World) (h : impl_bit.f a0 = some r) :
    Calls Tryd.prog 41 #[.bool a0] w fun e w' => e = .returned (.int .i64 r) ∧ Drawn0 w w' := by
  have H : (if a0 = true then (some 1) else (some 0)) = some r := h
  clear h
  by_cases c2 : a0 = true
  · subst c2
    have H1 : (some 1) = some r := by rw [if_pos rfl] at H; exact H
    clear H
    have H := H1
    clear H1
    obtain rfl := Option.some.inj H
    go_enter Tryd.func41, Tryd.ntmps41
    go_wp2
    go_ret
    exact ⟨by first | rfl | (simp; done) | (simp [*]; done), by repeat (first | exact Drawn0.refl _ | apply Drawn0.step)⟩
  · replace c2 := Bool.eq_false_iff.mpr c2
    subst c2
    have H1 : (some 0) = some r := by rw [if_neg (show ¬ (false = true) by decide)] at H; exact H
    clear H
    have H := H1
    clear H1
    obtain rfl := Option.some.inj H
    go_enter Tryd.func41, Tryd.ntmps41
    go_wp2
    go_ret
    exact ⟨by first | rfl | (simp; done) | (simp [*]; done), by repeat (first | exact Drawn0.refl _ | apply Drawn0.step)⟩

-- NOT PRINTED: function 40 (impl_PathsHeard_1)

/-! ### impl_PathsHeard: function 21, by hand -/
def tn (t : Bool) : Nat := if t = true then 1 else 0
/-- one list more -/
def bump (t : Bool) (c : List Int) : List Int := c.set (tn t) (wrap64 (rd c ((tn t : Nat) : Int) + 1))
/-- the first j, one after the other -/
def loopN (f : Nat → List Int → Option (List Int)) : Nat → List Int → Option (List Int)
  | 0, c => some c
  | j + 1, c => (loopN f j c).bind (f j)
theorem loopN_pre (f : Nat → List Int → Option (List Int)) (c r : List Int) : ∀ n, loopN f n c = some r → ∀ j, j ≤ n → ∃ x, loopN f j c = some x := by
  intro n
  induction n generalizing r with
  | zero => intro h j hj; obtain rfl : j = 0 := by omega
            exact ⟨_, h⟩
  | succ n ih =>
    intro h j hj
    by_cases he : j = n + 1
    · subst he; exact ⟨_, h⟩
    · obtain ⟨x, hx, _⟩ := Option.bind_eq_some_iff.1 h
      exact ih x hx j (by omega)
/-- the counts behind all lists that go on from now; at most m friends more -/
def pathN (s : ByteArray) (tg : Nat) : Nat → Nat → Nat → Bool → List Int → Option (List Int)
  | 0, _, _, _, _ => none
  | m + 1, now, seen, t, c => if now = tg then some (bump (t != (bt s (now : Int) == 108)) c) else loopN (fun j c => if (seen ||| 2 ^ now) / 2 ^ j % 2 = 0 then pathN s tg m j (seen ||| 2 ^ now) (t != (bt s (now : Int) == 108)) c else some c) s.size c
theorem or_all : ∀ (a : Fin 256) (j : Fin 8), Go.bits .or .i64 ((a : Nat) : Int) (wrap64 (2 ^ (j : Nat))) = (((a : Nat) ||| 2 ^ (j : Nat) : Nat) : Int) ∧ ((a : Nat) ||| 2 ^ (j : Nat)) < 256 := by decide +kernel
theorem or_at (a j : Nat) (ha : a < 256) (hj : j < 8) : Go.bits .or .i64 (a : Int) (wrap64 (2 ^ j)) = ((a ||| 2 ^ j : Nat) : Int) ∧ (a ||| 2 ^ j) < 256 := or_all ⟨a, ha⟩ ⟨j, hj⟩
theorem bit_all : ∀ (a : Fin 256) (j : Fin 8), Go.bits .and .i64 (((a : Nat) : Int) / 2 ^ (j : Nat)) 1 = (((a : Nat) / 2 ^ (j : Nat) % 2 : Nat) : Int) := by decide +kernel
theorem bit_at8 (a j : Nat) (ha : a < 256) (hj : j < 8) : Go.bits .and .i64 ((a : Int) / 2 ^ j) 1 = ((a / 2 ^ j % 2 : Nat) : Int) := bit_all ⟨a, ha⟩ ⟨j, hj⟩
theorem xor_at : ∀ t b : Bool, Go.bits .xor .i64 ((tn t : Nat) : Int) ((tn b : Nat) : Int) = ((tn (t != b) : Nat) : Int) := by decide +kernel
theorem tn_lt (t : Bool) : tn t < 2 := by cases t <;> decide
theorem bit_tn (b : Bool) : impl_bit.f b = some ((tn b : Nat) : Int) := by cases b <;> rfl
structure PBox where
  s : ByteArray
  tg : Nat
  bS : Nat
  bT : Nat
  bO : Nat
  bA : Nat
  O : Nat
  cp : Nat
def PBox.args (b : PBox) (x y z : Value) : Array Value := #[x, y, z, .pointer (some ⟨b.bS, 0, none⟩), .pointer (some ⟨b.bT, 0, none⟩), .pointer (some ⟨b.bO, 0, none⟩), .pointer (some ⟨b.bA, 0, none⟩)]
def PBox.F (b : PBox) : Value := .func (.func 40) #[] #[.pointer (some ⟨b.bS, 0, none⟩), .pointer (some ⟨b.bT, 0, none⟩), .pointer (some ⟨b.bO, 0, none⟩), .pointer (some ⟨b.bA, 0, none⟩)]
structure PInv (w0 : World) (b : PBox) (c : List Int) (W : World) : Prop where
  below : Below w0.heap.size w0 W
  cs : W.cell? ⟨b.bS, 0, none⟩ = some (.string b.s)
  ct : W.cell? ⟨b.bT, 0, none⟩ = some (.int .i64 b.tg)
  co : W.cell? ⟨b.bO, 0, none⟩ = some (.slice (some ⟨b.O, 0, none⟩) 2 b.cp)
  ca : W.cell? ⟨b.bA, 0, none⟩ = some b.F
  out : Kd.R (Kd.int .i64) 3 W w0.heap.size (fun k => k = b.O) (.slice (some ⟨b.O, 0, none⟩) 2 b.cp) c
  ne : b.bS ≠ b.O ∧ b.bT ≠ b.O ∧ b.bO ≠ b.O ∧ b.bA ≠ b.O
theorem PInv.step {w0 W W1 : World} {b : PBox} {c : List Int} (h : PInv w0 b c W) (hb : Below W.heap.size W W1) : PInv w0 b c W1 :=
  ⟨h.below.trans (hb.mono h.below.size), (hb.cell (World.block_lt_of_cell? _ _ h.cs)).trans h.cs, (hb.cell (World.block_lt_of_cell? _ _ h.ct)).trans h.ct, (hb.cell (World.block_lt_of_cell? _ _ h.co)).trans h.co, (hb.cell (World.block_lt_of_cell? _ _ h.ca)).trans h.ca, Kd.R_below h.out hb, h.ne⟩
theorem PInv.put {w0 W : World} {b : PBox} {c : List Int} (h : PInv w0 b c W) (i : Int) (x : Int) : PInv w0 b (c.set i.toNat x) (W.setCell ⟨b.O, i.toNat, none⟩ (.int .i64 x)) := by
  have hO := Kd.R_base h.out b.O (by simp [Value.ownBlock])
  have hf : ∀ k : Nat, k ≠ b.O → (W.setCell ⟨b.O, i.toNat, none⟩ (.int .i64 x)).cell? ⟨k, 0, none⟩ = W.cell? ⟨k, 0, none⟩ := fun k hk => World.cell?_of_block (Below.heap_setCell W ⟨b.O, i.toNat, none⟩ (.int .i64 x) k hk)
  exact ⟨Below.setCell h.below hO _, (hf _ h.ne.1).trans h.cs, (hf _ h.ne.2.1).trans h.ct, (hf _ h.ne.2.2.1).trans h.co, (hf _ h.ne.2.2.2).trans h.ca, Kd.R_putn h.out i x, h.ne⟩
set_option maxHeartbeats 1000000 in
set_option maxRecDepth 100000 in
theorem path_add (w0 : World) (b : PBox) (hz : b.s.size ≤ 8) : ∀ (m now seen : Nat) (t : Bool) (c r : List Int) (W : World), PInv w0 b c W → now < b.s.size → seen < 256 → pathN b.s b.tg m now seen t c = some r →
    Calls Tryd.prog 40 (b.args (.int .i64 now) (.int .i64 seen) (.int .i64 (tn t))) W fun e W1 => e = .returned (.tuple #[]) ∧ PInv w0 b r W1 := by
  intro m
  induction m with
  | zero => intro now seen t c r W _ _ _ h; cases h
  | succ m ih =>
    intro now seen t c r W hI hn hs h
    have hu := Tryd.underlying25
    unfold pathN at h
    have hs2 := (or_at seen now hs (by omega)).2
    have e1 := (or_at seen now hs (by omega)).1
    have e2 := xor_at t (bt b.s (now : Int) == 108)
    have H0 := Aside0.mk (bit_tn (bt b.s (now : Int) == 108))
    generalize (seen ||| 2 ^ now) = seen1 at *
    obtain ⟨t1, ht1⟩ : ∃ x_, x_ = (t != (bt b.s (now : Int) == 108)) := ⟨_, rfl⟩
    rw [← ht1] at h e2
    clear ht1
    have hx : ((b.s[now]'hn).toNat : Int) = bt b.s (now : Int) := bt_at b.s (now : Int) hn
    have hti := tn_lt t1
    generalize ht : (tn t1) = i1 at *
    have HT := Aside0.mk ht
    clear ht
    obtain ⟨s, tg, bS, bT, bO, bA, O, cp⟩ := b
    simp only at hz hn h hx e2 H0
    have q0 : W.cell? ⟨bS, 0, none⟩ = some (.string s) := hI.cs
    have q1 : W.cell? ⟨bT, 0, none⟩ = some (.int .i64 tg) := hI.ct
    have q2 : W.cell? ⟨bO, 0, none⟩ = some (.slice (some ⟨O, 0, none⟩) 2 cp) := hI.co
    have q3 : W.cell? ⟨bA, 0, none⟩ = some (.func (.func 40) #[] #[.pointer (some ⟨bS, 0, none⟩), .pointer (some ⟨bT, 0, none⟩), .pointer (some ⟨bO, 0, none⟩), .pointer (some ⟨bA, 0, none⟩)]) := hI.ca
    unfold PBox.args
    by_cases hto : now = tg
    · rw [if_pos hto] at h
      subst hto
      have hr := Option.some.inj h
      have HI := Aside0.mk hI
      have HR := Aside0.mk hr
      have he : bits .xor .i64 ((tn t : Nat) : Int) ((tn (bt s (now : Int) == 108) : Nat) : Int) = (i1 : Int) := e2
      clear h ih hI hr
      go_enter Tryd.func40, Tryd.ntmps40
      go_wp2
      go_quiet ((go_at_call 41; (with_reducible refine (impl_bit.calls _ _ _ H0.out).mono ?_); rintro e w' ⟨rfl, ⟨nd, rfl⟩⟩; exact ⟨rfl, _, World.drewN_drewN _ _ _⟩))
      have HD := Aside0.mk (HI.out.step (show Below W.heap.size W (W.drewN nq) from pw_below_drewN (Below.refl _ _) nq))
      obtain ⟨f0, f1⟩ := Kd.R_celln 0 HD.out.out (i1 : Int) (by omega) (by omega)
      have f0' : (W.drewN nq).cell? ⟨O, i1, none⟩ = some (.int .i64 (rd c (i1 : Int))) := f0
      have f1' : (W.drewN nq).frozen? ⟨O, i1, none⟩ = false := f1
      clear f0 f1
      have HP := Aside0.mk (HD.out.put (i1 : Int) (wrap64 (rd c (i1 : Int) + 1)))
      go_wp2
      (try simp only [Exit.inBlock, Exit.then])
      refine bodyPost_ret (results_none rfl _ _ _) rfl ?_
      exact ⟨rfl, by rw [← HR.out]; unfold bump; rw [HT.out]; exact HP.out⟩
    · rw [if_neg hto] at h
      generalize hF : (fun (j : Nat) (c : List Int) => if seen1 / 2 ^ j % 2 = 0 then pathN s tg m j seen1 t1 c else some c) = F at h
      have HF := Aside0.mk (fun (j : Nat) (c : List Int) => (congrFun (congrFun hF j) c).symm)
      have HI := Aside0.mk hI
      have HIH := Aside0.mk (fun (j : Nat) (x y : List Int) (W1 : World) (hI1 : PInv w0 ⟨s, tg, bS, bT, bO, bA, O, cp⟩ x W1) (hj : j < s.size) (hp : pathN s tg m j seen1 t1 x = some y) => (show Calls Tryd.prog 40 #[.int .i64 j, .int .i64 seen1, .int .i64 (tn t1), .pointer (some ⟨bS, 0, none⟩), .pointer (some ⟨bT, 0, none⟩), .pointer (some ⟨bO, 0, none⟩), .pointer (some ⟨bA, 0, none⟩)] W1 fun e W2 => e = .returned (.tuple #[]) ∧ PInv w0 ⟨s, tg, bS, bT, bO, bA, O, cp⟩ y W2 from ih j seen1 t1 x y W1 hI1 hj hs2 hp))
      have HL := Aside0.mk (loopN_pre _ _ _ _ h)
      have HR := Aside0.mk h
      have HBt := Aside0.mk (fun j hj => bit_at8 seen1 j hs2 hj)
      have hti1 : (tn t1 : Nat) = i1 := HT.out
      subst hti1
      have q4 : ((now : Int) == (tg : Int)) = false := by simp; omega
      clear h ih hI hF
      go_enter Tryd.func40, Tryd.ntmps40
      go_wp2
      go_quiet ((go_at_call 41; (with_reducible refine (impl_bit.calls _ _ _ H0.out).mono ?_); rintro e w' ⟨rfl, ⟨nd, rfl⟩⟩; exact ⟨rfl, _, World.drewN_drewN _ _ _⟩))
      have HD := Aside0.mk (HI.out.step (show Below W.heap.size W (W.drewN nq) from pw_below_drewN (Below.refl _ _) nq))
      go_wp2
      go_loopw [33] (fun n wr => ∃ j : Nat, j ≤ s.size ∧ n = .int .i64 j ∧ Aside0 (∃ x, loopN F j c = some x ∧ PInv w0 ⟨s, tg, bS, bT, bO, bA, O, cp⟩ x wr)) (fun n _ => s.size - (intOf n).toNat)
      case atStart => exact ⟨0, Nat.zero_le _, rfl, ⟨c, rfl, HD.out⟩⟩
      case round =>
        obtain ⟨j, hj, rfl, ⟨x, hx1, hx2⟩⟩ := hrel
        have HX := Aside0.mk hx1
        have HI2 := Aside0.mk hx2
        have q3' : wr.cell? ⟨bA, 0, none⟩ = some (.func (.func 40) #[] #[.pointer (some ⟨bS, 0, none⟩), .pointer (some ⟨bT, 0, none⟩), .pointer (some ⟨bO, 0, none⟩), .pointer (some ⟨bA, 0, none⟩)]) := hx2.ca
        clear hx1 hx2
        by_cases hlt : j < s.size
        · obtain ⟨y, hy⟩ := HL.out (j + 1) (by omega)
          have HY := Aside0.mk hy
          have hy2 : F j x = some y := by
            have h := hy
            unfold loopN at h
            rw [HX.out] at h
            exact h
          rw [HF.out] at hy2
          clear hy
          have hb := HBt.out j (by omega)
          have l1 : (j : Int) < (s.size : Int) := by omega
          by_cases hz0 : seen1 / 2 ^ j % 2 = 0
          · rw [if_pos hz0] at hy2
            have HC := Aside0.mk (HIH.out j x y wr HI2.out hlt hy2)
            rw [hz0, Int.natCast_zero] at hb
            clear hy2 hz0
            go_wp2_with (go_at_call 40; refine HC.out.mono ?_; rintro e w4 ⟨rfl, hI4⟩; have HI4 := Aside0.mk hI4; clear hI4)
            go_roundw
            case rel => exact ⟨j + 1, by omega, by go_num, ⟨y, HY.out, HI4.out⟩⟩
            case measure => simp [intOf]; omega
          · rw [if_neg hz0] at hy2
            obtain rfl := Option.some.inj hy2
            have h1 : seen1 / 2 ^ j % 2 = 1 := by omega
            rw [h1, Int.natCast_one] at hb
            clear hy2 hz0 h1
            go_wp2
            go_roundw
            case rel => exact ⟨j + 1, by omega, by go_num, ⟨x, HY.out, HI2.out⟩⟩
            case measure => simp [intOf]; omega
        · have l1 : ¬ (j : Int) < (s.size : Int) := by omega
          go_wp2
          go_end0
          have hr : x = r := by
            have h1 := HX.out
            rw [show j = s.size by omega, HR.out] at h1
            exact (Option.some.inj h1).symm
          exact ⟨rfl, hr ▸ HI2.out⟩
def castW (s : ByteArray) : Bool := decide (1 ≤ s.size ∧ s.size ≤ 8) && castI s.data.toList
def pathOk (s : ByteArray) (a1 a2 : Int) : Bool := castW s && (decide (0 ≤ a1 ∧ a1 < (s.size : Int)) && (decide (0 ≤ a2 ∧ a2 < (s.size : Int)) && !(a1 == a2)))
def impl_PathsHeard.f (a0 : ByteArray) (a1 a2 : Int) : Option (List Int × Bool) := if pathOk a0 a1 a2 = true then (pathN a0 a2.toNat 9 a1.toNat 0 false [0, 0]).bind fun t => some (t, true) else some ([], false)
theorem isFriend_n (n : Nat) (x : Int) (h : n ≤ 8) : impl_isFriend.f (n : Int) x = some (decide (0 ≤ x ∧ x < (n : Int))) := by
  unfold impl_isFriend.f impl_within.f
  rw [show wrap64 ((n : Int) - 1) = (n : Int) - 1 by unfold wrap64; omega]
  by_cases h0 : 0 ≤ x
  · rw [if_pos h0, Option.bind_some]
    congr 1
    rw [Bool.eq_iff_iff, decide_eq_true_eq, decide_eq_true_eq]
    omega
  · rw [if_neg h0, Option.bind_some]
    congr 1
    rw [decide_eq_false (show ¬ (0 ≤ x ∧ x < (n : Int)) by omega)]
theorem infInt3 : (Tryd.prog.info? 3).map (fun i => (i.zero, i.size, i.bytes)) = some (some (.int .i64 0), 1, 8) := by kernel_rfl
set_option maxHeartbeats 1000000 in
set_option maxRecDepth 100000 in
theorem impl_PathsHeard.calls (a0 : ByteArray) (a1 a2 : Int) (r1 : List Int) (r2 : Bool) (w : World) (h : impl_PathsHeard.f a0 a1 a2 = some (r1, r2)) :
    Calls Tryd.prog 21 #[.string a0, .int .i64 a1, .int .i64 a2] w fun e w' => ∃ v0_ : Value, e = .returned (.tuple #[v0_, .bool r2]) ∧ Kd.R (Kd.int .i64) 3 w' w.heap.size (fun _ => True) v0_ r1 ∧ Below w.heap.size w w' := by
  have hmf : ∀ (fn : Fn) (first cap : Array Value) (w : World), (Instr.makeFunc fn first cap).run Tryd.prog w = .ok (.func fn first cap) w := fun _ _ _ _ => rfl
  have HF := Aside0.mk (show impl_isCast.f a0 = some (castW a0) from rfl)
  unfold impl_PathsHeard.f pathOk at h
  obtain ⟨x0, hx0⟩ : ∃ x_, x_ = castW a0 := ⟨_, rfl⟩
  rw [← hx0] at h HF
  cases x0 with
  | false =>
    simp only [Bool.false_and, Bool.false_eq_true, ↓reduceIte, Option.some.injEq, Prod.mk.injEq] at h
    obtain ⟨rfl, rfl⟩ := h
    clear hx0
    go_enter Tryd.func21, Tryd.ntmps21
    go_wp2_with (go_at_call 33; refine (impl_isCast.calls _ _ _ HF.out).mono ?_; rintro e w1 ⟨rfl, hb1⟩; have HB := Aside0.mk (show Below w.heap.size w w1 from below_step (by repeat (first | exact Below.refl _ _ | apply below_alloc)) hb1); clear hb1)
    go_ret2
    exact ⟨_, rfl, Kd.R_nil _ _ _ _ _, HB.out⟩
  | true =>
    have hz : a0.size ≤ 8 := by
      have h1 := hx0.symm
      unfold castW at h1
      simp only [Bool.and_eq_true, decide_eq_true_eq] at h1
      exact h1.1.2
    clear hx0
    rw [Bool.true_and] at h
    have HF1 := Aside0.mk (isFriend_n a0.size a1 hz)
    have HF2 := Aside0.mk (isFriend_n a0.size a2 hz)
    obtain ⟨x1, hx1⟩ : ∃ x_, x_ = decide (0 ≤ a1 ∧ a1 < (a0.size : Int)) := ⟨_, rfl⟩
    obtain ⟨x2, hx2⟩ : ∃ x_, x_ = decide (0 ≤ a2 ∧ a2 < (a0.size : Int)) := ⟨_, rfl⟩
    obtain ⟨x3, hx3⟩ : ∃ x_, x_ = (a1 == a2) := ⟨_, rfl⟩
    rw [← hx1] at h HF1
    rw [← hx2] at h HF2
    rw [← hx3] at h
    by_cases hall : (x1 && (x2 && !x3)) = true
    · rw [if_pos hall] at h
      obtain ⟨t, ht, h2⟩ := Option.bind_eq_some_iff.1 h
      obtain ⟨rfl, rfl⟩ := Prod.mk.inj (Option.some.inj h2)
      simp only [Bool.and_eq_true, Bool.not_eq_true'] at hall
      obtain ⟨rfl, rfl, rfl⟩ := hall
      have g1 := of_decide_eq_true hx1.symm
      have g2 := of_decide_eq_true hx2.symm
      obtain ⟨n1, rfl⟩ := Int.eq_ofNat_of_zero_le g1.1
      obtain ⟨n2, rfl⟩ := Int.eq_ofNat_of_zero_le g2.1
      rw [Int.toNat_natCast, Int.toNat_natCast] at ht
      have hn1 : n1 < a0.size := by omega
      have HA := Aside0.mk (fun (bO bA O cp : Nat) (W : World) (hI : PInv w ⟨a0, n2, w.heap.size, w.heap.size + 1, bO, bA, O, cp⟩ [0, 0] W) => (show Calls Tryd.prog 40 #[.int .i64 n1, .int .i64 0, .int .i64 0, .pointer (some ⟨w.heap.size, 0, none⟩), .pointer (some ⟨w.heap.size + 1, 0, none⟩), .pointer (some ⟨bO, 0, none⟩), .pointer (some ⟨bA, 0, none⟩)] W fun e W1 => e = .returned (.tuple #[]) ∧ PInv w ⟨a0, n2, w.heap.size, w.heap.size + 1, bO, bA, O, cp⟩ t W1 from path_add w ⟨a0, n2, w.heap.size, w.heap.size + 1, bO, bA, O, cp⟩ hz 9 n1 0 false [0, 0] t W hI hn1 (by decide) ht))
      have hq : ((n1 : Int) == (n2 : Int)) = false := hx3.symm
      clear h h2 ht g1 g2 hx1 hx2 hx3 hn1
      go_enter Tryd.func21, Tryd.ntmps21
      go_wp2_with (first
        | (go_at_call 33; refine (impl_isCast.calls _ _ _ HF.out).mono ?_; rintro e w1 ⟨rfl, hb1⟩; have e0 : w1.cell? ⟨w.heap.size, 0, none⟩ = some (.string a0) := (hb1.cell (p := ⟨w.heap.size, 0, none⟩) (by simp; omega)).trans (by go_simp); have e1 : w1.cell? ⟨w.heap.size + 1, 0, none⟩ = some (.int .i64 n2) := (hb1.cell (p := ⟨w.heap.size + 1, 0, none⟩) (by simp)).trans (by go_simp); have HB := Aside0.mk (show Below w.heap.size w w1 from below_step (by repeat (first | exact Below.refl _ _ | apply below_alloc)) hb1); clear hb1)
        | (go_at_call 34; (first | (with_reducible refine (impl_isFriend.calls _ _ _ _ HF1.out).mono ?_) | (with_reducible refine (impl_isFriend.calls _ _ _ _ HF2.out).mono ?_)); rintro e w' ⟨rfl, ⟨nd, rfl⟩⟩)
        | ((with_reducible refine gate_dst (N := 32) rfl ?_); refine Kd.R_make (Kd.int .i64) (w0 := w) w.heap.size 3 rfl (N := 32) rfl 25 _ _ rfl 2 rfl rfl Tryd.underlying25 (.int .i64 0) 8 infInt3 rfl (by decide) (by omega) 0 (ok := fun k => k = w1.heap.size) (okp := fun _ => False) rfl (fun _ hk => hk.elim) (by simp) (by omega) (by omega) (by repeat (first | exact HB.out | apply below_alloc | apply pw_below_drewN | apply below_drew1)) (by have h_ := HB.out.size; simp; exact h_) ?_; intro v2 w2 ho2 hb2 hg2 hn2; obtain ⟨O, cp, rfl⟩ := R_form ho2 (by simp); have hO : O = w1.heap.size := ho2.1 _ rfl; have zO : O < w2.heap.size := Kd.R_lt ho2 _ rfl; have z0 : w.heap.size + 1 < w1.heap.size := World.block_lt_of_cell? _ _ e1; have y0 : w2.cell? ⟨w.heap.size, 0, none⟩ = some (.string a0) := (World.cell?_of_block (hg2.block _ (by simp; omega) (by simp))).trans (by go_simp); have y1 : w2.cell? ⟨w.heap.size + 1, 0, none⟩ = some (.int .i64 n2) := (World.cell?_of_block (hg2.block _ (by simp; omega) (by simp))).trans (by go_simp); have HR2 := Aside0.mk ho2; have HB2 := Aside0.mk hb2; have HO := Aside0.mk hO; have HZ := Aside0.mk zO; have HZ0 := Aside0.mk z0; clear ho2 hb2 hg2 hn2 hO zO z0 e0 e1))
      refine Calls.mono (HA.out w2.heap.size (w2.heap.size + 1) O cp _ ?s3) ?_
      case s3 =>
        have h1 := HO.out
        have h2 := HZ.out
        have h3 := HZ0.out
        refine ⟨by repeat (first | exact HB2.out | apply below_alloc), ?_, ?_, ?_, ?_, ?_, ?_⟩
        · show World.cell? _ ⟨w.heap.size, 0, none⟩ = some (.string a0)
          exact (Below.cell (show Below w2.heap.size w2 _ by repeat (first | exact Below.refl _ _ | apply below_alloc)) (p := ⟨w.heap.size, 0, none⟩) (by show w.heap.size < w2.heap.size; omega)).trans y0
        · show World.cell? _ ⟨w.heap.size + 1, 0, none⟩ = some (.int .i64 n2)
          exact (Below.cell (show Below w2.heap.size w2 _ by repeat (first | exact Below.refl _ _ | apply below_alloc)) (p := ⟨w.heap.size + 1, 0, none⟩) (by show w.heap.size + 1 < w2.heap.size; omega)).trans y1
        · show World.cell? _ ⟨w2.heap.size, 0, none⟩ = some (.slice (some ⟨O, 0, none⟩) 2 cp)
          go_simp
        · show World.cell? _ ⟨w2.heap.size + 1, 0, none⟩ = some (.func (.func 40) #[] #[.pointer (some ⟨w.heap.size, 0, none⟩), .pointer (some ⟨w.heap.size + 1, 0, none⟩), .pointer (some ⟨w2.heap.size, 0, none⟩), .pointer (some ⟨w2.heap.size + 1, 0, none⟩)])
          go_simp
        · exact Kd.R_below (Kd.R_mono HR2.out (fun k hk => hk.trans h1.symm)) (by repeat (first | exact Below.refl _ _ | apply below_alloc))
        · show w.heap.size ≠ O ∧ w.heap.size + 1 ≠ O ∧ w2.heap.size ≠ O ∧ w2.heap.size + 1 ≠ O
          omega
      rintro e w4 ⟨rfl, hI4⟩
      have HI4 := Aside0.mk hI4
      have y4 : w4.cell? ⟨w2.heap.size, 0, none⟩ = some (.slice (some ⟨O, 0, none⟩) 2 cp) := hI4.co
      clear hI4
      go_wp2
      go_ret2
      exact ⟨_, rfl, Kd.R_mono HI4.out.out (fun _ _ => trivial), HI4.out.below⟩
    · rw [if_neg hall] at h
      obtain ⟨rfl, rfl⟩ := Prod.mk.inj (Option.some.inj h)
      have hq := hx3.symm
      clear h hx1 hx2 hx3 hz
      cases x1 <;> cases x2 <;> cases x3
      case neg.true.true.false => exact absurd rfl hall
      all_goals
        clear hall
        go_enter Tryd.func21, Tryd.ntmps21
        go_wp2_with (first
          | (go_at_call 33; refine (impl_isCast.calls _ _ _ HF.out).mono ?_; rintro e w1 ⟨rfl, hb1⟩; have e0 : w1.cell? ⟨w.heap.size, 0, none⟩ = some (.string a0) := (hb1.cell (p := ⟨w.heap.size, 0, none⟩) (by simp; omega)).trans (by go_simp); have e1 : w1.cell? ⟨w.heap.size + 1, 0, none⟩ = some (.int .i64 a2) := (hb1.cell (p := ⟨w.heap.size + 1, 0, none⟩) (by simp)).trans (by go_simp); have HB := Aside0.mk (show Below w.heap.size w w1 from below_step (by repeat (first | exact Below.refl _ _ | apply below_alloc)) hb1); clear hb1)
          | (go_at_call 34; (first | (with_reducible refine (impl_isFriend.calls _ _ _ _ HF1.out).mono ?_) | (with_reducible refine (impl_isFriend.calls _ _ _ _ HF2.out).mono ?_)); rintro e w' ⟨rfl, ⟨nd, rfl⟩⟩))
        go_ret2
        exact ⟨_, rfl, Kd.R_nil _ _ _ _ _, by repeat (first | exact HB.out | apply below_alloc | apply pw_below_drewN | apply below_drew1)⟩

/-! ### laws_markIntS: function 22 -/
def laws_markIntS.l0 : Nat → List Int → Int → Int → Option (Int × List Int)
  | 0, _, _, _ => none
  | k + 1, x0, x1, x5 => if x5 < (x0.length : Int) then (if 0 ≤ x5 then (laws_markIntS.l0 k (x0.set (x5 : Int).toNat x1) (wrap64 (x1 + 1)) (wrap64 (x5 + 1))) else (none)) else (some (x1, x0))
def laws_markIntS.f (k : Nat) (l0 : List Int) (a1 : Int) : Option (Int × List Int) := laws_markIntS.l0 k l0 a1 0
theorem laws_markIntS.mono_l : ∀ k, (∀ y0 y1 y2, LeO (laws_markIntS.l0 k y0 y1 y2) (laws_markIntS.l0 (k + 1) y0 y1 y2))
  | 0 => fun _ _ _ r h => by simp [laws_markIntS.l0] at h
  | k + 1 => by
    have ih0 := laws_markIntS.mono_l k
    · intro y0 y1 y2
      unfold laws_markIntS.l0
      repeat' first
      | (with_reducible exact ih0 _ _ _)
      | (with_reducible exact LeO.refl _)
      | (with_reducible exact LeO.none _)
      | (with_reducible refine LeO.ite ?_ ?_)
      | (with_reducible refine LeO.bind ?_ (fun _ => ?_))
      | exact ih0 _ _ _
      | exact LeO.none _
      | refine LeO.ite ?_ ?_
      | refine LeO.bind ?_ (fun _ => ?_)
theorem laws_markIntS.mono : ∀ a0 a1 k, LeO (laws_markIntS.f k a0 a1) (laws_markIntS.f (k + 1) a0 a1) := by
  intro a0 a1 k
  have ih0 := laws_markIntS.mono_l k
  unfold laws_markIntS.f
  repeat' first
      | (with_reducible exact ih0 _ _ _)
      | (with_reducible exact LeO.refl _)
      | (with_reducible exact LeO.none _)
      | (with_reducible refine LeO.ite ?_ ?_)
      | (with_reducible refine LeO.bind ?_ (fun _ => ?_))
      | exact ih0 _ _ _
      | exact LeO.none _
      | refine LeO.ite ?_ ?_
      | refine LeO.bind ?_ (fun _ => ?_)
set_option maxHeartbeats 8000000 in
set_option maxRecDepth 100000 in
theorem laws_markIntS.calls (k : Nat) (P0_ : Nat → Prop) (u9000_ : Value) (l0 : List Int) (a1 : Int) (r1 : Int) (r2 : List Int) (w0 w : World) (hB : Below w0.heap.size w0 w) (ho0 : Kd.R (Kd.int .i64) 3 w w0.heap.size P0_ u9000_ l0) (h : laws_markIntS.f k l0 a1 = some (r1, r2)) :
    Calls Tryd.prog 22 #[u9000_, .int .i64 a1] w fun e w' => e = .returned (.int .i64 r1) ∧ Kd.R (Kd.int .i64) 3 w' w0.heap.size (fun k_ => (P0_ k_ ∨ w.heap.size ≤ k_)) u9000_ r2 ∧ Below w0.heap.size w0 w' ∧ Kept w w' (fun k_ => P0_ k_) := by
  have HO0 := Aside0.mk (show Kd.R (Kd.int .i64) 3 w w0.heap.size (fun k_ => (P0_ k_ ∨ w.heap.size ≤ k_)) u9000_ l0 from Kd.R_mono ho0 (fun k_ hk => (.inl hk)))
  have HK := Aside0.mk (Kept.refl w (fun k_ => P0_ k_))
  have HW0 := Aside0.mk hB.size
  have HB := Aside0.mk hB
  clear hB
  have H : (laws_markIntS.l0 k l0 a1 0) = some (r1, r2) := h
  clear h
  have H' := Aside0.mk H
  clear H
  go_enter Tryd.func22, Tryd.ntmps22
  go_wp2
  go_loopg [1, 5] k (fun kq v1 v5 w' => ∃ (x0_1 : List Int) (x1_1 : Int) (x5_1 : Int), v1 = .int .i64 x1_1 ∧ v5 = .int .i64 x5_1 ∧ Aside0 (laws_markIntS.l0 kq x0_1 x1_1 x5_1 = some (r1, r2)) ∧ Aside0 (kq ≤ k) ∧ Aside0 (Kd.R (Kd.int .i64) 3 w' w0.heap.size (fun k_ => (P0_ k_ ∨ w.heap.size ≤ k_)) u9000_ x0_1) ∧ Aside0 (Kept w w' (fun k_ => P0_ k_)) ∧ Aside0 (Below w0.heap.size w0 w'))
  case atStart => exact ⟨(l0), (a1), (0), (by first | rfl | (simp; done) | (simp [*]; done)), (by first | rfl | (simp; done) | (simp [*]; done)), H', ⟨Nat.le_refl _⟩, ⟨by (with_reducible repeat (first | apply Kd.R_alloc | apply Kd.R_drewN | apply Kd.R_drew)); exact HO0.out⟩, ⟨by repeat (first | (with_reducible first | exact HK.out | apply Kept.alloc | apply Kept.drewN | apply Kept.drew) | exact HK.out)⟩, ⟨by repeat (first | (with_reducible first | exact HB.out | apply below_alloc | apply pw_below_drewN | apply below_drew1) | exact HB.out)⟩⟩
  case round =>
    clear H'
    try clear c2
    try clear p2
    obtain ⟨x0_1, x1_1, x5_1, rfl, rfl, HA, HK1, HO_0, HK, HB⟩ := hrel
    cases gk with
    | zero => exact absurd HA.out (by simp [laws_markIntS.l0])
    | succ k1 =>
      have H := HA.out
      clear HA
      simp only [laws_markIntS.l0] at H
      by_cases c3 : x5_1 < (x0_1.length : Int)
      · rw [if_pos c3] at H
        have c3b0 : decide (x5_1 < (x0_1.length : Int)) = true := decide_eq_true c3
        clear c3
        by_cases c4 : 0 ≤ x5_1
        · rw [if_pos c4] at H
          have c4b0 : decide (0 ≤ x5_1) = true := decide_eq_true c4
          clear c4
          obtain ⟨y126, hy126⟩ : ∃ y_ : List Int, y_ = (x0_1.set (x5_1 : Int).toNat x1_1) := ⟨_, rfl⟩
          replace H : (laws_markIntS.l0 k1 y126 (wrap64 (x1_1 + 1)) (wrap64 (x5_1 + 1))) = some (r1, r2) := by first | (rw [hy126]; with_reducible exact H) | (have H2_ := (Option.bind_some _ _).symm.trans H; rw [hy126]; with_reducible exact H2_) | (have H2_ := (Option.bind_some _ _).symm.trans H; with_reducible exact H2_) | with_reducible exact H | (rw [hy126]; exact H) | exact H
          have Ny126 := Aside0.mk hy126
          clear hy126
          have H' := Aside0.mk H
          clear H
          obtain ⟨Ao6, co6, eo6⟩ := Kd.R_slice HO_0.out
          subst eo6
          have p5 : 0 ≤ (x5_1 : Int) := of_decide_eq_true (by first | (with_reducible assumption) | assumption)
          have q5 : (x5_1 : Int) < ((x0_1.length : Int) : Int) := of_decide_eq_true (by first | (with_reducible assumption) | assumption)
          obtain ⟨go5, co5, eo5, gb5, gl5, cl5, HG5⟩ := Kd.R_form HO_0.out (by omega)
          (first | cases eo5 | (injection eo5 with ea_ en_ ec_; (first | subst ea_ | (injection ea_ with ea_; subst ea_)); subst ec_; clear en_))
          have GB5 := Aside0.mk gb5
          have GG5 := Aside0.mk HG5
          clear gb5 gl5 HG5
          have HMgo5 := Aside0.mk (show (P0_ go5 ∨ w.heap.size ≤ go5) from (HO_0.out.1 _ rfl))
          obtain ⟨hx5_0, hf5_0⟩ := Kd.R_celln 0 HO_0.out (x5_1 : Int) p5 q5
          replace p5 := eq_true p5
          replace q5 := eq_true q5
          have HP7 := Kd.R_putg HO_0.out (x5_1 : Int) x1_1
          go_wp2_with (first | ((with_reducible refine gate_store (t := 3) (p := 15) rfl ?_); refine store_event (t := 3) (p := 15) (v := ?vo_w8) (w1 := (wr.setCell ⟨go5, (x5_1 : Int).toNat, none⟩ (.int .i64 x1_1))) ?hg ?ho ?hn ?hr ?_; (case ho => rfl); (case hg => rfl); (case hn => rfl); (case hr => first | (go_simp; done) | (go_simp; rfl)); intro w8 hw; have hg : wr.grownBy w8 (some go5) := (by rw [hw]; exact HP7.2); have hp_ : Kd.R (Kd.int .i64) 3 w8 w0.heap.size (fun k_ => (P0_ k_ ∨ w.heap.size ≤ k_)) (.slice (some ⟨go5, 0, none⟩) x0_1.length co6) y126 := (by rw [hw, Ny126.out]; exact HP7.1); clear HP7; have n0_ := Aside0.mk (hp_); have n1_ := Aside0.mk ((by rw [hw]; exact below_set (HB.out) GB5.out : Below w0.heap.size w0 w8)); have n2_ := Aside0.mk (Kept.of_grown (S := (fun k_ => P0_ k_)) hg (by repeat (first | (with_reducible first | exact HK.out | apply Kept.alloc | apply Kept.drewN | apply Kept.drew) | exact HK.out)) (fun k_ e_ => (HO_0.out.1 k_ e_))); clear HO_0; clear HB; clear HK; have HO_0 := n0_; have HB := n1_; have HK := n2_; clear n0_ n1_ n2_; clear hg hw hp_))
          go_roundg k1
          case measure => have := HK1.out; omega
          case rel => exact ⟨(y126), (wrap64 (x1_1 + 1)), (wrap64 (x5_1 + 1)), (by first | rfl | (simp; done) | (simp [*]; done)), (by first | rfl | (simp; done) | (simp [*]; done)), H', ⟨by have := HK1.out; omega⟩, ⟨by (with_reducible repeat (first | apply Kd.R_alloc | apply Kd.R_drewN | apply Kd.R_drew)); exact HO_0.out⟩, ⟨by repeat (first | (with_reducible first | exact HK.out | apply Kept.alloc | apply Kept.drewN | apply Kept.drew) | exact HK.out)⟩, ⟨by repeat (first | (with_reducible first | exact HB.out | apply below_alloc | apply pw_below_drewN | apply below_drew1) | exact HB.out)⟩⟩
        · rw [if_neg c4] at H
          exact absurd H (by simp)
      · rw [if_neg c3] at H
        have c3b0 : decide (x5_1 < (x0_1.length : Int)) = false := decide_eq_false c3
        clear c3
        simp only [Option.some.injEq, Prod.mk.injEq] at H
        obtain ⟨rfl, rfl⟩ := H
        obtain ⟨Ao9, co9, eo9⟩ := Kd.R_slice HO_0.out
        subst eo9
        go_wp2
        go_ret
        exact ⟨by first | rfl | (simp [errW_none, errW_some] <;> rfl) | (simp [*, errW_none, errW_some] <;> rfl), by (with_reducible repeat (first | apply Kd.R_alloc | apply Kd.R_drewN | apply Kd.R_drew)); exact HO_0.out, by repeat (first | (with_reducible first | exact HB.out | apply below_alloc | apply pw_below_drewN | apply below_drew1) | exact HB.out), by repeat (first | (with_reducible first | exact HK.out | apply Kept.alloc | apply Kept.drewN | apply Kept.drew) | exact HK.out)⟩

/-! ### laws_heldIntS: function 23 -/
def laws_heldIntS.l0 : Nat → List Int → Int → Int → Option (Int)
  | 0, _, _, _ => none
  | k + 1, x0, x1, x5 => if x5 < (x0.length : Int) then (if 0 ≤ x5 then (if (rd x0 x5) = x1 then (laws_heldIntS.l0 k x0 (wrap64 (x1 + 1)) (wrap64 (x5 + 1))) else (some (-1))) else (none)) else (some x1)
def laws_heldIntS.f (k : Nat) (l0 : List Int) (a1 : Int) : Option (Int) := laws_heldIntS.l0 k l0 a1 0
theorem laws_heldIntS.mono_l : ∀ k, (∀ y0 y1 y2, LeO (laws_heldIntS.l0 k y0 y1 y2) (laws_heldIntS.l0 (k + 1) y0 y1 y2))
  | 0 => fun _ _ _ r h => by simp [laws_heldIntS.l0] at h
  | k + 1 => by
    have ih0 := laws_heldIntS.mono_l k
    · intro y0 y1 y2
      unfold laws_heldIntS.l0
      repeat' first
      | (with_reducible exact ih0 _ _ _)
      | (with_reducible exact LeO.refl _)
      | (with_reducible exact LeO.none _)
      | (with_reducible refine LeO.ite ?_ ?_)
      | (with_reducible refine LeO.bind ?_ (fun _ => ?_))
      | exact ih0 _ _ _
      | exact LeO.none _
      | refine LeO.ite ?_ ?_
      | refine LeO.bind ?_ (fun _ => ?_)
theorem laws_heldIntS.mono : ∀ a0 a1 k, LeO (laws_heldIntS.f k a0 a1) (laws_heldIntS.f (k + 1) a0 a1) := by
  intro a0 a1 k
  have ih0 := laws_heldIntS.mono_l k
  unfold laws_heldIntS.f
  repeat' first
      | (with_reducible exact ih0 _ _ _)
      | (with_reducible exact LeO.refl _)
      | (with_reducible exact LeO.none _)
      | (with_reducible refine LeO.ite ?_ ?_)
      | (with_reducible refine LeO.bind ?_ (fun _ => ?_))
      | exact ih0 _ _ _
      | exact LeO.none _
      | refine LeO.ite ?_ ?_
      | refine LeO.bind ?_ (fun _ => ?_)
set_option maxHeartbeats 8000000 in
set_option maxRecDepth 100000 in
theorem laws_heldIntS.calls (k : Nat) (A0 : Option Addr) (c0 : Nat) (l0 : List Int) (a1 : Int) (r : Int) (w : World) (hr0 : Kd.C (Kd.int .i64) w A0 l0.length l0) (hc0 : l0.length ≤ c0) (h : laws_heldIntS.f k l0 a1 = some r) :
    Calls Tryd.prog 23 #[.slice A0 l0.length c0, .int .i64 a1] w fun e w' => e = .returned (.int .i64 r) ∧ Drawn0 w w' := by
  have HR0 := Aside0.mk hr0
  have HC0 := Aside0.mk hc0
  clear hr0 hc0
  have H : (laws_heldIntS.l0 k l0 a1 0) = some r := h
  clear h
  have H' := Aside0.mk H
  clear H
  go_enter Tryd.func23, Tryd.ntmps23
  go_wp2
  go_loopg [1, 5] k (fun kq v1 v5 w' => ∃ (x1_1 : Int) (x5_1 : Int), v1 = .int .i64 x1_1 ∧ v5 = .int .i64 x5_1 ∧ Aside0 (laws_heldIntS.l0 kq l0 x1_1 x5_1 = some r) ∧ Aside0 (kq ≤ k) ∧ Drawn0 w w')
  case atStart => exact ⟨(a1), (0), (by first | rfl | (simp; done) | (simp [*]; done)), (by first | rfl | (simp; done) | (simp [*]; done)), H', ⟨Nat.le_refl _⟩, by repeat (first | exact Drawn0.refl _ | apply Drawn0.step)⟩
  case round =>
    clear H'
    try clear c2
    try clear p2
    obtain ⟨x1_1, x5_1, rfl, rfl, HA, HK1, ⟨m1, rfl⟩⟩ := hrel
    cases gk with
    | zero => exact absurd HA.out (by simp [laws_heldIntS.l0])
    | succ k1 =>
      have H := HA.out
      clear HA
      simp only [laws_heldIntS.l0] at H
      by_cases c3 : x5_1 < (l0.length : Int)
      · rw [if_pos c3] at H
        have c3b0 : decide (x5_1 < (l0.length : Int)) = true := decide_eq_true c3
        clear c3
        by_cases c4 : 0 ≤ x5_1
        · rw [if_pos c4] at H
          have c4b0 : decide (0 ≤ x5_1) = true := decide_eq_true c4
          clear c4
          by_cases c5 : (rd l0 x5_1) = x1_1
          · rw [if_pos c5] at H
            have c5b0 : ((rd l0 x5_1) == x1_1) = true := beq_iff_eq.mpr c5
            have c5b1 : ((rd l0 x5_1) != x1_1) = false := bne_eq_false_iff_eq.mpr c5
            clear c5
            have H' := Aside0.mk H
            clear H
            have p127 : 0 ≤ (x5_1 : Int) := of_decide_eq_true (by first | (with_reducible assumption) | assumption)
            have q127 : x5_1 < (l0.length : Int) := of_decide_eq_true (by first | (with_reducible assumption) | assumption)
            obtain ⟨ad127, e127, hx127_0⟩ := Kd.at_int HR0.out x5_1 p127 q127
            cases e127
            replace p127 := eq_true p127
            replace q127 := eq_true q127
            go_wp2
            go_roundg k1
            case measure => have := HK1.out; omega
            case rel => exact ⟨(wrap64 (x1_1 + 1)), (wrap64 (x5_1 + 1)), (by first | rfl | (simp; done) | (simp [*]; done)), (by first | rfl | (simp; done) | (simp [*]; done)), H', ⟨by have := HK1.out; omega⟩, by repeat (first | exact Drawn0.refl _ | apply Drawn0.step)⟩
          · rw [if_neg c5] at H
            have c5b0 : ((rd l0 x5_1) == x1_1) = false := beq_eq_false_iff_ne.mpr c5
            have c5b1 : ((rd l0 x5_1) != x1_1) = true := bne_iff_ne.mpr c5
            obtain rfl := Option.some.inj H
            have p127 : 0 ≤ (x5_1 : Int) := of_decide_eq_true (by first | (with_reducible assumption) | assumption)
            have q127 : x5_1 < (l0.length : Int) := of_decide_eq_true (by first | (with_reducible assumption) | assumption)
            obtain ⟨ad127, e127, hx127_0⟩ := Kd.at_int HR0.out x5_1 p127 q127
            cases e127
            replace p127 := eq_true p127
            replace q127 := eq_true q127
            go_wp2
            go_ret
            exact ⟨by first | rfl | (simp; done) | (simp [*]; done), by repeat (first | exact Drawn0.refl _ | apply Drawn0.step)⟩
        · rw [if_neg c4] at H
          exact absurd H (by simp)
      · rw [if_neg c3] at H
        have c3b0 : decide (x5_1 < (l0.length : Int)) = false := decide_eq_false c3
        clear c3
        obtain rfl := Option.some.inj H
        go_wp2
        go_ret
        exact ⟨by first | rfl | (simp; done) | (simp [*]; done), by repeat (first | exact Drawn0.refl _ | apply Drawn0.step)⟩

end Go.Proofs.YtjkildnpnjhgfaaDoor.PFnExactPathsHeard
