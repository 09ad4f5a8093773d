/- The draws of friends and calls. No conditions. -/
import Derived.Test.YtjoapoebeknddaaK3
set_option linter.unusedSimpArgs false
set_option linter.unusedVariables false
open Go Go.Am
namespace T
open Go.Proofs
set_option maxRecDepth 100000
set_option maxHeartbeats 4000000
set_option linter.unusedSimpArgs false
set_option linter.unusedVariables false
variable {base : Nat} {H : Heap}
@[go_sem] theorem fa76_0 {b o} : fieldAddrA C.P 80 0 (.pointer (some ⟨b, o, none⟩)) = some (.pointer (some ⟨b, o, none⟩)) := rfl
@[go_sem] theorem fa76_1 {b o} : fieldAddrA C.P 80 1 (.pointer (some ⟨b, o, none⟩)) = some (.pointer (some ⟨b, o + 1, none⟩)) := rfl
@[go_sem] theorem fa76_2 {b o} : fieldAddrA C.P 80 2 (.pointer (some ⟨b, o, none⟩)) = some (.pointer (some ⟨b, o + 2, none⟩)) := rfl
@[go_sem] theorem ld22 {o T cs} : ld1 C.P 22 o (some (T, cs)) = cs[o]? := ld_sc rfl
@[go_sem] theorem ld5 {o T cs} : ld1 C.P 5 o (some (T, cs)) = cs[o]? := ld_sc rfl
@[go_sem] theorem ld74 {o T cs} : ld1 C.P 78 o (some (T, cs)) = cs[o]? := ld_sc rfl
/-- A reader of bytes stands in block b, behind the k0 first blocks; its place is k at most. -/
structure Cur (k0 : Nat) (H : Heap) (b k : Nat) : Prop where
  ge : k0 ≤ b
  len : k0 ≤ H.length
  ex : ∃ (a : Option Addr) (m c pos : Nat) (seed : Int), hget H b = some (80, [.slice a m c, gi pos, .int .u64 seed]) ∧ pos ≤ k ∧
    ∀ H', Keeps k0 H H' → ∀ i, i < m → ∃ (bb o : Nat) (T : TypeId) (cs : List Value) (x : Nat), indexAddrA C.P 22 (.slice a m c) (gi i) = some (.pointer (some ⟨bb, o, none⟩)) ∧ hget H' bb = some (T, cs) ∧ cs[o]? = some (.int .u8 x) ∧ x < 256
theorem Cur.blk {k0 b k : Nat} (h : Cur k0 H b k) : ∃ cs, hget H b = some (80, cs) := by obtain ⟨_, _, _, _, _, h1, _⟩ := h.ex; exact ⟨_, h1⟩
theorem Cur.stay {k0 b k k' : Nat} {H' : Heap} (h : Cur k0 H b k) (hk : Keeps k0 H H') (hb : H'[b]? = H[b]?) (hkk : k ≤ k') : Cur k0 H' b k' := by
  obtain ⟨a, m, c, pos, seed, h1, h2, h3⟩ := h.ex
  exact ⟨h.ge, Nat.le_trans h.len hk.1, a, m, c, pos, seed, hget_eq hb h1, Nat.le_trans h2 hkk, fun H'' hk' => h3 H'' (hk.trans hk')⟩
theorem and255 {x : Int} : ∃ y : Nat, y < 256 ∧ IntKind.i64.wrap (IntKind.u64.wrap (BitVec.ofInt 64 x &&& BitVec.ofInt 64 255).toNat) = (y : Int) := by
  refine ⟨(BitVec.ofInt 64 x &&& BitVec.ofInt 64 255).toNat, ?_, ?_⟩
  · rw [BitVec.toNat_and]
    have : (BitVec.ofInt 64 255).toNat = 255 := rfl
    rw [this]
    exact Nat.lt_of_le_of_lt Nat.and_le_right (by decide)
  · have h : (BitVec.ofInt 64 x &&& BitVec.ofInt 64 255).toNat < 256 := by
      rw [BitVec.toNat_and]
      have : (BitVec.ofInt 64 255).toNat = 255 := rfl
      rw [this]
      exact Nat.lt_of_le_of_lt Nat.and_le_right (by decide)
    generalize (BitVec.ofInt 64 x &&& BitVec.ofInt 64 255).toNat = q at *
    have e : IntKind.u64.wrap (q : Int) = q := by simp only [IntKind.wrap, IntKind.bits, IntKind.signed, Bool.false_and, Bool.false_eq_true, if_false]; omega
    rw [e, IntKind.wrap_i64]; omega
theorem next_c {k0 b k : Nat} (hc : Cur k0 H b k) (hb : base ≤ b) (hk : k < 2 ^ 61) : Ok (cal C base 86 [pt b] H) fun v H' => Onl b H H' ∧ Cur k0 H' b (k + 1) ∧ ∃ x : Nat, v = gi x ∧ x < 256 := by
  refine ok_fn Try.func86 rfl rfl (res := [.tmp 2]) rfl Try.ntmps86 1 base _ H ?_
  have hcc := hc
  obtain ⟨a, m, c, pos, seed, h1, h2, h3⟩ := hc.ex
  have hbl := hget_lt h1
  have fin : ∀ (x : Nat) (seed' : Int), Onl b H ((H.set b (some (80, [.slice a m c, gi (pos + 1 : Nat), .int .u64 seed]))).set b (some (80, [.slice a m c, gi (pos + 1 : Nat), .int .u64 seed']))) ∧ Cur k0 ((H.set b (some (80, [.slice a m c, gi (pos + 1 : Nat), .int .u64 seed]))).set b (some (80, [.slice a m c, gi (pos + 1 : Nat), .int .u64 seed']))) b (k + 1) := by
    intro x seed'
    rw [List.set_set]
    have ho : Onl b H (H.set b (some (80, [.slice a m c, gi (pos + 1 : Nat), .int .u64 seed']))) := .set _ _ _
    refine ⟨ho, hc.ge, Nat.le_trans hc.len ho.1, a, m, c, pos + 1, seed', by unfold hget; rw [List.getElem?_set_self hbl]; rfl, by omega, fun H'' hk' => h3 H'' ((ho.keeps hc.ge hc.len).trans hk')⟩
  have s1 := st_at (P := C.P) (base := base) (t := 3) (o := 1) (v := gi (pos + 1 : Nat)) hb h1 rfl rfl (by show 1 + 1 ≤ 3; decide)
  rw [show setAll [.slice a m c, gi pos, .int .u64 seed] 1 (gi (pos + 1 : Nat)).cells.toList = [.slice a m c, gi (pos + 1 : Nat), .int .u64 seed] from rfl] at s1
  have g2 : hget (H.set b (some (80, [.slice a m c, gi (pos + 1 : Nat), .int .u64 seed]))) b = some (80, [.slice a m c, gi (pos + 1 : Nat), .int .u64 seed]) := by unfold hget; rw [List.getElem?_set_self hbl]; rfl
  have s2 : ∀ z : Int, storeA C.P base (H.set b (some (80, [.slice a m c, gi (pos + 1 : Nat), .int .u64 seed]))) 78 (.int .u64 z) (.pointer (some ⟨b, 2, none⟩)) = some ((H.set b (some (80, [.slice a m c, gi (pos + 1 : Nat), .int .u64 seed]))).set b (some (80, [.slice a m c, gi (pos + 1 : Nat), .int .u64 z]))) := fun z => st_at (P := C.P) (base := base) (t := 78) (o := 2) (v := .int .u64 z) hb g2 rfl rfl (Nat.le_refl _)
  have g3 : ∀ z : Int, hget ((H.set b (some (80, [.slice a m c, gi (pos + 1 : Nat), .int .u64 seed]))).set b (some (80, [.slice a m c, gi (pos + 1 : Nat), .int .u64 z]))) b = some (80, [.slice a m c, gi (pos + 1 : Nat), .int .u64 z]) := fun z => by unfold hget; rw [List.getElem?_set_self (by simpa using hbl)]; rfl
  have e2 : ∀ (x y : Nat), decide (((x : Nat) : Int) ≤ (y : Int)) = decide (x ≤ y) := fun x y => by simp
  simp only [go_sem, show C.wr 86 = true from rfl]
  rw [fin_regd]; rotate_left; · decide +kernel
  cases hlt : decide ((pos : Int) < (m : Int))
  · have hgt : decide (((pos + 1 : Nat) : Int) ≤ (m : Int)) = false := by have := of_decide_eq_false hlt; exact decide_eq_false (by omega)
    simp only [go_sem, h1, hlt]
    rw [wrapN (by omega)]
    simp only [go_sem, s1, g2]
    rw [eo_convI (K := .u64) (K' := .i64) rfl ⟨.i64, rfl⟩ rfl]
    simp only [go_sem, s2]
    rw [fin_regd]; rotate_left; · decide +kernel
    simp only [go_sem, g3, hgt, b_shr (show (0 : Int) ≤ 40 by decide), b_and]
    rw [eo_convI (K := .i64) (K' := .u64) rfl ⟨.u64, rfl⟩ rfl]
    simp only [go_sem, Chr (show (rawF 86 || wrF 86) = true from rfl)]
    obtain ⟨y, hy, e⟩ := and255 (x := Int.fdiv (IntKind.u64.wrap (IntKind.u64.wrap (IntKind.u64.wrap (seed * 6364136223846793005) + IntKind.u64.wrap 0) + 1442695040888963407)) (2 ^ min (Int.toNat 40) IntKind.u64.bits))
    exact .some ⟨(fin 0 _).1, (fin 0 _).2, y, by rw [← e]; rfl, hy⟩
  · have hi : pos < m := by have := of_decide_eq_true hlt; omega
    obtain ⟨bb, o, T, cs, x, k1, k2, k3, k4⟩ := h3 H (.refl _ _) pos hi
    have hgt : decide (((pos + 1 : Nat) : Int) ≤ (m : Int)) = true := decide_eq_true (by omega)
    have hw : IntKind.i64.wrap (x : Int) = (x : Int) := by rw [IntKind.wrap_i64]; omega
    simp only [go_sem, h1, hlt]
    rw [fin_regd]; rotate_left; · decide +kernel
    simp only [go_sem, h1, k1, k2, k3]
    rw [eo_convI (K := .i64) (K' := .u8) rfl ⟨.u8, rfl⟩ rfl, hw]
    simp only [go_sem, h1]
    rw [wrapN (by omega)]
    simp only [go_sem, s1, g2]
    rw [eo_convI (K := .u64) (K' := .i64) rfl ⟨.i64, rfl⟩ rfl]
    simp only [go_sem, s2]
    rw [fin_regd]; rotate_left; · decide +kernel
    simp only [go_sem, g3, hgt, Chr (show (rawF 86 || wrF 86) = true from rfl)]
    exact .some ⟨(fin 0 _).1, (fin 0 _).2, x, rfl, k4⟩
end T

open Go Go.Am
namespace T
open Go.Proofs
set_option maxRecDepth 100000
set_option maxHeartbeats 4000000
set_option linter.unusedSimpArgs false
set_option linter.unusedVariables false
variable {base : Nat} {H : Heap}
theorem OwnL.ge {k0 el es m : Nat} {s : Value} {cs : List Value} (h : OwnL k0 H el es s m cs) : ∀ i, blkV s = some i → k0 ≤ i := by
  obtain ⟨h0, ⟨rfl, _⟩ | ⟨b', hb', rfl, hg'⟩⟩ := h
  · exact fun i e => nomatch e
  · intro i e
    obtain rfl : b' = i := Option.some.inj e
    exact hb'
theorem Cur.mono {k0 b k k' : Nat} (h : Cur k0 H b k) (hk : k ≤ k') : Cur k0 H b k' := h.stay (.refl _ _) rfl hk
theorem tmodN {x n : Nat} (h : 0 < n) : (x : Int).tmod (n : Int) = ((x % n : Nat) : Int) := by
  rw [Int.tmod_eq_emod_of_nonneg (by omega)]; rfl
theorem pick_c {k0 b k : Nat} {n : Int} (hc : Cur k0 H b k) (hb : base ≤ b) (hk : k + 1 < 2 ^ 61) : Ok (cal C base 67 [pt b, gi n] H) fun v H' => Onl b H H' ∧ Cur k0 H' b (k + 2) ∧ ∃ x : Nat, v = gi x ∧ (x = 0 ∨ (x : Int) < n) := by
  refine ok_fn Try.func67 rfl rfl (res := [.tmp 4]) rfl Try.ntmps67 1 base _ H ?_
  cases h1 : decide (n ≤ 1)
  · obtain ⟨N, rfl⟩ := Int.eq_ofNat_of_zero_le (show 0 ≤ n by have := of_decide_eq_false h1; omega)
    have hN : 0 < N := by have := of_decide_eq_false h1; omega
    obtain ⟨v, H1, e1, ho1, hc1, x, rfl, hx⟩ := next_c (base := base) hc hb (by omega)
    cases h2 : decide (200 < (N : Int))
    · simp only [go_sem, h1, h2, e1, show C.wr 67 = true from rfl, b_rem (show (N : Int) ≠ 0 by omega), tmodN hN, Chr (show (rawF 67 || wrF 67) = true from rfl)]
      exact .some ⟨ho1, hc1.mono (by omega), x % N, rfl, .inr (by have := Nat.mod_lt x hN; omega)⟩
    · obtain ⟨v, H2, e2, ho2, hc2, y, rfl, hy⟩ := next_c (base := base) hc1 hb hk
      have hw : IntKind.i64.wrap (IntKind.i64.wrap ((x : Int) * 256) + (y : Int)) = ((x * 256 + y : Nat) : Int) := by rw [IntKind.wrap_i64, IntKind.wrap_i64]; omega
      simp only [go_sem, h1, h2, e1, e2, hw, show C.wr 67 = true from rfl, b_rem (show (N : Int) ≠ 0 by omega), tmodN hN, Chr (show (rawF 67 || wrF 67) = true from rfl)]
      exact .some ⟨ho1.trans ho2, hc2, (x * 256 + y) % N, rfl, .inr (by have := Nat.mod_lt (x * 256 + y) hN; omega)⟩
  · simp only [go_sem, h1, show C.wr 67 = true from rfl, Chr (show (rawF 67 || wrF 67) = true from rfl)]
    exact .some ⟨.refl _ _, hc.mono (by omega), 0, rfl, .inl rfl⟩
theorem one_c {k0 b k : Nat} {n : Int} (hc : Cur k0 H b k) (hb : base ≤ b) (hk : k + 1 < 2 ^ 61) : Ok (cal C base 88 [pt b, gi n] H) fun v H' => Onl b H H' ∧ Cur k0 H' b (k + 2) ∧ ∃ x : Bool, v = bo x := by
  refine ok_fn Try.func88 rfl rfl (res := [.tmp 4]) rfl Try.ntmps88 1 base _ H ?_
  obtain ⟨v, H1, e1, ho1, hc1, x, rfl, hx⟩ := pick_c (base := base) (n := n) hc hb hk
  simp only [go_sem, e1, show C.wr 88 = true from rfl, Chr (show (rawF 88 || wrF 88) = true from rfl)]
  exact .some ⟨ho1, hc1, _, rfl⟩
theorem among_c {k0 b k bb m : Nat} {cs : List Value} (hc : Cur k0 H b k) (hb : base ≤ b) (hk : k + 1 < 2 ^ 61) (hg : hget H bb = some (3, cs)) (hl : cs.length = m) (hm : 0 < m) (hi : ∀ i, i < m → ∃ z : Int, cs[i]? = some (gi z)) :
    Ok (cal C base 83 [pt b, .slice (some ⟨bb, 0, some 1⟩) m m] H) fun v H' => Onl b H H' ∧ Cur k0 H' b (k + 2) ∧ ∃ x : Int, v = gi x := by
  refine ok_fn Try.func83 rfl rfl (res := [.tmp 4]) rfl Try.ntmps83 1 base _ H ?_
  obtain ⟨v, H1, e1, ho1, hc1, x, rfl, hx⟩ := pick_c (base := base) (n := (m : Int)) hc hb hk
  obtain ⟨cb, hcb⟩ := hc.blk
  have hxm : x < m := by omega
  have hg1 := ho1.get hg (fun e => by subst e; rw [hcb] at hg; cases hg)
  obtain ⟨z, hz⟩ := hi x hxm
  have hix : indexAddrA C.P 34 (.slice (some ⟨bb, 0, some 1⟩) m m) (gi x) = some (.pointer (some ⟨bb, x, none⟩)) := by
    rw [ia_at (show tyElem C.P 34 = some 3 from rfl) (show tySize C.P 3 = some 1 from rfl) hxm]; simp
  simp only [go_sem, e1, hix, hg1, hz, show C.wr 83 = true from rfl, Chr (show (rawF 83 || wrF 83) = true from rfl)]
  exact .some ⟨ho1, hc1, _, rfl⟩
theorem bsI3 {a b c : Int} : buildSliceA C.P H 34 3 [(0, gi a), (1, gi b), (2, gi c)] = some (.slice (some ⟨H.length, 0, some 1⟩) 3 3, H ++ [some (3, [gi a, gi b, gi c])]) := rfl
theorem bsI4 {a b c d : Int} : buildSliceA C.P H 34 4 [(0, gi a), (1, gi b), (2, gi c), (3, gi d)] = some (.slice (some ⟨H.length, 0, some 1⟩) 4 4, H ++ [some (3, [gi a, gi b, gi c, gi d])]) := rfl
theorem bsI6 {a b c d e f : Int} : buildSliceA C.P H 34 6 [(0, gi a), (1, gi b), (2, gi c), (3, gi d), (4, gi e), (5, gi f)] = some (.slice (some ⟨H.length, 0, some 1⟩) 6 6, H ++ [some (3, [gi a, gi b, gi c, gi d, gi e, gi f])]) := rfl
theorem all_gi {l : List Int} : ∀ i, i < l.length → ∃ z : Int, (l.map gi)[i]? = some (gi z) := fun i hi => ⟨l[i], by simp [hi]⟩
/-- Out of a list that has just been written down. -/
theorem amongN_c {k0 b k : Nat} (l : List Int) (hc : Cur k0 H b k) (hb : base ≤ b) (hk : k + 1 < 2 ^ 61) (hm : 0 < l.length) :
    Ok (cal C base 83 [pt b, .slice (some ⟨H.length, 0, some 1⟩) l.length l.length] (H ++ [some (3, l.map gi)])) fun v H' => Onl b H H' ∧ Cur k0 H' b (k + 2) ∧ ∃ x : Int, v = gi x := by
  have ho := Onl.append b H [some (3, l.map gi)]
  obtain ⟨cb, hcb⟩ := hc.blk
  have hc' : Cur k0 (H ++ [some (3, l.map gi)]) b k := hc.stay (ho.keeps hc.ge hc.len) (List.getElem?_append_left (hget_lt hcb)) (Nat.le_refl _)
  obtain ⟨v, H1, e1, ho1, hc1, x, rfl⟩ := among_c (base := base) (bb := H.length) (m := l.length) (cs := l.map gi) hc' hb hk hget_0 (by simp) hm all_gi
  exact ⟨_, _, e1, ho.trans ho1, hc1, x, rfl⟩
theorem friends_c {k0 b k : Nat} (hc : Cur k0 H b k) (hb : base ≤ b) (hk : k + 3 < 2 ^ 61) : Ok (cal C base 81 [pt b] H) fun v H' => Onl b H H' ∧ Cur k0 H' b (k + 4) ∧ ∃ x : Int, v = gi x := by
  refine ok_fn Try.func81 rfl rfl (res := [.tmp 2]) rfl Try.ntmps81 1 base _ H ?_
  obtain ⟨v, H1, e1, ho1, hc1, x, rfl⟩ := one_c (base := base) (n := 12) hc hb (by omega)
  cases x
  · obtain ⟨v, H2, e2, ho2, hc2, y, rfl, hy⟩ := pick_c (base := base) (n := 5) hc1 hb (by omega)
    simp only [go_sem, e1, e2, show C.wr 81 = true from rfl, Chr (show (rawF 81 || wrF 81) = true from rfl)]
    exact .some ⟨ho1.trans ho2, hc2, _, rfl⟩
  · obtain ⟨v, H2, e2, ho2, hc2, y, rfl⟩ := amongN_c (base := base) [0, -1, 1, 10, 11, 4611686018427387904] hc1 hb (by omega) (by decide)
    simp only [go_sem] at e2
    simp only [go_sem, e1, bsI6, e2, show C.wr 81 = true from rfl, Chr (show (rawF 81 || wrF 81) = true from rfl)]
    exact .some ⟨ho1.trans ho2, hc2, _, rfl⟩
theorem ts46 : TyS C.P 24 67 2 (.agg #[gi 0, gi 0]) := ⟨rfl, rfl, rfl, ⟨rfl, by decide, rfl⟩, rfl⟩
@[go_sem] theorem bd80 {x y : Int} : buildA C.P 67 [(0, gi x), (1, gi y)] = some (.agg #[gi x, gi y]) := rfl
@[go_sem] theorem bd80_1 {y : Int} : buildA C.P 67 [(1, gi y)] = some (.agg #[gi 0, gi y]) := rfl
@[go_sem] theorem bd66_0 {y : Int} : buildA C.P 67 [(0, gi y)] = some (.agg #[gi y, gi 0]) := rfl
theorem wrap3 {y z : Nat} (hy : y < 1000) (hz : z < 1000) : IntKind.i64.wrap (IntKind.i64.wrap ((y : Int) + 1) + (z : Int)) = ((y + 1 + z : Nat) : Int) := by rw [IntKind.wrap_i64, IntKind.wrap_i64]; omega
theorem wrapM {n : Int} (h1 : 0 ≤ n) (h2 : n < 1000) : IntKind.i64.wrap (n - 1) = n - 1 := by rw [IntKind.wrap_i64]; omega
end T

open Go Go.Am
namespace T
open Go.Proofs
set_option maxRecDepth 100000
set_option maxHeartbeats 4000000
set_option linter.unusedSimpArgs false
set_option linter.unusedVariables false
variable {base : Nat} {H : Heap}
@[go_sem] theorem tv_agg2 {P : Program} {m : Nat} {x y : Int} {l : List Value} {old acc : Heap} : takeVals P m (.agg #[gi x, gi y] :: l) old acc = (takeVals P m l old acc).map fun z => (.agg #[gi x, gi y] :: z.1, z.2) := rfl
theorem least_c {x y : Int} : ∃ z : Int, ∀ base H, cal C base 90 [gi x, gi y] H = some (gi z, H) := by
  refine ⟨if x < y then x else y, fun base H => ?_⟩
  refine cal_fn Try.func90 rfl rfl (res := [.tmp 4]) rfl Try.ntmps90 1 base _ H ?_
  cases h : decide (x < y)
  · simp only [go_sem, h, show C.wr 90 = false from rfl, Chb (show wrF 90 = false from rfl), if_neg (of_decide_eq_false h)]
  · simp only [go_sem, h, show C.wr 90 = false from rfl, Chb (show wrF 90 = false from rfl), if_pos (of_decide_eq_true h)]
theorem most_c {x y : Int} : ∃ z : Int, ∀ base H, cal C base 91 [gi x, gi y] H = some (gi z, H) := by
  refine ⟨if y < x then x else y, fun base H => ?_⟩
  refine cal_fn Try.func91 rfl rfl (res := [.tmp 4]) rfl Try.ntmps91 1 base _ H ?_
  cases h : decide (y < x)
  · simp only [go_sem, h, show C.wr 91 = false from rfl, Chb (show wrF 91 = false from rfl), if_neg (of_decide_eq_false h)]
  · simp only [go_sem, h, show C.wr 91 = false from rfl, Chb (show wrF 91 = false from rfl), if_pos (of_decide_eq_true h)]
theorem pair_c {x y : Int} : ∃ a b : Int, ∀ base H, cal C base 89 [gi x, gi y] H = some (.agg #[gi a, gi b], H) := by
  obtain ⟨a, ha⟩ := least_c (x := x) (y := y)
  obtain ⟨b, hb⟩ := most_c (x := x) (y := y)
  refine ⟨a, b, fun base H => ?_⟩
  refine cal_fn Try.func89 rfl rfl (res := [.cell 4 67]) rfl Try.ntmps89 1 base _ H ?_
  have hs := st66 (base := H.length) (H := H) (x0 := gi 0) (y0 := gi 0) (x := a) (y := b) (Nat.le_refl _)
  simp only [go_sem, ha, hb, hs, show C.wr 89 = false from rfl]
  rw [res_cell (b := H.length) (o := 0) (v := .agg #[gi a, gi b]) rfl (by rw [hget_0, ld66'])]
  simp only [go_sem, Chb (show wrF 89 = false from rfl)]
theorem Onl.apps {k0 b k el es m m2 : Nat} {t : TypeId} {H0 H1 : Heap} {s x z : Value} {cs ys : List Value} {base : Nat} (h : OwnL H0.length H1 el es s m cs) (hx : Shows H1 es x m2 ys) (ts : TyS C.P t el es z) (hb : base ≤ H0.length) (hr : m + m2 ≤ room) (h0 : m2 ≠ 0) (hon : Onl b H0 H1) (hc : Cur k0 H1 b k) (hk0 : k0 ≤ H0.length) (hel : (80 : Nat) ≠ el) :
    ∃ s' H', appendA C.P base H1 t s x = some (s', H') ∧ OwnL H0.length H' el es s' (m + m2) (cs ++ ys) ∧ Onl b H0 H' ∧ Cur k0 H' b k := by
  obtain ⟨s', H', e, ho, hk, hbl, hlt, hst⟩ := h.apps1 (base := base) (t := t) hx ts hb hon.1 hr h0
  obtain ⟨cb, hcb⟩ := hc.blk
  have h1 := hon.1
  refine ⟨s', H', e, ho, ⟨by omega, fun i hi hib => ?_⟩, hc.stay (hk.mono hk0) (hst b (hget_lt hcb) (OwnL.blk h hcb hel)) (Nat.le_refl _)⟩
  rw [hst i (by omega) (fun e => by have := OwnL.ge h i e; omega)]
  exact hon.2 i hi hib
theorem Cur.app {k0 b k : Nat} (h : Cur k0 H b k) (F : Heap) : Cur k0 (H ++ F) b k := by
  obtain ⟨cb, hcb⟩ := h.blk
  exact h.stay (.append h.len _) (List.getElem?_append_left (hget_lt hcb)) (Nat.le_refl _)
theorem sureC_c {k0 b k : Nat} {n : Int} {most : Nat} (hc : Cur k0 H b k) (hb : base ≤ b) (hbk : base ≤ k0) (hk : k < 2 ^ 60) (hn : n < 1000) (hm : most < 100) :
    Ok (cal C base 82 [pt b, gi n, gi most] H) fun v H' => Onl b H H' ∧ Cur k0 H' b (k + 2 + 4 * most) ∧ ∃ L : List (Int × Int), L.length ≤ most ∧ OwnL H.length H' 67 2 v L.length (lc L) := by
  refine ok_fn Try.func82 rfl rfl (res := [.tmp 6]) rfl Try.ntmps82 1001 base _ H ?_
  have hw : IntKind.i64.wrap ((most : Int) + 1) = (most : Int) + 1 := by rw [IntKind.wrap_i64]; omega
  obtain ⟨v, H1, e1, ho1, hc1, x, rfl, hx⟩ := pick_c (base := base) (n := (most : Int) + 1) hc hb (by omega)
  have hxm : x ≤ most := by omega
  simp only [go_sem, hw, e1, show C.wr 82 = true from rfl]
  rw [fin_loopk [15, 16, 17, 20, 23, 24, 25, 26, 27, 28, 29, 9, 10, 30, 31, 32, 33, 34, 35, 36, 37, 38, 39, 40, 21, 22] rfl]
  refine lp_ok [7, 8, 18, 19] (fun j vs H' => ∃ (t : Value) (L : List (Int × Int)) (p q : Value), L.length + j ≤ x ∧ vs = [t, gi j, p, q] ∧ OwnL H.length H' 67 2 t L.length (lc L) ∧ Onl b H H' ∧ Cur k0 H' b (k + 2 + 4 * (x - j))) x [.slice none 0 0, gi x, undef, undef] ?_ (by omega) (by simp only [go_sem]) ⟨_, [], _, _, by simp, rfl, .nil _ _ _ _, ho1, hc1.mono (by omega)⟩
  rintro j m vs H' ⟨t, L, p, q, hlj, rfl, ho, hon, hcj⟩ ih
  have hlen := hon.1
  cases hj : decide ((0 : Int) < (j : Int))
  · simp only [go_sem, hj, Chr (show (rawF 82 || wrF 82) = true from rfl)]
    exact .some ⟨hon, hcj.mono (by omega), L, by omega, ho⟩
  cases hn1 : decide ((1 : Int) < n)
  · simp only [go_sem, hj, hn1, Chr (show (rawF 82 || wrF 82) = true from rfl)]
    exact .some ⟨hon, hcj.mono (by omega), L, by omega, ho⟩
  have hj0 : 0 < j := by have := of_decide_eq_true hj; omega
  obtain ⟨N, rfl⟩ := Int.eq_ofNat_of_zero_le (show 0 ≤ n by have := of_decide_eq_true hn1; omega)
  have hN : 1 < N := by have := of_decide_eq_true hn1; omega
  obtain ⟨v, H2, e2, ho2, hc2, y, rfl, hy⟩ := pick_c (base := base) (n := (N : Int)) hcj hb (by omega)
  obtain ⟨v, H3, e3, ho3, hc3, z, rfl, hz⟩ := pick_c (base := base) (n := (N : Int) - 1) hc2 hb (by omega)
  have hw2 := wrapM (n := (N : Int)) (by omega) hn
  have hw4 : IntKind.i64.wrap ((j : Int) - 1) = ((j - 1 : Nat) : Int) := by rw [IntKind.wrap_i64]; omega
  obtain ⟨cb, hcb⟩ := hcj.blk
  have ho3' := ho2.trans ho3
  have fin : ∀ a c : Int, ∃ t' H4, appendA C.P base (H3 ++ [some (67, [gi a, gi c])]) 24 t (.slice (some ⟨H3.length, 0, some 2⟩) 1 1) = some (t', H4) ∧ OwnL H.length H4 67 2 t' (L.length + 1) (lc L ++ [gi a, gi c]) ∧ Onl b H H4 ∧ Cur k0 H4 b (k + 2 + 4 * (x - j) + 2 + 2) := fun a c =>
    Onl.apps (base := base) (t := 24) ((ho.onl hcb (by decide) ho3').keep (.append (Nat.le_refl _) [some (67, [gi a, gi c])])) (new_shows (n := 1) (es := 2) (cs := [gi a, gi c]) rfl) ts46 (by have := hc.len; omega) (by unfold room; omega) (by decide) ((hon.trans ho3').trans (.append b H3 _)) (hc3.app _) hc.len (by decide)
  cases hzy : decide ((y : Int) ≤ (z : Int))
  · obtain ⟨a, c, hp⟩ := pair_c (x := (y : Int)) (y := (z : Int))
    obtain ⟨t', H4, e4, hoL', hon4, hc4⟩ := fin a c
    simp only [go_sem, hj, hn1, e2, hw2, e3, hzy, hp, bs_one2 ts46 (H := H3) (a := gi a) (b := gi c) rfl rfl, eo_append (show notInt C.P 24 = true from rfl), e4, hw4]
    refine ih (j - 1) [t', gi (j - 1 : Nat), gi N, bo true] _ _ (by omega) (by simp only [go_sem]) ⟨t', L ++ [(a, c)], _, _, by simp; omega, rfl, ?_, hon4, hc4.mono (by omega)⟩
    rw [List.length_append, lc_app]; exact hoL'
  · obtain ⟨a, c, hp⟩ := pair_c (x := (y : Int)) (y := ((z + 1 : Nat) : Int))
    obtain ⟨t', H4, e4, hoL', hon4, hc4⟩ := fin a c
    simp only [go_sem, hj, hn1, e2, hw2, e3, hzy]
    rw [wrapN (by omega)]
    simp only [go_sem, hp, bs_one2 ts46 (H := H3) (a := gi a) (b := gi c) rfl rfl, eo_append (show notInt C.P 24 = true from rfl), e4, hw4]
    refine ih (j - 1) [t', gi (j - 1 : Nat), gi N, bo true] _ _ (by omega) (by simp only [go_sem]) ⟨t', L ++ [(a, c)], _, _, by simp; omega, rfl, ?_, hon4, hc4.mono (by omega)⟩
    rw [List.length_append, lc_app]; exact hoL'
end T

open Go Go.Am
namespace T
open Go.Proofs
set_option maxRecDepth 100000
set_option maxHeartbeats 4000000
set_option linter.unusedSimpArgs false
set_option linter.unusedVariables false
variable {base : Nat} {H : Heap}
theorem areFN {n : Nat} (h : areF (n : Int) = true) : 1 ≤ n ∧ n ≤ 10 := by
  simp only [areF, Bool.and_eq_true, decide_eq_true_eq] at h; omega
theorem table_c {n : Nat} (hn : areF (n : Int) = true) : Ok (cal C base 84 [gi n] H) fun v H' => ∃ F t q L, H' = H ++ F ∧ v = .tuple #[t, bo q] ∧ L.length < 100 ∧ OwnL H.length H' 67 2 t L.length (lc L) := by
  refine ok_fn Try.func84 rfl rfl (res := [.tmp 2, .tmp 3]) rfl Try.ntmps84 1001 base _ H ?_
  obtain ⟨h1, h2⟩ := areFN hn
  simp only [go_sem, caFriends_c, hn, show C.wr 84 = false from rfl]
  rw [fin_loopk [10, 11, 12, 15, 16, 17, 18, 19, 13, 14] rfl]
  refine lp_ok [4, 5] (fun j vs H' => ∃ (i : Nat) (t : Value) (L : List (Int × Int)), i + j = 20 ∧ L.length ≤ i ∧ vs = [t, gi i] ∧ OwnL H.length H' 67 2 t L.length (lc L) ∧ Keeps H.length H H') 19 [.slice none 0 0, gi (1 : Nat)] ?_ (by omega) (by simp only [go_sem]; rfl) ⟨1, _, [], by omega, by simp, rfl, .nil _ _ _ _, .refl _ _⟩
  rintro j m vs H' ⟨i, t, L, hij, hLi, rfl, ho, hk⟩ ih
  have hl0 := hk.1
  cases hlt : decide ((i : Int) < (n : Int))
  · simp only [go_sem, hlt]
    rw [fin_loopk [20, 21, 22, 23, 26, 27, 28, 29, 30, 24, 25] rfl]
    refine lp_ok [4, 6] (fun j vs H' => ∃ (i : Nat) (t : Value) (L : List (Int × Int)), i + j = 20 ∧ L.length ≤ i + 20 ∧ vs = [t, gi i] ∧ OwnL H.length H' 67 2 t L.length (lc L) ∧ Keeps H.length H H') 19 [t, gi (1 : Nat)] ?_ (by omega) (by simp only [go_sem]; rfl) ⟨1, t, L, by omega, by omega, rfl, ho, hk⟩
    rintro j m vs H2 ⟨i2, t2, L2, hij2, hLi2, rfl, ho2, hk2⟩ ih2
    have hl2 := hk2.1
    have hw := wrapM (n := (n : Int)) (by omega) (by omega)
    cases hlt2 : decide ((i2 : Int) < (n : Int) - 1)
    · obtain ⟨s', F, old, e, ho'⟩ := ho2.hand (P := C.P) (acc := H) (l := [bo true]) (show tySize C.P 67 = some 2 from rfl) (lcG _)
      simp only [go_sem, hw, hlt2, Chb (show wrF 84 = false from rfl), take_keeps hk2, e]
      exact .some ⟨F, s', true, L2, rfl, rfl, by omega, ho'⟩
    · have hi2 : i2 < 10 := by have := of_decide_eq_true hlt2; omega
      have hwi : IntKind.i64.wrap ((i2 : Int) + 1) = ((i2 + 1 : Nat) : Int) := wrapN (by omega)
      obtain ⟨t', H3, e, ho', hk3⟩ := (ho2.keep (.append (Nat.le_refl _) [some (67, [gi 0, gi i2])])).apps (base := H.length) (t := 24) (new_shows (n := 1) (es := 2) (cs := [gi 0, gi i2]) rfl) ts46 (Nat.le_refl _) (by simp; omega) (by unfold room; omega)
      simp only [go_sem, hw, hlt2, hwi, bs_one2 ts46 (a := gi 0) (b := gi i2) rfl rfl, eo_append (show notInt C.P 24 = true from rfl), e]
      refine ih2 (j - 1) [t', gi (i2 + 1 : Nat)] _ _ (by omega) (by simp only [go_sem]) ⟨i2 + 1, t', L2 ++ [((0 : Int), (i2 : Int))], by omega, by simp; omega, rfl, ?_, (hk2.trans (.append hl2 _)).trans hk3⟩
      rw [List.length_append, lc_app]; exact ho'
  · have hi : i < 10 := by have := of_decide_eq_true hlt; omega
    have hwi : IntKind.i64.wrap ((i : Int) + 1) = ((i + 1 : Nat) : Int) := wrapN (by omega)
    obtain ⟨t', H3, e, ho', hk3⟩ := (ho.keep (.append (Nat.le_refl _) [some (67, [gi 0, gi i])])).apps (base := H.length) (t := 24) (new_shows (n := 1) (es := 2) (cs := [gi 0, gi i]) rfl) ts46 (Nat.le_refl _) (by simp; omega) (by unfold room; omega)
    simp only [go_sem, hlt, hwi, bs_one2 ts46 (a := gi 0) (b := gi i) rfl rfl, eo_append (show notInt C.P 24 = true from rfl), e]
    refine ih (j - 1) [t', gi (i + 1 : Nat)] _ _ (by omega) (by simp only [go_sem]) ⟨i + 1, t', L ++ [((0 : Int), (i : Int))], by omega, by simp; omega, rfl, ?_, (hk.trans (.append hl0 _)).trans hk3⟩
    rw [List.length_append, lc_app]; exact ho'
@[go_sem] theorem bd80_2 {x y : Int} : buildA C.P 67 [(0, gi x), (1, gi y)] = some (.agg #[gi x, gi y]) := rfl
theorem bsC4 {a b c d e f g h : Int} : buildSliceA C.P H 24 4 [(0, .agg #[gi a, gi b]), (1, .agg #[gi c, gi d]), (2, .agg #[gi e, gi f]), (3, .agg #[gi g, gi h])] = some (.slice (some ⟨H.length, 0, some 2⟩) 4 4, H ++ [some (67, [gi a, gi b, gi c, gi d, gi e, gi f, gi g, gi h])]) := rfl
theorem four_c {n : Nat} (hn : areF (n : Int) = true) : Ok (cal C base 85 [gi n] H) fun v H' => ∃ F t q L, H' = H ++ F ∧ v = .tuple #[t, bo q] ∧ L.length < 100 ∧ OwnL H.length H' 67 2 t L.length (lc L) := by
  refine ok_fn Try.func85 rfl rfl (res := [.tmp 2, .tmp 3]) rfl Try.ntmps85 1001 base _ H ?_
  obtain ⟨h1, h2⟩ := areFN hn
  cases hx : (decide ((4 : Int) ≤ (n : Int)) && decide ((n : Int) ≤ 10))
  · simp only [go_sem, in_c, hx, show C.wr 85 = false from rfl, Chb (show wrF 85 = false from rfl)]
    exact .some ⟨[], _, _, [], by simp, rfl, by decide, .nil _ _ _ _⟩
  simp only [go_sem, in_c, hx, show C.wr 85 = false from rfl]
  rw [fin_loopk [10, 11, 12, 15, 16, 17, 18, 19, 13, 14] rfl]
  refine lp_ok [4, 5] (fun j vs H' => ∃ (i : Nat) (t : Value) (L : List (Int × Int)), i + j = 20 ∧ L.length ≤ i ∧ vs = [t, gi i] ∧ OwnL H.length H' 67 2 t L.length (lc L) ∧ Keeps H.length H H') 16 [.slice none 0 0, gi (4 : Nat)] ?_ (by omega) (by simp only [go_sem]; rfl) ⟨4, _, [], by omega, by simp, rfl, .nil _ _ _ _, .refl _ _⟩
  rintro j m vs H' ⟨i, t, L, hij, hLi, rfl, ho, hk⟩ ih
  have hl0 := hk.1
  cases hlt : decide ((i : Int) < (n : Int))
  · obtain ⟨t0, H0, e0, ho0, hk0⟩ := (ho.keep (.append (Nat.le_refl _) [some (67, [gi 0, gi 1, gi 2, gi 3, gi 0, gi 2, gi 1, gi 3])])).apps (base := H.length) (t := 24) (new_shows (n := 4) (es := 2) (cs := [gi 0, gi 1, gi 2, gi 3, gi 0, gi 2, gi 1, gi 3]) rfl) ts46 (Nat.le_refl _) (by simp; omega) (by unfold room; omega)
    have hkk := (hk.trans (.append hl0 _)).trans hk0
    simp only [go_sem, hlt, bsC4, eo_append (show notInt C.P 24 = true from rfl), e0]
    rw [fin_loopk [27, 28, 29, 32, 33, 34, 35, 36, 30, 31] rfl]
    refine lp_ok [4, 6] (fun j vs H' => ∃ (i : Nat) (t : Value) (L : List (Int × Int)), i + j = 20 ∧ L.length ≤ i + 20 ∧ vs = [t, gi i] ∧ OwnL H.length H' 67 2 t L.length (lc L) ∧ Keeps H.length H H') 16 [t0, gi (4 : Nat)] ?_ (by omega) (by simp only [go_sem]; rfl) ⟨4, t0, L ++ [(0, 1), (2, 3), (0, 2), (1, 3)], by omega, by simp; omega, rfl, by rw [List.length_append, lc_app]; exact ho0, hkk⟩
    rintro j m vs H2 ⟨i2, t2, L2, hij2, hLi2, rfl, ho2, hk2⟩ ih2
    have hl2 := hk2.1
    cases hlt2 : decide ((i2 : Int) < (n : Int))
    · obtain ⟨s', F, old, e, ho'⟩ := ho2.hand (P := C.P) (acc := H) (l := [bo true]) (show tySize C.P 67 = some 2 from rfl) (lcG _)
      simp only [go_sem, hlt2, Chb (show wrF 85 = false from rfl), take_keeps hk2, e]
      exact .some ⟨F, s', true, L2, rfl, rfl, by omega, ho'⟩
    · have hi2 : i2 < 10 := by have := of_decide_eq_true hlt2; omega
      have hwi : IntKind.i64.wrap ((i2 : Int) + 1) = ((i2 + 1 : Nat) : Int) := wrapN (by omega)
      obtain ⟨t', H3, e, ho', hk3⟩ := (ho2.keep (.append (Nat.le_refl _) [some (67, [gi 0, gi i2])])).apps (base := H.length) (t := 24) (new_shows (n := 1) (es := 2) (cs := [gi 0, gi i2]) rfl) ts46 (Nat.le_refl _) (by simp; omega) (by unfold room; omega)
      simp only [go_sem, hlt2, hwi, bs_one2 ts46 (a := gi 0) (b := gi i2) rfl rfl, eo_append (show notInt C.P 24 = true from rfl), e]
      refine ih2 (j - 1) [t', gi (i2 + 1 : Nat)] _ _ (by omega) (by simp only [go_sem]) ⟨i2 + 1, t', L2 ++ [((0 : Int), (i2 : Int))], by omega, by simp; omega, rfl, ?_, (hk2.trans (.append hl2 _)).trans hk3⟩
      rw [List.length_append, lc_app]; exact ho'
  · have hi : i < 10 := by have := of_decide_eq_true hlt; omega
    have hwi : IntKind.i64.wrap ((i : Int) + 1) = ((i + 1 : Nat) : Int) := wrapN (by omega)
    obtain ⟨t', H3, e, ho', hk3⟩ := (ho.keep (.append (Nat.le_refl _) [some (67, [gi 0, gi i])])).apps (base := H.length) (t := 24) (new_shows (n := 1) (es := 2) (cs := [gi 0, gi i]) rfl) ts46 (Nat.le_refl _) (by simp; omega) (by unfold room; omega)
    simp only [go_sem, hlt, hwi, bs_one2 ts46 (a := gi 0) (b := gi i) rfl rfl, eo_append (show notInt C.P 24 = true from rfl), e]
    refine ih (j - 1) [t', gi (i + 1 : Nat)] _ _ (by omega) (by simp only [go_sem]) ⟨i + 1, t', L ++ [((0 : Int), (i : Int))], by omega, by simp; omega, rfl, ?_, (hk.trans (.append hl0 _)).trans hk3⟩
    rw [List.length_append, lc_app]; exact ho'
end T

open Go Go.Am
namespace T
open Go.Proofs
set_option maxRecDepth 100000
set_option maxHeartbeats 4000000
set_option linter.unusedSimpArgs false
set_option linter.unusedVariables false
variable {base : Nat} {H : Heap}
theorem onlApp {b el es m : Nat} {H1 H2 : Heap} {s : Value} {cs cb : List Value} (h : OwnL H.length H1 el es s m cs) (hb : hget H1 b = some (80, cb)) (hne : (80 : Nat) ≠ el) (ho : Onl b H1 H2) : OwnL H.length H2 el es s m cs := h.onl hb hne ho
theorem calls_c {k0 b k : Nat} (hc : Cur k0 H b k) (hb : base ≤ b) (hbk : base ≤ k0) (hk : k < 1000) :
    Ok (cal C base 66 [pt b] H) fun v H' => (Onl b H H' ∧ ∃ k', k' < 5000 ∧ Cur k0 H' b k') ∧ ∃ (n : Int) (t : Value) (L : List (Int × Int)), v = .tuple #[gi n, t] ∧ L.length < 200 ∧ OwnL H.length H' 67 2 t L.length (lc L) := by
  refine ok_fn Try.func66 rfl rfl (res := [.tmp 2, .tmp 3]) rfl Try.ntmps66 1001 base _ H ?_
  obtain ⟨v, H1, e1, ho1, hc1, n, rfl⟩ := friends_c (base := base) hc hb (by omega)
  have hl1 := ho1.1
  have hch : ∀ vs H', handBack C 66 H.length vs H' = some (tupA vs, H') := fun vs H' => Chr (show (rawF 66 || wrF 66) = true from rfl)
  cases hn : areF n
  · simp only [go_sem, e1, caFriends_c, hn, bs_one2 ts46 (a := gi 0) (b := gi 1) rfl rfl, hch, show C.wr 66 = true from rfl]
    exact .some ⟨⟨ho1.trans (.append b H1 _), _, by omega, hc1.app _⟩, n, _, [((0 : Int), (1 : Int))], rfl, by decide, rfl, .inr ⟨H1.length, hl1, rfl, hget_0⟩⟩
  obtain ⟨N, rfl⟩ := Int.eq_ofNat_of_zero_le (show 0 ≤ n by simp only [areF, Bool.and_eq_true, decide_eq_true_eq] at hn; omega)
  obtain ⟨hN1, hN2⟩ := areFN hn
  obtain ⟨v, H2, e2, ho2, hc2, z, rfl, hz⟩ := pick_c (base := base) (n := 14) hc1 hb (by omega)
  have on2 := ho1.trans ho2
  have hl2 := on2.1
  obtain ⟨cb2, hcb2⟩ := hc2.blk
  simp only [go_sem, e1, caFriends_c, hn, e2, show C.wr 66 = true from rfl]
  obtain ⟨t5, H5, e5, ho5, hc5, L5, hL5, ht5⟩ := sureC_c (base := base) (n := (N : Int)) (most := 10) hc2 hb hbk (by omega) (by omega) (by omega)
  have e5 : cal C base 82 [pt b, gi N, gi 10] H2 = some (t5, H5) := e5
  have end5 : (Onl b H H5 ∧ ∃ k', k' < 5000 ∧ Cur k0 H5 b k') ∧ ∃ (n : Int) (t : Value) (L : List (Int × Int)), (Value.tuple #[gi N, t5] : Value) = .tuple #[gi n, t] ∧ L.length < 200 ∧ OwnL H.length H5 67 2 t L.length (lc L) := ⟨⟨on2.trans ho5, _, by omega, hc5⟩, N, t5, L5, rfl, by omega, ht5.low hl2⟩
  cases z0 : ((z : Int) == 0)
  case true =>
    obtain ⟨t3, H3, e3, ho3, hc3, L, hL, ht⟩ := sureC_c (base := base) (n := (N : Int)) (most := 4) hc2 hb hbk (by omega) (by omega) (by omega)
    have e3 : cal C base 82 [pt b, gi N, gi 4] H2 = some (t3, H3) := e3
    obtain ⟨v, H4, e4, ho4, hc4, y, rfl⟩ := amongN_c (base := base) [-1, 0, 1] hc3 hb (by omega) (by decide)
    obtain ⟨v, H6, e6, ho6, hc6, y2, rfl⟩ := amongN_c (base := base) [0, 1, N, 4611686018427387904] hc4 hb (by omega) (by simp)
    simp only [go_sem] at e4 e6
    obtain ⟨cb3, hcb3⟩ := hc3.blk
    have on6 := ((on2.trans ho3).trans ho4).trans ho6
    have ht6 := ((ht.low hl2).onl hcb3 (by decide) (ho4.trans ho6)).keep (.append (Nat.le_refl _) [some (67, [gi y, gi y2])])
    obtain ⟨t', H7, e7, ht7, on7, hc7⟩ := Onl.apps (base := base) (t := 24) ht6 (new_shows (n := 1) (es := 2) (cs := [gi y, gi y2]) rfl) ts46 (by have := hc.len; omega) (by unfold room; omega) (by decide) (on6.trans (.append b H6 _)) (hc6.app _) hc.len (by decide)
    simp only [go_sem, z0, e3, bsI3, bsI4, e4, e6, bs_one2 ts46 (a := gi y) (b := gi y2) rfl rfl, eo_append (show notInt C.P 24 = true from rfl), e7, hch]
    exact .some ⟨⟨on7, _, by omega, hc7⟩, _, t', L ++ [(y, y2)], rfl, by simp; omega, by rw [List.length_append, lc_app]; exact ht7⟩
  case false =>
  cases z1 : ((z : Int) == 1)
  case true =>
    obtain ⟨v, H3, e3, F, t', q, L', rfl, rfl, hL', ht'⟩ := table_c (base := base) (n := N) (H := H2) hn
    simp only [go_sem, z0, z1, e3, hch]
    exact .some ⟨⟨on2.trans (.append b H2 F), _, by omega, hc2.app F⟩, _, t', L', rfl, by omega, ht'.low hl2⟩
  case false =>
  have four : ∃ t' F L', ∃ q, cal C base 85 [gi N] H2 = some (.tuple #[t', bo q], H2 ++ F) ∧ ((Onl b H (H2 ++ F) ∧ ∃ k', k' < 5000 ∧ Cur k0 (H2 ++ F) b k') ∧ ∃ (n : Int) (t : Value) (L : List (Int × Int)), (Value.tuple #[gi N, t'] : Value) = .tuple #[gi n, t] ∧ L.length < 200 ∧ OwnL H.length (H2 ++ F) 67 2 t L.length (lc L')) ∧ L'.length < 200 ∧ OwnL H.length (H2 ++ F) 67 2 t' L'.length (lc L') := by
    obtain ⟨v, H3, e3, F, t', q, L', rfl, rfl, hL', ht'⟩ := four_c (base := base) (n := N) (H := H2) hn
    exact ⟨t', F, L', q, e3, ⟨⟨on2.trans (.append b H2 F), _, by omega, hc2.app F⟩, _, t', L', rfl, by omega, ht'.low hl2⟩, by omega, ht'.low hl2⟩
  obtain ⟨t', F, L', q, e3, hend, hL', ht'⟩ := four
  cases z2 : ((z : Int) == 2) <;> cases z3 : ((z : Int) == 3) <;> cases h4 : decide ((4 : Int) ≤ (N : Int))
  all_goals first
    | (simp only [go_sem, z0, z1, z2, z3, h4, e3, hch]
       exact .some ⟨hend.1, _, t', L', rfl, hL', ht'⟩)
    | (simp only [go_sem, z0, z1, z2, z3, h4, e5, hch]
       exact .some end5)
/-- What bytes show. -/
def Bytes (H : Heap) (s : Value) : Prop := ∃ (a : Option Addr) (m c : Nat), s = .slice a m c ∧ (m = 0 ∨ ∃ cs, Shows H 1 s m cs ∧ ∀ i, i < m → ∃ x : Nat, x < 256 ∧ cs[i]? = some (.int .u8 x))
theorem Bytes.keep {H' : Heap} {s : Value} (h : Bytes H s) (hk : Keeps H.length H H') : Bytes H' s := by
  obtain ⟨a, m, c, h1, h2⟩ := h
  exact ⟨a, m, c, h1, h2.imp id fun ⟨cs, h3, h4⟩ => ⟨cs, h3.keep hk, h4⟩⟩
theorem Bytes.add {s : Value} (h : Bytes H s) (F : Heap) : Bytes (H ++ F) s := h.keep (.append (Nat.le_refl _) F)
@[go_sem] theorem bd76 {a : Option Addr} {m c : Nat} : buildA C.P 80 [(0, .slice a m c)] = some (.agg #[.slice a m c, gi 0, .int .u64 0]) := rfl
theorem Cur.new {a : Option Addr} {m c : Nat} (h : Bytes H (.slice a m c)) : Cur H.length (H ++ [some (80, [.slice a m c, gi 0, .int .u64 0])]) H.length 0 := by
  obtain ⟨a', m', c', e, h1⟩ := h
  cases e
  refine ⟨Nat.le_refl _, by simp, a, m, c, 0, 0, hget_0, Nat.le_refl _, fun H' hk i hi => ?_⟩
  rcases h1 with h0 | ⟨cs, h1, h2⟩
  · omega
  have hk' : Keeps H.length H H' := (Keeps.append (Nat.le_refl _) _).trans hk
  obtain ⟨b, o, T, cs0, k1, k2, _, _, k3⟩ := Shows.at (P := C.P) (t := 22) (el := 5) (K := .i64) (h1.keep hk') hi rfl rfl
  obtain ⟨x, hx, hc⟩ := h2 i hi
  refine ⟨b, o, T, cs0, x, k1, k2, ?_, hx⟩
  have := k3 0 (by decide)
  rw [Nat.add_zero, Nat.mul_one, Nat.add_zero] at this
  exact this.trans hc
theorem hbx {a : Option Addr} {m c : Nat} (t : TypeId) : box1 H t (.agg #[.slice a m c, gi 0, .int .u64 0]) = some (.pointer (some ⟨H.length, 0, none⟩), H ++ [some (t, [.slice a m c, gi 0, .int .u64 0])]) := box_a rfl
theorem draw36_c {s : Value} (h : Bytes H s) : Ok (cal C base 36 [s] H) fun v H' => ∃ F n t L, H' = H ++ F ∧ v = .tuple #[gi n, t] ∧ L.length < 200 ∧ OwnL H.length H' 67 2 t L.length (lc L) := by
  refine ok_fn Try.func36 rfl rfl (res := [.tmp 2, .tmp 3]) rfl Try.ntmps36 1 base _ H ?_
  obtain ⟨a, m, c, rfl, _⟩ := id h
  have hc := Cur.new h
  obtain ⟨v, H1, e1, ⟨ho1, _⟩, n, t, L, rfl, hL, ht⟩ := calls_c (base := H.length) hc (Nat.le_refl _) (Nat.le_refl _) (by omega)
  have hk : Keeps H.length H H1 := (Keeps.append (Nat.le_refl _) _).trans (ho1.keeps (Nat.le_refl _) (by simp))
  obtain ⟨s', F, old, e2, ho'⟩ := (ht.low (k' := H.length) (by simp)).hand (P := C.P) (acc := H) (l := []) (show tySize C.P 67 = some 2 from rfl) (lcG _)
  simp only [go_sem, hbx, e1, show C.wr 36 = false from rfl, Chb (show wrF 36 = false from rfl), take_keeps hk, e2]
  exact .some ⟨F, n, s', L, rfl, rfl, hL, ho'⟩
theorem draw_c {s : Value} (h : Bytes H s) : Ok (cal C base 5 [s] H) fun v H' => ∃ F n t L, H' = H ++ F ∧ v = .tuple #[gi n, t] ∧ L.length < 200 ∧ OwnL H.length H' 67 2 t L.length (lc L) := by
  refine ok_fn Try.func5 rfl rfl (res := [.tmp 2, .tmp 3]) rfl Try.ntmps5 1 base _ H ?_
  obtain ⟨v, H1, e1, F, n, t, L, rfl, rfl, hL, ht⟩ := draw36_c (base := H.length) h
  obtain ⟨s', F', old, e2, ho'⟩ := ht.hand (P := C.P) (acc := H) (l := []) (show tySize C.P 67 = some 2 from rfl) (lcG _)
  simp only [go_sem, e1, show C.wr 5 = false from rfl, Chb (show wrF 5 = false from rfl), e2]
  exact .some ⟨F', n, s', L, rfl, rfl, hL, ho'⟩
end T

open Go Go.Am
namespace T
open Go.Proofs
set_option maxRecDepth 100000
set_option maxHeartbeats 4000000
set_option linter.unusedSimpArgs false
set_option linter.unusedVariables false
variable {base : Nat} {H : Heap}
theorem draw30_c {s : Value} (h : Bytes H s) : Ok (cal C base 30 [s] H) fun v H' => ∃ F n t L x, H' = H ++ F ∧ v = .tuple #[gi n, t, gi x] ∧ L.length < 200 ∧ OwnL H.length H' 67 2 t L.length (lc L) := by
  refine ok_fn Try.func30 rfl rfl (res := [.tmp 2, .tmp 3, .tmp 4]) rfl Try.ntmps30 1 base _ H ?_
  obtain ⟨a, m, c, rfl, _⟩ := id h
  have hc := Cur.new h
  obtain ⟨v, H1, e1, ⟨ho1, k1, hk1, hc1⟩, n, t, L, rfl, hL, ht⟩ := calls_c (base := H.length) hc (Nat.le_refl _) (Nat.le_refl _) (by omega)
  obtain ⟨v, H2, e2, ho2, hc2, x, rfl, _⟩ := pick_c (base := H.length) (n := 8) hc1 (Nat.le_refl _) (by omega)
  obtain ⟨v, H3, e3, ho3, hc3, y, rfl, _⟩ := pick_c (base := H.length) (n := 8) hc2 (Nat.le_refl _) (by omega)
  have ht3 := (ht.low (k' := H.length) (by simp))
  obtain ⟨cb1, hcb1⟩ := hc1.blk
  have ht3 := ht3.onl hcb1 (by decide) (ho2.trans ho3)
  have hk : Keeps H.length H H3 := (Keeps.append (Nat.le_refl _) _).trans (((ho1.trans ho2).trans ho3).keeps (Nat.le_refl _) (by simp))
  obtain ⟨s', F, old, e4, ho'⟩ := ht3.hand (P := C.P) (acc := H) (l := [gi (IntKind.i64.wrap ((x : Int) - IntKind.i64.wrap ((y : Int).tdiv 7)))]) (show tySize C.P 67 = some 2 from rfl) (lcG _)
  simp only [go_sem, hbx, e1, e2, e3, b_quo (show (7 : Int) ≠ 0 by decide), show C.wr 30 = false from rfl, Chb (show wrF 30 = false from rfl), take_keeps hk, e4]
  exact .some ⟨F, n, s', L, _, rfl, rfl, hL, ho'⟩
theorem draw34_c {s : Value} (h : Bytes H s) : Ok (cal C base 34 [s] H) fun v H' => ∃ F n t L x, H' = H ++ F ∧ v = .tuple #[gi n, t, gi x] ∧ L.length < 200 ∧ OwnL H.length H' 67 2 t L.length (lc L) := by
  refine ok_fn Try.func34 rfl rfl (res := [.tmp 2, .tmp 3, .tmp 4]) rfl Try.ntmps34 1 base _ H ?_
  obtain ⟨a, m, c, rfl, _⟩ := id h
  have hc := Cur.new h
  obtain ⟨v, H1, e1, ⟨ho1, k1, hk1, hc1⟩, n, t, L, rfl, hL, ht⟩ := calls_c (base := H.length) hc (Nat.le_refl _) (Nat.le_refl _) (by omega)
  obtain ⟨v, H2, e2, ho2, hc2, x, rfl, _⟩ := pick_c (base := H.length) (n := IntKind.i64.wrap ((L.length : Int) + 2)) hc1 (Nat.le_refl _) (by omega)
  have ht3 := (ht.low (k' := H.length) (by simp))
  obtain ⟨cb1, hcb1⟩ := hc1.blk
  have ht3 := ht3.onl hcb1 (by decide) ho2
  have hk : Keeps H.length H H2 := (Keeps.append (Nat.le_refl _) _).trans ((ho1.trans ho2).keeps (Nat.le_refl _) (by simp))
  obtain ⟨s', F, old, e4, ho'⟩ := ht3.hand (P := C.P) (acc := H) (l := [gi (IntKind.i64.wrap ((x : Int) - 1))]) (show tySize C.P 67 = some 2 from rfl) (lcG _)
  obtain ⟨at', ct, rfl⟩ := ht.shows.sl
  simp only [go_sem, hbx, e1, e2, show C.wr 34 = false from rfl, Chb (show wrF 34 = false from rfl), take_keeps hk, e4]
  exact .some ⟨F, n, s', L, _, rfl, rfl, hL, ho'⟩
end T

