/- Plain words on options, rounds, numbers and lists for the pure statements. No program is named here. -/
import Derived.RowKit
import Derived.Laws.BitsLemmas
import Derived.Test.YtjkjdlpmbpgjgaaWWords
import Derived.Test.YtjkjdlpmbpgjgaaWMore
namespace Go.Proofs.Ytjkjdlpmbpgjgaa.Gp
open Go.RowKit Go.Proofs.YtjkjdlpmbpgjgaaW.PrintWords
set_option linter.unusedVariables false

/-- It is told. -/
def Tot {α : Type} (o : Option α) : Prop := ∃ r, o = some r
theorem Tot.some {α : Type} (x : α) : Tot (some x) := ⟨x, rfl⟩
theorem Tot.ite {α : Type} {c : Prop} [Decidable c] {a b : Option α} (ha : Tot a) (hb : Tot b) : Tot (if c then a else b) := by
  by_cases h : c
  · rw [if_pos h]; exact ha
  · rw [if_neg h]; exact hb
theorem Tot.bind {α β : Type} {o : Option α} {f : α → Option β} (ho : Tot o) (hf : ∀ x, Tot (f x)) : Tot (o.bind f) := by
  obtain ⟨r, rfl⟩ := ho
  exact hf r

/-! ### from some number of rounds on -/
theorem ev_pos {ρ : Type} {c : Prop} [Decidable c] {f g : Nat → Option ρ} {r : ρ} (h : c) (k : Ev f r) : Ev (fun n => if c then f n else g n) r := k.congr fun n => if_pos h
theorem ev_neg {ρ : Type} {c : Prop} [Decidable c] {f g : Nat → Option ρ} {r : ρ} (h : ¬ c) (k : Ev g r) : Ev (fun n => if c then f n else g n) r := k.congr fun n => if_neg h
theorem ev_if {ρ : Type} {c : Prop} [Decidable c] {f g : Nat → Option ρ} {r : ρ} (hp : c → Ev f r) (hn : ¬ c → Ev g r) : Ev (fun n => if c then f n else g n) r := by
  by_cases h : c
  · exact ev_pos h (hp h)
  · exact ev_neg h (hn h)
theorem ev_eq {ρ : Type} {f : Nat → Option ρ} {r r' : ρ} (h : r = r') (k : Ev f r) : Ev f r' := h ▸ k
theorem ev_some {ρ : Type} {o : Option ρ} {r : ρ} (h : o = some r) : Ev (fun _ => o) r := ⟨0, fun _ _ => h⟩
/-- a call that has no rounds -/
theorem ev_call {α β : Type} {o : Option α} {f : Nat → α → Option β} {a : α} {r : β} (h : o = some a) (k : Ev (fun n => f n a) r) : Ev (fun n => o.bind (f n)) r := by
  subst h
  exact k
/-- two ways to one value -/
theorem ev_uniq {ρ : Type} {f : Nat → Option ρ} {r r' : ρ} (h : Ev f r) (k : Ev f r') : r = r' := by
  obtain ⟨K, h⟩ := h
  obtain ⟨K', k⟩ := k
  exact Option.some.inj ((h (max K K') (by omega)).symm.trans (k (max K K') (by omega)))
/-- A loop that counts: from each index on it comes to what R says. -/
theorem ev_down {ρ : Type} (n : Nat) (g : Nat → Nat → Option ρ) (R : Nat → ρ) (hend : Ev (g n) (R n)) (hstep : ∀ i, i < n → Ev (g (i + 1)) (R (i + 1)) → Ev (g i) (R i)) : ∀ i, i ≤ n → Ev (g i) (R i) := by
  intro i hi
  obtain ⟨d, hd⟩ : ∃ d, n - i = d := ⟨_, rfl⟩
  induction d generalizing i with
  | zero => obtain rfl : i = n := by omega
            exact hend
  | succ d ih => exact hstep i (by omega) (ih (i + 1) (by omega) (by omega))

/-! ### numbers -/
theorem w64 {n : Int} (h0 : -9223372036854775808 ≤ n) (h1 : n ≤ 9223372036854775807) : wrap64 n = n := by unfold wrap64; omega

theorem wraps_i64 (n : Int) (h0 : 0 ≤ n) (h1 : n < 2 ^ 63) : IntKind.i64.wrap n = n := by rw [IntKind.wrap_i64]; omega
theorem and1 (x : Int) (h0 : 0 ≤ x) (h1 : x < 2 ^ 63) : Go.bits .and .i64 x 1 = x % 2 := bits_mask .i64 63 (by decide) wraps_i64 1 (by decide) x h0 h1
theorem shr_nat (x j : Nat) (hj : j ≤ 64) : shr .i64 (x : Int) (j : Int) = ((x / 2 ^ j : Nat) : Int) := by
  unfold shr
  rw [Int.toNat_natCast, Nat.min_eq_left (by have : IntKind.i64.bits = 64 := rfl; omega)]
  simp
theorem shl_nat (j : Nat) (hj : j ≤ 62) : shl .i64 1 (j : Int) = ((2 ^ j : Nat) : Int) := by
  unfold shl
  rw [Int.toNat_natCast, Nat.min_eq_left (by have : IntKind.i64.bits = 64 := rfl; omega), Int.one_mul, wraps_i64 _ (Int.le_of_lt (Int.pow_pos (by decide))) (Int.pow_lt_pow_of_lt (by decide) (by omega))]
  simp
theorem bit_at (n j : Nat) (h : n < 2 ^ 62) (hj : j ≤ 64) : Go.bits .and .i64 (shr .i64 (n : Int) (j : Int)) 1 = ((n / 2 ^ j % 2 : Nat) : Int) := by
  have h2 : n / 2 ^ j ≤ n := Nat.div_le_self _ _
  rw [shr_nat n j hj, and1 _ (Int.natCast_nonneg _) (by omega)]
  simp

theorem size0 : (⟨#[]⟩ : ByteArray).size = 0 := rfl
theorem size1 (x : UInt8) : (⟨#[x]⟩ : ByteArray).size = 1 := rfl
/-! ### lists -/
theorem getD_at {α : Type} (l : List α) (i : Nat) (h : i < l.length) (z : α) : l.getD i z = l[i] := by
  rw [List.getD_eq_getElem?_getD, List.getElem?_eq_getElem h]; rfl
theorem fill_set {α β : Type} (l : List α) (z : β) (f : α → β) (i : Nat) (h : i < l.length) :
    ((l.take i).map f ++ List.replicate (l.length - i) z).set i (f l[i]) = (l.take (i + 1)).map f ++ List.replicate (l.length - (i + 1)) z := by
  have h1 : ((l.take i).map f).length = i := by simp; omega
  obtain ⟨m, hm⟩ : ∃ m, l.length - i = m + 1 := ⟨l.length - i - 1, by omega⟩
  rw [hm, show l.length - (i + 1) = m by omega, List.replicate_succ, List.set_append_right _ _ (by omega), h1, Nat.sub_self, List.set_cons_zero, List.take_succ_eq_append_getElem h, List.map_append]
  simp
/-- A loop that fills a row. -/
theorem ev_fill {α β : Type} (l : List α) (z : β) (f : α → β) (L : Nat → List β → Int → Option (List β))
    (hstep : ∀ k st (i : Nat) (h : i < l.length), st.length = l.length → L (k + 1) st (i : Int) = L k (st.set i (f l[i])) ((i + 1 : Nat) : Int))
    (hend : ∀ k st, st.length = l.length → L (k + 1) st (l.length : Int) = some st) : Ev (fun k => L k (List.replicate l.length z) 0) (l.map f) := by
  have h := ev_down l.length (fun i k => L k ((l.take i).map f ++ List.replicate (l.length - i) z) (i : Int)) (fun _ => l.map f)
    (Ev.step (f := fun _ => some (l.map f)) (fun k => by rw [hend k _ (by simp)]; simp) (Ev.now _))
    (fun i hi ih => Ev.step (f := fun k => L k ((l.take (i + 1)).map f ++ List.replicate (l.length - (i + 1)) z) ((i + 1 : Nat) : Int)) (fun k => by rw [hstep k _ i hi (by simp; omega), fill_set l z f i hi]) ih)
    0 (Nat.zero_le _)
  simpa using h
/-- A loop that holds two rows that are one against each other. -/
theorem ev_same {α : Type} (l : List α) (L : Nat → Int → Option Bool) (hstep : ∀ k (i : Nat) (h : i < l.length), L (k + 1) (i : Int) = L k ((i + 1 : Nat) : Int)) (hend : ∀ k, L (k + 1) (l.length : Int) = some true) : Ev (fun k => L k 0) true :=
  ev_down l.length (fun i k => L k (i : Int)) (fun _ => true) (Ev.step (f := fun _ => some true) hend (Ev.now _)) (fun i hi ih => Ev.step (f := fun k => L k ((i + 1 : Nat) : Int)) (fun k => hstep k i hi) ih) 0 (Nat.zero_le _)
/-- A loop that puts marks into a row: what it leaves has the same length. -/
theorem ev_mark {α : Type} (n : Nat) (c : Int) (L : Nat → List α → Int → Int → Option (Int × List α)) (a : Int)
    (hstep : ∀ (st : List α) (i : Nat), i < n → st.length = n → ∃ st' : List α, st'.length = n ∧ ∀ k, L (k + 1) st (a + c * i) (i : Int) = L k st' (a + c * (i + 1 : Nat)) ((i + 1 : Nat) : Int))
    (hend : ∀ k st, st.length = n → L (k + 1) st (a + c * n) (n : Int) = some (a + c * n, st)) (l : List α) (hl : l.length = n) : ∃ l', l'.length = n ∧ Ev (fun k => L k l a 0) (a + c * n, l') := by
  have key : ∀ d i, n - i = d → i ≤ n → ∀ st : List α, st.length = n → ∃ l', l'.length = n ∧ Ev (fun k => L k st (a + c * i) (i : Int)) (a + c * n, l') := by
    intro d
    induction d with
    | zero =>
      intro i hd hi st hst
      obtain rfl : i = n := by omega
      exact ⟨st, hst, Ev.step (f := fun _ => some _) (fun k => hend k st hst) (Ev.now _)⟩
    | succ d ih =>
      intro i hd hi st hst
      obtain ⟨st', hst', hk⟩ := hstep st i (by omega) hst
      obtain ⟨l', hl', he⟩ := ih (i + 1) (by omega) (by omega) st' hst'
      exact ⟨l', hl', Ev.step (f := fun k => L k st' (a + c * (i + 1 : Nat)) ((i + 1 : Nat) : Int)) hk he⟩
  obtain ⟨l', hl', he⟩ := key n 0 rfl (Nat.zero_le _) l hl
  exact ⟨l', hl', by simpa using he⟩
theorem tab_set {β : Type} (n : Nat) (m : Nat → β) (st : List β) (hs : st.length = n) (i : Nat) (h : i < n) (hp : st.take i = (List.range i).map m) : (st.set i (m i)).take (i + 1) = (List.range (i + 1)).map m := by
  rw [List.range_succ, List.map_append, ← hp, List.take_succ_eq_append_getElem (by simp; omega), List.take_set_of_le (Nat.le_refl _)]
  simp
/-- A loop that puts a mark at each index. -/
theorem ev_tab {β : Type} (n : Nat) (m : Nat → β) (L : Nat → List β → Int → Int → Option (Int × List β)) (a : Int)
    (hstep : ∀ (st : List β) (i : Nat) r, i < n → st.length = n → Ev (fun k => L k (st.set i (m i)) (a + (i + 1 : Nat)) ((i + 1 : Nat) : Int)) r → Ev (fun k => L k st (a + i) (i : Int)) r)
    (hend : ∀ k st, st.length = n → L (k + 1) st (a + n) (n : Int) = some (a + n, st)) (l : List β) (hl : l.length = n) : Ev (fun k => L k l a 0) (a + n, (List.range n).map m) := by
  have key : ∀ d i, n - i = d → i ≤ n → ∀ st : List β, st.length = n → st.take i = (List.range i).map m → Ev (fun k => L k st (a + i) (i : Int)) (a + n, (List.range n).map m) := by
    intro d
    induction d with
    | zero =>
      intro i hd hi st hst hp
      obtain rfl : i = n := by omega
      rw [List.take_of_length_le (by omega)] at hp
      exact Ev.step (f := fun _ => some _) (fun k => by rw [hend k st hst, hp]) (Ev.now _)
    | succ d ih =>
      intro i hd hi st hst hp
      exact hstep st i _ (by omega) hst (ih (i + 1) (by omega) (by omega) _ (by simpa using hst) (tab_set n m st hst i (by omega) hp))
  simpa using key n 0 rfl (Nat.zero_le _) l hl (by simp)
end Go.Proofs.Ytjkjdlpmbpgjgaa.Gp
