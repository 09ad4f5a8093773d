/- slices.Backward and BackLetters in the model itself. No conditions. -/
import Derived.Test.YtbpeknbhdphilaaB0
import Derived.RangeFuncBox
import Derived.RangeFuncLeaves
import Derived.Shelf.Abstract
import Derived.WalkKit
import Derived.OwnWalkIn
import Derived.TacticsInMore
import Derived.LoopNIn
import Derived.LoopIn
import Derived.RangeFuncNested
namespace T
open Go Go.Proofs Go.RowKit Go.Shelf
attribute [local go_sem] Oper.semAt_some
def upto {α : Type} (f : Nat → α) (k : Nat) : List α := (List.range k).map f
theorem upto_succ {α : Type} (f : Nat → α) (k : Nat) : upto f (k + 1) = upto f k ++ [f k] := by simp [upto, List.range_succ]
theorem upto_length {α : Type} (f : Nat → α) (k : Nat) : (upto f k).length = k := by simp [upto]
/-- The j-th pair from the end. -/
def bkf (M : List (Int × Int)) (j : Nat) : Nat × (Int × Int) := (M.length - 1 - j, M[M.length - 1 - j]?.getD (0, 0))
/-- What lay below n₀, and block Bs, lies as it lay. -/
def KpB (n₀ Bs : Nat) (A B : World) : Prop := Below n₀ A B ∧ B.heap[Bs]? = A.heap[Bs]?
theorem KpB.trans {n₀ Bs : Nat} {A B C : World} (h : KpB n₀ Bs A B) (k : KpB n₀ Bs B C) : KpB n₀ Bs A C := ⟨h.1.trans k.1, k.2.trans h.2⟩
theorem KpB.refl (n₀ Bs : Nat) (A : World) : KpB n₀ Bs A A := ⟨Below.refl _ _, rfl⟩
theorem KpB.b {n₀ Bs : Nat} {w : World} (hn : n₀ ≤ w.heap.size) (hB : Bs < w.heap.size) (W : World) (l : Nat) (o o' : Obj) (hl : w.heap.size ≤ l) (h : W.heap[l]? = some o) (h1 : o.isCells = false) (h2 : o.isWalk = false) : KpB n₀ Bs W (W.putObj l o') := ⟨belowK_b hn W l o o' hl h h1 h2, World.putObj_heap_other (by omega)⟩
set_option maxRecDepth 100000 in
set_option maxHeartbeats 2000000 in
theorem back66_in (F : Fence) (n : Nat) (h66 : F.fn 66) (hro : F.round = none) (hn : 1 ≤ n) (l Bs n₀ b off cap : Nat) (M : List (Int × Int)) (hM : M.length ≤ 1000) (hb : b < n₀) (J Jx : List (Nat × (Int × Int)) → World → Prop)
    (hY : ∀ pre x W, J pre W → pre.length < M.length → YieldAt F (n - 1) Try.prog l #[.int .i64 (x.1 : Int), .agg #[.int .i64 x.2.1, .int .i64 x.2.2]] W fun e W' =>
      (e = .returned (.bool true) ∧ J (pre ++ [x]) W' ∧ KpB n₀ Bs W W') ∨ (e = .returned (.bool false) ∧ Jx (pre ++ [x]) W'))
    (W : World) (hBs : W.cell? ⟨Bs, 0, none⟩ = some (.slice (some ⟨b, off, none⟩) M.length cap))
    (hc : ∀ j, j < M.length → W.cell? ⟨b, off + j * 2, none⟩ = some (.int .i64 (M[j]?.getD (0, 0)).1) ∧ W.cell? ⟨b, off + j * 2 + 1, none⟩ = some (.int .i64 (M[j]?.getD (0, 0)).2)) (h0 : J [] W) :
    CallsIn F n Try.prog 66 #[.func (.yield l) #[] #[], .pointer (some ⟨Bs, 0, none⟩)] W fun e W' => (∃ v, e = .returned v) ∧
      ((∃ ys, ys = upto (bkf M) M.length ∧ J ys W') ∨ (∃ pre, (∃ k, k ≤ M.length ∧ pre = upto (bkf M) k) ∧ Jx pre W')) := by
  refine callsIn_of_wp Try.func66 rfl h66 ?_ hro
  simp only [Try.ntmps66, List.size_toArray, List.length_cons, List.length_nil, Nat.reduceAdd, Nat.reduceSub, Array.replicate_succ, Array.replicate_zero, List.push_toArray, List.append_toArray, List.nil_append, List.cons_append]
  gi_wp2
  gi_loopw [3] (fun i wr => ∃ k : Nat, k ≤ M.length ∧ i = .int .i64 ((k : Int) - 1) ∧ J (upto (bkf M) (M.length - k)) wr ∧ KpB n₀ Bs W wr)
    (fun i _ => (intOf i + 1).toNat)
  case atStart => exact ⟨M.length, Nat.le_refl _, by simp, by rw [Nat.sub_self]; exact h0, KpB.refl _ _ _⟩
  case round =>
    obtain ⟨k, hk, rfl, hJs, hnK⟩ := hrel
    have hnx := hnK.1
    have hbx : wr.cell? ⟨Bs, 0, none⟩ = some (.slice (some ⟨b, off, none⟩) M.length cap) := (World.cell?_of_block hnK.2).trans hBs
    by_cases hlt : 0 < k
    · obtain ⟨k, rfl⟩ : ∃ k', k = k' + 1 := ⟨k - 1, by omega⟩
      obtain ⟨fn, tmps, assign, body, hy, hR⟩ := hY _ (bkf M (M.length - (k + 1))) wr hJs (by rw [upto_length]; omega)
      have e1 : M.length - 1 - (M.length - (k + 1)) = k := by omega
      simp only [bkf, e1] at hy
      obtain ⟨hc0, hc1⟩ := hc k (by omega)
      have hcx0 := (hnx.cell (p := ⟨b, off + k * 2, none⟩) hb).trans hc0
      have hcx1 := (hnx.cell (p := ⟨b, off + k * 2 + 1, none⟩) hb).trans hc1
      have ek : ((k + 1 : Nat) : Int) - 1 = (k : Int) := by omega
      rw [ek]
      gi_wp2
      refine hR.mono ?_
      have e2 : M.length - (k + 1) + 1 = M.length - k := by omega
      rw [← upto_succ, e2]
      rintro e W3 (⟨rfl, hJ3, hk3⟩ | ⟨rfl, hJx3⟩)
      · gi_wp2
        go_roundw
        case rel => exact ⟨k, by omega, by simp, hJ3, hnK.trans hk3⟩
        case measure => simp [intOf]; try omega
      · gi_wp2
        refine bodyPost_ret (results_none rfl _ _ _) rfl ?_
        exact ⟨⟨_, rfl⟩, .inr ⟨_, ⟨M.length - k, by omega, rfl⟩, hJx3⟩⟩
    · obtain rfl : k = 0 := by omega
      gi_wp2
      go_end0
      exact ⟨⟨_, rfl⟩, .inl ⟨_, rfl, hJs⟩⟩
set_option maxRecDepth 100000 in
set_option maxHeartbeats 1000000 in
theorem back66_nil_in (F : Fence) (n : Nat) (h66 : F.fn 66) (hro : F.round = none) (l Bs : Nat) (a : Option Addr) (J : List (Nat × (Int × Int)) → World → Prop) (W : World) (hBs : W.cell? ⟨Bs, 0, none⟩ = some (.slice a 0 0)) (h0 : J [] W) :
    CallsIn F n Try.prog 66 #[.func (.yield l) #[] #[], .pointer (some ⟨Bs, 0, none⟩)] W fun e W' => (∃ v, e = .returned v) ∧ J [] W' := by
  refine callsIn_of_wp Try.func66 rfl h66 ?_ hro
  simp only [Try.ntmps66, List.size_toArray, List.length_cons, List.length_nil, Nat.reduceAdd, Nat.reduceSub, Array.replicate_succ, Array.replicate_zero, List.push_toArray, List.append_toArray, List.nil_append, List.cons_append]
  gi_wp2
  gi_loopw [3] (fun i wr => i = .int .i64 (-1) ∧ J [] wr) (fun _ _ => 0)
  case atStart => exact ⟨rfl, h0⟩
  case round =>
    obtain ⟨rfl, hJs⟩ := hrel
    gi_wp2
    go_end0
    exact ⟨⟨_, rfl⟩, hJs⟩
set_option maxHeartbeats 1000000 in
theorem back47_in (F : Fence) (n : Nat) (h47 : F.fn 47) (hro : F.round = none) (a : Option Addr) (len cap : Nat) (w : World) :
    CallsIn F n Try.prog 47 #[.slice a len cap] w fun e w' => e = .returned (.func (.func 66) #[] #[.pointer (some ⟨w.heap.size, 0, none⟩)]) ∧ w' = w.alloc (.cells #[.slice a len cap] 24) := by
  refine callsIn_of_wp Try.func47 rfl h47 ?_ hro
  simp only [Try.ntmps47, List.size_toArray, List.length_cons, List.length_nil, Nat.reduceAdd, Nat.reduceSub, Array.replicate_succ, Array.replicate_zero, List.push_toArray, List.append_toArray, List.nil_append, List.cons_append]
  gi_wp2
  go_ret
  exact ⟨rfl, rfl⟩
/-- A slice value shows letters in a block below n₀; or there are none. -/
def Lets (n₀ : Nat) (W : World) (sv : Value) (M : List (Int × Int)) : Prop :=
  (∃ a, sv = .slice a 0 0 ∧ M = []) ∨ ∃ b off cap, sv = .slice (some ⟨b, off, none⟩) M.length cap ∧ b < n₀ ∧ ∀ j, j < M.length → W.cell? ⟨b, off + j * 2, none⟩ = some (.int .i64 (M[j]?.getD (0, 0)).1) ∧ W.cell? ⟨b, off + j * 2 + 1, none⟩ = some (.int .i64 (M[j]?.getD (0, 0)).2)
theorem Lets.below {n₀ : Nat} {A B : World} (h : Below n₀ A B) {sv : Value} {M : List (Int × Int)} : Lets n₀ A sv M → Lets n₀ B sv M
  | .inl e => .inl e
  | .inr ⟨b, off, cap, e, hb, hc⟩ => .inr ⟨b, off, cap, e, hb, fun j hj => ⟨(h.cell (p := ⟨b, off + j * 2, none⟩) hb).trans (hc j hj).1, (h.cell (p := ⟨b, off + j * 2 + 1, none⟩) hb).trans (hc j hj).2⟩⟩
theorem Lets.mono {n₀ n₁ : Nat} {A : World} (h : n₀ ≤ n₁) {sv : Value} {M : List (Int × Int)} : Lets n₀ A sv M → Lets n₁ A sv M
  | .inl e => .inl e
  | .inr ⟨b, off, cap, e, hb, hc⟩ => .inr ⟨b, off, cap, e, Nat.lt_of_lt_of_le hb h, hc⟩
theorem back_stops (F : Fence) (n : Nat) (h66 : F.fn 66) (hro : F.round = none) (hn : 1 ≤ n) (Bs n₀ : Nat) (sv : Value) (M : List (Int × Int)) (hM : M.length ≤ 1000) (w : World) (hBs : Bs < w.heap.size) (hn₀ : n₀ ≤ w.heap.size)
    (hc : w.cell? ⟨Bs, 0, none⟩ = some sv) (hI : Lets n₀ w sv M) :
    SeqStopsK F n Try.prog 66 #[.pointer (some ⟨Bs, 0, none⟩)] (fun x : Nat × (Int × Int) => #[Value.int .i64 (x.1 : Int), .agg #[.int .i64 x.2.1, .int .i64 x.2.2]]) (KpB n₀ Bs) (fun ys => ys = upto (bkf M) M.length) (fun pre => ∃ k, k ≤ M.length ∧ pre = upto (bkf M) k) M.length w := fun l J Jx W hW _ _ hY h0 => by
  have hc' := (hW.cell (p := ⟨Bs, 0, none⟩) hBs).trans hc
  rcases hI.below (hW.mono hn₀) with ⟨a, rfl, rfl⟩ | ⟨b, off, cap, rfl, hb, hcs⟩
  · exact (back66_nil_in F n h66 hro l Bs a J W hc' h0).mono fun e W' ⟨he, hj⟩ => ⟨he, .inl ⟨_, rfl, hj⟩⟩
  · exact back66_in F n h66 hro hn l Bs n₀ b off cap M hM hb J Jx hY W hc' hcs h0
end T

namespace T
open Go Go.Proofs Go.RowKit Go.Shelf
attribute [local go_sem] Oper.semAt_some
def rowOf (pre : List (Nat × (Int × Int))) : List Value := pre.flatMap fun x => [.int .i64 x.2.2, .int .i64 x.2.1]
theorem rowOf_snoc (pre : List (Nat × (Int × Int))) (x : Nat × (Int × Int)) : rowOf (pre ++ [x]) = rowOf pre ++ [.int .i64 x.2.2, .int .i64 x.2.1] := by simp [rowOf]
theorem boxed_own {β : Type} (B : Nat) (t : TypeId) (v : Value) : Own (fun (_ : β) W => Boxed W B t v) := fun s X Y row hs hg hrow => hs.kept hg (fun e' => by
  obtain ⟨o, ho, hc⟩ := hrow B e'.symm
  rw [show X.heap[B]? = _ from hs] at ho; cases ho; cases hc)
theorem cells2 (W : World) (x y : Value) (t : TypeId) : ∀ (j : Nat) (u : Value), [x, y][j]? = some u → (W.alloc (.cells #[x, y] t)).cell? ((⟨W.heap.size, 0, none⟩ : Addr).add j) = some u := by
  intro j u h
  have hn := World.alloc_heap_new W (.cells #[x, y] t)
  match j with
  | 0 => cases h; rw [show ((⟨W.heap.size, 0, none⟩ : Addr).add 0) = ⟨W.heap.size, 0, none⟩ from rfl]; unfold World.cell?; rw [hn]; rfl
  | 1 => cases h; rw [show ((⟨W.heap.size, 0, none⟩ : Addr).add 1) = ⟨W.heap.size, 1, none⟩ from rfl]; unfold World.cell?; rw [hn]; rfl
  | j + 2 => simp at h
set_option maxRecDepth 100000 in
theorem info66 : ∃ i, Try.prog.info? 66 = some i ∧ i.zero = some (.agg #[.int .i64 0, .int .i64 0]) ∧ i.size = 2 ∧ i.bytes = 16 := ⟨_, rfl, rfl, rfl, rfl⟩
set_option maxRecDepth 100000 in
set_option maxHeartbeats 4000000 in
theorem back16_in (F : Fence) (n : Nat) (h16 : F.fn 16) (h21 : F.fn 21) (h47 : F.fn 47) (h66 : F.fn 66) (hro : F.round = none) (hn : 3 ≤ n) (m : Int) (a : Option Addr) (len cap : Nat) (M : List (Int × Int)) (hM : M.length ≤ 60) (w : World) (hI : Lets w.heap.size w (.slice a len cap) M)
    (hA : CallsIn F (n - 1) Try.prog 21 #[.int .i64 m, .slice a len cap] w fun e w' => e = .returned (.bool true) ∧ Below w.heap.size w w') :
    CallsIn F n Try.prog 16 #[.int .i64 m, .slice a len cap] w fun e w' => ∃ g cap', e = .returned (.tuple #[.slice (some ⟨g, 0, none⟩) M.length cap', .bool true]) ∧ w'.ownsRow w.heap.size 66 2 (.slice (some ⟨g, 0, none⟩) M.length cap') M.length (rowOf (upto (bkf M) M.length)) ∧ Below w.heap.size w w' := by
  have h1 : 1 ≤ n := by omega
  refine callsIn_of_wp_marks Try.func16 rfl h16 ?_ hro
  simp only [Try.ntmps16, List.size_toArray, List.length_cons, List.length_nil, Nat.reduceAdd, Nat.reduceSub, Array.replicate_succ, Array.replicate_zero, List.push_toArray, List.append_toArray, List.nil_append, List.cons_append]
  gi_wp2_with (first
    | (gi_at_call 21; refine hA.mono ?_; rintro e w1 ⟨rfl, hb1⟩)
    | (gi_at_call 47; refine (back47_in F (n - 1) h47 hro _ _ _ _).mono ?_; rintro e w' ⟨rfl, rfl⟩))
  have e0 := World.alloc_heap_new w1 (.cells #[] 66)
  have b2 := Boxed.new (w1.alloc (.cells #[] 66)) 24 (.slice (some ⟨w1.heap.size, 0, none⟩) 0 0)
  rw [World.size_alloc] at b2
  have b3 := Boxed.new ((w1.alloc (.cells #[] 66)).alloc (.cells #[.slice (some ⟨w1.heap.size, 0, none⟩) 0 0] 24)) 24 (.slice a len cap)
  rw [World.size_alloc, World.size_alloc] at b3
  have hsz : (((w1.alloc (.cells #[] 66)).alloc (.cells #[.slice (some ⟨w1.heap.size, 0, none⟩) 0 0] 24)).alloc (.cells #[.slice a len cap] 24)).heap.size = w1.heap.size + 3 := by simp
  have hs1 := hb1.size
  have hB2 : Below w.heap.size w (((w1.alloc (.cells #[] 66)).alloc (.cells #[.slice (some ⟨w1.heap.size, 0, none⟩) 0 0] 24)).alloc (.cells #[.slice a len cap] 24)) := ((hb1.alloc (by omega) _).alloc (by simp; omega) _).alloc (by simp; omega) _
  have hrow0 : (((w1.alloc (.cells #[] 66)).alloc (.cells #[.slice (some ⟨w1.heap.size, 0, none⟩) 0 0] 24)).alloc (.cells #[.slice a len cap] 24)).ownsRow w.heap.size 66 2 (.slice (some ⟨w1.heap.size, 0, none⟩) 0 0) 0 [] := by
    refine ⟨by simp, .inr ⟨w1.heap.size, 0, #[], rfl, by omega, ?_, Nat.le_refl _, by decide, by simp, by simp⟩⟩
    exact ((Below.heap_alloc _ _ _ (by simp; omega)).trans (Below.heap_alloc _ _ _ (by simp))).trans e0
  have b2' := b2.alloc (.cells #[.slice a len cap] 24)
  have hc3 := b3.cell
  generalize hW2 : (((w1.alloc (.cells #[] 66)).alloc (.cells #[.slice (some ⟨w1.heap.size, 0, none⟩) 0 0] 24)).alloc (.cells #[.slice a len cap] 24)) = W2 at *
  clear hW2 b2
  obtain ⟨i66, hi, hz0, hz1, hz2⟩ := info66
  refine wpIn_rangeFunc_ownH hro h1 (gf := 66) (lb := #[.pointer (some ⟨w1.heap.size + 1 + 1, 0, none⟩)]) rfl h66 (enters_of Try.func66 (by kernel_rfl) rfl)
    (back_stops F (n - 1) h66 hro (by omega) (w1.heap.size + 1 + 1) w.heap.size _ M (by omega) W2 (by omega) (by omega) hc3 (hI.below hB2)) KpB.trans (KpB.b (by omega) (by omega)) (Below.refl _ _) (fun _ => rfl)
    (fun pre W => ((∃ v, Boxed W (w1.heap.size + 1) 24 v ∧ W.ownsRow w.heap.size 66 2 v pre.length (rowOf pre) ∧ v ≠ .slice none 0 0) ∧ Boxed W (w1.heap.size + 1 + 1) 24 (.slice a len cap)) ∧ Below w.heap.size w W)
    (fun _ _ _ => False)
    (OwnFrom.and (OwnFrom.and ((holdsRow_own w.heap.size (w1.heap.size + 1) 24 66 2 List.length rowOf (fun _ v => v ≠ .slice none 0 0)).from _) (Own.from (boxed_own _ _ _) _)) (ownFrom_below (Nat.le_refl _) (by omega)))
    (fun _ _ _ _ _ hs _ _ => hs)
    ⟨⟨⟨_, b2', hrow0, by simp⟩, b3⟩, hB2⟩
    (fun x a' W => ∃ p, a' = { tmps := #[.int .i64 m, .slice a len cap, undef, undef, .slice none 0 0, .bool false, .pointer (some ⟨w1.heap.size + 1, 0, none⟩), undef, .pointer (some ⟨p, 0, none⟩), .int .i64 m, .slice a len cap, .bool true, .bool false, .slice (some ⟨w1.heap.size, 0, none⟩) 0 0, .slice a len cap, .func (.func 66) #[] #[.pointer (some ⟨w1.heap.size + 1 + 1, 0, none⟩)], .int .i64 (x.1 : Int), .agg #[.int .i64 x.2.1, .int .i64 x.2.2], undef, undef, undef, undef, undef, undef, undef, undef, undef], defers := [] } ∧ W.cell? ⟨p, 0, none⟩ = some (.int .i64 x.2.1) ∧ W.cell? ⟨p, 1, none⟩ = some (.int .i64 x.2.2))
    (fun x a' => (Own.from (fun s A B row hs hg hr => by obtain ⟨p, e, k1, k2⟩ := hs; exact ⟨p, e, cell_kept k1 hg hr, cell_kept k2 hg hr⟩) _)) ?assign ?body ?done ?stop
  case assign =>
    rintro l pre x W K ⟨⟨⟨v, hv, hrow, hvn⟩, hbx⟩, hB⟩ hK
    have hlt := hv.lt
    gi_wp2
    have hn := World.alloc_heap_new W (.cells #[.int .i64 x.2.1, .int .i64 x.2.2] 66)
    have hsW := hB.size
    refine hK _ _ ((KeepsOthers.alloc W _).from _) ⟨(Below.refl _ W).alloc hsW _, Below.heap_alloc _ _ _ hbx.lt⟩ ⟨⟨⟨v, hv.alloc _, hrow.alloc _, hvn⟩, hbx.alloc _⟩, hB.alloc hsW _⟩ ⟨W.heap.size, rfl, ?_, ?_⟩
    · exact cells2 W _ _ 66 0 _ rfl
    · exact cells2 W _ _ 66 1 _ rfl
  case body =>
    rintro l pre x a' W hl ⟨r, hr⟩ ⟨⟨⟨v, hv, hrow, hvn⟩, hbx⟩, hB⟩ ⟨p, rfl, c0, c1⟩ hlen
    obtain ⟨g, cp, cur, rfl, hgb, hgc, r1, r2, r3, r4⟩ := hrow.2.resolve_left (fun e => hvn e.1)
    have hvc := hv.cell
    have hvf := hv.frozen
    have hsW := hB.size
    gi_wp2_with (gi_at_builtin; refine wpListIn_append_own _ rfl _ _ 24 rfl w.heap.size 66 i66 (.agg #[.int .i64 0, .int .i64 0]) 2 16 Try.underlying24 hi hz0 hz1 hz2 rfl (by decide) _ _ _ rfl (hrow.alloc _) ⟨W.heap.size, 0, none⟩ 1 1 [.int .i64 x.2.2, .int .i64 x.2.1] rfl rfl (cells2 W _ _ 66) (by simp [Value.oneCell']) (by have : maxLen = 9223372036854775807 := rfl; omega) (by omega) (by simp; omega) ?_; intro v' w3 hown' hg3 hnil3
                 obtain ⟨hv3, hv4, hrow4, hko4, hbl4⟩ := hv.appended (by decide) hrow hsW (by omega) hown' hg3
                 have hc3 := hv3.cell
                 have hf3 := hv3.frozen
                 obtain ⟨g', cp', rfl⟩ := ownsRow_succ hown')
    have hgB : g ≠ w1.heap.size + 1 + 1 := fun e => by
      subst e
      have := (show W.heap[w1.heap.size + 1 + 1]? = _ from hbx).symm.trans hgc
      simp at this
    have hblk : (w3.setCell ⟨w1.heap.size + 1, 0, none⟩ (.slice (some ⟨g', 0, none⟩) (pre.length + 1) cp')).heap[w1.heap.size + 1 + 1]? = W.heap[w1.heap.size + 1 + 1]? := by
      have hlt := hbx.lt
      exact ((Below.heap_setCell _ _ _ _ (by simp)).trans (hg3.block _ (by simp; omega) (fun e => hgB (Option.some.inj e).symm))).trans (Below.heap_alloc _ _ _ hlt)
    exact ⟨hko4.from _, ⟨hbl4, hblk⟩, ⟨⟨_, hv4, by rw [List.length_append, rowOf_snoc]; exact hrow4, by simp⟩, hblk.trans hbx⟩, hB.trans hbl4⟩
  case done =>
    rintro D ys W hD rfl ⟨⟨⟨v, hv, hrow, hvn⟩, hbx⟩, hB⟩ hK
    obtain ⟨g, cp, cur, rfl, hgb, hgc, r1, r2, r3, r4⟩ := hrow.2.resolve_left (fun e => hvn e.1)
    have hvc := hv.cell
    gi_wp2
    refine ⟨by simp, .inl ⟨_, _, rfl, run_takeDeferred hK, ?_⟩⟩
    refine ⟨.tuple #[.slice (some ⟨g, 0, none⟩) (upto (bkf M) M.length).length cp, .bool true], ?_, g, cp, ?_, ?_, hB.trans (belowK_b (w := w) (Nat.le_refl _) W D _ _ (by omega) hK rfl rfl)⟩
    · simp [results, Try.f16, go_sem]
    · rw [upto_length]
    · have := ownsRow_putObj hrow (.deferred none) hK rfl
      rw [upto_length] at this
      exact this
  case stop =>
    rintro D c pre W hD _ h _
    exact h.elim
end T

