/- Answers of both sides, joined. No conditions. -/
import Derived.Test.YtjoapoebeknddaaP1
import Derived.Test.YtjoapoebeknddaaA5
set_option linter.unusedSimpArgs false
set_option linter.unusedVariables false
/- The law of calls: answers of both sides, joined. No conditions. -/
open Go Go.Am
namespace T
open Go.Proofs
set_option maxRecDepth 100000
set_option maxHeartbeats 4000000
set_option linter.unusedSimpArgs false
set_option linter.unusedVariables false
variable {base : Nat} {H : Heap}
@[go_sem] theorem bneb {ρ : Env} {d : Option Tmp} {u u' : TypeId} {p : String} {e : Array Edge} {g : Option (Nat × Bool)} {a b : Bool} {x y : Operand} : bin2 C.P ρ ⟨d, .binOp .neq 4 x y u, u', p, e, g⟩ H .neq (.bool a) (.bool b) = some (.bool (a != b), H) := b_neb rfl
@[go_sem] theorem beqb {ρ : Env} {d : Option Tmp} {u u' : TypeId} {p : String} {e : Array Edge} {g : Option (Nat × Bool)} {a b : Bool} {x y : Operand} : bin2 C.P ρ ⟨d, .binOp .eql 4 x y u, u', p, e, g⟩ H .eql (.bool a) (.bool b) = some (.bool (a == b), H) := b_eqb rfl
abbrev SI (H : Heap) (s : Value) (B : List Nat) : Prop := Shows H 1 s B.length (ni B)
theorem SI.nil : SI H (.slice none 0 0) [] := .inl ⟨rfl, rfl, rfl⟩
theorem both_of {n : Int} {s : Value} {L : List (Int × Int)} (h : areC n L = true) : ∃ (N : Nat) (M : List (Nat × Nat)), n = N ∧ N ≤ 10 ∧ 0 < N ∧ L = toZ M ∧ M.length ≤ 60 ∧ Good N M := by
  obtain ⟨N, M, h1, h2, h3, h4, h5, h6⟩ := areC_lt h
  exact ⟨N, M, h1, h2, h3, h4, h5, h6⟩
theorem inF_nat {n : Nat} {x : Int} (hn : n ≤ 10) (h : inF n x = true) : ∃ y : Nat, x = y ∧ y < n := by
  have : IntKind.i64.wrap ((n : Int) - 1) = (n : Int) - 1 := by rw [IntKind.wrap_i64]; omega
  simp only [inF, this, Bool.and_eq_true, decide_eq_true_eq] at h
  exact ⟨x.toNat, by omega, by omega⟩
theorem inK_nat {L : List (Int × Int)} {k : Int} (hL : L.length < 1000) (h : inK L k = true) : ∃ y : Nat, k = y ∧ y < L.length := by
  have : IntKind.i64.wrap ((L.length : Int) - 1) = (L.length : Int) - 1 := by rw [IntKind.wrap_i64]; omega
  simp only [inK, this, Bool.and_eq_true, decide_eq_true_eq] at h
  exact ⟨k.toNat, by omega, by omega⟩
theorem who2 {n x : Int} {s : Value} {L : List (Int × Int)} (hs : SL H s L) (hL : L.length < 1000) :
    ∃ v1 v2 B H2 H3, cal C base 26 [gi n, s, gi x] H = some (.tuple #[v1, bo (areC n L && inF n x)], H2) ∧ cal C base 31 [gi n, s, gi x] H2 = some (.tuple #[v2, bo (areC n L && inF n x)], H3) ∧ Keeps H.length H H3 ∧ SI H3 v1 B ∧ SI H3 v2 B ∧ B.length < 1000 := by
  cases h : areC n L && inF n x
  · obtain ⟨e1, e2⟩ := whoNo_c (base := base) hs hL h
    exact ⟨_, _, [], _, _, e1, e2, .refl _ _, .nil, .nil, by decide⟩
  · obtain ⟨h1, h2⟩ := Bool.and_eq_true_iff.1 h
    obtain ⟨N, M, rfl, hN, _, rfl, hM, hg⟩ := areC_lt h1
    obtain ⟨y, rfl, hy⟩ := inF_nat hN h2
    have hr : ∀ l ∈ M, l.1 < N ∧ l.2 < N := fun l hl => ⟨(hg l hl).1, (hg l hl).2.1⟩
    obtain ⟨v, H2, e1, F, t, rfl, rfl, ho⟩ := who_c (base := base) hs (by omega) hN hr h1 hy (whoP N M y) fun _ => rfl
    obtain ⟨v, H3, e2, F2, t2, rfl, rfl, ho2⟩ := whoS_c (base := base) (hs.add F) (by omega) hN hr h1 hy (whoP N M y) fun _ => rfl
    have hl := idx_len N (whoP N M y)
    exact ⟨t, t2, idx N (whoP N M y), _, _, e1, e2, (Keeps.append (Nat.le_refl _) F).trans (.append (by simp) F2), ho.shows.add F2, ho2.shows, by omega⟩
theorem of2 {n x : Int} {s : Value} {L : List (Int × Int)} (hs : SL H s L) (hL : L.length < 200) :
    ∃ v1 v2 B H2 H3, cal C base 32 [gi n, s, gi x] H = some (.tuple #[v1, bo (areC n L && inF n x)], H2) ∧ cal C base 33 [gi n, s, gi x] H2 = some (.tuple #[v2, bo (areC n L && inF n x)], H3) ∧ Keeps H.length H H3 ∧ SI H3 v1 B ∧ SI H3 v2 B ∧ B.length < 1000 := by
  cases h : areC n L && inF n x
  · obtain ⟨e1, e2⟩ := ofNo_c (base := base) hs (by omega) h
    exact ⟨_, _, [], _, _, e1, e2, .refl _ _, .nil, .nil, by decide⟩
  · obtain ⟨h1, h2⟩ := Bool.and_eq_true_iff.1 h
    obtain ⟨v, H2, e1, F, t, rfl, rfl, ho⟩ := of_c (base := base) hs (by omega) h1 h2 (ofP L x) fun _ => rfl
    obtain ⟨v, H3, e2, F2, t2, rfl, rfl, ho2⟩ := ofS_c (base := base) (hs.add F) (by omega) h1 h2 (ofP L x) fun _ => rfl
    have hl := idx_len L.length (ofP L x)
    exact ⟨t, t2, idx L.length (ofP L x), _, _, e1, e2, (Keeps.append (Nat.le_refl _) F).trans (.append (by simp) F2), ho.shows.add F2, ho2.shows, by omega⟩
theorem learn2 {n k : Int} {s : Value} {L : List (Int × Int)} (hs : SL H s L) (hL : L.length < 200) :
    ∃ z q, cal C base 29 [gi n, s, gi k] H = some (.tuple #[gi z, bo q], H) ∧ cal C base 35 [gi n, s, gi k] H = some (.tuple #[gi z, bo q], H) := by
  cases h : areC n L && inK L k
  · obtain ⟨e1, e2⟩ := learnNo_c (base := base) hs (by omega) h
    exact ⟨_, _, e1, e2⟩
  · obtain ⟨h1, h2⟩ := Bool.and_eq_true_iff.1 h
    obtain ⟨N, M, rfl, hN, _, rfl, hM, hg⟩ := areC_lt h1
    obtain ⟨y, rfl, hy⟩ := inK_nat (by omega) h2
    have hr : ∀ l ∈ M, l.1 < N ∧ l.2 < N := fun l hl => ⟨(hg l hl).1, (hg l hl).2.1⟩
    obtain ⟨e1, e2⟩ := learn_c (base := base) hN hs (by omega) hr h1 (by rw [toZ_len] at hy; exact hy)
    exact ⟨_, _, e1, e2⟩
noncomputable def bodyF : Code := (Try.f3.body).getD .skip
end T

