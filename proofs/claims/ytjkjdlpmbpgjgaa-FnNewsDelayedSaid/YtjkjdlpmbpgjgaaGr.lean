/- How the arguments of a law are opened: data of a type that is read is a Lean value of the print's kinds. No program is named here. -/
import Derived.Deep.Slices
import Derived.ChangeArms
import Derived.Deep.Fields
import Derived.ChangeSame
import Derived.Test.YtjkjdlpmbpgjgaaGp
import Derived.OpenShut
import Derived.Test.YtjkjdlpmbpgjgaaWWords
import Derived.Test.YtjkjdlpmbpgjgaaWMore
namespace Go.Proofs.Ytjkjdlpmbpgjgaa.Gr
open Go.ChangeShapes Go.WideShapes Go.Deep Go.RowKit Go.Proofs.YtjkjdlpmbpgjgaaW.PrintWords
set_option linter.unusedVariables false

/-- Whatever is read as data of type t is a value of kind d, with a fact on it. -/
def Opens {α H : Type} (enc : TypeId × Value → H) (P : Program) (W : World) (base : Nat) (spare : Nat → Bool) (held : Bool) (d : Kd α) (ok : α → Prop) (t : TypeId) : Prop :=
  ∀ n cs x, DataW.trod enc P W base spare held n t cs = some x → ∃ y, d.K W y cs ∧ ok y
def okInt (x : Int) : Prop := -9223372036854775808 ≤ x ∧ x ≤ 9223372036854775807

section
variable {H : Type} {enc : TypeId × Value → H} {P : Program} {W : World} {base : Nat} {spare : Nat → Bool} {held : Bool}
theorem okInt_of {n : Int} (h : (Lit.int .i64 n).wf = true) : okInt n := bounds_i64 h
theorem opens_int {t : TypeId} (ht : P.underlying t = some (.int .i64)) : Opens enc P W base spare held (Kd.int .i64) okInt t := by
  intro n cs x h
  obtain ⟨m, rfl, _, hw⟩ := DataW.trod_int ht h
  exact ⟨m, rfl, okInt_of hw⟩
theorem opens_bool {t : TypeId} (ht : P.underlying t = some .bool) : Opens enc P W base spare held Kd.bool (fun _ => True) t := by
  intro n cs x h
  obtain ⟨b, rfl, _⟩ := DataW.trod_bool ht h
  exact ⟨b, rfl, trivial⟩
theorem opens_string {t : TypeId} (ht : P.underlying t = some .string) : Opens enc P W base spare held Kd.string (fun s => s.size ≤ maxLen) t := by
  intro n cs x h
  obtain ⟨s, rfl, _, hs⟩ := DataW.trod_string ht h
  exact ⟨s, rfl, hs⟩
theorem rows_of {α : Type} (d : Kd α) (ok : α → Prop) (a : Addr) (m : Nat) (hm : m ≤ 9223372036854775807)
    (h : ∀ i, i < m → ∃ y c, d.K W y c ∧ ok y ∧ ∀ j u, c[j]? = some u → W.cell? (a.add (i * d.sz + j)) = some u) :
    ∀ len, len ≤ m → ∃ l : List α, l.length = len ∧ (∀ y, y ∈ l → ok y) ∧ ∀ j p, l[j]? = some p → ∃ c, c.length = d.sz ∧ d.K W p c ∧ ∀ i u, c[i]? = some u → W.cell? (a.add (j * d.sz + i)) = some u := by
  intro len
  induction len with
  | zero => exact fun _ => ⟨[], rfl, (fun y hy => by cases hy), (fun j p hp => by simp at hp)⟩
  | succ n ih =>
    intro hn
    obtain ⟨l, hl, ho, hc⟩ := ih (by omega)
    obtain ⟨y, c, hK, hy, hcell⟩ := h n (by omega)
    refine ⟨l ++ [y], by simp [hl], fun z hz => ?_, fun j p hp => ?_⟩
    · rcases List.mem_append.1 hz with hz | hz
      · exact ho z hz
      · rw [List.mem_singleton.1 hz]; exact hy
    · by_cases hj : j < l.length
      · rw [List.getElem?_append_left hj] at hp
        exact hc j p hp
      · have hj' : j = n := by
          have := (List.getElem?_eq_some_iff.1 hp).1
          simp at this
          omega
        subst hj'
        have hyp : y = p := by rw [← hl] at hp; simpa using hp
        subst hyp
        exact ⟨c, d.K_len hK, hK, hcell⟩
theorem opens_slice {α : Type} {d : Kd α} {ok : α → Prop} {t e : TypeId} (ht : P.underlying t = some (.slice e)) (hC : P.cellsOf e = d.sz) (he : Opens enc P W base spare held d ok e) :
    Opens enc P W base spare held (Kd.slice e d) (fun l => ∀ y, y ∈ l → ok y) t := by
  intro n cs x h
  rcases open_slice ht h with ⟨rfl, _⟩ | ⟨a, len, cap, m, n', D, Pl, rfl, hb, hl, hm, hmm, hx, hi⟩
  · exact ⟨[], ⟨none, 0, rfl, Nat.le_refl _, rfl, by simp, fun h => absurd h (by simp)⟩, (fun y hy => by cases hy)⟩
  · unfold maxLen at hm
    have hlm : len ≤ m := by rw [hmm]; split <;> omega
    have hmc : m ≤ cap := by rw [hmm]; split <;> omega
    obtain ⟨l, hll, hok, hc⟩ := rows_of (W := W) d ok a m (by omega) (fun i him => by
      obtain ⟨cs', hc, ht'⟩ := hi i him
      obtain ⟨y, hK, hy⟩ := he _ _ _ ht'
      rw [hC] at hc
      obtain ⟨_, hcl, hat⟩ := World.cells?_some hc
      refine ⟨y, cs', hK, hy, fun j u hu => ?_⟩
      have hj : j < d.sz := by rw [← hcl]; exact (List.getElem?_eq_some_iff.1 hu).1
      rw [← Go.Deep.add_add]
      exact (hat j hj).trans hu) len hlm
    refine ⟨l, ⟨some a, cap, by rw [hll], by omega, rfl, by omega, fun _ => ⟨a, rfl, hc⟩⟩, hok⟩
/-- What a slice argument is. -/
theorem arg_slice {α : Type} {d : Kd α} {ok : α → Prop} {t e : TypeId} {v : Value} {x : DataW H} {ps : List MemPlace} (ht : P.underlying t = some (.slice e)) (hC : P.cellsOf e = d.sz) (he : Opens enc P W base spare held d ok e)
    {r : Reach} {b0 : Nat} (hv : Value.okWide P W r b0 t v) (h : DataW.Trod enc P W base spare held t v x ps) : ∃ A c, ∃ l : List α, v = .slice A l.length c ∧ l.length ≤ c ∧ d.C W A l.length l ∧ ∀ y, y ∈ l → ok y := by
  obtain ⟨a, len, cap, rfl⟩ := okWide_slice ht hv
  obtain ⟨fuel, hf⟩ := h
  obtain ⟨l, ⟨A, c, he', hl, hc⟩, hok⟩ := opens_slice ht hC he _ _ _ hf
  simp [Value.cells] at he'
  obtain ⟨rfl, rfl, rfl⟩ := he'
  exact ⟨_, _, l, rfl, hl, hc, hok⟩
/-- What a struct argument is. -/
theorem arg_struct {α : Type} {d : Kd α} {ok : α → Prop} {t : TypeId} {fs : Array Field} {v : Value} {x : DataW H} {ps : List MemPlace} (ht : P.underlying t = some (.struct fs)) (he : Opens enc P W base spare held d ok t)
    {r : Reach} {b0 : Nat} (hv : Value.okWide P W r b0 t v) (h : DataW.Trod enc P W base spare held t v x ps) : ∃ (y : α) (cs : List Value), v = .agg cs.toArray ∧ d.K W y cs ∧ ok y := by
  obtain ⟨cs, rfl, hsz⟩ := okWide_struct ht hv
  obtain ⟨fuel, hf⟩ := h
  obtain ⟨y, hK, hok⟩ := he _ _ _ hf
  exact ⟨y, cs.toList, by simp, by simpa [Value.cells] using hK, hok⟩
theorem pair_K {α β : Type} {a : Kd α} {b : Kd β} {x : α} {y : β} {cs : List Value} (h0 : a.K W x (cs.take a.sz)) (h1 : b.K W y (cs.drop a.sz)) : (Kd.pair a b).K W (x, y) cs :=
  ⟨_, _, (List.take_append_drop _ _).symm, h0, h1⟩
end
end Go.Proofs.Ytjkjdlpmbpgjgaa.Gr
