/- The law FnExactClaimGroups in plain Lean: it returns true at every input. No conditions. -/
import Derived.Test.YtgmgicmgobjjcaaStFnExactClaimGroups
import Derived.Test.YtgmgicmgobjjcaaGr
import Derived.Test.YtgmgicmgobjjcaaGp
namespace Go.Proofs.Ytgmgicmgobjjcaa.Pure
open Go.RowKit Go.Proofs.Ytgmgicmgobjjcaa.PFnExactClaimGroups Go.Proofs.YtgmgicmgobjjcaaW.PrintWords Go.Proofs.YtgmgicmgobjjcaaW.PrintLast Go.Proofs.YtgmgicmgobjjcaaW.PrintMore Go.Proofs.Ytgmgicmgobjjcaa.Gr Go.Proofs.Ytgmgicmgobjjcaa.Gp
set_option linter.unusedVariables false
set_option linter.unusedSimpArgs false

/-- b is reached from a by steps of E -/
def Rch (E : Nat → Nat → Prop) (a b : Nat) : Prop := ∀ S : Nat → Prop, S a → (∀ x y, S x → E x y → S y) → S b
theorem Rch.refl (E : Nat → Nat → Prop) (a : Nat) : Rch E a a := fun _ h _ => h
theorem Rch.step {E : Nat → Nat → Prop} {a b c : Nat} (h : Rch E a b) (e : E b c) : Rch E a c := fun S ha hc => hc b c (h S ha hc) e
theorem Rch.trans {E : Nat → Nat → Prop} {a b c : Nat} (h : Rch E a b) (k : Rch E b c) : Rch E a c := fun S ha hc => k S (h S ha hc) hc
theorem Rch.symm {E : Nat → Nat → Prop} (hs : ∀ x y, E x y → E y x) {a b : Nat} (h : Rch E a b) : Rch E b a :=
  h (fun x => Rch E x a) (Rch.refl E a) (fun x y hx e => (Rch.step (Rch.refl E y) (hs x y e)).trans hx)
theorem Rch.imp {E F : Nat → Nat → Prop} (hi : ∀ x y, E x y → x = y ∨ F x y) {a b : Nat} (h : Rch E a b) : Rch F a b := fun S ha hc => h S ha (fun x y hx e => by
  rcases hi x y e with rfl | e
  · exact hx
  · exact hc x y hx e)
theorem rd_set (l : List Int) (i j : Nat) (x : Int) (h : i < l.length) : rd (l.set i x) (j : Int) = if j = i then x else rd l (j : Int) := by
  unfold rd
  rw [Int.toNat_natCast, List.getD_eq_getElem?_getD, List.getD_eq_getElem?_getD, List.getElem?_set]
  by_cases e : i = j
  · subst e
    rw [if_pos rfl, if_pos h, if_pos rfl]
    rfl
  · rw [if_neg e, if_neg (fun h => e h.symm)]
theorem rd_at (l : List Int) (i : Nat) (h : i < l.length) : rd l (i : Int) = l[i] := by
  unfold rd
  rw [Int.toNat_natCast]
  exact getD_at l i h _

/-- is there a pair of the two? -/
def pairB (ps : List S43) (u v : Nat) : Bool := decide (u ≠ v) && ps.any fun c => (mn (u : Int) (v : Int) == c.f0) && (mx (u : Int) (v : Int) == c.f1)
theorem rdC_at (l : List S43) (i : Nat) (h : i < l.length) : rd_T43 l (i : Int) = l[i] := by
  unfold rd_T43
  rw [Int.toNat_natCast]
  exact getD_at l i h _
theorem indexC_ev (l : List S43) (hl : l.length ≤ 1048576) (a b : Int) : ∃ r, Ev (fun k => impl_Call_39.f k l a b) r ∧ decide (r ≥ 0) = l.any fun c => (a == c.f0) && (b == c.f1) := by
  unfold impl_Call_39.f
  have key : ∀ d i, l.length - i = d → i ≤ l.length → ∃ r, Ev (fun k => impl_Call_39.l0 k l (l.length : Int) (i : Int) a b) r ∧ decide (r ≥ 0) = (l.drop i).any fun c => (a == c.f0) && (b == c.f1) := by
    intro d
    induction d with
    | zero =>
      intro i hd hi
      refine ⟨-1, Ev.step (f := fun _ => some (-1)) (fun k => ?_) (Ev.now _), ?_⟩
      · simp only [impl_Call_39.l0]
        rw [if_neg (by omega)]
      · rw [List.drop_of_length_le (by omega)]
        rfl
    | succ d ih =>
      intro i hd hi
      have hlt : i < l.length := by omega
      have w : wrap64 ((i : Int) + 1) = ((i + 1 : Nat) : Int) := by rw [w64 (by omega) (by omega)]; omega
      have i0 : (0 : Int) ≤ (i : Int) := by omega
      have i1 : (i : Int) < (l.length : Int) := by omega
      obtain ⟨r, hr, he⟩ := ih (i + 1) (by omega) (by omega)
      have hat := rdC_at l i hlt
      rw [List.drop_eq_getElem_cons hlt, List.any_cons]
      cases hb : ((a == l[i].f0) && (b == l[i].f1)) with
      | true =>
        refine ⟨(i : Int), Ev.step (f := fun _ => some (i : Int)) (fun k => ?_) (Ev.now _), ?_⟩
        · simp only [impl_Call_39.l0, hat, hb]
          rw [if_pos i1, if_pos i0, if_pos i1, if_pos trivial]
        · rw [Bool.true_or]
          exact decide_eq_true i0
      | false =>
        refine ⟨r, Ev.step (fun k => ?_) hr, by rw [Bool.false_or]; exact he⟩
        simp only [impl_Call_39.l0, hat, hb]
        rw [if_pos i1, if_pos i0, if_pos i1, if_neg Bool.false_ne_true, w]
  simpa using key l.length 0 rfl (Nat.zero_le _)
theorem isPair_ev (ps : List S43) (hl : ps.length ≤ 1048576) (u v : Nat) : Ev (fun k => impl_isPair.f k ps (u : Int) (v : Int)) (pairB ps u v) := by
  unfold impl_isPair.f pairB
  by_cases h : u = v
  · exact ev_pos (by rw [h]) (ev_eq (by simp [h]) (Ev.now false))
  · obtain ⟨r, hr, he⟩ := indexC_ev ps hl (mn (u : Int) (v : Int)) (mx (u : Int) (v : Int))
    refine ev_neg (by omega) (Ev.bind (a := pairB ps u v) ?_ (ev_eq (by unfold pairB; rfl) (Ev.now _)))
    unfold impl_Call_36.f pairB
    refine Ev.bind hr ?_
    rw [he]
    exact ev_eq (by simp [h]) (Ev.now _)
/-- of the search: so many have been listed and told, and what is told of the listed ones' neighbours -/
def BInv (E : Nat → Nat → Prop) (n s : Nat) (out q : List Int) (k m : Nat) : Prop :=
  out.length = n ∧ q.length + out.countP (fun x => decide (x < 0)) = n ∧ (∀ x, x ∈ q → ∃ v : Nat, x = (v : Int) ∧ v < n ∧ 0 ≤ rd out (v : Int) ∧ Rch E s v) ∧
  (∀ v : Nat, v < n → 0 ≤ rd out (v : Int) → (v : Int) ∈ q ∧ rd out (v : Int) < (q.length : Int)) ∧
  (∀ p u v : Nat, p < k → q[p]? = some (u : Int) → v < n → E u v → 0 ≤ rd out (v : Int)) ∧
  (∀ u v : Nat, q[k]? = some (u : Int) → v < m → v < n → E u v → 0 ≤ rd out (v : Int)) ∧ s < n ∧ 0 ≤ rd out (s : Int)
theorem BInv.next {E : Nat → Nat → Prop} {n s : Nat} {out q : List Int} {k : Nat} (h : BInv E n s out q k n) : BInv E n s out q (k + 1) 0 := by
  obtain ⟨h1, h2, h3, h4, h5, h6, h7, h8⟩ := h
  refine ⟨h1, h2, h3, h4, fun p u v hp hq hv e => ?_, fun u v _ hv => absurd hv (Nat.not_lt_zero _), h7, h8⟩
  by_cases hpk : p = k
  · subst hpk
    exact h6 u v hq hv hv e
  · exact h5 p u v (by omega) hq hv e
theorem BInv.skip {E : Nat → Nat → Prop} {n s : Nat} {out q : List Int} {k m u : Nat} (h : BInv E n s out q k m) (hu : q[k]? = some (u : Int)) (hs : E u m → 0 ≤ rd out (m : Int)) : BInv E n s out q k (m + 1) := by
  obtain ⟨h1, h2, h3, h4, h5, h6, h7, h8⟩ := h
  refine ⟨h1, h2, h3, h4, h5, fun u' v hq hv hn e => ?_, h7, h8⟩
  by_cases hvm : v = m
  · subst hvm
    rw [hu] at hq
    have : u' = u := by have := Option.some.inj hq; omega
    subst this
    exact hs e
  · exact h6 u' v hq (by omega) hn e
theorem BInv.put {E : Nat → Nat → Prop} {n s : Nat} {out q : List Int} {k m u : Nat} (h : BInv E n s out q k m) (hu : q[k]? = some (u : Int)) (hm : m < n) (hneg : rd out (m : Int) < 0) (e : E u m) :
    BInv E n s (out.set m (rd out (u : Int) + 1)) (q ++ [(m : Int)]) k (m + 1) ∧ 0 ≤ rd out (u : Int) ∧ rd out (u : Int) < n ∧ u < n := by
  obtain ⟨h1, h2, h3, h4, h5, h6, h7, h8⟩ := h
  have hkq : k < q.length := by
    by_cases hk : k < q.length
    · exact hk
    · rw [List.getElem?_eq_none (by omega)] at hu
      cases hu
  have humem : (u : Int) ∈ q := List.mem_of_getElem? hu
  obtain ⟨u', hu', hun, hu0, hur⟩ := h3 _ humem
  have : u' = u := by omega
  subst this
  have hul := (h4 u' hun hu0).2
  have hml : m < out.length := by omega
  have hrs : ∀ v : Nat, rd (out.set m (rd out (u' : Int) + 1)) (v : Int) = if v = m then rd out (u' : Int) + 1 else rd out (v : Int) := fun v => rd_set out m v _ hml
  have hnn : ∀ v : Nat, 0 ≤ rd out (v : Int) → 0 ≤ rd (out.set m (rd out (u' : Int) + 1)) (v : Int) := fun v hv => by
    rw [hrs]
    split
    · omega
    · exact hv
  have hql : ∀ (p x : Nat), p ≤ k → (q ++ [(m : Int)])[p]? = some (x : Int) → q[p]? = some (x : Int) := fun p x hp hq => by
    rwa [List.getElem?_append_left (by omega)] at hq
  refine ⟨⟨by rw [List.length_set]; exact h1, ?_, ?_, ?_, ?_, ?_, h7, hnn s h8⟩, hu0, by have := List.countP_le_length (p := fun x => decide (x < 0)) (l := out); omega, hun⟩
  · have hat := rd_at out m hml
    have hpos : 0 < out.countP (fun x => decide (x < 0)) := List.countP_pos_iff.2 ⟨out[m], List.getElem_mem hml, by rw [← hat]; exact decide_eq_true hneg⟩
    rw [List.countP_set hml, if_pos (by rw [← hat]; exact decide_eq_true hneg), if_neg (by simp; omega), List.length_append, List.length_singleton]
    omega
  · intro x hx
    rcases List.mem_append.1 hx with hx | hx
    · obtain ⟨v, e1, e2, e3, e4⟩ := h3 x hx
      exact ⟨v, e1, e2, hnn v e3, e4⟩
    · rw [List.mem_singleton.1 hx]
      refine ⟨m, rfl, hm, ?_, hur.step e⟩
      rw [hrs, if_pos rfl]
      omega
  · intro v hv h0
    rw [hrs] at h0 ⊢
    rw [List.length_append, List.length_singleton]
    by_cases hvm : v = m
    · subst hvm
      rw [if_pos rfl]
      exact ⟨List.mem_append.2 (.inr (List.mem_singleton.2 rfl)), by omega⟩
    · rw [if_neg hvm] at h0 ⊢
      obtain ⟨g1, g2⟩ := h4 v hv h0
      exact ⟨List.mem_append.2 (.inl g1), by omega⟩
  · intro p x v hp hq hv e
    exact hnn v (h5 p x v hp (hql p x (by omega) hq) hv e)
  · intro x v hq hv hn e
    have hq' := hql k x (Nat.le_refl _) hq
    by_cases hvm : v = m
    · subst hvm
      rw [hrs, if_pos rfl]
      omega
    · exact hnn v (h6 x v hq' (by omega) hn e)
theorem BInv.end {E : Nat → Nat → Prop} {n s : Nat} {out q : List Int} {k : Nat} (hE : ∀ a b, E a b → b < n) (h : BInv E n s out q k 0) (hk : q.length ≤ k) : out.length = n ∧ ∀ v : Nat, v < n → (0 ≤ rd out (v : Int) ↔ Rch E s v) := by
  obtain ⟨h1, h2, h3, h4, h5, h6, h7, h8⟩ := h
  refine ⟨h1, fun v hv => ⟨fun h0 => ?_, fun hr => ?_⟩⟩
  · obtain ⟨v', e, _, _, hr⟩ := h3 _ (h4 v hv h0).1
    have : v' = v := by omega
    rwa [this] at hr
  · have := hr (fun v => v < n ∧ 0 ≤ rd out (v : Int)) ⟨h7, h8⟩ (fun x y hx e => ?_)
    · exact this.2
    · refine ⟨hE x y e, ?_⟩
      obtain ⟨hx1, hx2⟩ := hx
      obtain ⟨p, hp, hpe⟩ := List.getElem_of_mem (h4 x hx1 hx2).1
      exact h5 p x y (by omega) (by rw [List.getElem?_eq_getElem hp, hpe]) (hE x y e) e
/-- two friends below n with a pair -/
def pairE (ps : List S43) (n u v : Nat) : Prop := u < n ∧ v < n ∧ pairB ps u v = true
theorem bits_mul1 : ∀ n : Fin 64, bits_Mul.f 1 ((n : Nat) : Int) = some (0, ((n : Nat) : Int)) := by decide +kernel
theorem dist_l1 (ps : List S43) (hl : ps.length ≤ 1048576) (n s : Nat) (hn : n ≤ 64) (k0 : Nat) (P : List Int → Prop)
    (next : ∀ out q : List Int, BInv (pairE ps n) n s out q (k0 + 1) 0 → k0 < q.length → ∃ far, Ev (fun k => impl_distances.l0 k (n : Int) ps out q ((k0 + 1 : Nat) : Int)) far ∧ P far) :
    ∀ d m, n - m = d → m ≤ n → ∀ out q : List Int, k0 < q.length → BInv (pairE ps n) n s out q k0 m → ∃ far, Ev (fun k => impl_distances.l1 k (n : Int) ps out q (k0 : Int) (n : Int) (m : Int)) far ∧ P far := by
  intro d
  induction d with
  | zero =>
    intro m hd hm out q hk h
    obtain rfl : m = n := by omega
    have hqn : q.length ≤ m := by have := h.2.1; omega
    obtain ⟨far, hf, hp⟩ := next out q h.next hk
    refine ⟨far, Ev.step (fun k => ?_) hf, hp⟩
    simp only [impl_distances.l1]
    rw [if_neg (Int.lt_irrefl _), show wrap64 ((k0 : Int) + 1) = ((k0 + 1 : Nat) : Int) by rw [w64 (by omega) (by omega)]; omega]
  | succ d ih =>
    intro m hd hm out q hk h
    have hmn : m < n := by omega
    have d1 : n - (m + 1) = d := by omega
    have hqn : q.length ≤ n := by have := h.2.1; omega
    have hol : out.length = n := h.1
    obtain ⟨u, hu, hun, hu0, _⟩ := h.2.2.1 q[k0] (List.getElem_mem hk)
    have hq? : q[k0]? = some (u : Int) := by rw [List.getElem?_eq_getElem hk, hu]
    have hqr : rd q (k0 : Int) = (u : Int) := by rw [rd_at q k0 hk, hu]
    have m0 : (0 : Int) ≤ (m : Int) := by omega
    have m1 : (m : Int) < (n : Int) := by omega
    have m2 : (m : Int) < (out.length : Int) := by omega
    have k1 : (0 : Int) ≤ (k0 : Int) := by omega
    have k2 : (k0 : Int) < (q.length : Int) := by omega
    have u1 : (0 : Int) ≤ (u : Int) := by omega
    have u2 : (u : Int) < (out.length : Int) := by omega
    have w : wrap64 ((m : Int) + 1) = ((m + 1 : Nat) : Int) := by rw [w64 (by omega) (by omega)]; omega
    have hq3 : q.length < 17592186044416 := Nat.lt_of_le_of_lt hqn (by omega)
    by_cases hneg : rd out (m : Int) < 0
    · have hp := isPair_ev ps hl u m
      cases hb : pairB ps u m with
      | true =>
        obtain ⟨h', v0, v1, _⟩ := h.put hq? hmn hneg ⟨hun, hmn, hb⟩
        obtain ⟨far, hf, hpf⟩ := ih (m + 1) d1 hmn _ _ (by rw [List.length_append]; omega) h'
        refine ⟨far, Ev.step (f := fun k => (impl_isPair.f k ps (u : Int) (m : Int)).bind fun t => if t = true then impl_distances.l1 k (n : Int) ps (out.set m (rd out (u : Int) + 1)) (q ++ [(m : Int)]) (k0 : Int) (n : Int) ((m + 1 : Nat) : Int) else impl_distances.l1 k (n : Int) ps out q (k0 : Int) (n : Int) ((m + 1 : Nat) : Int)) (fun k => ?_) (Ev.bind hp (ev_pos hb hf)), hpf⟩
        simp only [impl_distances.l1, hqr, w, Int.toNat_natCast]
        rw [if_pos m1, if_pos m0, if_pos m2, if_pos hneg, if_pos k1, if_pos k2, w64 (n := rd out (u : Int) + 1) (by omega) (by omega)]
        congr 1
        funext t
        rw [if_pos u1, if_pos u2, if_pos hq3]
      | false =>
        obtain ⟨far, hf, hpf⟩ := ih (m + 1) d1 hmn out q hk (h.skip hq? (fun e => by have h3 := e.2.2; rw [hb] at h3; cases h3))
        refine ⟨far, Ev.step (f := fun k => (impl_isPair.f k ps (u : Int) (m : Int)).bind fun t => if t = true then impl_distances.l1 k (n : Int) ps (out.set m (wrap64 (rd out (u : Int) + 1))) (q ++ [(m : Int)]) (k0 : Int) (n : Int) ((m + 1 : Nat) : Int) else impl_distances.l1 k (n : Int) ps out q (k0 : Int) (n : Int) ((m + 1 : Nat) : Int)) (fun k => ?_) (Ev.bind hp (ev_neg (by rw [hb]; decide) hf)), hpf⟩
        simp only [impl_distances.l1, hqr, w, Int.toNat_natCast]
        rw [if_pos m1, if_pos m0, if_pos m2, if_pos hneg, if_pos k1, if_pos k2]
        congr 1
        funext t
        rw [if_pos u1, if_pos u2, if_pos hq3]
    · obtain ⟨far, hf, hpf⟩ := ih (m + 1) d1 hmn out q hk (h.skip hq? (fun _ => by omega))
      refine ⟨far, Ev.step (fun k => ?_) hf, hpf⟩
      simp only [impl_distances.l1, w]
      rw [if_pos m1, if_pos m0, if_pos m2, if_neg hneg]
theorem dist_l0 (ps : List S43) (hl : ps.length ≤ 1048576) (n s : Nat) (hn : n ≤ 64) : ∀ d k0, n - k0 = d → ∀ out q : List Int, BInv (pairE ps n) n s out q k0 0 →
    ∃ far, Ev (fun k => impl_distances.l0 k (n : Int) ps out q (k0 : Int)) far ∧ (far.length = n ∧ ∀ v : Nat, v < n → (0 ≤ rd far (v : Int) ↔ Rch (pairE ps n) s v)) := by
  intro d
  induction d with
  | zero =>
    intro k0 hd out q h
    have hqn : q.length ≤ n := by have := h.2.1; omega
    refine ⟨out, Ev.step (f := fun _ => some out) (fun k => ?_) (Ev.now _), h.end (fun a b e => e.2.1) (by omega)⟩
    simp only [impl_distances.l0]
    rw [if_neg (by omega)]
  | succ d ih =>
    intro k0 hd out q h
    have hqn : q.length ≤ n := by have := h.2.1; omega
    by_cases hk : k0 < q.length
    · obtain ⟨far, hf, hp⟩ := dist_l1 ps hl n s hn k0 _ (fun out q h _ => ih (k0 + 1) (by omega) out q h) n 0 rfl (Nat.zero_le _) out q hk h
      refine ⟨far, Ev.step (fun k => ?_) hf, hp⟩
      simp only [impl_distances.l0]
      rw [if_pos (by omega)]
      rfl
    · refine ⟨out, Ev.step (f := fun _ => some out) (fun k => ?_) (Ev.now _), h.end (fun a b e => e.2.1) (by omega)⟩
      simp only [impl_distances.l0]
      rw [if_neg (by omega)]
theorem count_rep (n : Nat) : (List.replicate n (-1 : Int)).countP (fun x => decide (x < 0)) = n := by
  rw [List.countP_replicate, if_pos (by decide)]
theorem dist_ev (ps : List S43) (hl : ps.length ≤ 1048576) (n s : Nat) (hn : n < 64) (hs : s < n) : ∃ far, Ev (fun k => impl_distances.f k (n : Int) ps (s : Int)) far ∧ (far.length = n ∧ ∀ v : Nat, v < n → (0 ≤ rd far (v : Int) ↔ Rch (pairE ps n) s v)) := by
  have hb := bits_mul1 ⟨n, hn⟩
  have hrep : slices_Repeat_int_int.f [-1] (n : Int) = some (List.replicate n (-1)) := by
    unfold slices_Repeat_int_int.f
    rw [if_pos ⟨rfl, by omega, by omega, hb⟩, Int.toNat_natCast]
    rfl
  have hsl : s < (List.replicate n (-1 : Int)).length := by simpa using hs
  have hinv : BInv (pairE ps n) n s ((List.replicate n (-1 : Int)).set s 0) [(s : Int)] 0 0 := by
    have hr : ∀ v : Nat, v < n → rd ((List.replicate n (-1 : Int)).set s 0) (v : Int) = if v = s then 0 else -1 := fun v hv => by
      rw [rd_set _ s v 0 hsl]
      by_cases e : v = s
      · rw [if_pos e, if_pos e]
      · rw [if_neg e, if_neg e, rd_at _ v (by simpa using hv), List.getElem_replicate]
    refine ⟨by simp, ?_, ?_, ?_, fun p u v hp => absurd hp (Nat.not_lt_zero _), fun u v _ hv => absurd hv (Nat.not_lt_zero _), hs, by rw [hr s hs, if_pos rfl]; decide⟩
    · rw [List.countP_set hsl, count_rep, List.getElem_replicate, if_pos (by decide), if_neg (by decide), List.length_singleton]
      omega
    · intro x hx
      rw [List.mem_singleton.1 hx]
      exact ⟨s, rfl, hs, by rw [hr s hs, if_pos rfl]; decide, Rch.refl _ _⟩
    · intro v hv h0
      rw [hr v hv] at h0 ⊢
      by_cases e : v = s
      · rw [if_pos e, e]
        exact ⟨List.mem_singleton.2 rfl, by simp⟩
      · rw [if_neg e] at h0
        omega
  obtain ⟨far, hf, hp⟩ := dist_l0 ps hl n s (by omega) n 0 rfl _ _ hinv
  refine ⟨far, ?_, hp⟩
  unfold impl_distances.f
  refine ev_call hrep (ev_pos (by omega) (ev_pos (by simp; omega) ?_))
  rw [Int.toNat_natCast]
  exact hf

theorem l1In_eq (a b c : Int) : spec_l1In.f a b c = some (decide (b ≤ a ∧ a ≤ c)) := by
  unfold spec_l1In.f
  by_cases h : b ≤ a <;> simp [h]

theorem rd_claim (l : List S37) (i : Nat) (hi : i < l.length) : rd_T37 l (i : Int) = l[i] := by
  unfold rd_T37
  rw [Int.toNat_natCast]
  exact getD_at l i hi _

/-- are these claims of so many friends? -/
def areCl (n : Int) (l : List S37) : Bool := decide (1 ≤ n ∧ n ≤ 8) && decide (l.length ≤ 20) && l.all (impl_AreClaims.ok n)
theorem implGood (n : Int) (l : List S37) : impl_AreClaims.f n l = some (areCl n l) := by
  unfold impl_AreClaims.f areCl
  rw [show (l.all (impl_AreClaims.ok n)) = !l.any fun c => !impl_AreClaims.ok n c by simp [List.any_eq_not_all_not]]
theorem liGood_l (n : Int) (l : List S37) (h1 : 1 ≤ n) (h2 : n ≤ 8) (hl : l.length ≤ 20) : ∀ i, i ≤ l.length → Ev (fun k => spec_liGood.l0 k n l (l.length : Int) (i : Int)) ((l.drop i).all (impl_AreClaims.ok n)) := by
  have e : wrap64 (n - 1) = n - 1 := w64 (by omega) (by omega)
  refine ev_down l.length _ _ (Ev.step (f := fun _ => some true) (fun k => by simp only [spec_liGood.l0]; rw [if_neg (by omega)]) (ev_eq (by simp) (Ev.now true))) (fun i hi ih => ?_)
  have hd : l.drop i = l[i] :: l.drop (i + 1) := List.drop_eq_getElem_cons hi
  refine Ev.step (f := fun k => if decide (0 ≤ l[i].f0 ∧ l[i].f0 ≤ n - 1) = true then (if decide (0 ≤ l[i].f1 ∧ l[i].f1 ≤ n - 1) = true then spec_liGood.l0 k n l (l.length : Int) ((i + 1 : Nat) : Int) else some false) else some false) (fun k => ?_) ?_
  · have hg := rd_claim l i hi
    simp only [spec_liGood.l0, l1In_eq, e, hg, Option.bind_some]
    rw [if_pos (by omega), if_pos (by omega), if_pos (by omega), w64 (n := (i : Int) + 1) (by omega) (by omega)]
    rfl
  · rw [hd, List.all_cons]
    unfold impl_AreClaims.ok at ih ⊢
    by_cases ha : 0 ≤ l[i].f0 ∧ l[i].f0 ≤ n - 1
    · by_cases hb : 0 ≤ l[i].f1 ∧ l[i].f1 ≤ n - 1
      · refine ev_pos (by simp [ha]) (ev_pos (by simp [hb]) (ev_eq ?_ ih))
        simp [ha, hb]
      · exact ev_pos (by simp [ha]) (ev_neg (by simp [hb]) (ev_eq (by simp [hb]) (Ev.now false)))
    · exact ev_neg (by simp [ha]) (ev_eq (by simp [ha]) (Ev.now false))
theorem liGood_ev (n : Int) (l : List S37) (hb : l.length ≤ 9223372036854775807) : Ev (fun k => spec_liGood.f k n l) (areCl n l) := by
  unfold spec_liGood.f spec_liFriends.f areCl
  simp only [l1In_eq, Option.bind_some]
  by_cases h : 1 ≤ n ∧ n ≤ 8
  · refine ev_pos (by simp [h]) ?_
    by_cases hl : l.length ≤ 20
    · refine Ev.step (f := fun k => spec_liGood.l0 k n l (l.length : Int) 0) (fun k => ?_) (ev_eq ?_ (liGood_l n l h.1 h.2 hl 0 (Nat.zero_le _)))
      · simp only [spec_liGood.j0]
        rw [if_neg (by simp; omega)]
      · simp [h, hl]
    · refine Ev.step (f := fun k => some false) (fun k => ?_) (ev_eq (by simp [hl]) (Ev.now false))
      simp only [spec_liGood.j0]
      rw [if_pos (by simp; omega)]
  · refine ev_neg (by simpa using h) (Ev.step (f := fun k => some false) (fun k => ?_) (ev_eq (by simp [h]) (Ev.now false)))
    simp only [spec_liGood.j0]
    first | rw [if_pos rfl] | rw [if_pos trivial]

theorem szClaimS_val (l : List S40) (h : l.length ≤ 9223372036854775807) : laws_szClaimS.f l 1048576 = some (if l.length ≤ 1048576 then 1048576 - (l.length : Int) else -1) := by
  unfold laws_szClaimS.f
  rw [w64 (by omega) (by omega)]
  by_cases hl : l.length ≤ 1048576
  · rw [if_neg (by omega), if_pos hl]
  · rw [if_pos (by omega), if_neg hl]

def cvClaim (y : S40) : S37 := ⟨y.f0, y.f1, y.f2⟩
theorem toClaimS_ev (l : List S40) (h : l.length ≤ 1048576) : Ev (fun k => laws_toClaimS.f k l) (l.map cvClaim) := by
  unfold laws_toClaimS.f
  refine ev_pos (by omega) (ev_pos (by omega) ?_)
  refine ev_fill l z37 cvClaim (fun k st i => laws_toClaimS.l0 k l st i) (fun k st i hi hst => ?_) (fun k st hst => ?_)
  · have e : l.getD i z40 = l[i] := getD_at l i hi _
    simp only [laws_toClaimS.l0, rd_T40, Int.toNat_natCast]
    rw [if_pos (by omega), if_pos (by omega), e]
    simp only [laws_toClaim.f, Option.bind_some, cvClaim]
    rw [if_pos (by omega), w64 (by omega) (by omega)]
    rfl
  · simp only [laws_toClaimS.l0]
    rw [if_neg (by omega)]

theorem eqClaimS_ev (l : List S37) (h : l.length ≤ 1048576) : Ev (fun k => laws_eqClaimS.f k l l) true := by
  unfold laws_eqClaimS.f
  refine ev_pos rfl (ev_same l (fun k i => laws_eqClaimS.l0 k l l i) (fun k i hi => ?_) (fun k => ?_))
  · simp only [laws_eqClaimS.l0]
    rw [if_pos (by omega), if_pos (by omega), if_pos (by omega)]
    unfold laws_eqClaim.f
    rw [if_pos rfl, if_pos rfl, if_neg (by simp)]
    simp only [Option.bind_some, if_true]
    rw [w64 (by omega) (by omega)]
    rfl
  · simp only [laws_eqClaimS.l0]
    rw [if_neg (by omega)]

theorem markClaimS_ev (l : List S37) (h : l.length ≤ 1048576) : ∃ l', l'.length = l.length ∧ Ev (fun k => laws_markClaimS.f k l 1) (1 + 3 * (l.length : Int), l') := by
  unfold laws_markClaimS.f
  refine ev_mark l.length 3 (fun k st a i => laws_markClaimS.l0 k st a i) 1 (fun st i hi hst => ?_) (fun k st hst => ?_) l rfl
  · refine ⟨?_, ?_, fun k => ?_⟩
    rotate_left 2
    · simp only [laws_markClaimS.l0, Option.bind_some]
      rw [if_pos (by omega), if_pos (by omega), w64 (n := 1 + 3 * (i : Int) + 1) (by omega) (by omega), w64 (n := 1 + 3 * (i : Int) + 1 + 1) (by omega) (by omega), w64 (n := 1 + 3 * (i : Int) + 1 + 1 + 1) (by omega) (by omega), w64 (n := (i : Int) + 1) (by omega) (by omega),
        show 1 + 3 * (i : Int) + 1 + 1 + 1 = 1 + 3 * ((i + 1 : Nat) : Int) by omega, show (i : Int) + 1 = ((i + 1 : Nat) : Int) by omega]
    · simp only [List.length_set]
      exact hst
  · simp only [laws_markClaimS.l0]
    rw [if_neg (by omega)]

/-- A loop that puts a mark into each index, c numbers further each time. -/
theorem ev_tabC {β : Type} (n : Nat) (c : Int) (m : Nat → β) (L : Nat → List β → Int → Int → Option (Int × List β)) (a : Int)
    (hstep : ∀ (st : List β) (i : Nat) r, i < n → st.length = n → Ev (fun k => L k (st.set i (m i)) (a + c * (i + 1 : Nat)) ((i + 1 : Nat) : Int)) r → Ev (fun k => L k st (a + c * i) (i : Int)) r)
    (hend : ∀ k st, st.length = n → L (k + 1) st (a + c * n) (n : Int) = some (a + c * n, st)) (l : List β) (hl : l.length = n) : Ev (fun k => L k l a 0) (a + c * n, (List.range n).map m) := by
  have key : ∀ d i, n - i = d → i ≤ n → ∀ st : List β, st.length = n → st.take i = (List.range i).map m → Ev (fun k => L k st (a + c * i) (i : Int)) (a + c * n, (List.range n).map m) := by
    intro d
    induction d with
    | zero =>
      intro i hd hi st hst hp
      obtain rfl : i = n := by omega
      rw [List.take_of_length_le (by omega)] at hp
      exact Ev.step (f := fun _ => some _) (fun k => by rw [hend k st hst, hp]) (Ev.now _)
    | succ d ih =>
      intro i hd hi st hst hp
      exact hstep st i _ (by omega) hst (ih (i + 1) (by omega) (by omega) _ (by simpa using hst) (tab_set n m st hst i (by omega) hp))
  simpa using key n 0 rfl (Nat.zero_le _) l hl (by simp)

theorem eqIntS_ev (l : List Int) (h : l.length ≤ 1048576) : Ev (fun k => laws_eqIntS.f k l l) true := by
  unfold laws_eqIntS.f
  refine ev_pos rfl (ev_same l (fun k i => laws_eqIntS.l0 k l l i) (fun k i hi => ?_) (fun k => ?_))
  · simp only [laws_eqIntS.l0]
    rw [if_pos (by omega), if_pos (by omega), if_pos (by omega), if_pos trivial, w64 (by omega) (by omega)]
    rfl
  · simp only [laws_eqIntS.l0]
    rw [if_neg (by omega)]

def mkIntAt (b : Int) (i : Nat) : Int := b + 1 * (i : Int)
theorem markIntS_at (b : Int) (hb : 0 ≤ b) (hb2 : b ≤ 1099511627776) (l : List Int) (h : l.length ≤ 1048576) : Ev (fun k => laws_markIntS.f k l b) (b + 1 * (l.length : Int), (List.range l.length).map (mkIntAt b)) := by
  unfold laws_markIntS.f
  refine ev_tabC l.length 1 (mkIntAt b) (fun k st a i => laws_markIntS.l0 k st a i) b (fun st i r hi hst hr => ?_) (fun k st hst => ?_) l rfl
  · refine Ev.step (fun k => ?_) hr
    have w1 : wrap64 (b + 1 * (i : Int) + 1) = b + 1 * ((i + 1 : Nat) : Int) := by rw [w64 (by omega) (by omega)]; omega
    have w5 : wrap64 ((i : Int) + 1) = ((i + 1 : Nat) : Int) := by rw [w64 (by omega) (by omega)]; omega
    rw [laws_markIntS.l0, if_pos (by omega), if_pos (by omega), Int.toNat_natCast, w1, w5]
    rfl
  · rw [laws_markIntS.l0, if_neg (by omega)]
theorem heldIntS_at (b : Int) (hb : 0 ≤ b) (hb2 : b ≤ 1099511627776) (n : Nat) (h : n ≤ 1048576) : Ev (fun k => laws_heldIntS.f k ((List.range n).map (mkIntAt b)) b) (b + 1 * (n : Int)) := by
  unfold laws_heldIntS.f
  have hl : ((List.range n).map (mkIntAt b)).length = n := by simp
  have := ev_down n (fun i k => laws_heldIntS.l0 k ((List.range n).map (mkIntAt b)) (b + 1 * (i : Int)) (i : Int)) (fun _ => b + 1 * (n : Int)) (Ev.step (f := fun _ => some _) (fun k => by rw [laws_heldIntS.l0, if_neg (by rw [hl]; omega)]) (Ev.now _)) (fun i hi ih => ?_) 0 (Nat.zero_le _)
  · simpa using this
  · refine Ev.step (fun k => ?_) ih
    have e : rd ((List.range n).map (mkIntAt b)) (i : Int) = mkIntAt b i := by
      unfold rd
      rw [Int.toNat_natCast, getD_at _ i (by rw [hl]; exact hi)]
      simp
    have w1 : wrap64 (b + 1 * (i : Int) + 1) = b + 1 * ((i + 1 : Nat) : Int) := by rw [w64 (by omega) (by omega)]; omega
    have w5 : wrap64 ((i : Int) + 1) = ((i + 1 : Nat) : Int) := by rw [w64 (by omega) (by omega)]; omega
    rw [laws_heldIntS.l0, if_pos (by rw [hl]; omega), if_pos (by omega), e, w1, w5]
    unfold mkIntAt
    rw [if_pos rfl]
theorem LLRD_atInt (l : List (List Int)) (i : Nat) (h : i < l.length) : rd_L4 l (i : Int) = l[i] := by
  unfold rd_L4
  rw [Int.toNat_natCast]
  exact getD_at l i h _
theorem eqIntSS_ev (l : List (List Int)) (h : l.length ≤ 1048576) (hr : ∀ x, x ∈ l → x.length ≤ 1048576) : Ev (fun k => laws_eqIntSS.f k l l) true := by
  unfold laws_eqIntSS.f
  refine ev_pos rfl ((ev_down l.length (fun i k => laws_eqIntSS.l0 k l l (i : Int)) (fun _ => true) (Ev.step (f := fun _ => some true) (fun k => by simp only [laws_eqIntSS.l0]; rw [if_neg (by omega)]) (Ev.now _)) (fun i hi ih => ?_)) 0 (Nat.zero_le _))
  have w5 : wrap64 ((i : Int) + 1) = ((i + 1 : Nat) : Int) := by rw [w64 (by omega) (by omega)]; omega
  refine Ev.step (f := fun k => (laws_eqIntS.f k l[i] l[i]).bind fun t => if t = true then laws_eqIntSS.l0 k l l ((i + 1 : Nat) : Int) else some false) (fun k => ?_) (Ev.bind (eqIntS_ev l[i] (hr _ (List.getElem_mem hi))) (ev_pos rfl ih))
  simp only [laws_eqIntSS.l0, LLRD_atInt l i hi]
  rw [if_pos (by omega), if_pos (by omega), if_pos (by omega), w5]
/-- how many there are in all the rows -/
def totInt : List (List Int) → Nat
  | [] => 0
  | x :: xs => x.length + totInt xs
def marksInt : Int → List (List Int) → List (List Int)
  | _, [] => []
  | b, x :: xs => (List.range x.length).map (mkIntAt b) :: marksInt (b + 1 * (x.length : Int)) xs
theorem totInt_le {l : List (List Int)} {x : List Int} (h : x ∈ l) : x.length ≤ totInt l := by
  induction l with
  | nil => cases h
  | cons y l ih =>
    unfold totInt
    rcases List.mem_cons.1 h with rfl | h
    · omega
    · have := ih h
      omega
theorem markIntSS_l (l : List (List Int)) : ∀ b : Int, 0 ≤ b → totInt l ≤ 1048576 → b + 1 * (totInt l : Int) ≤ 1048576 * 4 → Ev (fun k => markIntSS k l b) (b + 1 * (totInt l : Int), marksInt b l) := by
  induction l with
  | nil => intro b _ _ _; exact ev_eq (by simp [totInt, marksInt]) (Ev.now (b, []))
  | cons x l ih =>
    intro b hb ht hb2
    unfold totInt at ht hb2 ⊢
    unfold markIntSS marksInt
    have e : b + 1 * (x.length : Int) + 1 * (totInt l : Int) = b + 1 * ((x.length + totInt l : Nat) : Int) := by omega
    have h2 := ih (b + 1 * (x.length : Int)) (by omega) (by omega) (by omega)
    rw [e] at h2
    exact Ev.bind (markIntS_at b hb (by omega) x (by omega)) (Ev.bind h2 (Ev.now _))
theorem markIntSS_ev (l : List (List Int)) (hl : l.length ≤ 1048576) (h : totInt l ≤ 1048576) : Ev (fun k => laws_markIntSS.f k l 1) (1 + 1 * (totInt l : Int), marksInt 1 l) := by
  unfold laws_markIntSS.f
  exact ev_pos (by omega) (markIntSS_l l 1 (by omega) h (by omega))
theorem marksInt_len : ∀ (l : List (List Int)) (b : Int), (marksInt b l).length = l.length := by
  intro l
  induction l with
  | nil => intro b; rfl
  | cons x l ih => intro b; unfold marksInt; rw [List.length_cons, List.length_cons, ih]
theorem heldIntSS_l (l : List (List Int)) : ∀ (pre : List (List Int)) (b : Int), 0 ≤ b → totInt l ≤ 1048576 → b + 1 * (totInt l : Int) ≤ 1048576 * 4 → pre.length + l.length ≤ 1048576 → Ev (fun k => laws_heldIntSS.l0 k (pre ++ marksInt b l) b (pre.length : Int)) (b + 1 * (totInt l : Int)) := by
  induction l with
  | nil =>
    intro pre b _ _ _ hp
    have hn : (pre ++ marksInt b []).length = pre.length := by simp [marksInt]
    refine Ev.step (f := fun _ => some b) (fun k => ?_) (ev_eq (by simp [totInt]) (Ev.now b))
    simp only [laws_heldIntSS.l0]
    rw [if_neg (by omega)]
  | cons x l ih =>
    intro pre b hb ht hb2 hp
    unfold totInt at ht hb2 ⊢
    unfold marksInt
    rw [List.length_cons] at hp
    have e : b + 1 * (x.length : Int) + 1 * (totInt l : Int) = b + 1 * ((x.length + totInt l : Nat) : Int) := by omega
    have h2 := ih (pre ++ [(List.range x.length).map (mkIntAt b)]) (b + 1 * (x.length : Int)) (by omega) (by omega) (by omega) (by rw [List.length_append, List.length_cons, List.length_nil]; omega)
    rw [e] at h2
    have hpl : ((pre ++ [(List.range x.length).map (mkIntAt b)]).length : Int) = (pre.length : Int) + 1 := by simp
    rw [hpl, List.append_assoc] at h2
    have hlen : (pre ++ (List.range x.length).map (mkIntAt b) :: marksInt (b + 1 * (x.length : Int)) l).length = pre.length + 1 + l.length := by rw [List.length_append, List.length_cons, marksInt_len]; omega
    have hlt : pre.length < (pre ++ (List.range x.length).map (mkIntAt b) :: marksInt (b + 1 * (x.length : Int)) l).length := by omega
    have hat : rd_L4 (pre ++ (List.range x.length).map (mkIntAt b) :: marksInt (b + 1 * (x.length : Int)) l) (pre.length : Int) = (List.range x.length).map (mkIntAt b) := by
      rw [LLRD_atInt _ _ hlt]
      simp
    have w5 : wrap64 ((pre.length : Int) + 1) = (pre.length : Int) + 1 := w64 (by omega) (by omega)
    refine Ev.step (f := fun k => (laws_heldIntS.f k ((List.range x.length).map (mkIntAt b)) b).bind fun t => if t < 0 then some (-1) else laws_heldIntSS.l0 k (pre ++ (List.range x.length).map (mkIntAt b) :: marksInt (b + 1 * (x.length : Int)) l) t ((pre.length : Int) + 1)) (fun k => ?_) (Ev.bind (heldIntS_at b hb (by omega) x.length (by omega)) (ev_neg (by omega) h2))
    simp only [laws_heldIntSS.l0, hat]
    rw [if_pos (by omega), if_pos (by omega), w5]
theorem heldIntSS_ev (l : List (List Int)) (hl : l.length ≤ 1048576) (h : totInt l ≤ 1048576) : Ev (fun k => laws_heldIntSS.f k (marksInt 1 l) 1) (1 + 1 * (totInt l : Int)) := by
  unfold laws_heldIntSS.f
  exact heldIntSS_l l [] 1 (by omega) h (by omega) (by simpa using hl)

/-- two friends that a claim joins -/
def clE (cl : List S37) (u v : Nat) : Prop := ∃ c, c ∈ cl ∧ ((c.f0 = (u : Int) ∧ c.f1 = (v : Int)) ∨ (c.f0 = (v : Int) ∧ c.f1 = (u : Int)))
theorem clE_symm (cl : List S37) (u v : Nat) (h : clE cl u v) : clE cl v u := by
  obtain ⟨c, hc, h⟩ := h
  exact ⟨c, hc, h.symm⟩
def okCl (n : Nat) (cl : List S37) : Prop := ∀ c, c ∈ cl → 0 ≤ c.f0 ∧ c.f0 < n ∧ 0 ≤ c.f1 ∧ c.f1 < n
theorem pair_cl (n : Nat) (cl : List S37) (hok : okCl n cl) (a b : Nat) : Rch (pairE (cl.map cgPair) n) a b ↔ Rch (clE cl) a b := by
  constructor
  · refine fun h => Rch.imp (fun x y e => .inr ?_) h
    have h3 := e.2.2
    unfold pairB at h3
    rw [Bool.and_eq_true, List.any_eq_true] at h3
    obtain ⟨_, p, hp, hq⟩ := h3
    obtain ⟨c, hc, rfl⟩ := List.mem_map.1 hp
    rw [Bool.and_eq_true, beq_iff_eq, beq_iff_eq] at hq
    refine ⟨c, hc, ?_⟩
    unfold cgPair mn mx at hq
    simp only at hq
    obtain ⟨q1, q2⟩ := hq
    split at q1 <;> split at q2 <;> split at q1 <;> split at q2 <;> omega
  · refine fun h => Rch.imp (fun x y e => ?_) h
    by_cases hxy : x = y
    · exact .inl hxy
    · refine .inr ?_
      obtain ⟨c, hc, h⟩ := e
      have ho := hok c hc
      refine ⟨by omega, by omega, ?_⟩
      unfold pairB
      rw [Bool.and_eq_true, List.any_eq_true]
      refine ⟨decide_eq_true hxy, cgPair c, List.mem_map.2 ⟨c, hc, rfl⟩, ?_⟩
      rw [Bool.and_eq_true, beq_iff_eq, beq_iff_eq]
      unfold cgPair mn mx
      simp only
      constructor <;> (split <;> split <;> omega)
/-- of the labels: each is told of one that is reached and is no greater -/
def SInv (cl : List S37) (n : Nat) (lst : List Int) : Prop := lst.length = n ∧ ∀ x : Nat, x < n → ∃ y : Nat, rd lst (x : Int) = (y : Int) ∧ y ≤ x ∧ Rch (clE cl) x y
def same (lst : List Int) (c : S37) : Prop := rd lst c.f0 = rd lst c.f1
def PInv (cl : List S37) (n : Nat) (lst : List Int) : Prop := SInv cl n lst ∧ ∀ c, c ∈ cl → same lst c
theorem PInv.of_rch {cl : List S37} {n : Nat} {lst : List Int} (h : PInv cl n lst) {a b : Nat} (hr : Rch (clE cl) a b) : rd lst (a : Int) = rd lst (b : Int) :=
  hr (fun x => rd lst (a : Int) = rd lst (x : Int)) rfl (fun x y hx e => by
    obtain ⟨c, hc, e⟩ := e
    have hs := h.2 c hc
    unfold same at hs
    rcases e with ⟨e1, e2⟩ | ⟨e1, e2⟩
    · rw [e1, e2] at hs
      exact hx.trans hs
    · rw [e1, e2] at hs
      exact hx.trans hs.symm)
theorem PInv.rch_of {cl : List S37} {n : Nat} {lst : List Int} (h : PInv cl n lst) {a b : Nat} (ha : a < n) (hb : b < n) (he : rd lst (a : Int) = rd lst (b : Int)) : Rch (clE cl) a b := by
  obtain ⟨y, h1, _, h3⟩ := h.1.2 a ha
  obtain ⟨z, g1, _, g3⟩ := h.1.2 b hb
  have : y = z := by omega
  subst this
  exact h3.trans (g3.symm (clE_symm cl))
/-- the groups with the first labels -/
def gOf (lst : List Int) (n m : Nat) : List Int := idxs (fun j => decide (rd lst j = (m : Int))) n
def grpN (lst : List Int) (n : Nat) : Nat → List (List Int)
  | 0 => []
  | m + 1 => if 0 < (gOf lst n m).length then grpN lst n m ++ [gOf lst n m] else grpN lst n m
theorem grpN_len (lst : List Int) (n : Nat) : ∀ m, (grpN lst n m).length ≤ m ∧ ∀ x, x ∈ grpN lst n m → x.length ≤ n := by
  intro m
  induction m with
  | zero => exact ⟨Nat.le_refl _, fun x hx => by cases hx⟩
  | succ m ih =>
    unfold grpN
    split
    · refine ⟨by rw [List.length_append, List.length_singleton]; have := ih.1; omega, fun x hx => ?_⟩
      rcases List.mem_append.1 hx with hx | hx
      · exact ih.2 x hx
      · rw [List.mem_singleton.1 hx]
        exact idxs_len _ n
    · exact ⟨by have := ih.1; omega, ih.2⟩
/-! what the reference does -/
theorem l34_ev (lst : List Int) (n : Nat) (hn : n ≤ 8) (hl : lst.length = n) : ∀ m, m ≤ n → Ev (fun k => spec_ClaimGroups.l3 k (n : Int) lst (grpN lst n m) (m : Int)) (grpN lst n n, true) := by
  refine ev_down n (fun m k => spec_ClaimGroups.l3 k (n : Int) lst (grpN lst n m) (m : Int)) (fun _ => (grpN lst n n, true)) (Ev.step (f := fun _ => some (grpN lst n n, true)) (fun k => by simp only [spec_ClaimGroups.l3]; rw [if_neg (by omega)]) (Ev.now _)) (fun m hm ih => ?_)
  have hgl := (grpN_len lst n m).1
  have w : wrap64 ((m : Int) + 1) = ((m + 1 : Nat) : Int) := by rw [w64 (by omega) (by omega)]; omega
  have z2 : (grpN lst n m).length < 5864062014805 := Nat.lt_of_le_of_lt (Nat.le_trans hgl (Nat.le_of_lt hm)) (by omega)
  have h4 : Ev (fun k => spec_ClaimGroups.l4 k (n : Int) lst (grpN lst n m) (m : Int) [] lst (n : Int) 0) (grpN lst n n, true) := by
    have := ev_down n (fun i k => spec_ClaimGroups.l4 k (n : Int) lst (grpN lst n m) (m : Int) (idxs (fun j => decide (rd lst j = (m : Int))) i) lst (n : Int) (i : Int)) (fun _ => (grpN lst n n, true)) ?_ (fun i hi ih4 => ?_) 0 (Nat.zero_le _)
    · simpa [idxs] using this
    · by_cases hg : 0 < (gOf lst n m).length
      · have e : grpN lst n (m + 1) = grpN lst n m ++ [gOf lst n m] := by rw [grpN, if_pos hg]
        rw [e] at ih
        refine Ev.step (fun k => ?_) ih
        simp only [spec_ClaimGroups.l4]
        rw [if_neg (Int.lt_irrefl _), if_pos (show (((idxs (fun j => decide (rd lst j = (m : Int))) n).length : Nat) : Int) > 0 from Int.ofNat_lt.2 hg), if_pos z2, w]
        rfl
      · have e : grpN lst n (m + 1) = grpN lst n m := by rw [grpN, if_neg hg]
        rw [e] at ih
        refine Ev.step (fun k => ?_) ih
        simp only [spec_ClaimGroups.l4]
        rw [if_neg (Int.lt_irrefl _), if_neg (show ¬ (((idxs (fun j => decide (rd lst j = (m : Int))) n).length : Nat) : Int) > 0 from fun h => hg (Int.ofNat_lt.1 h)), w]
    · have hil := idxs_len (fun j => decide (rd lst j = (m : Int))) i
      have i0 : (0 : Int) ≤ (i : Int) := by omega
      have i1 : (i : Int) < (n : Int) := by omega
      have i2 : (i : Int) < (lst.length : Int) := by omega
      have w2 : wrap64 ((i : Int) + 1) = ((i + 1 : Nat) : Int) := by rw [w64 (by omega) (by omega)]; omega
      have z3 : (idxs (fun j => decide (rd lst j = (m : Int))) i).length < 17592186044416 := Nat.lt_of_le_of_lt (Nat.le_trans hil (Nat.le_of_lt hi)) (by omega)
      rw [idxs_succ] at ih4
      refine Ev.step (fun k => ?_) ih4
      simp only [spec_ClaimGroups.l4]
      rw [if_pos i1, if_pos i0, if_pos i2, w2]
      by_cases hq : rd lst (i : Int) = (m : Int)
      · rw [if_pos hq, if_pos z3, if_pos (decide_eq_true hq)]
      · rw [if_neg hq, if_neg (by simpa using hq), List.append_nil]
  refine Ev.step (fun k => ?_) h4
  simp only [spec_ClaimGroups.l3]
  rw [if_pos (by omega), hl]
/-- the sum of the labels -/
def tot (l : List Int) : Nat := (l.map Int.toNat).sum
theorem tot_set (l : List Int) (i : Nat) (x : Int) (h : i < l.length) : tot (l.set i x) + (rd l (i : Int)).toNat = tot l + x.toNat := by
  rw [rd_at l i h]
  induction l generalizing i with
  | nil => cases h
  | cons y l ih =>
    cases i with
    | zero =>
      simp only [List.set_cons_zero, tot, List.map_cons, List.sum_cons, List.getElem_cons_zero]
      omega
    | succ i =>
      have := ih i (by simpa using h)
      simp only [List.set_cons_succ, tot, List.map_cons, List.sum_cons, List.getElem_cons_succ] at this ⊢
      omega
theorem SInv.both {cl : List S37} {n : Nat} {lst : List Int} (h : SInv cl n lst) {a b : Nat} (ha : a < n) (hb : b < n) (e : clE cl a b) (hne : rd lst (a : Int) ≠ rd lst (b : Int)) (low : Int) (hlow : low = if rd lst (a : Int) < rd lst (b : Int) then rd lst (a : Int) else rd lst (b : Int)) :
    SInv cl n ((lst.set a low).set b low) ∧ tot ((lst.set a low).set b low) < tot lst := by
  obtain ⟨hl, hx⟩ := h
  obtain ⟨y, y1, y2, y3⟩ := hx a ha
  obtain ⟨z, z1, z2, z3⟩ := hx b hb
  have hla : a < lst.length := by omega
  have hlb : b < (lst.set a low).length := by rw [List.length_set]; omega
  have hab : a ≠ b := fun h => hne (by rw [h])
  obtain ⟨v, hv, hva, hvb, hra⟩ : ∃ v : Nat, low = (v : Int) ∧ v ≤ y ∧ v ≤ z ∧ Rch (clE cl) a v := by
    rw [hlow, y1, z1]
    by_cases h : (y : Int) < (z : Int)
    · exact ⟨y, if_pos h, Nat.le_refl _, by omega, y3⟩
    · exact ⟨z, if_neg h, by omega, Nat.le_refl _, (Rch.step (Rch.refl _ a) e).trans z3⟩
  refine ⟨⟨by rw [List.length_set, List.length_set]; exact hl, fun x hxn => ?_⟩, ?_⟩
  · rw [rd_set _ b x low hlb, rd_set _ a x low hla]
    by_cases xb : x = b
    · subst xb
      rw [if_pos rfl]
      exact ⟨v, hv, by omega, (Rch.step (Rch.refl _ x) (clE_symm cl _ _ e)).trans hra⟩
    · rw [if_neg xb]
      by_cases xa : x = a
      · subst xa
        rw [if_pos rfl]
        exact ⟨v, hv, by omega, hra⟩
      · rw [if_neg xa]
        exact hx x hxn
  · have t1 := tot_set lst a low hla
    have t2 := tot_set (lst.set a low) b low hlb
    rw [rd_set _ a b low hla, if_neg (fun h => hab h.symm)] at t2
    rw [y1, hv] at t1
    rw [z1, hv] at t2
    rw [hv]
    rw [y1, z1] at hne
    omega
theorem pass_ev (cl : List S37) (n : Nat) (hn : n ≤ 8) (hcl : cl.length ≤ 20) (hok : okCl n cl) (T : Nat)
    (next : ∀ lst, SInv cl n lst → tot lst < T → ∃ lst', PInv cl n lst' ∧ Ev (fun k => spec_ClaimGroups.l1 k (n : Int) cl lst true) (grpN lst' n n, true)) :
    ∀ d j, cl.length - j = d → j ≤ cl.length → ∀ (lst : List Int) (b : Bool), SInv cl n lst → tot lst ≤ T → (b = true → tot lst < T) → (b = false → ∀ p (hp : p < cl.length), p < j → same lst cl[p]) →
      ∃ lst', PInv cl n lst' ∧ Ev (fun k => spec_ClaimGroups.l2 k (n : Int) cl lst b cl (cl.length : Int) (j : Int)) (grpN lst' n n, true) := by
  intro d
  induction d with
  | zero =>
    intro j hd hj lst b hS hT hb1 hb2
    obtain rfl : j = cl.length := by omega
    have hend : ∀ {r : List (List Int) × Bool}, Ev (fun k => spec_ClaimGroups.l1 k (n : Int) cl lst b) r → Ev (fun k => spec_ClaimGroups.l2 k (n : Int) cl lst b cl (cl.length : Int) (cl.length : Int)) r := fun h => Ev.step (fun k => by simp only [spec_ClaimGroups.l2]; rw [if_neg (Int.lt_irrefl _)]) h
    cases b with
    | true =>
      obtain ⟨lst', hP, hE⟩ := next lst hS (hb1 rfl)
      exact ⟨lst', hP, hend hE⟩
    | false =>
      refine ⟨lst, ⟨hS, fun c hc => ?_⟩, hend ?_⟩
      · obtain ⟨p, hp, rfl⟩ := List.getElem_of_mem hc
        exact hb2 rfl p hp hp
      · refine Ev.step (fun k => ?_) (l34_ev lst n hn hS.1 0 (Nat.zero_le _))
        simp only [spec_ClaimGroups.l1]
        rw [if_neg Bool.false_ne_true]
        rfl
  | succ d ih =>
    intro j hd hj lst b hS hT hb1 hb2
    have hlt : j < cl.length := by omega
    have d1 : cl.length - (j + 1) = d := by omega
    have w : wrap64 ((j : Int) + 1) = ((j + 1 : Nat) : Int) := by rw [w64 (by omega) (by omega)]; omega
    have hc := hok cl[j] (List.getElem_mem hlt)
    have hat : rd_T37 cl (j : Int) = cl[j] := rd_claim cl j hlt
    obtain ⟨a, ha⟩ := Int.eq_ofNat_of_zero_le hc.1
    obtain ⟨b', hb'⟩ := Int.eq_ofNat_of_zero_le hc.2.2.1
    have hll := hS.1
    have j0 : (0 : Int) ≤ (j : Int) := by omega
    have j1 : (j : Int) < (cl.length : Int) := by omega
    have a0 : (0 : Int) ≤ (a : Int) := by omega
    have a1 : (a : Int) < (lst.length : Int) := by omega
    have b0 : (0 : Int) ≤ (b' : Int) := by omega
    have b1 : (b' : Int) < (lst.length : Int) := by omega
    obtain ⟨low, hlow⟩ : ∃ low, low = if rd lst (a : Int) < rd lst (b' : Int) then rd lst (a : Int) else rd lst (b' : Int) := ⟨_, rfl⟩
    have hleast : spec_l1Least.f (rd lst (a : Int)) (rd lst (b' : Int)) = some low := by
      unfold spec_l1Least.f
      rw [hlow]
      split <;> rfl
    have hstep : ∀ k, spec_ClaimGroups.l2 (k + 1) (n : Int) cl lst b cl (cl.length : Int) (j : Int) = if rd lst (a : Int) = low then (if rd lst (b' : Int) = low then spec_ClaimGroups.l2 k (n : Int) cl lst b cl (cl.length : Int) ((j + 1 : Nat) : Int) else spec_ClaimGroups.l2 k (n : Int) cl ((lst.set a low).set b' low) true cl (cl.length : Int) ((j + 1 : Nat) : Int)) else spec_ClaimGroups.l2 k (n : Int) cl ((lst.set a low).set b' low) true cl (cl.length : Int) ((j + 1 : Nat) : Int) := fun k => by
      simp only [spec_ClaimGroups.l2, hat, ha, hb', w]
      rw [if_pos j1, if_pos j0, if_pos j1, if_pos a0, if_pos a1, if_pos b0, if_pos b1, hleast]
      rfl
    have he : clE cl a b' := ⟨cl[j], List.getElem_mem hlt, .inl ⟨ha, hb'⟩⟩
    have hchg : rd lst (a : Int) ≠ rd lst (b' : Int) → ∃ lst', PInv cl n lst' ∧ Ev (fun k => spec_ClaimGroups.l2 k (n : Int) cl ((lst.set a low).set b' low) true cl (cl.length : Int) ((j + 1 : Nat) : Int)) (grpN lst' n n, true) := fun hne => by
      obtain ⟨hS', hT'⟩ := hS.both (by omega) (by omega) he hne low hlow
      exact ih (j + 1) d1 hlt _ true hS' (by omega) (fun _ => by omega) (fun h => by cases h)
    by_cases heq : rd lst (a : Int) = rd lst (b' : Int)
    · have hl1 : rd lst (a : Int) = low := by rw [hlow, ← heq]; split <;> rfl
      have hl2 : rd lst (b' : Int) = low := by rw [← heq]; exact hl1
      obtain ⟨lst', hP, hE⟩ := ih (j + 1) d1 hlt lst b hS hT hb1 (fun hbf p hp hpj => by
        by_cases hpj' : p = j
        · subst hpj'
          unfold same
          rw [ha, hb']
          exact heq
        · exact hb2 hbf p hp (by omega))
      exact ⟨lst', hP, Ev.step hstep (ev_pos hl1 (ev_pos hl2 hE))⟩
    · obtain ⟨lst', hP, hE⟩ := hchg heq
      refine ⟨lst', hP, Ev.step hstep ?_⟩
      by_cases h1 : rd lst (a : Int) = low
      · exact ev_pos h1 (ev_neg (fun h2 => heq (h1.trans h2.symm)) hE)
      · exact ev_neg h1 hE
theorem l1_ev (cl : List S37) (n : Nat) (hn : n ≤ 8) (hcl : cl.length ≤ 20) (hok : okCl n cl) : ∀ T lst, SInv cl n lst → tot lst < T → ∃ lst', PInv cl n lst' ∧ Ev (fun k => spec_ClaimGroups.l1 k (n : Int) cl lst true) (grpN lst' n n, true) := by
  intro T
  induction T with
  | zero => intro lst _ h; exact absurd h (Nat.not_lt_zero _)
  | succ T ih =>
    intro lst hS hT
    obtain ⟨lst', hP, hE⟩ := pass_ev cl n hn hcl hok T ih cl.length 0 rfl (Nat.zero_le _) lst false hS (by omega) (fun h => by cases h) (fun _ p hp h => absurd h (Nat.not_lt_zero _))
    refine ⟨lst', hP, Ev.step (fun k => ?_) hE⟩
    simp only [spec_ClaimGroups.l1]
    rw [if_pos trivial]
    rfl
theorem l0_ev (cl : List S37) (n : Nat) (hn : n ≤ 8) (r : List (List Int) × Bool) (next : Ev (fun k => spec_ClaimGroups.l1 k (n : Int) cl ((List.range n).map fun i : Nat => (i : Int)) true) r) : ∀ d i, n - i = d → i ≤ n → ∀ lst : List Int, lst.length = n → (∀ x : Nat, x < i → rd lst (x : Int) = (x : Int)) → Ev (fun k => spec_ClaimGroups.l0 k (n : Int) cl lst (n : Int) (i : Int)) r := by
  intro d
  induction d with
  | zero =>
    intro i hd hi lst hl hx
    obtain rfl : i = n := by omega
    have e : lst = (List.range i).map fun i : Nat => (i : Int) := by
      apply List.ext_getElem (by simpa using hl)
      intro x h1 h2
      rw [← rd_at lst x h1, hx x (by omega)]
      simp
    rw [← e] at next
    refine Ev.step (fun k => ?_) next
    simp only [spec_ClaimGroups.l0]
    rw [if_neg (Int.lt_irrefl _)]
  | succ d ih =>
    intro i hd hi lst hl hx
    have hlt : i < n := by omega
    have w : wrap64 ((i : Int) + 1) = ((i + 1 : Nat) : Int) := by rw [w64 (by omega) (by omega)]; omega
    refine Ev.step (fun k => ?_) (ih (i + 1) (by omega) hlt (lst.set i (i : Int)) (by rw [List.length_set]; exact hl) (fun x hxi => by
      rw [rd_set lst i x _ (by omega)]
      by_cases e : x = i
      · rw [if_pos e, e]
      · rw [if_neg e]
        exact hx x (by omega)))
    simp only [spec_ClaimGroups.l0, w, Int.toNat_natCast]
    rw [if_pos (by omega), if_pos (by omega), if_pos (by omega)]
theorem spec_cg (cl : List S37) (n : Nat) (hn : n ≤ 8) (hcl : cl.length ≤ 20) (hok : okCl n cl) (hg : areCl (n : Int) cl = true) : ∃ lst, PInv cl n lst ∧ Ev (fun k => spec_ClaimGroups.f k (n : Int) cl) (grpN lst n n, true) := by
  have hS0 : SInv cl n ((List.range n).map fun i : Nat => (i : Int)) := by
    refine ⟨by simp, fun x hx => ⟨x, ?_, Nat.le_refl _, Rch.refl _ _⟩⟩
    rw [rd_at _ x (by simpa using hx)]
    simp
  obtain ⟨lst, hP, hE⟩ := l1_ev cl n hn hcl hok _ _ hS0 (Nat.lt_succ_self _)
  refine ⟨lst, hP, ?_⟩
  have h0 := l0_ev cl n hn _ hE n 0 rfl (Nat.zero_le _) (List.replicate n 0) (by simp) (fun x hx => absurd hx (Nat.not_lt_zero _))
  unfold spec_ClaimGroups.f
  refine Ev.bind (liGood_ev (n : Int) cl (by omega)) (ev_pos hg (ev_pos (by omega) (ev_pos (by rw [Int.toNat_natCast]; omega) ?_)))
  rw [Int.toNat_natCast]
  refine Ev.congr (fun k => ?_) h0
  rw [Option.bind_some, List.length_replicate]
  rfl
theorem areCl_of' {n : Int} {l : List S37} (h : areCl n l = true) : ∃ a : Nat, n = (a : Int) ∧ 1 ≤ a ∧ a ≤ 8 ∧ l.length ≤ 20 ∧ l.all (impl_AreClaims.ok (a : Int)) = true := by
  unfold areCl at h
  simp only [Bool.and_eq_true, decide_eq_true_eq] at h
  obtain ⟨⟨h1, h2⟩, h3⟩ := h
  refine ⟨n.toNat, by omega, by omega, by omega, h2, ?_⟩
  rw [show (n.toNat : Int) = n by omega]
  exact h3
/-! what the program does -/
theorem idxs_none (p : Int → Bool) (m : Nat) (h : ∀ j : Nat, j < m → p (j : Int) = false) : idxs p m = [] := by
  induction m with
  | zero => rfl
  | succ m ih =>
    rw [idxs_succ, ih (fun j hj => h j (by omega)), h m (by omega)]
    simp
theorem idxs_head (p : Int → Bool) (m : Nat) (hp : p (m : Int) = true) (h : ∀ j : Nat, j < m → p (j : Int) = false) : ∀ d, ∃ t, idxs p (m + 1 + d) = (m : Int) :: t := by
  intro d
  induction d with
  | zero =>
    refine ⟨[], ?_⟩
    rw [Nat.add_zero, idxs_succ, idxs_none p m h, if_pos hp]
    rfl
  | succ d ih =>
    obtain ⟨t, ht⟩ := ih
    refine ⟨t ++ if p ((m + 1 + d : Nat) : Int) = true then [((m + 1 + d : Nat) : Int)] else [], ?_⟩
    rw [show m + 1 + (d + 1) = (m + 1 + d) + 1 by omega, idxs_succ, ht]
    rfl
theorem idxs_same {p q : Int → Bool} {n : Nat} (h : ∀ i : Nat, i < n → p (i : Int) = q (i : Int)) : idxs p n = idxs q n := by
  unfold idxs
  apply List.filter_congr
  intro x hx
  obtain ⟨i, hi, rfl⟩ := List.mem_map.1 hx
  exact h i (List.mem_range.1 hi)
theorem impl_cg (cl : List S37) (n : Nat) (hn : n ≤ 8) (hcl : cl.length ≤ 20) (hok : okCl n cl) (hg : areCl (n : Int) cl = true) (lst : List Int) (hP : PInv cl n lst) : Ev (fun k => impl_ClaimGroups.f k (n : Int) cl) (grpN lst n n, true) := by
  unfold impl_ClaimGroups.f
  refine ev_pos (by rw [implGood, hg]) (Ev.bind (a := grpN lst n n) ?_ (Ev.now _))
  rw [Int.toNat_natCast]
  have h := ev_down n (fun i k => cgN k (n : Int) (cl.map cgPair) (n - i) i (grpN lst n i)) (fun _ => grpN lst n n) (Ev.congr (fun k => by rw [Nat.sub_self, cgN]) (Ev.now (grpN lst n n))) (fun i hi ih => ?_) 0 (Nat.zero_le _)
  · exact h
  · obtain ⟨far, hf, hfl, hfr⟩ := dist_ev (cl.map cgPair) (by rw [List.length_map]; omega) n i (by omega) hi
    obtain ⟨y, y1, y2, y3⟩ := hP.1.2 i hi
    have hyy : rd lst (y : Int) = (y : Int) := by rw [← hP.of_rch y3]; exact y1
    have hsame : idxs (cgIn far) n = idxs (fun j => decide (rd lst j = (y : Int))) n := idxs_same (fun j hj => by
      unfold cgIn
      rw [Bool.eq_iff_iff, decide_eq_true_eq, decide_eq_true_eq, hfr j hj, pair_cl n cl hok]
      constructor
      · exact fun hr => by rw [← hP.of_rch hr]; exact y1
      · exact fun he => hP.rch_of hi hj (by rw [he]; exact y1))
    obtain ⟨t, ht⟩ := idxs_head (fun j => decide (rd lst j = (y : Int))) y (decide_eq_true hyy) (fun j hj => decide_eq_false (fun he => by
      obtain ⟨z, z1, z2, _⟩ := hP.1.2 j (by omega)
      omega)) (n - (y + 1))
    rw [show y + 1 + (n - (y + 1)) = n by omega] at ht
    have hrd : rd (idxs (cgIn far) n) 0 = (y : Int) := by rw [hsame, ht]; rfl
    have hpos : 0 < (idxs (cgIn far) n).length := by rw [hsame, ht]; exact Nat.succ_pos _
    have hnext : (if rd (idxs (cgIn far) n) 0 = (i : Int) then grpN lst n i ++ [idxs (cgIn far) n] else grpN lst n i) = grpN lst n (i + 1) := by
      rw [hrd, grpN]
      by_cases hyi : y = i
      · subst hyi
        have e : gOf lst n y = idxs (cgIn far) n := by rw [hsame]; rfl
        rw [if_pos rfl, e, if_pos hpos]
      · have e : gOf lst n i = [] := idxs_none _ n (fun j hj => decide_eq_false (fun he => hyi (by
          obtain ⟨z, z1, z2, z3⟩ := hP.1.2 j hj
          have hz : z = i := by omega
          subst hz
          have := hP.of_rch z3
          omega)))
        rw [if_neg (by omega), e, if_neg (by simp)]
    rw [show n - i = (n - (i + 1)) + 1 by omega]
    refine Ev.bind hf (ev_pos ⟨by rw [Int.toNat_natCast]; exact hfl, by rw [Int.toNat_natCast]; exact hpos⟩ ?_)
    rw [Int.toNat_natCast, hnext]
    exact ih
/-- both come to the same, which is small -/
theorem both_cg (a : Int) (cl : List S37) (hl : cl.length ≤ 1048576) : ∃ v : List (List Int) × Bool, Ev (fun k => spec_ClaimGroups.f k a cl) v ∧ Ev (fun k => impl_ClaimGroups.f k a cl) v ∧ v.1.length ≤ 8 ∧ ∀ x, x ∈ v.1 → x.length ≤ 8 := by
  by_cases hg : areCl a cl = true
  · obtain ⟨n, rfl, h1, h2, h3, h4⟩ := areCl_of' hg
    have hok : okCl n cl := fun c hc => by
      have := List.all_eq_true.1 h4 c hc
      unfold impl_AreClaims.ok at this
      simp only [Bool.and_eq_true, decide_eq_true_eq] at this
      omega
    obtain ⟨lst, hP, hS⟩ := spec_cg cl n h2 h3 hok hg
    obtain ⟨g1, g2⟩ := grpN_len lst n n
    exact ⟨_, hS, impl_cg cl n h2 h3 hok hg lst hP, by simp only; omega, fun x hx => Nat.le_trans (g2 x hx) h2⟩
  · refine ⟨([], false), ?_, ?_, Nat.zero_le _, fun x hx => by cases hx⟩
    · unfold spec_ClaimGroups.f
      exact Ev.bind (liGood_ev a cl (by omega)) (ev_neg hg (Ev.now _))
    · unfold impl_ClaimGroups.f
      exact ev_neg (by rw [implGood]; simpa using hg) (Ev.now _)
theorem tot_le8 (l : List (List Int)) (h : ∀ x, x ∈ l → x.length ≤ 8) : totInt l ≤ l.length * 8 := by
  induction l with
  | nil => simp [totInt]
  | cons x l ih =>
    unfold totInt
    have h1 := h x List.mem_cons_self
    have h2 := ih (fun y hy => h y (List.mem_cons_of_mem _ hy))
    rw [List.length_cons, Nat.add_mul, Nat.one_mul]
    omega
theorem FnExactClaimGroups : laws_FnExactClaimGroups.Pure := by
  intro a l _ hl _
  refine Ev.rounds ?_
  unfold laws_FnExactClaimGroups.f
  refine ev_call (szClaimS_val l hl) ?_
  by_cases hs : l.length ≤ 1048576
  · rw [if_pos hs]
    have hc : (l.map cvClaim).length ≤ 1048576 := by simpa using hs
    have hT := toClaimS_ev l hs
    obtain ⟨l', hl', hM⟩ := markClaimS_ev (l.map cvClaim) hc
    obtain ⟨⟨v1, v2⟩, hS, hI, hv1, hv2⟩ := both_cg a (l.map cvClaim) hc
    simp only at hv1 hv2
    have ht := tot_le8 v1 hv2
    have hE := eqIntSS_ev v1 (by omega) (fun x hx => Nat.le_trans (hv2 x hx) (by decide))
    refine ev_neg (by omega) (Ev.bind hT (Ev.bind hS (Ev.bind hT (Ev.bind hI (Ev.bind hE (ev_pos rfl ?_))))))
    refine Ev.step (fun k => by simp only [laws_FnExactClaimGroups.j0]; rfl) ?_
    refine (ev_neg (by simp) (Ev.bind hT (Ev.bind (eqClaimS_ev _ hc) (ev_pos rfl (Ev.bind hM (ev_neg (by first | omega | (simp only; omega)) (Ev.bind hE (ev_pos rfl ?_))))))))
    refine Ev.step (fun k => by simp only [laws_FnExactClaimGroups.j1]; rfl) ?_
    refine (ev_neg (by simp) (Ev.bind (markIntSS_ev v1 (by omega) (by omega)) (Ev.bind (heldIntSS_ev v1 (by omega) (by omega)) (ev_neg (by first | omega | (simp only; omega)) (ev_pos rfl (Ev.bind hT (Ev.bind hI (Ev.bind hE (ev_pos rfl ?_)))))))))
    refine Ev.step (fun k => by simp only [laws_FnExactClaimGroups.j2]; rfl) ?_
    exact (ev_neg (by simp) (Ev.bind (heldIntSS_ev v1 (by omega) (by omega)) (ev_neg (by omega) (ev_pos rfl (Ev.now _)))))
  · rw [if_neg hs]
    exact ev_pos (by omega) (Ev.now _)

end Go.Proofs.Ytgmgicmgobjjcaa.Pure
