/- The gossip bound: behind fewer than 2n-4 calls not all of n friends know all news. No conditions. -/
set_option linter.unusedSimpArgs false
set_option linter.unusedVariables false
/- Gossip: so many calls at least. Plain. No conditions. -/
namespace Gs
set_option linter.unusedVariables false
theorem snocI {α : Type} {P : List α → Prop} (h0 : P []) (h1 : ∀ L l, P L → P (L ++ [l])) (L : List α) : P L := by
  have h : ∀ M : List α, P M.reverse := by
    intro M
    induction M with
    | nil => exact h0
    | cons l M ih => rw [List.reverse_cons]; exact h1 _ _ ih
  have := h L.reverse
  rwa [List.reverse_reverse] at this
/-- Whose news a friend knows behind calls. -/
def stepG (K : Nat → Nat → Prop) (c : Nat × Nat) : Nat → Nat → Prop := fun x j => K x j ∨ (x = c.1 ∧ K c.2 j) ∨ (x = c.2 ∧ K c.1 j)
def K (M : List (Nat × Nat)) : Nat → Nat → Prop := M.foldl stepG (fun x j => x = j)
theorem K_nil {x j : Nat} : K [] x j ↔ x = j := Iff.rfl
theorem K_snoc (M : List (Nat × Nat)) (c : Nat × Nat) (x j : Nat) : K (M ++ [c]) x j ↔ K M x j ∨ (x = c.1 ∧ K M c.2 j) ∨ (x = c.2 ∧ K M c.1 j) := by
  unfold K; rw [List.foldl_append]; exact Iff.rfl
theorem K_self (M : List (Nat × Nat)) (x : Nat) : K M x x := by
  refine snocI (P := fun M => K M x x) rfl ?_ M
  intro L l ih; rw [K_snoc]; exact .inl ih
theorem K_app (L M : List (Nat × Nat)) {x j : Nat} (h : K L x j) : K (L ++ M) x j := by
  refine snocI (P := fun M => K (L ++ M) x j) (by rw [List.append_nil]; exact h) ?_ M
  intro M l ih
  rw [← List.append_assoc, K_snoc]; exact .inl ih
/-- x's name turned into z. -/
def phi (x z y : Nat) : Nat := if y = x then z else y
theorem phi_x (x z : Nat) : phi x z x = z := if_pos rfl
theorem phi_o {x z y : Nat} (h : y ≠ x) : phi x z y = y := if_neg h
def ren (x z : Nat) (M : List (Nat × Nat)) : List (Nat × Nat) := (M.map fun c => (phi x z c.1, phi x z c.2)).filter fun c => decide (c.1 ≠ c.2)
theorem ren_app (x z : Nat) (L M : List (Nat × Nat)) : ren x z (L ++ M) = ren x z L ++ ren x z M := by simp [ren]
theorem ren_len (x z : Nat) (M : List (Nat × Nat)) : (ren x z M).length ≤ M.length := by
  have := List.length_filter_le (fun c : Nat × Nat => decide (c.1 ≠ c.2)) (M.map fun c => (phi x z c.1, phi x z c.2))
  simpa [ren] using this
/-- Calls of so many friends. -/
def In (S : List Nat) (M : List (Nat × Nat)) : Prop := ∀ c ∈ M, c.1 ∈ S ∧ c.2 ∈ S ∧ c.1 ≠ c.2
theorem In.app {S : List Nat} {L M : List (Nat × Nat)} (h : In S L) (k : In S M) : In S (L ++ M) := fun c hc => (List.mem_append.1 hc).elim (h c) (k c)
theorem In.left {S : List Nat} {L M : List (Nat × Nat)} (h : In S (L ++ M)) : In S L := fun c hc => h c (List.mem_append_left _ hc)
theorem In.right {S : List Nat} {L M : List (Nat × Nat)} (h : In S (L ++ M)) : In S M := fun c hc => h c (List.mem_append_right _ hc)
theorem ren_in {S : List Nat} {x z : Nat} (hz : z ∈ S) (hzx : z ≠ x) (hS : S.Nodup) {M : List (Nat × Nat)} (h : In S M) : In (S.erase x) (ren x z M) := by
  intro c hc
  obtain ⟨h1, h2⟩ := List.mem_filter.1 hc
  obtain ⟨d, hd, rfl⟩ := List.mem_map.1 h1
  obtain ⟨k1, k2, _⟩ := h d hd
  have key : ∀ y, y ∈ S → phi x z y ∈ S.erase x := fun y hy => by
    by_cases e : y = x
    · rw [e, phi_x]; exact (List.mem_erase_of_ne hzx).2 hz
    · rw [phi_o e]; exact (List.mem_erase_of_ne e).2 hy
  exact ⟨key _ k1, key _ k2, of_decide_eq_true h2⟩
/-- What is known does not get less where a name is turned. -/
theorem ren_more {x z : Nat} (A : List (Nat × Nat)) {R : Nat → Nat → Prop} (N : List (Nat × Nat)) (hR : ∀ w j, K A w j → R (phi x z w) (phi x z j)) (hN : ∀ w j, R w j → K N w j) (M : List (Nat × Nat)) : ∀ w j, K (A ++ M) w j → K (N ++ ren x z M) (phi x z w) (phi x z j) := by
  refine snocI (P := fun M => ∀ w j, K (A ++ M) w j → K (N ++ ren x z M) (phi x z w) (phi x z j)) ?_ ?_ M
  · intro w j h
    rw [List.append_nil] at h
    have : ren x z [] = [] := rfl
    rw [this, List.append_nil]
    exact hN _ _ (hR _ _ h)
  · intro L c ih w j h
    rw [← List.append_assoc, K_snoc] at h
    rw [ren_app, ← List.append_assoc]
    have hone : ren x z [c] = if phi x z c.1 ≠ phi x z c.2 then [(phi x z c.1, phi x z c.2)] else [] := by
      unfold ren; by_cases e : phi x z c.1 = phi x z c.2 <;> simp [e]
    rw [hone]
    by_cases e : phi x z c.1 = phi x z c.2
    · rw [if_neg (fun h => h e), List.append_nil]
      rcases h with h | ⟨rfl, h⟩ | ⟨rfl, h⟩
      · exact ih _ _ h
      · rw [e]; exact ih _ _ h
      · rw [← e]; exact ih _ _ h
    · rw [if_pos e, K_snoc]
      rcases h with h | ⟨rfl, h⟩ | ⟨rfl, h⟩
      · exact .inl (ih _ _ h)
      · exact .inr (.inl ⟨rfl, ih _ _ h⟩)
      · exact .inr (.inr ⟨rfl, ih _ _ h⟩)
/-- Whoever knows x's news can stand for x, and one call is spared. -/
theorem spare {S : List Nat} (hS : S.Nodup) {x : Nat} (M : List (Nat × Nat)) : In S M → ∀ z, z ∈ S → z ≠ x → K M z x →
    ∃ M', M'.length + 1 ≤ M.length ∧ In (S.erase x) M' ∧ (∀ w j, w ≠ x → j ≠ x → K M w j → K M' w j) ∧ ∀ j, j ≠ x → K M x j → K M' z j := by
  refine snocI (P := fun M => In S M → ∀ z, z ∈ S → z ≠ x → K M z x → ∃ M', M'.length + 1 ≤ M.length ∧ In (S.erase x) M' ∧ (∀ w j, w ≠ x → j ≠ x → K M w j → K M' w j) ∧ ∀ j, j ≠ x → K M x j → K M' z j) ?_ ?_ M
  · intro _ z _ hzx h; exact absurd h hzx
  · intro L c ih hin z hz hzx h
    have hL := hin.left
    obtain ⟨c1, c2, c3⟩ := hin c (List.mem_append_right _ List.mem_cons_self)
    have mem : ∀ y, y ∈ S → y ≠ x → y ∈ S.erase x := fun y hy e => (List.mem_erase_of_ne e).2 hy
    -- a call of x and z that x's news have not come to z before
    have first : ¬ K L z x → (c.1 = x ∧ c.2 = z ∨ c.1 = z ∧ c.2 = x) → ∃ M', M'.length + 1 ≤ (L ++ [c]).length ∧ In (S.erase x) M' ∧ (∀ w j, w ≠ x → j ≠ x → K (L ++ [c]) w j → K M' w j) ∧ ∀ j, j ≠ x → K (L ++ [c]) x j → K M' z j := by
      intro hno hcz
      have more := ren_more (x := x) (z := z) [] (R := fun w j => w = j) [] (fun w j h => by cases h; rfl) (fun w j h => h) L
      simp only [List.nil_append] at more
      have hx : ∀ j, j ≠ x → K L x j → K (ren x z L) z j := fun j hj h => by have := more x j h; rwa [phi_x, phi_o hj] at this
      have ho : ∀ w j, w ≠ x → j ≠ x → K L w j → K (ren x z L) w j := fun w j hw hj h => by have := more w j h; rwa [phi_o hw, phi_o hj] at this
      refine ⟨ren x z L, by have := ren_len x z L; simp; omega, ren_in hz hzx hS hL, fun w j hw hj h => ?_, fun j hj h => ?_⟩
      · rw [K_snoc] at h
        rcases hcz with ⟨e1, e2⟩ | ⟨e1, e2⟩ <;> rw [e1, e2] at h
        · rcases h with hh | ⟨e, hh⟩ | ⟨e, hh⟩
          · exact ho w j hw hj hh
          · exact absurd e hw
          · rw [e]; exact hx j hj hh
        · rcases h with hh | ⟨e, hh⟩ | ⟨e, hh⟩
          · exact ho w j hw hj hh
          · rw [e]; exact hx j hj hh
          · exact absurd e hw
      · rw [K_snoc] at h
        rcases hcz with ⟨e1, e2⟩ | ⟨e1, e2⟩ <;> rw [e1, e2] at h
        · rcases h with h | ⟨_, h⟩ | ⟨e, h⟩
          · exact hx j hj h
          · exact ho z j hzx hj h
          · exact absurd e.symm hzx
        · rcases h with h | ⟨e, h⟩ | ⟨_, h⟩
          · exact hx j hj h
          · exact absurd e.symm hzx
          · exact ho z j hzx hj h
    -- z knows x's news already
    have old : K L z x → ∃ M', M'.length + 1 ≤ (L ++ [c]).length ∧ In (S.erase x) M' ∧ (∀ w j, w ≠ x → j ≠ x → K (L ++ [c]) w j → K M' w j) ∧ ∀ j, j ≠ x → K (L ++ [c]) x j → K M' z j := by
      intro hk
      obtain ⟨N, n1, n2, n3, n4⟩ := ih hL z hz hzx hk
      -- what the call is where x is turned into z
      by_cases e1 : c.1 = x
      · have h2x : c.2 ≠ x := fun e => c3 (e1.trans e.symm)
        by_cases e2 : c.2 = z
        · refine ⟨N, by simp; omega, n2, fun w j hw hj h => ?_, fun j hj h => ?_⟩
          · rw [K_snoc, e1, e2] at h
            rcases h with hh | ⟨e, hh⟩ | ⟨e, hh⟩
            · exact n3 w j hw hj hh
            · exact absurd e hw
            · rw [e]; exact n4 j hj hh
          · rw [K_snoc, e1, e2] at h
            rcases h with hh | ⟨_, hh⟩ | ⟨e, hh⟩
            · exact n4 j hj hh
            · exact n3 z j hzx hj hh
            · exact absurd e.symm hzx
        · refine ⟨N ++ [(z, c.2)], by simp; omega, n2.app fun d hd => ?_, fun w j hw hj h => ?_, fun j hj h => ?_⟩
          · obtain rfl := List.mem_singleton.1 hd
            exact ⟨mem z hz hzx, mem c.2 c2 h2x, fun e => e2 e.symm⟩
          · rw [K_snoc, e1] at h
            rw [K_snoc]
            rcases h with hh | ⟨e, hh⟩ | ⟨e, hh⟩
            · exact .inl (n3 w j hw hj hh)
            · exact absurd e hw
            · exact .inr (.inr ⟨e, n4 j hj hh⟩)
          · rw [K_snoc, e1] at h
            rw [K_snoc]
            rcases h with hh | ⟨_, hh⟩ | ⟨e, hh⟩
            · exact .inl (n4 j hj hh)
            · exact .inr (.inl ⟨rfl, n3 c.2 j h2x hj hh⟩)
            · exact absurd e.symm h2x
      · by_cases e2 : c.2 = x
        · by_cases e3 : c.1 = z
          · refine ⟨N, by simp; omega, n2, fun w j hw hj h => ?_, fun j hj h => ?_⟩
            · rw [K_snoc, e2, e3] at h
              rcases h with hh | ⟨e, hh⟩ | ⟨e, hh⟩
              · exact n3 w j hw hj hh
              · rw [e]; exact n4 j hj hh
              · exact absurd e hw
            · rw [K_snoc, e2, e3] at h
              rcases h with hh | ⟨e, hh⟩ | ⟨_, hh⟩
              · exact n4 j hj hh
              · exact absurd e.symm hzx
              · exact n3 z j hzx hj hh
          · refine ⟨N ++ [(c.1, z)], by simp; omega, n2.app fun d hd => ?_, fun w j hw hj h => ?_, fun j hj h => ?_⟩
            · obtain rfl := List.mem_singleton.1 hd
              exact ⟨mem c.1 c1 e1, mem z hz hzx, e3⟩
            · rw [K_snoc, e2] at h
              rw [K_snoc]
              rcases h with hh | ⟨e, hh⟩ | ⟨e, hh⟩
              · exact .inl (n3 w j hw hj hh)
              · exact .inr (.inl ⟨e, n4 j hj hh⟩)
              · exact absurd e hw
            · rw [K_snoc, e2] at h
              rw [K_snoc]
              rcases h with hh | ⟨e, hh⟩ | ⟨_, hh⟩
              · exact .inl (n4 j hj hh)
              · exact absurd e.symm e1
              · exact .inr (.inr ⟨rfl, n3 c.1 j e1 hj hh⟩)
        · refine ⟨N ++ [c], by simp; omega, n2.app fun d hd => ?_, fun w j hw hj h => ?_, fun j hj h => ?_⟩
          · obtain rfl := List.mem_singleton.1 hd
            exact ⟨mem _ c1 e1, mem _ c2 e2, c3⟩
          · rw [K_snoc] at h ⊢
            rcases h with hh | ⟨e, hh⟩ | ⟨e, hh⟩
            · exact .inl (n3 w j hw hj hh)
            · exact .inr (.inl ⟨e, n3 _ j e2 hj hh⟩)
            · exact .inr (.inr ⟨e, n3 _ j e1 hj hh⟩)
          · rw [K_snoc] at h ⊢
            rcases h with hh | ⟨e, _⟩ | ⟨e, _⟩
            · exact .inl (n4 j hj hh)
            · exact absurd e.symm e1
            · exact absurd e.symm e2
    by_cases hk : K L z x
    · exact old hk
    · rw [K_snoc] at h
      -- x's news come to z by this call
      have come : ∀ y, y ∈ S → y ≠ z → K L y x → ((c.1 = y ∧ c.2 = z) ∨ (c.1 = z ∧ c.2 = y)) → ∃ M', M'.length + 1 ≤ (L ++ [c]).length ∧ In (S.erase x) M' ∧ (∀ w j, w ≠ x → j ≠ x → K (L ++ [c]) w j → K M' w j) ∧ ∀ j, j ≠ x → K (L ++ [c]) x j → K M' z j := by
        intro y hy hyz hyk hcy
        by_cases e : y = x
        · subst e
          exact first hk (hcy.imp (fun h => h) (fun h => h))
        · obtain ⟨N, n1, n2, n3, n4⟩ := ih hL y hy e hyk
          have hc1 : c.1 ≠ x := by rcases hcy with ⟨a, _⟩ | ⟨a, _⟩ <;> rw [a] <;> assumption
          have hc2 : c.2 ≠ x := by rcases hcy with ⟨_, a⟩ | ⟨_, a⟩ <;> rw [a] <;> assumption
          refine ⟨N ++ [c], by simp; omega, n2.app fun d hd => ?_, fun w j hw hj h => ?_, fun j hj h => ?_⟩
          · obtain rfl := List.mem_singleton.1 hd
            exact ⟨mem _ c1 hc1, mem _ c2 hc2, c3⟩
          · rw [K_snoc] at h ⊢
            rcases h with hh | ⟨e, hh⟩ | ⟨e, hh⟩
            · exact .inl (n3 w j hw hj hh)
            · exact .inr (.inl ⟨e, n3 _ j hc2 hj hh⟩)
            · exact .inr (.inr ⟨e, n3 _ j hc1 hj hh⟩)
          · rw [K_snoc] at h ⊢
            rcases h with hh | ⟨e, _⟩ | ⟨e, _⟩
            · rcases hcy with ⟨a, b⟩ | ⟨a, b⟩
              · exact .inr (.inr ⟨b.symm, by rw [a]; exact n4 j hj hh⟩)
              · exact .inr (.inl ⟨a.symm, by rw [b]; exact n4 j hj hh⟩)
            · exact absurd e.symm hc1
            · exact absurd e.symm hc2
      rcases h with hh | ⟨e, hh⟩ | ⟨e, hh⟩
      · exact absurd hh hk
      · exact come c.2 c2 (fun a => c3 (e.symm.trans a.symm)) hh (.inr ⟨e.symm, rfl⟩)
      · exact come c.1 c1 (fun a => c3 (a.trans e)) hh (.inl ⟨rfl, e.symm⟩)
end Gs

/- Gossip: where somebody hears his own news. No conditions. -/
namespace Gs
set_option linter.unusedVariables false
theorem K_from (A B : List (Nat × Nat)) : ∀ x j, K (A ++ B) x j ↔ ∃ y, K B x y ∧ K A y j := by
  refine snocI (P := fun B => ∀ x j, K (A ++ B) x j ↔ ∃ y, K B x y ∧ K A y j) ?_ ?_ B
  · intro x j
    rw [List.append_nil]
    exact ⟨fun h => ⟨x, rfl, h⟩, fun ⟨y, h, k⟩ => by have e : x = y := h; rw [e]; exact k⟩
  · intro B c ih x j
    rw [← List.append_assoc, K_snoc]
    simp only [ih, K_snoc]
    constructor
    · rintro (⟨y, h, k⟩ | ⟨e, y, h, k⟩ | ⟨e, y, h, k⟩)
      · exact ⟨y, .inl h, k⟩
      · exact ⟨y, .inr (.inl ⟨e, h⟩), k⟩
      · exact ⟨y, .inr (.inr ⟨e, h⟩), k⟩
    · rintro ⟨y, h | ⟨e, h⟩ | ⟨e, h⟩, k⟩
      · exact .inl ⟨y, h, k⟩
      · exact .inr (.inl ⟨e, y, h, k⟩)
      · exact .inr (.inr ⟨e, y, h, k⟩)
theorem K_cons (c : Nat × Nat) (B : List (Nat × Nat)) (x j : Nat) : K (c :: B) x j ↔ K B x j ∨ (j = c.1 ∧ K B x c.2) ∨ (j = c.2 ∧ K B x c.1) := by
  have h1 : ∀ y, K [c] y j ↔ y = j ∨ (y = c.1 ∧ c.2 = j) ∨ (y = c.2 ∧ c.1 = j) := fun y => K_snoc [] c y j
  rw [show c :: B = [c] ++ B from rfl, K_from]
  constructor
  · rintro ⟨y, h, k⟩
    rcases (h1 y).1 k with e | ⟨e, f⟩ | ⟨e, f⟩
    · rw [← e]; exact .inl h
    · exact .inr (.inr ⟨f.symm, e ▸ h⟩)
    · exact .inr (.inl ⟨f.symm, e ▸ h⟩)
  · rintro (h | ⟨e, h⟩ | ⟨e, h⟩)
    · exact ⟨j, h, (h1 j).2 (.inl rfl)⟩
    · exact ⟨c.2, h, (h1 _).2 (.inr (.inr ⟨rfl, e.symm⟩))⟩
    · exact ⟨c.1, h, (h1 _).2 (.inr (.inl ⟨rfl, e.symm⟩))⟩
/-- Told backwards. -/
theorem K_rev (M : List (Nat × Nat)) : ∀ x y, K M.reverse y x ↔ K M x y := by
  induction M with
  | nil => exact fun x y => ⟨fun h => Eq.symm h, fun h => Eq.symm h⟩
  | cons c M ih =>
    intro x y
    rw [List.reverse_cons, K_snoc, K_cons, ih, ih, ih]
/-- Nobody hears his own news. -/
def Noho (M : List (Nat × Nat)) : Prop := ∀ A c B, M = A ++ c :: B → ¬ K A c.2 c.1 ∧ ¬ K A c.1 c.2
/-- All know all. -/
def All (S : List Nat) (M : List (Nat × Nat)) : Prop := ∀ w, w ∈ S → ∀ j, j ∈ S → K M w j
theorem ren_more' {x z j : Nat} (A N : List (Nat × Nat)) (hR : ∀ w, K A w j → K N (phi x z w) j) (M : List (Nat × Nat)) : ∀ w, K (A ++ M) w j → K (N ++ ren x z M) (phi x z w) j := by
  refine snocI (P := fun M => ∀ w, K (A ++ M) w j → K (N ++ ren x z M) (phi x z w) j) ?_ ?_ M
  · intro w h
    rw [List.append_nil] at h
    have : ren x z [] = [] := rfl
    rw [this, List.append_nil]
    exact hR _ h
  · intro L c ih w h
    rw [← List.append_assoc, K_snoc] at h
    rw [ren_app, ← List.append_assoc]
    have hone : ren x z [c] = if phi x z c.1 ≠ phi x z c.2 then [(phi x z c.1, phi x z c.2)] else [] := by
      unfold ren; by_cases e : phi x z c.1 = phi x z c.2 <;> simp [e]
    rw [hone]
    by_cases e : phi x z c.1 = phi x z c.2
    · rw [if_neg (fun h => h e), List.append_nil]
      rcases h with h | ⟨rfl, h⟩ | ⟨rfl, h⟩
      · exact ih _ h
      · rw [e]; exact ih _ h
      · rw [← e]; exact ih _ h
    · rw [if_pos e, K_snoc]
      rcases h with h | ⟨rfl, h⟩ | ⟨rfl, h⟩
      · exact .inl (ih _ h)
      · exact .inr (.inl ⟨rfl, ih _ h⟩)
      · exact .inr (.inr ⟨rfl, ih _ h⟩)
theorem fewer {S : List Nat} (hS : S.Nodup) {A B : List (Nat × Nat)} {x z : Nat} {c : Nat × Nat} (hc : c = (x, z) ∨ c = (z, x)) (hin : In S (A ++ c :: B)) (hall : All S (A ++ c :: B)) (hk : K A z x) :
    x ∈ S ∧ ∃ M', M'.length + 2 ≤ (A ++ c :: B).length ∧ In (S.erase x) M' ∧ All (S.erase x) M' := by
  obtain ⟨k1, k2, k3⟩ := hin c (List.mem_append_right _ List.mem_cons_self)
  have hx : x ∈ S := by rcases hc with rfl | rfl <;> assumption
  have hz : z ∈ S := by rcases hc with rfl | rfl <;> assumption
  have hzx : z ≠ x := by
    rcases hc with rfl | rfl
    · exact fun e => k3 e.symm
    · exact k3
  obtain ⟨N, n1, n2, n3, n4⟩ := spare hS A hin.left z hz hzx hk
  have hB : In S B := fun d hd => hin d (List.mem_append_right _ (List.mem_cons_of_mem _ hd))
  refine ⟨hx, N ++ ren x z B, ?_, n2.app (ren_in hz hzx hS hB), fun w hw j hj => ?_⟩
  · have := ren_len x z B
    simp only [List.length_append, List.length_cons]; omega
  · have hw' := (List.Nodup.mem_erase_iff hS).1 hw
    have hj' := (List.Nodup.mem_erase_iff hS).1 hj
    have hA : ∀ w, K (A ++ [c]) w j → K N (phi x z w) j := by
      intro w h
      rw [K_snoc] at h
      have both : (w = x ∧ K A z j) ∨ (w = z ∧ K A x j) → K N (phi x z w) j := by
        rintro (⟨rfl, h⟩ | ⟨rfl, h⟩)
        · rw [phi_x]; exact n3 z j hzx hj'.1 h
        · rw [phi_o hzx]; exact n4 j hj'.1 h
      have plain : K A w j → K N (phi x z w) j := by
        intro h
        by_cases e : w = x
        · rw [e, phi_x]; rw [e] at h; exact n4 j hj'.1 h
        · rw [phi_o e]; exact n3 w j e hj'.1 h
      rcases hc with rfl | rfl
      · rcases h with h | h | h
        · exact plain h
        · exact both (.inl h)
        · exact both (.inr h)
      · rcases h with h | h | h
        · exact plain h
        · exact both (.inr h)
        · exact both (.inl h)
    have h := ren_more' (x := x) (z := z) (j := j) (A ++ [c]) N hA B w (by rw [List.append_assoc]; exact hall w hw'.2 j hj'.2)
    rwa [phi_o hw'.1] at h
/-- Two calls are spared where somebody hears his own news. -/
theorem reduce {S : List Nat} (hS : S.Nodup) {M : List (Nat × Nat)} (hin : In S M) (hall : All S M) (hno : ¬ Noho M) : ∃ x, x ∈ S ∧ ∃ M', M'.length + 2 ≤ M.length ∧ In (S.erase x) M' ∧ All (S.erase x) M' := by
  unfold Noho at hno
  simp only [Classical.not_forall] at hno
  obtain ⟨A, c, B, rfl, h⟩ := hno
  rw [Classical.not_and_iff_not_or_not, Classical.not_not, Classical.not_not] at h
  rcases h with h | h
  · exact ⟨c.1, fewer hS (.inl rfl) hin hall h⟩
  · exact ⟨c.2, fewer hS (.inr rfl) hin hall h⟩
end Gs

/- Gossip: counting calls where nobody hears his own news. No conditions. -/
namespace Gs
set_option linter.unusedVariables false
open Classical
/-- How many of a list. -/
noncomputable def cn (S : List Nat) (p : Nat → Prop) : Nat := (S.filter fun w => decide (p w)).length
theorem cn_mono {S : List Nat} {p q : Nat → Prop} (h : ∀ w, w ∈ S → p w → q w) : cn S p ≤ cn S q := by
  induction S with
  | nil => exact Nat.le_refl _
  | cons a S ih =>
    have ih := ih fun w hw => h w (List.mem_cons_of_mem _ hw)
    have ha := h a List.mem_cons_self
    unfold cn at ih ⊢
    simp only [List.filter_cons]
    by_cases h1 : p a
    · simp [h1, ha h1]; exact ih
    · by_cases h2 : q a <;> simp [h1, h2] <;> omega
theorem cn_or {S : List Nat} {p q : Nat → Prop} : cn S (fun w => p w ∨ q w) ≤ cn S p + cn S q := by
  induction S with
  | nil => exact Nat.zero_le _
  | cons a S ih =>
    unfold cn at ih ⊢
    simp only [List.filter_cons]
    by_cases h1 : p a <;> by_cases h2 : q a <;> simp [h1, h2] at ih ⊢ <;> omega
theorem cn_one {S : List Nat} (hS : S.Nodup) (u : Nat) : cn S (fun w => w = u) ≤ 1 := by
  induction S with
  | nil => exact Nat.zero_le _
  | cons a S ih =>
    have h := List.nodup_cons.1 hS
    unfold cn at ih ⊢
    simp only [List.filter_cons]
    by_cases e : a = u
    · subst e
      rw [List.filter_eq_nil_iff.2 fun w hw => by simp only [decide_eq_true_eq]; intro e; exact h.1 (e ▸ hw)]
      simp
    · simp [e]; exact ih h.2
theorem cn_all {S : List Nat} {p : Nat → Prop} (h : ∀ w, w ∈ S → p w) : cn S p = S.length := by
  unfold cn
  rw [List.filter_eq_self.2 fun w hw => decide_eq_true (h w hw)]
theorem cn_none {S : List Nat} {p : Nat → Prop} (h : ∀ w, w ∈ S → ¬ p w) : cn S p = 0 := by
  unfold cn
  rw [List.filter_eq_nil_iff.2 fun w hw => by simpa using h w hw]; rfl
abbrev Cs := List (Nat × Nat)
/-- How many places between calls. -/
noncomputable def pos (P : Cs → Nat × Nat → Cs → Prop) : Cs → Cs → Nat
  | _, [] => 0
  | A, c :: B => (if P A c B then 1 else 0) + pos P (A ++ [c]) B
theorem pos_mono {P Q : Cs → Nat × Nat → Cs → Prop} : ∀ (B A : Cs), (∀ A' c B', A ++ B = A' ++ c :: B' → P A' c B' → Q A' c B') → pos P A B ≤ pos Q A B
  | [], A, _ => Nat.le_refl _
  | c :: B, A, h => by
    have h1 := pos_mono B (A ++ [c]) fun A' c' B' e => h A' c' B' (by rw [← e]; simp)
    have h2 := h A c B rfl
    simp only [pos]
    by_cases p : P A c B
    · rw [if_pos p, if_pos (h2 p)]; omega
    · rw [if_neg p]; split <;> omega
theorem pos_sum {P Q : Cs → Nat × Nat → Cs → Prop} : ∀ (B A : Cs), pos P A B + pos Q A B = pos (fun a c b => P a c b ∨ Q a c b) A B + pos (fun a c b => P a c b ∧ Q a c b) A B
  | [], A => rfl
  | c :: B, A => by
    have := pos_sum (P := P) (Q := Q) B (A ++ [c])
    simp only [pos]
    by_cases p : P A c B <;> by_cases q : Q A c B <;> simp only [p, q, or_self, and_self, true_or, or_true, and_true, true_and, false_and, and_false, or_false, false_or, if_true, if_false] <;> omega
theorem pos_not {P : Cs → Nat × Nat → Cs → Prop} : ∀ (B A : Cs), pos P A B + pos (fun a c b => ¬ P a c b) A B = B.length
  | [], A => rfl
  | c :: B, A => by
    have := pos_not (P := P) B (A ++ [c])
    simp only [pos, List.length_cons]
    by_cases p : P A c B <;> simp only [p, not_true, not_false_eq_true, if_true, if_false] <;> omega
/-- x's news are told, by one who knows them to one who does not. -/
def OO (x : Nat) (A : Cs) (c : Nat × Nat) (_ : Cs) : Prop := (K A c.1 x ∧ ¬ K A c.2 x) ∨ (¬ K A c.1 x ∧ K A c.2 x)
/-- The same told backwards. -/
def II (x : Nat) (_ : Cs) (c : Nat × Nat) (B : Cs) : Prop := (K B x c.1 ∧ ¬ K B x c.2) ∨ (¬ K B x c.1 ∧ K B x c.2)
def VV (x : Nat) (_ : Cs) (c : Nat × Nat) (_ : Cs) : Prop := c.1 = x ∨ c.2 = x
theorem OO_many {S : List Nat} (hS : S.Nodup) (x : Nat) : ∀ (B A : Cs), cn S (fun w => K (A ++ B) w x) ≤ cn S (fun w => K A w x) + pos (OO x) A B
  | [], A => by rw [List.append_nil]; exact Nat.le_add_right _ _
  | c :: B, A => by
    have ih := OO_many hS x B (A ++ [c])
    rw [List.append_assoc, List.singleton_append] at ih
    have key : cn S (fun w => K (A ++ [c]) w x) ≤ cn S (fun w => K A w x) + (if OO x A c B then 1 else 0) := by
      by_cases o : OO x A c B
      · rw [if_pos o]
        rcases o with ⟨h1, h2⟩ | ⟨h1, h2⟩
        · refine Nat.le_trans (cn_mono (q := fun w => K A w x ∨ w = c.2) fun w _ h => ?_) (Nat.le_trans cn_or (Nat.add_le_add_left (cn_one hS _) _))
          rcases (K_snoc A c w x).1 h with h | ⟨e, h⟩ | ⟨e, h⟩
          · exact .inl h
          · exact .inl (by rw [e]; exact h1)
          · exact .inr e
        · refine Nat.le_trans (cn_mono (q := fun w => K A w x ∨ w = c.1) fun w _ h => ?_) (Nat.le_trans cn_or (Nat.add_le_add_left (cn_one hS _) _))
          rcases (K_snoc A c w x).1 h with h | ⟨e, h⟩ | ⟨e, h⟩
          · exact .inl h
          · exact .inr e
          · exact .inl (by rw [e]; exact h2)
      · rw [if_neg o, Nat.add_zero]
        refine cn_mono fun w _ h => ?_
        rcases (K_snoc A c w x).1 h with h | ⟨e, h⟩ | ⟨e, h⟩
        · exact h
        · exact Classical.byContradiction fun k => o (.inr ⟨fun g => k (by rw [e]; exact g), h⟩)
        · exact Classical.byContradiction fun k => o (.inl ⟨h, fun g => k (by rw [e]; exact g)⟩)
    simp only [pos]; omega
theorem II_many {S : List Nat} (hS : S.Nodup) (x : Nat) : ∀ (B A : Cs), cn S (fun w => K B x w) ≤ 1 + pos (II x) A B
  | [], A => by
    refine Nat.le_trans (cn_mono (q := fun w => w = x) fun w _ h => ?_) (Nat.le_trans (cn_one hS x) (Nat.le_add_right _ _))
    have e : x = w := h
    exact e.symm
  | c :: B, A => by
    have ih := II_many hS x B (A ++ [c])
    have key : cn S (fun w => K (c :: B) x w) ≤ cn S (fun w => K B x w) + (if II x A c B then 1 else 0) := by
      by_cases o : II x A c B
      · rw [if_pos o]
        rcases o with ⟨h1, h2⟩ | ⟨h1, h2⟩
        · refine Nat.le_trans (cn_mono (q := fun w => K B x w ∨ w = c.2) fun w _ h => ?_) (Nat.le_trans cn_or (Nat.add_le_add_left (cn_one hS _) _))
          rcases (K_cons c B x w).1 h with h | ⟨e, h⟩ | ⟨e, h⟩
          · exact .inl h
          · exact .inl (by rw [e]; exact h1)
          · exact .inr e
        · refine Nat.le_trans (cn_mono (q := fun w => K B x w ∨ w = c.1) fun w _ h => ?_) (Nat.le_trans cn_or (Nat.add_le_add_left (cn_one hS _) _))
          rcases (K_cons c B x w).1 h with h | ⟨e, h⟩ | ⟨e, h⟩
          · exact .inl h
          · exact .inr e
          · exact .inl (by rw [e]; exact h2)
      · rw [if_neg o, Nat.add_zero]
        refine cn_mono fun w _ h => ?_
        rcases (K_cons c B x w).1 h with h | ⟨e, h⟩ | ⟨e, h⟩
        · exact h
        · exact Classical.byContradiction fun k => o (.inr ⟨fun g => k (by rw [e]; exact g), h⟩)
        · exact Classical.byContradiction fun k => o (.inl ⟨h, fun g => k (by rw [e]; exact g)⟩)
    simp only [pos]; omega
/-- Where a path comes to x. -/
theorem comes {x p : Nat} (B : Cs) : K B x p → p ≠ x → ∃ B1 d B2 w, B = B1 ++ d :: B2 ∧ (d = (x, w) ∨ d = (w, x)) ∧ K B1 w p := by
  refine snocI (P := fun B => K B x p → p ≠ x → ∃ B1 d B2 w, B = B1 ++ d :: B2 ∧ (d = (x, w) ∨ d = (w, x)) ∧ K B1 w p) ?_ ?_ B
  · intro h hp; exact absurd (Eq.symm h) hp
  · intro B d ih h hp
    rcases (K_snoc B d x p).1 h with h | ⟨e, h⟩ | ⟨e, h⟩
    · obtain ⟨B1, d', B2, w, e, k⟩ := ih h hp
      exact ⟨B1, d', B2 ++ [d], w, by rw [e]; simp, k⟩
    · exact ⟨B, d, [], d.2, rfl, .inl (by rw [e]), h⟩
    · exact ⟨B, d, [], d.1, rfl, .inr (by rw [e]), h⟩
/-- Who knows x's news tells x nothing any more. -/
theorem noho_path {M A B : Cs} {x p : Nat} (hno : Noho M) (hM : M = A ++ B) (hp : p ≠ x) (h1 : K A p x) : ¬ K B x p := by
  intro h
  obtain ⟨B1, d, B2, w, rfl, hd, hw⟩ := comes B h hp
  have hk : K (A ++ B1) w x := (K_from A B1 w x).2 ⟨p, hw, h1⟩
  have := hno (A ++ B1) d B2 (by rw [hM]; simp)
  rcases hd with rfl | rfl
  · exact this.1 hk
  · exact this.2 hk
theorem both_own {M A B : Cs} {c : Nat × Nat} {x : Nat} (hno : Noho M) (hM : M = A ++ c :: B) (ho : OO x A c B) (hi : II x A c B) : VV x A c B := by
  have a1 : K (A ++ [c]) c.1 x := by
    rw [K_snoc]; rcases ho with ⟨h, _⟩ | ⟨_, h⟩
    · exact .inl h
    · exact .inr (.inl ⟨rfl, h⟩)
  have a2 : K (A ++ [c]) c.2 x := by
    rw [K_snoc]; rcases ho with ⟨h, _⟩ | ⟨_, h⟩
    · exact .inr (.inr ⟨rfl, h⟩)
    · exact .inl h
  have hM' : M = (A ++ [c]) ++ B := by rw [hM]; simp
  rcases hi with ⟨h, _⟩ | ⟨_, h⟩
  · exact .inl (Classical.byContradiction fun e => noho_path hno hM' e a1 h)
  · exact .inr (Classical.byContradiction fun e => noho_path hno hM' e a2 h)
/-- Each friend has so many calls, and so few calls are useless to him. -/
theorem calls_of {S : List Nat} (hS : S.Nodup) {M : Cs} (hall : All S M) (hno : Noho M) {x : Nat} (hx : x ∈ S) :
    2 * S.length + pos (fun a c b => ¬ (OO x a c b ∨ II x a c b)) [] M ≤ 2 + M.length + pos (VV x) [] M := by
  have h1 := OO_many hS x M []
  have h2 := II_many hS x M []
  rw [List.nil_append, cn_all fun w hw => hall w hw x hx] at h1
  rw [cn_all fun w hw => hall x hx w hw] at h2
  have h0 : cn S (fun w => K [] w x) ≤ 1 := cn_one hS x
  have h3 := pos_sum (P := OO x) (Q := II x) M []
  have h4 := pos_not (P := fun a c b => OO x a c b ∨ II x a c b) M []
  have h5 := pos_mono (P := fun a c b => OO x a c b ∧ II x a c b) (Q := VV x) M [] fun A c B e h => both_own hno e h.1 h.2
  omega
end Gs

/- Gossip: first calls and last ones, and the least number of calls. No conditions. -/
namespace Gs
set_option linter.unusedVariables false
open Classical
theorem pos_none {P : Cs → Nat × Nat → Cs → Prop} : ∀ (B A : Cs), (∀ A' c B', B = A' ++ c :: B' → ¬ P (A ++ A') c B') → pos P A B = 0
  | [], A, _ => rfl
  | c :: B, A, h => by
    have h1 := pos_none B (A ++ [c]) fun A' d B' e => by
      have := h (c :: A') d B' (by rw [e]; rfl)
      rwa [List.append_assoc]
    have h2 := h [] c B rfl
    rw [List.append_nil] at h2
    simp only [pos, h1, if_neg h2]
theorem pos_pos {P : Cs → Nat × Nat → Cs → Prop} (B A : Cs) (h : 1 ≤ pos P A B) : ∃ A' c B', B = A' ++ c :: B' ∧ P (A ++ A') c B' :=
  Classical.byContradiction fun hn => by
    have := pos_none (P := P) B A fun A' c B' e k => hn ⟨A', c, B', e, k⟩
    omega
/-- Who is in so many calls. -/
theorem ends_many {S : List Nat} (hS : S.Nodup) {P : Cs → Nat × Nat → Cs → Prop} : ∀ (B A : Cs), cn S (fun w => ∃ A' c B', B = A' ++ c :: B' ∧ P (A ++ A') c B' ∧ (c.1 = w ∨ c.2 = w)) ≤ 2 * pos P A B
  | [], A => by
    rw [cn_none]
    · exact Nat.zero_le _
    · rintro w - ⟨A', c, B', e, -⟩
      simp at e
  | c :: B, A => by
    have ih := ends_many hS (P := P) B (A ++ [c])
    have split : ∀ w, (∃ A' d B', c :: B = A' ++ d :: B' ∧ P (A ++ A') d B' ∧ (d.1 = w ∨ d.2 = w)) → (∃ A' d B', B = A' ++ d :: B' ∧ P (A ++ [c] ++ A') d B' ∧ (d.1 = w ∨ d.2 = w)) ∨ (P A c B ∧ (w = c.1 ∨ w = c.2)) := by
      rintro w ⟨A', d, B', e, p, k⟩
      cases A' with
      | nil =>
        simp only [List.nil_append, List.cons.injEq] at e
        obtain ⟨rfl, rfl⟩ := e
        rw [List.append_nil] at p
        exact .inr ⟨p, k.imp Eq.symm Eq.symm⟩
      | cons a A' =>
        simp only [List.cons_append, List.cons.injEq] at e
        obtain ⟨rfl, rfl⟩ := e
        exact .inl ⟨A', d, B', rfl, by rwa [List.append_assoc], k⟩
    have h1 := Nat.le_trans (cn_mono (S := S) fun w _ h => split w h) cn_or
    simp only [pos]
    by_cases p : P A c B
    · have h2 : cn S (fun w => P A c B ∧ (w = c.1 ∨ w = c.2)) ≤ 2 :=
        Nat.le_trans (cn_mono fun w _ h => h.2) (Nat.le_trans cn_or (Nat.add_le_add (cn_one hS _) (cn_one hS _)))
      rw [if_pos p]; omega
    · have h2 : cn S (fun w => P A c B ∧ (w = c.1 ∨ w = c.2)) = 0 := cn_none fun w _ h => p h.1
      rw [if_neg p]; omega
/-- Nobody of these calls. -/
def Fresh (A : Cs) (x : Nat) : Prop := ∀ d, d ∈ A → d.1 ≠ x ∧ d.2 ≠ x
theorem fresh_K {w j : Nat} (A : Cs) : Fresh A w → K A w j → w = j := by
  refine snocI (P := fun A => Fresh A w → K A w j → w = j) ?_ ?_ A
  · exact fun _ h => h
  · intro A c ih hf h
    have hc := hf c (List.mem_append_right _ List.mem_cons_self)
    rcases (K_snoc A c w j).1 h with h | ⟨e, _⟩ | ⟨e, _⟩
    · exact ih (fun d hd => hf d (List.mem_append_left _ hd)) h
    · exact absurd e.symm hc.1
    · exact absurd e.symm hc.2
theorem fresh_K' {w j : Nat} {A : Cs} (hf : Fresh A w) (h : K A j w) : j = w := by
  have h1 : K A.reverse w j := (K_rev A j w).2 h
  exact (fresh_K _ (fun d hd => hf d (List.mem_reverse.1 hd)) h1).symm
theorem K_mono' (A B : Cs) {w j : Nat} (h : K A w j) : K (A ++ B) w j := by
  refine snocI (P := fun B => K (A ++ B) w j) ?_ ?_ B
  · rwa [List.append_nil]
  · intro B c ih
    rw [← List.append_assoc, K_snoc]; exact .inl ih
theorem noho_rev {S : List Nat} {M : Cs} (hin : In S M) (h : Noho M) : Noho M.reverse := by
  intro A c B e
  have e' : M = (B.reverse ++ [c]) ++ A.reverse := by
    have := congrArg List.reverse e
    rw [List.reverse_reverse] at this
    rw [this]; simp
  have hne : c.1 ≠ c.2 := (hin c (by rw [e']; simp)).2.2
  constructor
  · intro k
    refine noho_path (x := c.1) (p := c.2) h e' hne.symm ?_ ((K_rev A c.2 c.1).2 k)
    rw [K_snoc]; exact .inr (.inr ⟨rfl, K_self _ _⟩)
  · intro k
    refine noho_path (x := c.2) (p := c.1) h e' hne ?_ ((K_rev A c.1 c.2).2 k)
    rw [K_snoc]; exact .inr (.inl ⟨rfl, K_self _ _⟩)
theorem all_rev {S : List Nat} {M : Cs} (h : All S M) : All S M.reverse := fun w hw j hj => (K_rev M j w).2 (h j hj w hw)
theorem in_rev {S : List Nat} {M : Cs} (h : In S M) : In S M.reverse := fun c hc => h c (List.mem_reverse.1 hc)
/-- A first call is so for both. -/
theorem first_mut {S : List Nat} {M A B : Cs} {c : Nat × Nat} {x y : Nat} (hin : In S M) (hall : All S M) (hno : Noho M) (hM : M = A ++ c :: B) (hc : c = (x, y) ∨ c = (y, x)) (hf : Fresh A x) : Fresh A y := by
  have key : ∀ z, z ∈ S → z ≠ x → z ≠ y → ¬ K A y z := by
    intro z hz zx zy hk
    have hxS : x ∈ S := by
      have := hin c (by rw [hM]; simp)
      rcases hc with rfl | rfl
      · exact this.1
      · exact this.2.1
    have e : M = (A ++ [c]) ++ B := by rw [hM]; simp
    have h1 := hall z hz x hxS
    rw [e] at h1
    obtain ⟨q, h2, h3⟩ := (K_from _ _ _ _).1 h1
    have h4 : q = x ∨ q = y := by
      rcases (K_snoc A c q x).1 h3 with h | ⟨e1, h⟩ | ⟨e1, h⟩
      · exact .inl (fresh_K' hf h)
      · have := fresh_K' hf h
        rcases hc with rfl | rfl
        · exact .inl e1
        · exact .inr e1
      · rcases hc with rfl | rfl
        · exact .inr e1
        · exact .inl e1
    have h5 : K (A ++ [c]) x z ∧ K (A ++ [c]) y z := by
      rw [K_snoc, K_snoc]
      rcases hc with rfl | rfl
      · exact ⟨.inr (.inl ⟨rfl, hk⟩), .inl hk⟩
      · exact ⟨.inr (.inr ⟨rfl, hk⟩), .inl hk⟩
    rcases h4 with rfl | rfl
    · exact noho_path hno e (Ne.symm zx) h5.1 h2
    · exact noho_path hno e (Ne.symm zy) h5.2 h2
  intro d hd
  obtain ⟨A1, A2, rfl⟩ := List.append_of_mem hd
  have hdS := hin d (by rw [hM]; simp)
  have hfx := hf d (by simp)
  constructor
  · intro e1
    have hk : K (A1 ++ d :: A2) y d.2 := by
      rw [show A1 ++ d :: A2 = (A1 ++ [d]) ++ A2 by simp]
      refine K_mono' _ _ ?_
      rw [K_snoc]; exact .inr (.inl ⟨e1.symm, K_self _ _⟩)
    exact key d.2 hdS.2.1 hfx.2 (by rw [← e1]; exact fun e => hdS.2.2 e.symm) hk
  · intro e1
    have hk : K (A1 ++ d :: A2) y d.1 := by
      rw [show A1 ++ d :: A2 = (A1 ++ [d]) ++ A2 by simp]
      refine K_mono' _ _ ?_
      rw [K_snoc]; exact .inr (.inr ⟨e1.symm, K_self _ _⟩)
    exact key d.1 hdS.1 hfx.1 (by rw [← e1]; exact hdS.2.2) hk
theorem last_mut {S : List Nat} {M A B : Cs} {c : Nat × Nat} {x y : Nat} (hin : In S M) (hall : All S M) (hno : Noho M) (hM : M = A ++ c :: B) (hc : c = (x, y) ∨ c = (y, x)) (hf : Fresh B x) : Fresh B y := by
  have h := first_mut (A := B.reverse) (B := A.reverse) (c := c) (x := x) (y := y) (in_rev hin) (all_rev hall) (noho_rev hin hno) (by rw [hM]; simp) hc fun d hd => hf d (List.mem_reverse.1 hd)
  exact fun d hd => h d (List.mem_reverse.2 hd)
/-- First calls, last ones, and those between. -/
def FF (A : Cs) (c : Nat × Nat) (_ : Cs) : Prop := Fresh A c.1 ∧ Fresh A c.2
def LL (_ : Cs) (c : Nat × Nat) (B : Cs) : Prop := Fresh B c.1 ∧ Fresh B c.2
def MM (A : Cs) (c : Nat × Nat) (B : Cs) : Prop := ¬ FF A c B ∧ ¬ LL A c B
/-- Closed under the calls between. -/
def Cl (T : Nat → Prop) (P : Cs → Nat × Nat → Cs → Prop) : Cs → Cs → Prop
  | _, [] => True
  | A, c :: B => (P A c B → (T c.1 ↔ T c.2)) ∧ Cl T P (A ++ [c]) B
theorem cl_at {T : Nat → Prop} {P : Cs → Nat × Nat → Cs → Prop} : ∀ (A' A B' : Cs) {c : Nat × Nat}, Cl T P A (A' ++ c :: B') → P (A ++ A') c B' → (T c.1 ↔ T c.2)
  | [], A, B', c, h, p => h.1 (by rwa [List.append_nil] at p)
  | a :: A', A, B', c, h, p => cl_at A' (A ++ [a]) B' h.2 (by rwa [List.append_assoc])
theorem closure {S : List Nat} (hS : S.Nodup) {P : Cs → Nat × Nat → Cs → Prop} : ∀ (B A : Cs) (T0 : Nat → Prop),
    ∃ T : Nat → Prop, (∀ w, T0 w → T w) ∧ Cl T P A B ∧ (∀ U : Nat → Prop, (∀ w, T0 w → U w) → Cl U P A B → ∀ w, T w → U w) ∧
      cn S T ≤ cn S T0 + pos (fun a c b => P a c b ∧ T c.1 ∧ T c.2) A B
  | [], A, T0 => ⟨T0, fun _ h => h, trivial, fun _ h _ => h, Nat.le_add_right _ _⟩
  | c :: B, A, T0 => by
    obtain ⟨T, h1, h2, h3, h4⟩ := closure hS (P := P) B (A ++ [c]) T0
    by_cases p : P A c B
    · by_cases ta : T c.1
      · by_cases tb : T c.2
        · refine ⟨T, h1, ⟨fun _ => ⟨fun _ => tb, fun _ => ta⟩, h2⟩, fun U u1 u2 => h3 U u1 u2.2, ?_⟩
          simp only [pos]; omega
        · obtain ⟨T', g1, g2, g3, g4⟩ := closure hS (P := P) B (A ++ [c]) (fun w => T0 w ∨ w = c.2)
          have sub := h3 T' (fun w h => g1 w (.inl h)) g2
          have t1 := sub _ ta
          have t2 := g1 _ (.inr rfl)
          refine ⟨T', fun w h => g1 w (.inl h), ⟨fun _ => ⟨fun _ => t2, fun _ => t1⟩, g2⟩, fun U u1 u2 => g3 U (fun w h => ?_) u2.2, ?_⟩
          · rcases h with h | rfl
            · exact u1 w h
            · exact (u2.1 p).1 (h3 U u1 u2.2 _ ta)
          · have := cn_or (S := S) (p := T0) (q := fun w => w = c.2)
            have := cn_one hS c.2
            simp only [pos, if_pos (show P A c B ∧ T' c.1 ∧ T' c.2 from ⟨p, t1, t2⟩)]; omega
      · by_cases tb : T c.2
        · obtain ⟨T', g1, g2, g3, g4⟩ := closure hS (P := P) B (A ++ [c]) (fun w => T0 w ∨ w = c.1)
          have sub := h3 T' (fun w h => g1 w (.inl h)) g2
          have t1 := sub _ tb
          have t2 := g1 _ (.inr rfl)
          refine ⟨T', fun w h => g1 w (.inl h), ⟨fun _ => ⟨fun _ => t1, fun _ => t2⟩, g2⟩, fun U u1 u2 => g3 U (fun w h => ?_) u2.2, ?_⟩
          · rcases h with h | rfl
            · exact u1 w h
            · exact (u2.1 p).2 (h3 U u1 u2.2 _ tb)
          · have := cn_or (S := S) (p := T0) (q := fun w => w = c.1)
            have := cn_one hS c.1
            simp only [pos, if_pos (show P A c B ∧ T' c.1 ∧ T' c.2 from ⟨p, t2, t1⟩)]; omega
        · refine ⟨T, h1, ⟨fun _ => ⟨fun h => absurd h ta, fun h => absurd h tb⟩, h2⟩, fun U u1 u2 => h3 U u1 u2.2, ?_⟩
          simp only [pos]; omega
    · refine ⟨T, h1, ⟨fun h => absurd h p, h2⟩, fun U u1 u2 => h3 U u1 u2.2, ?_⟩
      simp only [pos]; omega
end Gs

/- Gossip: two calls a friend, four fewer, are the fewest. No conditions. -/
namespace Gs
set_option linter.unusedVariables false
open Classical
theorem first_of {x : Nat} : ∀ (B A : Cs), Fresh A x → (∃ d, d ∈ B ∧ (d.1 = x ∨ d.2 = x)) → ∃ A' c B', B = A' ++ c :: B' ∧ Fresh (A ++ A') x ∧ (c.1 = x ∨ c.2 = x)
  | [], A, _, h => by obtain ⟨d, hd, -⟩ := h; cases hd
  | c :: B, A, hf, h => by
    by_cases e : c.1 = x ∨ c.2 = x
    · exact ⟨[], c, B, rfl, by rwa [List.append_nil], e⟩
    · obtain ⟨A', d, B', e1, e2, e3⟩ := first_of B (A ++ [c]) (fun d hd => by
        rcases List.mem_append.1 hd with hd | hd
        · exact hf d hd
        · rw [List.mem_singleton.1 hd]; exact not_or.1 e) (by
        obtain ⟨d, hd, k⟩ := h
        rcases List.mem_cons.1 hd with rfl | hd
        · exact absurd k e
        · exact ⟨d, hd, k⟩)
      exact ⟨c :: A', d, B', by rw [e1]; rfl, by rwa [List.append_assoc] at e2, e3⟩
theorem one_first {x : Nat} : ∀ (B A : Cs), pos (fun a c b => VV x a c b ∧ Fresh a x) A B ≤ 1
  | [], A => Nat.zero_le _
  | c :: B, A => by
    by_cases e : VV x A c B
    · have : pos (fun a c b => VV x a c b ∧ Fresh a x) (A ++ [c]) B = 0 := pos_none _ _ fun A' d B' _ h => by
        have := h.2 c (by simp)
        rcases e with e | e
        · exact this.1 e
        · exact this.2 e
      simp only [pos, this]; split <;> omega
    · have := one_first (x := x) B (A ++ [c])
      simp only [pos, if_neg (show ¬ (VV x A c B ∧ Fresh A x) from fun h => e h.1)]; omega
theorem one_last {x : Nat} : ∀ (B A : Cs), pos (fun a c b => VV x a c b ∧ Fresh b x) A B ≤ 1
  | [], A => Nat.zero_le _
  | c :: B, A => by
    by_cases e : Fresh B x
    · have : pos (fun a c b => VV x a c b ∧ Fresh b x) (A ++ [c]) B = 0 := pos_none _ _ fun A' d B' e1 h => by
        have := e d (by rw [e1]; simp)
        rcases h.1 with e | e
        · exact this.1 e
        · exact this.2 e
      simp only [pos, this]; split <;> omega
    · have := one_last (x := x) B (A ++ [c])
      simp only [pos, if_neg (show ¬ (VV x A c B ∧ Fresh B x) from fun h => e h.2)]; omega
theorem two_ends (S : List Nat) (hS : S.Nodup) : ∀ (B A : Cs), (S.map fun x => pos (VV x) A B).sum ≤ 2 * B.length
  | [], A => by
    have : ∀ S : List Nat, (S.map fun x => pos (VV x) A []).sum = 0 := by
      intro S; induction S with
      | nil => rfl
      | cons a S ih => rw [List.map_cons, List.sum_cons, ih]; rfl
    rw [this]; exact Nat.zero_le _
  | c :: B, A => by
    have ih := two_ends S hS B (A ++ [c])
    have split : ∀ S : List Nat, (S.map fun x => pos (VV x) A (c :: B)).sum = cn S (fun x => VV x A c B) + (S.map fun x => pos (VV x) (A ++ [c]) B).sum := by
      intro S; induction S with
      | nil => rfl
      | cons a S ih =>
        rw [List.map_cons, List.sum_cons, ih, List.map_cons, List.sum_cons]
        have h1 : pos (VV a) A (c :: B) = (if VV a A c B then 1 else 0) + pos (VV a) (A ++ [c]) B := rfl
        have h2 : cn (a :: S) (fun x => VV x A c B) = (if VV a A c B then 1 else 0) + cn S (fun x => VV x A c B) := by
          unfold cn
          rw [List.filter_cons]
          by_cases e : VV a A c B
          · rw [if_pos (decide_eq_true e), if_pos e, List.length_cons]; omega
          · rw [if_neg (by rw [decide_eq_true_eq]; exact e), if_neg e]; omega
        rw [h1, h2]; omega
    have h2 : cn S (fun x => VV x A c B) ≤ 2 :=
      Nat.le_trans (cn_mono (q := fun x => x = c.1 ∨ x = c.2) fun w _ h => h.imp Eq.symm Eq.symm) (Nat.le_trans cn_or (Nat.add_le_add (cn_one hS _) (cn_one hS _)))
    rw [split, List.length_cons]; omega
theorem sum_low {S : List Nat} {f : Nat → Nat} {k : Nat} (h : ∀ x, x ∈ S → k ≤ f x) : k * S.length ≤ (S.map f).sum := by
  induction S with
  | nil => exact Nat.le_refl _
  | cons a S ih =>
    have := ih fun x hx => h x (List.mem_cons_of_mem _ hx)
    have := h a List.mem_cons_self
    rw [List.map_cons, List.sum_cons, List.length_cons, Nat.mul_add]; omega
theorem other_end {c : Nat × Nat} {x : Nat} (h : c.1 = x ∨ c.2 = x) : ∃ y, c = (x, y) ∨ c = (y, x) := by
  rcases h with rfl | rfl
  · exact ⟨c.2, .inl rfl⟩
  · exact ⟨c.1, .inr rfl⟩
theorem fresh_uniq {A B A' B' : Cs} {c c' : Nat × Nat} {x : Nat} (e : A ++ c :: B = A' ++ c' :: B') (h : c.1 = x ∨ c.2 = x) (h' : c'.1 = x ∨ c'.2 = x) (f : Fresh A x) (f' : Fresh A' x) : c = c' := by
  rcases List.append_eq_append_iff.1 e with ⟨D, e1, e2⟩ | ⟨D, e1, e2⟩
  · cases D with
    | nil => simp only [List.nil_append, List.cons.injEq] at e2; exact e2.1
    | cons d D =>
      simp only [List.cons_append, List.cons.injEq] at e2
      have := f' c (by rw [e1, e2.1]; simp)
      exact absurd h (not_or.2 this)
  · cases D with
    | nil => simp only [List.nil_append, List.cons.injEq] at e2; exact e2.1.symm
    | cons d D =>
      simp only [List.cons_append, List.cons.injEq] at e2
      have := f c' (by rw [e1, e2.1]; simp)
      exact absurd h' (not_or.2 this)
theorem last_uniq {A B A' B' : Cs} {c c' : Nat × Nat} {x : Nat} (e : A ++ c :: B = A' ++ c' :: B') (h : c.1 = x ∨ c.2 = x) (h' : c'.1 = x ∨ c'.2 = x) (f : Fresh B x) (f' : Fresh B' x) : c = c' := by
  refine fresh_uniq (A := B.reverse) (B := A.reverse) (A' := B'.reverse) (B' := A'.reverse) (x := x) ?_ h h' (fun d hd => f d (List.mem_reverse.1 hd)) (fun d hd => f' d (List.mem_reverse.1 hd))
  have := congrArg List.reverse e
  simpa using this
/-- Where x's news are before somebody's last call. -/
theorem reach_from {M : Cs} {x : Nat} {T : Nat → Prop} (hx : T x) (h1 : ∀ A c B, M = A ++ c :: B → FF A c B → (c.1 = x → T c.2) ∧ (c.2 = x → T c.1)) (h2 : ∀ A c B, M = A ++ c :: B → MM A c B → (T c.1 ↔ T c.2))
 (A : Cs) : ∀ B, M = A ++ B → ∀ p, K A p x → Fresh B p ∨ T p := by
  refine snocI (P := fun A => ∀ B, M = A ++ B → ∀ p, K A p x → Fresh B p ∨ T p) ?_ ?_ A
  · intro B e p h
    have : p = x := h
    rw [this]; exact .inr hx
  · intro A c ih B e p h
    have e' : M = A ++ c :: B := by rw [e]; simp
    have weak : ∀ q, Fresh (c :: B) q → Fresh B q := fun q h d hd => h d (List.mem_cons_of_mem _ hd)
    rcases (K_snoc A c p x).1 h with k | ⟨e1, k⟩ | ⟨e1, k⟩
    · exact (ih _ e' p k).imp (weak p) id
    · rw [e1]
      rcases ih _ e' _ k with g | g
      · exact absurd rfl (g c List.mem_cons_self).2
      · by_cases ff : FF A c B
        · exact .inr ((h1 A c B e' ff).2 (fresh_K _ ff.2 k))
        · by_cases ll : LL A c B
          · exact .inl ll.1
          · exact .inr ((h2 A c B e' ⟨ff, ll⟩).2 g)
    · rw [e1]
      rcases ih _ e' _ k with g | g
      · exact absurd rfl (g c List.mem_cons_self).1
      · by_cases ff : FF A c B
        · exact .inr ((h1 A c B e' ff).1 (fresh_K _ ff.1 k))
        · by_cases ll : LL A c B
          · exact .inl ll.2
          · exact .inr ((h2 A c B e' ⟨ff, ll⟩).1 g)
end Gs

/- Gossip: two calls a friend, four fewer, are the fewest. No conditions. -/
namespace Gs
set_option linter.unusedVariables false
open Classical
theorem reach_back {M : Cs} {x : Nat} {T : Nat → Prop} (hx : T x) (h1 : ∀ A c B, M = A ++ c :: B → LL A c B → (c.1 = x → T c.2) ∧ (c.2 = x → T c.1)) (h2 : ∀ A c B, M = A ++ c :: B → MM A c B → (T c.1 ↔ T c.2)) : ∀ (B A : Cs), M = A ++ B → ∀ p, K B x p → Fresh A p ∨ T p := by
  intro B A e p h
  have fr : ∀ L : Cs, ∀ p, Fresh L.reverse p ↔ Fresh L p := fun L p => ⟨fun h d hd => h d (List.mem_reverse.2 hd), fun h d hd => h d (List.mem_reverse.1 hd)⟩
  have back : ∀ {A : Cs} {c : Nat × Nat} {B : Cs}, M.reverse = A ++ c :: B → M = B.reverse ++ c :: A.reverse := fun e => by
    have := congrArg List.reverse e
    rw [List.reverse_reverse] at this
    rw [this]; simp
  have := reach_from (M := M.reverse) (x := x) (T := T) hx (fun A c B e f => h1 _ c _ (back e) ⟨(fr A _).2 f.1, (fr A _).2 f.2⟩)
    (fun A c B e m => h2 _ c _ (back e) ⟨fun f => m.2 ⟨(fr B _).1 f.1, (fr B _).1 f.2⟩, fun f => m.1 ⟨(fr A _).1 f.1, (fr A _).1 f.2⟩⟩) B.reverse A.reverse (by rw [e]; simp) p ((K_rev B x p).2 h)
  exact this.imp (fr A p).1 id
theorem vv_occ {x : Nat} {M : Cs} (h : 1 ≤ pos (VV x) [] M) : ∃ d, d ∈ M ∧ (d.1 = x ∨ d.2 = x) := by
  obtain ⟨A, c, B, e, k⟩ := pos_pos M [] h
  exact ⟨c, by rw [e]; simp, k⟩
theorem last_of {x : Nat} {M : Cs} (h : ∃ d, d ∈ M ∧ (d.1 = x ∨ d.2 = x)) : ∃ A c B, M = A ++ c :: B ∧ Fresh B x ∧ (c.1 = x ∨ c.2 = x) := by
  obtain ⟨d, hd, k⟩ := h
  obtain ⟨A, c, B, e, f, k⟩ := first_of (x := x) M.reverse [] (fun d hd => by cases hd) ⟨d, List.mem_reverse.2 hd, k⟩
  refine ⟨B.reverse, c, A.reverse, ?_, fun d hd => f d (by simpa using hd), k⟩
  have := congrArg List.reverse e
  rw [List.reverse_reverse] at this
  rw [this]; simp
theorem pos_add3 {P Q R : Cs → Nat × Nat → Cs → Prop} (B A : Cs) : pos (fun a c b => P a c b ∨ Q a c b ∨ R a c b) A B ≤ pos P A B + pos Q A B + pos R A B := by
  have h1 := pos_sum (P := P) (Q := fun a c b => Q a c b ∨ R a c b) B A
  have h2 := pos_sum (P := Q) (Q := R) B A
  omega
/-- Where nobody hears his own news. -/
theorem noho_low {S : List Nat} (hS : S.Nodup) {M : Cs} (hin : In S M) (hall : All S M) (hno : Noho M) : 2 * S.length ≤ M.length + 4 := by
  refine Classical.byContradiction fun hlt => ?_
  have hv3 : ∀ x, x ∈ S → 3 ≤ pos (VV x) [] M := fun x hx => by
    have := calls_of hS hall hno hx; omega
  have mutF : ∀ {A c B x}, M = A ++ c :: B → (c.1 = x ∨ c.2 = x) → Fresh A x → FF A c B := fun {A c B x} e h f => by
    obtain ⟨y, hy⟩ := other_end h
    have f' := first_mut hin hall hno e hy f
    rcases hy with rfl | rfl
    · exact ⟨f, f'⟩
    · exact ⟨f', f⟩
  have mutL : ∀ {A c B x}, M = A ++ c :: B → (c.1 = x ∨ c.2 = x) → Fresh B x → LL A c B := fun {A c B x} e h f => by
    obtain ⟨y, hy⟩ := other_end h
    have f' := last_mut hin hall hno e hy f
    rcases hy with rfl | rfl
    · exact ⟨f, f'⟩
    · exact ⟨f', f⟩
  have apart : ∀ A c B, M = A ++ c :: B → FF A c B → ¬ LL A c B := fun A c B e f l => by
    have hc := hin c (by rw [e]; simp)
    have h1 := one_first (x := c.1) M []
    have h2 := hv3 c.1 hc.1
    have h3 : pos (VV c.1) [] M ≤ pos (fun a d b => VV c.1 a d b ∧ Fresh a c.1) [] M := pos_mono _ _ fun A' d B' e' v => by
      refine ⟨v, ?_⟩
      have e2 : A ++ c :: B = A' ++ d :: B' := by rw [← e]; exact e'
      rcases List.append_eq_append_iff.1 e2 with ⟨D, e1, e2⟩ | ⟨D, e1, e2⟩
      · cases D with
        | nil => rw [List.append_nil] at e1; rw [e1]; exact f.1
        | cons d' D =>
          simp only [List.cons_append, List.cons.injEq] at e2
          have := l.1 d (by rw [e2.2]; simp)
          exact absurd v (not_or.2 this)
      · cases D with
        | nil => rw [List.append_nil] at e1; rw [← e1]; exact f.1
        | cons d' D =>
          intro q hq
          exact f.1 q (by rw [e1]; exact List.mem_append_left _ hq)
    omega
  -- first calls, last ones, and those between
  have nF : S.length ≤ 2 * pos FF [] M := by
    have := ends_many hS (P := FF) M []
    rwa [cn_all fun x hx => ?_] at this
    obtain ⟨A, c, B, e, f, k⟩ := first_of (x := x) M [] (fun d hd => by cases hd) (vv_occ (Nat.le_trans (by omega) (hv3 x hx)))
    exact ⟨A, c, B, e, mutF e k f, k⟩
  have nL : S.length ≤ 2 * pos LL [] M := by
    have := ends_many hS (P := LL) M []
    rwa [cn_all fun x hx => ?_] at this
    obtain ⟨A, c, B, e, f, k⟩ := last_of (x := x) (M := M) (vv_occ (Nat.le_trans (by omega) (hv3 x hx)))
    exact ⟨A, c, B, e, mutL e k f, k⟩
  have nM : pos MM [] M + S.length ≤ M.length := by
    have h1 := pos_sum (P := FF) (Q := LL) M []
    have h2 : pos (fun a c b => FF a c b ∧ LL a c b) [] M = 0 := pos_none _ _ fun A c B e h => apart _ _ _ e h.1 h.2
    have h3 := pos_not (P := fun a c b => FF a c b ∨ LL a c b) M []
    have h4 : pos MM [] M ≤ pos (fun a c b => ¬ (FF a c b ∨ LL a c b)) [] M := pos_mono _ _ fun _ _ _ _ h k => k.elim h.1 h.2
    omega
  have v5 : ∀ x, x ∈ S → 5 ≤ pos (VV x) [] M := fun x hx => by
    have occ := vv_occ (Nat.le_trans (by omega) (hv3 x hx))
    obtain ⟨A1, c1, B1, e1, f1, k1⟩ := first_of (x := x) M [] (fun d hd => by cases hd) occ
    obtain ⟨A2, c2, B2, e2, f2, k2⟩ := last_of (x := x) (M := M) occ
    obtain ⟨u, hu⟩ := other_end k1
    obtain ⟨l, hl⟩ := other_end k2
    obtain ⟨T, t1, t2, -, t4⟩ := closure hS (P := MM) M [] (fun w => w = x ∨ w = u ∨ w = l)
    have n0 : cn S (fun w => w = x ∨ w = u ∨ w = l) ≤ 3 :=
      Nat.le_trans cn_or (Nat.add_le_add (cn_one hS _) (Nat.le_trans cn_or (Nat.add_le_add (cn_one hS _) (cn_one hS _)))) 
    have tx : T x := t1 _ (.inl rfl)
    have hMM : ∀ A c B, M = A ++ c :: B → MM A c B → (T c.1 ↔ T c.2) := fun A c B e m => by
      rw [e] at t2; exact cl_at A [] B t2 m
    have tu : T u := t1 _ (.inr (.inl rfl))
    have tl : T l := t1 _ (.inr (.inr rfl))
    have pairs : ∀ {c c' : Nat × Nat} {y : Nat}, c = c' → (c = (x, y) ∨ c = (y, x)) → T y → (c'.1 = x → T c'.2) ∧ (c'.2 = x → T c'.1) := by
      rintro c c' y rfl (rfl | rfl) hy
      · exact ⟨fun _ => hy, fun _ => tx⟩
      · exact ⟨fun _ => tx, fun _ => hy⟩
    have hFF : ∀ A c B, M = A ++ c :: B → FF A c B → (c.1 = x → T c.2) ∧ (c.2 = x → T c.1) := fun A c B e f => by
      refine ⟨fun h => ?_, fun h => ?_⟩
      · exact (pairs (fresh_uniq (e1.symm.trans e) k1 (.inl h) f1 (h ▸ f.1)) hu tu).1 h
      · exact (pairs (fresh_uniq (e1.symm.trans e) k1 (.inr h) f1 (h ▸ f.2)) hu tu).2 h
    have hLL : ∀ A c B, M = A ++ c :: B → LL A c B → (c.1 = x → T c.2) ∧ (c.2 = x → T c.1) := fun A c B e f => by
      refine ⟨fun h => ?_, fun h => ?_⟩
      · exact (pairs (last_uniq (e2.symm.trans e) k2 (.inl h) f2 (h ▸ f.1)) hl tl).1 h
      · exact (pairs (last_uniq (e2.symm.trans e) k2 (.inr h) f2 (h ▸ f.2)) hl tl).2 h
    -- those outside
    have out1 : cn S (fun w => ¬ T w) ≤ 2 * pos (fun a c b => MM a c b ∧ ¬ T c.1 ∧ ¬ T c.2) [] M := by
      refine Nat.le_trans (cn_mono fun w hw hT => ?_) (ends_many hS (P := fun a c b => MM a c b ∧ ¬ T c.1 ∧ ¬ T c.2) M [])
      have h1 := hv3 w hw
      have h2 := pos_add3 (P := fun a c b => VV w a c b ∧ Fresh a w) (Q := fun a c b => VV w a c b ∧ Fresh b w) (R := fun a c b => VV w a c b ∧ MM a c b) M []
      have h3 : pos (VV w) [] M ≤ pos (fun a c b => (VV w a c b ∧ Fresh a w) ∨ (VV w a c b ∧ Fresh b w) ∨ (VV w a c b ∧ MM a c b)) [] M := pos_mono _ _ fun A c B e v => by
        by_cases q1 : Fresh A w
        · exact .inl ⟨v, q1⟩
        · by_cases q2 : Fresh B w
          · exact .inr (.inl ⟨v, q2⟩)
          · refine .inr (.inr ⟨v, fun f => ?_, fun f => ?_⟩)
            · rcases v with rfl | rfl
              · exact q1 f.1
              · exact q1 f.2
            · rcases v with rfl | rfl
              · exact q2 f.1
              · exact q2 f.2
      have h4 := one_first (x := w) M []
      have h5 := one_last (x := w) M []
      obtain ⟨A, c, B, e, v, m⟩ := pos_pos (P := fun a c b => VV w a c b ∧ MM a c b) M [] (by omega)
      have hiff := hMM A c B e m
      refine ⟨A, c, B, e, ⟨m, ?_⟩, v⟩
      rcases v with rfl | rfl
      · exact ⟨hT, fun h => hT (hiff.2 h)⟩
      · exact ⟨fun h => hT (hiff.1 h), hT⟩
    have out2 : S.length ≤ cn S T + cn S (fun w => ¬ T w) := by
      have := cn_or (S := S) (p := T) (q := fun w => ¬ T w)
      rwa [cn_all fun w _ => Classical.em _] at this
    have out3 : pos (fun a c b => MM a c b ∧ T c.1 ∧ T c.2) [] M + pos (fun a c b => MM a c b ∧ ¬ T c.1 ∧ ¬ T c.2) [] M ≤ pos MM [] M := by
      have h1 := pos_sum (P := fun a c b => MM a c b ∧ T c.1 ∧ T c.2) (Q := fun a c b => MM a c b ∧ ¬ T c.1 ∧ ¬ T c.2) M []
      have h2 : pos (fun a c b => (MM a c b ∧ T c.1 ∧ T c.2) ∧ (MM a c b ∧ ¬ T c.1 ∧ ¬ T c.2)) [] M = 0 := pos_none _ _ fun A c B e h => h.2.2.1 h.1.2.1
      have h3 : pos (fun a c b => (MM a c b ∧ T c.1 ∧ T c.2) ∨ (MM a c b ∧ ¬ T c.1 ∧ ¬ T c.2)) [] M ≤ pos MM [] M := pos_mono _ _ fun _ _ _ _ h => h.elim (·.1) (·.1)
      omega
    have out4 : pos (fun a c b => MM a c b ∧ ¬ T c.1 ∧ ¬ T c.2) [] M ≤ pos (fun a c b => ¬ (OO x a c b ∨ II x a c b)) [] M := pos_mono _ _ fun A c B e h k => by
      have e' : M = A ++ c :: B := e
      have no1 : ¬ K A c.1 x := fun g => (reach_from tx hFF hMM A _ e' _ g).elim (fun f => (f c List.mem_cons_self).1 rfl) h.2.1
      have no2 : ¬ K A c.2 x := fun g => (reach_from tx hFF hMM A _ e' _ g).elim (fun f => (f c List.mem_cons_self).2 rfl) h.2.2
      have e3 : M = (A ++ [c]) ++ B := by rw [e']; simp
      have no3 : ¬ K B x c.1 := fun g => (reach_back tx hLL hMM B _ e3 _ g).elim (fun f => (f c (by simp)).1 rfl) h.2.1
      have no4 : ¬ K B x c.2 := fun g => (reach_back tx hLL hMM B _ e3 _ g).elim (fun f => (f c (by simp)).2 rfl) h.2.2
      rcases k with (⟨g, _⟩ | ⟨_, g⟩) | (⟨g, _⟩ | ⟨_, g⟩)
      · exact no1 g
      · exact no2 g
      · exact no3 g
      · exact no4 g
    have := calls_of hS hall hno hx
    omega
  have h1 := two_ends S hS M []
  have h2 := sum_low (f := fun x => pos (VV x) [] M) v5
  omega
/-- Two calls a friend, four fewer, are the fewest. -/
theorem calls_low : ∀ (n : Nat) (S : List Nat), S.length = n → S.Nodup → ∀ M, In S M → All S M → 2 * n ≤ M.length + 4
  | 0, S, _, _, M, _, _ => Nat.zero_le _
  | n + 1, S, hn, hS, M, hin, hall => by
    by_cases hno : Noho M
    · rw [← hn]; exact noho_low hS hin hall hno
    · obtain ⟨x, hx, M', h1, h2, h3⟩ := reduce hS hin hall hno
      have := calls_low n (S.erase x) (by rw [List.length_erase_of_mem hx, hn]; rfl) (hS.erase x) M' h2 h3
      omega
theorem calls_two {S : List Nat} (hS : S.Nodup) (h : 2 ≤ S.length) {M : Cs} (hall : All S M) : 1 ≤ M.length := by
  match S, h, hS with
  | a :: b :: S, _, hS =>
    cases M with
    | nil =>
      have : a = b := hall a (by simp) b (by simp)
      simp [this] at hS
    | cons c M => simp
theorem calls_three {S : List Nat} (hS : S.Nodup) (h : S.length = 3) {M : Cs} (hin : In S M) (hall : All S M) : 3 ≤ M.length := by
  refine Classical.byContradiction fun hlt => ?_
  by_cases hno : Noho M
  · have h1 := two_ends S hS M []
    have h2 := sum_low (S := S) (f := fun x => pos (VV x) [] M) (k := 2) fun x hx => by
      have := calls_of hS hall hno hx; omega
    omega
  · obtain ⟨x, hx, M', h1, h2, h3⟩ := reduce hS hin hall hno
    have := calls_two (hS.erase x) (by rw [List.length_erase_of_mem hx]; omega) h3
    omega
/-- The fewest calls of so many friends. -/
def fewest (n : Nat) : Nat := if n ≤ 1 then 0 else if n ≤ 3 then 2 * n - 3 else 2 * n - 4
theorem fewest_low {S : List Nat} (hS : S.Nodup) {M : Cs} (hin : In S M) (hall : All S M) : fewest S.length ≤ M.length := by
  have h1 := calls_low _ S rfl hS M hin hall
  unfold fewest
  by_cases e1 : S.length ≤ 1
  · rw [if_pos e1]; exact Nat.zero_le _
  rw [if_neg e1]
  by_cases e2 : S.length ≤ 3
  · rw [if_pos e2]
    by_cases e3 : S.length = 3
    · have := calls_three hS e3 hin hall; omega
    · have := calls_two hS (by omega) hall; omega
  · rw [if_neg e2]; omega
end Gs

