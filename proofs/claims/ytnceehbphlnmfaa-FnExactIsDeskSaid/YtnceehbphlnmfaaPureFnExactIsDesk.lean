/- The law FnExactIsDesk in plain Lean: it returns true at every input. No conditions. -/
import Derived.Test.YtnceehbphlnmfaaStFnExactIsDesk
import Derived.Test.YtnceehbphlnmfaaGp
namespace Go.Proofs.Ytnceehbphlnmfaa.Pure
open Go.RowKit Go.Proofs.Ytnceehbphlnmfaa.PFnExactIsDesk Go.Proofs.YtnceehbphlnmfaaW.PrintWords Go.Proofs.YtnceehbphlnmfaaW.PrintLast Go.Proofs.YtnceehbphlnmfaaW.PrintMore Go.Proofs.Ytnceehbphlnmfaa.Gr Go.Proofs.Ytnceehbphlnmfaa.Gp
set_option linter.unusedVariables false
set_option linter.unusedSimpArgs false

theorem szCallS_val (l : List S109) (h : l.length ≤ 9223372036854775807) : laws_szCallS.f l 1048576 = some (if l.length ≤ 1048576 then 1048576 - (l.length : Int) else -1) := by
  unfold laws_szCallS.f
  rw [w64 (by omega) (by omega)]
  by_cases hl : l.length ≤ 1048576
  · rw [if_neg (by omega), if_pos hl]
  · rw [if_pos (by omega), if_neg hl]

def cvCall (y : S109) : S81 := ⟨y.f0, y.f1⟩
theorem toCallS_ev (l : List S109) (h : l.length ≤ 1048576) : Ev (fun k => laws_toCallS.f k l) (l.map cvCall) := by
  unfold laws_toCallS.f
  refine ev_pos (by omega) (ev_pos (by omega) ?_)
  refine ev_fill l z81 cvCall (fun k st i => laws_toCallS.l0 k l st i) (fun k st i hi hst => ?_) (fun k st hst => ?_)
  · have e : l.getD i z109 = l[i] := getD_at l i hi _
    simp only [laws_toCallS.l0, rd_T109, Int.toNat_natCast]
    rw [if_pos (by omega), if_pos (by omega), e]
    simp only [laws_toCall.f, Option.bind_some, cvCall]
    rw [if_pos (by omega), w64 (by omega) (by omega)]
    rfl
  · simp only [laws_toCallS.l0]
    rw [if_neg (by omega)]

theorem eqCallS_ev (l : List S81) (h : l.length ≤ 1048576) : Ev (fun k => laws_eqCallS.f k l l) true := by
  unfold laws_eqCallS.f
  refine ev_pos rfl (ev_same l (fun k i => laws_eqCallS.l0 k l l i) (fun k i hi => ?_) (fun k => ?_))
  · simp only [laws_eqCallS.l0]
    rw [if_pos (by omega), if_pos (by omega), if_pos (by omega)]
    unfold laws_eqCall.f
    rw [if_pos rfl, if_pos rfl]
    simp only [Option.bind_some, if_true]
    rw [w64 (by omega) (by omega)]
    rfl
  · simp only [laws_eqCallS.l0]
    rw [if_neg (by omega)]

theorem l1In_eq (a b c : Int) : spec_l1In.f a b c = some (decide (b ≤ a ∧ a ≤ c)) := by
  unfold spec_l1In.f
  by_cases h : b ≤ a <;> simp [h]

theorem rd_call (l : List S81) (i : Nat) (hi : i < l.length) : rd_T81 l (i : Int) = l[i] := by
  unfold rd_T81
  rw [Int.toNat_natCast]
  exact getD_at l i hi _
/-- are these calls of so many friends? -/
def areCa (n : Int) (l : List S81) : Bool := decide (1 ≤ n ∧ n ≤ 10) && decide (l.length ≤ 60) && l.all (impl_AreCalls.ok n)
theorem implCalls (n : Int) (l : List S81) : impl_AreCalls.f n l = some (areCa n l) := by
  unfold impl_AreCalls.f areCa
  rw [show (l.all (impl_AreCalls.ok n)) = !l.any fun c => !impl_AreCalls.ok n c by simp [List.any_eq_not_all_not]]
theorem caCall_v (n x y : Int) (h1 : 1 ≤ n) (h2 : n ≤ 10) : spec_caCall.f n x y = some (decide (0 ≤ x ∧ x < y ∧ y < n)) := by
  unfold spec_caCall.f
  simp only [l1In_eq, Option.bind_some]
  rw [w64 (n := n - 1) (by omega) (by omega)]
  by_cases h : 0 ≤ x ∧ x ≤ n - 1
  · rw [if_pos (by simpa using h), w64 (n := x + 1) (by omega) (by omega)]
    congr 1
    rw [decide_eq_decide]
    omega
  · rw [if_neg (by simpa using h)]
    congr 1
    symm
    rw [decide_eq_false_iff_not]
    omega
theorem caGood_l (n : Int) (l : List S81) (h1 : 1 ≤ n) (h2 : n ≤ 10) (hl : l.length ≤ 60) : ∀ i, i ≤ l.length → Ev (fun k => spec_caGood.l0 k n l (l.length : Int) (i : Int)) ((l.drop i).all (impl_AreCalls.ok n)) := by
  refine ev_down l.length _ _ (Ev.step (f := fun _ => some true) (fun k => by simp only [spec_caGood.l0]; rw [if_neg (by omega)]) (ev_eq (by simp) (Ev.now true))) (fun i hi ih => ?_)
  have hd : l.drop i = l[i] :: l.drop (i + 1) := List.drop_eq_getElem_cons hi
  refine Ev.step (f := fun k => if decide (0 ≤ l[i].f0 ∧ l[i].f0 < l[i].f1 ∧ l[i].f1 < n) = true then spec_caGood.l0 k n l (l.length : Int) ((i + 1 : Nat) : Int) else some false) (fun k => ?_) ?_
  · have hg := rd_call l i hi
    simp only [spec_caGood.l0, caCall_v n _ _ h1 h2, hg, Option.bind_some]
    rw [if_pos (by omega), if_pos (by omega), if_pos (by omega), w64 (n := (i : Int) + 1) (by omega) (by omega)]
    rfl
  · rw [hd, List.all_cons]
    unfold impl_AreCalls.ok at ih ⊢
    by_cases ha : 0 ≤ l[i].f0 ∧ l[i].f0 < l[i].f1 ∧ l[i].f1 < n
    · exact ev_pos (by simpa using ha) (ev_eq (by simp [ha]) ih)
    · exact ev_neg (by simpa using ha) (ev_eq (by simp [ha]) (Ev.now false))
theorem caGood_ev (n : Int) (l : List S81) (hb : l.length ≤ 9223372036854775807) : Ev (fun k => spec_caGood.f k n l) (areCa n l) := by
  unfold spec_caGood.f spec_caFriends.f areCa
  simp only [l1In_eq, Option.bind_some]
  by_cases h : 1 ≤ n ∧ n ≤ 10
  · refine ev_pos (by simp [h]) ?_
    by_cases hl : l.length ≤ 60
    · refine Ev.step (f := fun k => spec_caGood.l0 k n l (l.length : Int) 0) (fun k => ?_) (ev_eq ?_ (caGood_l n l h.1 h.2 hl 0 (Nat.zero_le _)))
      · simp only [spec_caGood.j0]
        rw [if_neg (by simp; omega)]
      · simp [h, hl]
    · refine Ev.step (f := fun k => some false) (fun k => ?_) (ev_eq (by simp [hl]) (Ev.now false))
      simp only [spec_caGood.j0]
      rw [if_pos (by simp; omega)]
  · refine ev_neg (by simpa using h) (Ev.step (f := fun k => some false) (fun k => ?_) (ev_eq (by simp [h]) (Ev.now false)))
    simp only [spec_caGood.j0]
    first | rw [if_pos rfl] | rw [if_pos trivial]

theorem FnExactIsDesk : laws_FnExactIsDesk.Pure := by
  intro a l _ hl _
  refine Ev.rounds ?_
  unfold laws_FnExactIsDesk.f laws_szDesk.f
  rw [szCallS_val l hl]
  by_cases hs : l.length ≤ 1048576
  · rw [if_pos hs]
    have hc : (l.map cvCall).length ≤ 1048576 := by simpa using hs
    have hT : Ev (fun k => laws_toDesk.f k a l) (a, l.map cvCall) := Ev.bind (toCallS_ev l hs) (Ev.now _)
    have hS : Ev (fun k => spec_IsDesk.f k a (l.map cvCall)) (areCa a (l.map cvCall)) := Ev.bind (Ev.bind (caGood_ev a _ (by omega)) (Ev.now _)) (Ev.now _)
    have hI : impl_IsDesk.f a (l.map cvCall) = some (areCa a (l.map cvCall)) := by unfold impl_IsDesk.f; rw [implCalls]; rfl
    have hE : Ev (fun k => laws_eqDesk.f k a (l.map cvCall) a (l.map cvCall)) true := ev_pos rfl (Ev.bind (eqCallS_ev _ hc) (ev_pos rfl (Ev.now _)))
    refine ev_call (show _ = some (1048576 - (l.length : Int)) by simp only [Option.bind_some]; rw [if_neg (by omega)]) ?_
    exact ev_neg (by omega) (Ev.bind hT (Ev.bind hS (Ev.bind hT (ev_call hI (ev_neg (by simp) (Ev.bind hT (Ev.bind hE (ev_pos rfl (Ev.now _)))))))))
  · rw [if_neg hs]
    exact ev_call (show _ = some (-1) from rfl) (ev_pos (by omega) (Ev.now _))

end Go.Proofs.Ytnceehbphlnmfaa.Pure
