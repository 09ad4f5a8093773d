/- The law FnExactClaimsText in plain Lean: it returns true at every input. No conditions. -/
import Derived.Test.YtbpljefjopjogaaStFnExactClaimsText
import Derived.Test.YtbpljefjopjogaaGr
import Derived.Test.YtbpljefjopjogaaGp
namespace Go.Proofs.Ytbpljefjopjogaa.Pure
open Go.RowKit Go.Proofs.Ytbpljefjopjogaa.PFnExactClaimsText Go.Proofs.YtbpljefjopjogaaW.PrintWords Go.Proofs.YtbpljefjopjogaaW.PrintLast Go.Proofs.YtbpljefjopjogaaW.PrintMore Go.Proofs.Ytbpljefjopjogaa.Gr Go.Proofs.Ytbpljefjopjogaa.Gp
set_option linter.unusedVariables false
set_option linter.unusedSimpArgs false

theorem szClaimS_val (l : List S35) (h : l.length ≤ 9223372036854775807) : laws_szClaimS.f l 1048576 = some (if l.length ≤ 1048576 then 1048576 - (l.length : Int) else -1) := by
  unfold laws_szClaimS.f
  rw [w64 (by omega) (by omega)]
  by_cases hl : l.length ≤ 1048576
  · rw [if_neg (by omega), if_pos hl]
  · rw [if_pos (by omega), if_neg hl]

def cvClaim (y : S35) : S33 := ⟨y.f0, y.f1, y.f2⟩
theorem toClaimS_ev (l : List S35) (h : l.length ≤ 1048576) : Ev (fun k => laws_toClaimS.f k l) (l.map cvClaim) := by
  unfold laws_toClaimS.f
  refine ev_pos (by omega) (ev_pos (by omega) ?_)
  refine ev_fill l z33 cvClaim (fun k st i => laws_toClaimS.l0 k l st i) (fun k st i hi hst => ?_) (fun k st hst => ?_)
  · have e : l.getD i z35 = l[i] := getD_at l i hi _
    simp only [laws_toClaimS.l0, rd_T35, Int.toNat_natCast]
    rw [if_pos (by omega), if_pos (by omega), e]
    simp only [laws_toClaim.f, Option.bind_some, cvClaim]
    rw [if_pos (by omega), w64 (by omega) (by omega)]
    rfl
  · simp only [laws_toClaimS.l0]
    rw [if_neg (by omega)]

theorem eqClaimS_ev (l : List S33) (h : l.length ≤ 1048576) : Ev (fun k => laws_eqClaimS.f k l l) true := by
  unfold laws_eqClaimS.f
  refine ev_pos rfl (ev_same l (fun k i => laws_eqClaimS.l0 k l l i) (fun k i hi => ?_) (fun k => ?_))
  · simp only [laws_eqClaimS.l0]
    rw [if_pos (by omega), if_pos (by omega), if_pos (by omega)]
    unfold laws_eqClaim.f
    rw [if_pos rfl, if_pos rfl, if_neg (by simp)]
    simp only [Option.bind_some, if_true]
    rw [w64 (by omega) (by omega)]
    rfl
  · simp only [laws_eqClaimS.l0]
    rw [if_neg (by omega)]

theorem l1In_eq (a b c : Int) : spec_l1In.f a b c = some (decide (b ≤ a ∧ a ≤ c)) := by
  unfold spec_l1In.f
  by_cases h : b ≤ a <;> simp [h]

theorem rd_claim (l : List S33) (i : Nat) (hi : i < l.length) : rd_T33 l (i : Int) = l[i] := by
  unfold rd_T33
  rw [Int.toNat_natCast]
  exact getD_at l i hi _

/-- are these claims of so many friends? -/
def areCl (n : Int) (l : List S33) : Bool := decide (1 ≤ n ∧ n ≤ 8) && decide (l.length ≤ 20) && l.all (impl_AreClaims.ok n)
theorem implGood (n : Int) (l : List S33) : impl_AreClaims.f n l = some (areCl n l) := by
  unfold impl_AreClaims.f areCl
  rw [show (l.all (impl_AreClaims.ok n)) = !l.any fun c => !impl_AreClaims.ok n c by simp [List.any_eq_not_all_not]]
theorem liGood_l (n : Int) (l : List S33) (h1 : 1 ≤ n) (h2 : n ≤ 8) (hl : l.length ≤ 20) : ∀ i, i ≤ l.length → Ev (fun k => spec_liGood.l0 k n l (l.length : Int) (i : Int)) ((l.drop i).all (impl_AreClaims.ok n)) := by
  have e : wrap64 (n - 1) = n - 1 := w64 (by omega) (by omega)
  refine ev_down l.length _ _ (Ev.step (f := fun _ => some true) (fun k => by simp only [spec_liGood.l0]; rw [if_neg (by omega)]) (ev_eq (by simp) (Ev.now true))) (fun i hi ih => ?_)
  have hd : l.drop i = l[i] :: l.drop (i + 1) := List.drop_eq_getElem_cons hi
  refine Ev.step (f := fun k => if decide (0 ≤ l[i].f0 ∧ l[i].f0 ≤ n - 1) = true then (if decide (0 ≤ l[i].f1 ∧ l[i].f1 ≤ n - 1) = true then spec_liGood.l0 k n l (l.length : Int) ((i + 1 : Nat) : Int) else some false) else some false) (fun k => ?_) ?_
  · have hg := rd_claim l i hi
    simp only [spec_liGood.l0, l1In_eq, e, hg, Option.bind_some]
    rw [if_pos (by omega), if_pos (by omega), if_pos (by omega), w64 (n := (i : Int) + 1) (by omega) (by omega)]
    rfl
  · rw [hd, List.all_cons]
    unfold impl_AreClaims.ok at ih ⊢
    by_cases ha : 0 ≤ l[i].f0 ∧ l[i].f0 ≤ n - 1
    · by_cases hb : 0 ≤ l[i].f1 ∧ l[i].f1 ≤ n - 1
      · refine ev_pos (by simp [ha]) (ev_pos (by simp [hb]) (ev_eq ?_ ih))
        simp [ha, hb]
      · exact ev_pos (by simp [ha]) (ev_neg (by simp [hb]) (ev_eq (by simp [hb]) (Ev.now false)))
    · exact ev_neg (by simp [ha]) (ev_eq (by simp [ha]) (Ev.now false))
theorem liGood_ev (n : Int) (l : List S33) (hb : l.length ≤ 9223372036854775807) : Ev (fun k => spec_liGood.f k n l) (areCl n l) := by
  unfold spec_liGood.f spec_liFriends.f areCl
  simp only [l1In_eq, Option.bind_some]
  by_cases h : 1 ≤ n ∧ n ≤ 8
  · refine ev_pos (by simp [h]) ?_
    by_cases hl : l.length ≤ 20
    · refine Ev.step (f := fun k => spec_liGood.l0 k n l (l.length : Int) 0) (fun k => ?_) (ev_eq ?_ (liGood_l n l h.1 h.2 hl 0 (Nat.zero_le _)))
      · simp only [spec_liGood.j0]
        rw [if_neg (by simp; omega)]
      · simp [h, hl]
    · refine Ev.step (f := fun k => some false) (fun k => ?_) (ev_eq (by simp [hl]) (Ev.now false))
      simp only [spec_liGood.j0]
      rw [if_pos (by simp; omega)]
  · refine ev_neg (by simpa using h) (Ev.step (f := fun k => some false) (fun k => ?_) (ev_eq (by simp [h]) (Ev.now false)))
    simp only [spec_liGood.j0]
    first | rw [if_pos rfl] | rw [if_pos trivial]

def num (x : Int) : ByteArray := strOfNums [(wrap64 (48 + x)) % 256]
def sgn (b : Bool) : ByteArray := if b = true then ⟨#[61]⟩ else ⟨#[35]⟩
def cellP (x y : Int) (b : Bool) : ByteArray := strOfNums [(wrap64 (48 + x)) % 256, if b = true then 61 else 35, (wrap64 (48 + y)) % 256]
def cellC (c : S33) : ByteArray := cellP c.f0 c.f1 c.f2
theorem cell8 : ∀ (i j : Fin 8) (b : Bool), (num ((i : Nat) : Int) ++ sgn b) ++ num ((j : Nat) : Int) = cellP ((i : Nat) : Int) ((j : Nat) : Int) b ∧ (cellP ((i : Nat) : Int) ((j : Nat) : Int) b).size = 3 ∧ (num ((i : Nat) : Int)).size = 1 ∧ (num ((i : Nat) : Int) ++ sgn b).size = 2 := by decide +kernel
theorem cell_v {x y : Int} (b : Bool) (h0 : 0 ≤ x) (h1 : x < 8) (h2 : 0 ≤ y) (h3 : y < 8) : (num x ++ sgn b) ++ num y = cellP x y b ∧ (cellP x y b).size = 3 ∧ (num x).size = 1 ∧ (num x ++ sgn b).size = 2 := by
  obtain ⟨i, rfl⟩ := Int.eq_ofNat_of_zero_le h0
  obtain ⟨j, rfl⟩ := Int.eq_ofNat_of_zero_le h2
  exact cell8 ⟨i, by omega⟩ ⟨j, by omega⟩ b
theorem num_ev {x : Int} (h : x < 10) : Ev (fun k => spec_l1Num.f k x) (num x) := Ev.step (f := fun _ => some (num x)) (fun k => by simp only [spec_l1Num.f]; rw [if_pos h]; rfl) (Ev.now _)
def okCls (cs : List S33) : Prop := ∀ c, c ∈ cs → 0 ≤ c.f0 ∧ c.f0 < 8 ∧ 0 ≤ c.f1 ∧ c.f1 < 8
/-- the text of the first claims -/
def outV (cs : List S33) : Nat → ByteArray
  | 0 => ⟨#[]⟩
  | i + 1 => match cs[i]? with
    | none => outV cs i
    | some c => (if i = 0 then outV cs i else outV cs i ++ ⟨#[44]⟩) ++ cellC c
theorem outV_succ (cs : List S33) (i : Nat) (h : i < cs.length) : outV cs (i + 1) = (if i = 0 then outV cs i else outV cs i ++ (⟨#[44]⟩ : ByteArray)) ++ cellC cs[i] := by
  show (match cs[i]? with | none => outV cs i | some c => (if i = 0 then outV cs i else outV cs i ++ (⟨#[44]⟩ : ByteArray)) ++ cellC c) = _
  rw [List.getElem?_eq_getElem h]
theorem outV_size (cs : List S33) (hc : okCls cs) (i : Nat) (h : i ≤ cs.length) : (outV cs i).size ≤ 4 * i := by
  induction i with
  | zero => exact Nat.le_refl _
  | succ i ih =>
    have ih' := ih (by omega)
    have hm := hc cs[i] (List.getElem_mem (by omega))
    have h3 := (cell_v cs[i].f2 hm.1 hm.2.1 hm.2.2.1 hm.2.2.2).2.1
    rw [outV_succ cs i (by omega), ByteArray.size_append]
    have h4 : (cellC cs[i]).size = 3 := h3
    split
    · omega
    · rw [ByteArray.size_append, size1]
      omega
theorem data_app (a b : ByteArray) : (a ++ b).data.toList = a.data.toList ++ b.data.toList := by simp [ByteArray.data_append]
theorem joinB_snoc (l : List ByteArray) (x s : ByteArray) : joinB (l ++ [x]) s = if l = [] then x.data.toList else joinB l s ++ s.data.toList ++ x.data.toList := by
  cases l with
  | nil => simp [joinB, Lib.join_one]
  | cons y r =>
    rw [if_neg (by simp)]
    unfold joinB
    rw [List.cons_append, List.map_cons, List.map_cons, Lib.join_cons, Lib.join_cons]
    unfold Lib.joinTail
    simp [List.map_append, List.flatten_append, List.append_assoc]
theorem outV_join (cs : List S33) (i : Nat) (h : i ≤ cs.length) : (outV cs i).data.toList = joinB ((cs.take i).map cellC) ⟨#[44]⟩ := by
  induction i with
  | zero => rfl
  | succ i ih =>
    rw [outV_succ cs i (by omega), data_app, List.take_succ_eq_append_getElem (by omega), List.map_append, List.map_cons, List.map_nil, joinB_snoc]
    by_cases h0 : i = 0
    · subst h0
      rw [if_pos rfl, if_pos (by simp)]
      rfl
    · have hne : ¬ (cs.take i).map cellC = [] := fun he => by
        have := congrArg List.length he
        rw [List.length_map, List.length_take] at this
        simp only [List.length_nil] at this
        omega
      rw [if_neg h0, if_neg hne, data_app, ih (by omega)]
theorem join_v (cs : List S33) (hc : okCls cs) (hl : cs.length ≤ 20) : strings_Join.f (cs.map cellC) (⟨#[44]⟩ : ByteArray) = some (outV cs cs.length) := by
  have h1 := outV_join cs cs.length (Nat.le_refl _)
  have h2 := outV_size cs hc cs.length (Nat.le_refl _)
  rw [List.take_length] at h1
  have h3 : (joinB (cs.map cellC) ⟨#[44]⟩).length = (outV cs cs.length).size := by rw [← h1, Array.length_toList]; rfl
  unfold strings_Join.f
  rw [if_pos ⟨by rw [List.length_map]; omega, by omega⟩, ← h1, Array.toArray_toList]
theorem liText_ev (cs : List S33) (hc : okCls cs) (hl : cs.length ≤ 20) : Ev (fun k => spec_liText.f k cs) (outV cs cs.length) := by
  unfold spec_liText.f
  refine (ev_down cs.length (fun i k => spec_liText.l0 k (outV cs i) cs (cs.length : Int) (i : Int)) (fun _ => outV cs cs.length) (Ev.step (f := fun _ => some _) (fun k => by simp only [spec_liText.l0]; rw [if_neg (by omega)]) (Ev.now _)) (fun i hi ih => ?_)) 0 (Nat.zero_le _)
  have hm := hc cs[i] (List.getElem_mem hi)
  have hcv := cell_v cs[i].f2 hm.1 hm.2.1 hm.2.2.1 hm.2.2.2
  have hn2 := (cell_v cs[i].f2 hm.2.2.1 hm.2.2.2 hm.1 hm.2.1).2.2.1
  have hos := outV_size cs hc i (by omega)
  obtain ⟨X, hX⟩ : ∃ X, X = (if i = 0 then outV cs i else outV cs i ++ ⟨#[44]⟩) := ⟨_, rfl⟩
  have hXs : X.size ≤ 4 * i + 1 := by
    rw [hX]
    split
    · omega
    · rw [ByteArray.size_append, size1]
      omega
  have hsz : ∀ s : ByteArray, s = cellP cs[i].f0 cs[i].f1 cs[i].f2 → s.size = 3 := fun s hs => by rw [hs]; exact hcv.2.1
  have key : Ev (fun k => spec_liText.j1 k X cs (cs.length : Int) (i : Int) cs[i].f0 cs[i].f1 cs[i].f2) (outV cs cs.length) := by
    have hw : wrap64 ((i : Int) + 1) = ((i + 1 : Nat) : Int) := w64 (by omega) (by omega)
    have hout : X ++ cellP cs[i].f0 cs[i].f1 cs[i].f2 = outV cs (i + 1) := by rw [outV_succ cs i hi, hX]; rfl
    refine Ev.step (fun k => by simp only [spec_liText.j1]; rfl) ?_
    obtain ⟨b, hb⟩ : ∃ b, cs[i].f2 = b := ⟨_, rfl⟩
    rw [hb] at hcv hout hsz ⊢
    cases b with
    | true =>
      have e1 : (num cs[i].f0 ++ (⟨#[61]⟩ : ByteArray)) ++ num cs[i].f1 = cellP cs[i].f0 cs[i].f1 true := hcv.1
      have e2 : (num cs[i].f0 ++ (⟨#[61]⟩ : ByteArray)).size = 2 := hcv.2.2.2
      refine ev_pos rfl (Ev.bind (num_ev (by omega)) (ev_pos (by omega) (Ev.bind (num_ev (by omega)) (ev_pos (by omega) (ev_pos ?_ ?_)))))
      · have := hsz _ e1
        omega
      · rw [e1, hout, hw]
        exact ih
    | false =>
      have e1 : (num cs[i].f0 ++ (⟨#[35]⟩ : ByteArray)) ++ num cs[i].f1 = cellP cs[i].f0 cs[i].f1 false := hcv.1
      have e2 : (num cs[i].f0 ++ (⟨#[35]⟩ : ByteArray)).size = 2 := hcv.2.2.2
      refine ev_neg (by simp) (Ev.bind (num_ev (by omega)) (ev_pos (by omega) (Ev.bind (num_ev (by omega)) (ev_pos (by omega) (ev_pos ?_ ?_)))))
      · have := hsz _ e1
        omega
      · rw [e1, hout, hw]
        exact ih
  refine Ev.step (f := fun k => spec_liText.j1 k X cs (cs.length : Int) (i : Int) cs[i].f0 cs[i].f1 cs[i].f2) (fun k => ?_) key
  simp only [spec_liText.l0, rd_claim cs i hi]
  rw [if_pos (by omega), if_pos (by omega), if_pos (by omega)]
  by_cases h0 : i = 0
  · rw [if_neg (by omega), hX, if_pos h0]
  · rw [if_pos (by omega), if_pos (by omega), hX, if_neg h0]
theorem claimsText_ev (cs : List S33) (hc : okCls cs) (hl : cs.length ≤ 20) : Ev (fun k => impl_claimsText.f k cs) (outV cs cs.length) := by
  unfold impl_claimsText.f
  refine (ev_down cs.length (fun i k => impl_claimsText.l0 k ((cs.take i).map cellC) cs (cs.length : Int) (i : Int)) (fun _ => outV cs cs.length) (Ev.step (f := fun _ => some _) (fun k => by simp only [impl_claimsText.l0]; rw [if_neg (by omega), List.take_length, join_v cs hc hl]; rfl) (Ev.now _)) (fun i hi ih => ?_)) 0 (Nat.zero_le _)
  refine Ev.step (f := fun k => impl_claimsText.l0 k ((cs.take (i + 1)).map cellC) cs (cs.length : Int) ((i + 1 : Nat) : Int)) (fun k => ?_) ih
  have hw : wrap64 ((i : Int) + 1) = ((i + 1 : Nat) : Int) := w64 (by omega) (by omega)
  have hs : (cs.take (i + 1)).map cellC = (cs.take i).map cellC ++ [cellC cs[i]] := by rw [List.take_succ_eq_append_getElem hi, List.map_append]; rfl
  have hln : ((cs.take i).map cellC).length < 8796093022208 := by rw [List.length_map, List.length_take]; omega
  simp only [impl_claimsText.l0, rd_claim cs i hi]
  rw [if_pos (by omega), if_pos (by omega), if_pos (by omega), hw, hs]
  by_cases hb : cs[i].f2 = true
  · rw [if_pos hb, if_pos hln]
    unfold cellC cellP
    rw [hb]
    rfl
  · rw [if_neg hb, if_pos hln]
    have hb' : cs[i].f2 = false := by simpa using hb
    unfold cellC cellP
    rw [hb']
    rfl
def textV (cs : List S33) : ByteArray × Bool := if areCl 8 cs = true then (outV cs cs.length, true) else (⟨#[]⟩, false)
theorem okCls_of {cs : List S33} (h : areCl 8 cs = true) : okCls cs ∧ cs.length ≤ 20 := by
  unfold areCl at h
  simp only [Bool.and_eq_true, decide_eq_true_eq, List.all_eq_true] at h
  refine ⟨fun c hc => ?_, h.1.2⟩
  have h2 := h.2 c hc
  unfold impl_AreClaims.ok at h2
  simp only [Bool.and_eq_true, decide_eq_true_eq] at h2
  omega
theorem spec_v (cs : List S33) (hl : cs.length ≤ 1048576) : Ev (fun k => spec_ClaimsText.f k cs) (textV cs) := by
  unfold spec_ClaimsText.f textV
  refine Ev.bind (liGood_ev 8 cs (by omega)) ?_
  by_cases h : areCl 8 cs = true
  · rw [if_pos h]
    exact ev_pos h (Ev.bind (liText_ev cs (okCls_of h).1 (okCls_of h).2) (Ev.now _))
  · rw [if_neg h]
    exact ev_neg h (Ev.now _)
theorem impl_v (cs : List S33) : Ev (fun k => impl_ClaimsText.f k cs) (textV cs) := by
  unfold impl_ClaimsText.f textV
  refine ev_call (implGood 8 cs) ?_
  by_cases h : areCl 8 cs = true
  · rw [if_pos h]
    exact ev_pos h (Ev.bind (claimsText_ev cs (okCls_of h).1 (okCls_of h).2) (Ev.now _))
  · rw [if_neg h]
    exact ev_neg h (Ev.now _)
theorem FnExactClaimsText : laws_FnExactClaimsText.Pure := by
  intro l hl _
  refine Ev.rounds ?_
  unfold laws_FnExactClaimsText.f
  refine ev_call (szClaimS_val l hl) ?_
  by_cases hs : l.length ≤ 1048576
  · rw [if_pos hs]
    have hc : (l.map cvClaim).length ≤ 1048576 := by simpa using hs
    have hT := toClaimS_ev l hs
    have hS := spec_v (l.map cvClaim) hc
    have hI := impl_v (l.map cvClaim)
    generalize textV (l.map cvClaim) = v at hS hI
    refine ev_neg (by omega) (Ev.bind hT (Ev.bind hS (Ev.bind hT (Ev.bind hI (ev_pos rfl ?_)))))
    refine Ev.step (fun k => by simp only [laws_FnExactClaimsText.j0]; rfl) ?_
    exact ev_neg (by simp) (Ev.bind hT (Ev.bind (eqClaimS_ev _ hc) (ev_pos rfl (Ev.now _))))
  · rw [if_neg hs]
    exact ev_pos (by omega) (Ev.now _)

end Go.Proofs.Ytbpljefjopjogaa.Pure
