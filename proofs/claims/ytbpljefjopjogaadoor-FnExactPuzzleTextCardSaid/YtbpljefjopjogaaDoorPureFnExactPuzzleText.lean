/- The law FnExactPuzzleText in plain Lean: it returns true at every input. No conditions. -/
import Derived.Test.YtbpljefjopjogaaDoorStFnExactPuzzleText
import Derived.Test.YtbpljefjopjogaaDoorGr
import Derived.Test.YtbpljefjopjogaaDoorGp
namespace Go.Proofs.YtbpljefjopjogaaDoor.Pure
open Go.RowKit Go.Proofs.YtbpljefjopjogaaDoor.PFnExactPuzzleText Go.Proofs.YtbpljefjopjogaaDoorW.PrintWords Go.Proofs.YtbpljefjopjogaaDoorW.PrintLast Go.Proofs.YtbpljefjopjogaaDoorW.PrintMore Go.Proofs.YtbpljefjopjogaaDoor.Gr Go.Proofs.YtbpljefjopjogaaDoor.Gp
set_option linter.unusedVariables false
set_option linter.unusedSimpArgs false

theorem szClueS_val (l : List S45) (h : l.length ≤ 9223372036854775807) : laws_szClueS.f l 1048576 = some (if l.length ≤ 1048576 then 1048576 - (l.length : Int) else -1) := by
  unfold laws_szClueS.f
  rw [w64 (by omega) (by omega)]
  by_cases hl : l.length ≤ 1048576
  · rw [if_neg (by omega), if_pos hl]
  · rw [if_pos (by omega), if_neg hl]

def cvClue (y : S45) : S41 := ⟨y.f0, y.f1, y.f2, y.f3⟩
theorem toClueS_ev (l : List S45) (h : l.length ≤ 1048576) : Ev (fun k => laws_toClueS.f k l) (l.map cvClue) := by
  unfold laws_toClueS.f
  refine ev_pos (by omega) (ev_pos (by omega) ?_)
  refine ev_fill l z41 cvClue (fun k st i => laws_toClueS.l0 k l st i) (fun k st i hi hst => ?_) (fun k st hst => ?_)
  · have e : l.getD i z45 = l[i] := getD_at l i hi _
    simp only [laws_toClueS.l0, rd_T45, Int.toNat_natCast]
    rw [if_pos (by omega), if_pos (by omega), e]
    simp only [laws_toClue.f, Option.bind_some, cvClue]
    rw [if_pos (by omega), w64 (by omega) (by omega)]
    rfl
  · simp only [laws_toClueS.l0]
    rw [if_neg (by omega)]

theorem eqClueS_ev (l : List S41) (h : l.length ≤ 1048576) : Ev (fun k => laws_eqClueS.f k l l) true := by
  unfold laws_eqClueS.f
  refine ev_pos rfl (ev_same l (fun k i => laws_eqClueS.l0 k l l i) (fun k i hi => ?_) (fun k => ?_))
  · simp only [laws_eqClueS.l0]
    rw [if_pos (by omega), if_pos (by omega), if_pos (by omega)]
    unfold laws_eqClue.f
    rw [if_pos rfl, if_pos rfl, if_pos rfl, if_pos rfl]
    simp only [Option.bind_some, if_true]
    rw [w64 (by omega) (by omega)]
    rfl
  · simp only [laws_eqClueS.l0]
    rw [if_neg (by omega)]

theorem szPuzzle_val (a b : Int) (l : List S45) (h : l.length ≤ 9223372036854775807) : laws_szPuzzle.f a b l 1048576 = some (if l.length ≤ 1048576 then 1048576 - (l.length : Int) else -1) := by
  unfold laws_szPuzzle.f
  rw [szClueS_val l h]
  simp only [Option.bind_some]
  by_cases hl : l.length ≤ 1048576
  · rw [if_pos hl, if_neg (by omega)]
  · rw [if_neg hl, if_pos (by omega)]
theorem toPuzzle_ev (a b : Int) (l : List S45) (h : l.length ≤ 1048576) : Ev (fun k => laws_toPuzzle.f k a b l) (a, b, l.map cvClue) := Ev.bind (toClueS_ev l h) (Ev.now _)
theorem eqPuzzle_ev (a b : Int) (l : List S41) (h : l.length ≤ 1048576) : Ev (fun k => laws_eqPuzzle.f k a b l a b l) true := ev_pos rfl (ev_pos rfl (Ev.bind (eqClueS_ev l h) (ev_pos rfl (Ev.now _))))

/-- a number below 100 in decimal -/
def dec (x : Int) : ByteArray := ⟨(Lib.decDigits x.toNat).toArray⟩
def okN (x : Int) : Prop := 0 ≤ x ∧ x < 100
theorem itoa_v {x : Int} (h : okN x) : strconv_Itoa.f x = some (dec x) := if_pos h
theorem dec_small (n : Nat) (h : n < 10) : Lib.decDigits n = [UInt8.ofNat (48 + n)] := by
  rw [Lib.decDigits, dif_pos h]
theorem dec_two (n : Nat) (h : ¬ n < 10) : Lib.decDigits n = Lib.decDigits (n / 10) ++ [UInt8.ofNat (48 + n % 10)] := by
  rw [Lib.decDigits, dif_neg h]
theorem dec_size {x : Int} (h : okN x) : (dec x).size ≤ 2 := by
  obtain ⟨n, rfl⟩ := Int.eq_ofNat_of_zero_le h.1
  have h2 := h.2
  unfold dec
  rw [Int.toNat_natCast]
  show (Lib.decDigits n).length ≤ 2
  by_cases hn : n < 10
  · rw [dec_small n hn]
    simp
  · rw [dec_two n hn, dec_small (n / 10) (by omega)]
    simp
theorem digit_v (d : Nat) (h : d < 10) : strOfNums [(wrap64 (48 + (d : Int))) % 256] = ⟨#[UInt8.ofNat (48 + d)]⟩ := by
  have e : (48 + (d : Int)) % 256 = ((48 + d : Nat) : Int) := by omega
  rw [w64 (by omega) (by omega), e]
  unfold strOfNums
  rw [List.map_cons, List.map_nil, Int.toNat_natCast]
theorem l1Num_ev {x : Int} (h : okN x) : Ev (fun k => spec_l1Num.f k x) (dec x) := by
  obtain ⟨n, rfl⟩ := Int.eq_ofNat_of_zero_le h.1
  have h2 := h.2
  have small : ∀ m : Nat, m < 10 → Ev (fun k => spec_l1Num.f k (m : Int)) (dec (m : Int)) := fun m hm => Ev.step (f := fun _ => some (dec (m : Int))) (fun k => by
    simp only [spec_l1Num.f]
    rw [if_pos (by omega), digit_v m hm]
    unfold dec
    rw [Int.toNat_natCast, dec_small m hm]) (Ev.now _)
  by_cases hn : n < 10
  · exact small n hn
  · have e1 : wrap64 (Int.tdiv (n : Int) 10) = ((n / 10 : Nat) : Int) := by
      rw [show Int.tdiv (n : Int) 10 = ((n / 10 : Nat) : Int) from rfl, w64 (by omega) (by omega)]
    have e2 : Int.tmod (n : Int) 10 = ((n % 10 : Nat) : Int) := rfl
    have e3 : dec (n : Int) = dec ((n / 10 : Nat) : Int) ++ ⟨#[UInt8.ofNat (48 + n % 10)]⟩ := by
      unfold dec
      rw [Int.toNat_natCast, Int.toNat_natCast, dec_two n hn]
      apply ByteArray.ext
      simp [ByteArray.data_append]
    have hsz := dec_size (x := ((n / 10 : Nat) : Int)) ⟨by omega, by omega⟩
    refine Ev.step (f := fun k => (spec_l1Num.f k ((n / 10 : Nat) : Int)).bind fun t => if t.size + (⟨#[UInt8.ofNat (48 + n % 10)]⟩ : ByteArray).size ≤ 9223372036854775807 then some (t ++ ⟨#[UInt8.ofNat (48 + n % 10)]⟩) else none) (fun k => ?_) (Ev.bind (small (n / 10) (by omega)) ?_)
    · simp only [spec_l1Num.f]
      rw [if_neg (by omega), e1, e2]
      show ((spec_l1Num.f k ((n / 10 : Nat) : Int)).bind fun t => if t.size + (strOfNums [wrap64 (48 + ((n % 10 : Nat) : Int)) % 256]).size ≤ 9223372036854775807 then some (t ++ strOfNums [wrap64 (48 + ((n % 10 : Nat) : Int)) % 256]) else none) = _
      rw [digit_v (n % 10) (by omega)]
    · refine ev_pos (by rw [size1]; omega) ?_
      rw [e3]
      exact Ev.now _

theorem joined_ev (l : List Int) (sep r : ByteArray) (h : ∀ x, x ∈ l → okN x) (hl : l.length ≤ 1048576) (hr : strings_Join.f (l.map dec) sep = some r) : Ev (fun k => impl_joined.f k l sep) r := by
  unfold impl_joined.f
  refine (ev_down l.length (fun i k => impl_joined.l0 k sep ((l.take i).map dec) l (l.length : Int) (i : Int)) (fun _ => r) (Ev.step (f := fun _ => some r) (fun k => by
    simp only [impl_joined.l0]
    rw [if_neg (by omega), List.take_length, hr]
    rfl) (Ev.now _)) (fun i hi ih => ?_)) 0 (Nat.zero_le _)
  have hw : wrap64 ((i : Int) + 1) = ((i + 1 : Nat) : Int) := by rw [w64 (by omega) (by omega)]; omega
  have hs : (l.take (i + 1)).map dec = (l.take i).map dec ++ [dec l[i]] := by rw [List.take_succ_eq_append_getElem hi, List.map_append]; rfl
  have hg : rd l (i : Int) = l[i] := by
    unfold rd
    rw [Int.toNat_natCast]
    exact getD_at l i hi _
  rw [hs] at ih
  refine Ev.step (fun k => ?_) ih
  simp only [impl_joined.l0, hg, itoa_v (h l[i] (List.getElem_mem hi)), Option.bind_some, hw]
  rw [if_pos (by omega), if_pos (by omega), if_pos (by omega), if_pos (by rw [List.length_map, List.length_take]; omega)]

theorem l1In_eq (a b c : Int) : spec_l1In.f a b c = some (decide (b ≤ a ∧ a ≤ c)) := by
  unfold spec_l1In.f
  by_cases h : b ≤ a <;> simp [h]

theorem rd_clue (l : List S41) (i : Nat) (hi : i < l.length) : rd_T41 l (i : Int) = l[i] := by
  unfold rd_T41
  rw [Int.toNat_natCast]
  exact getD_at l i hi _
theorem within_eq (a b c : Int) : impl_within.f a b c = some (decide (b ≤ a ∧ a ≤ c)) := by
  unfold impl_within.f
  by_cases h : b ≤ a <;> simp [h]
theorem isBelow_eq (a n : Int) : impl_isBelow.f a n = some (decide (0 ≤ a ∧ a < n)) := by
  unfold impl_isBelow.f
  by_cases h : 0 ≤ a <;> simp [h]
def okSize (a b : Int) : Bool := decide (2 ≤ a ∧ a ≤ 4) && decide (0 ≤ b ∧ b ≤ 3)
theorem areHidden_v (a b : Int) : impl_areHidden.f a b = some (okSize a b) := by
  unfold impl_areHidden.f okSize
  simp only [within_eq, Option.bind_some]
  by_cases h : 2 ≤ a ∧ a ≤ 4 <;> simp [h]
theorem pzSize_v (a b : Int) : spec_pzSize.f a b = some (okSize a b) := by
  unfold spec_pzSize.f okSize
  simp only [l1In_eq, Option.bind_some]
  by_cases h : 2 ≤ a ∧ a ≤ 4 <;> simp [h]
theorem sameClue (a b k x y z : Int) (h : okSize a b = true) : impl_IsClue.f a b k x y z = spec_pzClue.f a b k x y z := by
  have hs := h
  unfold okSize at hs
  simp only [Bool.and_eq_true, decide_eq_true_eq] at hs
  obtain ⟨ha, hb⟩ := hs
  unfold impl_IsClue.f spec_pzClue.f
  rw [areHidden_v, Option.bind_some, h, Bool.true_and]
  unfold clueB
  simp only [l1In_eq, Option.bind_some]
  have e1 : wrap64 (a - 1) = a - 1 := by unfold wrap64; omega
  have e2 : wrap64 (b - 1) = b - 1 := by unfold wrap64; omega
  have q : ∀ u v : Int, (u ≤ v - 1) = (u < v) := fun u v => propext ⟨fun h => by omega, fun h => by omega⟩
  simp only [e1, e2, q]
  by_cases k0 : k = 0
  · subst k0
    by_cases h0 : 0 ≤ x ∧ x < a <;> by_cases h4 : y = 0 <;> simp [h0, h4]
  by_cases k1 : k = 1
  · subst k1
    by_cases h0 : 0 ≤ x ∧ x < a <;> by_cases h4 : y = 0 <;> simp [h0, h4]
  by_cases k2 : k = 2
  · subst k2
    by_cases h0 : 0 ≤ x ∧ x < a <;> by_cases h1 : 0 ≤ y ∧ y < a <;> simp [h0, h1]
  by_cases k3 : k = 3
  · subst k3
    by_cases h3 : x = 0 <;> by_cases h4 : y = 0 <;> simp [h3, h4]
  by_cases k4 : k = 4
  · subst k4
    by_cases h2 : 0 ≤ x ∧ x < b <;> by_cases h1 : 0 ≤ y ∧ y < a <;> simp [h1, h2]
  by_cases k5 : k = 5
  · subst k5
    by_cases h3 : x = 0 <;> by_cases h4 : y = 0 <;> simp [h3, h4]
  simp [k0, k1, k2, k3, k4, k5]
theorem clue_tot (a b k x y z : Int) : Tot (impl_IsClue.f a b k x y z) := by
  unfold impl_IsClue.f
  rw [areHidden_v]
  exact Tot.some _
theorem clue_v (a b : Int) (c : S41) : impl_IsClue.f a b c.f0 c.f1 c.f2 c.f3 = some (clueOk a b c) := by
  obtain ⟨r, hr⟩ := clue_tot a b c.f0 c.f1 c.f2 c.f3
  unfold clueOk
  rw [hr]
  rfl
theorem pzClue_v (a b : Int) (c : S41) (h : okSize a b = true) : spec_pzClue.f a b c.f0 c.f1 c.f2 c.f3 = some (clueOk a b c) := by
  rw [← sameClue a b _ _ _ _ h, clue_v]

def okPz (a b : Int) (l : List S41) : Bool := okSize a b && decide (l.length ≤ 6) && l.all (clueOk a b)
theorem isPuzzle_v (a b : Int) (l : List S41) : impl_IsPuzzle.f a b l = some (okPz a b l) := by
  unfold impl_IsPuzzle.f okPz
  rw [areHidden_v]
  simp only [Option.bind_some]
  rw [if_pos (fun c _ => by rw [clue_v]; rfl), show (l.all (clueOk a b)) = !l.any fun c => !clueOk a b c by simp [List.any_eq_not_all_not]]
theorem pzGood_l (a b : Int) (l : List S41) (hs : okSize a b = true) (hl : l.length ≤ 6) : ∀ i, i ≤ l.length → Ev (fun k => spec_pzGood.l0 k l (l.length : Int) (i : Int) a b l) ((l.drop i).all (clueOk a b)) := by
  refine ev_down l.length _ _ (Ev.step (f := fun _ => some true) (fun k => by simp only [spec_pzGood.l0]; rw [if_neg (by omega)]) (ev_eq (by simp) (Ev.now true))) (fun i hi ih => ?_)
  have hd : l.drop i = l[i] :: l.drop (i + 1) := List.drop_eq_getElem_cons hi
  refine Ev.step (f := fun k => if clueOk a b l[i] = true then spec_pzGood.l0 k l (l.length : Int) ((i + 1 : Nat) : Int) a b l else some false) (fun k => ?_) ?_
  · have hg := rd_clue l i hi
    simp only [spec_pzGood.l0, hg, pzClue_v a b l[i] hs, Option.bind_some]
    rw [if_pos (by omega), if_pos (by omega), if_pos (by omega), w64 (n := (i : Int) + 1) (by omega) (by omega)]
    rfl
  · rw [hd, List.all_cons]
    by_cases ha : clueOk a b l[i] = true
    · exact ev_pos ha (ev_eq (by rw [ha, Bool.true_and]) ih)
    · exact ev_neg ha (ev_eq (by rw [Bool.eq_false_iff.2 ha, Bool.false_and]) (Ev.now false))
theorem pzGood_ev (a b : Int) (l : List S41) (hb : l.length ≤ 9223372036854775807) : Ev (fun k => spec_pzGood.f k a b l) (okPz a b l) := by
  unfold spec_pzGood.f okPz
  refine ev_call (pzSize_v a b) ?_
  by_cases h : okSize a b = true
  · refine ev_pos h ?_
    by_cases hl : l.length ≤ 6
    · refine Ev.step (f := fun k => spec_pzGood.l0 k l (l.length : Int) 0 a b l) (fun k => ?_) (ev_eq ?_ (pzGood_l a b l h hl 0 (Nat.zero_le _)))
      · simp only [spec_pzGood.j0]
        rw [if_neg (by simp; omega)]
      · simp [h, hl]
    · refine Ev.step (f := fun k => some false) (fun k => ?_) (ev_eq (by simp [hl]) (Ev.now false))
      simp only [spec_pzGood.j0]
      rw [if_pos (by simp; omega)]
  · refine ev_neg h (Ev.step (f := fun k => some false) (fun k => ?_) (ev_eq (by rw [Bool.eq_false_iff.2 h, Bool.false_and, Bool.false_and]) (Ev.now false)))
    simp only [spec_pzGood.j0]
    first | rw [if_pos rfl] | rw [if_pos trivial]

theorem data_app (a b : ByteArray) : (a ++ b).data.toList = a.data.toList ++ b.data.toList := by simp [ByteArray.data_append]
theorem joinB_snoc (l : List ByteArray) (x s : ByteArray) : joinB (l ++ [x]) s = if l = [] then x.data.toList else joinB l s ++ s.data.toList ++ x.data.toList := by
  cases l with
  | nil => simp [joinB, Lib.join_one]
  | cons y r =>
    rw [if_neg (by simp)]
    unfold joinB
    rw [List.cons_append, List.map_cons, List.map_cons, Lib.join_cons, Lib.join_cons]
    unfold Lib.joinTail
    simp [List.map_append, List.flatten_append, List.append_assoc]

def dot : ByteArray := ⟨#[46]⟩
def cellT (c : S41) : ByteArray := (((((dec c.f0 ++ dot) ++ dec c.f1) ++ dot) ++ dec c.f2) ++ dot) ++ dec c.f3
def okC (c : S41) : Prop := okN c.f0 ∧ okN c.f1 ∧ okN c.f2 ∧ okN c.f3
theorem cellT_size {c : S41} (h : okC c) : (cellT c).size ≤ 11 := by
  have h0 := dec_size h.1
  have h1 := dec_size h.2.1
  have h2 := dec_size h.2.2.1
  have h3 := dec_size h.2.2.2
  unfold cellT dot
  simp only [ByteArray.size_append, size1]
  omega
theorem size_data (s : ByteArray) : s.size = s.data.toList.length := by rw [Array.length_toList]; rfl
theorem joinB_four (a b c d s : ByteArray) : joinB [a, b, c, d] s = ((((((a ++ s) ++ b) ++ s) ++ c) ++ s) ++ d).data.toList := by
  simp [joinB, Lib.join, List.intercalate, ByteArray.data_append]
theorem mk_data (s : ByteArray) : (⟨(s.data.toList).toArray⟩ : ByteArray) = s := by simp
theorem join_four {c : S41} (h : okC c) : strings_Join.f ([c.f0, c.f1, c.f2, c.f3].map dec) dot = some (cellT c) := by
  have hz := cellT_size h
  have e : joinB ([c.f0, c.f1, c.f2, c.f3].map dec) dot = (cellT c).data.toList := joinB_four _ _ _ _ _
  unfold strings_Join.f
  rw [e, ← size_data, if_pos ⟨by simp, by omega⟩, mk_data]
theorem joined_clue {c : S41} (h : okC c) : Ev (fun k => impl_joined.f k [c.f0, c.f1, c.f2, c.f3] (⟨#[46]⟩ : ByteArray)) (cellT c) := by
  refine joined_ev _ _ _ (fun x hx => ?_) (by simp) (join_four h)
  simp only [List.mem_cons, List.not_mem_nil, or_false] at hx
  rcases hx with rfl | rfl | rfl | rfl
  · exact h.1
  · exact h.2.1
  · exact h.2.2.1
  · exact h.2.2.2
/-- the text of a puzzle's first clues, behind o -/
def outP (o : ByteArray) (cs : List S41) : Nat → ByteArray
  | 0 => o
  | i + 1 => match cs[i]? with
    | none => outP o cs i
    | some c => (if i = 0 then outP o cs i else outP o cs i ++ (⟨#[44]⟩ : ByteArray)) ++ cellT c
theorem outP_succ (o : ByteArray) (cs : List S41) (i : Nat) (h : i < cs.length) : outP o cs (i + 1) = (if i = 0 then outP o cs i else outP o cs i ++ (⟨#[44]⟩ : ByteArray)) ++ cellT cs[i] := by
  show (match cs[i]? with | none => outP o cs i | some c => (if i = 0 then outP o cs i else outP o cs i ++ (⟨#[44]⟩ : ByteArray)) ++ cellT c) = _
  rw [List.getElem?_eq_getElem h]
theorem outP_size (o : ByteArray) (cs : List S41) (hc : ∀ c, c ∈ cs → okC c) (i : Nat) (h : i ≤ cs.length) : (outP o cs i).size ≤ o.size + 12 * i := by
  induction i with
  | zero => exact Nat.le_refl _
  | succ i ih =>
    have ih' := ih (by omega)
    have hz := cellT_size (hc cs[i] (List.getElem_mem (by omega)))
    rw [outP_succ o cs i (by omega), ByteArray.size_append]
    split
    · omega
    · rw [ByteArray.size_append, size1]
      omega
theorem outP_join (o : ByteArray) (cs : List S41) (i : Nat) (h : i ≤ cs.length) : (outP o cs i).data.toList = o.data.toList ++ joinB ((cs.take i).map cellT) ⟨#[44]⟩ := by
  induction i with
  | zero => simp [outP, joinB, Lib.join, List.intercalate]
  | succ i ih =>
    rw [outP_succ o cs i (by omega), data_app, List.take_succ_eq_append_getElem (by omega), List.map_append, List.map_cons, List.map_nil, joinB_snoc]
    by_cases h0 : i = 0
    · subst h0
      rw [if_pos rfl, if_pos (by simp)]
      rfl
    · have hne : ¬ (cs.take i).map cellT = [] := fun he => by
        have := congrArg List.length he
        rw [List.length_map, List.length_take] at this
        simp only [List.length_nil] at this
        omega
      rw [if_neg h0, if_neg hne, data_app, ih (by omega)]
      simp only [List.append_assoc]
theorem join_clues (cs : List S41) (hc : ∀ c, c ∈ cs → okC c) (hl : cs.length ≤ 6) (o : ByteArray) : ∃ t, strings_Join.f (cs.map cellT) (⟨#[44]⟩ : ByteArray) = some t ∧ o ++ t = outP o cs cs.length ∧ t.size ≤ 72 := by
  have h1 := outP_join o cs cs.length (Nat.le_refl _)
  have h2 := outP_size o cs hc cs.length (Nat.le_refl _)
  rw [List.take_length] at h1
  have hz : (joinB (cs.map cellT) ⟨#[44]⟩).length ≤ 72 := by
    have := congrArg List.length h1
    rw [List.length_append, ← size_data, ← size_data] at this
    omega
  refine ⟨⟨(joinB (cs.map cellT) ⟨#[44]⟩).toArray⟩, ?_, ?_, ?_⟩
  · unfold strings_Join.f
    rw [if_pos ⟨by rw [List.length_map]; omega, by omega⟩]
  · apply ByteArray.ext
    apply Array.ext'
    rw [h1, ByteArray.data_append]
    simp
  · rw [size_data]
    simpa using hz
def headP (a b : Int) : ByteArray := ((dec a ++ (⟨#[99]⟩ : ByteArray)) ++ dec b) ++ (⟨#[58]⟩ : ByteArray)
theorem headP_size {a b : Int} (ha : okN a) (hb : okN b) : (headP a b).size ≤ 6 := by
  have h0 := dec_size ha
  have h1 := dec_size hb
  unfold headP
  simp only [ByteArray.size_append, size1]
  omega
theorem okPz_num {a b : Int} {l : List S41} (h : okPz a b l = true) : okN a ∧ okN b ∧ (∀ c, c ∈ l → okC c) ∧ l.length ≤ 6 := by
  unfold okPz at h
  simp only [Bool.and_eq_true, decide_eq_true_eq] at h
  obtain ⟨⟨hs, hl⟩, hall⟩ := h
  have hs' := hs
  unfold okSize at hs'
  simp only [Bool.and_eq_true, decide_eq_true_eq] at hs'
  refine ⟨⟨by omega, by omega⟩, ⟨by omega, by omega⟩, fun c hc => ?_, hl⟩
  have hk := List.all_eq_true.1 hall c hc
  unfold clueOk impl_IsClue.f at hk
  rw [areHidden_v, Option.bind_some, Option.getD_some, hs, Bool.true_and] at hk
  unfold clueB at hk
  unfold okC okN
  by_cases k0 : c.f0 = 0
  · rw [if_pos k0] at hk
    simp only [Bool.and_eq_true, decide_eq_true_eq, beq_iff_eq] at hk
    omega
  rw [if_neg k0] at hk
  by_cases k1 : c.f0 = 1
  · rw [if_pos k1] at hk
    simp only [Bool.and_eq_true, decide_eq_true_eq, beq_iff_eq] at hk
    omega
  rw [if_neg k1] at hk
  by_cases k2 : c.f0 = 2
  · rw [if_pos k2] at hk
    simp only [Bool.and_eq_true, decide_eq_true_eq, beq_iff_eq] at hk
    omega
  rw [if_neg k2] at hk
  by_cases k3 : c.f0 = 3
  · rw [if_pos k3] at hk
    simp only [Bool.and_eq_true, decide_eq_true_eq, beq_iff_eq] at hk
    omega
  rw [if_neg k3] at hk
  by_cases k4 : c.f0 = 4
  · rw [if_pos k4] at hk
    simp only [Bool.and_eq_true, decide_eq_true_eq, beq_iff_eq] at hk
    omega
  rw [if_neg k4] at hk
  by_cases k5 : c.f0 = 5
  · rw [if_pos k5] at hk
    simp only [Bool.and_eq_true, decide_eq_true_eq, beq_iff_eq] at hk
    omega
  rw [if_neg k5] at hk
  cases hk
theorem room_ok {x y : ByteArray} {n m : Nat} (hx : x.size ≤ n) (hy : y.size ≤ m) (h : n + m ≤ 9223372036854775807) : x.size + y.size ≤ 9223372036854775807 := by omega
theorem room1 {x : ByteArray} {n : Nat} (hx : x.size ≤ n) (h : n + 1 ≤ 9223372036854775807) : x.size + 1 ≤ 9223372036854775807 := by omega
theorem app_le {x y : ByteArray} {n m : Nat} (hx : x.size ≤ n) (hy : y.size ≤ m) : (x ++ y).size ≤ n + m := by rw [ByteArray.size_append]; omega
theorem pzCell (X A B C D : ByteArray) (cs : List S41) (n i : Int) (c : S41) (r : ByteArray) (hX : X.size ≤ 100) (hA : A.size ≤ 2) (hB : B.size ≤ 2) (hC : C.size ≤ 2) (hD : D.size ≤ 2)
    (eA : Ev (fun k => spec_l1Num.f k c.f0) A) (eB : Ev (fun k => spec_l1Num.f k c.f1) B) (eC : Ev (fun k => spec_l1Num.f k c.f2) C) (eD : Ev (fun k => spec_l1Num.f k c.f3) D)
    (hr : Ev (fun k => spec_pzText.l0 k (X ++ ((((((A ++ dot) ++ B) ++ dot) ++ C) ++ dot) ++ D)) cs n (wrap64 (i + 1))) r) : Ev (fun k => spec_pzText.j1 k X cs n i c.f0 c.f1 c.f2 c.f3) r := by
  have hd : dot.size ≤ 1 := Nat.le_refl _
  have g1 := app_le hA hd
  have g2 := app_le g1 hB
  have g3 := app_le g2 hd
  have g4 := app_le g3 hC
  have g5 := app_le g4 hd
  have g6 := app_le g5 hD
  refine Ev.step (fun k => by simp only [spec_pzText.j1]; rfl) ?_
  exact Ev.bind eA (ev_pos (room_ok hA hd (by decide)) (Ev.bind eB (ev_pos (room_ok g1 hB (by decide)) (ev_pos (room_ok g2 hd (by decide)) (Ev.bind eC (ev_pos (room_ok g3 hC (by decide)) (ev_pos (room_ok g4 hd (by decide)) (Ev.bind eD (ev_pos (room_ok g5 hD (by decide)) (ev_pos (room_ok hX g6 (by decide)) hr))))))))))
theorem outX_size (O : ByteArray) (i n : Nat) (h : O.size ≤ n) : (if i = 0 then O else O ++ (⟨#[44]⟩ : ByteArray)).size ≤ n + 1 := by
  split
  · omega
  · exact app_le h (Nat.le_refl _)
theorem pzLoop (H : ByteArray) (cs : List S41) (hH : H.size ≤ 6) (hc : ∀ c, c ∈ cs → okC c) (hl : cs.length ≤ 6) : Ev (fun k => spec_pzText.l0 k H cs (cs.length : Int) 0) (outP H cs cs.length) := by
  refine (ev_down cs.length (fun i k => spec_pzText.l0 k (outP H cs i) cs (cs.length : Int) (i : Int)) (fun _ => outP H cs cs.length) (Ev.step (f := fun _ => some _) (fun k => by simp only [spec_pzText.l0]; rw [if_neg (by omega)]) (Ev.now _)) (fun i hi ih => ?_)) 0 (Nat.zero_le _)
  have hos : (outP H cs i).size ≤ 78 := Nat.le_trans (outP_size H cs hc i (by omega)) (by omega)
  have hok := hc cs[i] (List.getElem_mem hi)
  have hw : wrap64 ((i : Int) + 1) = ((i + 1 : Nat) : Int) := by clear hos; rw [w64 (by omega) (by omega)]; omega
  have hout := outP_succ H cs i hi
  generalize outP H cs (i + 1) = O1 at hout ih
  generalize outP H cs cs.length = R at ih ⊢
  generalize outP H cs i = O at hos hout ⊢
  have hXs := outX_size O i 78 hos
  have hX0 : i = 0 → (if i = 0 then O else O ++ (⟨#[44]⟩ : ByteArray)) = O := fun h => if_pos h
  have hX1 : ¬ i = 0 → (if i = 0 then O else O ++ (⟨#[44]⟩ : ByteArray)) = O ++ (⟨#[44]⟩ : ByteArray) := fun h => if_neg h
  generalize (if i = 0 then O else O ++ (⟨#[44]⟩ : ByteArray)) = X at hXs hX0 hX1 hout
  have key : Ev (fun k => spec_pzText.j1 k X cs (cs.length : Int) (i : Int) cs[i].f0 cs[i].f1 cs[i].f2 cs[i].f3) R := by
    refine pzCell X _ _ _ _ cs _ _ cs[i] _ (Nat.le_trans hXs (by decide)) (dec_size hok.1) (dec_size hok.2.1) (dec_size hok.2.2.1) (dec_size hok.2.2.2) (l1Num_ev hok.1) (l1Num_ev hok.2.1) (l1Num_ev hok.2.2.1) (l1Num_ev hok.2.2.2) ?_
    show Ev (fun k => spec_pzText.l0 k (X ++ cellT cs[i]) cs (cs.length : Int) (wrap64 ((i : Int) + 1))) R
    rw [hw, ← hout]
    exact ih
  clear hout ih hXs
  refine Ev.step (f := fun k => spec_pzText.j1 k X cs (cs.length : Int) (i : Int) cs[i].f0 cs[i].f1 cs[i].f2 cs[i].f3) (fun k => ?_) key
  clear key
  simp only [spec_pzText.l0, rd_clue cs i hi]
  rw [if_pos (by omega), if_pos (by omega), if_pos (by omega)]
  by_cases h0 : i = 0
  · rw [if_neg (by omega), hX0 h0]
  · rw [if_pos (by omega), if_pos (room1 hos (by decide)), hX1 h0]
theorem pzText_ev (a b : Int) (cs : List S41) (ha : okN a) (hb : okN b) (hc : ∀ c, c ∈ cs → okC c) (hl : cs.length ≤ 6) : Ev (fun k => spec_pzText.f k a b cs) (outP (headP a b) cs cs.length) := by
  have z0 := dec_size ha
  have z1 := dec_size hb
  have hd1 : (⟨#[99]⟩ : ByteArray).size ≤ 1 := Nat.le_refl _
  have hd2 : (⟨#[58]⟩ : ByteArray).size ≤ 1 := Nat.le_refl _
  have hA := l1Num_ev ha
  have hB := l1Num_ev hb
  have hH := pzLoop (headP a b) cs (headP_size ha hb) hc hl
  unfold spec_pzText.f
  unfold headP at hH ⊢
  generalize dec a = A at *
  generalize dec b = B at *
  exact Ev.bind hA (ev_pos (room_ok z0 hd1 (by decide)) (Ev.bind hB (ev_pos (room_ok (app_le z0 hd1) z1 (by decide)) (ev_pos (room_ok (app_le (app_le z0 hd1) z1) hd2 (by decide)) hH))))
theorem puzzleText_ev (a b : Int) (cs : List S41) (ha : okN a) (hb : okN b) (hc : ∀ c, c ∈ cs → okC c) (hl : cs.length ≤ 6) : Ev (fun k => impl_puzzleText.f k a b cs) (outP (headP a b) cs cs.length) := by
  have z0 := dec_size ha
  have z1 := dec_size hb
  have zh := headP_size ha hb
  obtain ⟨t, ht, hto, htz⟩ := join_clues cs hc hl (headP a b)
  have hd1 : (⟨#[99]⟩ : ByteArray).size ≤ 1 := Nat.le_refl _
  have hd2 : (⟨#[58]⟩ : ByteArray).size ≤ 1 := Nat.le_refl _
  unfold impl_puzzleText.f
  refine (ev_down cs.length (fun i k => impl_puzzleText.l0 k ((cs.take i).map cellT) cs (cs.length : Int) (i : Int) a b cs) (fun _ => outP (headP a b) cs cs.length) (Ev.step (f := fun _ => some _) (fun k => by
    simp only [impl_puzzleText.l0]
    rw [if_neg (by omega), List.take_length, itoa_v ha, Option.bind_some, if_pos (room1 z0 (by decide)), itoa_v hb, Option.bind_some, if_pos (room_ok (app_le z0 hd1) z1 (by decide)), if_pos (room1 (app_le (app_le z0 hd1) z1) (by decide)), ht, Option.bind_some]
    show (if (headP a b).size + t.size ≤ 9223372036854775807 then some (headP a b ++ t) else none) = _
    rw [if_pos (room_ok zh htz (by decide)), hto]) (Ev.now _)) (fun i hi ih => ?_)) 0 (Nat.zero_le _)
  have hok := hc cs[i] (List.getElem_mem hi)
  have hw : wrap64 ((i : Int) + 1) = ((i + 1 : Nat) : Int) := by rw [w64 (by omega) (by omega)]; omega
  have hs : (cs.take (i + 1)).map cellT = (cs.take i).map cellT ++ [cellT cs[i]] := by rw [List.take_succ_eq_append_getElem hi, List.map_append]; rfl
  rw [hs] at ih
  refine Ev.step (f := fun k => (impl_joined.f k [cs[i].f0, cs[i].f1, cs[i].f2, cs[i].f3] (⟨#[46]⟩ : ByteArray)).bind fun t167 => if ((cs.take i).map cellT).length < 8796093022208 then impl_puzzleText.l0 k ((cs.take i).map cellT ++ [t167]) cs (cs.length : Int) ((i + 1 : Nat) : Int) a b cs else none) (fun k => ?_) (Ev.bind (joined_clue hok) (ev_pos (by rw [List.length_map, List.length_take]; omega) ih))
  simp only [impl_puzzleText.l0, rd_clue cs i hi, hw]
  rw [if_pos (by omega), if_pos (by omega), if_pos (by omega)]

def textV (a b : Int) (l : List S41) : ByteArray × Bool := if okPz a b l = true then (outP (headP a b) l l.length, true) else (⟨#[]⟩, false)
theorem textV_yes {a b : Int} {l : List S41} (h : okPz a b l = true) : textV a b l = (outP (headP a b) l l.length, true) := if_pos h
theorem textV_no {a b : Int} {l : List S41} (h : ¬ okPz a b l = true) : textV a b l = (⟨#[]⟩, false) := if_neg h
theorem spec_v (a b : Int) (l : List S41) (hl : l.length ≤ 1048576) : Ev (fun k => spec_PuzzleText.f k a b l) (textV a b l) := by
  unfold spec_PuzzleText.f
  refine Ev.bind (pzGood_ev a b l (by omega)) ?_
  by_cases h : okPz a b l = true
  · obtain ⟨h1, h2, h3, h4⟩ := okPz_num h
    rw [textV_yes h]
    exact ev_pos h (Ev.bind (pzText_ev a b l h1 h2 h3 h4) (Ev.now _))
  · rw [textV_no h]
    exact ev_neg h (Ev.now _)
theorem impl_v (a b : Int) (l : List S41) : Ev (fun k => impl_PuzzleText.f k a b l) (textV a b l) := by
  unfold impl_PuzzleText.f
  refine ev_call (isPuzzle_v a b l) ?_
  by_cases h : okPz a b l = true
  · obtain ⟨h1, h2, h3, h4⟩ := okPz_num h
    rw [textV_yes h]
    exact ev_pos h (Ev.bind (puzzleText_ev a b l h1 h2 h3 h4) (Ev.now _))
  · rw [textV_no h]
    exact ev_neg h (Ev.now _)
theorem FnExactPuzzleText : laws_FnExactPuzzleText.Pure := by
  intro a b l _ _ hl _
  refine Ev.rounds ?_
  unfold laws_FnExactPuzzleText.f
  refine ev_call (szPuzzle_val a b l hl) ?_
  by_cases hs : l.length ≤ 1048576
  · rw [if_pos hs]
    have hc : (l.map cvClue).length ≤ 1048576 := by simpa using hs
    have hT := toPuzzle_ev a b l hs
    have hS := spec_v a b (l.map cvClue) hc
    have hI := impl_v a b (l.map cvClue)
    generalize textV a b (l.map cvClue) = v at hS hI
    refine ev_neg (by omega) (Ev.bind hT (Ev.bind hS (Ev.bind hT (Ev.bind hI (ev_pos rfl ?_)))))
    refine Ev.step (fun k => by simp only [laws_FnExactPuzzleText.j0]; rfl) ?_
    exact ev_neg (by simp) (Ev.bind hT (Ev.bind (eqPuzzle_ev a b _ hc) (ev_pos rfl (Ev.now _))))
  · rw [if_neg hs]
    exact ev_pos (by omega) (Ev.now _)

end Go.Proofs.YtbpljefjopjogaaDoor.Pure
