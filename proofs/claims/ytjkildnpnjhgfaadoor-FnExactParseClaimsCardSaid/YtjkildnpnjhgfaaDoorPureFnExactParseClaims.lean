/- The law FnExactParseClaims in plain Lean: it returns true at every input. No conditions. -/
import Derived.Test.YtjkildnpnjhgfaaDoorPFnExactParseClaimsx
import Derived.Test.YtjkildnpnjhgfaaDoorGr
import Derived.Test.YtjkildnpnjhgfaaDoorGp
namespace Go.Proofs.YtjkildnpnjhgfaaDoor.Pure
open Go.RowKit Go.Proofs.YtjkildnpnjhgfaaDoor.PFnExactParseClaims Go.Proofs.YtjkildnpnjhgfaaDoorW.PrintWords Go.Proofs.YtjkildnpnjhgfaaDoorW.PrintLast Go.Proofs.YtjkildnpnjhgfaaDoorW.PrintMore Go.Proofs.YtjkildnpnjhgfaaDoor.Gr Go.Proofs.YtjkildnpnjhgfaaDoor.Gp
set_option linter.unusedVariables false
set_option linter.unusedSimpArgs false

theorem l1In_eq (a b c : Int) : spec_l1In.f a b c = some (decide (b ≤ a ∧ a ≤ c)) := by
  unfold spec_l1In.f
  by_cases h : b ≤ a <;> simp [h]

theorem rd_claim (l : List S49) (i : Nat) (hi : i < l.length) : rd_T49 l (i : Int) = l[i] := by
  unfold rd_T49
  rw [Int.toNat_natCast]
  exact getD_at l i hi _

/-- are these claims of so many friends? -/
def areCl (n : Int) (l : List S49) : Bool := decide (1 ≤ n ∧ n ≤ 8) && decide (l.length ≤ 20) && l.all (impl_AreClaims.ok n)
theorem implGood (n : Int) (l : List S49) : impl_AreClaims.f n l = some (areCl n l) := by
  unfold impl_AreClaims.f areCl
  rw [show (l.all (impl_AreClaims.ok n)) = !l.any fun c => !impl_AreClaims.ok n c by simp [List.any_eq_not_all_not]]
theorem liGood_l (n : Int) (l : List S49) (h1 : 1 ≤ n) (h2 : n ≤ 8) (hl : l.length ≤ 20) : ∀ i, i ≤ l.length → Ev (fun k => spec_liGood.l0 k n l (l.length : Int) (i : Int)) ((l.drop i).all (impl_AreClaims.ok n)) := by
  have e : wrap64 (n - 1) = n - 1 := w64 (by omega) (by omega)
  refine ev_down l.length _ _ (Ev.step (f := fun _ => some true) (fun k => by simp only [spec_liGood.l0]; rw [if_neg (by omega)]) (ev_eq (by simp) (Ev.now true))) (fun i hi ih => ?_)
  have hd : l.drop i = l[i] :: l.drop (i + 1) := List.drop_eq_getElem_cons hi
  refine Ev.step (f := fun k => if decide (0 ≤ l[i].f0 ∧ l[i].f0 ≤ n - 1) = true then (if decide (0 ≤ l[i].f1 ∧ l[i].f1 ≤ n - 1) = true then spec_liGood.l0 k n l (l.length : Int) ((i + 1 : Nat) : Int) else some false) else some false) (fun k => ?_) ?_
  · have hg := rd_claim l i hi
    simp only [spec_liGood.l0, l1In_eq, e, hg, Option.bind_some]
    rw [if_pos (by omega), if_pos (by omega), if_pos (by omega), w64 (n := (i : Int) + 1) (by omega) (by omega)]
    rfl
  · rw [hd, List.all_cons]
    unfold impl_AreClaims.ok at ih ⊢
    by_cases ha : 0 ≤ l[i].f0 ∧ l[i].f0 ≤ n - 1
    · by_cases hb : 0 ≤ l[i].f1 ∧ l[i].f1 ≤ n - 1
      · refine ev_pos (by simp [ha]) (ev_pos (by simp [hb]) (ev_eq ?_ ih))
        simp [ha, hb]
      · exact ev_pos (by simp [ha]) (ev_neg (by simp [hb]) (ev_eq (by simp [hb]) (Ev.now false)))
    · exact ev_neg (by simp [ha]) (ev_eq (by simp [ha]) (Ev.now false))
theorem liGood_ev (n : Int) (l : List S49) (hb : l.length ≤ 9223372036854775807) : Ev (fun k => spec_liGood.f k n l) (areCl n l) := by
  unfold spec_liGood.f spec_liFriends.f areCl
  simp only [l1In_eq, Option.bind_some]
  by_cases h : 1 ≤ n ∧ n ≤ 8
  · refine ev_pos (by simp [h]) ?_
    by_cases hl : l.length ≤ 20
    · refine Ev.step (f := fun k => spec_liGood.l0 k n l (l.length : Int) 0) (fun k => ?_) (ev_eq ?_ (liGood_l n l h.1 h.2 hl 0 (Nat.zero_le _)))
      · simp only [spec_liGood.j0]
        rw [if_neg (by simp; omega)]
      · simp [h, hl]
    · refine Ev.step (f := fun k => some false) (fun k => ?_) (ev_eq (by simp [hl]) (Ev.now false))
      simp only [spec_liGood.j0]
      rw [if_pos (by simp; omega)]
  · refine ev_neg (by simpa using h) (Ev.step (f := fun k => some false) (fun k => ?_) (ev_eq (by simp [h]) (Ev.now false)))
    simp only [spec_liGood.j0]
    first | rw [if_pos rfl] | rw [if_pos trivial]

def num (x : Int) : ByteArray := strOfNums [(wrap64 (48 + x)) % 256]
def sgn (b : Bool) : ByteArray := if b = true then ⟨#[61]⟩ else ⟨#[35]⟩
def cellP (x y : Int) (b : Bool) : ByteArray := strOfNums [(wrap64 (48 + x)) % 256, if b = true then 61 else 35, (wrap64 (48 + y)) % 256]
def cellC (c : S49) : ByteArray := cellP c.f0 c.f1 c.f2
theorem cell8 : ∀ (i j : Fin 8) (b : Bool), (num ((i : Nat) : Int) ++ sgn b) ++ num ((j : Nat) : Int) = cellP ((i : Nat) : Int) ((j : Nat) : Int) b ∧ (cellP ((i : Nat) : Int) ((j : Nat) : Int) b).size = 3 ∧ (num ((i : Nat) : Int)).size = 1 ∧ (num ((i : Nat) : Int) ++ sgn b).size = 2 := by decide +kernel
theorem cell_v {x y : Int} (b : Bool) (h0 : 0 ≤ x) (h1 : x < 8) (h2 : 0 ≤ y) (h3 : y < 8) : (num x ++ sgn b) ++ num y = cellP x y b ∧ (cellP x y b).size = 3 ∧ (num x).size = 1 ∧ (num x ++ sgn b).size = 2 := by
  obtain ⟨i, rfl⟩ := Int.eq_ofNat_of_zero_le h0
  obtain ⟨j, rfl⟩ := Int.eq_ofNat_of_zero_le h2
  exact cell8 ⟨i, by omega⟩ ⟨j, by omega⟩ b
def okCls (cs : List S49) : Prop := ∀ c, c ∈ cs → 0 ≤ c.f0 ∧ c.f0 < 8 ∧ 0 ≤ c.f1 ∧ c.f1 < 8
/-- the text of the first claims -/
def outV (cs : List S49) : Nat → ByteArray
  | 0 => ⟨#[]⟩
  | i + 1 => match cs[i]? with
    | none => outV cs i
    | some c => (if i = 0 then outV cs i else outV cs i ++ ⟨#[44]⟩) ++ cellC c
theorem outV_succ (cs : List S49) (i : Nat) (h : i < cs.length) : outV cs (i + 1) = (if i = 0 then outV cs i else outV cs i ++ (⟨#[44]⟩ : ByteArray)) ++ cellC cs[i] := by
  show (match cs[i]? with | none => outV cs i | some c => (if i = 0 then outV cs i else outV cs i ++ (⟨#[44]⟩ : ByteArray)) ++ cellC c) = _
  rw [List.getElem?_eq_getElem h]
theorem outV_size (cs : List S49) (hc : okCls cs) (i : Nat) (h : i ≤ cs.length) : (outV cs i).size ≤ 4 * i := by
  induction i with
  | zero => exact Nat.le_refl _
  | succ i ih =>
    have ih' := ih (by omega)
    have hm := hc cs[i] (List.getElem_mem (by omega))
    have h3 := (cell_v cs[i].f2 hm.1 hm.2.1 hm.2.2.1 hm.2.2.2).2.1
    rw [outV_succ cs i (by omega), ByteArray.size_append]
    have h4 : (cellC cs[i]).size = 3 := h3
    split
    · omega
    · rw [ByteArray.size_append, size1]
      omega
theorem data_app (a b : ByteArray) : (a ++ b).data.toList = a.data.toList ++ b.data.toList := by simp [ByteArray.data_append]
theorem joinB_snoc (l : List ByteArray) (x s : ByteArray) : joinB (l ++ [x]) s = if l = [] then x.data.toList else joinB l s ++ s.data.toList ++ x.data.toList := by
  cases l with
  | nil => simp [joinB, Lib.join_one]
  | cons y r =>
    rw [if_neg (by simp)]
    unfold joinB
    rw [List.cons_append, List.map_cons, List.map_cons, Lib.join_cons, Lib.join_cons]
    unfold Lib.joinTail
    simp [List.map_append, List.flatten_append, List.append_assoc]
theorem outV_join (cs : List S49) (i : Nat) (h : i ≤ cs.length) : (outV cs i).data.toList = joinB ((cs.take i).map cellC) ⟨#[44]⟩ := by
  induction i with
  | zero => rfl
  | succ i ih =>
    rw [outV_succ cs i (by omega), data_app, List.take_succ_eq_append_getElem (by omega), List.map_append, List.map_cons, List.map_nil, joinB_snoc]
    by_cases h0 : i = 0
    · subst h0
      rw [if_pos rfl, if_pos (by simp)]
      rfl
    · have hne : ¬ (cs.take i).map cellC = [] := fun he => by
        have := congrArg List.length he
        rw [List.length_map, List.length_take] at this
        simp only [List.length_nil] at this
        omega
      rw [if_neg h0, if_neg hne, data_app, ih (by omega)]
theorem join_v (cs : List S49) (hc : okCls cs) (hl : cs.length ≤ 20) : strings_Join.f (cs.map cellC) (⟨#[44]⟩ : ByteArray) = some (outV cs cs.length) := by
  have h1 := outV_join cs cs.length (Nat.le_refl _)
  have h2 := outV_size cs hc cs.length (Nat.le_refl _)
  rw [List.take_length] at h1
  have h3 : (joinB (cs.map cellC) ⟨#[44]⟩).length = (outV cs cs.length).size := by rw [← h1, Array.length_toList]; rfl
  unfold strings_Join.f
  rw [if_pos ⟨by rw [List.length_map]; omega, by omega⟩, ← h1, Array.toArray_toList]
theorem claimsText_ev (cs : List S49) (hc : okCls cs) (hl : cs.length ≤ 20) : Ev (fun k => impl_claimsText.f k cs) (outV cs cs.length) := by
  unfold impl_claimsText.f
  refine (ev_down cs.length (fun i k => impl_claimsText.l0 k ((cs.take i).map cellC) cs (cs.length : Int) (i : Int)) (fun _ => outV cs cs.length) (Ev.step (f := fun _ => some _) (fun k => by simp only [impl_claimsText.l0]; rw [if_neg (by omega), List.take_length, join_v cs hc hl]; rfl) (Ev.now _)) (fun i hi ih => ?_)) 0 (Nat.zero_le _)
  refine Ev.step (f := fun k => impl_claimsText.l0 k ((cs.take (i + 1)).map cellC) cs (cs.length : Int) ((i + 1 : Nat) : Int)) (fun k => ?_) ih
  have hw : wrap64 ((i : Int) + 1) = ((i + 1 : Nat) : Int) := w64 (by omega) (by omega)
  have hs : (cs.take (i + 1)).map cellC = (cs.take i).map cellC ++ [cellC cs[i]] := by rw [List.take_succ_eq_append_getElem hi, List.map_append]; rfl
  have hln : ((cs.take i).map cellC).length < 8796093022208 := by rw [List.length_map, List.length_take]; omega
  simp only [impl_claimsText.l0, rd_claim cs i hi]
  rw [if_pos (by omega), if_pos (by omega), if_pos (by omega), hw, hs]
  by_cases hb : cs[i].f2 = true
  · rw [if_pos hb, if_pos hln]
    unfold cellC cellP
    rw [hb]
    rfl
  · rw [if_neg hb, if_pos hln]
    have hb' : cs[i].f2 = false := by simpa using hb
    unfold cellC cellP
    rw [hb']
    rfl
theorem okCls_of {cs : List S49} (h : areCl 8 cs = true) : okCls cs ∧ cs.length ≤ 20 := by
  unfold areCl at h
  simp only [Bool.and_eq_true, decide_eq_true_eq, List.all_eq_true] at h
  refine ⟨fun c hc => ?_, h.1.2⟩
  have h2 := h.2 c hc
  unfold impl_AreClaims.ok at h2
  simp only [Bool.and_eq_true, decide_eq_true_eq] at h2
  omega

/-- cut at each c; cur: what of the piece at hand has been read -/
def piecesL (c : UInt8) : List UInt8 → List UInt8 → List (List UInt8)
  | cur, [] => [cur]
  | cur, b :: l => if b = c then cur :: piecesL c [] l else piecesL c (cur ++ [b]) l
theorem piecesL_ne (c : UInt8) : ∀ (l cur : List UInt8), piecesL c cur l ≠ [] := by
  intro l
  induction l with
  | nil => intro cur; simp [piecesL]
  | cons b l ih =>
    intro cur
    unfold piecesL
    by_cases h : b = c
    · rw [if_pos h]; simp
    · rw [if_neg h]; exact ih _
theorem indexByte_at (c : UInt8) (l : List UInt8) : ∀ cur : List UInt8, c ∉ cur → Lib.indexByte (cur ++ c :: l) c = (cur.length : Int) := by
  intro cur
  induction cur with
  | nil => intro _; simp [Lib.indexByte]
  | cons b cur ih =>
    intro h
    have h1 : ¬ b = c := fun e => h (e ▸ List.mem_cons_self)
    have h2 := ih (fun e => h (List.mem_cons_of_mem _ e))
    rw [List.cons_append, Lib.indexByte, if_neg (by simpa using h1), h2, if_neg (by simp)]
    simp
theorem splitK_pieces (c : UInt8) : ∀ (l cur : List UInt8), c ∉ cur → Lib.splitK [c] 0 (Lib.count (cur ++ l) [c]) (cur ++ l) = piecesL c cur l := by
  intro l
  induction l with
  | nil =>
    intro cur h
    rw [List.append_nil, Lib.count_one, List.count_eq_zero.2 h]
    rfl
  | cons b l ih =>
    intro cur h
    by_cases hb : b = c
    · subst hb
      have e : Lib.count (cur ++ b :: l) [b] = Lib.count l [b] + 1 := by
        rw [Lib.count_one, Lib.count_one, List.count_append, List.count_eq_zero.2 h]
        simp
      have hi : Lib.index (cur ++ b :: l) [b] = (cur.length : Int) := by rw [Lib.index_one, indexByte_at b l cur h]
      rw [e, Lib.splitK, hi, if_neg (by simp), piecesL, if_pos rfl]
      have e2 : ((cur.length : Int)).toNat = cur.length := Int.toNat_natCast _
      rw [e2]
      congr 1
      · simp
      · have := ih [] (by simp)
        rw [List.nil_append] at this
        rw [← this]
        congr 1
        simp
    · rw [piecesL, if_neg hb, ← ih (cur ++ [b]) (by simp [h]; exact fun e => hb e.symm)]
      simp
def mkB (l : List UInt8) : ByteArray := ⟨l.toArray⟩
theorem mkB_data (s : ByteArray) : mkB s.data.toList = s := by
  unfold mkB
  simp
theorem splitOne_pieces (s : ByteArray) (c : UInt8) : splitOne s c = (piecesL c [] s.data.toList).map mkB := by
  have h := Lib.splitB_data ⟨#[c]⟩ 0 (Lib.countB s ⟨#[c]⟩) s
  have h2 := splitK_pieces c s.data.toList [] (by simp)
  rw [List.nil_append] at h2
  have h3 : (splitOne s c).map (·.data.toList) = piecesL c [] s.data.toList := by rw [← h2]; exact h
  rw [← h3, List.map_map]
  have : (mkB ∘ fun x : ByteArray => x.data.toList) = id := by funext x; exact mkB_data x
  rw [this, List.map_id]
theorem join_pieces (c : UInt8) : ∀ (l cur : List UInt8), Lib.join (piecesL c cur l) [c] = cur ++ l := by
  intro l
  induction l with
  | nil => intro cur; simp [piecesL, Lib.join_one]
  | cons b l ih =>
    intro cur
    unfold piecesL
    by_cases h : b = c
    · subst h
      rw [if_pos rfl]
      obtain ⟨x, xs, hx⟩ : ∃ x xs, piecesL b [] l = x :: xs := List.exists_cons_of_ne_nil (piecesL_ne b l [])
      have h2 := ih []
      rw [hx] at h2 ⊢
      have h3 : Lib.join (cur :: x :: xs) [b] = cur ++ ([b] ++ Lib.join (x :: xs) [b]) := by simp [Lib.join, List.intercalate]
      rw [h3, h2]
      simp
    · rw [if_neg h, ih]
      simp

theorem bt_eq (s : ByteArray) (i : Nat) (h : i < s.size) (c : UInt8) (n : Int) (hn : (c.toNat : Int) = n) : bt s (i : Int) = n ↔ s.data.toList[i]'(by simpa using h) = c := by
  have e : s.data.toList[i]'(by simpa using h) = s[i] := rfl
  rw [e, ← bt_at s (i : Int) (by simpa using h), ← hn]
  have e2 : (s[((i : Int)).toNat]'(by simpa using h)) = s[i] := by simp
  rw [e2]
  constructor
  · intro h1
    exact UInt8.toNat_inj.1 (by omega)
  · rintro rfl
    rfl
theorem l1Split_l (s : ByteArray) (c : UInt8) (n : Int) (hn : (c.toNat : Int) = n) (hs : s.size ≤ 1048576) : ∀ d i, s.size - i = d → i ≤ s.size → ∀ (fr : Nat) (acc : List ByteArray), fr ≤ i → acc.length ≤ fr →
    Ev (fun k => spec_l1Split.l0 k s n acc (fr : Int) (i : Int)) (acc ++ (piecesL c ((s.data.toList.drop fr).take (i - fr)) (s.data.toList.drop i)).map mkB) := by
  intro d
  induction d with
  | zero =>
    intro i hd hi fr acc hf ha
    obtain rfl : i = s.size := by omega
    have hz : s.data.toList.length = s.size := by simp
    have e1 : s.data.toList.drop s.size = [] := by rw [← hz]; exact List.drop_length
    have e2 : (s.data.toList.drop fr).take (s.size - fr) = s.data.toList.drop fr := List.take_of_length_le (by rw [List.length_drop, hz]; omega)
    have e3 : s.extract fr s.size = mkB (s.data.toList.drop fr) := by rw [← mkB_data (s.extract fr s.size), Lib.extract_to_end]
    refine Ev.step (f := fun _ => some (acc ++ [s.extract fr s.size])) (fun k => ?_) (ev_eq ?_ (Ev.now _))
    · simp only [spec_l1Split.l0]
      rw [if_neg (by omega), if_pos (by omega), if_pos (by omega), if_pos (by omega), Int.toNat_natCast]
    · rw [e1, e2, e3]
      rfl
  | succ d ih =>
    intro i hd hi fr acc hf ha
    have hlt : i < s.size := by omega
    have hll : i < s.data.toList.length := by simpa using hlt
    have hdr : s.data.toList.drop i = s.data.toList[i] :: s.data.toList.drop (i + 1) := List.drop_eq_getElem_cons hll
    have hw : wrap64 ((i : Int) + 1) = ((i + 1 : Nat) : Int) := by rw [w64 (by omega) (by omega)]; omega
    by_cases hc : bt s (i : Int) = n
    · have hb := (bt_eq s i hlt c n hn).1 hc
      have e3 : s.extract fr i = mkB ((s.data.toList.drop fr).take (i - fr)) := by rw [← mkB_data (s.extract fr i), Lib.extract_data]
      refine Ev.step (fun k => ?_) (ev_eq ?_ (ih (i + 1) (by omega) (by omega) (i + 1) (acc ++ [s.extract fr i]) (Nat.le_refl _) (by simp; omega)))
      · simp only [spec_l1Split.l0]
        rw [if_pos (by omega), if_pos (by omega), if_pos hc, if_pos (by omega), if_pos (by omega), if_pos (by omega), if_pos (by omega), hw, Int.toNat_natCast, Int.toNat_natCast]
      · rw [hdr, piecesL, if_pos hb, e3, Nat.sub_self, List.take_zero]
        simp
    · have hb : ¬ s.data.toList[i] = c := fun e => hc ((bt_eq s i hlt c n hn).2 e)
      refine Ev.step (fun k => ?_) (ev_eq ?_ (ih (i + 1) (by omega) (by omega) fr acc (by omega) ha))
      · simp only [spec_l1Split.l0]
        rw [if_pos (by omega), if_pos (by omega), if_neg hc, hw]
      · rw [hdr, piecesL, if_neg hb]
        have e4 : (s.data.toList.drop fr).take (i + 1 - fr) = (s.data.toList.drop fr).take (i - fr) ++ [s.data.toList[i]] := by
          rw [show i + 1 - fr = (i - fr) + 1 by omega, List.take_succ_eq_append_getElem (by rw [List.length_drop]; omega), List.getElem_drop]
          congr 3
          omega
        rw [e4]
theorem l1Split_ev (s : ByteArray) (c : UInt8) (n : Int) (hn : (c.toNat : Int) = n) (hs : s.size ≤ 1048576) : Ev (fun k => spec_l1Split.f k s n) (splitOne s c) := by
  unfold spec_l1Split.f
  have := l1Split_l s c n hn hs s.size 0 (by omega) (Nat.zero_le _) 0 [] (Nat.le_refl _) (Nat.le_refl _)
  rw [splitOne_pieces]
  simpa using this

/-- A loop that puts a mark into each index, c numbers further each time. -/
theorem ev_tabC {β : Type} (n : Nat) (c : Int) (m : Nat → β) (L : Nat → List β → Int → Int → Option (Int × List β)) (a : Int)
    (hstep : ∀ (st : List β) (i : Nat) r, i < n → st.length = n → Ev (fun k => L k (st.set i (m i)) (a + c * (i + 1 : Nat)) ((i + 1 : Nat) : Int)) r → Ev (fun k => L k st (a + c * i) (i : Int)) r)
    (hend : ∀ k st, st.length = n → L (k + 1) st (a + c * n) (n : Int) = some (a + c * n, st)) (l : List β) (hl : l.length = n) : Ev (fun k => L k l a 0) (a + c * n, (List.range n).map m) := by
  have key : ∀ d i, n - i = d → i ≤ n → ∀ st : List β, st.length = n → st.take i = (List.range i).map m → Ev (fun k => L k st (a + c * i) (i : Int)) (a + c * n, (List.range n).map m) := by
    intro d
    induction d with
    | zero =>
      intro i hd hi st hst hp
      obtain rfl : i = n := by omega
      rw [List.take_of_length_le (by omega)] at hp
      exact Ev.step (f := fun _ => some _) (fun k => by rw [hend k st hst, hp]) (Ev.now _)
    | succ d ih =>
      intro i hd hi st hst hp
      exact hstep st i _ (by omega) hst (ih (i + 1) (by omega) (by omega) _ (by simpa using hst) (tab_set n m st hst i (by omega) hp))
  simpa using key n 0 rfl (Nat.zero_le _) l hl (by simp)

def mkClaim (i : Nat) : S49 := ⟨1 + 3 * (i : Int), 1 + 3 * (i : Int) + 1, Int.tmod (1 + 3 * (i : Int) + 2) 3 == 0⟩
theorem rd_setClaim (l : List S49) (i : Nat) (x : S49) (h : i < l.length) : rd_T49 (l.set i x) (i : Int) = x := by
  unfold rd_T49
  rw [Int.toNat_natCast, getD_at _ i (by simpa using h)]
  simp
theorem markClaims_ev (l : List S49) (h : l.length ≤ 1048576) : Ev (fun k => laws_markClaimS.f k l 1) (1 + 3 * (l.length : Int), (List.range l.length).map mkClaim) := by
  unfold laws_markClaimS.f
  refine ev_tabC l.length 3 mkClaim (fun k st a i => laws_markClaimS.l0 k st a i) 1 (fun st i r hi hst hr => ?_) (fun k st hst => ?_) l rfl
  · refine Ev.step (fun k => ?_) hr
    have w1 : wrap64 (1 + 3 * (i : Int) + 1) = 1 + 3 * (i : Int) + 1 := w64 (by omega) (by omega)
    have w2 : wrap64 (1 + 3 * (i : Int) + 1 + 1) = 1 + 3 * (i : Int) + 2 := by rw [w64 (by omega) (by omega)]; omega
    have w4 : wrap64 (1 + 3 * (i : Int) + 2 + 1) = 1 + 3 * ((i + 1 : Nat) : Int) := by rw [w64 (by omega) (by omega)]; omega
    have w5 : wrap64 ((i : Int) + 1) = ((i + 1 : Nat) : Int) := by rw [w64 (by omega) (by omega)]; omega
    rw [laws_markClaimS.l0, if_pos (by omega), if_pos (by omega), Option.bind_some, Option.bind_some, Int.toNat_natCast, w1, w2, w4, w5]
    have hi' : i < st.length := by omega
    simp only [List.set_set, rd_setClaim st i _ hi']
    rfl
  · rw [laws_markClaimS.l0, if_neg (by omega)]
theorem heldClaims_ev (n : Nat) (h : n ≤ 1048576) : Ev (fun k => laws_heldClaimS.f k ((List.range n).map mkClaim) 1) (1 + 3 * (n : Int)) := by
  unfold laws_heldClaimS.f
  have hl : ((List.range n).map mkClaim).length = n := by simp
  have := ev_down n (fun i k => laws_heldClaimS.l0 k ((List.range n).map mkClaim) (1 + 3 * (i : Int)) (i : Int)) (fun _ => 1 + 3 * (n : Int)) (Ev.step (f := fun _ => some _) (fun k => by rw [laws_heldClaimS.l0, if_neg (by rw [hl]; omega)]) (Ev.now _)) (fun i hi ih => ?_) 0 (Nat.zero_le _)
  · simpa using this
  · refine Ev.step (fun k => ?_) ih
    have e : rd_T49 ((List.range n).map mkClaim) (i : Int) = mkClaim i := by
      unfold rd_T49
      rw [Int.toNat_natCast, getD_at _ i (by rw [hl]; exact hi)]
      simp
    have w1 : wrap64 (1 + 3 * (i : Int) + 1) = 1 + 3 * (i : Int) + 1 := w64 (by omega) (by omega)
    have w2 : wrap64 (1 + 3 * (i : Int) + 1 + 1) = 1 + 3 * (i : Int) + 2 := by rw [w64 (by omega) (by omega)]; omega
    have w4 : wrap64 (1 + 3 * (i : Int) + 2 + 1) = 1 + 3 * ((i + 1 : Nat) : Int) := by rw [w64 (by omega) (by omega)]; omega
    have w5 : wrap64 ((i : Int) + 1) = ((i + 1 : Nat) : Int) := by rw [w64 (by omega) (by omega)]; omega
    rw [laws_heldClaimS.l0, if_pos (by rw [hl]; omega), if_pos (by omega), e, w1, w2, w4, w5]
    unfold mkClaim
    rw [if_pos rfl, if_pos rfl, if_neg (by simp)]

theorem eqClaimS_ev (l : List S49) (h : l.length ≤ 1048576) : Ev (fun k => laws_eqClaimS.f k l l) true := by
  unfold laws_eqClaimS.f
  refine ev_pos rfl (ev_same l (fun k i => laws_eqClaimS.l0 k l l i) (fun k i hi => ?_) (fun k => ?_))
  · simp only [laws_eqClaimS.l0]
    rw [if_pos (by omega), if_pos (by omega), if_pos (by omega)]
    unfold laws_eqClaim.f
    rw [if_pos rfl, if_pos rfl, if_neg (by simp)]
    simp only [Option.bind_some, if_true]
    rw [w64 (by omega) (by omega)]
    rfl
  · simp only [laws_eqClaimS.l0]
    rw [if_neg (by omega)]

/-- the claim that a piece of three signs tells -/
def clOf (p : ByteArray) : S49 := ⟨bt p 0 - 48, bt p 2 - 48, bt p 1 == 61⟩
def isThree (p : ByteArray) : Bool := p.size == 3
def isPart (p : ByteArray) : Bool := p.size == 3 && (bt p 1 == 61 || bt p 1 == 35)
def specP (P : List ByteArray) : List S49 × Bool := if P.all isPart = true then (if areCl 8 (P.map clOf) = true then (P.map clOf, true) else ([], false)) else ([], false)
def implP (s : ByteArray) (P : List ByteArray) : List S49 × Bool := if P.all isThree = true then (if areCl 8 (P.map clOf) = true then (if (outV (P.map clOf) (P.map clOf).length).toList = s.toList then (P.map clOf, true) else ([], false)) else ([], false)) else ([], false)
theorem bt_num (p : ByteArray) (i : Int) : wrap64 ((wrap64 (bt p i)) - 48) = bt p i - 48 := by
  have := bt_range p i
  rw [w64 (n := bt p i) (by omega) (by omega), w64 (by omega) (by omega)]
theorem rdStr (P : List ByteArray) (i : Nat) (h : i < P.length) : rdOf ByteArray.empty P (i : Int) = P[i] := by
  unfold rdOf
  rw [Int.toNat_natCast]
  exact getD_at P i h _
theorem spec_l (P : List ByteArray) (hP : P.length ≤ 1048577) : ∀ d i, P.length - i = d → i ≤ P.length → (P.take i).all isPart = true → Ev (fun k => spec_ParseClaims.l0 k ((P.take i).map clOf) P (P.length : Int) (i : Int)) (specP P) := by
  intro d
  induction d with
  | zero =>
    intro i hd hi hall
    obtain rfl : i = P.length := by omega
    rw [List.take_length] at hall ⊢
    have hg := liGood_ev 8 (P.map clOf) (by rw [List.length_map]; omega)
    refine Ev.step (f := fun k => (spec_liGood.f k 8 (P.map clOf)).bind fun t => if t = true then some (P.map clOf, true) else some ([], false)) (fun k => ?_) (Ev.bind hg ?_)
    · simp only [spec_ParseClaims.l0]
      rw [if_neg (by omega)]
    · by_cases h : areCl 8 (P.map clOf) = true
      · exact ev_pos h (ev_eq (by unfold specP; rw [if_pos hall, if_pos h]) (Ev.now (P.map clOf, true)))
      · exact ev_neg h (ev_eq (by unfold specP; rw [if_pos hall, if_neg h]) (Ev.now ([], false)))
  | succ d ih =>
    intro i hd hi hall
    have hlt : i < P.length := by omega
    have hw : wrap64 ((i : Int) + 1) = ((i + 1 : Nat) : Int) := by rw [w64 (by omega) (by omega)]; omega
    have htk : P.take (i + 1) = P.take i ++ [P[i]] := List.take_succ_eq_append_getElem hlt
    have hlen : ((P.take i).map clOf).length < 5864062014805 := by rw [List.length_map, List.length_take]; omega
    have no : isPart P[i] = false → specP P = ([], false) := fun h => if_neg (fun hh => by have := List.all_eq_true.1 hh P[i] (List.getElem_mem hlt); rw [h] at this; cases this)
    have yes : isPart P[i] = true → Ev (fun k => spec_ParseClaims.l0 k ((P.take i).map clOf ++ [clOf P[i]]) P (P.length : Int) ((i + 1 : Nat) : Int)) (specP P) := fun h => by
      have := ih (i + 1) (by omega) (by omega) (by rw [htk, List.all_append, hall]; simp [h])
      rw [htk, List.map_append] at this
      exact this
    by_cases h3 : (P[i].size : Int) = 3
    · have h3' : P[i].size = 3 := by omega
      by_cases h61 : bt P[i] 1 = 61
      · have hp : isPart P[i] = true := by unfold isPart; rw [h3', h61]; rfl
        have hc : (⟨bt P[i] 0 - 48, bt P[i] 2 - 48, true⟩ : S49) = clOf P[i] := by unfold clOf; rw [h61]; rfl
        refine Ev.step (fun k => ?_) (yes hp)
        simp only [spec_ParseClaims.l0, rdStr P i hlt, bt_num, hw, hc]
        rw [if_pos (by omega), if_pos (by omega), if_pos (by omega), if_pos h3, if_pos (by omega), if_pos h61, if_pos (by omega), if_pos (by omega), if_pos hlen]
      · by_cases h35 : bt P[i] 1 = 35
        · have hp : isPart P[i] = true := by unfold isPart; rw [h3', h35]; rfl
          have hc : (⟨bt P[i] 0 - 48, bt P[i] 2 - 48, false⟩ : S49) = clOf P[i] := by unfold clOf; rw [h35]; rfl
          refine Ev.step (fun k => ?_) (yes hp)
          simp only [spec_ParseClaims.l0, rdStr P i hlt, bt_num, hw, hc]
          rw [if_pos (by omega), if_pos (by omega), if_pos (by omega), if_pos h3, if_pos (by omega), if_neg h61, if_pos h35, if_pos (by omega), if_pos (by omega), if_pos hlen]
        · have hp : isPart P[i] = false := by
            unfold isPart
            rw [show (bt P[i] 1 == 61) = false by simpa using h61, show (bt P[i] 1 == 35) = false by simpa using h35]
            simp
          rw [no hp]
          refine Ev.step (f := fun _ => some ([], false)) (fun k => ?_) (Ev.now _)
          simp only [spec_ParseClaims.l0, rdStr P i hlt, bt_num, hw]
          rw [if_pos (by omega), if_pos (by omega), if_pos (by omega), if_pos h3, if_pos (by omega), if_neg h61, if_neg h35]
    · have hp : isPart P[i] = false := by
        unfold isPart
        rw [show (P[i].size == 3) = false by simpa using fun e => h3 (by omega)]
        rfl
      rw [no hp]
      refine Ev.step (f := fun _ => some ([], false)) (fun k => ?_) (Ev.now _)
      simp only [spec_ParseClaims.l0, rdStr P i hlt]
      rw [if_pos (by omega), if_pos (by omega), if_pos (by omega), if_neg h3]
theorem impl_l (s : ByteArray) (P : List ByteArray) (hP : P.length ≤ 1048577) : ∀ d i, P.length - i = d → i ≤ P.length → (P.take i).all isThree = true → Ev (fun k => impl_ParseClaims.l0 k s ((P.take i).map clOf) P (P.length : Int) (i : Int)) (implP s P) := by
  intro d
  induction d with
  | zero =>
    intro i hd hi hall
    obtain rfl : i = P.length := by omega
    rw [List.take_length] at hall ⊢
    refine Ev.step (f := fun k => if areCl 8 (P.map clOf) = true then ((impl_claimsText.f k (P.map clOf)).bind fun t167 => (if t167.toList = s.toList then (some (P.map clOf, true)) else (some ([], false)))) else some ([], false)) (fun k => ?_) ?_
    · simp only [impl_ParseClaims.l0]
      rw [if_neg (by omega), implGood, Option.bind_some]
    · by_cases h : areCl 8 (P.map clOf) = true
      · obtain ⟨hc, hl⟩ := okCls_of h
        refine ev_pos h (Ev.bind (claimsText_ev _ hc hl) ?_)
        by_cases ht : (outV (P.map clOf) (P.map clOf).length).toList = s.toList
        · exact ev_pos ht (ev_eq (by unfold implP; rw [if_pos hall, if_pos h, if_pos ht]) (Ev.now (P.map clOf, true)))
        · exact ev_neg ht (ev_eq (by unfold implP; rw [if_pos hall, if_pos h, if_neg ht]) (Ev.now ([], false)))
      · exact ev_neg h (ev_eq (by unfold implP; rw [if_pos hall, if_neg h]) (Ev.now ([], false)))
  | succ d ih =>
    intro i hd hi hall
    have hlt : i < P.length := by omega
    have hw : wrap64 ((i : Int) + 1) = ((i + 1 : Nat) : Int) := by rw [w64 (by omega) (by omega)]; omega
    have htk : P.take (i + 1) = P.take i ++ [P[i]] := List.take_succ_eq_append_getElem hlt
    have hlen : ((P.take i).map clOf).length < 5864062014805 := by rw [List.length_map, List.length_take]; omega
    by_cases h3 : (P[i].size : Int) = 3
    · have hp : isThree P[i] = true := by unfold isThree; rw [beq_iff_eq]; omega
      have hc : (⟨bt P[i] 0 - 48, bt P[i] 2 - 48, bt P[i] 1 == 61⟩ : S49) = clOf P[i] := rfl
      have := ih (i + 1) (by omega) (by omega) (by rw [htk, List.all_append, hall]; simp [hp])
      rw [htk, List.map_append] at this
      refine Ev.step (fun k => ?_) this
      simp only [impl_ParseClaims.l0, rdStr P i hlt, bt_num, hw, hc]
      rw [if_pos (by omega), if_pos (by omega), if_pos (by omega), if_pos h3, if_pos (by omega), if_pos (by omega), if_pos (by omega), if_pos hlen]
      rfl
    · have hp : isThree P[i] = false := by unfold isThree; simpa using fun e => h3 (by omega)
      have no : implP s P = ([], false) := if_neg (fun hh => by have := List.all_eq_true.1 hh P[i] (List.getElem_mem hlt); rw [hp] at this; cases this)
      rw [no]
      refine Ev.step (f := fun _ => some ([], false)) (fun k => ?_) (Ev.now _)
      simp only [impl_ParseClaims.l0, rdStr P i hlt]
      rw [if_pos (by omega), if_pos (by omega), if_pos (by omega), if_neg h3]
theorem join_inj (c : UInt8) : ∀ (xs ys : List (List UInt8)), xs.length = ys.length → (∀ x, x ∈ xs → x.length = 3) → (∀ y, y ∈ ys → y.length = 3) → Lib.join xs [c] = Lib.join ys [c] → xs = ys := by
  intro xs
  induction xs with
  | nil => intro ys hl _ _ _; exact (List.eq_nil_of_length_eq_zero hl.symm).symm
  | cons x xs ih =>
    intro ys hl hx hy h
    cases ys with
    | nil => simp at hl
    | cons y ys =>
      have lx := hx x List.mem_cons_self
      have ly := hy y List.mem_cons_self
      cases xs with
      | nil =>
        cases ys with
        | nil => simpa [Lib.join, List.intercalate] using h
        | cons _ _ => simp at hl
      | cons x2 xs =>
        cases ys with
        | nil => simp at hl
        | cons y2 ys =>
          have e1 : Lib.join (x :: x2 :: xs) [c] = x ++ ([c] ++ Lib.join (x2 :: xs) [c]) := by simp [Lib.join, List.intercalate]
          have e2 : Lib.join (y :: y2 :: ys) [c] = y ++ ([c] ++ Lib.join (y2 :: ys) [c]) := by simp [Lib.join, List.intercalate]
          rw [e1, e2] at h
          obtain ⟨h1, h2⟩ := List.append_inj h (by rw [lx, ly])
          have h3 := (List.append_inj h2 rfl).2
          rw [h1, ih (y2 :: ys) (by simpa using hl) (fun z hz => hx z (List.mem_cons_of_mem _ hz)) (fun z hz => hy z (List.mem_cons_of_mem _ hz)) h3]
theorem three (p : ByteArray) (h : p.size = 3) : ∃ a b c : UInt8, p = ⟨#[a, b, c]⟩ := by
  obtain ⟨⟨l⟩⟩ := p
  have : l.length = 3 := h
  match l, this with
  | [a, b, c], _ => exact ⟨a, b, c, rfl⟩
theorem cell_of (a b c : UInt8) (v : Bool) : cellP ((a.toNat : Int) - 48) ((c.toNat : Int) - 48) v = ⟨#[a, if v = true then 61 else 35, c]⟩ := by
  have ha : a.toNat < 256 := a.toNat_lt
  have hc : c.toNat < 256 := c.toNat_lt
  unfold cellP
  rw [w64 (by omega) (by omega), w64 (by omega) (by omega), show (48 + ((a.toNat : Int) - 48)) % 256 = (a.toNat : Int) by omega, show (48 + ((c.toNat : Int) - 48)) % 256 = (c.toNat : Int) by omega]
  cases v <;> simp [strOfNums]
theorem clOf_cell (a b c : UInt8) : cellC (clOf ⟨#[a, b, c]⟩) = ⟨#[a, if b = 61 then 61 else 35, c]⟩ := by
  have e0 : bt ⟨#[a, b, c]⟩ 0 = (a.toNat : Int) := rfl
  have e1 : bt ⟨#[a, b, c]⟩ 1 = (b.toNat : Int) := rfl
  have e2 : bt ⟨#[a, b, c]⟩ 2 = (c.toNat : Int) := rfl
  have e3 : ((b.toNat : Int) == 61) = decide (b = 61) := by
    rw [Bool.eq_iff_iff, beq_iff_eq, decide_eq_true_eq]
    constructor
    · intro h
      exact UInt8.toNat_inj.1 (by have : (61 : UInt8).toNat = 61 := rfl; omega)
    · rintro rfl
      rfl
  unfold cellC clOf
  rw [e0, e1, e2, e3]
  show cellP _ _ _ = _
  rw [cell_of a b c]
  simp
theorem part_cell (p : ByteArray) (h : isPart p = true) : cellC (clOf p) = p := by
  unfold isPart at h
  simp only [Bool.and_eq_true, Bool.or_eq_true, beq_iff_eq] at h
  obtain ⟨a, b, c, rfl⟩ := three p h.1
  rw [clOf_cell]
  have e1 : bt ⟨#[a, b, c]⟩ 1 = (b.toNat : Int) := rfl
  rw [e1] at h
  rcases h.2 with h | h
  · obtain rfl : b = 61 := UInt8.toNat_inj.1 (by have : (61 : UInt8).toNat = 61 := rfl; omega)
    rfl
  · obtain rfl : b = 35 := UInt8.toNat_inj.1 (by have : (35 : UInt8).toNat = 35 := rfl; omega)
    rfl
theorem cell_part (p : ByteArray) (h3 : isThree p = true) (h : cellC (clOf p) = p) : isPart p = true := by
  unfold isThree at h3
  rw [beq_iff_eq] at h3
  obtain ⟨a, b, c, rfl⟩ := three p h3
  rw [clOf_cell] at h
  have hb : (if b = 61 then 61 else 35) = b := by
    have := congrArg (fun x : ByteArray => x.data.toList) h
    simpa using this
  unfold isPart
  have e1 : bt ⟨#[a, b, c]⟩ 1 = (b.toNat : Int) := rfl
  rw [e1]
  by_cases h61 : b = 61
  · subst h61; rfl
  · rw [if_neg h61] at hb
    subst hb
    rfl
theorem pieces_join (s : ByteArray) : joinB (splitOne s 44) ⟨#[44]⟩ = s.data.toList := by
  unfold joinB
  rw [splitOne_pieces, List.map_map]
  have : ((fun x : ByteArray => x.data.toList) ∘ mkB) = id := by funext x; simp [mkB]
  rw [this, List.map_id]
  have h := join_pieces 44 s.data.toList []
  simpa using h
theorem out_join (P : List ByteArray) : (outV (P.map clOf) (P.map clOf).length).data.toList = joinB (P.map fun p => cellC (clOf p)) ⟨#[44]⟩ := by
  rw [outV_join _ _ (Nat.le_refl _), List.take_length, List.map_map]
  rfl
theorem same (s : ByteArray) (P : List ByteArray) (hP : P = splitOne s 44) (h3 : P.all isThree = true) (hg : areCl 8 (P.map clOf) = true) : (outV (P.map clOf) (P.map clOf).length).toList = s.toList ↔ P.all isPart = true := by
  rw [Lib.toList_data, Lib.toList_data, out_join, ← pieces_join s, ← hP]
  constructor
  · intro h
    unfold joinB at h
    have hx : ∀ p, p ∈ P → p.data.toList.length = 3 := fun p hp => by
      have := List.all_eq_true.1 h3 p hp
      unfold isThree at this
      rw [beq_iff_eq] at this
      simpa using this
    have hj := join_inj 44 _ _ (by simp) (fun x hx' => by
      obtain ⟨q, hq, rfl⟩ := List.mem_map.1 hx'
      obtain ⟨p, hp, rfl⟩ := List.mem_map.1 hq
      obtain ⟨a, b, c, rfl⟩ := three p (by have := hx p hp; simpa using this)
      rw [clOf_cell]
      rfl) (fun y hy => by
      obtain ⟨p, hp, rfl⟩ := List.mem_map.1 hy
      exact hx p hp) h
    rw [List.all_eq_true]
    intro p hp
    refine cell_part p (List.all_eq_true.1 h3 p hp) ?_
    obtain ⟨i, hi, rfl⟩ := List.mem_iff_getElem.1 hp
    have := congrArg (fun l => l[i]?) hj
    simp only [List.getElem?_map, List.getElem?_eq_getElem hi, Option.map_some] at this
    have h2 := Option.some.inj this
    rw [← mkB_data (cellC (clOf P[i])), h2, mkB_data]
  · intro h
    congr 1
    refine (List.map_congr_left fun p hp => part_cell p (List.all_eq_true.1 h p hp)).trans (List.map_id _)
def specV (s : ByteArray) : List S49 × Bool := if (s.size : Int) > 80 then ([], false) else if (s.size : Int) > 0 then specP (splitOne s 44) else ([], true)
def implV (s : ByteArray) : List S49 × Bool := if s.toList = [] then ([], true) else implP s (splitOne s 44)
theorem part_three (P : List ByteArray) (h : P.all isPart = true) : P.all isThree = true := by
  rw [List.all_eq_true] at h ⊢
  intro p hp
  have := h p hp
  unfold isPart at this
  unfold isThree
  exact ((Bool.and_eq_true _ _).mp this).1
theorem implP_eq (s : ByteArray) : implP s (splitOne s 44) = specP (splitOne s 44) := by
  obtain ⟨P, hP⟩ : ∃ P, P = splitOne s 44 := ⟨_, rfl⟩
  rw [← hP]
  unfold implP specP
  by_cases hp : P.all isPart = true
  · have h3 := part_three P hp
    rw [if_pos h3, if_pos hp]
    by_cases hg : areCl 8 (P.map clOf) = true
    · rw [if_pos hg, if_pos hg, if_pos ((same s P hP h3 hg).2 hp)]
    · rw [if_neg hg, if_neg hg]
  · rw [if_neg hp]
    by_cases h3 : P.all isThree = true
    · rw [if_pos h3]
      by_cases hg : areCl 8 (P.map clOf) = true
      · rw [if_pos hg, if_neg (fun h => hp ((same s P hP h3 hg).1 h))]
      · rw [if_neg hg]
    · rw [if_neg h3]
theorem same_v (s : ByteArray) : implV s = specV s := by
  unfold implV specV
  by_cases h80 : (s.size : Int) > 80
  · rw [if_pos h80]
    have hne : ¬ s.toList = [] := fun h => by
      rw [Lib.toList_data] at h
      have := congrArg List.length h
      rw [Array.length_toList] at this
      have e : s.data.size = s.size := rfl
      simp only [List.length_nil] at this
      omega
    rw [if_neg hne]
    unfold implP
    by_cases h3 : (splitOne s 44).all isThree = true
    · rw [if_pos h3]
      by_cases hg : areCl 8 ((splitOne s 44).map clOf) = true
      · rw [if_pos hg]
        obtain ⟨hc, hl⟩ := okCls_of hg
        refine if_neg (fun h => ?_)
        have hz := outV_size _ hc ((splitOne s 44).map clOf).length (Nat.le_refl _)
        rw [Lib.toList_data, Lib.toList_data] at h
        have := congrArg List.length h
        simp only [Array.length_toList] at this
        have e1 : (outV ((splitOne s 44).map clOf) ((splitOne s 44).map clOf).length).size = s.size := this
        omega
      · rw [if_neg hg]
    · rw [if_neg h3]
  · rw [if_neg h80]
    by_cases h0 : (s.size : Int) > 0
    · have hne : ¬ s.toList = [] := fun h => by
        rw [Lib.toList_data] at h
        have := congrArg List.length h
        rw [Array.length_toList] at this
        have e : s.data.size = s.size := rfl
        simp only [List.length_nil] at this
        omega
      rw [if_pos h0, if_neg hne, implP_eq]
    · have he : s.toList = [] := by
        rw [Lib.toList_data]
        refine List.eq_nil_of_length_eq_zero ?_
        rw [Array.length_toList]
        show s.size = 0
        omega
      rw [if_neg h0, if_pos he]
theorem pieces_len (s : ByteArray) : (splitOne s 44).length ≤ s.size + 1 := by
  have h := Lib.splitB_length_le ⟨#[44]⟩ 0 (Lib.countB s ⟨#[44]⟩) s
  have h2 := Lib.countB_le ⟨#[44]⟩ (one_le 44) s.size s (Nat.le_refl _)
  exact Nat.le_trans h (by omega)
theorem spec_v (s : ByteArray) (hs : s.size ≤ 1048576) : Ev (fun k => spec_ParseClaims.f k s) (specV s) := by
  unfold spec_ParseClaims.f specV
  by_cases h80 : (s.size : Int) > 80
  · rw [if_pos h80]
    exact ev_pos h80 (Ev.now _)
  · rw [if_neg h80]
    refine ev_neg h80 ?_
    by_cases h0 : (s.size : Int) > 0
    · rw [if_pos h0]
      have hl := pieces_len s
      refine ev_pos h0 (Ev.bind (l1Split_ev s 44 44 rfl hs) ?_)
      exact spec_l (splitOne s 44) (by omega) _ 0 rfl (Nat.zero_le _) rfl
    · rw [if_neg h0]
      exact ev_neg h0 (Ev.bind (liGood_ev 8 [] (Nat.zero_le _)) (ev_pos rfl (Ev.now _)))
theorem impl_v (s : ByteArray) (hs : s.size ≤ 1048576) : Ev (fun k => impl_ParseClaims.f k s) (implV s) := by
  unfold impl_ParseClaims.f implV
  refine ev_call rfl ?_
  by_cases h0 : s.toList = []
  · rw [if_pos h0]
    exact ev_pos h0 (Ev.now _)
  · rw [if_neg h0]
    have hl := pieces_len s
    refine ev_neg h0 (ev_call (a := splitOne s 44) (by unfold strings_Split.f; exact if_pos (by omega)) ?_)
    exact impl_l s (splitOne s 44) (by omega) _ 0 rfl (Nat.zero_le _) rfl
theorem specV_len (s : ByteArray) : (specV s).1.length ≤ 1048576 := by
  unfold specV specP
  split
  · exact Nat.zero_le _
  · split
    · split
      · split
        · rename_i h
          have := (okCls_of h).2
          simp only
          omega
        · exact Nat.zero_le _
      · exact Nat.zero_le _
    · exact Nat.zero_le _
theorem FnExactParseClaims : laws_FnExactParseClaims.Pure := by
  intro s _
  refine Ev.rounds ?_
  unfold laws_FnExactParseClaims.f
  by_cases hs : (s.size : Int) > 1048576
  · exact ev_pos hs (Ev.now _)
  refine ev_neg hs ?_
  have hS := spec_v s (by omega)
  have hI := impl_v s (by omega)
  rw [same_v] at hI
  have hl := specV_len s
  generalize specV s = v at hS hI hl
  obtain ⟨l, b⟩ := v
  have hE := eqClaimS_ev l hl
  refine Ev.bind hS (Ev.bind hI (Ev.bind hE (ev_pos rfl ?_)))
  refine Ev.step (fun k => by simp only [laws_FnExactParseClaims.j0]; rfl) ?_
  refine ev_neg (by simp) (Ev.bind (markClaims_ev l hl) (Ev.bind (heldClaims_ev l.length hl) (ev_neg (by first | omega | (simp only; omega)) (ev_pos rfl (Ev.bind hI (Ev.bind hE (ev_pos rfl ?_)))))))
  refine Ev.step (fun k => by simp only [laws_FnExactParseClaims.j1]; rfl) ?_
  exact ev_neg (by simp) (Ev.bind (heldClaims_ev l.length hl) (ev_neg (by omega) (ev_pos rfl (Ev.now _))))

end Go.Proofs.YtjkildnpnjhgfaaDoor.Pure
