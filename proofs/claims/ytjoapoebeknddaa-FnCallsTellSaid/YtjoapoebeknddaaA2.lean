/- The small machine: each operation is sound. No conditions. -/
import Derived.Test.YtjoapoebeknddaaA1
import Derived.Laws.Tables
import Derived.Laws.IdiomStrings
import Derived.Laws.MakeOwn
set_option linter.unusedSimpArgs false
set_option linter.unusedVariables false
/- A small machine over lists in the place of the memory: append, copy and their like. No conditions. -/
namespace Go.Am
set_option linter.unusedSimpArgs false
set_option linter.unusedVariables false
section
variable {P : Program} {nf base : Nat} {β : Beta} {H H' : Heap} {w : World} {a : Act} {o : Oper} {v : Value} {ρ : Env}

theorem cell_same {w w2 : World} (h : w2.heap = w.heap) (a : Addr) : w2.cell? a = w.cell? a := by simp [World.cell?, h]

theorem byteCells_cell (s : ByteArray) : ∀ v ∈ byteCellsA s, isCell v = true := by
  intro v hv
  simp only [byteCellsA, List.mem_map] at hv
  obtain ⟨b, _, rfl⟩ := hv; rfl
theorem byteCells_len (s : ByteArray) : (byteCellsA s).length = s.size := by unfold byteCellsA; rw [List.length_map, Array.length_toList]; rfl
theorem VRL.refl_sc {x : List Value} (h : ∀ v ∈ x, Am.sc v = true) : VRL β x x :=
  VRL.of_forall rfl fun i hi => by rw [List.getD_eq_getElem?_getD, List.getElem?_eq_getElem hi]; exact .sc (h _ (List.getElem_mem hi))
theorem byteCells_sc (s : ByteArray) : ∀ v ∈ byteCellsA s, Am.sc v = true := by
  intro v hv
  simp only [byteCellsA, List.mem_map] at hv
  obtain ⟨b, _, rfl⟩ := hv; rfl

theorem cells_run (hs : Sim nf β H w) {es : Nat} {x x' : Value} {y : Nat × List Value} (hx : VR β x x') (h : cellsA H es x = some y) :
    ∃ us : List Value, VRL β y.2 us ∧ (∀ v ∈ y.2, isCell v = true) ∧ y.2.length = y.1 * es ∧ (∀ w2 : World, (Builtin.lenOf x').run P w2 = .ok y.1 w2) ∧
      ∀ k, k ≤ y.1 → ∀ w2 : World, w2.heap = w.heap → (Builtin.firstCells es k x').run P w2 = .ok (us.take (k * es)).toArray w2 := by
  unfold cellsA at h
  split at h
  · cases h
    have hsz : x' = .slice none 0 0 := by
      cases hx with
      | sc h => simp [Am.sc] at h
      | snil => rfl
    subst hsz
    refine ⟨[], .nil β, by simp, by simp, fun w2 => by simp [Builtin.lenOf], fun k hk w2 hw => ?_⟩
    obtain rfl : k = 0 := by simpa using hk
    simp [Builtin.firstCells]
  · rename_i b of es' n cap
    by_cases he : es' = es
    · rw [if_pos he] at h
      obtain ⟨c, hc, h⟩ := Option.bind_eq_some_iff.1 h
      by_cases hle : of + n * es ≤ c.2.length
      · rw [if_pos hle] at h
        cases h
        subst he
        cases hx with
        | sc h => simp [Am.sc] at h
        | sl hβ k1 k2 k3 k4 =>
          rename_i B s N cap' off
          obtain ⟨us, h1, h2, h3, h4⟩ := hs.window (T := c.1) (cs := c.2) (hget_some hc) hβ hle
          refine ⟨us, h2, h3, by simp; omega, fun w2 => by simp [Builtin.lenOf], fun k hk w2 hw => ?_⟩
          have hk' : k * es' ≤ n * es' := Nat.mul_le_mul_right _ hk
          by_cases hn : cap = 0
          · have : k = 0 := by simp only at hk; omega
            subst this
            simp [Builtin.firstCells, loadCells, loadCellsFrom]
          · have := k3 hn
            subst this
            refine run_firstCells_some w2 es' k ⟨B, s + of, none⟩ n cap' (us.take (k * es')) (by simp; omega) fun j v hj => ?_
            rw [add_none, cell_same hw]
            refine h4 j v ?_
            rw [List.getElem?_take] at hj
            split at hj
            · exact hj
            · cases hj
      · rw [if_neg hle] at h; cases h
    · rw [if_neg he] at h; cases h
  · rename_i s
    by_cases he : es = 1
    · rw [if_pos he] at h
      cases h
      subst he
      obtain rfl := hx.of_sc rfl
      refine ⟨byteCellsA s, .refl_sc (byteCells_sc s), byteCells_cell s, by simp [byteCells_len], fun w2 => by simp [Builtin.lenOf], fun k hk w2 hw => ?_⟩
      simp only [Builtin.firstCells, Sem.run_pure]
      congr 1
      apply Array.ext'
      simp [byteCellsA, ByteArray.data_extract, List.map_take, List.extract]
    · rw [if_neg he] at h; cases h
  · cases h

theorem zero_len (z : Array Value) (n : Nat) : (Builtin.zeroCells z n).size = n * z.size := by simp [Builtin.zeroCells]

/-- append makes a new block. -/
theorem append_fresh {ts : Array TypeId} {ty t u e : TypeId} {es n m cap : Nat} {i : TypeInfo} {z : Value} {ad : Option Addr} {x' : Value} {old us : List Value}
    (ht : ts[0]? = some t) (hu : ts[1]? = some u) (hud : ∃ d, P.underlying u = some d ∧ (d matches .int _) = false) (he : tyElem P t = some e) (hi : P.info? e = some i) (hz : i.zero = some z) (hes : i.size = es) (hby : 0 < i.bytes ∧ i.bytes ≤ 1024)
    (hlen : ∀ w2 : World, (Builtin.lenOf x').run P w2 = .ok m w2) (hnew : ∀ w2 : World, w2.heap = w.heap → (Builtin.firstCells es m x').run P w2 = .ok us.toArray w2)
    (hold : ∀ w2 : World, w2.heap = w.heap → (Builtin.firstCells es n (.slice ad n cap)).run P w2 = .ok old.toArray w2) (hc : cap < n + m) (hr : n + m ≤ room) :
    ∃ c : Nat, n + m ≤ c ∧ (Builtin.append_ ts ty #[.slice ad n cap, x']).run P w = .ok (.slice (some ⟨w.heap.size, 0, none⟩) (n + m) c) (w.drew.alloc (.cells ((old ++ us).toArray ++ Builtin.zeroCells z.cells (c - (n + m))) e)) := by
  obtain ⟨d, hd, hd2⟩ := hud
  have hsz : tySize P e = some es := by simp [tySize, hi, hes]
  have hzz : tyZero P e = some z := by simp [tyZero, hi, hz]
  refine ⟨(n + m) + w.tape w.drawn (.appendCap (n + m) cap e) % (2 ^ 63 - (n + m)), by omega, ?_⟩
  have hnc := nextslicecap_le hc
  unfold room at hr
  have hbig : ¬ (Builtin.nextslicecap (n + m) cap * i.bytes > 2 ^ 48) := by
    have h1 : Builtin.nextslicecap (n + m) cap * i.bytes ≤ (2 * (n + m)) * 1024 := Nat.mul_le_mul hnc hby.2
    omega
  have hmax : ¬ ((((n + m : Nat) : Int) > IntKind.i64.max) ∧ (False ∨ i.bytes = 0)) := by rintro ⟨_, h | h⟩ <;> first | cases h | omega
  have hnd : ∀ w2 : World, w2.heap = w.heap → w2.drew.heap = w.heap := fun w2 h => h
  have hroom := hr
  cases d <;> first
    | (exfalso; simp at hd2; done)
    | (unfold Builtin.append_
       simp only [ht, hu, Array.getElem?_toList, List.getElem?_toArray, List.getElem?_cons_zero, List.getElem?_cons_succ, Sem.run_bind, run_und (elem_und he), Result.andThen_ok, run_size hsz, run_und hd, Sem.run_pure, Bool.false_eq_true, if_false, hlen, Bool.not_false, if_true,
         show ¬ (n + m ≤ cap) by omega, run_info hi, hmax, hbig]
       simp only [run_choose, Question.forced, Question.cut, Bool.false_eq_true, if_false, Result.andThen_ok, run_askRoom, hold _ (show ({ w with drawn := w.drawn + 1 } : World).heap = w.heap from rfl), hnew _ (show ({ w with drawn := w.drawn + 1 } : World).heap = w.heap from rfl), run_zero hzz, newRow, Sem.run_bind, run_newObj, Sem.run_pure]
       simp only [List.append_toArray]
       rfl)

/-- append writes behind what is there. -/
theorem append_inplace {ts : Array TypeId} {ty t u e : TypeId} {es n m cap : Nat} {ad : Addr} {x' : Value} {us : List Value} {w' : World}
    (ht : ts[0]? = some t) (hu : ts[1]? = some u) (hud : ∃ d, P.underlying u = some d ∧ (d matches .int _) = false) (he : tyElem P t = some e) (hes : tySize P e = some es)
    (hlen : ∀ w2 : World, (Builtin.lenOf x').run P w2 = .ok m w2) (hnew : ∀ w2 : World, w2.heap = w.heap → (Builtin.firstCells es m x').run P w2 = .ok us.toArray w2)
    (hst : (storeCells (ad.add (n * es)) us).run P w = .ok () w') (hc : n + m ≤ cap) :
    (Builtin.append_ ts ty #[.slice (some ad) n cap, x']).run P w = .ok (.slice (some ad) (n + m) cap) w' := by
  obtain ⟨d, hd, hd2⟩ := hud
  cases d <;> first
    | (exfalso; simp at hd2; done)
    | (unfold Builtin.append_
       simp only [ht, hu, Array.getElem?_toList, List.getElem?_toArray, List.getElem?_cons_zero, List.getElem?_cons_succ, Sem.run_bind, run_und (elem_und he), Result.andThen_ok, run_size hes, run_und hd, Sem.run_pure, Bool.false_eq_true, if_false, hlen, Bool.not_false, if_true, hc, hnew w rfl, hst])
theorem append_none {ts : Array TypeId} {ty t u e : TypeId} {es cap : Nat} {ad : Option Addr} {n : Nat} {x' : Value}
    (ht : ts[0]? = some t) (hu : ts[1]? = some u) (hud : ∃ d, P.underlying u = some d ∧ (d matches .int _) = false) (he : tyElem P t = some e) (hes : tySize P e = some es)
    (hlen : ∀ w2 : World, (Builtin.lenOf x').run P w2 = .ok 0 w2) (hnew : ∀ w2 : World, w2.heap = w.heap → (Builtin.firstCells es 0 x').run P w2 = .ok #[] w2) (hc : n ≤ cap) :
    (Builtin.append_ ts ty #[.slice ad n cap, x']).run P w = .ok (.slice ad n cap) w := by
  obtain ⟨d, hd, hd2⟩ := hud
  cases ad with
  | none =>
    cases d <;> first
    | (exfalso; simp at hd2; done)
    | (unfold Builtin.append_
       simp only [ht, hu, Array.getElem?_toList, List.getElem?_toArray, List.getElem?_cons_zero, List.getElem?_cons_succ, Sem.run_bind, run_und (elem_und he), Result.andThen_ok, run_size hes, run_und hd, Sem.run_pure, Bool.false_eq_true, if_false, hlen, Bool.not_false, if_true, Nat.add_zero, hc, hnew w rfl])
  | some ad =>
    have := append_inplace (P := P) (ty := ty) (n := n) (cap := cap) (ad := ad) (us := []) (w' := w) ht hu ⟨d, hd, hd2⟩ he hes hlen hnew (by simp [storeCells]) (by simpa using hc)
    simpa using this

theorem append_does (hs : Sim nf β H w) (hnb : nf ≤ base) {ts : Array TypeId} {ty t u : TypeId} {s s' x x' : Value} {r : Value × Heap}
    (ht : ts[0]? = some t) (hu : ts[1]? = some u) (hud : ∃ d, P.underlying u = some d ∧ (d matches .int _) = false) (hS : VR β s s') (hX : VR β x x') (h : appendA P base H t s x = some r) :
    ∃ v' w' β', (Builtin.append_ ts ty #[s', x']).run P w = .ok v' w' ∧ VR β' r.1 v' ∧ Post nf base β H w β' r.2 w' := by
  unfold appendA at h
  obtain ⟨e, he, h1⟩ := Option.bind_eq_some_iff.1 h
  obtain ⟨es, hes, h2⟩ := Option.bind_eq_some_iff.1 h1
  obtain ⟨y, hy, h3⟩ := Option.bind_eq_some_iff.1 h2
  clear h h1 h2
  have h := h3
  clear h3
  by_cases hq : (P.info? e).any (fun i => i.bytes ≤ 1024 ∧ 0 < i.bytes) = true ∧ 0 < es ∧ (tyZero P e).any (fun z => z.cells.size = es ∧ isC z) = true
  rotate_left
  · rw [if_neg hq] at h; cases h
  rw [if_pos hq] at h
  obtain ⟨q1, q2, q3⟩ := hq
  obtain ⟨i, hi, hby⟩ : ∃ i, P.info? e = some i ∧ (0 < i.bytes ∧ i.bytes ≤ 1024) := by
    cases hi : P.info? e with
    | none => rw [hi] at q1; simp at q1
    | some i => rw [hi] at q1; simp at q1; exact ⟨i, rfl, q1.2, q1.1⟩
  obtain ⟨z, hz, hzs, hzc⟩ : ∃ z, i.zero = some z ∧ z.cells.size = es ∧ isC z = true := by
    have : tyZero P e = i.zero := by simp [tyZero, hi]
    rw [this] at q3
    cases hz : i.zero with
    | none => rw [hz] at q3; simp at q3
    | some z => rw [hz] at q3; simp at q3; exact ⟨z, rfl, q3.1, q3.2⟩
  have hsz : i.size = es := by simpa [tySize, hi] using hes
  obtain ⟨us, u1, u2, u3, u4, u5⟩ := cells_run (P := P) hs hX hy
  have hul : us.length = y.1 * es := by rw [← u1.1, u3]
  have hnew : ∀ w2 : World, w2.heap = w.heap → (Builtin.firstCells es y.1 x').run P w2 = .ok us.toArray w2 := fun w2 hw => by
    have := u5 y.1 (Nat.le_refl _) w2 hw
    rwa [List.take_of_length_le (by omega)] at this
  have hnone : ∀ (ad : Option Addr) (n cap : Nat), y.1 = 0 → n ≤ cap → (Builtin.append_ ts ty #[.slice ad n cap, x']).run P w = .ok (.slice ad n cap) w := fun ad n cap h0 hc => by
    refine append_none ht hu hud he hes (fun w2 => by rw [u4, h0]) (fun w2 hw => ?_) hc
    have := hnew w2 hw
    rw [h0] at this hul
    rw [this, List.eq_nil_of_length_eq_zero (l := us) (by omega)]
  -- a new block
  have fresh : ∀ (T : TypeId) (ad : Option Addr) (n cap : Nat) (old ocs : List Value) (H1 : Heap), H1.length = H.length → (∀ b : Nat, H1[b]? = H[b]? ∨ H1[b]? = some none) →
      VRL β ocs old → (∀ v ∈ ocs, isCell v = true) → ocs.length = n * es → (∀ w2 : World, w2.heap = w.heap → (Builtin.firstCells es n (.slice ad n cap)).run P w2 = .ok old.toArray w2) → cap < n + y.1 → n + y.1 ≤ room →
      ∃ v' w' β', (Builtin.append_ ts ty #[.slice ad n cap, x']).run P w = .ok v' w' ∧ VR β' (.slice (some ⟨H.length, 0, some es⟩) (n + y.1) (n + y.1)) v' ∧ Post nf base β H w β' (H1 ++ [some (T, ocs ++ y.2)]) w' := by
    intro T ad n cap old ocs H1 hl1 hH1 ho1 ho2 ho3 hold hc hr
    obtain ⟨c, hc1, hrun⟩ := append_fresh (P := P) (ty := ty) (w := w) ht hu hud he hi hz hsz hby u4 hnew hold hc hr
    have hce : (n + y.1) * es ≤ c * es := Nat.mul_le_mul_right _ hc1
    have hadd : (n + y.1) * es = n * es + y.1 * es := Nat.add_mul _ _ _
    have hol : old.length = n * es := by rw [← ho1.1, ho3]
    have hsize : ((old ++ us).toArray ++ Builtin.zeroCells z.cells (c - (n + y.1))).size = c * es := by
      rw [Array.size_append, zero_len, hzs, Nat.sub_mul, List.size_toArray, List.length_append]; omega
    have hall := ho1.append u1
    refine ⟨_, _, upd β H.length (w.heap.size, 0, c * es), hrun, .sl (s := 0) (N := c * es) (by unfold upd; rw [if_pos rfl]) (Nat.le_refl _) hc1 (fun _ => rfl) (by omega), ?_⟩
    refine Post.newBlock (w' := w.drew.alloc _) hs T (ocs ++ y.2) w.heap.size (c * es) rfl (by rw [World.size_alloc]; rfl) rfl rfl rfl (fun k hk => ?_) (fun j hj => ?_) (by rw [List.length_append, ho3, u3]; omega) (fun off hoff => ?_) H1 hl1 hH1
    · exact RowKit.Below.heap_alloc w.drew _ k hk
    · rw [List.length_append, ho3, u3] at hj
      refine ⟨?_, (old ++ us).getD j undef, ?_, hall.2 j⟩
      · have : (ocs ++ y.2).getD j undef ∈ ocs ++ y.2 := by
          rw [List.getD_eq_getElem?_getD, List.getElem?_eq_getElem (by rw [List.length_append, ho3, u3]; omega)]; exact List.getElem_mem _
        rcases List.mem_append.1 this with h | h
        · exact ho2 _ h
        · exact u2 _ h
      · rw [show (⟨w.heap.size, j, none⟩ : Addr) = ⟨w.drew.heap.size, j, none⟩ from rfl, World.cell?_alloc_new]
        rw [Array.getElem?_append, if_pos (by simp; omega)]
        rw [List.getElem?_toArray, List.getD_eq_getElem?_getD, List.getElem?_eq_getElem (by simp; omega)]; rfl
    · constructor
      · rw [show (⟨w.heap.size, off, none⟩ : Addr) = ⟨w.drew.heap.size, off, none⟩ from rfl, World.cell?_alloc_new, Array.getElem?_eq_getElem (by omega)]; rfl
      · rw [show (⟨w.heap.size, off, none⟩ : Addr) = ⟨w.drew.heap.size, off, none⟩ from rfl, World.frozen?_alloc_new]
  split at h
  · -- a nil slice
    have hsz' : s' = .slice none 0 0 := by
      cases hS with
      | sc h => simp [Am.sc] at h
      | snil => rfl
    subst hsz'
    by_cases h0 : y.1 = 0
    · rw [if_pos h0] at h; cases h
      exact ⟨_, w, β, hnone _ 0 0 h0 (Nat.le_refl _), .snil, .refl hs⟩
    · rw [if_neg h0] at h
      by_cases hr : y.1 ≤ room
      · rw [if_pos hr] at h; cases h
        obtain ⟨v', w', β', k1, k2, k3⟩ := fresh e none 0 0 [] [] H rfl (fun _ => .inl rfl) (.nil β) (by simp) (by simp) (fun w2 _ => by simp [Builtin.firstCells]) (by omega) (by omega)
        simp only [Nat.zero_add, List.nil_append] at k2 k3
        exact ⟨v', w', β', k1, k2, k3⟩
      · rw [if_neg hr] at h; cases h
  · rename_i b of es' n cap
    by_cases he' : es' ≠ es
    · rw [if_pos he'] at h; cases h
    rw [if_neg he'] at h
    obtain rfl : es' = es := Decidable.of_not_not he'
    cases hS with
    | sc h => simp [Am.sc] at h
    | sl hβ k1 k2 k3 k4 =>
      rename_i B s N cap' off
      by_cases h0 : y.1 = 0
      · rw [if_pos h0] at h; cases h
        exact ⟨_, w, β, hnone _ n cap' h0 (by omega), .sl hβ k1 k2 k3 k4, .refl hs⟩
      · rw [if_neg h0] at h
        by_cases hb : base ≤ b
        rotate_left
        · rw [if_neg hb] at h; cases h
        rw [if_pos hb] at h
        obtain ⟨c, hc, h⟩ := Option.bind_eq_some_iff.1 h
        have hH := hget_some hc
        by_cases hin : n + y.1 ≤ cap
        · rw [if_pos hin] at h
          by_cases hle : of + (n + y.1) * es' ≤ c.2.length
          · rw [if_pos hle] at h; cases h
            have hoff := k3 (by omega)
            subst hoff
            have hadd : (n + y.1) * es' = n * es' + y.1 * es' := Nat.add_mul _ _ _
            obtain ⟨r1, r2⟩ := write_own (P := P) hs hnb (T := c.1) (cs := c.2) (o := of + n * es') hb hH hβ (by rw [u3]; omega) u1 u2
            refine ⟨_, _, β, append_inplace ht hu hud he hes u4 hnew (by rw [add_none, Nat.add_assoc]; exact r1) (by omega), .sl hβ hin (by omega) k3 k4, r2⟩
          · rw [if_neg hle] at h; cases h
        · rw [if_neg hin] at h
          by_cases hq : of + n * es' = c.2.length ∧ n + y.1 ≤ room
          rotate_left
          · rw [if_neg hq] at h; cases h
          rw [if_pos hq] at h; cases h
          obtain ⟨hend, hroom⟩ := hq
          have hdl : (c.2.drop of).length = n * es' := by rw [List.length_drop]; omega
          obtain ⟨old, o1, o2, o3, o4⟩ := hs.window (T := c.1) (cs := c.2) (o := of) (n := n * es') hH hβ (by omega)
          rw [List.take_of_length_le (by omega)] at o2 o3
          by_cases hcc : n + y.1 ≤ cap'
          · -- in place
            have hadd : (n + y.1) * es' = n * es' + y.1 * es' := Nat.add_mul _ _ _
            have hcap : (n + y.1) * es' ≤ cap' * es' := Nat.mul_le_mul_right _ hcc
            obtain ⟨g1, g2⟩ := hs.own b c.1 c.2 B s N (Nat.le_trans hnb hb) hH hβ
            have hst : (storeCells ⟨B, off + n * es', none⟩ us).run P w = .ok () (w.setCells B (off + n * es') us) := by
              have := run_storeCells_cells (P := P) B (off + n * es') us 0 w (fun j hj => (g2 _ (by omega)).1) (fun j hj => (g2 _ (by omega)).2) (u1.all_cell u2)
              simpa using this
            have p1 := Post.setBlock (cs1 := []) (T' := c.1) hs hnb hb hH hβ (off + n * es') (by omega) (by simp; omega) u1 u2 (fun i hi => by simp at hi)
            have hb' : b < H.length := (List.getElem?_eq_some_iff.1 hH).1
            have hH2 : (H.set b (some (c.1, ([] : List Value))))[b]? = some (some (c.1, [])) := by rw [List.getElem?_set_self hb']
            have hVRL := o2.append u1
            have p2 := Post.rename (base := base) (cs1 := c.2.drop of ++ y.2) (s' := off) (T := c.1) p1.sim hnb hb hH2 hβ (by rw [List.length_append, hdl, u3]; omega) (fun j hj => by
              rw [List.length_append, hdl, u3] at hj
              refine ⟨?_, (old ++ us).getD j undef, ?_, hVRL.2 j⟩
              · have : (c.2.drop of ++ y.2).getD j undef ∈ c.2.drop of ++ y.2 := by
                  rw [List.getD_eq_getElem?_getD, List.getElem?_eq_getElem (by rw [List.length_append, hdl, u3]; omega)]; exact List.getElem_mem _
                rcases List.mem_append.1 this with h | h
                · exact o3 _ h
                · exact u2 _ h
              · rw [List.getD_eq_getElem?_getD, List.getElem?_append]
                by_cases hj2 : j < old.length
                · rw [if_pos hj2, cell_setCells_out _ _ _ _ _ (.inr (.inl (by simp only; omega)))]
                  have hn0 : n ≠ 0 := by rintro rfl; simp at o1; simp [o1] at hj2
                  have := k3 (by omega)
                  subst this
                  rw [List.getElem?_eq_getElem hj2]
                  exact o4 j _ (List.getElem?_eq_getElem hj2)
                · rw [if_neg hj2, o1]
                  have := World.cell?_setCells_in B us (off + n * es') w (fun i hi => (g2 _ (by omega)).1) (j - n * es') (by omega)
                  rw [show off + n * es' + (j - n * es') = off + j by omega] at this
                  rw [this, List.getElem?_eq_getElem (by omega)]; rfl)
            have p := p1.trans p2
            rw [List.set_set, List.length_set] at p
            refine ⟨_, _, _, append_inplace (n := n) ht hu hud he hes u4 hnew (by rw [add_none]; exact hst) hcc, ?_, p⟩
            exact .sl (s := off) (N := N) (by unfold upd; rw [if_pos rfl]) (Nat.le_refl _) hcc (fun _ => rfl) k4
          · -- a new block
            have hold : ∀ w2 : World, w2.heap = w.heap → (Builtin.firstCells es' n (.slice (some ⟨B, off, none⟩) n cap')).run P w2 = .ok old.toArray w2 := by
              intro w2 hw
              by_cases hn0 : n = 0
              · subst hn0
                simp at o1
                subst o1
                simp [Builtin.firstCells, loadCells, loadCellsFrom]
              · have := k3 (by omega)
                subst this
                refine run_firstCells_some w2 es' n ⟨B, s + of, none⟩ n cap' old o1 fun j v hj => ?_
                rw [add_none, cell_same hw]
                exact o4 j v hj
            exact fresh c.1 (some ⟨B, off, none⟩) n cap' old (c.2.drop of) (H.set b none) (by simp) (fun k => by
              rw [get_kill]; by_cases hk : k = b ∧ k < H.length
              · rw [if_pos hk]; exact .inr rfl
              · rw [if_neg hk]; exact .inl rfl) o2 o3 hdl hold (by omega) hroom
  · cases h
end
end Go.Am

/- A small machine over lists in the place of the memory: new blocks, structs, rows, copies. No conditions. -/
namespace Go.Am
set_option linter.unusedSimpArgs false
set_option linter.unusedVariables false
section
variable {P : Program} {nf base : Nat} {β : Beta} {H H' : Heap} {w : World} {a : Act} {o : Oper} {v : Value} {ρ : Env}

theorem zeros_list (z : Array Value) (hz : 0 < z.size) (n : Nat) : ((Array.range (n * z.size)).map fun i => z[i % z.size]!).toList = (List.replicate n z.toList).flatten := by
  rw [Array.toList_map, Array.toList_range]
  induction n with
  | zero => simp
  | succ n ih =>
    rw [Nat.succ_mul, Nat.add_comm, List.range_add, List.map_append, List.replicate_succ, List.flatten_cons, ← ih]
    congr 1
    · refine List.ext_getElem (by simp) fun i h1 h2 => ?_
      simp only [List.length_map, List.length_range] at h1
      simp [Nat.mod_eq_of_lt h1, h1]
    · rw [List.map_map]
      refine List.map_congr_left fun i _ => ?_
      simp

theorem fold_set (off : Nat) : ∀ (l : List Value) (k : Nat) (cells : Array Value), ((l.zipIdx k).foldl (fun cs (x : Value × Nat) => cs.setIfInBounds (off + x.2) x.1) cells).toList = setAll cells.toList (off + k) l
  | [], _, _ => rfl
  | v :: l, k, cells => by
    rw [List.zipIdx_cons, List.foldl_cons, fold_set off l (k + 1), setAll, Array.toList_setIfInBounds]; rfl

def VRP (β : Beta) (p q : List (Nat × Value)) : Prop := p.length = q.length ∧ ∀ i (h : i < p.length) (h' : i < q.length), p[i].1 = q[i].1 ∧ VR β p[i].2 q[i].2
theorem VRP.tail {x y : Nat × Value} {p q : List (Nat × Value)} (h : VRP β (x :: p) (y :: q)) : x.1 = y.1 ∧ VR β x.2 y.2 ∧ VRP β p q :=
  ⟨(h.2 0 (by simp) (by simp)).1, (h.2 0 (by simp) (by simp)).2, by simpa using h.1, fun i h1 h2 => h.2 (i + 1) (by simpa using h1) (by simpa using h2)⟩

theorem setAll_rel {x y vs us : List Value} {o : Nat} (h : VRL β x y) (k : VRL β vs us) (ho : o + vs.length ≤ x.length) : VRL β (setAll x o vs) (setAll y o us) := by
  have h1 := h.1
  have k1 := k.1
  refine ⟨by rw [length_setAll, length_setAll]; exact h1, fun i => ?_⟩
  rw [getD_setAll _ _ _ _ ho, getD_setAll _ _ _ _ (by omega), k1]
  split
  · exact k.2 _
  · exact h.2 i
theorem setAll_cell {x vs : List Value} {o : Nat} (hx : ∀ v ∈ x, isCell v = true) (hv : ∀ v ∈ vs, isCell v = true) : ∀ v ∈ setAll x o vs, isCell v = true := by
  induction vs generalizing x o with
  | nil => exact hx
  | cons u vs ih =>
    refine ih (fun v h => ?_) (fun v h => hv v (List.mem_cons_of_mem _ h))
    rcases List.mem_or_eq_of_mem_set h with h | rfl
    · exact hx v h
    · exact hv _ List.mem_cons_self

theorem fill_rel (place place' : Nat → Option (Nat × Nat)) (hpl : ∀ i x, place i = some x → place' i = some x) : ∀ (p q : List (Nat × Value)) (cs : List Value) (ds : Array Value) (out : List Value), VRL β cs ds.toList → VRP β p q → fillA place cs p = some out →
    ∃ out' : Array Value, Instr.fill place' ds q = some out' ∧ VRL β out out'.toList ∧ ((∀ v ∈ cs, isCell v = true) → ∀ v ∈ out, isCell v = true) := by
  intro p
  induction p with
  | nil =>
    intro q cs ds out h hp hf
    obtain rfl : q = [] := List.eq_nil_of_length_eq_zero hp.1.symm
    simp only [fillA, Option.some.injEq] at hf
    subst hf
    exact ⟨ds, rfl, h, fun h => h⟩
  | cons x p ih =>
    intro q cs ds out h hp hf
    cases q with
    | nil => exact absurd hp.1 (by simp)
    | cons y q =>
      obtain ⟨e1, e2, e3⟩ := hp.tail
      simp only [fillA] at hf
      obtain ⟨pl, h1, hf⟩ := Option.bind_eq_some_iff.1 hf
      by_cases hq : x.2.cells.size = pl.2 ∧ pl.1 + pl.2 ≤ cs.length ∧ x.2.cells.toList.all isCell = true
      · rw [if_pos hq] at hf
        obtain ⟨q1, q2, q3⟩ := hq
        have hv := e2.cells' q3
        have hsz : y.2.cells.size = pl.2 := by have := hv.1; simp at this; omega
        have hlen := h.1
        obtain ⟨out', f1, f2, f3⟩ := ih q (setAll cs pl.1 x.2.cells.toList) (y.2.cells.zipIdx.foldl (fun cs (c, j) => cs.setIfInBounds (pl.1 + j) c) ds) out (by
          rw [← Array.foldl_toList, Array.toList_zipIdx, fold_set pl.1, Nat.add_zero]
          exact setAll_rel h hv (by simp; omega)) e3 hf
        obtain ⟨yi, yv⟩ := y
        refine ⟨out', ?_, f2, fun hc => f3 (setAll_cell hc (List.all_eq_true.1 q3))⟩
        have hpl' : place' yi = some pl := by rw [← hpl _ _ h1, e1]
        unfold Instr.fill
        simp only [hpl']
        rw [if_neg (by simp only [ne_eq, Bool.or_eq_true, decide_eq_true_eq, not_or]; simp at hlen hsz; refine ⟨by simp [hsz], by omega⟩)]
        exact f1
      · rw [if_neg hq] at hf; cases hf

theorem isC_cells {z : Value} (h : isC z = true) : VRL β z.cells.toList z.cells.toList ∧ ∀ v ∈ z.cells.toList, isCell v = true := by
  have hc : ∀ v : Value, sc0 v = true → isCell v = true := fun v hv => by cases v <;> first | rfl | (simp [sc0, Am.sc] at hv; done)
  cases z with
  | agg cs =>
    simp only [isC, List.all_eq_true] at h
    exact ⟨VRL.of_forall rfl fun i hi => by rw [List.getD_eq_getElem?_getD]; simp only [Value.cells] at hi ⊢; rw [List.getElem?_eq_getElem hi]; exact VR.of_C0 β (h _ (List.getElem_mem hi)), fun v hv => hc v (h v hv)⟩
  | _ => exact ⟨VRL.cons (VR.of_C0 β h) (VRL.nil β), fun v hv => by simp only [Value.cells, List.mem_singleton] at hv; subst hv; exact hc _ h⟩

theorem places_all : ∀ (fs : List Field), (fs.map fun f => (f.offset, f.type)).all (fun x => (tySize P x.2).isSome) = true →
    fs.mapM (fun f => (P.info? f.type).map fun i => (f.offset, i.size)) = some (fs.map fun f => (f.offset, (tySize P f.type).getD 0))
  | [], _ => rfl
  | f :: fs, h => by
    simp only [List.map_cons, List.all_cons, Bool.and_eq_true] at h
    obtain ⟨n, hn⟩ := Option.isSome_iff_exists.1 h.1
    rw [List.mapM_cons, places_all fs h.2]
    unfold tySize at hn ⊢
    cases hi : P.info? f.type with
    | none => rw [hi] at hn; cases hn
    | some i => simp [hi]

theorem build_does {t : TypeId} {p : List (Nat × Value)} {q : Array (Nat × Value)} {u : Value} (hp : VRP β p q.toList) (h : buildA P t p = some u) : ∃ u', (Instr.build t q).run P w = .ok u' w ∧ VR β u u' := by
  unfold buildA at h
  obtain ⟨z, hz, h⟩ := Option.bind_eq_some_iff.1 h
  obtain ⟨fs, hfs, h⟩ := Option.bind_eq_some_iff.1 h
  by_cases hq : isC z = true ∧ fs.all (fun x => (tySize P x.2).isSome) = true
  · rw [if_pos hq] at h
    obtain ⟨cs, hcs, rfl⟩ := Option.map_eq_some_iff.1 h
    obtain ⟨fields, hu, hfe⟩ := fields_und hfs
    subst hfe
    have hpl := places_all fields.toList hq.2
    obtain ⟨out', f1, f2, _⟩ := fill_rel (β := β) _ (fun x => (fields.toList.map fun f => (f.offset, (tySize P f.type).getD 0)).toArray[x]?) (by
      intro i x hx
      simp only [List.getElem?_map] at hx
      simp only [List.getElem?_toArray, List.getElem?_map]
      cases hf : fields.toList[i]? with
      | none => rw [hf] at hx; cases hx
      | some f => rw [hf] at hx; simpa using hx) p q.toList z.cells.toList z.cells cs (isC_cells hq.1).1 hp hcs
    unfold tyZero at hz
    cases hi : P.info? t with
    | none => rw [hi] at hz; cases hz
    | some i =>
      rw [hi] at hz
      refine ⟨.agg out', run_build w t q out' ?_, .agg (by simpa using f2.1) fun j => by simpa [List.getD_eq_getElem?_getD, Array.getD_eq_getD_getElem?] using f2.2 j⟩
      unfold Program.built
      simp only [Option.bind_some] at hz
      simp only [hi, hu, hz, hpl, f1]
  · rw [if_neg hq] at h; cases h

/-- A new block, at once. -/
theorem newBlock_alloc (hs : Sim nf β H w) (T e : TypeId) (cs : List Value) (arr : Array Value) (hv : VRL β cs arr.toList) (hc : ∀ v ∈ cs, isCell v = true) :
    Post nf base β H w (upd β H.length (w.heap.size, 0, arr.size)) (H ++ [some (T, cs)]) (w.alloc (.cells arr e)) := by
  have hl : cs.length = arr.size := by simpa using hv.1
  refine Post.newBlock (w' := w.alloc (.cells arr e)) hs T cs w.heap.size arr.size rfl (World.size_alloc _ _) rfl rfl rfl (fun k hk => RowKit.Below.heap_alloc w _ k hk) (fun i hi => ?_) (by omega) (fun off ho => ?_) H rfl (fun _ => .inl rfl)
  · refine ⟨?_, arr.getD i undef, ?_, by simpa [List.getD_eq_getElem?_getD, Array.getD_eq_getD_getElem?] using hv.2 i⟩
    · rw [List.getD_eq_getElem?_getD, List.getElem?_eq_getElem hi]; exact hc _ (List.getElem_mem hi)
    · rw [World.cell?_alloc_new, Array.getD_eq_getD_getElem?, Array.getElem?_eq_getElem (by omega)]; rfl
  · rw [World.cell?_alloc_new, World.frozen?_alloc_new, Array.getElem?_eq_getElem ho]; exact ⟨rfl, rfl⟩

theorem upd_self (b : Nat) (x : Nat × Nat × Nat) : upd β b x b = some x := by unfold upd; rw [if_pos rfl]

theorem alloc_does (hs : Sim nf β H w) {t : TypeId} {z : Value} (hz : tyZero P t = some z) (hc : isC z = true) :
    ∃ v' w' β', (Instr.alloc t true (.tuple #[])).run P w = .ok v' w' ∧ VR β' (.pointer (some ⟨H.length, 0, none⟩)) v' ∧ Post nf base β H w β' (H ++ [some (t, z.cells.toList)]) w' := by
  obtain ⟨h1, h2⟩ := isC_cells (β := β) hc
  refine ⟨.pointer (some ⟨w.heap.size, 0, none⟩), w.alloc (.cells z.cells t), _, ?_, .ptr (s := 0) (upd_self _ _), newBlock_alloc hs t t z.cells.toList z.cells h1 h2⟩
  simp only [Instr.alloc, Sem.run_bind, run_zero hz, Result.andThen_ok, newVar, newRow, run_newObj, Sem.run_pure]
  rfl
theorem box_does (hs : Sim nf β H w) {t : TypeId} {x x' : Value} (hx : VR β x x') (hc : x.cells.toList.all isCell = true) :
    ∃ v' w' β', (Instr.box t x').run P w = .ok v' w' ∧ VR β' (.pointer (some ⟨H.length, 0, none⟩)) v' ∧ Post nf base β H w β' (H ++ [some (t, x.cells.toList)]) w' := by
  refine ⟨.pointer (some ⟨w.heap.size, 0, none⟩), w.alloc (.cells x'.cells t), _, ?_, .ptr (s := 0) (upd_self _ _), newBlock_alloc hs t t x.cells.toList x'.cells (hx.cells' hc) (List.all_eq_true.1 hc)⟩
  simp only [Instr.box, Sem.run_bind, Result.andThen_ok, newVar, newRow, run_newObj, Sem.run_pure]
  rfl

theorem rep_rel {l : List Value} (n : Nat) (g1 : VRL β l l) (g2 : ∀ v ∈ l, isCell v = true) : VRL β (List.replicate n l).flatten (List.replicate n l).flatten ∧ ∀ v ∈ (List.replicate n l).flatten, isCell v = true := by
  constructor
  · induction n with
    | zero => exact .nil β
    | succ n ih => rw [List.replicate_succ, List.flatten_cons]; exact g1.append ih
  · intro v hv
    obtain ⟨k, hl, hv⟩ := List.mem_flatten.1 hv
    rw [List.eq_of_mem_replicate hl] at hv
    exact g2 v hv

theorem buildSlice_does (hs : Sim nf β H w) {t : TypeId} {len : Nat} {p : List (Nat × Value)} {q : Array (Nat × Value)} {r : Value × Heap} (hp : VRP β p q.toList) (h : buildSliceA P H t len p = some r) :
    ∃ v' w' β', (Instr.buildSlice t len q).run P w = .ok v' w' ∧ VR β' r.1 v' ∧ Post nf base β H w β' r.2 w' := by
  unfold buildSliceA at h
  obtain ⟨e, he, h⟩ := Option.bind_eq_some_iff.1 h
  obtain ⟨es, hes, h⟩ := Option.bind_eq_some_iff.1 h
  obtain ⟨z, hz, h⟩ := Option.bind_eq_some_iff.1 h
  by_cases hq : isC z = true ∧ 0 < es ∧ z.cells.size = es ∧ len * es ≤ 16777216
  · rw [if_pos hq] at h
    obtain ⟨q1, q2, q3, q4⟩ := hq
    have hbig : ¬ (len * es > 2 ^ 24) := by omega
    obtain ⟨cs, hcs, rfl⟩ := Option.map_eq_some_iff.1 h
    have hzl : ((Array.range (len * es)).map fun i => z.cells[i % z.cells.size]!).toList = (List.replicate len z.cells.toList).flatten := by
      rw [← q3]; exact zeros_list z.cells (by omega) len
    obtain ⟨g1, g2⟩ := isC_cells (β := β) q1
    have hrep := rep_rel len g1 g2
    obtain ⟨out', f1, f2, f3⟩ := fill_rel (β := β) _ (fun i => some (i * es, es)) (fun i x hx => hx) p q.toList _ ((Array.range (len * es)).map fun i => z.cells[i % z.cells.size]!) cs (by rw [hzl]; exact hrep.1) hp hcs
    have hout : cs.length = len * es := by
      have : ∀ (pl : Nat → Option (Nat × Nat)) (p : List (Nat × Value)) (xs out : List Value), fillA pl xs p = some out → out.length = xs.length := by
        intro pl p
        induction p with
        | nil => intro xs out h; simp only [fillA, Option.some.injEq] at h; rw [h]
        | cons y p ih =>
          intro xs out h
          simp only [fillA] at h
          obtain ⟨x, _, h⟩ := Option.bind_eq_some_iff.1 h
          split at h
          · rw [ih _ _ h, length_setAll]
          · cases h
      rw [this _ _ _ _ hcs, ← hzl]; simp
    have hos : out'.size = len * es := by have := f2.1; simp at this; omega
    refine ⟨.slice (some ⟨w.heap.size, 0, none⟩) len len, w.alloc (.cells out' e), upd β H.length (w.heap.size, 0, out'.size), ?_, .sl (s := 0) (upd_self _ _) (Nat.le_refl _) (Nat.le_refl _) (fun _ => rfl) (by omega), newBlock_alloc hs e e cs out' f2 (f3 hrep.2)⟩
    by_cases hl0 : len * es = 0
    · simp only [hl0, Array.range_zero', Array.map_empty] at f1
      simp [Instr.buildSlice, run_und (elem_und he), run_size hes, hl0, Array.range_zero', newRow, f1]
    · simp [Instr.buildSlice, run_und (elem_und he), run_size hes, hbig, hl0, run_zero hz, f1, newRow]
  · rw [if_neg hq] at h; cases h

theorem make_does (hs : Sim nf β H w) {t : TypeId} {l l' c c' : Value} {r : Value × Heap} (hl : VR β l l') (hc : VR β c c') (h : makeA P H t l c = some r) :
    ∃ v' w' β', (Instr.makeSlice t l' c').run P w = .ok v' w' ∧ VR β' r.1 v' ∧ Post nf base β H w β' r.2 w' := by
  unfold makeA at h
  split at h
  · rename_i kl l0 kc c0
    obtain ⟨e, he, h1⟩ := Option.bind_eq_some_iff.1 h
    obtain ⟨i, hi, h2⟩ := Option.bind_eq_some_iff.1 h1
    obtain ⟨z, hz, h3⟩ := Option.bind_eq_some_iff.1 h2
    clear h h1 h2
    by_cases hq : 0 ≤ l0 ∧ l0 ≤ c0 ∧ c0 ≤ (room : Int) ∧ i.bytes ≤ 1024 ∧ 0 < i.size ∧ z.cells.size = i.size ∧ isC z = true
    · rw [if_pos hq] at h3; cases h3
      obtain ⟨q1, q2, q3, q4, q5, q6, q7⟩ := hq
      obtain rfl := hl.of_sc rfl
      obtain rfl := hc.of_sc rfl
      unfold room at q3
      have hb : (i.bytes : Int) * c0 ≤ 281474976710656 := by
        have h1 : i.bytes * c0.toNat ≤ 1024 * 1048576 := Nat.mul_le_mul q4 (by omega)
        have h2 : (i.bytes : Int) * c0 = ((i.bytes * c0.toNat : Nat) : Int) := by rw [Int.natCast_mul, Int.toNat_of_nonneg (by omega)]
        omega
      have hrun := run_make (P := P) w t e i z (elem_und he) hi hz kl kc l0 c0 q1 q2 hb (by omega)
      have hzl : (madeCells z.cells (c0.toNat * i.size)).toList = (List.replicate c0.toNat z.cells.toList).flatten := by
        rw [← q6]; exact zeros_list z.cells (by omega) c0.toNat
      obtain ⟨g1, g2⟩ := isC_cells (β := β) q7
      have hrep := rep_rel c0.toNat g1 g2
      refine ⟨_, _, _, hrun, .sl (s := 0) (upd_self _ _) (by omega) (Nat.le_refl _) (fun _ => rfl) (by rw [size_madeCells]; omega), newBlock_alloc hs e e _ _ (by rw [hzl]; exact hrep.1) hrep.2⟩
    · rw [if_neg hq] at h3; cases h3
  · cases h

theorem copy_does (hs : Sim nf β H w) (hnb : nf ≤ base) {ts : Array TypeId} {ty t : TypeId} {d d' x x' : Value} {r : Value × Heap} (ht : ts[0]? = some t) (hd : VR β d d') (hX : VR β x x') (h : copyA P base H t d x = some r) :
    ∃ v' w' β', (Builtin.copy_ ts ty #[d', x']).run P w = .ok v' w' ∧ VR β' r.1 v' ∧ Post nf base β H w β' r.2 w' := by
  unfold copyA at h
  obtain ⟨e, he, h1⟩ := Option.bind_eq_some_iff.1 h
  obtain ⟨es, hes, h2⟩ := Option.bind_eq_some_iff.1 h1
  obtain ⟨y, hy, h3⟩ := Option.bind_eq_some_iff.1 h2
  clear h h1 h2
  obtain ⟨us, u1, u2, u3, u4, u5⟩ := cells_run (P := P) hs hX hy
  split at h3
  · cases h3
    have hsz' : d' = .slice none 0 0 := by
      cases hd with
      | sc h => simp [Am.sc] at h
      | snil => rfl
    subst hsz'
    have hf := u5 0 (Nat.zero_le _) w rfl
    rw [Nat.zero_mul, List.take_zero] at hf
    refine ⟨goInt 0, w, β, ?_, .sc rfl, .refl hs⟩
    simp [Builtin.copy_, ht, run_und (elem_und he), run_size hes, u4, hf, storeCells]
  · rename_i b of es' n cap
    by_cases hq : es' = es ∧ base ≤ b
    · rw [if_pos hq] at h3
      obtain ⟨rfl, hb⟩ := hq
      obtain ⟨c, hc, h⟩ := Option.bind_eq_some_iff.1 h3
      clear h3
      by_cases hle : of + n * es' ≤ c.2.length
      · rw [if_pos hle] at h; cases h
        have hmin : Nat.min y.1 n * es' ≤ n * es' := Nat.mul_le_mul_right _ (Nat.min_le_right _ _)
        have hmin2 : Nat.min y.1 n * es' ≤ y.1 * es' := Nat.mul_le_mul_right _ (Nat.min_le_left _ _)
        have hf := u5 (Nat.min y.1 n) (Nat.min_le_left _ _) w rfl
        cases hd with
        | sc h => simp [Am.sc] at h
        | sl hβ k1 k2 k3 k4 =>
          rename_i B s N cap' off
          by_cases hn : n = 0
          · subst hn
            have h0 : Nat.min y.1 0 = 0 := Nat.min_zero _
            rw [h0, Nat.zero_mul, List.take_zero] at hf
            have hw := write_own (P := P) hs hnb (T := c.1) (cs := c.2) (o := of) (vs := []) (us := []) hb (hget_some hc) hβ (by simp; omega) (.nil β) (by simp)
            refine ⟨goInt 0, w, β, ?_, ?_, ?_⟩
            · simp [Builtin.copy_, ht, run_und (elem_und he), run_size hes, u4, hf, storeCells]
            · rw [h0]; exact .sc rfl
            · rw [h0, Nat.zero_mul, List.take_zero]
              exact hw.2
          · have := k3 (by omega)
            subst this
            have hl : ((y.2.take (Nat.min y.1 n * es'))).length = Nat.min y.1 n * es' := by rw [List.length_take, u3]; omega
            obtain ⟨w1, w2⟩ := write_own (P := P) hs hnb (T := c.1) (cs := c.2) (o := of) hb (hget_some hc) hβ (by rw [hl]; omega) (u1.take (Nat.min y.1 n * es')) (fun v hv => u2 v (List.mem_of_mem_take hv))
            refine ⟨goInt (Nat.min y.1 n), _, β, ?_, .sc rfl, w2⟩
            simp only [Nat.min_def] at hf w1 ⊢
            simp [Builtin.copy_, ht, run_und (elem_und he), run_size hes, u4, Nat.min_def, hf, w1]
      · rw [if_neg hle] at h; cases h
    · rw [if_neg hq] at h3; cases h3
  · cases h3

theorem clear_does (hs : Sim nf β H w) (hnb : nf ≤ base) {ts : Array TypeId} {ty t : TypeId} {d d' : Value} (ht : ts[0]? = some t) (hd : VR β d d') (h : clearA P base H t d = some H') :
    ∃ w', (Builtin.clear_ ts ty #[d']).run P w = .ok (.tuple #[]) w' ∧ Post nf base β H w β H' w' := by
  unfold clearA at h
  split at h
  · obtain ⟨e, he, rfl⟩ := Option.map_eq_some_iff.1 h
    have hsz' : d' = .slice none 0 0 := by
      cases hd with
      | sc h => simp [Am.sc] at h
      | snil => rfl
    subst hsz'
    refine ⟨w, ?_, .refl hs⟩
    simp [Builtin.clear_, ht, run_und (elem_und he)]
  · rename_i b of es n cap
    obtain ⟨e, he, h1⟩ := Option.bind_eq_some_iff.1 h
    obtain ⟨z, hz, h2⟩ := Option.bind_eq_some_iff.1 h1
    clear h h1
    by_cases hq : tySize P e = some es ∧ z.cells.size = es ∧ isC z = true ∧ 0 < es
    · rw [if_pos hq] at h2
      obtain ⟨q1, q2, q3, q4⟩ := hq
      cases hd with
      | sc h => simp [Am.sc] at h
      | sl hβ k1 k2 k3 k4 =>
        rename_i B s N cap' off
        by_cases hn : n = 0
        · rw [if_pos hn] at h2; cases h2
          subst hn
          exact ⟨w, by simp [Builtin.clear_, ht, run_und (elem_und he)], .refl hs⟩
        · rw [if_neg hn] at h2
          by_cases hb : base ≤ b
          · rw [if_pos hb] at h2
            obtain ⟨c, hc, h⟩ := Option.bind_eq_some_iff.1 h2
            clear h2
            by_cases hle : of + n * es ≤ c.2.length
            · rw [if_pos hle] at h; cases h
              have := k3 (by omega)
              subst this
              obtain ⟨g1, g2⟩ := isC_cells (β := β) q3
              have hrep := rep_rel n g1 g2
              have hzl : (Builtin.zeroCells z.cells n).toList = (List.replicate n z.cells.toList).flatten := zeros_list z.cells (by omega) n
              obtain ⟨w1, w2⟩ := write_own (P := P) hs hnb (T := c.1) (cs := c.2) (o := of) hb (hget_some hc) hβ (by rw [← hzl, Array.length_toList, zero_len, q2]; exact hle) hrep.1 hrep.2
              refine ⟨_, ?_, w2⟩
              obtain ⟨m, rfl⟩ : ∃ m, n = m + 1 := ⟨n - 1, by omega⟩
              simp [Builtin.clear_, ht, run_und (elem_und he), run_zero hz, w1, hzl]
            · rw [if_neg hle] at h; cases h
          · rw [if_neg hb] at h2; cases h2
    · rw [if_neg hq] at h2; cases h2
  · cases h

theorem bytes_list : ∀ (cs : List Value) (bs : List UInt8), bytesA cs = some bs → ∃ ns : List Int, cs = ns.map (Value.int .u8) ∧ ∀ r : ByteArray, ns.foldl (fun r n => r.push (UInt8.ofNat n.toNat)) r = ⟨r.data ++ bs.toArray⟩ := by
  intro cs
  induction cs with
  | nil => intro bs h; simp only [bytesA, Option.some.injEq] at h; subst h; exact ⟨[], rfl, fun r => by simp⟩
  | cons v cs ih =>
    intro bs h
    unfold bytesA at h
    split at h
    · cases ‹v :: cs = []›
    · rename_i n r heq
      cases heq
      obtain ⟨b, hb, rfl⟩ := Option.map_eq_some_iff.1 h
      obtain ⟨ns, e1, e2⟩ := ih b hb
      refine ⟨n :: ns, by rw [e1]; rfl, fun r => ?_⟩
      rw [List.foldl_cons, e2]
      simp [ByteArray.push]
    · cases h

theorem bytesToString_does (hs : Sim nf β H w) {src dst e : TypeId} {x x' : Value} {y : Nat × List Value} {bs : List UInt8} (hsl : ∃ a n c, x = .slice a n c) (hX : VR β x x') (he : P.underlying src = some (.slice e)) (he8 : P.underlying e = some (.int .u8)) (hd : P.underlying dst = some .string)
    (hy : cellsA H 1 x = some y) (hb : bytesA y.2 = some bs) : (convert src dst x').run P w = .ok (.string ⟨bs.toArray⟩) w := by
  obtain ⟨us, u1, u2, u3, u4, u5⟩ := cells_run (P := P) hs hX hy
  obtain ⟨ns, e1, e2⟩ := bytes_list _ _ hb
  have hsc : y.2.all Am.sc = true := by rw [e1]; simp [Am.sc]
  obtain rfl := u1.of_sc hsc
  have hf := u5 y.1 (Nat.le_refl _) w rfl
  rw [List.take_of_length_le (by omega)] at hf
  obtain ⟨a0, n0, c0, rfl⟩ := hsl
  obtain ⟨a', c', rfl⟩ : ∃ a' c', x' = .slice a' n0 c' := by
    cases hX with
    | sc h => simp [Am.sc] at h
    | snil => exact ⟨_, _, rfl⟩
    | semp => exact ⟨_, _, rfl⟩
    | sl => exact ⟨_, _, rfl⟩
  have hn : y.1 = n0 := by have := u4 w; simp [Builtin.lenOf] at this; exact this.symm
  rw [run_convert_bytes_string w src dst e a' n0 c' he he8 hd]
  cases a' with
  | none =>
    simp only [Builtin.firstCells, Sem.run_pure, Result.ok.injEq, and_true] at hf
    have : y.2 = [] := by have := congrArg Array.toList hf; simpa using this.symm
    rw [this] at hb
    cases hb
    rfl
  | some a' =>
    have hl : (loadCells a' n0).run P w = .ok (ns.map (Value.int .u8)).toArray w := by
      have := hf
      simp only [Builtin.firstCells, Nat.mul_one, hn] at this
      rw [this, e1]
    rw [run_bytesToString w a' n0 c' ns hl, e2]
    simp

theorem stringToBytes_does (hs : Sim nf β H w) {src dst e : TypeId} {s : ByteArray} (h1 : P.underlying src = some .string) (hd : P.underlying dst = some (.slice e)) (he : P.underlying e = some (.int .u8)) (hsz : s.size < 2 ^ 62) :
    ∃ v' w' β', (convert src dst (.string s)).run P w = .ok v' w' ∧ VR β' (.slice (some ⟨H.length, 0, some 1⟩) s.size s.size) v' ∧ Post nf base β H w β' (H ++ [some (e, byteCellsA s)]) w' := by
  have hrun := run_bytes_of_string (P := P) w src dst e s h1 hd he
  have hcap : s.size ≤ grownCap w s.size 0 e := by unfold grownCap; simp only [Question.cut]; omega
  have hsize : (bytesRow s (grownCap w s.size 0 e)).size = grownCap w s.size 0 e := by
    simp [bytesRow]; show s.size + _ = _; omega
  generalize grownCap w s.size 0 e = c at *
  refine ⟨_, _, upd β H.length (w.heap.size, 0, c), hrun, .sl (s := 0) (upd_self _ _) (Nat.le_refl _) hcap (fun _ => rfl) (by omega), ?_⟩
  refine Post.newBlock (w' := w.drew.alloc _) hs e (byteCellsA s) w.heap.size c rfl (World.size_alloc _ _) rfl rfl rfl (fun k hk => RowKit.Below.heap_alloc w.drew _ k hk) (fun i hi => ?_) (by rw [byteCells_len]; exact hcap) (fun off ho => ?_) H rfl (fun _ => .inl rfl)
  · refine ⟨byteCells_cell s _ (by rw [List.getD_eq_getElem?_getD, List.getElem?_eq_getElem hi]; exact List.getElem_mem hi), (byteCellsA s).getD i undef, ?_, .sc (byteCells_sc s _ (by rw [List.getD_eq_getElem?_getD, List.getElem?_eq_getElem hi]; exact List.getElem_mem hi))⟩
    rw [show (⟨w.heap.size, i, none⟩ : Addr) = ⟨w.drew.heap.size, i, none⟩ from rfl, World.cell?_alloc_mark]
    rw [byteCells_len] at hi
    have hi' : i < s.data.size := hi
    rw [bytesRow_at s c i hi']
    simp only [byteCellsA, List.getD_eq_getElem?_getD, List.getElem?_map, Array.getElem?_toList]
    rw [Array.getElem?_eq_getElem hi']; rfl
  · rw [show (⟨w.heap.size, off, none⟩ : Addr) = ⟨w.drew.heap.size, off, none⟩ from rfl, World.cell?_alloc_mark, World.frozen?_alloc_mark, Array.getElem?_eq_getElem (by omega)]
    refine ⟨rfl, ?_⟩
    have : ¬ ((bytesRow s c).size ≤ off) := by omega
    simp [this]
end
end Go.Am

/- A small machine over lists in the place of the memory: each operation. No conditions. -/
namespace Go.Am
set_option linter.unusedSimpArgs false
set_option linter.unusedVariables false

theorem eqb_run {P : Program} {w : World} {t : TypeId} {a b : Bool} (he : P.underlying t = some .bool) : (Op.equal t (.bool a) (.bool b)).run P w = .ok (a == b) w := by
  show (Op.equalIn (9999 + 1) t (.bool a) (.bool b)).run P w = _
  rw [Op.equalIn.eq_def]
  simp only [Sem.run_bind, run_und he, Result.andThen_ok]
  rfl
theorem eqb_eql {P : Program} {w : World} {t : TypeId} {a b : Bool} {x y : Operand} (he : P.underlying t = some .bool) : (do eqGuard .eql t x y (.bool a) (.bool b); binOp .eql t (.bool a) (.bool b) : Sem Value).run P w = .ok (.bool (a == b)) w := by
  have h1 : (eqGuard .eql t x y (.bool a) (.bool b)).run P w = .ok () w := rfl
  simp only [Sem.run_bind, h1, Result.andThen_ok]
  show ((do pure (.bool (← Op.equal t (.bool a) (.bool b))) : Sem Value)).run P w = _
  simp only [Sem.run_bind, eqb_run he, Result.andThen_ok, Sem.run_pure]
theorem eqb_neq {P : Program} {w : World} {t : TypeId} {a b : Bool} {x y : Operand} (he : P.underlying t = some .bool) : (do eqGuard .neq t x y (.bool a) (.bool b); binOp .neq t (.bool a) (.bool b) : Sem Value).run P w = .ok (.bool (a != b)) w := by
  have h1 : (eqGuard .neq t x y (.bool a) (.bool b)).run P w = .ok () w := rfl
  simp only [Sem.run_bind, h1, Result.andThen_ok]
  show ((do pure (.bool (!(← Op.equal t (.bool a) (.bool b)))) : Sem Value)).run P w = _
  simp only [Sem.run_bind, eqb_run he, Result.andThen_ok, Sem.run_pure]
  rfl
theorem eqs_run {P : Program} {w : World} {t e : TypeId} {ad : Addr} {m c : Nat} (he : P.underlying t = some (.slice e)) : (Op.equal t (.slice (some ad) m c) (.slice none 0 0)).run P w = .ok false w := by
  show (Op.equalIn (9999 + 1) t (.slice (some ad) m c) (.slice none 0 0)).run P w = _
  rw [Op.equalIn.eq_def]
  simp only [Sem.run_bind, run_und he, Result.andThen_ok]
  rfl
theorem eqs_run0 {P : Program} {w : World} {t e : TypeId} (he : P.underlying t = some (.slice e)) : (Op.equal t (.slice none 0 0) (.slice none 0 0)).run P w = .ok true w := by
  show (Op.equalIn (9999 + 1) t (.slice none 0 0) (.slice none 0 0)).run P w = _
  rw [Op.equalIn.eq_def]
  simp only [Sem.run_bind, run_und he, Result.andThen_ok]
  rfl
theorem eqs_eql0 {P : Program} {w : World} {t e : TypeId} {x y : Operand} (he : P.underlying t = some (.slice e)) : (do eqGuard .eql t x y (.slice none 0 0) (.slice none 0 0); binOp .eql t (.slice none 0 0) (.slice none 0 0) : Sem Value).run P w = .ok (.bool true) w := by
  have h1 : (eqGuard .eql t x y (.slice none 0 0) (.slice none 0 0)).run P w = .ok () w := rfl
  simp only [Sem.run_bind, h1, Result.andThen_ok]
  show ((do pure (.bool (← Op.equal t (.slice none 0 0) (.slice none 0 0))) : Sem Value)).run P w = _
  simp only [Sem.run_bind, eqs_run0 he, Result.andThen_ok, Sem.run_pure]
theorem eqs_neq0 {P : Program} {w : World} {t e : TypeId} {x y : Operand} (he : P.underlying t = some (.slice e)) : (do eqGuard .neq t x y (.slice none 0 0) (.slice none 0 0); binOp .neq t (.slice none 0 0) (.slice none 0 0) : Sem Value).run P w = .ok (.bool false) w := by
  have h1 : (eqGuard .neq t x y (.slice none 0 0) (.slice none 0 0)).run P w = .ok () w := rfl
  simp only [Sem.run_bind, h1, Result.andThen_ok]
  show ((do pure (.bool (!(← Op.equal t (.slice none 0 0) (.slice none 0 0)))) : Sem Value)).run P w = _
  simp only [Sem.run_bind, eqs_run0 he, Result.andThen_ok, Sem.run_pure]
  rfl
theorem eqs_eql {P : Program} {w : World} {t e : TypeId} {ad : Addr} {m c : Nat} {x y : Operand} (he : P.underlying t = some (.slice e)) : (do eqGuard .eql t x y (.slice (some ad) m c) (.slice none 0 0); binOp .eql t (.slice (some ad) m c) (.slice none 0 0) : Sem Value).run P w = .ok (.bool false) w := by
  have h1 : (eqGuard .eql t x y (.slice (some ad) m c) (.slice none 0 0)).run P w = .ok () w := rfl
  simp only [Sem.run_bind, h1, Result.andThen_ok]
  show ((do pure (.bool (← Op.equal t (.slice (some ad) m c) (.slice none 0 0))) : Sem Value)).run P w = _
  simp only [Sem.run_bind, eqs_run he, Result.andThen_ok, Sem.run_pure]
theorem eqs_neq {P : Program} {w : World} {t e : TypeId} {ad : Addr} {m c : Nat} {x y : Operand} (he : P.underlying t = some (.slice e)) : (do eqGuard .neq t x y (.slice (some ad) m c) (.slice none 0 0); binOp .neq t (.slice (some ad) m c) (.slice none 0 0) : Sem Value).run P w = .ok (.bool true) w := by
  have h1 : (eqGuard .neq t x y (.slice (some ad) m c) (.slice none 0 0)).run P w = .ok () w := rfl
  simp only [Sem.run_bind, h1, Result.andThen_ok]
  show ((do pure (.bool (!(← Op.equal t (.slice (some ad) m c) (.slice none 0 0)))) : Sem Value)).run P w = _
  simp only [Sem.run_bind, eqs_run he, Result.andThen_ok, Sem.run_pure]
  rfl

/-- What the calls of the small machine come to in the real one. -/
def CallsOk (C : Cfg) (nf : Nat) (call : Nat → CallF) : Prop :=
  ∀ (base : Nat) (g : FuncId) (args : List Value) (H : Heap) (v : Value) (H' : Heap), nf ≤ base → base ≤ H.length → call base g args H = some (v, H') →
    (∃ fn, C.P.funcs[g]? = some fn ∧ (fn.name == "runtime.NumGoroutine") = false ∧ fn.body.isSome = true) ∧
    ∀ (β : Beta) (w : World) (args' : Array Value), Sim nf β H w → VRL β args args'.toList →
      Calls C.P g args' w fun e w' => ∃ v' β', e = .returned v' ∧ VR β' v v' ∧ Post nf base β H w β' H' w'

section
variable {C : Cfg} {P : Program} {nf base : Nat} {β : Beta} {H H' : Heap} {w : World} {a : Act} {o : Oper} {v : Value} {ρ : Env} {call : Nat → CallF} {dr : Bool}

theorem binI_run (op : BinOp) (k : IntKind) (x y : Int) {u : Value} (hsh : isSh op = false) (h : binI op k x y = some u) (t : TypeId) (p q : Operand) :
    (do eqGuard op t p q (.int k x) (.int k y); binOp op t (.int k x) (.int k y) : Sem Value).run P w = .ok u w ∧ Am.sc u = true := by
  cases op <;> simp only [binI, Option.some.injEq] at h <;> first
    | (cases h; done)
    | (simp [isSh] at hsh; done)
    | (subst h
       refine ⟨?_, rfl⟩
       simp [eqGuard, binOp, Op.intArith, Op.intBits, Op.intCmp])
    | (by_cases hy : y = 0
       · rw [if_pos hy] at h; cases h
       · rw [if_neg hy] at h
         simp only [Option.some.injEq] at h
         subst h
         refine ⟨?_, rfl⟩
         simp [eqGuard, binOp, Op.intDiv, hy])
theorem shI_run (op : BinOp) (k k' : IntKind) (x y : Int) {u : Value} (h : shI op k x y = some u) (t : TypeId) (p q : Operand) :
    (do eqGuard op t p q (.int k x) (.int k' y); binOp op t (.int k x) (.int k' y) : Sem Value).run P w = .ok u w ∧ Am.sc u = true := by
  unfold shI at h
  by_cases hy : y < 0
  · rw [if_pos hy] at h; cases h
  · rw [if_neg hy] at h
    cases op <;> simp only [Option.some.injEq] at h <;> first
      | (cases h; done)
      | (subst h
         refine ⟨?_, rfl⟩
         simp [eqGuard, binOp, Op.shift, hy])

theorem lists_rel {xs : List Operand} (hx : ∀ x ∈ xs, VR β (ev ρ x) (a.eval x)) : VRL β (xs.map (ev ρ)) (xs.map a.eval) := by
  induction xs with
  | nil => exact .nil β
  | cons x xs ih => exact .cons (hx x List.mem_cons_self) (ih fun y hy => hx y (List.mem_cons_of_mem _ hy))
theorem parts_rel : ∀ {ps : List (Nat × Operand)}, (∀ p ∈ ps, VR β (ev ρ p.2) (a.eval p.2)) → VRP β (ps.map fun p => (p.1, ev ρ p.2)) (ps.map fun p => (p.1, a.eval p.2)) := by
  intro ps h
  refine ⟨by simp, fun i h1 h2 => ?_⟩
  simp only [List.getElem_map]
  exact ⟨by first | rfl | trivial, h _ (List.getElem_mem _)⟩

theorem valH_some {x : Option Value} {r : Value × Heap} (h : valH H x = some r) : x = some r.1 ∧ r.2 = H := by
  cases x with
  | none => cases h
  | some u => cases h; exact ⟨rfl, rfl⟩

theorem call_does (hs : Sim nf β H w) (hc : CallsOk C nf call) (hnb : nf ≤ base) (hbl : base ≤ H.length) {c : Call} (ho : o.op = .call c) {f : Operand} (hf : c.callee = .value f) (hx : ∀ x ∈ c.args.toList, VR β (ev ρ x) (a.eval x)) (hfx : VR β (ev ρ f) (a.eval f))
    {r : Value × Heap} {st : Bool} (h : callA C call base dr H st (ev ρ f) (c.args.toList.map (ev ρ)) = some r) : Does C.P nf base β H w a o r.1 r.2 := by
  unfold callA at h
  split at h
  · rename_i g first caps heq
    by_cases hd : dr = true ∧ st = false ∧ C.wr g = true
    · rw [if_pos hd] at h; cases h
    · rw [if_neg hd] at h
      rw [heq] at hfx
      obtain ⟨first', caps', e1, e2, e3⟩ : ∃ first' caps', a.eval f = .func (.func g) first' caps' ∧ VRL β first.toList first'.toList ∧ VRL β caps.toList caps'.toList := by
        generalize a.eval f = u at hfx
        cases hfx with
        | sc h => simp [Am.sc] at h
        | fn h1 h2 h3 h4 => exact ⟨_, _, rfl, VRL.ofArray h1 h3, VRL.ofArray h2 h4⟩
      obtain ⟨⟨fn, k1, k2, k3⟩, k4⟩ := hc base g _ H r.1 r.2 hnb hbl h
      have hcall := k4 β w (first' ++ c.args.map a.eval ++ caps') hs (by
        simp only [Array.toList_append, Array.toList_map]
        exact (e2.append (lists_rel hx)).append e3)
      intro next Q hn
      unfold Oper.wp
      have hb : fn.body.isNone = false := by cases hh : fn.body <;> simp [hh] at k3 ⊢
      have hrun : (execOp a.eval o).run C.P w = .ok (.enter g (first' ++ c.args.map a.eval ++ caps')) w := by
        unfold execOp
        simp only [ho, resolve, hf, e1, Deferred.ofValue, invoke, callFunc, Sem.run_bind, Sem.run_pure, Result.andThen_ok, run_program, k1, k2, hb, Bool.false_eq_true, if_false]
      rw [hrun, Oper.upon_enter]
      refine hcall.mono fun e w' he => ?_
      obtain ⟨v', β', rfl, hv, hp⟩ := he
      exact hn _ _ _ hv hp
  · cases h

theorem u8_und {e : TypeId} (h : isU8 P e = true) : P.underlying e = some (.int .u8) := by
  unfold isU8 at h; split at h
  · assumption
  · cases h
theorem str_und {e : TypeId} (h : isStr P e = true) : P.underlying e = some .string := by
  unfold isStr at h; split at h
  · assumption
  · cases h
theorem notInt_und {u : TypeId} (h : notInt P u = true) : ∃ d, P.underlying u = some d ∧ (d matches .int _) = false := by
  unfold notInt at h; split at h
  · cases h
  · rename_i d hn hd
    refine ⟨d, hd, ?_⟩
    cases d <;> first | rfl | (exact (hn _ rfl).elim) | (exact absurd hd (hn _))
  · cases h
theorem two_rel {x y : Value} {q : Array Value} (h : VRL β [x, y] q.toList) : ∃ x' y', q = #[x', y'] ∧ VR β x x' ∧ VR β y y' := by
  obtain ⟨l⟩ := q
  match l, h with
  | [], h => exact absurd h.1 (by simp)
  | [_], h => exact absurd h.1 (by simp)
  | [x', y'], h => exact ⟨x', y', rfl, h.head, h.tail.head⟩
  | _ :: _ :: _ :: _, h => exact absurd h.1 (by simp)
theorem one_rel {x : Value} {q : Array Value} (h : VRL β [x] q.toList) : ∃ x', q = #[x'] ∧ VR β x x' := by
  obtain ⟨l⟩ := q
  match l, h with
  | [], h => exact absurd h.1 (by simp)
  | [x'], h => exact ⟨x', rfl, h.head⟩
  | _ :: _ :: _, h => exact absurd h.1 (by simp)

/-- An operation that touches no memory. -/
theorem evalOp_pure (hM : isM C o = false) (hx : ∀ x ∈ o.op.operands, VR β (ev ρ x) (a.eval x)) {r : Value × Heap} (h : evalOp C call base dr o ρ H = some r) (w : World) :
    ∃ v', (execOp a.eval o).run C.P w = .ok (.value v') w ∧ VR β r.1 v' ∧ r.2 = H := by
  have pv : ∀ {v v' : Value}, (execOp a.eval o).run C.P w = .ok (.value v') w → VR β v v' → ∃ v', (execOp a.eval o).run C.P w = .ok (.value v') w ∧ VR β v v' ∧ H = H := fun h1 h2 => ⟨_, h1, h2, rfl⟩
  have hground : ∀ r : Value × Heap, (∀ cs b, o.op ≠ .select cs b) → valH H (groundA C.P ρ o) = some r → ∃ v', (execOp a.eval o).run C.P w = .ok (.value v') w ∧ VR β r.1 v' ∧ r.2 = H := fun r hsel h => by
    obtain ⟨h1, h2⟩ := valH_some h
    obtain ⟨k1, k2⟩ := ground_run (w := w) hx hsel h1
    exact ⟨_, k1, k2, h2⟩
  unfold evalOp at h
  split at h
  case h_1 x ho =>
    cases h
    exact pv (by unfold execOp; simp only [ho]; rfl) (hx x (by simp [ho, Op.operands]))
  case h_2 x ho =>
    cases h
    exact pv (by unfold execOp; simp only [ho]; rfl) (hx x (by simp [ho, Op.operands]))
  case h_3 c x y ho =>
    split at h
    · rename_i t heq
      cases h
      have h1 := hx c (by simp [ho, Op.operands])
      rw [heq] at h1
      have h2 := h1.of_sc rfl
      refine pv (v' := if t then a.eval x else a.eval y) (by unfold execOp; simp only [ho, Sem.run_bind, h2, asBool, Sem.run_pure, Result.andThen_ok]) ?_
      cases t
      · exact hx y (by simp [ho, Op.operands])
      · exact hx x (by simp [ho, Op.operands])
    · cases h
  case h_4 t ho => simp [isM, ho] at hM
  case h_5 t x ho => simp [isM, ho] at hM
  case h_6 t parts ho =>
    obtain ⟨h, h'⟩ := valH_some h
    obtain ⟨u', k1, k2⟩ := build_does (P := C.P) (β := β) (w := w) (q := parts.map fun p => (p.1, a.eval p.2)) (by
      rw [Array.toList_map]
      refine parts_rel fun p hp => hx p.2 ?_
      simp only [ho, Op.operands, List.mem_toArray, List.mem_map]
      exact ⟨p, hp, rfl⟩) h
    rw [h']
    exact pv (by unfold execOp; simp only [ho]; exact run_v _ k1) k2
  case h_7 t len parts ho => simp [isM, ho] at hM
  case h_8 t x ho => simp [isM, ho] at hM
  case h_9 t p x ho => simp [isM, ho] at hM
  case h_10 x ho =>
    have hv := hx x (by simp [ho, Op.operands])
    split at h
    · rename_i ad heq
      cases h
      rw [heq] at hv
      generalize hu : a.eval x = u at hv
      cases hv with
      | sc h => simp [Am.sc] at h
      | ptr hβ => exact pv (by unfold execOp; simp only [ho, hu]; rfl) (.ptr hβ)
    · rename_i g f c heq
      cases h
      rw [heq] at hv
      generalize hu : a.eval x = u at hv
      cases hv with
      | sc h => simp [Am.sc] at h
      | fn h1 h2 h3 h4 => exact pv (by unfold execOp; simp only [ho, hu]; rfl) (.fn h1 h2 h3 h4)
    · cases h
  case h_11 op t x y u ho =>
    obtain ⟨hB, h'⟩ := valH_some h
    clear h
    have h := hB
    clear hB
    rw [h']
    have hvx := hx x (by simp [ho, Op.operands])
    have hvy := hx y (by simp [ho, Op.operands])
    unfold binA at h
    split at h
    · rename_i k p k' q hp hq
      rw [hp] at hvx
      rw [hq] at hvy
      have e1 := hvx.of_sc rfl
      have e2 := hvy.of_sc rfl
      by_cases hsh : isSh op = true
      · rw [if_pos hsh] at h
        obtain ⟨r1, r2⟩ := shI_run (P := C.P) (w := w) op k k' p q h t x y
        exact pv (by unfold execOp; simp only [ho, e1, e2]; exact run_v _ r1) (.sc r2)
      · rw [if_neg hsh] at h
        by_cases hk : k = k'
        · rw [if_pos hk] at h
          subst hk
          obtain ⟨r1, r2⟩ := binI_run (P := C.P) (w := w) op k p q (by simpa using hsh) h t x y
          exact pv (by unfold execOp; simp only [ho, e1, e2]; exact run_v _ r1) (.sc r2)
        · rw [if_neg hk] at h; cases h
    · rename_i ad m c hp
      rw [hp] at hvx
      generalize hu' : a.eval x = ux at hvx
      have hux : ∃ ad' m' c', ux = .slice (some ad') m' c' := by
        cases hvx with
        | sc h => simp [Am.sc] at h
        | sl => exact ⟨_, _, _, rfl⟩
      obtain ⟨ad', m', c', rfl⟩ := hux
      have hund : ∀ {t' : TypeId}, isSlT C.P t' = true → ∃ e, C.P.underlying t' = some (.slice e) := by
        intro t' hs
        unfold isSlT at hs
        split at hs
        · exact ⟨_, by assumption⟩
        · cases hs
      split at h
      · rename_i t2 x2 u2 ho2
        rw [ho] at ho2
        cases ho2
        split at h
        · rename_i hs
          obtain ⟨e, he⟩ := hund hs
          rw [← Option.some.inj h]
          exact pv (by unfold execOp; simp only [ho, hu']; exact run_v _ (eqs_eql he)) (.sc rfl)
        · cases h
      · rename_i t2 x2 u2 ho2
        rw [ho] at ho2
        cases ho2
        split at h
        · rename_i hs
          obtain ⟨e, he⟩ := hund hs
          rw [← Option.some.inj h]
          exact pv (by unfold execOp; simp only [ho, hu']; exact run_v _ (eqs_neq he)) (.sc rfl)
        · cases h
      · cases h
    · rename_i hp
      rw [hp] at hvx
      generalize hu' : a.eval x = ux at hvx
      obtain rfl : ux = .slice none 0 0 := by
        cases hvx with
        | sc h => simp [Am.sc] at h
        | snil => rfl
      have hund : ∀ {t' : TypeId}, isSlT C.P t' = true → ∃ e, C.P.underlying t' = some (.slice e) := by
        intro t' hs
        unfold isSlT at hs
        split at hs
        · exact ⟨_, by assumption⟩
        · cases hs
      split at h
      · rename_i t2 x2 u2 ho2
        rw [ho] at ho2
        cases ho2
        split at h
        · rename_i hs
          obtain ⟨e, he⟩ := hund hs
          rw [← Option.some.inj h]
          exact pv (by unfold execOp; simp only [ho, hu']; exact run_v _ (eqs_eql0 he)) (.sc rfl)
        · cases h
      · rename_i t2 x2 u2 ho2
        rw [ho] at ho2
        cases ho2
        split at h
        · rename_i hs
          obtain ⟨e, he⟩ := hund hs
          rw [← Option.some.inj h]
          exact pv (by unfold execOp; simp only [ho, hu']; exact run_v _ (eqs_neq0 he)) (.sc rfl)
        · cases h
      · cases h
    · rename_i p q hp hq
      rw [hp] at hvx
      rw [hq] at hvy
      have e1 := hvx.of_sc rfl
      have e2 := hvy.of_sc rfl
      have hund : ∀ {t' : TypeId}, isBoT C.P t' = true → C.P.underlying t' = some .bool := by
        intro t' hs
        unfold isBoT at hs
        split at hs
        · assumption
        · cases hs
      split at h
      · rename_i t2 x2 y2 u2 ho2
        rw [ho] at ho2
        cases ho2
        split at h
        · rename_i hs
          rw [← Option.some.inj h]
          exact pv (by unfold execOp; simp only [ho, e1, e2]; exact run_v _ (eqb_eql (hund hs))) (.sc rfl)
        · cases h
      · rename_i t2 x2 y2 u2 ho2
        rw [ho] at ho2
        cases ho2
        split at h
        · rename_i hs
          rw [← Option.some.inj h]
          exact pv (by unfold execOp; simp only [ho, e1, e2]; exact run_v _ (eqb_neq (hund hs))) (.sc rfl)
        · cases h
      · cases h
    · obtain ⟨r1, r2⟩ := ground_run (w := w) hx (fun cs b hh => by rw [ho] at hh; cases hh) h
      exact pv r1 r2
  case h_12 t x ho =>
    have hv := hx x (by simp [ho, Op.operands])
    split at h
    · rename_i b heq
      cases h
      rw [heq] at hv
      have e := hv.of_sc rfl
      exact pv (by unfold execOp; simp only [ho, e]; exact run_v _ rfl) (.sc rfl)
    · cases h
  case h_13 src dst x ho =>
    have hv := hx x (by simp [ho, Op.operands])
    have hsel : ∀ cs b, o.op ≠ .select cs b := fun cs b hh => by rw [ho] at hh; cases hh
    simp only [isM, ho, Bool.or_eq_false_iff, Option.isSome_eq_false_iff, Option.isNone_iff_eq_none] at hM
    unfold convA at h
    split at h
    · rw [hM.1] at h; cases h
    · rename_i s heq
      by_cases hq : isStr C.P src = true
      · rw [if_pos hq, hM.2] at h
        exact hground _ hsel h
      · rw [if_neg hq] at h; cases h
    · exact hground _ hsel h
  case h_14 fn first caps ho =>
    cases h
    refine pv (v' := .func fn (first.map a.eval) (caps.map a.eval)) (by unfold execOp; simp only [ho]; exact run_v _ rfl) ?_
    have h1 := lists_rel (xs := first.toList) fun x hm => hx x (by simp only [ho, Op.operands, Array.mem_append]; exact .inl (by simpa using hm))
    have h2 := lists_rel (xs := caps.toList) fun x hm => hx x (by simp only [ho, Op.operands, Array.mem_append]; exact .inr (by simpa using hm))
    rw [← Array.toList_map, ← Array.toList_map] at h1 h2
    exact .fn (by simp) (by simp) (fun i => by simpa [List.getD_eq_getElem?_getD, Array.getD_eq_getD_getElem?] using h1.2 i) (fun i => by simpa [List.getD_eq_getElem?_getD, Array.getD_eq_getD_getElem?] using h2.2 i)
  case h_15 t l c ho => simp [isM, ho] at hM
  case h_16 t x lo hi mx ho =>
    have hv := hx x (by simp [ho, Op.operands])
    split at h
    · exact hground _ (fun cs b hh => by rw [ho] at hh; cases hh) h
    · obtain ⟨h, h'⟩ := valH_some h
      have hopt : ∀ (q : Option Operand), (∀ y, q = some y → y ∈ o.op.operands) → (∀ z, q.map (ev ρ) = some z → ∃ z', q.map a.eval = some z' ∧ VR β z z') ∧ (q.map (ev ρ) = none → q.map a.eval = none) := by
        intro q hq
        cases q with
        | none => exact ⟨fun z hz => (by cases hz), fun _ => rfl⟩
        | some y => exact ⟨fun z hz => (by cases hz; exact ⟨_, rfl, hx y (hq y rfl)⟩), fun hz => (by cases hz)⟩
      obtain ⟨l1, l2⟩ := hopt lo (fun y hy => by simp [ho, Op.operands, hy])
      obtain ⟨h1, h2⟩ := hopt hi (fun y hy => by simp [ho, Op.operands, hy])
      obtain ⟨m1, m2⟩ := hopt mx (fun y hy => by simp [ho, Op.operands, hy])
      obtain ⟨u', k1, k2⟩ := slice_does (P := C.P) (w := w) hv l1 l2 h1 h2 m1 m2 h
      rw [h']
      exact pv (by unfold execOp; simp only [ho]; exact run_v _ k1) k2
  case h_17 s x f ho =>
    obtain ⟨h, h'⟩ := valH_some h
    obtain ⟨u', k1, k2⟩ := fieldAddr_does (P := C.P) (w := w) (hx x (by simp [ho, Op.operands])) h
    rw [h']
    exact pv (by unfold execOp; simp only [ho]; exact run_v _ k1) k2
  case h_18 t x i ho =>
    obtain ⟨h, h'⟩ := valH_some h
    obtain ⟨u', k1, k2⟩ := indexAddr_does (P := C.P) (w := w) (hx x (by simp [ho, Op.operands])) (hx i (by simp [ho, Op.operands])) h
    rw [h']
    exact pv (by unfold execOp; simp only [ho]; exact run_v _ k1) k2
  case h_19 t x f ho =>
    obtain ⟨h, h'⟩ := valH_some h
    obtain ⟨u', k1, k2⟩ := field_does (P := C.P) (w := w) (hx x (by simp [ho, Op.operands])) h
    rw [h']
    exact pv (by unfold execOp; simp only [ho]; exact run_v _ k1) k2
  case h_20 x i ho =>
    have hv := hx x (by simp [ho, Op.operands])
    split at h
    · rename_i vs heq
      obtain ⟨h, h'⟩ := valH_some h
      rw [h']
      rw [heq] at hv
      obtain ⟨hi, hi2⟩ := Array.getElem?_eq_some_iff.1 h
      generalize hu : a.eval x = u at hv
      cases hv with
      | any u => simp at hi
      | sc h => simp [Am.sc] at h
      | tup h1 h3 =>
        rename_i ys
        have h4 := h3 i
        simp only [Array.getD_eq_getD_getElem?, Array.getElem?_eq_getElem hi, Array.getElem?_eq_getElem (show i < ys.size by omega), Option.getD_some] at h4
        rw [hi2] at h4
        exact pv (v' := ys[i]) (by unfold execOp; simp only [ho, hu]; exact run_v _ (by simp [Instr.extract, Array.getElem?_eq_getElem (show i < ys.size by omega)])) h4
    · cases h
  case h_21 ho => exact hground _ (fun cs b hh => by rw [ho] at hh; cases hh) h
  case h_22 ho => exact hground _ (fun cs b hh => by rw [ho] at hh; cases hh) h
  case h_23 c ho =>
    have hargs : ∀ x ∈ c.args.toList, VR β (ev ρ x) (a.eval x) := fun x hm => hx x (by simp only [ho, Op.operands, Call.operands, Array.mem_append]; exact .inr (by simpa using hm))
    split at h
    · rename_i b hb
      have hsel : ∀ cs b, o.op ≠ .select cs b := fun cs b hh => by rw [ho] at hh; cases hh
      have hrun : ∀ (s : Sem Value) (v' : Value) (w' : World), s.run C.P w = .ok v' w' → builtin b c.argTypes o.type (c.args.map fun | .const _ => true | _ => false) (c.args.map a.eval) = (do pure (.value (← s))) → (execOp a.eval o).run C.P w = .ok (.value v') w' := by
        intro s v' w' h1 h2
        unfold execOp
        simp only [ho, resolve, hb, invoke, Sem.run_bind, Sem.run_pure, Result.andThen_ok]
        exact Eq.trans (congrArg (fun s : Sem Next => s.run C.P w) h2) (run_v _ h1)
      have hl := lists_rel hargs
      have hm : (c.args.map a.eval).toList = c.args.toList.map a.eval := Array.toList_map
      generalize hA : c.args.toList.map (ev ρ) = A at h hl
      rw [← hm] at hl
      unfold builtinA at h
      split at h
      · simp [isM, ho, hb] at hM
      · simp [isM, ho, hb] at hM
      · simp [isM, ho, hb] at hM
      · rename_i ad n cp
        obtain ⟨t, ht, h1⟩ := Option.bind_eq_some_iff.1 h
        by_cases hq : (tyElem C.P t).isSome = true
        · rw [if_pos hq] at h1; cases h1
          obtain ⟨s', e, r1⟩ := one_rel hl
          obtain ⟨el, hel⟩ := Option.isSome_iff_exists.1 hq
          obtain ⟨a', c', rfl⟩ : ∃ a' c', s' = .slice a' n c' := by
            cases r1 with
            | sc h => simp [Am.sc] at h
            | snil => exact ⟨_, _, rfl⟩
            | semp => exact ⟨_, _, rfl⟩
            | sl => exact ⟨_, _, rfl⟩
          have k1 : (Builtin.len_ c.argTypes o.type (c.args.map a.eval)).run C.P w = .ok (goInt n) w := by
            rw [e]; simp [Builtin.len_, ht, run_und (elem_und hel)]
          exact pv (hrun _ _ _ k1 rfl) (.sc rfl)
        · rw [if_neg hq] at h1; cases h1
      · exact hground _ hsel h
    · rename_i f hf
      simp [isM, ho, hf] at hM
    · cases h
  case h_24 => cases h

theorem pure_does (hs : Sim nf β H w) (hx : ∀ x ∈ o.op.operands, VR β (ev ρ x) (a.eval x)) (hM : isM C o = false) {r : Value × Heap} (h : evalOp C call base dr o ρ H = some r) : Does C.P nf base β H w a o r.1 r.2 := by
  obtain ⟨v', h1, h2, h3⟩ := evalOp_pure hM hx h w
  rw [h3]
  exact does_same hs h1 h2

theorem evalOp_does (hc : CallsOk C nf call) (hs : Sim nf β H w) (hnb : nf ≤ base) (hbl : base ≤ H.length) (hx : ∀ x ∈ o.op.operands, VR β (ev ρ x) (a.eval x)) {r : Value × Heap} (h : evalOp C call base dr o ρ H = some r) :
    Does C.P nf base β H w a o r.1 r.2 := by
  have hground : ∀ r : Value × Heap, (∀ cs b, o.op ≠ .select cs b) → valH H (groundA C.P ρ o) = some r → Does C.P nf base β H w a o r.1 r.2 := fun r hsel h => ground_does hs hx hsel h
  have h0 := h
  unfold evalOp at h
  split at h
  case h_1 x ho =>
    exact (by
      first
        | exact pure_does hs hx (by simp [isM, ho]) h0)
  case h_2 x ho =>
    exact (by
      first
        | exact pure_does hs hx (by simp [isM, ho]) h0)
  case h_3 c x y ho =>
    exact (by
      first
        | exact pure_does hs hx (by simp [isM, ho]) h0)
  case h_4 t ho =>
    obtain ⟨z, hz, h⟩ := Option.bind_eq_some_iff.1 h
    by_cases hq : isC z = true
    · rw [if_pos hq] at h; cases h
      obtain ⟨v', w', β', k1, k2, k3⟩ := alloc_does (P := C.P) (base := base) hs hz hq
      exact does_value (by unfold execOp; simp only [ho]; exact run_v _ k1) k2 k3
    · rw [if_neg hq] at h; cases h
  case h_5 t x ho =>
    by_cases hq : (ev ρ x).cells.toList.all isCell = true
    · rw [if_pos hq] at h; cases h
      obtain ⟨v', w', β', k1, k2, k3⟩ := box_does (P := C.P) (base := base) hs (t := t) (hx x (by simp [ho, Op.operands])) hq
      exact does_value (by unfold execOp; simp only [ho]; exact run_v _ k1) k2 k3
    · rw [if_neg hq] at h; cases h
  case h_6 t parts ho =>
    exact (by
      first
        | exact pure_does hs hx (by simp [isM, ho]) h0)
  case h_7 t len parts ho =>
    obtain ⟨v', w', β', k1, k2, k3⟩ := buildSlice_does (P := C.P) (base := base) hs (q := parts.map fun p => (p.1, a.eval p.2)) (by
      rw [Array.toList_map]
      refine parts_rel fun p hp => hx p.2 ?_
      simp only [ho, Op.operands, List.mem_toArray, List.mem_map]
      exact ⟨p, hp, rfl⟩) h
    exact does_value (by unfold execOp; simp only [ho]; exact run_v _ k1) k2 k3
  case h_8 t x ho =>
    obtain ⟨h, h'⟩ := valH_some h
    obtain ⟨u', k1, k2⟩ := load_does (P := C.P) hs (hx x (by simp [ho, Op.operands])) h
    rw [h']
    exact does_same hs (by unfold execOp; simp only [ho]; exact run_v _ k1) k2
  case h_9 t p x ho =>
    obtain ⟨H1, h1, rfl⟩ := Option.map_eq_some_iff.1 h
    obtain ⟨w', k1, k2⟩ := store_does (P := C.P) hs hnb (hx p (by simp [ho, Op.operands])) (hx x (by simp [ho, Op.operands])) h1
    exact does_skip (by unfold execOp; simp only [ho]; exact run_u _ k1) k2
  case h_10 x ho =>
    exact (by
      first
        | exact pure_does hs hx (by simp [isM, ho]) h0)
  case h_11 op t x y u ho =>
    exact (by
      first
        | exact pure_does hs hx (by simp [isM, ho]) h0)
  case h_12 t x ho =>
    exact (by
      first
        | exact pure_does hs hx (by simp [isM, ho]) h0)
  case h_13 src dst x ho =>
    have hv := hx x (by simp [ho, Op.operands])
    have hsel : ∀ cs b, o.op ≠ .select cs b := fun cs b hh => by rw [ho] at hh; cases hh
    unfold convA at h
    split at h
    · rename_i ad n c heq
      obtain ⟨e, he, h1⟩ := Option.bind_eq_some_iff.1 h
      clear h
      by_cases hq : isU8 C.P e = true ∧ isStr C.P dst = true
      · rw [if_pos hq] at h1
        obtain ⟨y, hy, h2⟩ := Option.bind_eq_some_iff.1 h1
        obtain ⟨bs, hb, rfl⟩ := Option.map_eq_some_iff.1 h2
        rw [heq] at hv
        have := bytesToString_does (P := C.P) hs ⟨_, _, _, rfl⟩ hv (elem_und he) (u8_und hq.1) (str_und hq.2) hy hb
        exact does_same hs (by unfold execOp; simp only [ho]; exact run_v _ this) (.sc rfl)
      · rw [if_neg hq] at h1; cases h1
    · rename_i s heq
      by_cases hq : isStr C.P src = true
      · rw [if_pos hq] at h
        rw [heq] at hv
        have e1 := hv.of_sc rfl
        split at h
        · rename_i e he
          by_cases hq2 : isU8 C.P e = true ∧ s.size < 2 ^ 62
          · rw [if_pos hq2] at h; cases h
            obtain ⟨v', w', β', k1, k2, k3⟩ := stringToBytes_does (P := C.P) (base := base) hs (str_und hq) (elem_und he) (u8_und hq2.1) hq2.2
            exact does_value (by unfold execOp; simp only [ho, e1]; exact run_v _ k1) k2 k3
          · rw [if_neg hq2] at h; cases h
        · exact hground _ hsel h
      · rw [if_neg hq] at h; cases h
    · exact hground _ hsel h
  case h_14 fn first caps ho =>
    exact (by
      first
        | exact pure_does hs hx (by simp [isM, ho]) h0)
  case h_15 t l c ho =>
    obtain ⟨v', w', β', k1, k2, k3⟩ := make_does (P := C.P) (base := base) hs (hx l (by simp [ho, Op.operands])) (hx c (by simp [ho, Op.operands])) h
    exact does_value (by unfold execOp; simp only [ho]; exact run_v _ k1) k2 k3
  case h_16 t x lo hi mx ho =>
    exact (by
      first
        | exact pure_does hs hx (by simp [isM, ho]) h0)
  case h_17 s x f ho =>
    exact (by
      first
        | exact pure_does hs hx (by simp [isM, ho]) h0)
  case h_18 t x i ho =>
    exact (by
      first
        | exact pure_does hs hx (by simp [isM, ho]) h0)
  case h_19 t x f ho =>
    exact (by
      first
        | exact pure_does hs hx (by simp [isM, ho]) h0)
  case h_20 x i ho =>
    exact (by
      first
        | exact pure_does hs hx (by simp [isM, ho]) h0)
  case h_21 ho =>
    exact (by
      first
        | exact pure_does hs hx (by simp [isM, ho]) h0)
  case h_22 ho =>
    exact (by
      first
        | exact pure_does hs hx (by simp [isM, ho]) h0)
  case h_23 c ho =>
    have hargs : ∀ x ∈ c.args.toList, VR β (ev ρ x) (a.eval x) := fun x hm => hx x (by simp only [ho, Op.operands, Call.operands, Array.mem_append]; exact .inr (by simpa using hm))
    split at h
    · rename_i b hb
      have hsel : ∀ cs b, o.op ≠ .select cs b := fun cs b hh => by rw [ho] at hh; cases hh
      have hrun : ∀ (s : Sem Value) (v' : Value) (w' : World), s.run C.P w = .ok v' w' → builtin b c.argTypes o.type (c.args.map fun | .const _ => true | _ => false) (c.args.map a.eval) = (do pure (.value (← s))) → (execOp a.eval o).run C.P w = .ok (.value v') w' := by
        intro s v' w' h1 h2
        unfold execOp
        simp only [ho, resolve, hb, invoke, Sem.run_bind, Sem.run_pure, Result.andThen_ok]
        exact Eq.trans (congrArg (fun s : Sem Next => s.run C.P w) h2) (run_v _ h1)
      have hl := lists_rel hargs
      have hm : (c.args.map a.eval).toList = c.args.toList.map a.eval := Array.toList_map
      generalize hA : c.args.toList.map (ev ρ) = A at h hl
      rw [← hm] at hl
      unfold builtinA at h
      split at h
      · rename_i s x
        obtain ⟨t, ht, h1⟩ := Option.bind_eq_some_iff.1 h
        obtain ⟨u, hu, h2⟩ := Option.bind_eq_some_iff.1 h1
        clear h h1
        by_cases hq : notInt C.P u = true
        · rw [if_pos hq] at h2
          obtain ⟨s', x', e, r1, r2⟩ := two_rel hl
          obtain ⟨v', w', β', k1, k2, k3⟩ := append_does (P := C.P) (base := base) (ty := o.type) hs hnb ht hu (notInt_und hq) r1 r2 h2
          rw [← e] at k1
          exact does_value (hrun _ _ _ k1 rfl) k2 k3
        · rw [if_neg hq] at h2; cases h2
      · rename_i s x
        obtain ⟨t, ht, h1⟩ := Option.bind_eq_some_iff.1 h
        obtain ⟨s', x', e, r1, r2⟩ := two_rel hl
        obtain ⟨v', w', β', k1, k2, k3⟩ := copy_does (P := C.P) (base := base) (ty := o.type) hs hnb ht r1 r2 h1
        rw [← e] at k1
        exact does_value (hrun _ _ _ k1 rfl) k2 k3
      · rename_i s
        obtain ⟨t, ht, h1⟩ := Option.bind_eq_some_iff.1 h
        obtain ⟨H1, h2, rfl⟩ := Option.map_eq_some_iff.1 h1
        obtain ⟨s', e, r1⟩ := one_rel hl
        obtain ⟨w', k1, k3⟩ := clear_does (P := C.P) (base := base) (ty := o.type) hs hnb ht r1 h2
        rw [← e] at k1
        exact does_value (hrun _ _ _ k1 rfl) (.any _) k3
      · rename_i ad n cp
        obtain ⟨t, ht, h1⟩ := Option.bind_eq_some_iff.1 h
        by_cases hq : (tyElem C.P t).isSome = true
        · rw [if_pos hq] at h1; cases h1
          obtain ⟨s', e, r1⟩ := one_rel hl
          obtain ⟨el, hel⟩ := Option.isSome_iff_exists.1 hq
          obtain ⟨a', c', rfl⟩ : ∃ a' c', s' = .slice a' n c' := by
            cases r1 with
            | sc h => simp [Am.sc] at h
            | snil => exact ⟨_, _, rfl⟩
            | semp => exact ⟨_, _, rfl⟩
            | sl => exact ⟨_, _, rfl⟩
          have k1 : (Builtin.len_ c.argTypes o.type (c.args.map a.eval)).run C.P w = .ok (goInt n) w := by
            rw [e]; simp [Builtin.len_, ht, run_und (elem_und hel)]
          exact does_same hs (hrun _ _ _ k1 rfl) (.sc rfl)
        · rw [if_neg hq] at h1; cases h1
      · exact hground _ hsel h
    · rename_i f hf
      by_cases he : extF C f = true
      · rw [if_pos he] at h
        exact hground _ (fun cs b hh => by rw [ho] at hh; cases hh) h
      · rw [if_neg he] at h
        exact call_does hs hc hnb hbl ho hf hargs (hx f (by simp [ho, Op.operands, Call.operands, hf])) h
    · cases h
  case h_24 => cases h

end
end Go.Am

