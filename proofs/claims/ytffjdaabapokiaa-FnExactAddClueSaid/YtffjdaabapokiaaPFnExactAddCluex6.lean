/- Printed by a program of this session (wip/pp) over the kit's print, for FnExactAddClue. No conditions beyond those that each theorem names. -/
import Derived.Test.YtffjdaabapokiaaPFnExactAddCluex0
import Derived.Test.YtffjdaabapokiaaPFnExactAddCluex1
import Derived.Test.YtffjdaabapokiaaPFnExactAddCluex2
import Derived.Test.YtffjdaabapokiaaPFnExactAddCluex4
import Derived.Test.YtffjdaabapokiaaPFnExactAddCluex5
namespace Go.Proofs.Ytffjdaabapokiaa.PFnExactAddClue
open Go.RowKit Go.Proofs.YtffjdaabapokiaaW.PrintWords Go.Proofs.YtffjdaabapokiaaW.PrintLast Go.Proofs.YtffjdaabapokiaaW.PrintMore
attribute [local go_sem] max2_int min2_int max_two min_two max_three min_three max_four min_four   -- for this text's walks alone
set_option linter.unusedVariables false
set_option linter.unusedSimpArgs false

/-! ### laws_FnExactAddClue: function 4 -/
mutual
def laws_FnExactAddClue.j0 : Nat → Bool → Bool → Bool → Int → Int → List (S34) → Int → Int → Int → Int → Int → Int → List (S37) → Int → Int → List (S37) → Int → Int → List (S37) → Option (Bool)
|0,_,_,_,_,_,_,_,_,_,_,_,_,_,_,_,_,_,_,_=>none
|k + 1,x7,x10,x46,x192000,x192001,x192002,x193000,x193001,x193002,x193003,x210000,x210001,x210002,x216000,x216001,x216002,x227000,x227001,x227002=>if x46 = true then (some false) else ((laws_toPuzzle.f k x192000 x192001 x192002).bind fun bt228=>((laws_eqPuzzle.f k x216000 x216001 x216002 bt228.1 bt228.2.1 bt228.2.2).bind fun t233=>(if t233 = true then ((laws_markPuzzle.f k x216000 x216001 x216002 1).bind fun bt234=>(if bt234.1 < 0 then (laws_FnExactAddClue.j1 k x7 true x192000 x192001 x192002 x193000 x193001 x193002 x193003 x210000 x210001 x210002 x227000 x227001 x227002) else ((laws_eqPuzzle.f k x227000 x227001 x227002 x210000 x210001 x210002).bind fun t236=>(if t236 = true then (laws_FnExactAddClue.j1 k x7 (x10 != x7) x192000 x192001 x192002 x193000 x193001 x193002 x193003 x210000 x210001 x210002 x227000 x227001 x227002) else (laws_FnExactAddClue.j1 k x7 true x192000 x192001 x192002 x193000 x193001 x193002 x193003 x210000 x210001 x210002 x227000 x227001 x227002))))) else (some false))))
def laws_FnExactAddClue.j1 : Nat → Bool → Bool → Int → Int → List (S34) → Int → Int → Int → Int → Int → Int → List (S37) → Int → Int → List (S37) → Option (Bool)
|0,_,_,_,_,_,_,_,_,_,_,_,_,_,_,_=>none
|k + 1,x7,x67,x192000,x192001,x192002,x193000,x193001,x193002,x193003,x210000,x210001,x210002,x227000,x227001,x227002=>if x67 = true then (some false) else ((laws_markPuzzle.f k x227000 x227001 x227002 1).bind fun bt237=>((laws_heldPuzzle.f k x227000 x227001 bt237.2 1).bind fun t239=>(if t239 < 0 then (some false) else (if t239 = bt237.1 then ((laws_toPuzzle.f k x192000 x192001 x192002).bind fun bt240=>((laws_toClue.f x193000 x193001 x193002 x193003).bind fun bt245=>((impl_AddClue.f k bt240.1 bt240.2.1 bt240.2.2 bt245.1 bt245.2.1 bt245.2.2.1 bt245.2.2.2).bind fun bt249=>((laws_eqPuzzle.f k bt249.1 bt249.2.1 bt249.2.2.1 x210000 x210001 x210002).bind fun t256=>(if t256 = true then (laws_FnExactAddClue.j2 k bt237.1 (bt249.2.2.2 != x7) x227000 x227001 bt237.2) else (laws_FnExactAddClue.j2 k bt237.1 true x227000 x227001 bt237.2)))))) else (some false)))))
def laws_FnExactAddClue.j2 : Nat → Int → Bool → Int → Int → List (S37) → Option (Bool)
|0,_,_,_,_,_=>none
|k + 1,x12,x95,x227000,x227001,x227002=>if x95 = true then (some false) else ((laws_heldPuzzle.f k x227000 x227001 x227002 1).bind fun t257=>(if t257 < 0 then (some false) else (if t257 = x12 then (some true) else (some false))))
end
def laws_FnExactAddClue.f (k : Nat) (a0_0 : Int) (a0_1 : Int) (l0_2 : List (S34)) (a1_0 : Int) (a1_1 : Int) (a1_2 : Int) (a1_3 : Int) : Option (Bool):=(laws_szPuzzle.f a0_0 a0_1 l0_2 1048576).bind fun t193=>(if t193 < 0 then (some true) else ((laws_toPuzzle.f k a0_0 a0_1 l0_2).bind fun bt194=>((laws_toClue.f a1_0 a1_1 a1_2 a1_3).bind fun bt199=>((spec_AddClue.f k bt194.1 bt194.2.1 bt194.2.2 bt199.1 bt199.2.1 bt199.2.2.1 bt199.2.2.2).bind fun bt203=>((laws_toPuzzle.f k a0_0 a0_1 l0_2).bind fun bt210=>((laws_toClue.f a1_0 a1_1 a1_2 a1_3).bind fun bt216=>((impl_AddClue.f k bt210.1 bt210.2.1 bt210.2.2 bt216.1 bt216.2.1 bt216.2.2.1 bt216.2.2.2).bind fun bt220=>((laws_eqPuzzle.f k bt220.1 bt220.2.1 bt220.2.2.1 bt203.1 bt203.2.1 bt203.2.2.1).bind fun t227=>(if t227 = true then (laws_FnExactAddClue.j0 k bt203.2.2.2 bt220.2.2.2 (bt220.2.2.2 != bt203.2.2.2) a0_0 a0_1 l0_2 a1_0 a1_1 a1_2 a1_3 bt203.1 bt203.2.1 bt203.2.2.1 bt210.1 bt210.2.1 bt210.2.2 bt220.1 bt220.2.1 bt220.2.2.1) else (laws_FnExactAddClue.j0 k bt203.2.2.2 bt220.2.2.2 true a0_0 a0_1 l0_2 a1_0 a1_1 a1_2 a1_3 bt203.1 bt203.2.1 bt203.2.2.1 bt210.1 bt210.2.1 bt210.2.2 bt220.1 bt220.2.1 bt220.2.2.1))))))))))
theorem laws_FnExactAddClue.mono_l : ∀ k,(∀ y0 y1 y2 y3 y4 y5 y6 y7 y8 y9 y10 y11 y12 y13 y14 y15 y16 y17 y18,LeO (laws_FnExactAddClue.j0 k y0 y1 y2 y3 y4 y5 y6 y7 y8 y9 y10 y11 y12 y13 y14 y15 y16 y17 y18) (laws_FnExactAddClue.j0 (k + 1) y0 y1 y2 y3 y4 y5 y6 y7 y8 y9 y10 y11 y12 y13 y14 y15 y16 y17 y18)) ∧ (∀ y0 y1 y2 y3 y4 y5 y6 y7 y8 y9 y10 y11 y12 y13 y14,LeO (laws_FnExactAddClue.j1 k y0 y1 y2 y3 y4 y5 y6 y7 y8 y9 y10 y11 y12 y13 y14) (laws_FnExactAddClue.j1 (k + 1) y0 y1 y2 y3 y4 y5 y6 y7 y8 y9 y10 y11 y12 y13 y14)) ∧ (∀ y0 y1 y2 y3 y4,LeO (laws_FnExactAddClue.j2 k y0 y1 y2 y3 y4) (laws_FnExactAddClue.j2 (k + 1) y0 y1 y2 y3 y4))
|0=>⟨fun _ _ _ _ _ _ _ _ _ _ _ _ _ _ _ _ _ _ _ r h=>by simp [laws_FnExactAddClue.j0] at h,fun _ _ _ _ _ _ _ _ _ _ _ _ _ _ _ r h=>by simp [laws_FnExactAddClue.j1] at h,fun _ _ _ _ _ r h=>by simp [laws_FnExactAddClue.j2] at h⟩
|k + 1=>by
  obtain ⟨ih0,ih1,ih2⟩:=laws_FnExactAddClue.mono_l k
  refine ⟨?_,?_,?_⟩
  ·intro y0 y1 y2 y3 y4 y5 y6 y7 y8 y9 y10 y11 y12 y13 y14 y15 y16 y17 y18
   unfold laws_FnExactAddClue.j0
   repeat' first
  |(with_reducible exact ih0 _ _ _ _ _ _ _ _ _ _ _ _ _ _ _ _ _ _ _)
  |(with_reducible exact ih1 _ _ _ _ _ _ _ _ _ _ _ _ _ _ _)
  |(with_reducible exact ih2 _ _ _ _ _)
  |(with_reducible exact impl_AddClue.mono _ _ _ _ _ _ _ _)
  |(with_reducible exact laws_eqPuzzle.mono _ _ _ _ _ _ _)
  |(with_reducible exact laws_heldPuzzle.mono _ _ _ _ _)
  |(with_reducible exact laws_markPuzzle.mono _ _ _ _ _)
  |(with_reducible exact laws_toPuzzle.mono _ _ _ _)
  |(with_reducible exact spec_AddClue.mono _ _ _ _ _ _ _ _)
  |(with_reducible exact LeO.refl _)
  |(with_reducible exact LeO.none _)
  |(with_reducible refine LeO.ite ?_ ?_)
  |(with_reducible refine LeO.bind ?_ (fun _=>?_))
  |exact ih0 _ _ _ _ _ _ _ _ _ _ _ _ _ _ _ _ _ _ _
  |exact ih1 _ _ _ _ _ _ _ _ _ _ _ _ _ _ _
  |exact ih2 _ _ _ _ _
  |exact impl_AddClue.mono _ _ _ _ _ _ _ _
  |exact laws_eqPuzzle.mono _ _ _ _ _ _ _
  |exact laws_heldPuzzle.mono _ _ _ _ _
  |exact laws_markPuzzle.mono _ _ _ _ _
  |exact laws_toPuzzle.mono _ _ _ _
  |exact spec_AddClue.mono _ _ _ _ _ _ _ _
  |exact LeO.none _
  |refine LeO.ite ?_ ?_
  |refine LeO.bind ?_ (fun _=>?_)
  ·intro y0 y1 y2 y3 y4 y5 y6 y7 y8 y9 y10 y11 y12 y13 y14
   unfold laws_FnExactAddClue.j1
   repeat' first
  |(with_reducible exact ih0 _ _ _ _ _ _ _ _ _ _ _ _ _ _ _ _ _ _ _)
  |(with_reducible exact ih1 _ _ _ _ _ _ _ _ _ _ _ _ _ _ _)
  |(with_reducible exact ih2 _ _ _ _ _)
  |(with_reducible exact impl_AddClue.mono _ _ _ _ _ _ _ _)
  |(with_reducible exact laws_eqPuzzle.mono _ _ _ _ _ _ _)
  |(with_reducible exact laws_heldPuzzle.mono _ _ _ _ _)
  |(with_reducible exact laws_markPuzzle.mono _ _ _ _ _)
  |(with_reducible exact laws_toPuzzle.mono _ _ _ _)
  |(with_reducible exact spec_AddClue.mono _ _ _ _ _ _ _ _)
  |(with_reducible exact LeO.refl _)
  |(with_reducible exact LeO.none _)
  |(with_reducible refine LeO.ite ?_ ?_)
  |(with_reducible refine LeO.bind ?_ (fun _=>?_))
  |exact ih0 _ _ _ _ _ _ _ _ _ _ _ _ _ _ _ _ _ _ _
  |exact ih1 _ _ _ _ _ _ _ _ _ _ _ _ _ _ _
  |exact ih2 _ _ _ _ _
  |exact impl_AddClue.mono _ _ _ _ _ _ _ _
  |exact laws_eqPuzzle.mono _ _ _ _ _ _ _
  |exact laws_heldPuzzle.mono _ _ _ _ _
  |exact laws_markPuzzle.mono _ _ _ _ _
  |exact laws_toPuzzle.mono _ _ _ _
  |exact spec_AddClue.mono _ _ _ _ _ _ _ _
  |exact LeO.none _
  |refine LeO.ite ?_ ?_
  |refine LeO.bind ?_ (fun _=>?_)
  ·intro y0 y1 y2 y3 y4
   unfold laws_FnExactAddClue.j2
   repeat' first
  |(with_reducible exact ih0 _ _ _ _ _ _ _ _ _ _ _ _ _ _ _ _ _ _ _)
  |(with_reducible exact ih1 _ _ _ _ _ _ _ _ _ _ _ _ _ _ _)
  |(with_reducible exact ih2 _ _ _ _ _)
  |(with_reducible exact impl_AddClue.mono _ _ _ _ _ _ _ _)
  |(with_reducible exact laws_eqPuzzle.mono _ _ _ _ _ _ _)
  |(with_reducible exact laws_heldPuzzle.mono _ _ _ _ _)
  |(with_reducible exact laws_markPuzzle.mono _ _ _ _ _)
  |(with_reducible exact laws_toPuzzle.mono _ _ _ _)
  |(with_reducible exact spec_AddClue.mono _ _ _ _ _ _ _ _)
  |(with_reducible exact LeO.refl _)
  |(with_reducible exact LeO.none _)
  |(with_reducible refine LeO.ite ?_ ?_)
  |(with_reducible refine LeO.bind ?_ (fun _=>?_))
  |exact ih0 _ _ _ _ _ _ _ _ _ _ _ _ _ _ _ _ _ _ _
  |exact ih1 _ _ _ _ _ _ _ _ _ _ _ _ _ _ _
  |exact ih2 _ _ _ _ _
  |exact impl_AddClue.mono _ _ _ _ _ _ _ _
  |exact laws_eqPuzzle.mono _ _ _ _ _ _ _
  |exact laws_heldPuzzle.mono _ _ _ _ _
  |exact laws_markPuzzle.mono _ _ _ _ _
  |exact laws_toPuzzle.mono _ _ _ _
  |exact spec_AddClue.mono _ _ _ _ _ _ _ _
  |exact LeO.none _
  |refine LeO.ite ?_ ?_
  |refine LeO.bind ?_ (fun _=>?_)
theorem laws_FnExactAddClue.mono : ∀ a0 a1 a2 a3 a4 a5 a6 k,LeO (laws_FnExactAddClue.f k a0 a1 a2 a3 a4 a5 a6) (laws_FnExactAddClue.f (k + 1) a0 a1 a2 a3 a4 a5 a6):=by
 intro a0 a1 a2 a3 a4 a5 a6 k
 obtain ⟨ih0,ih1,ih2⟩:=laws_FnExactAddClue.mono_l k
 unfold laws_FnExactAddClue.f
 repeat' first
  |(with_reducible exact ih0 _ _ _ _ _ _ _ _ _ _ _ _ _ _ _ _ _ _ _)
  |(with_reducible exact ih1 _ _ _ _ _ _ _ _ _ _ _ _ _ _ _)
  |(with_reducible exact ih2 _ _ _ _ _)
  |(with_reducible exact impl_AddClue.mono _ _ _ _ _ _ _ _)
  |(with_reducible exact laws_eqPuzzle.mono _ _ _ _ _ _ _)
  |(with_reducible exact laws_heldPuzzle.mono _ _ _ _ _)
  |(with_reducible exact laws_markPuzzle.mono _ _ _ _ _)
  |(with_reducible exact laws_toPuzzle.mono _ _ _ _)
  |(with_reducible exact spec_AddClue.mono _ _ _ _ _ _ _ _)
  |(with_reducible exact LeO.refl _)
  |(with_reducible exact LeO.none _)
  |(with_reducible refine LeO.ite ?_ ?_)
  |(with_reducible refine LeO.bind ?_ (fun _=>?_))
  |exact ih0 _ _ _ _ _ _ _ _ _ _ _ _ _ _ _ _ _ _ _
  |exact ih1 _ _ _ _ _ _ _ _ _ _ _ _ _ _ _
  |exact ih2 _ _ _ _ _
  |exact impl_AddClue.mono _ _ _ _ _ _ _ _
  |exact laws_eqPuzzle.mono _ _ _ _ _ _ _
  |exact laws_heldPuzzle.mono _ _ _ _ _
  |exact laws_markPuzzle.mono _ _ _ _ _
  |exact laws_toPuzzle.mono _ _ _ _
  |exact spec_AddClue.mono _ _ _ _ _ _ _ _
  |exact LeO.none _
  |refine LeO.ite ?_ ?_
  |refine LeO.bind ?_ (fun _=>?_)
def laws_FnExactAddClue.T5 : Bool × List (List Nat × List Nat):=(true,[([],[]),([0],[0]),([],[]),([2,1],[2]),([1,3,3],[1,3]),([4],[4]),([5],[5]),([5],[5]),([],[]),([8,6,4,0,1,2,3,4,5,6,8],[6,8]),([7,9,0,1,2,3,4,5,6,7,8,9],[7])])
def laws_FnExactAddClue.B5 : List Nat:=[0,1,0,7,15,31,63,63,0,383,1023]
theorem laws_FnExactAddClue.tab5 : rtab .any (opsOf Try.f4 5) = laws_FnExactAddClue.T5:=by kernel_rfl
theorem laws_FnExactAddClue.bits5 : waitsOk laws_FnExactAddClue.T5.2 laws_FnExactAddClue.B5 = true:=by kernel_rfl
def laws_FnExactAddClue.T7 : Bool × List (List Nat × List Nat):=(true,[([],[]),([],[]),([1],[1]),([0,2,2],[0,2]),([3],[3]),([4],[4]),([4],[4]),([],[]),([7,5,3,0,1,2,3,4,5,7],[5,7]),([6,8,0,1,2,3,4,5,6,7,8],[6])])
def laws_FnExactAddClue.B7 : List Nat:=[0,0,2,7,15,31,31,0,191,511]
theorem laws_FnExactAddClue.tab7 : rtab .any (opsOf Try.f4 7) = laws_FnExactAddClue.T7:=by kernel_rfl
theorem laws_FnExactAddClue.bits7 : waitsOk laws_FnExactAddClue.T7.2 laws_FnExactAddClue.B7 = true:=by kernel_rfl
def laws_FnExactAddClue.T24 : Bool × List (List Nat × List Nat):=(true,[([],[]),([0],[0]),([],[]),([2,1],[2]),([1,3,3],[1,3]),([4],[4]),([5],[5]),([5],[5]),([],[]),([8,6,4,0,1,2,3,4,5,6,8],[6,8]),([7,9,0,1,2,3,4,5,6,7,8,9],[7])])
def laws_FnExactAddClue.B24 : List Nat:=[0,1,0,7,15,31,63,63,0,383,1023]
theorem laws_FnExactAddClue.tab24 : rtab .any (opsOf Try.f4 24) = laws_FnExactAddClue.T24:=by kernel_rfl
theorem laws_FnExactAddClue.bits24 : waitsOk laws_FnExactAddClue.T24.2 laws_FnExactAddClue.B24 = true:=by kernel_rfl
theorem laws_FnExactAddClue.j0_no (k : Nat) (y0 : _) (y1 : _) (y3 : _) (y4 : _) (y5 : _) (y6 : _) (y7 : _) (y8 : _) (y9 : _) (y10 : _) (y11 : _) (y12 : _) (y13 : _) (y14 : _) (y15 : _) (y16 : _) (y17 : _) (y18 : _) : laws_FnExactAddClue.j0 k y0 y1 true y3 y4 y5 y6 y7 y8 y9 y10 y11 y12 y13 y14 y15 y16 y17 y18 ≠ some true:=by cases k <;> simp [laws_FnExactAddClue.j0]
theorem laws_FnExactAddClue.j1_no (k : Nat) (y0 : _) (y2 : _) (y3 : _) (y4 : _) (y5 : _) (y6 : _) (y7 : _) (y8 : _) (y9 : _) (y10 : _) (y11 : _) (y12 : _) (y13 : _) (y14 : _) : laws_FnExactAddClue.j1 k y0 true y2 y3 y4 y5 y6 y7 y8 y9 y10 y11 y12 y13 y14 ≠ some true:=by cases k <;> simp [laws_FnExactAddClue.j1]
theorem laws_FnExactAddClue.j2_no (k : Nat) (y0 : _) (y2 : _) (y3 : _) (y4 : _) : laws_FnExactAddClue.j2 k y0 true y2 y3 y4 ≠ some true:=by cases k <;> simp [laws_FnExactAddClue.j2]
set_option maxHeartbeats 8000000 in
set_option maxRecDepth 100000 in
theorem laws_FnExactAddClue.calls (k : Nat) (a0_0 : Int) (a0_1 : Int) (A0_2 : Option Addr) (c0_2 : Nat) (l0_2 : List (S34)) (a1_0 : Int) (a1_1 : Int) (a1_2 : Int) (a1_3 : Int) (r : Bool) (w : World) (hr0_2 : Kd.C k34 w A0_2 l0_2.length l0_2) (hc0_2 : l0_2.length ≤ c0_2) (rT : r = true) (h : laws_FnExactAddClue.f k a0_0 a0_1 l0_2 a1_0 a1_1 a1_2 a1_3 = some r) :
  Calls Try.prog 4 #[.agg #[.int .i64 a0_0,.int .i64 a0_1,.slice A0_2 l0_2.length c0_2],.agg #[.int .i64 a1_0,.int .i64 a1_1,.int .i64 a1_2,.int .i64 a1_3]] w fun e w'=>e = .returned (.bool r) ∧ Below w.heap.size w w':=by
 have hu24:=Try.underlying24
 have hu34:=Try.underlying34
 have hu29:=Try.underlying29
 have HR0_2:=Aside0.mk hr0_2
 have HC0_2:=Aside0.mk hc0_2
 clear hr0_2 hc0_2
 have HB:=Aside0.mk (Below.refl w.heap.size w)
 have H : ((laws_szPuzzle.f a0_0 a0_1 l0_2 1048576).bind fun t193=>(if t193 < 0 then (some true) else ((laws_toPuzzle.f k a0_0 a0_1 l0_2).bind fun bt194=>((laws_toClue.f a1_0 a1_1 a1_2 a1_3).bind fun bt199=>((spec_AddClue.f k bt194.1 bt194.2.1 bt194.2.2 bt199.1 bt199.2.1 bt199.2.2.1 bt199.2.2.2).bind fun bt203=>((laws_toPuzzle.f k a0_0 a0_1 l0_2).bind fun bt210=>((laws_toClue.f a1_0 a1_1 a1_2 a1_3).bind fun bt216=>((impl_AddClue.f k bt210.1 bt210.2.1 bt210.2.2 bt216.1 bt216.2.1 bt216.2.2.1 bt216.2.2.2).bind fun bt220=>((laws_eqPuzzle.f k bt220.1 bt220.2.1 bt220.2.2.1 bt203.1 bt203.2.1 bt203.2.2.1).bind fun t227=>(if t227 = true then (laws_FnExactAddClue.j0 k bt203.2.2.2 bt220.2.2.2 (bt220.2.2.2 != bt203.2.2.2) a0_0 a0_1 l0_2 a1_0 a1_1 a1_2 a1_3 bt203.1 bt203.2.1 bt203.2.2.1 bt210.1 bt210.2.1 bt210.2.2 bt220.1 bt220.2.1 bt220.2.2.1) else (laws_FnExactAddClue.j0 k bt203.2.2.2 bt220.2.2.2 true a0_0 a0_1 l0_2 a1_0 a1_1 a1_2 a1_3 bt203.1 bt203.2.1 bt203.2.2.1 bt210.1 bt210.2.1 bt210.2.2 bt220.1 bt220.2.1 bt220.2.2.1))))))))))) = some r:=h
 clear h
 replace H:=Option.bind_eq_some_iff.mp H
 obtain ⟨t193,A30,H⟩:=H
 replace H : (if t193 < 0 then (some true) else ((laws_toPuzzle.f k a0_0 a0_1 l0_2).bind fun bt194=>((laws_toClue.f a1_0 a1_1 a1_2 a1_3).bind fun bt199=>((spec_AddClue.f k bt194.1 bt194.2.1 bt194.2.2 bt199.1 bt199.2.1 bt199.2.2.1 bt199.2.2.2).bind fun bt203=>((laws_toPuzzle.f k a0_0 a0_1 l0_2).bind fun bt210=>((laws_toClue.f a1_0 a1_1 a1_2 a1_3).bind fun bt216=>((impl_AddClue.f k bt210.1 bt210.2.1 bt210.2.2 bt216.1 bt216.2.1 bt216.2.2.1 bt216.2.2.2).bind fun bt220=>((laws_eqPuzzle.f k bt220.1 bt220.2.1 bt220.2.2.1 bt203.1 bt203.2.1 bt203.2.2.1).bind fun t227=>(if t227 = true then (laws_FnExactAddClue.j0 k bt203.2.2.2 bt220.2.2.2 (bt220.2.2.2 != bt203.2.2.2) a0_0 a0_1 l0_2 a1_0 a1_1 a1_2 a1_3 bt203.1 bt203.2.1 bt203.2.2.1 bt210.1 bt210.2.1 bt210.2.2 bt220.1 bt220.2.1 bt220.2.2.1) else (laws_FnExactAddClue.j0 k bt203.2.2.2 bt220.2.2.2 true a0_0 a0_1 l0_2 a1_0 a1_1 a1_2 a1_3 bt203.1 bt203.2.1 bt203.2.2.1 bt210.1 bt210.2.1 bt210.2.2 bt220.1 bt220.2.1 bt220.2.2.1)))))))))) = some r:=H
 have A3:=Aside0.mk A30
 clear A30
 by_cases c4 : t193 < 0
 ·rw [if_pos c4] at H
  have c4b0 : decide (t193 < 0) = true:=decide_eq_true c4
  clear c4
  obtain rfl:=Option.some.inj H
  go_enter Try.func4,Try.ntmps4
  go_wp2_with (first|((with_reducible refine gate_dst (N:=2) rfl ?_);refine box_event ?hg (N:=2) ?hd (cs:=#[.int .i64 a0_0,.int .i64 a0_1,.slice A0_2 l0_2.length c0_2]) (t:=24) ?hr ?_;(case hd=>rfl);(case hg=>rfl);(case hr=>first|(go_simp;done)|(go_simp;rfl));intro gb191 hg w5 hbox hb;have n0_:=Aside0.mk (below_step (by repeat (with_reducible first|exact HB.out|apply below_alloc|apply pw_below_drewN|apply below_drew1)) hb);have n1_:=Aside0.mk (hbox);have n2_:=Aside0.mk ((by rw [hg];exact (below_size (by repeat (with_reducible first|exact HB.out|apply below_alloc|apply pw_below_drewN|apply below_drew1))) : w.heap.size ≤ gb191));have n3_:=Aside0.mk ((by rw [hg];exact (below_size (by repeat (with_reducible first|exact HB.out|apply below_alloc|apply pw_below_drewN|apply below_drew1))) : w.heap.size ≤ gb191));clear HB;have HB:=n0_;have BK191:=n1_;have GW191:=n2_;have GE191:=n3_;clear n0_ n1_ n2_ n3_;clear hb hbox hg)|((with_reducible refine gate_dst (N:=3) rfl ?_);refine box_event ?hg (N:=3) ?hd (cs:=#[.int .i64 a1_0,.int .i64 a1_1,.int .i64 a1_2,.int .i64 a1_3]) (t:=34) ?hr ?_;(case hd=>rfl);(case hg=>rfl);(case hr=>first|(go_simp;done)|(go_simp;rfl));intro gb192 hg w6 hbox hb;have n0_:=(bB (by (repeat with_reducible first|apply bN|apply bD|apply bA);exact BK191.out) hb);have n1_:=Aside0.mk (below_step (by repeat (with_reducible first|exact HB.out|apply eA|apply eN|apply eD|refine eS ?_ (Aside0.out ‹_›))) hb);have n2_:=Aside0.mk (hbox);have n3_:=Aside0.mk ((by rw [hg];exact (below_size (by repeat (with_reducible first|exact HB.out|apply eA|apply eN|apply eD|refine eS ?_ (Aside0.out ‹_›)))) : w.heap.size ≤ gb192));have n4_:=Aside0.mk ((by rw [hg];exact (below_size (by repeat (with_reducible first|exact HB.out|apply eA|apply eN|apply eD|refine eS ?_ (Aside0.out ‹_›)))) : w.heap.size ≤ gb192));have n5_:=Aside0.mk ((by rw [hg];exact Nat.ne_of_lt (blk_lt (by (repeat with_reducible first|apply bN|apply bD|apply bA);exact BK191.out)) : gb191 ≠ gb192));have n6_:=Aside0.mk ((by rw [hg];exact Nat.ne_of_gt (blk_lt (by (repeat with_reducible first|apply bN|apply bD|apply bA);exact BK191.out)) : gb192 ≠ gb191));clear BK191;clear HB;have BK191:=n0_;have HB:=n1_;have BK192:=n2_;have GW192:=n3_;have GE192:=n4_;have NB191_192:=n5_;have NB192_191:=n6_;clear n0_ n1_ n2_ n3_ n4_ n5_ n6_;clear hb hbox hg;have hnb7:=NB191_192.out;have hnc7:=NB192_191.out;have hcz8_0 : w6.cell? ⟨gb191,0,none⟩ = some (.int .i64 a0_0):=(bC BK191 0).trans rfl;have hcz8_1 : w6.cell? ⟨gb191,1,none⟩ = some (.int .i64 a0_1):=(bC BK191 1).trans rfl;have hcz8_2 : w6.cell? ⟨gb191,2,none⟩ = some (.slice A0_2 l0_2.length c0_2):=(bC BK191 2).trans rfl;have hfz8_0:=blk_frozen BK191.out 0;have hfz8_1:=blk_frozen BK191.out 1;have hfz8_2:=blk_frozen BK191.out 2)|((with_reducible refine gate_callee (f:=6) rfl ?_);refine goesL_ (some 18) rfl rfl Try.func6 (by kernel_rfl) rfl #[.agg #[.int .i64 a0_0,.int .i64 a0_1,.slice A0_2 l0_2.length c0_2],.int .i64 1048576] rfl (by (try simp only [List.map_toArray,List.map_cons,List.map_nil]);first|done|rfl) ?_;(with_reducible refine (laws_szPuzzle.calls a0_0 a0_1 _ _ l0_2 1048576 t193 _ ?side1 ?side2 A3.out).mono ?_);(case side1=>repeat (first|exact (Kd.C_below HR0_2.out HB.out)|(with_reducible refine Kd.C_alloc ?_ _)|(with_reducible refine Kd.C_drewN ?_ _)|(with_reducible refine Kd.C_drew ?_)));(case side2=>exact HC0_2.out);rintro e w9 ⟨rfl,hb⟩;refine ⟨_,rfl,?_⟩;have n0_:=(bB (by (repeat with_reducible first|apply bN|apply bD|apply bA);exact BK191.out) hb);have n1_:=(bB (by (repeat with_reducible first|apply bN|apply bD|apply bA);exact BK192.out) hb);have n2_:=Aside0.mk (below_step (by repeat (with_reducible first|exact HB.out|apply eA|apply eN|apply eD|refine eS ?_ (Aside0.out ‹_›))) hb);clear BK191;clear BK192;clear HB;have BK191:=n0_;have BK192:=n1_;have HB:=n2_;clear n0_ n1_ n2_;(try clear hb);(try clear hb2);(try clear hk);(try clear hi)))
  go_ret
  exact ⟨by first|rfl|(simp [errW_none,errW_some] <;> rfl)|(simp [*,errW_none,errW_some] <;> rfl),by repeat (with_reducible first|exact HB.out|apply eA|apply eN|apply eD|refine eS ?_ (Aside0.out ‹_›))⟩
 ·rw [if_neg c4] at H
  have c4b0 : decide (t193 < 0) = false:=decide_eq_false c4
  clear c4
  replace H:=Option.bind_eq_some_iff.mp H
  obtain ⟨⟨t194,t195,t196⟩,A100,H⟩:=H
  replace H : ((laws_toClue.f a1_0 a1_1 a1_2 a1_3).bind fun bt199=>((spec_AddClue.f k t194 t195 t196 bt199.1 bt199.2.1 bt199.2.2.1 bt199.2.2.2).bind fun bt203=>((laws_toPuzzle.f k a0_0 a0_1 l0_2).bind fun bt210=>((laws_toClue.f a1_0 a1_1 a1_2 a1_3).bind fun bt216=>((impl_AddClue.f k bt210.1 bt210.2.1 bt210.2.2 bt216.1 bt216.2.1 bt216.2.2.1 bt216.2.2.2).bind fun bt220=>((laws_eqPuzzle.f k bt220.1 bt220.2.1 bt220.2.2.1 bt203.1 bt203.2.1 bt203.2.2.1).bind fun t227=>(if t227 = true then (laws_FnExactAddClue.j0 k bt203.2.2.2 bt220.2.2.2 (bt220.2.2.2 != bt203.2.2.2) a0_0 a0_1 l0_2 a1_0 a1_1 a1_2 a1_3 bt203.1 bt203.2.1 bt203.2.2.1 bt210.1 bt210.2.1 bt210.2.2 bt220.1 bt220.2.1 bt220.2.2.1) else (laws_FnExactAddClue.j0 k bt203.2.2.2 bt220.2.2.2 true a0_0 a0_1 l0_2 a1_0 a1_1 a1_2 a1_3 bt203.1 bt203.2.1 bt203.2.2.1 bt210.1 bt210.2.1 bt210.2.2 bt220.1 bt220.2.1 bt220.2.2.1)))))))) = some r:=H
  have A10:=Aside0.mk A100
  clear A100
  replace H:=Option.bind_eq_some_iff.mp H
  obtain ⟨⟨t199,t200,t201,t202⟩,A110,H⟩:=H
  replace H : ((spec_AddClue.f k t194 t195 t196 t199 t200 t201 t202).bind fun bt203=>((laws_toPuzzle.f k a0_0 a0_1 l0_2).bind fun bt210=>((laws_toClue.f a1_0 a1_1 a1_2 a1_3).bind fun bt216=>((impl_AddClue.f k bt210.1 bt210.2.1 bt210.2.2 bt216.1 bt216.2.1 bt216.2.2.1 bt216.2.2.2).bind fun bt220=>((laws_eqPuzzle.f k bt220.1 bt220.2.1 bt220.2.2.1 bt203.1 bt203.2.1 bt203.2.2.1).bind fun t227=>(if t227 = true then (laws_FnExactAddClue.j0 k bt203.2.2.2 bt220.2.2.2 (bt220.2.2.2 != bt203.2.2.2) a0_0 a0_1 l0_2 a1_0 a1_1 a1_2 a1_3 bt203.1 bt203.2.1 bt203.2.2.1 bt210.1 bt210.2.1 bt210.2.2 bt220.1 bt220.2.1 bt220.2.2.1) else (laws_FnExactAddClue.j0 k bt203.2.2.2 bt220.2.2.2 true a0_0 a0_1 l0_2 a1_0 a1_1 a1_2 a1_3 bt203.1 bt203.2.1 bt203.2.2.1 bt210.1 bt210.2.1 bt210.2.2 bt220.1 bt220.2.1 bt220.2.2.1))))))) = some r:=H
  have A11:=Aside0.mk A110
  clear A110
  replace H:=Option.bind_eq_some_iff.mp H
  obtain ⟨⟨t203,t204,t205,t208⟩,A120,H⟩:=H
  replace H : ((laws_toPuzzle.f k a0_0 a0_1 l0_2).bind fun bt210=>((laws_toClue.f a1_0 a1_1 a1_2 a1_3).bind fun bt216=>((impl_AddClue.f k bt210.1 bt210.2.1 bt210.2.2 bt216.1 bt216.2.1 bt216.2.2.1 bt216.2.2.2).bind fun bt220=>((laws_eqPuzzle.f k bt220.1 bt220.2.1 bt220.2.2.1 t203 t204 t205).bind fun t227=>(if t227 = true then (laws_FnExactAddClue.j0 k t208 bt220.2.2.2 (bt220.2.2.2 != t208) a0_0 a0_1 l0_2 a1_0 a1_1 a1_2 a1_3 t203 t204 t205 bt210.1 bt210.2.1 bt210.2.2 bt220.1 bt220.2.1 bt220.2.2.1) else (laws_FnExactAddClue.j0 k t208 bt220.2.2.2 true a0_0 a0_1 l0_2 a1_0 a1_1 a1_2 a1_3 t203 t204 t205 bt210.1 bt210.2.1 bt210.2.2 bt220.1 bt220.2.1 bt220.2.2.1)))))) = some r:=H
  have A12:=Aside0.mk A120
  clear A120
  replace H:=Option.bind_eq_some_iff.mp H
  obtain ⟨⟨t210,t211,t212⟩,A130,H⟩:=H
  replace H : ((laws_toClue.f a1_0 a1_1 a1_2 a1_3).bind fun bt216=>((impl_AddClue.f k t210 t211 t212 bt216.1 bt216.2.1 bt216.2.2.1 bt216.2.2.2).bind fun bt220=>((laws_eqPuzzle.f k bt220.1 bt220.2.1 bt220.2.2.1 t203 t204 t205).bind fun t227=>(if t227 = true then (laws_FnExactAddClue.j0 k t208 bt220.2.2.2 (bt220.2.2.2 != t208) a0_0 a0_1 l0_2 a1_0 a1_1 a1_2 a1_3 t203 t204 t205 t210 t211 t212 bt220.1 bt220.2.1 bt220.2.2.1) else (laws_FnExactAddClue.j0 k t208 bt220.2.2.2 true a0_0 a0_1 l0_2 a1_0 a1_1 a1_2 a1_3 t203 t204 t205 t210 t211 t212 bt220.1 bt220.2.1 bt220.2.2.1))))) = some r:=H
  have A13:=Aside0.mk A130
  clear A130
  replace H:=Option.bind_eq_some_iff.mp H
  obtain ⟨⟨t216,t217,t218,t219⟩,A140,H⟩:=H
  replace H : ((impl_AddClue.f k t210 t211 t212 t216 t217 t218 t219).bind fun bt220=>((laws_eqPuzzle.f k bt220.1 bt220.2.1 bt220.2.2.1 t203 t204 t205).bind fun t227=>(if t227 = true then (laws_FnExactAddClue.j0 k t208 bt220.2.2.2 (bt220.2.2.2 != t208) a0_0 a0_1 l0_2 a1_0 a1_1 a1_2 a1_3 t203 t204 t205 t210 t211 t212 bt220.1 bt220.2.1 bt220.2.2.1) else (laws_FnExactAddClue.j0 k t208 bt220.2.2.2 true a0_0 a0_1 l0_2 a1_0 a1_1 a1_2 a1_3 t203 t204 t205 t210 t211 t212 bt220.1 bt220.2.1 bt220.2.2.1)))) = some r:=H
  have A14:=Aside0.mk A140
  clear A140
  replace H:=Option.bind_eq_some_iff.mp H
  obtain ⟨⟨t220,t221,t222,t225⟩,A150,H⟩:=H
  replace H : ((laws_eqPuzzle.f k t220 t221 t222 t203 t204 t205).bind fun t227=>(if t227 = true then (laws_FnExactAddClue.j0 k t208 t225 (t225 != t208) a0_0 a0_1 l0_2 a1_0 a1_1 a1_2 a1_3 t203 t204 t205 t210 t211 t212 t220 t221 t222) else (laws_FnExactAddClue.j0 k t208 t225 true a0_0 a0_1 l0_2 a1_0 a1_1 a1_2 a1_3 t203 t204 t205 t210 t211 t212 t220 t221 t222))) = some r:=H
  have A15:=Aside0.mk A150
  clear A150
  have HC16:=Aside0.mk H
  clear H
  go_enter Try.func4,Try.ntmps4
  try go_wp2_with (first|((with_reducible refine gate_dst (N:=2) rfl ?_);refine box_event ?hg (N:=2) ?hd (cs:=#[.int .i64 a0_0,.int .i64 a0_1,.slice A0_2 l0_2.length c0_2]) (t:=24) ?hr ?_;(case hd=>rfl);(case hg=>rfl);(case hr=>first|(go_simp;done)|(go_simp;rfl));intro gb191 hg w17 hbox hb;have n0_:=Aside0.mk (below_step (by repeat (with_reducible first|exact HB.out|apply below_alloc|apply pw_below_drewN|apply below_drew1)) hb);have n1_:=Aside0.mk (hbox);have n2_:=Aside0.mk ((by rw [hg];exact (below_size (by repeat (with_reducible first|exact HB.out|apply below_alloc|apply pw_below_drewN|apply below_drew1))) : w.heap.size ≤ gb191));have n3_:=Aside0.mk ((by rw [hg];exact (below_size (by repeat (with_reducible first|exact HB.out|apply below_alloc|apply pw_below_drewN|apply below_drew1))) : w.heap.size ≤ gb191));clear HB;have HB:=n0_;have BK191:=n1_;have GW191:=n2_;have GE191:=n3_;clear n0_ n1_ n2_ n3_;clear hb hbox hg)|((with_reducible refine gate_dst (N:=3) rfl ?_);refine box_event ?hg (N:=3) ?hd (cs:=#[.int .i64 a1_0,.int .i64 a1_1,.int .i64 a1_2,.int .i64 a1_3]) (t:=34) ?hr ?_;(case hd=>rfl);(case hg=>rfl);(case hr=>first|(go_simp;done)|(go_simp;rfl));intro gb192 hg w18 hbox hb;have n0_:=(bB (by (repeat with_reducible first|apply bN|apply bD|apply bA);exact BK191.out) hb);have n1_:=Aside0.mk (below_step (by repeat (with_reducible first|exact HB.out|apply eA|apply eN|apply eD|refine eS ?_ (Aside0.out ‹_›))) hb);have n2_:=Aside0.mk (hbox);have n3_:=Aside0.mk ((by rw [hg];exact (below_size (by repeat (with_reducible first|exact HB.out|apply eA|apply eN|apply eD|refine eS ?_ (Aside0.out ‹_›)))) : w.heap.size ≤ gb192));have n4_:=Aside0.mk ((by rw [hg];exact (below_size (by repeat (with_reducible first|exact HB.out|apply eA|apply eN|apply eD|refine eS ?_ (Aside0.out ‹_›)))) : w.heap.size ≤ gb192));have n5_:=Aside0.mk ((by rw [hg];exact Nat.ne_of_lt (blk_lt (by (repeat with_reducible first|apply bN|apply bD|apply bA);exact BK191.out)) : gb191 ≠ gb192));have n6_:=Aside0.mk ((by rw [hg];exact Nat.ne_of_gt (blk_lt (by (repeat with_reducible first|apply bN|apply bD|apply bA);exact BK191.out)) : gb192 ≠ gb191));clear BK191;clear HB;have BK191:=n0_;have HB:=n1_;have BK192:=n2_;have GW192:=n3_;have GE192:=n4_;have NB191_192:=n5_;have NB192_191:=n6_;clear n0_ n1_ n2_ n3_ n4_ n5_ n6_;clear hb hbox hg;have hnb19:=NB191_192.out;have hnc19:=NB192_191.out;have hcz20_0 : w18.cell? ⟨gb191,0,none⟩ = some (.int .i64 a0_0):=(bC BK191 0).trans rfl;have hcz20_1 : w18.cell? ⟨gb191,1,none⟩ = some (.int .i64 a0_1):=(bC BK191 1).trans rfl;have hcz20_2 : w18.cell? ⟨gb191,2,none⟩ = some (.slice A0_2 l0_2.length c0_2):=(bC BK191 2).trans rfl;have hfz20_0:=blk_frozen BK191.out 0;have hfz20_1:=blk_frozen BK191.out 1;have hfz20_2:=blk_frozen BK191.out 2)|((with_reducible refine gate_callee (f:=6) rfl ?_);refine goesL_ (some 18) rfl rfl Try.func6 (by kernel_rfl) rfl #[.agg #[.int .i64 a0_0,.int .i64 a0_1,.slice A0_2 l0_2.length c0_2],.int .i64 1048576] rfl (by (try simp only [List.map_toArray,List.map_cons,List.map_nil]);first|done|rfl) ?_;(with_reducible refine (laws_szPuzzle.calls a0_0 a0_1 _ _ l0_2 1048576 t193 _ ?side1 ?side2 A3.out).mono ?_);(case side1=>repeat (first|exact (Kd.C_below HR0_2.out HB.out)|(with_reducible refine Kd.C_alloc ?_ _)|(with_reducible refine Kd.C_drewN ?_ _)|(with_reducible refine Kd.C_drew ?_)));(case side2=>exact HC0_2.out);rintro e w21 ⟨rfl,hb⟩;refine ⟨_,rfl,?_⟩;have n0_:=(bB (by (repeat with_reducible first|apply bN|apply bD|apply bA);exact BK191.out) hb);have n1_:=(bB (by (repeat with_reducible first|apply bN|apply bD|apply bA);exact BK192.out) hb);have n2_:=Aside0.mk (below_step (by repeat (with_reducible first|exact HB.out|apply eA|apply eN|apply eD|refine eS ?_ (Aside0.out ‹_›))) hb);clear BK191;clear BK192;clear HB;have BK191:=n0_;have BK192:=n1_;have HB:=n2_;clear n0_ n1_ n2_;(try clear hb);(try clear hb2);(try clear hk);(try clear hi)))
  have n0_:=Aside0.mk (blk_drew BK191.out)
  have n1_:=Aside0.mk (blk_drew BK192.out)
  have n2_:=Aside0.mk (below_drew1 HB.out)
  clear BK191
  clear BK192
  clear HB
  have BK191:=n0_
  have BK192:=n1_
  have HB:=n2_
  clear n0_ n1_ n2_
  refine start_ (n:=11) (S:=fun w'=>w'.cell? ⟨gb191,0,none⟩ = some (.int .i64 a0_0) ∧ w'.cell? ⟨gb191,1,none⟩ = some (.int .i64 a0_1) ∧ w'.cell? ⟨gb191,2,none⟩ = some (.slice A0_2 l0_2.length c0_2) ∧ w'.cell? ⟨gb192,0,none⟩ = some (.int .i64 a1_0) ∧ w'.cell? ⟨gb192,1,none⟩ = some (.int .i64 a1_1) ∧ w'.cell? ⟨gb192,2,none⟩ = some (.int .i64 a1_2) ∧ w'.cell? ⟨gb192,3,none⟩ = some (.int .i64 a1_3)) (ds:=[]) #[false,false,false,false,false,false,false,false,false,false,false] (by kernel_rfl) rfl rfl ⟨(bC BK191 0).trans rfl,(bC BK191 1).trans rfl,(bC BK191 2).trans rfl,(bC BK192 0).trans rfl,(bC BK192 1).trans rfl,(bC BK192 2).trans rfl,(bC BK192 3).trans rfl⟩ (fun hHeld=>?_);refine with_tabW laws_FnExactAddClue.tab5 laws_FnExactAddClue.bits5 (fun HT_ HW_=>?_)
  generalize w21.drew = w22 at BK191 BK192 HB hHeld ⊢
  refine take_ (i:=0) (N:=some 22) (v:=?_) (a':=?_) #[true,false,false,false,false,false,false,false,false,false,false] rfl rfl (take_ofW HT_.out HW_.out (by kernel_rfl)) (fun _ _ _ h=>h) (Or.inl ⟨by rfl,?_⟩) hHeld ?_ ?_
  rotate_left
  ·rintro w' ⟨s0,s1,s2,s3,s4,s5,s6⟩
   go_simp
   with_reducible rfl
  rotate_left
  ·simp only [Act.put,List.setIfInBounds_toArray,List.set_cons_zero,List.set_cons_succ,i64_w,i32_w]
   rfl
  refine take_ (i:=2) (N:=some 24) (v:=?_) (a':=?_) #[true,false,true,false,false,false,false,false,false,false,false] rfl rfl (take_ofW HT_.out HW_.out (by kernel_rfl)) (fun _ _ _ h=>h) (Or.inl ⟨by rfl,?_⟩) hHeld ?_ ?_
  rotate_left
  ·rintro w' ⟨s0,s1,s2,s3,s4,s5,s6⟩
   go_simp
   with_reducible rfl
  rotate_left
  ·simp only [Act.put,List.setIfInBounds_toArray,List.set_cons_zero,List.set_cons_succ,i64_w,i32_w]
   rfl
  refine join_ (σ:=Value × Value × Nat) 2 #[true,true,true,true,true,true,true,true,true,false,false] (fun s_=>[(23,.agg #[.int .i64 t194,.int .i64 t195,s_.1]),(25,.agg #[.int .i64 t199,.int .i64 t200,.int .i64 t201,.int .i64 t202]),(26,.tuple #[.agg #[.int .i64 t203,.int .i64 t204,s_.2.1],.bool t208]),(6,.pointer (some ⟨s_.2.2,0,none⟩)),(21,.tuple #[.agg #[.int .i64 t203,.int .i64 t204,s_.2.1],.bool t208]),(27,.agg #[.int .i64 t203,.int .i64 t204,s_.2.1]),(28,.bool t208)]) (fun s_ w'=>(w'.cell? ⟨gb191,0,none⟩ = some (.int .i64 a0_0) ∧ w'.cell? ⟨gb191,1,none⟩ = some (.int .i64 a0_1) ∧ w'.cell? ⟨gb191,2,none⟩ = some (.slice A0_2 l0_2.length c0_2) ∧ w'.cell? ⟨gb192,0,none⟩ = some (.int .i64 a1_0) ∧ w'.cell? ⟨gb192,1,none⟩ = some (.int .i64 a1_1) ∧ w'.cell? ⟨gb192,2,none⟩ = some (.int .i64 a1_2) ∧ w'.cell? ⟨gb192,3,none⟩ = some (.int .i64 a1_3)) ∧ (Kd.R k37 37 w' w.heap.size (fun k_=>some k_ ≠ (s_.2.1 : Value).ownBlock) s_.1 t196) ∧ (Kd.R k37 37 w' w.heap.size (fun k_=>some k_ ≠ (s_.1 : Value).ownBlock) s_.2.1 t205) ∧ (w'.heap[gb191]? = some (.cells #[.int .i64 a0_0,.int .i64 a0_1,.slice A0_2 l0_2.length c0_2] 24 (0,0))) ∧ (w'.heap[gb192]? = some (.cells #[.int .i64 a1_0,.int .i64 a1_1,.int .i64 a1_2,.int .i64 a1_3] 34 (0,0))) ∧ (w'.heap[s_.2.2]? = some (.cells #[.int .i64 0,.int .i64 0,.slice none 0 0] 29 (0,0))) ∧ (w.heap.size ≤ s_.2.2) ∧ (w.heap.size ≤ s_.2.2) ∧ (gb191 ≠ s_.2.2) ∧ (s_.2.2 ≠ gb191) ∧ (gb192 ≠ s_.2.2) ∧ (s_.2.2 ≠ gb192) ∧ (Below w.heap.size w w')) ?_ ?_
  rotate_left
  ·intro hCont
   refine two_ (i:=1) (j:=8) (Ni:=some 23) (Nj:=some 6) #[true,true,true,false,false,false,false,false,false,false,false] #[true,false,true,false,false,false,false,false,true,false,false] rfl rfl rfl rfl (two_of HT_.out (by kernel_rfl)) (by decide) (by decide) (fun K hK=>?_) (fun K hK=>?_)
   ·skip
    refine goes_ Try.func8 (by kernel_rfl) rfl #[.agg #[.int .i64 a0_0,.int .i64 a0_1,.slice A0_2 l0_2.length c0_2]] (by rfl) rfl rfl (by (try simp only [List.map_toArray,List.map_cons,List.map_nil]);first|done|rfl) ?_
    with_reducible refine (laws_toPuzzle.calls k a0_0 a0_1 _ _ l0_2 t194 t195 t196 _ ?side1 ?side2 A10.out).mono ?_
    (case side1=>repeat (first|exact (Kd.C_below HR0_2.out HB.out)|(with_reducible refine Kd.C_alloc ?_ _)|(with_reducible refine Kd.C_drewN ?_ _)|(with_reducible refine Kd.C_drew ?_)))
    (case side2=>exact HC0_2.out)
    rintro e w23 ⟨v197,rfl,ho0,hb⟩
    refine ⟨_,rfl,?_⟩
    have n0_:=Aside0.mk (rL ho0 (below_size (by repeat (with_reducible first|exact HB.out|apply eA|apply eN|apply eD|refine eS ?_ (Aside0.out ‹_›)))))
    have n1_:=(bB (by (repeat with_reducible first|apply bN|apply bD|apply bA);exact BK191.out) hb)
    have n2_:=(bB (by (repeat with_reducible first|apply bN|apply bD|apply bA);exact BK192.out) hb)
    have n3_:=Aside0.mk (below_step (by repeat (with_reducible first|exact HB.out|apply eA|apply eN|apply eD|refine eS ?_ (Aside0.out ‹_›))) hb)
    clear BK191
    clear BK192
    clear HB
    have HO198:=n0_
    have BK191:=n1_
    have BK192:=n2_
    have HB:=n3_
    clear n0_ n1_ n2_ n3_
    (try clear hb)
    (try clear hb2)
    (try clear hk)
    (try clear hi)
    (try clear ho0)
    refine hK.out _ _ ⟨(bC BK191 0).trans rfl,(bC BK191 1).trans rfl,(bC BK191 2).trans rfl,(bC BK192 0).trans rfl,(bC BK192 1).trans rfl,(bC BK192 2).trans rfl,(bC BK192 3).trans rfl⟩ (fun hHeld=>?_)
    clear hK K
    refine norm_ (a':=?_) ?_ ?_
    rotate_left
    ·show Act.put _ (some 23) _ = _
     simp only [Act.put,List.setIfInBounds_toArray,List.set_cons_zero,List.set_cons_succ,i64_w,i32_w]
     rfl
    refine two_ (i:=3) (j:=8) (Ni:=some 25) (Nj:=some 6) #[true,true,true,true,false,false,false,false,false,false,false] #[true,true,true,false,false,false,false,false,true,false,false] rfl rfl rfl rfl (two_of HT_.out (by kernel_rfl)) (by decide) (by decide) (fun K hK=>?_) (fun K hK=>?_)
    ·skip
     refine goes_ Try.func12 (by kernel_rfl) rfl #[.agg #[.int .i64 a1_0,.int .i64 a1_1,.int .i64 a1_2,.int .i64 a1_3]] (by rfl) rfl rfl (by (try simp only [List.map_toArray,List.map_cons,List.map_nil]);first|done|rfl) ?_
     with_reducible refine (laws_toClue.calls a1_0 a1_1 a1_2 a1_3 t199 t200 t201 t202 _ A11.out).mono ?_
     rintro e w24 ⟨rfl,hb⟩
     refine ⟨_,rfl,?_⟩
     have n0_:=Aside0.mk (Kd.R_below (by (repeat with_reducible first|apply rA|apply rN|apply rD);exact HO198.out) hb)
     have n1_:=(bB (by (repeat with_reducible first|apply bN|apply bD|apply bA);exact BK191.out) hb)
     have n2_:=(bB (by (repeat with_reducible first|apply bN|apply bD|apply bA);exact BK192.out) hb)
     have n3_:=Aside0.mk (below_step (by repeat (with_reducible first|exact HB.out|apply eA|apply eN|apply eD|refine eS ?_ (Aside0.out ‹_›))) hb)
     clear HO198
     clear BK191
     clear BK192
     clear HB
     have HO198:=n0_
     have BK191:=n1_
     have BK192:=n2_
     have HB:=n3_
     clear n0_ n1_ n2_ n3_
     (try clear hb)
     (try clear hb2)
     (try clear hk)
     (try clear hi)
     obtain ⟨Ao25,co25,eo25⟩:=Kd.R_slice HO198.out
     (first|subst eo25|(injection eo25 with f1_ f2_ f3_;have f4_:=f1_.symm;have f5_:=f3_.symm;clear f1_ f2_ f3_;subst f4_;subst f5_))
     refine hK.out _ _ ⟨(bC BK191 0).trans rfl,(bC BK191 1).trans rfl,(bC BK191 2).trans rfl,(bC BK192 0).trans rfl,(bC BK192 1).trans rfl,(bC BK192 2).trans rfl,(bC BK192 3).trans rfl⟩ (fun hHeld=>?_)
     clear hK K
     refine norm_ (a':=?_) ?_ ?_
     rotate_left
     ·show Act.put _ (some 25) _ = _
      simp only [Act.put,List.setIfInBounds_toArray,List.set_cons_zero,List.set_cons_succ,i64_w,i32_w]
      rfl
     refine two_ (i:=4) (j:=8) (Ni:=some 26) (Nj:=some 6) #[true,true,true,true,true,false,false,false,false,false,false] #[true,true,true,true,false,false,false,false,true,false,false] rfl rfl rfl rfl (two_of HT_.out (by kernel_rfl)) (by decide) (by decide) (fun K hK=>?_) (fun K hK=>?_)
     ·skip
      refine goes_ Try.func11 (by kernel_rfl) rfl #[.agg #[.int .i64 t194,.int .i64 t195,.slice Ao25 t196.length co25],.agg #[.int .i64 t199,.int .i64 t200,.int .i64 t201,.int .i64 t202]] (by rfl) rfl rfl (by (try simp only [List.map_toArray,List.map_cons,List.map_nil]);first|done|rfl) ?_
      with_reducible refine (spec_AddClue.calls k t194 t195 _ _ t196 t199 t200 t201 t202 t203 t204 t205 t208 _ ?side1 ?side2 A12.out).mono ?_
      (case side1=>repeat (first|exact (Kd.R_reads' HO198.out).2.2|(with_reducible refine Kd.C_alloc ?_ _)|(with_reducible refine Kd.C_drewN ?_ _)|(with_reducible refine Kd.C_drew ?_)))
      (case side2=>exact (Kd.R_reads' HO198.out).2.1)
      rintro e w26 ⟨v206,rfl,ho0,hb⟩
      refine ⟨_,rfl,?_⟩
      have n0_:=Aside0.mk (Kd.R_elder' (by (repeat with_reducible first|apply rA|apply rN|apply rD);exact HO198.out) (Kd.R_base ho0) hb)
      have n1_:=Aside0.mk (rL (rW ho0 (Kd.R_lt (by (repeat with_reducible first|apply rA|apply rN|apply rD);exact HO198.out))) (below_size (by repeat (with_reducible first|exact HB.out|apply eA|apply eN|apply eD|refine eS ?_ (Aside0.out ‹_›)))))
      have n2_:=(bB (by (repeat with_reducible first|apply bN|apply bD|apply bA);exact BK191.out) hb)
      have n3_:=(bB (by (repeat with_reducible first|apply bN|apply bD|apply bA);exact BK192.out) hb)
      have n4_:=Aside0.mk (below_step (by repeat (with_reducible first|exact HB.out|apply eA|apply eN|apply eD|refine eS ?_ (Aside0.out ‹_›))) hb)
      clear HO198
      clear BK191
      clear BK192
      clear HB
      have HO198:=n0_
      have HO207:=n1_
      have BK191:=n2_
      have BK192:=n3_
      have HB:=n4_
      clear n0_ n1_ n2_ n3_ n4_
      (try clear hb)
      (try clear hb2)
      (try clear hk)
      (try clear hi)
      (try clear ho0)
      refine hK.out _ _ ⟨(bC BK191 0).trans rfl,(bC BK191 1).trans rfl,(bC BK191 2).trans rfl,(bC BK192 0).trans rfl,(bC BK192 1).trans rfl,(bC BK192 2).trans rfl,(bC BK192 3).trans rfl⟩ (fun hHeld=>?_)
      clear hK K
      refine norm_ (a':=?_) ?_ ?_
      rotate_left
      ·show Act.put _ (some 26) _ = _
       simp only [Act.put,List.setIfInBounds_toArray,List.set_cons_zero,List.set_cons_succ,i64_w,i32_w]
       rfl
      refine pure_ (i:=5) (N:=some 21) (v:=?_) (a':=?_) #[true,true,true,true,true,true,false,false,false,false,false] rfl rfl (any_of HT_.out (by kernel_rfl)) (fun _ _ _ h=>h) (Or.inl ⟨by rfl,?_⟩) ?_ ?_
      rotate_left
      ·intro w'
       go_simp
       with_reducible rfl
      rotate_left
      ·simp only [Act.put,List.setIfInBounds_toArray,List.set_cons_zero,List.set_cons_succ,i64_w,i32_w]
       rfl
      refine pure_ (i:=6) (N:=some 27) (v:=?_) (a':=?_) #[true,true,true,true,true,true,true,false,false,false,false] rfl rfl (any_of HT_.out (by kernel_rfl)) (fun _ _ _ h=>h) (Or.inl ⟨by rfl,?_⟩) ?_ ?_
      rotate_left
      ·intro w'
       go_simp
       with_reducible rfl
      rotate_left
      ·simp only [Act.put,List.setIfInBounds_toArray,List.set_cons_zero,List.set_cons_succ,i64_w,i32_w]
       rfl
      refine pure_ (i:=7) (N:=some 28) (v:=?_) (a':=?_) #[true,true,true,true,true,true,true,true,false,false,false] rfl rfl (any_of HT_.out (by kernel_rfl)) (fun _ _ _ h=>h) (Or.inl ⟨by rfl,?_⟩) ?_ ?_
      rotate_left
      ·intro w'
       go_simp
       with_reducible rfl
      rotate_left
      ·simp only [Act.put,List.setIfInBounds_toArray,List.set_cons_zero,List.set_cons_succ,i64_w,i32_w]
       rfl
      refine one_ (i:=8) (N:=some 6) #[true,true,true,true,true,true,true,true,true,false,false] rfl rfl (one_of HT_.out (by kernel_rfl)) (by decide) (fun K hK=>?_)
      refine box_step ?hg (N:=6) ?hd (cs:=#[.int .i64 0,.int .i64 0,.slice none 0 0]) (t:=29) ?hr ?_;(case hd=>rfl);(case hg=>rfl);(case hr=>first|(go_simp;done)|(go_simp;rfl))
      intro gb209 hg w27 hbox hb
      have n0_:=Aside0.mk (Kd.R_below (by (repeat with_reducible first|apply rA|apply rN|apply rD);exact HO198.out) hb)
      have n1_:=Aside0.mk (Kd.R_below (by (repeat with_reducible first|apply rA|apply rN|apply rD);exact HO207.out) hb)
      have n2_:=(bB (by (repeat with_reducible first|apply bN|apply bD|apply bA);exact BK191.out) hb)
      have n3_:=(bB (by (repeat with_reducible first|apply bN|apply bD|apply bA);exact BK192.out) hb)
      have n4_:=Aside0.mk (below_step (by repeat (with_reducible first|exact HB.out|apply eA|apply eN|apply eD|refine eS ?_ (Aside0.out ‹_›))) hb)
      have n5_:=Aside0.mk (hbox)
      have n6_:=Aside0.mk ((by rw [hg];exact (below_size (by repeat (with_reducible first|exact HB.out|apply eA|apply eN|apply eD|refine eS ?_ (Aside0.out ‹_›)))) : w.heap.size ≤ gb209))
      have n7_:=Aside0.mk ((by rw [hg];exact (below_size (by repeat (with_reducible first|exact HB.out|apply eA|apply eN|apply eD|refine eS ?_ (Aside0.out ‹_›)))) : w.heap.size ≤ gb209))
      have n8_:=Aside0.mk ((by rw [hg];exact Nat.ne_of_lt (blk_lt (by (repeat with_reducible first|apply bN|apply bD|apply bA);exact BK191.out)) : gb191 ≠ gb209))
      have n9_:=Aside0.mk ((by rw [hg];exact Nat.ne_of_gt (blk_lt (by (repeat with_reducible first|apply bN|apply bD|apply bA);exact BK191.out)) : gb209 ≠ gb191))
      have n10_:=Aside0.mk ((by rw [hg];exact Nat.ne_of_lt (blk_lt (by (repeat with_reducible first|apply bN|apply bD|apply bA);exact BK192.out)) : gb192 ≠ gb209))
      have n11_:=Aside0.mk ((by rw [hg];exact Nat.ne_of_gt (blk_lt (by (repeat with_reducible first|apply bN|apply bD|apply bA);exact BK192.out)) : gb209 ≠ gb192))
      clear HO198
      clear HO207
      clear BK191
      clear BK192
      clear HB
      have HO198:=n0_
      have HO207:=n1_
      have BK191:=n2_
      have BK192:=n3_
      have HB:=n4_
      have BK209:=n5_
      have GW209:=n6_
      have GE209:=n7_
      have NB191_209:=n8_
      have NB209_191:=n9_
      have NB192_209:=n10_
      have NB209_192:=n11_
      clear n0_ n1_ n2_ n3_ n4_ n5_ n6_ n7_ n8_ n9_ n10_ n11_
      clear hb hbox hg
      refine hK.out _ _ ⟨(bC BK191 0).trans rfl,(bC BK191 1).trans rfl,(bC BK191 2).trans rfl,(bC BK192 0).trans rfl,(bC BK192 1).trans rfl,(bC BK192 2).trans rfl,(bC BK192 3).trans rfl⟩ (fun hHeld=>?_)
      clear hK K
      refine norm_ (a':=?_) ?_ ?_
      rotate_left
      ·show Act.put _ (some 6) _ = _
       simp only [Act.put,List.setIfInBounds_toArray,List.set_cons_zero,List.set_cons_succ,i64_w,i32_w]
       rfl
      exact norm_ (by simp only [putAll,Act.put,List.setIfInBounds_toArray,List.set_cons_zero,List.set_cons_succ]) (hCont (.slice Ao25 t196.length co25,v206,gb209) _ ⟨hHeld,(by (repeat with_reducible first|apply rA|apply rN|apply rD);exact Kd.R_mono HO198.out (fun _ hk=>hk.2)),(by (repeat with_reducible first|apply rA|apply rN|apply rD);exact Kd.R_mono HO207.out (fun _ hk=>hk.2)),(by (repeat with_reducible first|apply bN|apply bD|apply bA);exact BK191.out),(by (repeat with_reducible first|apply bN|apply bD|apply bA);exact BK192.out),(by (repeat with_reducible first|apply bN|apply bD|apply bA);exact BK209.out),GW209.out,GE209.out,NB191_209.out,NB209_191.out,NB192_209.out,NB209_192.out,(by repeat (with_reducible first|exact HB.out|apply eA|apply eN|apply eD|refine eS ?_ (Aside0.out ‹_›)))⟩)
     ·skip
      refine box_step ?hg (N:=6) ?hd (cs:=#[.int .i64 0,.int .i64 0,.slice none 0 0]) (t:=29) ?hr ?_;(case hd=>rfl);(case hg=>rfl);(case hr=>first|(go_simp;done)|(go_simp;rfl))
      intro gb209 hg w25 hbox hb
      have n0_:=Aside0.mk (Kd.R_below (by (repeat with_reducible first|apply rA|apply rN|apply rD);exact HO198.out) hb)
      have n1_:=(bB (by (repeat with_reducible first|apply bN|apply bD|apply bA);exact BK191.out) hb)
      have n2_:=(bB (by (repeat with_reducible first|apply bN|apply bD|apply bA);exact BK192.out) hb)
      have n3_:=Aside0.mk (below_step (by repeat (with_reducible first|exact HB.out|apply eA|apply eN|apply eD|refine eS ?_ (Aside0.out ‹_›))) hb)
      have n4_:=Aside0.mk (hbox)
      have n5_:=Aside0.mk ((by rw [hg];exact (below_size (by repeat (with_reducible first|exact HB.out|apply eA|apply eN|apply eD|refine eS ?_ (Aside0.out ‹_›)))) : w.heap.size ≤ gb209))
      have n6_:=Aside0.mk ((by rw [hg];exact (below_size (by repeat (with_reducible first|exact HB.out|apply eA|apply eN|apply eD|refine eS ?_ (Aside0.out ‹_›)))) : w.heap.size ≤ gb209))
      have n7_:=Aside0.mk ((by rw [hg];exact Nat.ne_of_lt (blk_lt (by (repeat with_reducible first|apply bN|apply bD|apply bA);exact BK191.out)) : gb191 ≠ gb209))
      have n8_:=Aside0.mk ((by rw [hg];exact Nat.ne_of_gt (blk_lt (by (repeat with_reducible first|apply bN|apply bD|apply bA);exact BK191.out)) : gb209 ≠ gb191))
      have n9_:=Aside0.mk ((by rw [hg];exact Nat.ne_of_lt (blk_lt (by (repeat with_reducible first|apply bN|apply bD|apply bA);exact BK192.out)) : gb192 ≠ gb209))
      have n10_:=Aside0.mk ((by rw [hg];exact Nat.ne_of_gt (blk_lt (by (repeat with_reducible first|apply bN|apply bD|apply bA);exact BK192.out)) : gb209 ≠ gb192))
      clear HO198
      clear BK191
      clear BK192
      clear HB
      have HO198:=n0_
      have BK191:=n1_
      have BK192:=n2_
      have HB:=n3_
      have BK209:=n4_
      have GW209:=n5_
      have GE209:=n6_
      have NB191_209:=n7_
      have NB209_191:=n8_
      have NB192_209:=n9_
      have NB209_192:=n10_
      clear n0_ n1_ n2_ n3_ n4_ n5_ n6_ n7_ n8_ n9_ n10_
      clear hb hbox hg
      obtain ⟨Ao26,co26,eo26⟩:=Kd.R_slice HO198.out
      (first|subst eo26|(injection eo26 with f1_ f2_ f3_;have f4_:=f1_.symm;have f5_:=f3_.symm;clear f1_ f2_ f3_;subst f4_;subst f5_))
      refine hK.out _ _ ⟨(bC BK191 0).trans rfl,(bC BK191 1).trans rfl,(bC BK191 2).trans rfl,(bC BK192 0).trans rfl,(bC BK192 1).trans rfl,(bC BK192 2).trans rfl,(bC BK192 3).trans rfl⟩ (fun hHeld=>?_)
      clear hK K
      refine norm_ (a':=?_) ?_ ?_
      rotate_left
      ·show Act.put _ (some 6) _ = _
       simp only [Act.put,List.setIfInBounds_toArray,List.set_cons_zero,List.set_cons_succ,i64_w,i32_w]
       rfl
      refine one_ (i:=4) (N:=some 26) #[true,true,true,true,true,false,false,false,true,false,false] rfl rfl (one_of HT_.out (by kernel_rfl)) (by decide) (fun K hK=>?_)
      refine goes_ Try.func11 (by kernel_rfl) rfl #[.agg #[.int .i64 t194,.int .i64 t195,.slice Ao26 t196.length co26],.agg #[.int .i64 t199,.int .i64 t200,.int .i64 t201,.int .i64 t202]] (by rfl) rfl rfl (by (try simp only [List.map_toArray,List.map_cons,List.map_nil]);first|done|rfl) ?_
      with_reducible refine (spec_AddClue.calls k t194 t195 _ _ t196 t199 t200 t201 t202 t203 t204 t205 t208 _ ?side1 ?side2 A12.out).mono ?_
      (case side1=>repeat (first|exact (Kd.R_reads' HO198.out).2.2|(with_reducible refine Kd.C_alloc ?_ _)|(with_reducible refine Kd.C_drewN ?_ _)|(with_reducible refine Kd.C_drew ?_)))
      (case side2=>exact (Kd.R_reads' HO198.out).2.1)
      rintro e w27 ⟨v206,rfl,ho0,hb⟩
      refine ⟨_,rfl,?_⟩
      have n0_:=Aside0.mk (Kd.R_elder' (by (repeat with_reducible first|apply rA|apply rN|apply rD);exact HO198.out) (Kd.R_base ho0) hb)
      have n1_:=Aside0.mk (rL (rW ho0 (Kd.R_lt (by (repeat with_reducible first|apply rA|apply rN|apply rD);exact HO198.out))) (below_size (by repeat (with_reducible first|exact HB.out|apply eA|apply eN|apply eD|refine eS ?_ (Aside0.out ‹_›)))))
      have n2_:=(bB (by (repeat with_reducible first|apply bN|apply bD|apply bA);exact BK191.out) hb)
      have n3_:=(bB (by (repeat with_reducible first|apply bN|apply bD|apply bA);exact BK192.out) hb)
      have n4_:=(bB (by (repeat with_reducible first|apply bN|apply bD|apply bA);exact BK209.out) hb)
      have n5_:=Aside0.mk (below_step (by repeat (with_reducible first|exact HB.out|apply eA|apply eN|apply eD|refine eS ?_ (Aside0.out ‹_›))) hb)
      clear HO198
      clear BK191
      clear BK192
      clear BK209
      clear HB
      have HO198:=n0_
      have HO207:=n1_
      have BK191:=n2_
      have BK192:=n3_
      have BK209:=n4_
      have HB:=n5_
      clear n0_ n1_ n2_ n3_ n4_ n5_
      (try clear hb)
      (try clear hb2)
      (try clear hk)
      (try clear hi)
      (try clear ho0)
      refine hK.out _ _ ⟨(bC BK191 0).trans rfl,(bC BK191 1).trans rfl,(bC BK191 2).trans rfl,(bC BK192 0).trans rfl,(bC BK192 1).trans rfl,(bC BK192 2).trans rfl,(bC BK192 3).trans rfl⟩ (fun hHeld=>?_)
      clear hK K
      refine norm_ (a':=?_) ?_ ?_
      rotate_left
      ·show Act.put _ (some 26) _ = _
       simp only [Act.put,List.setIfInBounds_toArray,List.set_cons_zero,List.set_cons_succ,i64_w,i32_w]
       rfl
      refine pure_ (i:=5) (N:=some 21) (v:=?_) (a':=?_) #[true,true,true,true,true,true,false,false,true,false,false] rfl rfl (any_of HT_.out (by kernel_rfl)) (fun _ _ _ h=>h) (Or.inl ⟨by rfl,?_⟩) ?_ ?_
      rotate_left
      ·intro w'
       go_simp
       with_reducible rfl
      rotate_left
      ·simp only [Act.put,List.setIfInBounds_toArray,List.set_cons_zero,List.set_cons_succ,i64_w,i32_w]
       rfl
      refine pure_ (i:=6) (N:=some 27) (v:=?_) (a':=?_) #[true,true,true,true,true,true,true,false,true,false,false] rfl rfl (any_of HT_.out (by kernel_rfl)) (fun _ _ _ h=>h) (Or.inl ⟨by rfl,?_⟩) ?_ ?_
      rotate_left
      ·intro w'
       go_simp
       with_reducible rfl
      rotate_left
      ·simp only [Act.put,List.setIfInBounds_toArray,List.set_cons_zero,List.set_cons_succ,i64_w,i32_w]
       rfl
      refine pure_ (i:=7) (N:=some 28) (v:=?_) (a':=?_) #[true,true,true,true,true,true,true,true,true,false,false] rfl rfl (any_of HT_.out (by kernel_rfl)) (fun _ _ _ h=>h) (Or.inl ⟨by rfl,?_⟩) ?_ ?_
      rotate_left
      ·intro w'
       go_simp
       with_reducible rfl
      rotate_left
      ·simp only [Act.put,List.setIfInBounds_toArray,List.set_cons_zero,List.set_cons_succ,i64_w,i32_w]
       rfl
      exact norm_ (by simp only [putAll,Act.put,List.setIfInBounds_toArray,List.set_cons_zero,List.set_cons_succ]) (hCont (.slice Ao26 t196.length co26,v206,gb209) _ ⟨hHeld,(by (repeat with_reducible first|apply rA|apply rN|apply rD);exact Kd.R_mono HO198.out (fun _ hk=>hk.2)),(by (repeat with_reducible first|apply rA|apply rN|apply rD);exact Kd.R_mono HO207.out (fun _ hk=>hk.2)),(by (repeat with_reducible first|apply bN|apply bD|apply bA);exact BK191.out),(by (repeat with_reducible first|apply bN|apply bD|apply bA);exact BK192.out),(by (repeat with_reducible first|apply bN|apply bD|apply bA);exact BK209.out),GW209.out,GE209.out,NB191_209.out,NB209_191.out,NB192_209.out,NB209_192.out,(by repeat (with_reducible first|exact HB.out|apply eA|apply eN|apply eD|refine eS ?_ (Aside0.out ‹_›)))⟩)
    ·skip
     refine box_step ?hg (N:=6) ?hd (cs:=#[.int .i64 0,.int .i64 0,.slice none 0 0]) (t:=29) ?hr ?_;(case hd=>rfl);(case hg=>rfl);(case hr=>first|(go_simp;done)|(go_simp;rfl))
     intro gb209 hg w24 hbox hb
     have n0_:=Aside0.mk (Kd.R_below (by (repeat with_reducible first|apply rA|apply rN|apply rD);exact HO198.out) hb)
     have n1_:=(bB (by (repeat with_reducible first|apply bN|apply bD|apply bA);exact BK191.out) hb)
     have n2_:=(bB (by (repeat with_reducible first|apply bN|apply bD|apply bA);exact BK192.out) hb)
     have n3_:=Aside0.mk (below_step (by repeat (with_reducible first|exact HB.out|apply eA|apply eN|apply eD|refine eS ?_ (Aside0.out ‹_›))) hb)
     have n4_:=Aside0.mk (hbox)
     have n5_:=Aside0.mk ((by rw [hg];exact (below_size (by repeat (with_reducible first|exact HB.out|apply eA|apply eN|apply eD|refine eS ?_ (Aside0.out ‹_›)))) : w.heap.size ≤ gb209))
     have n6_:=Aside0.mk ((by rw [hg];exact (below_size (by repeat (with_reducible first|exact HB.out|apply eA|apply eN|apply eD|refine eS ?_ (Aside0.out ‹_›)))) : w.heap.size ≤ gb209))
     have n7_:=Aside0.mk ((by rw [hg];exact Nat.ne_of_lt (blk_lt (by (repeat with_reducible first|apply bN|apply bD|apply bA);exact BK191.out)) : gb191 ≠ gb209))
     have n8_:=Aside0.mk ((by rw [hg];exact Nat.ne_of_gt (blk_lt (by (repeat with_reducible first|apply bN|apply bD|apply bA);exact BK191.out)) : gb209 ≠ gb191))
     have n9_:=Aside0.mk ((by rw [hg];exact Nat.ne_of_lt (blk_lt (by (repeat with_reducible first|apply bN|apply bD|apply bA);exact BK192.out)) : gb192 ≠ gb209))
     have n10_:=Aside0.mk ((by rw [hg];exact Nat.ne_of_gt (blk_lt (by (repeat with_reducible first|apply bN|apply bD|apply bA);exact BK192.out)) : gb209 ≠ gb192))
     clear HO198
     clear BK191
     clear BK192
     clear HB
     have HO198:=n0_
     have BK191:=n1_
     have BK192:=n2_
     have HB:=n3_
     have BK209:=n4_
     have GW209:=n5_
     have GE209:=n6_
     have NB191_209:=n7_
     have NB209_191:=n8_
     have NB192_209:=n9_
     have NB209_192:=n10_
     clear n0_ n1_ n2_ n3_ n4_ n5_ n6_ n7_ n8_ n9_ n10_
     clear hb hbox hg
     refine hK.out _ _ ⟨(bC BK191 0).trans rfl,(bC BK191 1).trans rfl,(bC BK191 2).trans rfl,(bC BK192 0).trans rfl,(bC BK192 1).trans rfl,(bC BK192 2).trans rfl,(bC BK192 3).trans rfl⟩ (fun hHeld=>?_)
     clear hK K
     refine norm_ (a':=?_) ?_ ?_
     rotate_left
     ·show Act.put _ (some 6) _ = _
      simp only [Act.put,List.setIfInBounds_toArray,List.set_cons_zero,List.set_cons_succ,i64_w,i32_w]
      rfl
     refine one_ (i:=3) (N:=some 25) #[true,true,true,true,false,false,false,false,true,false,false] rfl rfl (one_of HT_.out (by kernel_rfl)) (by decide) (fun K hK=>?_)
     refine goes_ Try.func12 (by kernel_rfl) rfl #[.agg #[.int .i64 a1_0,.int .i64 a1_1,.int .i64 a1_2,.int .i64 a1_3]] (by rfl) rfl rfl (by (try simp only [List.map_toArray,List.map_cons,List.map_nil]);first|done|rfl) ?_
     with_reducible refine (laws_toClue.calls a1_0 a1_1 a1_2 a1_3 t199 t200 t201 t202 _ A11.out).mono ?_
     rintro e w25 ⟨rfl,hb⟩
     refine ⟨_,rfl,?_⟩
     have n0_:=Aside0.mk (Kd.R_below (by (repeat with_reducible first|apply rA|apply rN|apply rD);exact HO198.out) hb)
     have n1_:=(bB (by (repeat with_reducible first|apply bN|apply bD|apply bA);exact BK191.out) hb)
     have n2_:=(bB (by (repeat with_reducible first|apply bN|apply bD|apply bA);exact BK192.out) hb)
     have n3_:=(bB (by (repeat with_reducible first|apply bN|apply bD|apply bA);exact BK209.out) hb)
     have n4_:=Aside0.mk (below_step (by repeat (with_reducible first|exact HB.out|apply eA|apply eN|apply eD|refine eS ?_ (Aside0.out ‹_›))) hb)
     clear HO198
     clear BK191
     clear BK192
     clear BK209
     clear HB
     have HO198:=n0_
     have BK191:=n1_
     have BK192:=n2_
     have BK209:=n3_
     have HB:=n4_
     clear n0_ n1_ n2_ n3_ n4_
     (try clear hb)
     (try clear hb2)
     (try clear hk)
     (try clear hi)
     obtain ⟨Ao26,co26,eo26⟩:=Kd.R_slice HO198.out
     (first|subst eo26|(injection eo26 with f1_ f2_ f3_;have f4_:=f1_.symm;have f5_:=f3_.symm;clear f1_ f2_ f3_;subst f4_;subst f5_))
     refine hK.out _ _ ⟨(bC BK191 0).trans rfl,(bC BK191 1).trans rfl,(bC BK191 2).trans rfl,(bC BK192 0).trans rfl,(bC BK192 1).trans rfl,(bC BK192 2).trans rfl,(bC BK192 3).trans rfl⟩ (fun hHeld=>?_)
     clear hK K
     refine norm_ (a':=?_) ?_ ?_
     rotate_left
     ·show Act.put _ (some 25) _ = _
      simp only [Act.put,List.setIfInBounds_toArray,List.set_cons_zero,List.set_cons_succ,i64_w,i32_w]
      rfl
     refine one_ (i:=4) (N:=some 26) #[true,true,true,true,true,false,false,false,true,false,false] rfl rfl (one_of HT_.out (by kernel_rfl)) (by decide) (fun K hK=>?_)
     refine goes_ Try.func11 (by kernel_rfl) rfl #[.agg #[.int .i64 t194,.int .i64 t195,.slice Ao26 t196.length co26],.agg #[.int .i64 t199,.int .i64 t200,.int .i64 t201,.int .i64 t202]] (by rfl) rfl rfl (by (try simp only [List.map_toArray,List.map_cons,List.map_nil]);first|done|rfl) ?_
     with_reducible refine (spec_AddClue.calls k t194 t195 _ _ t196 t199 t200 t201 t202 t203 t204 t205 t208 _ ?side1 ?side2 A12.out).mono ?_
     (case side1=>repeat (first|exact (Kd.R_reads' HO198.out).2.2|(with_reducible refine Kd.C_alloc ?_ _)|(with_reducible refine Kd.C_drewN ?_ _)|(with_reducible refine Kd.C_drew ?_)))
     (case side2=>exact (Kd.R_reads' HO198.out).2.1)
     rintro e w27 ⟨v206,rfl,ho0,hb⟩
     refine ⟨_,rfl,?_⟩
     have n0_:=Aside0.mk (Kd.R_elder' (by (repeat with_reducible first|apply rA|apply rN|apply rD);exact HO198.out) (Kd.R_base ho0) hb)
     have n1_:=Aside0.mk (rL (rW ho0 (Kd.R_lt (by (repeat with_reducible first|apply rA|apply rN|apply rD);exact HO198.out))) (below_size (by repeat (with_reducible first|exact HB.out|apply eA|apply eN|apply eD|refine eS ?_ (Aside0.out ‹_›)))))
     have n2_:=(bB (by (repeat with_reducible first|apply bN|apply bD|apply bA);exact BK191.out) hb)
     have n3_:=(bB (by (repeat with_reducible first|apply bN|apply bD|apply bA);exact BK192.out) hb)
     have n4_:=(bB (by (repeat with_reducible first|apply bN|apply bD|apply bA);exact BK209.out) hb)
     have n5_:=Aside0.mk (below_step (by repeat (with_reducible first|exact HB.out|apply eA|apply eN|apply eD|refine eS ?_ (Aside0.out ‹_›))) hb)
     clear HO198
     clear BK191
     clear BK192
     clear BK209
     clear HB
     have HO198:=n0_
     have HO207:=n1_
     have BK191:=n2_
     have BK192:=n3_
     have BK209:=n4_
     have HB:=n5_
     clear n0_ n1_ n2_ n3_ n4_ n5_
     (try clear hb)
     (try clear hb2)
     (try clear hk)
     (try clear hi)
     (try clear ho0)
     refine hK.out _ _ ⟨(bC BK191 0).trans rfl,(bC BK191 1).trans rfl,(bC BK191 2).trans rfl,(bC BK192 0).trans rfl,(bC BK192 1).trans rfl,(bC BK192 2).trans rfl,(bC BK192 3).trans rfl⟩ (fun hHeld=>?_)
     clear hK K
     refine norm_ (a':=?_) ?_ ?_
     rotate_left
     ·show Act.put _ (some 26) _ = _
      simp only [Act.put,List.setIfInBounds_toArray,List.set_cons_zero,List.set_cons_succ,i64_w,i32_w]
      rfl
     refine pure_ (i:=5) (N:=some 21) (v:=?_) (a':=?_) #[true,true,true,true,true,true,false,false,true,false,false] rfl rfl (any_of HT_.out (by kernel_rfl)) (fun _ _ _ h=>h) (Or.inl ⟨by rfl,?_⟩) ?_ ?_
     rotate_left
     ·intro w'
      go_simp
      with_reducible rfl
     rotate_left
     ·simp only [Act.put,List.setIfInBounds_toArray,List.set_cons_zero,List.set_cons_succ,i64_w,i32_w]
      rfl
     refine pure_ (i:=6) (N:=some 27) (v:=?_) (a':=?_) #[true,true,true,true,true,true,true,false,true,false,false] rfl rfl (any_of HT_.out (by kernel_rfl)) (fun _ _ _ h=>h) (Or.inl ⟨by rfl,?_⟩) ?_ ?_
     rotate_left
     ·intro w'
      go_simp
      with_reducible rfl
     rotate_left
     ·simp only [Act.put,List.setIfInBounds_toArray,List.set_cons_zero,List.set_cons_succ,i64_w,i32_w]
      rfl
     refine pure_ (i:=7) (N:=some 28) (v:=?_) (a':=?_) #[true,true,true,true,true,true,true,true,true,false,false] rfl rfl (any_of HT_.out (by kernel_rfl)) (fun _ _ _ h=>h) (Or.inl ⟨by rfl,?_⟩) ?_ ?_
     rotate_left
     ·intro w'
      go_simp
      with_reducible rfl
     rotate_left
     ·simp only [Act.put,List.setIfInBounds_toArray,List.set_cons_zero,List.set_cons_succ,i64_w,i32_w]
      rfl
     exact norm_ (by simp only [putAll,Act.put,List.setIfInBounds_toArray,List.set_cons_zero,List.set_cons_succ]) (hCont (.slice Ao26 t196.length co26,v206,gb209) _ ⟨hHeld,(by (repeat with_reducible first|apply rA|apply rN|apply rD);exact Kd.R_mono HO198.out (fun _ hk=>hk.2)),(by (repeat with_reducible first|apply rA|apply rN|apply rD);exact Kd.R_mono HO207.out (fun _ hk=>hk.2)),(by (repeat with_reducible first|apply bN|apply bD|apply bA);exact BK191.out),(by (repeat with_reducible first|apply bN|apply bD|apply bA);exact BK192.out),(by (repeat with_reducible first|apply bN|apply bD|apply bA);exact BK209.out),GW209.out,GE209.out,NB191_209.out,NB209_191.out,NB192_209.out,NB209_192.out,(by repeat (with_reducible first|exact HB.out|apply eA|apply eN|apply eD|refine eS ?_ (Aside0.out ‹_›)))⟩)
   ·skip
    refine box_step ?hg (N:=6) ?hd (cs:=#[.int .i64 0,.int .i64 0,.slice none 0 0]) (t:=29) ?hr ?_;(case hd=>rfl);(case hg=>rfl);(case hr=>first|(go_simp;done)|(go_simp;rfl))
    intro gb209 hg w23 hbox hb
    have n0_:=(bB (by (repeat with_reducible first|apply bN|apply bD|apply bA);exact BK191.out) hb)
    have n1_:=(bB (by (repeat with_reducible first|apply bN|apply bD|apply bA);exact BK192.out) hb)
    have n2_:=Aside0.mk (below_step (by repeat (with_reducible first|exact HB.out|apply eA|apply eN|apply eD|refine eS ?_ (Aside0.out ‹_›))) hb)
    have n3_:=Aside0.mk (hbox)
    have n4_:=Aside0.mk ((by rw [hg];exact (below_size (by repeat (with_reducible first|exact HB.out|apply eA|apply eN|apply eD|refine eS ?_ (Aside0.out ‹_›)))) : w.heap.size ≤ gb209))
    have n5_:=Aside0.mk ((by rw [hg];exact (below_size (by repeat (with_reducible first|exact HB.out|apply eA|apply eN|apply eD|refine eS ?_ (Aside0.out ‹_›)))) : w.heap.size ≤ gb209))
    have n6_:=Aside0.mk ((by rw [hg];exact Nat.ne_of_lt (blk_lt (by (repeat with_reducible first|apply bN|apply bD|apply bA);exact BK191.out)) : gb191 ≠ gb209))
    have n7_:=Aside0.mk ((by rw [hg];exact Nat.ne_of_gt (blk_lt (by (repeat with_reducible first|apply bN|apply bD|apply bA);exact BK191.out)) : gb209 ≠ gb191))
    have n8_:=Aside0.mk ((by rw [hg];exact Nat.ne_of_lt (blk_lt (by (repeat with_reducible first|apply bN|apply bD|apply bA);exact BK192.out)) : gb192 ≠ gb209))
    have n9_:=Aside0.mk ((by rw [hg];exact Nat.ne_of_gt (blk_lt (by (repeat with_reducible first|apply bN|apply bD|apply bA);exact BK192.out)) : gb209 ≠ gb192))
    clear BK191
    clear BK192
    clear HB
    have BK191:=n0_
    have BK192:=n1_
    have HB:=n2_
    have BK209:=n3_
    have GW209:=n4_
    have GE209:=n5_
    have NB191_209:=n6_
    have NB209_191:=n7_
    have NB192_209:=n8_
    have NB209_192:=n9_
    clear n0_ n1_ n2_ n3_ n4_ n5_ n6_ n7_ n8_ n9_
    clear hb hbox hg
    refine hK.out _ _ ⟨(bC BK191 0).trans rfl,(bC BK191 1).trans rfl,(bC BK191 2).trans rfl,(bC BK192 0).trans rfl,(bC BK192 1).trans rfl,(bC BK192 2).trans rfl,(bC BK192 3).trans rfl⟩ (fun hHeld=>?_)
    clear hK K
    refine norm_ (a':=?_) ?_ ?_
    rotate_left
    ·show Act.put _ (some 6) _ = _
     simp only [Act.put,List.setIfInBounds_toArray,List.set_cons_zero,List.set_cons_succ,i64_w,i32_w]
     rfl
    refine one_ (i:=1) (N:=some 23) #[true,true,true,false,false,false,false,false,true,false,false] rfl rfl (one_of HT_.out (by kernel_rfl)) (by decide) (fun K hK=>?_)
    refine goes_ Try.func8 (by kernel_rfl) rfl #[.agg #[.int .i64 a0_0,.int .i64 a0_1,.slice A0_2 l0_2.length c0_2]] (by rfl) rfl rfl (by (try simp only [List.map_toArray,List.map_cons,List.map_nil]);first|done|rfl) ?_
    with_reducible refine (laws_toPuzzle.calls k a0_0 a0_1 _ _ l0_2 t194 t195 t196 _ ?side1 ?side2 A10.out).mono ?_
    (case side1=>repeat (first|exact (Kd.C_below HR0_2.out HB.out)|(with_reducible refine Kd.C_alloc ?_ _)|(with_reducible refine Kd.C_drewN ?_ _)|(with_reducible refine Kd.C_drew ?_)))
    (case side2=>exact HC0_2.out)
    rintro e w24 ⟨v197,rfl,ho0,hb⟩
    refine ⟨_,rfl,?_⟩
    have n0_:=Aside0.mk (rL ho0 (below_size (by repeat (with_reducible first|exact HB.out|apply eA|apply eN|apply eD|refine eS ?_ (Aside0.out ‹_›)))))
    have n1_:=(bB (by (repeat with_reducible first|apply bN|apply bD|apply bA);exact BK191.out) hb)
    have n2_:=(bB (by (repeat with_reducible first|apply bN|apply bD|apply bA);exact BK192.out) hb)
    have n3_:=(bB (by (repeat with_reducible first|apply bN|apply bD|apply bA);exact BK209.out) hb)
    have n4_:=Aside0.mk (below_step (by repeat (with_reducible first|exact HB.out|apply eA|apply eN|apply eD|refine eS ?_ (Aside0.out ‹_›))) hb)
    clear BK191
    clear BK192
    clear BK209
    clear HB
    have HO198:=n0_
    have BK191:=n1_
    have BK192:=n2_
    have BK209:=n3_
    have HB:=n4_
    clear n0_ n1_ n2_ n3_ n4_
    (try clear hb)
    (try clear hb2)
    (try clear hk)
    (try clear hi)
    (try clear ho0)
    refine hK.out _ _ ⟨(bC BK191 0).trans rfl,(bC BK191 1).trans rfl,(bC BK191 2).trans rfl,(bC BK192 0).trans rfl,(bC BK192 1).trans rfl,(bC BK192 2).trans rfl,(bC BK192 3).trans rfl⟩ (fun hHeld=>?_)
    clear hK K
    refine norm_ (a':=?_) ?_ ?_
    rotate_left
    ·show Act.put _ (some 23) _ = _
     simp only [Act.put,List.setIfInBounds_toArray,List.set_cons_zero,List.set_cons_succ,i64_w,i32_w]
     rfl
    refine one_ (i:=3) (N:=some 25) #[true,true,true,true,false,false,false,false,true,false,false] rfl rfl (one_of HT_.out (by kernel_rfl)) (by decide) (fun K hK=>?_)
    refine goes_ Try.func12 (by kernel_rfl) rfl #[.agg #[.int .i64 a1_0,.int .i64 a1_1,.int .i64 a1_2,.int .i64 a1_3]] (by rfl) rfl rfl (by (try simp only [List.map_toArray,List.map_cons,List.map_nil]);first|done|rfl) ?_
    with_reducible refine (laws_toClue.calls a1_0 a1_1 a1_2 a1_3 t199 t200 t201 t202 _ A11.out).mono ?_
    rintro e w25 ⟨rfl,hb⟩
    refine ⟨_,rfl,?_⟩
    have n0_:=Aside0.mk (Kd.R_below (by (repeat with_reducible first|apply rA|apply rN|apply rD);exact HO198.out) hb)
    have n1_:=(bB (by (repeat with_reducible first|apply bN|apply bD|apply bA);exact BK191.out) hb)
    have n2_:=(bB (by (repeat with_reducible first|apply bN|apply bD|apply bA);exact BK192.out) hb)
    have n3_:=(bB (by (repeat with_reducible first|apply bN|apply bD|apply bA);exact BK209.out) hb)
    have n4_:=Aside0.mk (below_step (by repeat (with_reducible first|exact HB.out|apply eA|apply eN|apply eD|refine eS ?_ (Aside0.out ‹_›))) hb)
    clear HO198
    clear BK191
    clear BK192
    clear BK209
    clear HB
    have HO198:=n0_
    have BK191:=n1_
    have BK192:=n2_
    have BK209:=n3_
    have HB:=n4_
    clear n0_ n1_ n2_ n3_ n4_
    (try clear hb)
    (try clear hb2)
    (try clear hk)
    (try clear hi)
    obtain ⟨Ao26,co26,eo26⟩:=Kd.R_slice HO198.out
    (first|subst eo26|(injection eo26 with f1_ f2_ f3_;have f4_:=f1_.symm;have f5_:=f3_.symm;clear f1_ f2_ f3_;subst f4_;subst f5_))
    refine hK.out _ _ ⟨(bC BK191 0).trans rfl,(bC BK191 1).trans rfl,(bC BK191 2).trans rfl,(bC BK192 0).trans rfl,(bC BK192 1).trans rfl,(bC BK192 2).trans rfl,(bC BK192 3).trans rfl⟩ (fun hHeld=>?_)
    clear hK K
    refine norm_ (a':=?_) ?_ ?_
    rotate_left
    ·show Act.put _ (some 25) _ = _
     simp only [Act.put,List.setIfInBounds_toArray,List.set_cons_zero,List.set_cons_succ,i64_w,i32_w]
     rfl
    refine one_ (i:=4) (N:=some 26) #[true,true,true,true,true,false,false,false,true,false,false] rfl rfl (one_of HT_.out (by kernel_rfl)) (by decide) (fun K hK=>?_)
    refine goes_ Try.func11 (by kernel_rfl) rfl #[.agg #[.int .i64 t194,.int .i64 t195,.slice Ao26 t196.length co26],.agg #[.int .i64 t199,.int .i64 t200,.int .i64 t201,.int .i64 t202]] (by rfl) rfl rfl (by (try simp only [List.map_toArray,List.map_cons,List.map_nil]);first|done|rfl) ?_
    with_reducible refine (spec_AddClue.calls k t194 t195 _ _ t196 t199 t200 t201 t202 t203 t204 t205 t208 _ ?side1 ?side2 A12.out).mono ?_
    (case side1=>repeat (first|exact (Kd.R_reads' HO198.out).2.2|(with_reducible refine Kd.C_alloc ?_ _)|(with_reducible refine Kd.C_drewN ?_ _)|(with_reducible refine Kd.C_drew ?_)))
    (case side2=>exact (Kd.R_reads' HO198.out).2.1)
    rintro e w27 ⟨v206,rfl,ho0,hb⟩
    refine ⟨_,rfl,?_⟩
    have n0_:=Aside0.mk (Kd.R_elder' (by (repeat with_reducible first|apply rA|apply rN|apply rD);exact HO198.out) (Kd.R_base ho0) hb)
    have n1_:=Aside0.mk (rL (rW ho0 (Kd.R_lt (by (repeat with_reducible first|apply rA|apply rN|apply rD);exact HO198.out))) (below_size (by repeat (with_reducible first|exact HB.out|apply eA|apply eN|apply eD|refine eS ?_ (Aside0.out ‹_›)))))
    have n2_:=(bB (by (repeat with_reducible first|apply bN|apply bD|apply bA);exact BK191.out) hb)
    have n3_:=(bB (by (repeat with_reducible first|apply bN|apply bD|apply bA);exact BK192.out) hb)
    have n4_:=(bB (by (repeat with_reducible first|apply bN|apply bD|apply bA);exact BK209.out) hb)
    have n5_:=Aside0.mk (below_step (by repeat (with_reducible first|exact HB.out|apply eA|apply eN|apply eD|refine eS ?_ (Aside0.out ‹_›))) hb)
    clear HO198
    clear BK191
    clear BK192
    clear BK209
    clear HB
    have HO198:=n0_
    have HO207:=n1_
    have BK191:=n2_
    have BK192:=n3_
    have BK209:=n4_
    have HB:=n5_
    clear n0_ n1_ n2_ n3_ n4_ n5_
    (try clear hb)
    (try clear hb2)
    (try clear hk)
    (try clear hi)
    (try clear ho0)
    refine hK.out _ _ ⟨(bC BK191 0).trans rfl,(bC BK191 1).trans rfl,(bC BK191 2).trans rfl,(bC BK192 0).trans rfl,(bC BK192 1).trans rfl,(bC BK192 2).trans rfl,(bC BK192 3).trans rfl⟩ (fun hHeld=>?_)
    clear hK K
    refine norm_ (a':=?_) ?_ ?_
    rotate_left
    ·show Act.put _ (some 26) _ = _
     simp only [Act.put,List.setIfInBounds_toArray,List.set_cons_zero,List.set_cons_succ,i64_w,i32_w]
     rfl
    refine pure_ (i:=5) (N:=some 21) (v:=?_) (a':=?_) #[true,true,true,true,true,true,false,false,true,false,false] rfl rfl (any_of HT_.out (by kernel_rfl)) (fun _ _ _ h=>h) (Or.inl ⟨by rfl,?_⟩) ?_ ?_
    rotate_left
    ·intro w'
     go_simp
     with_reducible rfl
    rotate_left
    ·simp only [Act.put,List.setIfInBounds_toArray,List.set_cons_zero,List.set_cons_succ,i64_w,i32_w]
     rfl
    refine pure_ (i:=6) (N:=some 27) (v:=?_) (a':=?_) #[true,true,true,true,true,true,true,false,true,false,false] rfl rfl (any_of HT_.out (by kernel_rfl)) (fun _ _ _ h=>h) (Or.inl ⟨by rfl,?_⟩) ?_ ?_
    rotate_left
    ·intro w'
     go_simp
     with_reducible rfl
    rotate_left
    ·simp only [Act.put,List.setIfInBounds_toArray,List.set_cons_zero,List.set_cons_succ,i64_w,i32_w]
     rfl
    refine pure_ (i:=7) (N:=some 28) (v:=?_) (a':=?_) #[true,true,true,true,true,true,true,true,true,false,false] rfl rfl (any_of HT_.out (by kernel_rfl)) (fun _ _ _ h=>h) (Or.inl ⟨by rfl,?_⟩) ?_ ?_
    rotate_left
    ·intro w'
     go_simp
     with_reducible rfl
    rotate_left
    ·simp only [Act.put,List.setIfInBounds_toArray,List.set_cons_zero,List.set_cons_succ,i64_w,i32_w]
     rfl
    exact norm_ (by simp only [putAll,Act.put,List.setIfInBounds_toArray,List.set_cons_zero,List.set_cons_succ]) (hCont (.slice Ao26 t196.length co26,v206,gb209) _ ⟨hHeld,(by (repeat with_reducible first|apply rA|apply rN|apply rD);exact Kd.R_mono HO198.out (fun _ hk=>hk.2)),(by (repeat with_reducible first|apply rA|apply rN|apply rD);exact Kd.R_mono HO207.out (fun _ hk=>hk.2)),(by (repeat with_reducible first|apply bN|apply bD|apply bA);exact BK191.out),(by (repeat with_reducible first|apply bN|apply bD|apply bA);exact BK192.out),(by (repeat with_reducible first|apply bN|apply bD|apply bA);exact BK209.out),GW209.out,GE209.out,NB191_209.out,NB209_191.out,NB192_209.out,NB209_192.out,(by repeat (with_reducible first|exact HB.out|apply eA|apply eN|apply eD|refine eS ?_ (Aside0.out ‹_›)))⟩)
  rintro ⟨v197,v206,gb209⟩ w28 ⟨hS_,h0_,h1_,h2_,h3_,h4_,h5_,h6_,h7_,h8_,h9_,h10_,h11_⟩
  have n0_ : Aside0 (Kd.R k37 37 w28 w.heap.size (fun k_=>some k_ ≠ (v206 : Value).ownBlock) v197 t196):=⟨h0_⟩
  have n1_ : Aside0 (Kd.R k37 37 w28 w.heap.size (fun k_=>some k_ ≠ (v197 : Value).ownBlock) v206 t205):=⟨h1_⟩
  have n2_ : Aside0 (w28.heap[gb191]? = some (.cells #[.int .i64 a0_0,.int .i64 a0_1,.slice A0_2 l0_2.length c0_2] 24 (0,0))):=⟨h2_⟩
  have n3_ : Aside0 (w28.heap[gb192]? = some (.cells #[.int .i64 a1_0,.int .i64 a1_1,.int .i64 a1_2,.int .i64 a1_3] 34 (0,0))):=⟨h3_⟩
  have n4_ : Aside0 (w28.heap[gb209]? = some (.cells #[.int .i64 0,.int .i64 0,.slice none 0 0] 29 (0,0))):=⟨h4_⟩
  have n5_ : Aside0 (w.heap.size ≤ gb209):=⟨h5_⟩
  have n6_ : Aside0 (w.heap.size ≤ gb209):=⟨h6_⟩
  have n7_ : Aside0 (gb191 ≠ gb209):=⟨h7_⟩
  have n8_ : Aside0 (gb209 ≠ gb191):=⟨h8_⟩
  have n9_ : Aside0 (gb192 ≠ gb209):=⟨h9_⟩
  have n10_ : Aside0 (gb209 ≠ gb192):=⟨h10_⟩
  have n11_ : Aside0 (Below w.heap.size w w28):=⟨h11_⟩
  clear BK191
  clear BK192
  clear HB
  clear h0_ h1_ h2_ h3_ h4_ h5_ h6_ h7_ h8_ h9_ h10_ h11_
  have HO198:=n0_
  have HO207:=n1_
  have BK191:=n2_
  have BK192:=n3_
  have BK209:=n4_
  have GW209:=n5_
  have GE209:=n6_
  have NB191_209:=n7_
  have NB209_191:=n8_
  have NB192_209:=n9_
  have NB209_192:=n10_
  have HB:=n11_
  clear n0_ n1_ n2_ n3_ n4_ n5_ n6_ n7_ n8_ n9_ n10_ n11_
  have hHeld : w28.cell? ⟨gb191,0,none⟩ = some (.int .i64 a0_0) ∧ w28.cell? ⟨gb191,1,none⟩ = some (.int .i64 a0_1) ∧ w28.cell? ⟨gb191,2,none⟩ = some (.slice A0_2 l0_2.length c0_2) ∧ w28.cell? ⟨gb192,0,none⟩ = some (.int .i64 a1_0) ∧ w28.cell? ⟨gb192,1,none⟩ = some (.int .i64 a1_1) ∧ w28.cell? ⟨gb192,2,none⟩ = some (.int .i64 a1_2) ∧ w28.cell? ⟨gb192,3,none⟩ = some (.int .i64 a1_3):=hS_
  obtain ⟨Ao31,co31,eo31⟩:=Kd.R_slice HO207.out
  (first|subst eo31|(injection eo31 with f1_ f2_ f3_;have f4_:=f1_.symm;have f5_:=f3_.symm;clear f1_ f2_ f3_;subst f4_;subst f5_))
  refine norm_ (a':=?_) ?_ ?_
  rotate_left
  ·simp only [putAll,Act.put,List.setIfInBounds_toArray,List.set_cons_zero,List.set_cons_succ]
   rfl
  refine one_ (i:=9) (N:=none) #[true,true,true,true,true,true,true,true,true,true,false] rfl rfl (one_of HT_.out (by kernel_rfl)) (by decide) (fun K hK=>?_)
  have hs29 : w28.cell? ⟨gb209,0,none⟩ = some (.int .i64 0):=(bC BK209 0).trans rfl
  have hfs29:=blk_frozen BK209.out 0
  have hns29_0:=NB191_209.out
  have hns29_1:=NB192_209.out
  have hms29_0:=NB209_191.out
  have hms29_1:=NB209_192.out
  have hs30 : w28.cell? ⟨gb209,1,none⟩ = some (.int .i64 0):=(bC BK209 1).trans rfl
  have hfs30:=blk_frozen BK209.out 1
  have hns30_0:=NB191_209.out
  have hns30_1:=NB192_209.out
  have hms30_0:=NB209_191.out
  have hms30_1:=NB209_192.out
  have hs32 : w28.cell? ⟨gb209,2,none⟩ = some (.slice none 0 0):=(bC BK209 2).trans rfl
  have hfs32:=blk_frozen BK209.out 2
  have hns32_0:=NB191_209.out
  have hns32_1:=NB192_209.out
  have hms32_0:=NB209_191.out
  have hms32_1:=NB209_192.out
  refine skip_ (w1:=?_) (by rfl) rfl ?_ ?_
  rotate_left
  ·go_simp
   rfl
  refine hK.out _ _ ⟨((cell_far (p:=⟨gb209,_,none⟩) NB191_209.out _).trans (((cell_far (p:=⟨gb209,_,none⟩) NB191_209.out _).trans (((cell_far (p:=⟨gb209,_,none⟩) NB191_209.out _).trans (hHeld.1)))))),((cell_far (p:=⟨gb209,_,none⟩) NB191_209.out _).trans (((cell_far (p:=⟨gb209,_,none⟩) NB191_209.out _).trans (((cell_far (p:=⟨gb209,_,none⟩) NB191_209.out _).trans (hHeld.2.1)))))),((cell_far (p:=⟨gb209,_,none⟩) NB191_209.out _).trans (((cell_far (p:=⟨gb209,_,none⟩) NB191_209.out _).trans (((cell_far (p:=⟨gb209,_,none⟩) NB191_209.out _).trans (hHeld.2.2.1)))))),((cell_far (p:=⟨gb209,_,none⟩) NB192_209.out _).trans (((cell_far (p:=⟨gb209,_,none⟩) NB192_209.out _).trans (((cell_far (p:=⟨gb209,_,none⟩) NB192_209.out _).trans (hHeld.2.2.2.1)))))),((cell_far (p:=⟨gb209,_,none⟩) NB192_209.out _).trans (((cell_far (p:=⟨gb209,_,none⟩) NB192_209.out _).trans (((cell_far (p:=⟨gb209,_,none⟩) NB192_209.out _).trans (hHeld.2.2.2.2.1)))))),((cell_far (p:=⟨gb209,_,none⟩) NB192_209.out _).trans (((cell_far (p:=⟨gb209,_,none⟩) NB192_209.out _).trans (((cell_far (p:=⟨gb209,_,none⟩) NB192_209.out _).trans (hHeld.2.2.2.2.2.1)))))),((cell_far (p:=⟨gb209,_,none⟩) NB192_209.out _).trans (((cell_far (p:=⟨gb209,_,none⟩) NB192_209.out _).trans (((cell_far (p:=⟨gb209,_,none⟩) NB192_209.out _).trans (hHeld.2.2.2.2.2.2))))))⟩ (fun hHeld=>?_)
  clear hK K
  refine pure_ (i:=10) (N:=some 7) (v:=?_) (a':=?_) #[true,true,true,true,true,true,true,true,true,true,true] rfl rfl (any_of HT_.out (by kernel_rfl)) (fun _ _ _ h=>h) (Or.inl ⟨by rfl,?_⟩) ?_ ?_
  rotate_left
  ·intro w'
   go_simp
   with_reducible rfl
  rotate_left
  ·simp only [Act.put,List.setIfInBounds_toArray,List.set_cons_zero,List.set_cons_succ,i64_w,i32_w]
   rfl
  refine done_ (done_of HT_.out (by kernel_rfl)) ?_
  have hnb33:=NB191_209.out
  have hnc33:=NB209_191.out
  have hcz34_0 : w28.cell? ⟨gb191,0,none⟩ = some (.int .i64 a0_0):=(bC BK191 0).trans rfl
  have hcz34_1 : w28.cell? ⟨gb191,1,none⟩ = some (.int .i64 a0_1):=(bC BK191 1).trans rfl
  have hcz34_2 : w28.cell? ⟨gb191,2,none⟩ = some (.slice A0_2 l0_2.length c0_2):=(bC BK191 2).trans rfl
  have hfz34_0:=blk_frozen BK191.out 0
  have hfz34_1:=blk_frozen BK191.out 1
  have hfz34_2:=blk_frozen BK191.out 2
  try go_wp2_with (first|((with_reducible refine gate_callee (f:=8) rfl ?_);refine goesL_ (some 30) rfl rfl Try.func8 (by kernel_rfl) rfl #[.agg #[.int .i64 a0_0,.int .i64 a0_1,.slice A0_2 l0_2.length c0_2]] rfl (by (try simp only [List.map_toArray,List.map_cons,List.map_nil]);first|done|rfl) ?_;(with_reducible refine (laws_toPuzzle.calls k a0_0 a0_1 _ _ l0_2 t210 t211 t212 _ ?side1 ?side2 A13.out).mono ?_);(case side1=>exact Kd.C_below HR0_2.out (by repeat (with_reducible first|exact HB.out|apply eA|apply eN|apply eD|refine eS ?_ (Aside0.out ‹_›))));(case side2=>exact HC0_2.out);rintro e w35 ⟨v213,rfl,ho0,hb⟩;refine ⟨_,rfl,?_⟩;have n0_:=Aside0.mk (Kd.R_elder' (by (repeat with_reducible first|apply rA|apply rN|apply rD);exact (Kd.R_mono (Kd.R_far (p:=⟨gb209,2,none⟩) (Kd.R_far (p:=⟨gb209,1,none⟩) (Kd.R_far (p:=⟨gb209,0,none⟩) (Kd.R_types HO198.out BK209.out (by decide)) (fun _ hk=>hk.2) (.int .i64 t203)) (fun _ hk=>hk.2) (.int .i64 t204)) (fun _ hk=>hk.2) (.slice Ao31 t205.length co31)) (fun _ h_=>h_.1))) (Kd.R_base ho0) hb);have n1_:=Aside0.mk (Kd.R_elder' (by (repeat with_reducible first|apply rA|apply rN|apply rD);exact (Kd.R_mono (Kd.R_far (p:=⟨gb209,2,none⟩) (Kd.R_far (p:=⟨gb209,1,none⟩) (Kd.R_far (p:=⟨gb209,0,none⟩) (Kd.R_types HO207.out BK209.out (by decide)) (fun _ hk=>hk.2) (.int .i64 t203)) (fun _ hk=>hk.2) (.int .i64 t204)) (fun _ hk=>hk.2) (.slice Ao31 t205.length co31)) (fun _ h_=>h_.1))) (Kd.R_base ho0) hb);have n2_:=Aside0.mk (rL (rW (rW ho0 (Kd.R_lt (by (repeat with_reducible first|apply rA|apply rN|apply rD);exact (Kd.R_mono (Kd.R_far (p:=⟨gb209,2,none⟩) (Kd.R_far (p:=⟨gb209,1,none⟩) (Kd.R_far (p:=⟨gb209,0,none⟩) (Kd.R_types HO198.out BK209.out (by decide)) (fun _ hk=>hk.2) (.int .i64 t203)) (fun _ hk=>hk.2) (.int .i64 t204)) (fun _ hk=>hk.2) (.slice Ao31 t205.length co31)) (fun _ h_=>h_.1))))) (Kd.R_lt (by (repeat with_reducible first|apply rA|apply rN|apply rD);exact (Kd.R_mono (Kd.R_far (p:=⟨gb209,2,none⟩) (Kd.R_far (p:=⟨gb209,1,none⟩) (Kd.R_far (p:=⟨gb209,0,none⟩) (Kd.R_types HO207.out BK209.out (by decide)) (fun _ hk=>hk.2) (.int .i64 t203)) (fun _ hk=>hk.2) (.int .i64 t204)) (fun _ hk=>hk.2) (.slice Ao31 t205.length co31)) (fun _ h_=>h_.1))))) (below_size (by repeat (with_reducible first|exact HB.out|apply eA|apply eN|apply eD|refine eS ?_ (Aside0.out ‹_›)))));have n3_:=(bB (g:=gb191) (o:=.cells #[.int .i64 a0_0,.int .i64 a0_1,.slice A0_2 l0_2.length c0_2] 24 (0,0)) (by (repeat with_reducible first|apply bN|apply bD|apply bA);refine blk_far ?_ NB191_209.out _;(repeat with_reducible first|apply bN|apply bD|apply bA);refine blk_far ?_ NB191_209.out _;(repeat with_reducible first|apply bN|apply bD|apply bA);refine blk_far ?_ NB191_209.out _;(repeat with_reducible first|apply bN|apply bD|apply bA);exact BK191.out) hb);have n4_:=(bB (g:=gb192) (o:=.cells #[.int .i64 a1_0,.int .i64 a1_1,.int .i64 a1_2,.int .i64 a1_3] 34 (0,0)) (by (repeat with_reducible first|apply bN|apply bD|apply bA);refine blk_far ?_ NB192_209.out _;(repeat with_reducible first|apply bN|apply bD|apply bA);refine blk_far ?_ NB192_209.out _;(repeat with_reducible first|apply bN|apply bD|apply bA);refine blk_far ?_ NB192_209.out _;(repeat with_reducible first|apply bN|apply bD|apply bA);exact BK192.out) hb);have n5_:=(bB (g:=gb209) (o:=.cells #[.int .i64 t203,.int .i64 t204,.slice Ao31 t205.length co31] 29 (0,0)) (by (repeat with_reducible first|apply bN|apply bD|apply bA);refine blk_put (cs:=#[.int .i64 t203,.int .i64 t204,.slice none 0 0]) ?_ 2 _ rfl;(repeat with_reducible first|apply bN|apply bD|apply bA);refine blk_put (cs:=#[.int .i64 t203,.int .i64 0,.slice none 0 0]) ?_ 1 _ rfl;(repeat with_reducible first|apply bN|apply bD|apply bA);refine blk_put (cs:=#[.int .i64 0,.int .i64 0,.slice none 0 0]) ?_ 0 _ rfl;(repeat with_reducible first|apply bN|apply bD|apply bA);exact BK209.out) hb);have n6_:=Aside0.mk (below_step (by repeat (with_reducible first|exact HB.out|apply eA|apply eN|apply eD|refine eS ?_ (Aside0.out ‹_›))) hb);clear HO198;clear HO207;clear BK191;clear BK192;clear BK209;clear HB;have HO198:=n0_;have HO207:=n1_;have HO214:=n2_;have BK191:=n3_;have BK192:=n4_;have BK209:=n5_;have HB:=n6_;clear n0_ n1_ n2_ n3_ n4_ n5_ n6_;(try clear ho0))|((with_reducible refine gate_dst (N:=8) rfl ?_);refine box_event ?hg (N:=8) ?hd (cs:=#[.int .i64 0,.int .i64 0,.slice none 0 0]) (t:=29) ?hr ?_;(case hd=>rfl);(case hg=>rfl);(case hr=>first|(go_simp;done)|(go_simp;rfl));intro gb215 hg w36 hbox hb;have n0_:=Aside0.mk (Kd.R_below (by (repeat with_reducible first|apply rA|apply rN|apply rD);exact HO198.out) hb);have n1_:=Aside0.mk (Kd.R_below (by (repeat with_reducible first|apply rA|apply rN|apply rD);exact HO207.out) hb);have n2_:=Aside0.mk (Kd.R_below (by (repeat with_reducible first|apply rA|apply rN|apply rD);exact HO214.out) hb);have n3_:=(bB (by (repeat with_reducible first|apply bN|apply bD|apply bA);exact BK191.out) hb);have n4_:=(bB (by (repeat with_reducible first|apply bN|apply bD|apply bA);exact BK192.out) hb);have n5_:=(bB (by (repeat with_reducible first|apply bN|apply bD|apply bA);exact BK209.out) hb);have n6_:=Aside0.mk (below_step (by repeat (with_reducible first|exact HB.out|apply eA|apply eN|apply eD|refine eS ?_ (Aside0.out ‹_›))) hb);have n7_:=Aside0.mk (hbox);have n8_:=Aside0.mk ((by rw [hg];exact (below_size (by repeat (with_reducible first|exact HB.out|apply eA|apply eN|apply eD|refine eS ?_ (Aside0.out ‹_›)))) : w.heap.size ≤ gb215));have n9_:=Aside0.mk ((by rw [hg];exact (below_size (by repeat (with_reducible first|exact HB.out|apply eA|apply eN|apply eD|refine eS ?_ (Aside0.out ‹_›)))) : w.heap.size ≤ gb215));have n10_:=Aside0.mk ((by rw [hg];exact Nat.ne_of_lt (blk_lt (by (repeat with_reducible first|apply bN|apply bD|apply bA);exact BK191.out)) : gb191 ≠ gb215));have n11_:=Aside0.mk ((by rw [hg];exact Nat.ne_of_gt (blk_lt (by (repeat with_reducible first|apply bN|apply bD|apply bA);exact BK191.out)) : gb215 ≠ gb191));have n12_:=Aside0.mk ((by rw [hg];exact Nat.ne_of_lt (blk_lt (by (repeat with_reducible first|apply bN|apply bD|apply bA);exact BK192.out)) : gb192 ≠ gb215));have n13_:=Aside0.mk ((by rw [hg];exact Nat.ne_of_gt (blk_lt (by (repeat with_reducible first|apply bN|apply bD|apply bA);exact BK192.out)) : gb215 ≠ gb192));have n14_:=Aside0.mk ((by rw [hg];exact Nat.ne_of_lt (blk_lt (by (repeat with_reducible first|apply bN|apply bD|apply bA);exact BK209.out)) : gb209 ≠ gb215));have n15_:=Aside0.mk ((by rw [hg];exact Nat.ne_of_gt (blk_lt (by (repeat with_reducible first|apply bN|apply bD|apply bA);exact BK209.out)) : gb215 ≠ gb209));clear HO198;clear HO207;clear HO214;clear BK191;clear BK192;clear BK209;clear HB;have HO198:=n0_;have HO207:=n1_;have HO214:=n2_;have BK191:=n3_;have BK192:=n4_;have BK209:=n5_;have HB:=n6_;have BK215:=n7_;have GW215:=n8_;have GE215:=n9_;have NB191_215:=n10_;have NB215_191:=n11_;have NB192_215:=n12_;have NB215_192:=n13_;have NB209_215:=n14_;have NB215_209:=n15_;clear n0_ n1_ n2_ n3_ n4_ n5_ n6_ n7_ n8_ n9_ n10_ n11_ n12_ n13_ n14_ n15_;clear hb hbox hg;have hnb37:=NB215_191.out;have hnc37:=NB191_215.out;have hnb38:=NB215_192.out;have hnc38:=NB192_215.out;have hnb39:=NB215_209.out;have hnc39:=NB209_215.out;have hcz40_0 : w36.cell? ⟨gb215,0,none⟩ = some (.int .i64 0):=(bC BK215 0).trans rfl;have hcz40_1 : w36.cell? ⟨gb215,1,none⟩ = some (.int .i64 0):=(bC BK215 1).trans rfl;have hcz40_2 : w36.cell? ⟨gb215,2,none⟩ = some (.slice none 0 0):=(bC BK215 2).trans rfl;have hfz40_0:=blk_frozen BK215.out 0;have hfz40_1:=blk_frozen BK215.out 1;have hfz40_2:=blk_frozen BK215.out 2;obtain ⟨Ao41,co41,eo41⟩:=Kd.R_slice HO214.out;subst eo41))
  have n0_ : Aside0 (Kd.R k37 37 (((w36.setCell ⟨gb215,0,none⟩ (.int .i64 t210)).setCell ⟨gb215,1,none⟩ (.int .i64 t211)).setCell ⟨gb215,2,none⟩ (.slice Ao41 t212.length co41)) w.heap.size (fun k_=>some k_ ≠ (.slice Ao31 t205.length co31 : Value).ownBlock ∧ some k_ ≠ (.slice Ao41 t212.length co41 : Value).ownBlock) v197 t196):=⟨by (repeat with_reducible first|apply rA|apply rN|apply rD);exact Kd.R_mono (Kd.R_far (p:=⟨gb215,2,none⟩) (Kd.R_far (p:=⟨gb215,1,none⟩) (Kd.R_far (p:=⟨gb215,0,none⟩) (Kd.R_types HO198.out BK215.out (by decide)) (fun _ hk=>hk.2) (.int .i64 t210)) (fun _ hk=>hk.2) (.int .i64 t211)) (fun _ hk=>hk.2) (.slice Ao41 t212.length co41)) (fun _ hk=>⟨hk.1.1,hk.1.2⟩)⟩
  have n1_ : Aside0 (Kd.R k37 37 (((w36.setCell ⟨gb215,0,none⟩ (.int .i64 t210)).setCell ⟨gb215,1,none⟩ (.int .i64 t211)).setCell ⟨gb215,2,none⟩ (.slice Ao41 t212.length co41)) w.heap.size (fun k_=>some k_ ≠ (v197 : Value).ownBlock ∧ some k_ ≠ (.slice Ao41 t212.length co41 : Value).ownBlock) (.slice Ao31 t205.length co31) t205):=⟨by (repeat with_reducible first|apply rA|apply rN|apply rD);exact Kd.R_mono (Kd.R_far (p:=⟨gb215,2,none⟩) (Kd.R_far (p:=⟨gb215,1,none⟩) (Kd.R_far (p:=⟨gb215,0,none⟩) (Kd.R_types HO207.out BK215.out (by decide)) (fun _ hk=>hk.2) (.int .i64 t210)) (fun _ hk=>hk.2) (.int .i64 t211)) (fun _ hk=>hk.2) (.slice Ao41 t212.length co41)) (fun _ hk=>⟨hk.1.1,hk.1.2⟩)⟩
  have n2_ : Aside0 (Kd.R k37 37 (((w36.setCell ⟨gb215,0,none⟩ (.int .i64 t210)).setCell ⟨gb215,1,none⟩ (.int .i64 t211)).setCell ⟨gb215,2,none⟩ (.slice Ao41 t212.length co41)) w.heap.size (fun k_=>some k_ ≠ (v197 : Value).ownBlock ∧ some k_ ≠ (.slice Ao31 t205.length co31 : Value).ownBlock) (.slice Ao41 t212.length co41) t212):=⟨by (repeat with_reducible first|apply rA|apply rN|apply rD);exact Kd.R_mono (Kd.R_far (p:=⟨gb215,2,none⟩) (Kd.R_far (p:=⟨gb215,1,none⟩) (Kd.R_far (p:=⟨gb215,0,none⟩) (Kd.R_types HO214.out BK215.out (by decide)) (fun _ hk=>hk.2) (.int .i64 t210)) (fun _ hk=>hk.2) (.int .i64 t211)) (fun _ hk=>hk.2) (.slice Ao41 t212.length co41)) (fun _ hk=>⟨hk.1.1.2,hk.1.2⟩)⟩
  have n3_ : Aside0 ((((w36.setCell ⟨gb215,0,none⟩ (.int .i64 t210)).setCell ⟨gb215,1,none⟩ (.int .i64 t211)).setCell ⟨gb215,2,none⟩ (.slice Ao41 t212.length co41)).heap[gb191]? = some (.cells #[.int .i64 a0_0,.int .i64 a0_1,.slice A0_2 l0_2.length c0_2] 24 (0,0))):=⟨by (repeat with_reducible first|apply bN|apply bD|apply bA);refine blk_far ?_ NB191_215.out _;(repeat with_reducible first|apply bN|apply bD|apply bA);refine blk_far ?_ NB191_215.out _;(repeat with_reducible first|apply bN|apply bD|apply bA);refine blk_far ?_ NB191_215.out _;(repeat with_reducible first|apply bN|apply bD|apply bA);exact BK191.out⟩
  have n4_ : Aside0 ((((w36.setCell ⟨gb215,0,none⟩ (.int .i64 t210)).setCell ⟨gb215,1,none⟩ (.int .i64 t211)).setCell ⟨gb215,2,none⟩ (.slice Ao41 t212.length co41)).heap[gb192]? = some (.cells #[.int .i64 a1_0,.int .i64 a1_1,.int .i64 a1_2,.int .i64 a1_3] 34 (0,0))):=⟨by (repeat with_reducible first|apply bN|apply bD|apply bA);refine blk_far ?_ NB192_215.out _;(repeat with_reducible first|apply bN|apply bD|apply bA);refine blk_far ?_ NB192_215.out _;(repeat with_reducible first|apply bN|apply bD|apply bA);refine blk_far ?_ NB192_215.out _;(repeat with_reducible first|apply bN|apply bD|apply bA);exact BK192.out⟩
  have n5_ : Aside0 ((((w36.setCell ⟨gb215,0,none⟩ (.int .i64 t210)).setCell ⟨gb215,1,none⟩ (.int .i64 t211)).setCell ⟨gb215,2,none⟩ (.slice Ao41 t212.length co41)).heap[gb209]? = some (.cells #[.int .i64 t203,.int .i64 t204,.slice Ao31 t205.length co31] 29 (0,0))):=⟨by (repeat with_reducible first|apply bN|apply bD|apply bA);refine blk_far ?_ NB209_215.out _;(repeat with_reducible first|apply bN|apply bD|apply bA);refine blk_far ?_ NB209_215.out _;(repeat with_reducible first|apply bN|apply bD|apply bA);refine blk_far ?_ NB209_215.out _;(repeat with_reducible first|apply bN|apply bD|apply bA);exact BK209.out⟩
  have n6_ : Aside0 ((((w36.setCell ⟨gb215,0,none⟩ (.int .i64 t210)).setCell ⟨gb215,1,none⟩ (.int .i64 t211)).setCell ⟨gb215,2,none⟩ (.slice Ao41 t212.length co41)).heap[gb215]? = some (.cells #[.int .i64 t210,.int .i64 t211,.slice Ao41 t212.length co41] 29 (0,0))):=⟨by (repeat with_reducible first|apply bN|apply bD|apply bA);refine blk_put (cs:=#[.int .i64 t210,.int .i64 t211,.slice none 0 0]) ?_ 2 _ rfl;(repeat with_reducible first|apply bN|apply bD|apply bA);refine blk_put (cs:=#[.int .i64 t210,.int .i64 0,.slice none 0 0]) ?_ 1 _ rfl;(repeat with_reducible first|apply bN|apply bD|apply bA);refine blk_put (cs:=#[.int .i64 0,.int .i64 0,.slice none 0 0]) ?_ 0 _ rfl;(repeat with_reducible first|apply bN|apply bD|apply bA);exact BK215.out⟩
  have n7_ : Aside0 (Below w.heap.size w (((w36.setCell ⟨gb215,0,none⟩ (.int .i64 t210)).setCell ⟨gb215,1,none⟩ (.int .i64 t211)).setCell ⟨gb215,2,none⟩ (.slice Ao41 t212.length co41))):=⟨by repeat (with_reducible first|exact HB.out|apply eA|apply eN|apply eD|refine eS ?_ (Aside0.out ‹_›))⟩
  (try clear HO198)
  (try clear HO207)
  (try clear HO214)
  (try clear BK191)
  (try clear BK192)
  (try clear BK209)
  (try clear BK215)
  (try clear HB)
  generalize (((w36.setCell ⟨gb215,0,none⟩ (.int .i64 t210)).setCell ⟨gb215,1,none⟩ (.int .i64 t211)).setCell ⟨gb215,2,none⟩ (.slice Ao41 t212.length co41)) = w42 at n0_ n1_ n2_ n3_ n4_ n5_ n6_ n7_ ⊢
  have HO198:=n0_
  have HO207:=n1_
  have HO214:=n2_
  have BK191:=n3_
  have BK192:=n4_
  have BK209:=n5_
  have BK215:=n6_
  have HB:=n7_
  clear n0_ n1_ n2_ n3_ n4_ n5_ n6_ n7_
  have n0_:=Aside0.mk (Kd.R_drew HO198.out)
  have n1_:=Aside0.mk (Kd.R_drew HO207.out)
  have n2_:=Aside0.mk (Kd.R_drew HO214.out)
  have n3_:=Aside0.mk (blk_drew BK191.out)
  have n4_:=Aside0.mk (blk_drew BK192.out)
  have n5_:=Aside0.mk (blk_drew BK209.out)
  have n6_:=Aside0.mk (blk_drew BK215.out)
  have n7_:=Aside0.mk (below_drew1 HB.out)
  clear HO198
  clear HO207
  clear HO214
  clear BK191
  clear BK192
  clear BK209
  clear BK215
  clear HB
  have HO198:=n0_
  have HO207:=n1_
  have HO214:=n2_
  have BK191:=n3_
  have BK192:=n4_
  have BK209:=n5_
  have BK215:=n6_
  have HB:=n7_
  clear n0_ n1_ n2_ n3_ n4_ n5_ n6_ n7_
  refine start_ (n:=10) (S:=fun w'=>w'.cell? ⟨gb215,0,none⟩ = some (.int .i64 t210) ∧ w'.cell? ⟨gb215,1,none⟩ = some (.int .i64 t211) ∧ w'.cell? ⟨gb215,2,none⟩ = some (.slice Ao41 t212.length co41) ∧ w'.cell? ⟨gb192,0,none⟩ = some (.int .i64 a1_0) ∧ w'.cell? ⟨gb192,1,none⟩ = some (.int .i64 a1_1) ∧ w'.cell? ⟨gb192,2,none⟩ = some (.int .i64 a1_2) ∧ w'.cell? ⟨gb192,3,none⟩ = some (.int .i64 a1_3)) (ds:=[]) #[false,false,false,false,false,false,false,false,false,false] (by kernel_rfl) rfl rfl ⟨(bC BK215 0).trans rfl,(bC BK215 1).trans rfl,(bC BK215 2).trans rfl,(bC BK192 0).trans rfl,(bC BK192 1).trans rfl,(bC BK192 2).trans rfl,(bC BK192 3).trans rfl⟩ (fun hHeld=>?_);refine with_tabW laws_FnExactAddClue.tab7 laws_FnExactAddClue.bits7 (fun HT_ HW_=>?_)
  generalize w42.drew = w43 at HO198 HO207 HO214 BK191 BK192 BK209 BK215 HB hHeld ⊢
  refine take_ (i:=0) (N:=some 32) (v:=?_) (a':=?_) #[true,false,false,false,false,false,false,false,false,false] rfl rfl (take_ofW HT_.out HW_.out (by kernel_rfl)) (fun _ _ _ h=>h) (Or.inl ⟨by rfl,?_⟩) hHeld ?_ ?_
  rotate_left
  ·rintro w' ⟨s0,s1,s2,s3,s4,s5,s6⟩
   go_simp
   with_reducible rfl
  rotate_left
  ·simp only [Act.put,List.setIfInBounds_toArray,List.set_cons_zero,List.set_cons_succ,i64_w,i32_w]
   rfl
  refine take_ (i:=1) (N:=some 33) (v:=?_) (a':=?_) #[true,true,false,false,false,false,false,false,false,false] rfl rfl (take_ofW HT_.out HW_.out (by kernel_rfl)) (fun _ _ _ h=>h) (Or.inl ⟨by rfl,?_⟩) hHeld ?_ ?_
  rotate_left
  ·rintro w' ⟨s0,s1,s2,s3,s4,s5,s6⟩
   go_simp
   with_reducible rfl
  rotate_left
  ·simp only [Act.put,List.setIfInBounds_toArray,List.set_cons_zero,List.set_cons_succ,i64_w,i32_w]
   rfl
  refine join_ (σ:=Value × Nat) 2 #[true,true,true,true,true,true,true,true,false,false] (fun s_=>[(34,.agg #[.int .i64 t216,.int .i64 t217,.int .i64 t218,.int .i64 t219]),(35,.tuple #[.agg #[.int .i64 t220,.int .i64 t221,s_.1],.bool t225]),(9,.pointer (some ⟨s_.2,0,none⟩)),(31,.tuple #[.agg #[.int .i64 t220,.int .i64 t221,s_.1],.bool t225]),(36,.agg #[.int .i64 t220,.int .i64 t221,s_.1]),(37,.bool t225)]) (fun s_ w'=>(w'.cell? ⟨gb215,0,none⟩ = some (.int .i64 t210) ∧ w'.cell? ⟨gb215,1,none⟩ = some (.int .i64 t211) ∧ w'.cell? ⟨gb215,2,none⟩ = some (.slice Ao41 t212.length co41) ∧ w'.cell? ⟨gb192,0,none⟩ = some (.int .i64 a1_0) ∧ w'.cell? ⟨gb192,1,none⟩ = some (.int .i64 a1_1) ∧ w'.cell? ⟨gb192,2,none⟩ = some (.int .i64 a1_2) ∧ w'.cell? ⟨gb192,3,none⟩ = some (.int .i64 a1_3)) ∧ (Kd.R k37 37 w' w.heap.size (fun k_=>some k_ ≠ (.slice Ao31 t205.length co31 : Value).ownBlock ∧ some k_ ≠ (.slice Ao41 t212.length co41 : Value).ownBlock ∧ some k_ ≠ (s_.1 : Value).ownBlock) v197 t196) ∧ (Kd.R k37 37 w' w.heap.size (fun k_=>some k_ ≠ (v197 : Value).ownBlock ∧ some k_ ≠ (.slice Ao41 t212.length co41 : Value).ownBlock ∧ some k_ ≠ (s_.1 : Value).ownBlock) (.slice Ao31 t205.length co31) t205) ∧ (Kd.R k37 37 w' w.heap.size (fun k_=>some k_ ≠ (v197 : Value).ownBlock ∧ some k_ ≠ (.slice Ao31 t205.length co31 : Value).ownBlock ∧ some k_ ≠ (s_.1 : Value).ownBlock) (.slice Ao41 t212.length co41) t212) ∧ (Kd.R k37 37 w' w.heap.size (fun k_=>some k_ ≠ (v197 : Value).ownBlock ∧ some k_ ≠ (.slice Ao31 t205.length co31 : Value).ownBlock ∧ some k_ ≠ (.slice Ao41 t212.length co41 : Value).ownBlock) s_.1 t222) ∧ (w'.heap[gb191]? = some (.cells #[.int .i64 a0_0,.int .i64 a0_1,.slice A0_2 l0_2.length c0_2] 24 (0,0))) ∧ (w'.heap[gb192]? = some (.cells #[.int .i64 a1_0,.int .i64 a1_1,.int .i64 a1_2,.int .i64 a1_3] 34 (0,0))) ∧ (w'.heap[gb209]? = some (.cells #[.int .i64 t203,.int .i64 t204,.slice Ao31 t205.length co31] 29 (0,0))) ∧ (w'.heap[gb215]? = some (.cells #[.int .i64 t210,.int .i64 t211,.slice Ao41 t212.length co41] 29 (0,0))) ∧ (w'.heap[s_.2]? = some (.cells #[.int .i64 0,.int .i64 0,.slice none 0 0] 29 (0,0))) ∧ (w.heap.size ≤ s_.2) ∧ (w.heap.size ≤ s_.2) ∧ (gb191 ≠ s_.2) ∧ (s_.2 ≠ gb191) ∧ (gb192 ≠ s_.2) ∧ (s_.2 ≠ gb192) ∧ (gb209 ≠ s_.2) ∧ (s_.2 ≠ gb209) ∧ (gb215 ≠ s_.2) ∧ (s_.2 ≠ gb215) ∧ (Below w.heap.size w w')) ?_ ?_
  rotate_left
  ·intro hCont
   refine two_ (i:=2) (j:=7) (Ni:=some 34) (Nj:=some 9) #[true,true,true,false,false,false,false,false,false,false] #[true,true,false,false,false,false,false,true,false,false] rfl rfl rfl rfl (two_of HT_.out (by kernel_rfl)) (by decide) (by decide) (fun K hK=>?_) (fun K hK=>?_)
   ·skip
    refine goes_ Try.func12 (by kernel_rfl) rfl #[.agg #[.int .i64 a1_0,.int .i64 a1_1,.int .i64 a1_2,.int .i64 a1_3]] (by rfl) rfl rfl (by (try simp only [List.map_toArray,List.map_cons,List.map_nil]);first|done|rfl) ?_
    with_reducible refine (laws_toClue.calls a1_0 a1_1 a1_2 a1_3 t216 t217 t218 t219 _ A14.out).mono ?_
    rintro e w44 ⟨rfl,hb⟩
    refine ⟨_,rfl,?_⟩
    have n0_:=Aside0.mk (Kd.R_below (by (repeat with_reducible first|apply rA|apply rN|apply rD);exact HO198.out) hb)
    have n1_:=Aside0.mk (Kd.R_below (by (repeat with_reducible first|apply rA|apply rN|apply rD);exact HO207.out) hb)
    have n2_:=Aside0.mk (Kd.R_below (by (repeat with_reducible first|apply rA|apply rN|apply rD);exact HO214.out) hb)
    have n3_:=(bB (by (repeat with_reducible first|apply bN|apply bD|apply bA);exact BK191.out) hb)
    have n4_:=(bB (by (repeat with_reducible first|apply bN|apply bD|apply bA);exact BK192.out) hb)
    have n5_:=(bB (by (repeat with_reducible first|apply bN|apply bD|apply bA);exact BK209.out) hb)
    have n6_:=(bB (by (repeat with_reducible first|apply bN|apply bD|apply bA);exact BK215.out) hb)
    have n7_:=Aside0.mk (below_step (by repeat (with_reducible first|exact HB.out|apply eA|apply eN|apply eD|refine eS ?_ (Aside0.out ‹_›))) hb)
    clear HO198
    clear HO207
    clear HO214
    clear BK191
    clear BK192
    clear BK209
    clear BK215
    clear HB
    have HO198:=n0_
    have HO207:=n1_
    have HO214:=n2_
    have BK191:=n3_
    have BK192:=n4_
    have BK209:=n5_
    have BK215:=n6_
    have HB:=n7_
    clear n0_ n1_ n2_ n3_ n4_ n5_ n6_ n7_
    (try clear hb)
    (try clear hb2)
    (try clear hk)
    (try clear hi)
    refine hK.out _ _ ⟨(bC BK215 0).trans rfl,(bC BK215 1).trans rfl,(bC BK215 2).trans rfl,(bC BK192 0).trans rfl,(bC BK192 1).trans rfl,(bC BK192 2).trans rfl,(bC BK192 3).trans rfl⟩ (fun hHeld=>?_)
    clear hK K
    refine norm_ (a':=?_) ?_ ?_
    rotate_left
    ·show Act.put _ (some 34) _ = _
     simp only [Act.put,List.setIfInBounds_toArray,List.set_cons_zero,List.set_cons_succ,i64_w,i32_w]
     rfl
    refine two_ (i:=3) (j:=7) (Ni:=some 35) (Nj:=some 9) #[true,true,true,true,false,false,false,false,false,false] #[true,true,true,false,false,false,false,true,false,false] rfl rfl rfl rfl (two_of HT_.out (by kernel_rfl)) (by decide) (by decide) (fun K hK=>?_) (fun K hK=>?_)
    ·skip
     refine goes_ Try.func13 (by kernel_rfl) rfl #[.agg #[.int .i64 t210,.int .i64 t211,.slice Ao41 t212.length co41],.agg #[.int .i64 t216,.int .i64 t217,.int .i64 t218,.int .i64 t219]] (by rfl) rfl rfl (by (try simp only [List.map_toArray,List.map_cons,List.map_nil]);first|done|rfl) ?_
     with_reducible refine (impl_AddClue.calls k t210 t211 _ _ t212 t216 t217 t218 t219 t220 t221 t222 t225 _ ?side1 ?side2 A15.out).mono ?_
     (case side1=>repeat (first|exact (Kd.R_reads' HO214.out).2.2|(with_reducible refine Kd.C_alloc ?_ _)|(with_reducible refine Kd.C_drewN ?_ _)|(with_reducible refine Kd.C_drew ?_)))
     (case side2=>exact (Kd.R_reads' HO214.out).2.1)
     rintro e w45 ⟨v223,rfl,ho0,hb⟩
     refine ⟨_,rfl,?_⟩
     have n0_:=Aside0.mk (Kd.R_elder' (by (repeat with_reducible first|apply rA|apply rN|apply rD);exact HO198.out) (Kd.R_base ho0) hb)
     have n1_:=Aside0.mk (Kd.R_elder' (by (repeat with_reducible first|apply rA|apply rN|apply rD);exact HO207.out) (Kd.R_base ho0) hb)
     have n2_:=Aside0.mk (Kd.R_elder' (by (repeat with_reducible first|apply rA|apply rN|apply rD);exact HO214.out) (Kd.R_base ho0) hb)
     have n3_:=Aside0.mk (rL (rW (rW (rW ho0 (Kd.R_lt (by (repeat with_reducible first|apply rA|apply rN|apply rD);exact HO198.out))) (Kd.R_lt (by (repeat with_reducible first|apply rA|apply rN|apply rD);exact HO207.out))) (Kd.R_lt (by (repeat with_reducible first|apply rA|apply rN|apply rD);exact HO214.out))) (below_size (by repeat (with_reducible first|exact HB.out|apply eA|apply eN|apply eD|refine eS ?_ (Aside0.out ‹_›)))))
     have n4_:=(bB (by (repeat with_reducible first|apply bN|apply bD|apply bA);exact BK191.out) hb)
     have n5_:=(bB (by (repeat with_reducible first|apply bN|apply bD|apply bA);exact BK192.out) hb)
     have n6_:=(bB (by (repeat with_reducible first|apply bN|apply bD|apply bA);exact BK209.out) hb)
     have n7_:=(bB (by (repeat with_reducible first|apply bN|apply bD|apply bA);exact BK215.out) hb)
     have n8_:=Aside0.mk (below_step (by repeat (with_reducible first|exact HB.out|apply eA|apply eN|apply eD|refine eS ?_ (Aside0.out ‹_›))) hb)
     clear HO198
     clear HO207
     clear HO214
     clear BK191
     clear BK192
     clear BK209
     clear BK215
     clear HB
     have HO198:=n0_
     have HO207:=n1_
     have HO214:=n2_
     have HO224:=n3_
     have BK191:=n4_
     have BK192:=n5_
     have BK209:=n6_
     have BK215:=n7_
     have HB:=n8_
     clear n0_ n1_ n2_ n3_ n4_ n5_ n6_ n7_ n8_
     (try clear hb)
     (try clear hb2)
     (try clear hk)
     (try clear hi)
     (try clear ho0)
     refine hK.out _ _ ⟨(bC BK215 0).trans rfl,(bC BK215 1).trans rfl,(bC BK215 2).trans rfl,(bC BK192 0).trans rfl,(bC BK192 1).trans rfl,(bC BK192 2).trans rfl,(bC BK192 3).trans rfl⟩ (fun hHeld=>?_)
     clear hK K
     refine norm_ (a':=?_) ?_ ?_
     rotate_left
     ·show Act.put _ (some 35) _ = _
      simp only [Act.put,List.setIfInBounds_toArray,List.set_cons_zero,List.set_cons_succ,i64_w,i32_w]
      rfl
     refine pure_ (i:=4) (N:=some 31) (v:=?_) (a':=?_) #[true,true,true,true,true,false,false,false,false,false] rfl rfl (any_of HT_.out (by kernel_rfl)) (fun _ _ _ h=>h) (Or.inl ⟨by rfl,?_⟩) ?_ ?_
     rotate_left
     ·intro w'
      go_simp
      with_reducible rfl
     rotate_left
     ·simp only [Act.put,List.setIfInBounds_toArray,List.set_cons_zero,List.set_cons_succ,i64_w,i32_w]
      rfl
     refine pure_ (i:=5) (N:=some 36) (v:=?_) (a':=?_) #[true,true,true,true,true,true,false,false,false,false] rfl rfl (any_of HT_.out (by kernel_rfl)) (fun _ _ _ h=>h) (Or.inl ⟨by rfl,?_⟩) ?_ ?_
     rotate_left
     ·intro w'
      go_simp
      with_reducible rfl
     rotate_left
     ·simp only [Act.put,List.setIfInBounds_toArray,List.set_cons_zero,List.set_cons_succ,i64_w,i32_w]
      rfl
     refine pure_ (i:=6) (N:=some 37) (v:=?_) (a':=?_) #[true,true,true,true,true,true,true,false,false,false] rfl rfl (any_of HT_.out (by kernel_rfl)) (fun _ _ _ h=>h) (Or.inl ⟨by rfl,?_⟩) ?_ ?_
     rotate_left
     ·intro w'
      go_simp
      with_reducible rfl
     rotate_left
     ·simp only [Act.put,List.setIfInBounds_toArray,List.set_cons_zero,List.set_cons_succ,i64_w,i32_w]
      rfl
     refine one_ (i:=7) (N:=some 9) #[true,true,true,true,true,true,true,true,false,false] rfl rfl (one_of HT_.out (by kernel_rfl)) (by decide) (fun K hK=>?_)
     refine box_step ?hg (N:=9) ?hd (cs:=#[.int .i64 0,.int .i64 0,.slice none 0 0]) (t:=29) ?hr ?_;(case hd=>rfl);(case hg=>rfl);(case hr=>first|(go_simp;done)|(go_simp;rfl))
     intro gb226 hg w46 hbox hb
     have n0_:=Aside0.mk (Kd.R_below (by (repeat with_reducible first|apply rA|apply rN|apply rD);exact HO198.out) hb)
     have n1_:=Aside0.mk (Kd.R_below (by (repeat with_reducible first|apply rA|apply rN|apply rD);exact HO207.out) hb)
     have n2_:=Aside0.mk (Kd.R_below (by (repeat with_reducible first|apply rA|apply rN|apply rD);exact HO214.out) hb)
     have n3_:=Aside0.mk (Kd.R_below (by (repeat with_reducible first|apply rA|apply rN|apply rD);exact HO224.out) hb)
     have n4_:=(bB (by (repeat with_reducible first|apply bN|apply bD|apply bA);exact BK191.out) hb)
     have n5_:=(bB (by (repeat with_reducible first|apply bN|apply bD|apply bA);exact BK192.out) hb)
     have n6_:=(bB (by (repeat with_reducible first|apply bN|apply bD|apply bA);exact BK209.out) hb)
     have n7_:=(bB (by (repeat with_reducible first|apply bN|apply bD|apply bA);exact BK215.out) hb)
     have n8_:=Aside0.mk (below_step (by repeat (with_reducible first|exact HB.out|apply eA|apply eN|apply eD|refine eS ?_ (Aside0.out ‹_›))) hb)
     have n9_:=Aside0.mk (hbox)
     have n10_:=Aside0.mk ((by rw [hg];exact (below_size (by repeat (with_reducible first|exact HB.out|apply eA|apply eN|apply eD|refine eS ?_ (Aside0.out ‹_›)))) : w.heap.size ≤ gb226))
     have n11_:=Aside0.mk ((by rw [hg];exact (below_size (by repeat (with_reducible first|exact HB.out|apply eA|apply eN|apply eD|refine eS ?_ (Aside0.out ‹_›)))) : w.heap.size ≤ gb226))
     have n12_:=Aside0.mk ((by rw [hg];exact Nat.ne_of_lt (blk_lt (by (repeat with_reducible first|apply bN|apply bD|apply bA);exact BK191.out)) : gb191 ≠ gb226))
     have n13_:=Aside0.mk ((by rw [hg];exact Nat.ne_of_gt (blk_lt (by (repeat with_reducible first|apply bN|apply bD|apply bA);exact BK191.out)) : gb226 ≠ gb191))
     have n14_:=Aside0.mk ((by rw [hg];exact Nat.ne_of_lt (blk_lt (by (repeat with_reducible first|apply bN|apply bD|apply bA);exact BK192.out)) : gb192 ≠ gb226))
     have n15_:=Aside0.mk ((by rw [hg];exact Nat.ne_of_gt (blk_lt (by (repeat with_reducible first|apply bN|apply bD|apply bA);exact BK192.out)) : gb226 ≠ gb192))
     have n16_:=Aside0.mk ((by rw [hg];exact Nat.ne_of_lt (blk_lt (by (repeat with_reducible first|apply bN|apply bD|apply bA);exact BK209.out)) : gb209 ≠ gb226))
     have n17_:=Aside0.mk ((by rw [hg];exact Nat.ne_of_gt (blk_lt (by (repeat with_reducible first|apply bN|apply bD|apply bA);exact BK209.out)) : gb226 ≠ gb209))
     have n18_:=Aside0.mk ((by rw [hg];exact Nat.ne_of_lt (blk_lt (by (repeat with_reducible first|apply bN|apply bD|apply bA);exact BK215.out)) : gb215 ≠ gb226))
     have n19_:=Aside0.mk ((by rw [hg];exact Nat.ne_of_gt (blk_lt (by (repeat with_reducible first|apply bN|apply bD|apply bA);exact BK215.out)) : gb226 ≠ gb215))
     clear HO198
     clear HO207
     clear HO214
     clear HO224
     clear BK191
     clear BK192
     clear BK209
     clear BK215
     clear HB
     have HO198:=n0_
     have HO207:=n1_
     have HO214:=n2_
     have HO224:=n3_
     have BK191:=n4_
     have BK192:=n5_
     have BK209:=n6_
     have BK215:=n7_
     have HB:=n8_
     have BK226:=n9_
     have GW226:=n10_
     have GE226:=n11_
     have NB191_226:=n12_
     have NB226_191:=n13_
     have NB192_226:=n14_
     have NB226_192:=n15_
     have NB209_226:=n16_
     have NB226_209:=n17_
     have NB215_226:=n18_
     have NB226_215:=n19_
     clear n0_ n1_ n2_ n3_ n4_ n5_ n6_ n7_ n8_ n9_ n10_ n11_ n12_ n13_ n14_ n15_ n16_ n17_ n18_ n19_
     clear hb hbox hg
     refine hK.out _ _ ⟨(bC BK215 0).trans rfl,(bC BK215 1).trans rfl,(bC BK215 2).trans rfl,(bC BK192 0).trans rfl,(bC BK192 1).trans rfl,(bC BK192 2).trans rfl,(bC BK192 3).trans rfl⟩ (fun hHeld=>?_)
     clear hK K
     refine norm_ (a':=?_) ?_ ?_
     rotate_left
     ·show Act.put _ (some 9) _ = _
      simp only [Act.put,List.setIfInBounds_toArray,List.set_cons_zero,List.set_cons_succ,i64_w,i32_w]
      rfl
     exact norm_ (by simp only [putAll,Act.put,List.setIfInBounds_toArray,List.set_cons_zero,List.set_cons_succ]) (hCont (v223,gb226) _ ⟨hHeld,(by (repeat with_reducible first|apply rA|apply rN|apply rD);exact Kd.R_mono HO198.out (fun _ hk=>⟨hk.1.1,⟨hk.1.2,hk.2⟩⟩)),(by (repeat with_reducible first|apply rA|apply rN|apply rD);exact Kd.R_mono HO207.out (fun _ hk=>⟨hk.1.1,⟨hk.1.2,hk.2⟩⟩)),(by (repeat with_reducible first|apply rA|apply rN|apply rD);exact Kd.R_mono HO214.out (fun _ hk=>⟨hk.1.1,⟨hk.1.2,hk.2⟩⟩)),(by (repeat with_reducible first|apply rA|apply rN|apply rD);exact Kd.R_mono HO224.out (fun _ hk=>⟨hk.1.1.2,⟨hk.1.2,hk.2⟩⟩)),(by (repeat with_reducible first|apply bN|apply bD|apply bA);exact BK191.out),(by (repeat with_reducible first|apply bN|apply bD|apply bA);exact BK192.out),(by (repeat with_reducible first|apply bN|apply bD|apply bA);exact BK209.out),(by (repeat with_reducible first|apply bN|apply bD|apply bA);exact BK215.out),(by (repeat with_reducible first|apply bN|apply bD|apply bA);exact BK226.out),GW226.out,GE226.out,NB191_226.out,NB226_191.out,NB192_226.out,NB226_192.out,NB209_226.out,NB226_209.out,NB215_226.out,NB226_215.out,(by repeat (with_reducible first|exact HB.out|apply eA|apply eN|apply eD|refine eS ?_ (Aside0.out ‹_›)))⟩)
    ·skip
     refine box_step ?hg (N:=9) ?hd (cs:=#[.int .i64 0,.int .i64 0,.slice none 0 0]) (t:=29) ?hr ?_;(case hd=>rfl);(case hg=>rfl);(case hr=>first|(go_simp;done)|(go_simp;rfl))
     intro gb226 hg w45 hbox hb
     have n0_:=Aside0.mk (Kd.R_below (by (repeat with_reducible first|apply rA|apply rN|apply rD);exact HO198.out) hb)
     have n1_:=Aside0.mk (Kd.R_below (by (repeat with_reducible first|apply rA|apply rN|apply rD);exact HO207.out) hb)
     have n2_:=Aside0.mk (Kd.R_below (by (repeat with_reducible first|apply rA|apply rN|apply rD);exact HO214.out) hb)
     have n3_:=(bB (by (repeat with_reducible first|apply bN|apply bD|apply bA);exact BK191.out) hb)
     have n4_:=(bB (by (repeat with_reducible first|apply bN|apply bD|apply bA);exact BK192.out) hb)
     have n5_:=(bB (by (repeat with_reducible first|apply bN|apply bD|apply bA);exact BK209.out) hb)
     have n6_:=(bB (by (repeat with_reducible first|apply bN|apply bD|apply bA);exact BK215.out) hb)
     have n7_:=Aside0.mk (below_step (by repeat (with_reducible first|exact HB.out|apply eA|apply eN|apply eD|refine eS ?_ (Aside0.out ‹_›))) hb)
     have n8_:=Aside0.mk (hbox)
     have n9_:=Aside0.mk ((by rw [hg];exact (below_size (by repeat (with_reducible first|exact HB.out|apply eA|apply eN|apply eD|refine eS ?_ (Aside0.out ‹_›)))) : w.heap.size ≤ gb226))
     have n10_:=Aside0.mk ((by rw [hg];exact (below_size (by repeat (with_reducible first|exact HB.out|apply eA|apply eN|apply eD|refine eS ?_ (Aside0.out ‹_›)))) : w.heap.size ≤ gb226))
     have n11_:=Aside0.mk ((by rw [hg];exact Nat.ne_of_lt (blk_lt (by (repeat with_reducible first|apply bN|apply bD|apply bA);exact BK191.out)) : gb191 ≠ gb226))
     have n12_:=Aside0.mk ((by rw [hg];exact Nat.ne_of_gt (blk_lt (by (repeat with_reducible first|apply bN|apply bD|apply bA);exact BK191.out)) : gb226 ≠ gb191))
     have n13_:=Aside0.mk ((by rw [hg];exact Nat.ne_of_lt (blk_lt (by (repeat with_reducible first|apply bN|apply bD|apply bA);exact BK192.out)) : gb192 ≠ gb226))
     have n14_:=Aside0.mk ((by rw [hg];exact Nat.ne_of_gt (blk_lt (by (repeat with_reducible first|apply bN|apply bD|apply bA);exact BK192.out)) : gb226 ≠ gb192))
     have n15_:=Aside0.mk ((by rw [hg];exact Nat.ne_of_lt (blk_lt (by (repeat with_reducible first|apply bN|apply bD|apply bA);exact BK209.out)) : gb209 ≠ gb226))
     have n16_:=Aside0.mk ((by rw [hg];exact Nat.ne_of_gt (blk_lt (by (repeat with_reducible first|apply bN|apply bD|apply bA);exact BK209.out)) : gb226 ≠ gb209))
     have n17_:=Aside0.mk ((by rw [hg];exact Nat.ne_of_lt (blk_lt (by (repeat with_reducible first|apply bN|apply bD|apply bA);exact BK215.out)) : gb215 ≠ gb226))
     have n18_:=Aside0.mk ((by rw [hg];exact Nat.ne_of_gt (blk_lt (by (repeat with_reducible first|apply bN|apply bD|apply bA);exact BK215.out)) : gb226 ≠ gb215))
     clear HO198
     clear HO207
     clear HO214
     clear BK191
     clear BK192
     clear BK209
     clear BK215
     clear HB
     have HO198:=n0_
     have HO207:=n1_
     have HO214:=n2_
     have BK191:=n3_
     have BK192:=n4_
     have BK209:=n5_
     have BK215:=n6_
     have HB:=n7_
     have BK226:=n8_
     have GW226:=n9_
     have GE226:=n10_
     have NB191_226:=n11_
     have NB226_191:=n12_
     have NB192_226:=n13_
     have NB226_192:=n14_
     have NB209_226:=n15_
     have NB226_209:=n16_
     have NB215_226:=n17_
     have NB226_215:=n18_
     clear n0_ n1_ n2_ n3_ n4_ n5_ n6_ n7_ n8_ n9_ n10_ n11_ n12_ n13_ n14_ n15_ n16_ n17_ n18_
     clear hb hbox hg
     refine hK.out _ _ ⟨(bC BK215 0).trans rfl,(bC BK215 1).trans rfl,(bC BK215 2).trans rfl,(bC BK192 0).trans rfl,(bC BK192 1).trans rfl,(bC BK192 2).trans rfl,(bC BK192 3).trans rfl⟩ (fun hHeld=>?_)
     clear hK K
     refine norm_ (a':=?_) ?_ ?_
     rotate_left
     ·show Act.put _ (some 9) _ = _
      simp only [Act.put,List.setIfInBounds_toArray,List.set_cons_zero,List.set_cons_succ,i64_w,i32_w]
      rfl
     refine one_ (i:=3) (N:=some 35) #[true,true,true,true,false,false,false,true,false,false] rfl rfl (one_of HT_.out (by kernel_rfl)) (by decide) (fun K hK=>?_)
     refine goes_ Try.func13 (by kernel_rfl) rfl #[.agg #[.int .i64 t210,.int .i64 t211,.slice Ao41 t212.length co41],.agg #[.int .i64 t216,.int .i64 t217,.int .i64 t218,.int .i64 t219]] (by rfl) rfl rfl (by (try simp only [List.map_toArray,List.map_cons,List.map_nil]);first|done|rfl) ?_
     with_reducible refine (impl_AddClue.calls k t210 t211 _ _ t212 t216 t217 t218 t219 t220 t221 t222 t225 _ ?side1 ?side2 A15.out).mono ?_
     (case side1=>repeat (first|exact (Kd.R_reads' HO214.out).2.2|(with_reducible refine Kd.C_alloc ?_ _)|(with_reducible refine Kd.C_drewN ?_ _)|(with_reducible refine Kd.C_drew ?_)))
     (case side2=>exact (Kd.R_reads' HO214.out).2.1)
     rintro e w46 ⟨v223,rfl,ho0,hb⟩
     refine ⟨_,rfl,?_⟩
     have n0_:=Aside0.mk (Kd.R_elder' (by (repeat with_reducible first|apply rA|apply rN|apply rD);exact HO198.out) (Kd.R_base ho0) hb)
     have n1_:=Aside0.mk (Kd.R_elder' (by (repeat with_reducible first|apply rA|apply rN|apply rD);exact HO207.out) (Kd.R_base ho0) hb)
     have n2_:=Aside0.mk (Kd.R_elder' (by (repeat with_reducible first|apply rA|apply rN|apply rD);exact HO214.out) (Kd.R_base ho0) hb)
     have n3_:=Aside0.mk (rL (rW (rW (rW ho0 (Kd.R_lt (by (repeat with_reducible first|apply rA|apply rN|apply rD);exact HO198.out))) (Kd.R_lt (by (repeat with_reducible first|apply rA|apply rN|apply rD);exact HO207.out))) (Kd.R_lt (by (repeat with_reducible first|apply rA|apply rN|apply rD);exact HO214.out))) (below_size (by repeat (with_reducible first|exact HB.out|apply eA|apply eN|apply eD|refine eS ?_ (Aside0.out ‹_›)))))
     have n4_:=(bB (by (repeat with_reducible first|apply bN|apply bD|apply bA);exact BK191.out) hb)
     have n5_:=(bB (by (repeat with_reducible first|apply bN|apply bD|apply bA);exact BK192.out) hb)
     have n6_:=(bB (by (repeat with_reducible first|apply bN|apply bD|apply bA);exact BK209.out) hb)
     have n7_:=(bB (by (repeat with_reducible first|apply bN|apply bD|apply bA);exact BK215.out) hb)
     have n8_:=(bB (by (repeat with_reducible first|apply bN|apply bD|apply bA);exact BK226.out) hb)
     have n9_:=Aside0.mk (below_step (by repeat (with_reducible first|exact HB.out|apply eA|apply eN|apply eD|refine eS ?_ (Aside0.out ‹_›))) hb)
     clear HO198
     clear HO207
     clear HO214
     clear BK191
     clear BK192
     clear BK209
     clear BK215
     clear BK226
     clear HB
     have HO198:=n0_
     have HO207:=n1_
     have HO214:=n2_
     have HO224:=n3_
     have BK191:=n4_
     have BK192:=n5_
     have BK209:=n6_
     have BK215:=n7_
     have BK226:=n8_
     have HB:=n9_
     clear n0_ n1_ n2_ n3_ n4_ n5_ n6_ n7_ n8_ n9_
     (try clear hb)
     (try clear hb2)
     (try clear hk)
     (try clear hi)
     (try clear ho0)
     refine hK.out _ _ ⟨(bC BK215 0).trans rfl,(bC BK215 1).trans rfl,(bC BK215 2).trans rfl,(bC BK192 0).trans rfl,(bC BK192 1).trans rfl,(bC BK192 2).trans rfl,(bC BK192 3).trans rfl⟩ (fun hHeld=>?_)
     clear hK K
     refine norm_ (a':=?_) ?_ ?_
     rotate_left
     ·show Act.put _ (some 35) _ = _
      simp only [Act.put,List.setIfInBounds_toArray,List.set_cons_zero,List.set_cons_succ,i64_w,i32_w]
      rfl
     refine pure_ (i:=4) (N:=some 31) (v:=?_) (a':=?_) #[true,true,true,true,true,false,false,true,false,false] rfl rfl (any_of HT_.out (by kernel_rfl)) (fun _ _ _ h=>h) (Or.inl ⟨by rfl,?_⟩) ?_ ?_
     rotate_left
     ·intro w'
      go_simp
      with_reducible rfl
     rotate_left
     ·simp only [Act.put,List.setIfInBounds_toArray,List.set_cons_zero,List.set_cons_succ,i64_w,i32_w]
      rfl
     refine pure_ (i:=5) (N:=some 36) (v:=?_) (a':=?_) #[true,true,true,true,true,true,false,true,false,false] rfl rfl (any_of HT_.out (by kernel_rfl)) (fun _ _ _ h=>h) (Or.inl ⟨by rfl,?_⟩) ?_ ?_
     rotate_left
     ·intro w'
      go_simp
      with_reducible rfl
     rotate_left
     ·simp only [Act.put,List.setIfInBounds_toArray,List.set_cons_zero,List.set_cons_succ,i64_w,i32_w]
      rfl
     refine pure_ (i:=6) (N:=some 37) (v:=?_) (a':=?_) #[true,true,true,true,true,true,true,true,false,false] rfl rfl (any_of HT_.out (by kernel_rfl)) (fun _ _ _ h=>h) (Or.inl ⟨by rfl,?_⟩) ?_ ?_
     rotate_left
     ·intro w'
      go_simp
      with_reducible rfl
     rotate_left
     ·simp only [Act.put,List.setIfInBounds_toArray,List.set_cons_zero,List.set_cons_succ,i64_w,i32_w]
      rfl
     exact norm_ (by simp only [putAll,Act.put,List.setIfInBounds_toArray,List.set_cons_zero,List.set_cons_succ]) (hCont (v223,gb226) _ ⟨hHeld,(by (repeat with_reducible first|apply rA|apply rN|apply rD);exact Kd.R_mono HO198.out (fun _ hk=>⟨hk.1.1,⟨hk.1.2,hk.2⟩⟩)),(by (repeat with_reducible first|apply rA|apply rN|apply rD);exact Kd.R_mono HO207.out (fun _ hk=>⟨hk.1.1,⟨hk.1.2,hk.2⟩⟩)),(by (repeat with_reducible first|apply rA|apply rN|apply rD);exact Kd.R_mono HO214.out (fun _ hk=>⟨hk.1.1,⟨hk.1.2,hk.2⟩⟩)),(by (repeat with_reducible first|apply rA|apply rN|apply rD);exact Kd.R_mono HO224.out (fun _ hk=>⟨hk.1.1.2,⟨hk.1.2,hk.2⟩⟩)),(by (repeat with_reducible first|apply bN|apply bD|apply bA);exact BK191.out),(by (repeat with_reducible first|apply bN|apply bD|apply bA);exact BK192.out),(by (repeat with_reducible first|apply bN|apply bD|apply bA);exact BK209.out),(by (repeat with_reducible first|apply bN|apply bD|apply bA);exact BK215.out),(by (repeat with_reducible first|apply bN|apply bD|apply bA);exact BK226.out),GW226.out,GE226.out,NB191_226.out,NB226_191.out,NB192_226.out,NB226_192.out,NB209_226.out,NB226_209.out,NB215_226.out,NB226_215.out,(by repeat (with_reducible first|exact HB.out|apply eA|apply eN|apply eD|refine eS ?_ (Aside0.out ‹_›)))⟩)
   ·skip
    refine box_step ?hg (N:=9) ?hd (cs:=#[.int .i64 0,.int .i64 0,.slice none 0 0]) (t:=29) ?hr ?_;(case hd=>rfl);(case hg=>rfl);(case hr=>first|(go_simp;done)|(go_simp;rfl))
    intro gb226 hg w44 hbox hb
    have n0_:=Aside0.mk (Kd.R_below (by (repeat with_reducible first|apply rA|apply rN|apply rD);exact HO198.out) hb)
    have n1_:=Aside0.mk (Kd.R_below (by (repeat with_reducible first|apply rA|apply rN|apply rD);exact HO207.out) hb)
    have n2_:=Aside0.mk (Kd.R_below (by (repeat with_reducible first|apply rA|apply rN|apply rD);exact HO214.out) hb)
    have n3_:=(bB (by (repeat with_reducible first|apply bN|apply bD|apply bA);exact BK191.out) hb)
    have n4_:=(bB (by (repeat with_reducible first|apply bN|apply bD|apply bA);exact BK192.out) hb)
    have n5_:=(bB (by (repeat with_reducible first|apply bN|apply bD|apply bA);exact BK209.out) hb)
    have n6_:=(bB (by (repeat with_reducible first|apply bN|apply bD|apply bA);exact BK215.out) hb)
    have n7_:=Aside0.mk (below_step (by repeat (with_reducible first|exact HB.out|apply eA|apply eN|apply eD|refine eS ?_ (Aside0.out ‹_›))) hb)
    have n8_:=Aside0.mk (hbox)
    have n9_:=Aside0.mk ((by rw [hg];exact (below_size (by repeat (with_reducible first|exact HB.out|apply eA|apply eN|apply eD|refine eS ?_ (Aside0.out ‹_›)))) : w.heap.size ≤ gb226))
    have n10_:=Aside0.mk ((by rw [hg];exact (below_size (by repeat (with_reducible first|exact HB.out|apply eA|apply eN|apply eD|refine eS ?_ (Aside0.out ‹_›)))) : w.heap.size ≤ gb226))
    have n11_:=Aside0.mk ((by rw [hg];exact Nat.ne_of_lt (blk_lt (by (repeat with_reducible first|apply bN|apply bD|apply bA);exact BK191.out)) : gb191 ≠ gb226))
    have n12_:=Aside0.mk ((by rw [hg];exact Nat.ne_of_gt (blk_lt (by (repeat with_reducible first|apply bN|apply bD|apply bA);exact BK191.out)) : gb226 ≠ gb191))
    have n13_:=Aside0.mk ((by rw [hg];exact Nat.ne_of_lt (blk_lt (by (repeat with_reducible first|apply bN|apply bD|apply bA);exact BK192.out)) : gb192 ≠ gb226))
    have n14_:=Aside0.mk ((by rw [hg];exact Nat.ne_of_gt (blk_lt (by (repeat with_reducible first|apply bN|apply bD|apply bA);exact BK192.out)) : gb226 ≠ gb192))
    have n15_:=Aside0.mk ((by rw [hg];exact Nat.ne_of_lt (blk_lt (by (repeat with_reducible first|apply bN|apply bD|apply bA);exact BK209.out)) : gb209 ≠ gb226))
    have n16_:=Aside0.mk ((by rw [hg];exact Nat.ne_of_gt (blk_lt (by (repeat with_reducible first|apply bN|apply bD|apply bA);exact BK209.out)) : gb226 ≠ gb209))
    have n17_:=Aside0.mk ((by rw [hg];exact Nat.ne_of_lt (blk_lt (by (repeat with_reducible first|apply bN|apply bD|apply bA);exact BK215.out)) : gb215 ≠ gb226))
    have n18_:=Aside0.mk ((by rw [hg];exact Nat.ne_of_gt (blk_lt (by (repeat with_reducible first|apply bN|apply bD|apply bA);exact BK215.out)) : gb226 ≠ gb215))
    clear HO198
    clear HO207
    clear HO214
    clear BK191
    clear BK192
    clear BK209
    clear BK215
    clear HB
    have HO198:=n0_
    have HO207:=n1_
    have HO214:=n2_
    have BK191:=n3_
    have BK192:=n4_
    have BK209:=n5_
    have BK215:=n6_
    have HB:=n7_
    have BK226:=n8_
    have GW226:=n9_
    have GE226:=n10_
    have NB191_226:=n11_
    have NB226_191:=n12_
    have NB192_226:=n13_
    have NB226_192:=n14_
    have NB209_226:=n15_
    have NB226_209:=n16_
    have NB215_226:=n17_
    have NB226_215:=n18_
    clear n0_ n1_ n2_ n3_ n4_ n5_ n6_ n7_ n8_ n9_ n10_ n11_ n12_ n13_ n14_ n15_ n16_ n17_ n18_
    clear hb hbox hg
    refine hK.out _ _ ⟨(bC BK215 0).trans rfl,(bC BK215 1).trans rfl,(bC BK215 2).trans rfl,(bC BK192 0).trans rfl,(bC BK192 1).trans rfl,(bC BK192 2).trans rfl,(bC BK192 3).trans rfl⟩ (fun hHeld=>?_)
    clear hK K
    refine norm_ (a':=?_) ?_ ?_
    rotate_left
    ·show Act.put _ (some 9) _ = _
     simp only [Act.put,List.setIfInBounds_toArray,List.set_cons_zero,List.set_cons_succ,i64_w,i32_w]
     rfl
    refine one_ (i:=2) (N:=some 34) #[true,true,true,false,false,false,false,true,false,false] rfl rfl (one_of HT_.out (by kernel_rfl)) (by decide) (fun K hK=>?_)
    refine goes_ Try.func12 (by kernel_rfl) rfl #[.agg #[.int .i64 a1_0,.int .i64 a1_1,.int .i64 a1_2,.int .i64 a1_3]] (by rfl) rfl rfl (by (try simp only [List.map_toArray,List.map_cons,List.map_nil]);first|done|rfl) ?_
    with_reducible refine (laws_toClue.calls a1_0 a1_1 a1_2 a1_3 t216 t217 t218 t219 _ A14.out).mono ?_
    rintro e w45 ⟨rfl,hb⟩
    refine ⟨_,rfl,?_⟩
    have n0_:=Aside0.mk (Kd.R_below (by (repeat with_reducible first|apply rA|apply rN|apply rD);exact HO198.out) hb)
    have n1_:=Aside0.mk (Kd.R_below (by (repeat with_reducible first|apply rA|apply rN|apply rD);exact HO207.out) hb)
    have n2_:=Aside0.mk (Kd.R_below (by (repeat with_reducible first|apply rA|apply rN|apply rD);exact HO214.out) hb)
    have n3_:=(bB (by (repeat with_reducible first|apply bN|apply bD|apply bA);exact BK191.out) hb)
    have n4_:=(bB (by (repeat with_reducible first|apply bN|apply bD|apply bA);exact BK192.out) hb)
    have n5_:=(bB (by (repeat with_reducible first|apply bN|apply bD|apply bA);exact BK209.out) hb)
    have n6_:=(bB (by (repeat with_reducible first|apply bN|apply bD|apply bA);exact BK215.out) hb)
    have n7_:=(bB (by (repeat with_reducible first|apply bN|apply bD|apply bA);exact BK226.out) hb)
    have n8_:=Aside0.mk (below_step (by repeat (with_reducible first|exact HB.out|apply eA|apply eN|apply eD|refine eS ?_ (Aside0.out ‹_›))) hb)
    clear HO198
    clear HO207
    clear HO214
    clear BK191
    clear BK192
    clear BK209
    clear BK215
    clear BK226
    clear HB
    have HO198:=n0_
    have HO207:=n1_
    have HO214:=n2_
    have BK191:=n3_
    have BK192:=n4_
    have BK209:=n5_
    have BK215:=n6_
    have BK226:=n7_
    have HB:=n8_
    clear n0_ n1_ n2_ n3_ n4_ n5_ n6_ n7_ n8_
    (try clear hb)
    (try clear hb2)
    (try clear hk)
    (try clear hi)
    refine hK.out _ _ ⟨(bC BK215 0).trans rfl,(bC BK215 1).trans rfl,(bC BK215 2).trans rfl,(bC BK192 0).trans rfl,(bC BK192 1).trans rfl,(bC BK192 2).trans rfl,(bC BK192 3).trans rfl⟩ (fun hHeld=>?_)
    clear hK K
    refine norm_ (a':=?_) ?_ ?_
    rotate_left
    ·show Act.put _ (some 34) _ = _
     simp only [Act.put,List.setIfInBounds_toArray,List.set_cons_zero,List.set_cons_succ,i64_w,i32_w]
     rfl
    refine one_ (i:=3) (N:=some 35) #[true,true,true,true,false,false,false,true,false,false] rfl rfl (one_of HT_.out (by kernel_rfl)) (by decide) (fun K hK=>?_)
    refine goes_ Try.func13 (by kernel_rfl) rfl #[.agg #[.int .i64 t210,.int .i64 t211,.slice Ao41 t212.length co41],.agg #[.int .i64 t216,.int .i64 t217,.int .i64 t218,.int .i64 t219]] (by rfl) rfl rfl (by (try simp only [List.map_toArray,List.map_cons,List.map_nil]);first|done|rfl) ?_
    with_reducible refine (impl_AddClue.calls k t210 t211 _ _ t212 t216 t217 t218 t219 t220 t221 t222 t225 _ ?side1 ?side2 A15.out).mono ?_
    (case side1=>repeat (first|exact (Kd.R_reads' HO214.out).2.2|(with_reducible refine Kd.C_alloc ?_ _)|(with_reducible refine Kd.C_drewN ?_ _)|(with_reducible refine Kd.C_drew ?_)))
    (case side2=>exact (Kd.R_reads' HO214.out).2.1)
    rintro e w46 ⟨v223,rfl,ho0,hb⟩
    refine ⟨_,rfl,?_⟩
    have n0_:=Aside0.mk (Kd.R_elder' (by (repeat with_reducible first|apply rA|apply rN|apply rD);exact HO198.out) (Kd.R_base ho0) hb)
    have n1_:=Aside0.mk (Kd.R_elder' (by (repeat with_reducible first|apply rA|apply rN|apply rD);exact HO207.out) (Kd.R_base ho0) hb)
    have n2_:=Aside0.mk (Kd.R_elder' (by (repeat with_reducible first|apply rA|apply rN|apply rD);exact HO214.out) (Kd.R_base ho0) hb)
    have n3_:=Aside0.mk (rL (rW (rW (rW ho0 (Kd.R_lt (by (repeat with_reducible first|apply rA|apply rN|apply rD);exact HO198.out))) (Kd.R_lt (by (repeat with_reducible first|apply rA|apply rN|apply rD);exact HO207.out))) (Kd.R_lt (by (repeat with_reducible first|apply rA|apply rN|apply rD);exact HO214.out))) (below_size (by repeat (with_reducible first|exact HB.out|apply eA|apply eN|apply eD|refine eS ?_ (Aside0.out ‹_›)))))
    have n4_:=(bB (by (repeat with_reducible first|apply bN|apply bD|apply bA);exact BK191.out) hb)
    have n5_:=(bB (by (repeat with_reducible first|apply bN|apply bD|apply bA);exact BK192.out) hb)
    have n6_:=(bB (by (repeat with_reducible first|apply bN|apply bD|apply bA);exact BK209.out) hb)
    have n7_:=(bB (by (repeat with_reducible first|apply bN|apply bD|apply bA);exact BK215.out) hb)
    have n8_:=(bB (by (repeat with_reducible first|apply bN|apply bD|apply bA);exact BK226.out) hb)
    have n9_:=Aside0.mk (below_step (by repeat (with_reducible first|exact HB.out|apply eA|apply eN|apply eD|refine eS ?_ (Aside0.out ‹_›))) hb)
    clear HO198
    clear HO207
    clear HO214
    clear BK191
    clear BK192
    clear BK209
    clear BK215
    clear BK226
    clear HB
    have HO198:=n0_
    have HO207:=n1_
    have HO214:=n2_
    have HO224:=n3_
    have BK191:=n4_
    have BK192:=n5_
    have BK209:=n6_
    have BK215:=n7_
    have BK226:=n8_
    have HB:=n9_
    clear n0_ n1_ n2_ n3_ n4_ n5_ n6_ n7_ n8_ n9_
    (try clear hb)
    (try clear hb2)
    (try clear hk)
    (try clear hi)
    (try clear ho0)
    refine hK.out _ _ ⟨(bC BK215 0).trans rfl,(bC BK215 1).trans rfl,(bC BK215 2).trans rfl,(bC BK192 0).trans rfl,(bC BK192 1).trans rfl,(bC BK192 2).trans rfl,(bC BK192 3).trans rfl⟩ (fun hHeld=>?_)
    clear hK K
    refine norm_ (a':=?_) ?_ ?_
    rotate_left
    ·show Act.put _ (some 35) _ = _
     simp only [Act.put,List.setIfInBounds_toArray,List.set_cons_zero,List.set_cons_succ,i64_w,i32_w]
     rfl
    refine pure_ (i:=4) (N:=some 31) (v:=?_) (a':=?_) #[true,true,true,true,true,false,false,true,false,false] rfl rfl (any_of HT_.out (by kernel_rfl)) (fun _ _ _ h=>h) (Or.inl ⟨by rfl,?_⟩) ?_ ?_
    rotate_left
    ·intro w'
     go_simp
     with_reducible rfl
    rotate_left
    ·simp only [Act.put,List.setIfInBounds_toArray,List.set_cons_zero,List.set_cons_succ,i64_w,i32_w]
     rfl
    refine pure_ (i:=5) (N:=some 36) (v:=?_) (a':=?_) #[true,true,true,true,true,true,false,true,false,false] rfl rfl (any_of HT_.out (by kernel_rfl)) (fun _ _ _ h=>h) (Or.inl ⟨by rfl,?_⟩) ?_ ?_
    rotate_left
    ·intro w'
     go_simp
     with_reducible rfl
    rotate_left
    ·simp only [Act.put,List.setIfInBounds_toArray,List.set_cons_zero,List.set_cons_succ,i64_w,i32_w]
     rfl
    refine pure_ (i:=6) (N:=some 37) (v:=?_) (a':=?_) #[true,true,true,true,true,true,true,true,false,false] rfl rfl (any_of HT_.out (by kernel_rfl)) (fun _ _ _ h=>h) (Or.inl ⟨by rfl,?_⟩) ?_ ?_
    rotate_left
    ·intro w'
     go_simp
     with_reducible rfl
    rotate_left
    ·simp only [Act.put,List.setIfInBounds_toArray,List.set_cons_zero,List.set_cons_succ,i64_w,i32_w]
     rfl
    exact norm_ (by simp only [putAll,Act.put,List.setIfInBounds_toArray,List.set_cons_zero,List.set_cons_succ]) (hCont (v223,gb226) _ ⟨hHeld,(by (repeat with_reducible first|apply rA|apply rN|apply rD);exact Kd.R_mono HO198.out (fun _ hk=>⟨hk.1.1,⟨hk.1.2,hk.2⟩⟩)),(by (repeat with_reducible first|apply rA|apply rN|apply rD);exact Kd.R_mono HO207.out (fun _ hk=>⟨hk.1.1,⟨hk.1.2,hk.2⟩⟩)),(by (repeat with_reducible first|apply rA|apply rN|apply rD);exact Kd.R_mono HO214.out (fun _ hk=>⟨hk.1.1,⟨hk.1.2,hk.2⟩⟩)),(by (repeat with_reducible first|apply rA|apply rN|apply rD);exact Kd.R_mono HO224.out (fun _ hk=>⟨hk.1.1.2,⟨hk.1.2,hk.2⟩⟩)),(by (repeat with_reducible first|apply bN|apply bD|apply bA);exact BK191.out),(by (repeat with_reducible first|apply bN|apply bD|apply bA);exact BK192.out),(by (repeat with_reducible first|apply bN|apply bD|apply bA);exact BK209.out),(by (repeat with_reducible first|apply bN|apply bD|apply bA);exact BK215.out),(by (repeat with_reducible first|apply bN|apply bD|apply bA);exact BK226.out),GW226.out,GE226.out,NB191_226.out,NB226_191.out,NB192_226.out,NB226_192.out,NB209_226.out,NB226_209.out,NB215_226.out,NB226_215.out,(by repeat (with_reducible first|exact HB.out|apply eA|apply eN|apply eD|refine eS ?_ (Aside0.out ‹_›)))⟩)
  rintro ⟨v223,gb226⟩ w47 ⟨hS_,h0_,h1_,h2_,h3_,h4_,h5_,h6_,h7_,h8_,h9_,h10_,h11_,h12_,h13_,h14_,h15_,h16_,h17_,h18_,h19_⟩
  have n0_ : Aside0 (Kd.R k37 37 w47 w.heap.size (fun k_=>some k_ ≠ (.slice Ao31 t205.length co31 : Value).ownBlock ∧ some k_ ≠ (.slice Ao41 t212.length co41 : Value).ownBlock ∧ some k_ ≠ (v223 : Value).ownBlock) v197 t196):=⟨h0_⟩
  have n1_ : Aside0 (Kd.R k37 37 w47 w.heap.size (fun k_=>some k_ ≠ (v197 : Value).ownBlock ∧ some k_ ≠ (.slice Ao41 t212.length co41 : Value).ownBlock ∧ some k_ ≠ (v223 : Value).ownBlock) (.slice Ao31 t205.length co31) t205):=⟨h1_⟩
  have n2_ : Aside0 (Kd.R k37 37 w47 w.heap.size (fun k_=>some k_ ≠ (v197 : Value).ownBlock ∧ some k_ ≠ (.slice Ao31 t205.length co31 : Value).ownBlock ∧ some k_ ≠ (v223 : Value).ownBlock) (.slice Ao41 t212.length co41) t212):=⟨h2_⟩
  have n3_ : Aside0 (Kd.R k37 37 w47 w.heap.size (fun k_=>some k_ ≠ (v197 : Value).ownBlock ∧ some k_ ≠ (.slice Ao31 t205.length co31 : Value).ownBlock ∧ some k_ ≠ (.slice Ao41 t212.length co41 : Value).ownBlock) v223 t222):=⟨h3_⟩
  have n4_ : Aside0 (w47.heap[gb191]? = some (.cells #[.int .i64 a0_0,.int .i64 a0_1,.slice A0_2 l0_2.length c0_2] 24 (0,0))):=⟨h4_⟩
  have n5_ : Aside0 (w47.heap[gb192]? = some (.cells #[.int .i64 a1_0,.int .i64 a1_1,.int .i64 a1_2,.int .i64 a1_3] 34 (0,0))):=⟨h5_⟩
  have n6_ : Aside0 (w47.heap[gb209]? = some (.cells #[.int .i64 t203,.int .i64 t204,.slice Ao31 t205.length co31] 29 (0,0))):=⟨h6_⟩
  have n7_ : Aside0 (w47.heap[gb215]? = some (.cells #[.int .i64 t210,.int .i64 t211,.slice Ao41 t212.length co41] 29 (0,0))):=⟨h7_⟩
  have n8_ : Aside0 (w47.heap[gb226]? = some (.cells #[.int .i64 0,.int .i64 0,.slice none 0 0] 29 (0,0))):=⟨h8_⟩
  have n9_ : Aside0 (w.heap.size ≤ gb226):=⟨h9_⟩
  have n10_ : Aside0 (w.heap.size ≤ gb226):=⟨h10_⟩
  have n11_ : Aside0 (gb191 ≠ gb226):=⟨h11_⟩
  have n12_ : Aside0 (gb226 ≠ gb191):=⟨h12_⟩
  have n13_ : Aside0 (gb192 ≠ gb226):=⟨h13_⟩
  have n14_ : Aside0 (gb226 ≠ gb192):=⟨h14_⟩
  have n15_ : Aside0 (gb209 ≠ gb226):=⟨h15_⟩
  have n16_ : Aside0 (gb226 ≠ gb209):=⟨h16_⟩
  have n17_ : Aside0 (gb215 ≠ gb226):=⟨h17_⟩
  have n18_ : Aside0 (gb226 ≠ gb215):=⟨h18_⟩
  have n19_ : Aside0 (Below w.heap.size w w47):=⟨h19_⟩
  clear HO198
  clear HO207
  clear HO214
  clear BK191
  clear BK192
  clear BK209
  clear BK215
  clear HB
  clear h0_ h1_ h2_ h3_ h4_ h5_ h6_ h7_ h8_ h9_ h10_ h11_ h12_ h13_ h14_ h15_ h16_ h17_ h18_ h19_
  have HO198:=n0_
  have HO207:=n1_
  have HO214:=n2_
  have HO224:=n3_
  have BK191:=n4_
  have BK192:=n5_
  have BK209:=n6_
  have BK215:=n7_
  have BK226:=n8_
  have GW226:=n9_
  have GE226:=n10_
  have NB191_226:=n11_
  have NB226_191:=n12_
  have NB192_226:=n13_
  have NB226_192:=n14_
  have NB209_226:=n15_
  have NB226_209:=n16_
  have NB215_226:=n17_
  have NB226_215:=n18_
  have HB:=n19_
  clear n0_ n1_ n2_ n3_ n4_ n5_ n6_ n7_ n8_ n9_ n10_ n11_ n12_ n13_ n14_ n15_ n16_ n17_ n18_ n19_
  have hHeld : w47.cell? ⟨gb215,0,none⟩ = some (.int .i64 t210) ∧ w47.cell? ⟨gb215,1,none⟩ = some (.int .i64 t211) ∧ w47.cell? ⟨gb215,2,none⟩ = some (.slice Ao41 t212.length co41) ∧ w47.cell? ⟨gb192,0,none⟩ = some (.int .i64 a1_0) ∧ w47.cell? ⟨gb192,1,none⟩ = some (.int .i64 a1_1) ∧ w47.cell? ⟨gb192,2,none⟩ = some (.int .i64 a1_2) ∧ w47.cell? ⟨gb192,3,none⟩ = some (.int .i64 a1_3):=hS_
  obtain ⟨Ao50,co50,eo50⟩:=Kd.R_slice HO224.out
  (first|subst eo50|(injection eo50 with f1_ f2_ f3_;have f4_:=f1_.symm;have f5_:=f3_.symm;clear f1_ f2_ f3_;subst f4_;subst f5_))
  refine norm_ (a':=?_) ?_ ?_
  rotate_left
  ·simp only [putAll,Act.put,List.setIfInBounds_toArray,List.set_cons_zero,List.set_cons_succ]
   rfl
  refine one_ (i:=8) (N:=none) #[true,true,true,true,true,true,true,true,true,false] rfl rfl (one_of HT_.out (by kernel_rfl)) (by decide) (fun K hK=>?_)
  have hs48 : w47.cell? ⟨gb226,0,none⟩ = some (.int .i64 0):=(bC BK226 0).trans rfl
  have hfs48:=blk_frozen BK226.out 0
  have hns48_0:=NB191_226.out
  have hns48_1:=NB192_226.out
  have hns48_2:=NB209_226.out
  have hns48_3:=NB215_226.out
  have hms48_0:=NB226_191.out
  have hms48_1:=NB226_192.out
  have hms48_2:=NB226_209.out
  have hms48_3:=NB226_215.out
  have hs49 : w47.cell? ⟨gb226,1,none⟩ = some (.int .i64 0):=(bC BK226 1).trans rfl
  have hfs49:=blk_frozen BK226.out 1
  have hns49_0:=NB191_226.out
  have hns49_1:=NB192_226.out
  have hns49_2:=NB209_226.out
  have hns49_3:=NB215_226.out
  have hms49_0:=NB226_191.out
  have hms49_1:=NB226_192.out
  have hms49_2:=NB226_209.out
  have hms49_3:=NB226_215.out
  have hs51 : w47.cell? ⟨gb226,2,none⟩ = some (.slice none 0 0):=(bC BK226 2).trans rfl
  have hfs51:=blk_frozen BK226.out 2
  have hns51_0:=NB191_226.out
  have hns51_1:=NB192_226.out
  have hns51_2:=NB209_226.out
  have hns51_3:=NB215_226.out
  have hms51_0:=NB226_191.out
  have hms51_1:=NB226_192.out
  have hms51_2:=NB226_209.out
  have hms51_3:=NB226_215.out
  refine skip_ (w1:=?_) (by rfl) rfl ?_ ?_
  rotate_left
  ·go_simp
   rfl
  refine hK.out _ _ ⟨((cell_far (p:=⟨gb226,_,none⟩) NB215_226.out _).trans (((cell_far (p:=⟨gb226,_,none⟩) NB215_226.out _).trans (((cell_far (p:=⟨gb226,_,none⟩) NB215_226.out _).trans (hHeld.1)))))),((cell_far (p:=⟨gb226,_,none⟩) NB215_226.out _).trans (((cell_far (p:=⟨gb226,_,none⟩) NB215_226.out _).trans (((cell_far (p:=⟨gb226,_,none⟩) NB215_226.out _).trans (hHeld.2.1)))))),((cell_far (p:=⟨gb226,_,none⟩) NB215_226.out _).trans (((cell_far (p:=⟨gb226,_,none⟩) NB215_226.out _).trans (((cell_far (p:=⟨gb226,_,none⟩) NB215_226.out _).trans (hHeld.2.2.1)))))),((cell_far (p:=⟨gb226,_,none⟩) NB192_226.out _).trans (((cell_far (p:=⟨gb226,_,none⟩) NB192_226.out _).trans (((cell_far (p:=⟨gb226,_,none⟩) NB192_226.out _).trans (hHeld.2.2.2.1)))))),((cell_far (p:=⟨gb226,_,none⟩) NB192_226.out _).trans (((cell_far (p:=⟨gb226,_,none⟩) NB192_226.out _).trans (((cell_far (p:=⟨gb226,_,none⟩) NB192_226.out _).trans (hHeld.2.2.2.2.1)))))),((cell_far (p:=⟨gb226,_,none⟩) NB192_226.out _).trans (((cell_far (p:=⟨gb226,_,none⟩) NB192_226.out _).trans (((cell_far (p:=⟨gb226,_,none⟩) NB192_226.out _).trans (hHeld.2.2.2.2.2.1)))))),((cell_far (p:=⟨gb226,_,none⟩) NB192_226.out _).trans (((cell_far (p:=⟨gb226,_,none⟩) NB192_226.out _).trans (((cell_far (p:=⟨gb226,_,none⟩) NB192_226.out _).trans (hHeld.2.2.2.2.2.2))))))⟩ (fun hHeld=>?_)
  clear hK K
  refine pure_ (i:=9) (N:=some 10) (v:=?_) (a':=?_) #[true,true,true,true,true,true,true,true,true,true] rfl rfl (any_of HT_.out (by kernel_rfl)) (fun _ _ _ h=>h) (Or.inl ⟨by rfl,?_⟩) ?_ ?_
  rotate_left
  ·intro w'
   go_simp
   with_reducible rfl
  rotate_left
  ·simp only [Act.put,List.setIfInBounds_toArray,List.set_cons_zero,List.set_cons_succ,i64_w,i32_w]
   rfl
  refine done_ (done_of HT_.out (by kernel_rfl)) ?_
  go_upto_region 8 with (fail)
  go_cut [46] (fun v46 wc=>∃ (kq : Nat) (x46_15 : Bool),v46 = .bool x46_15 ∧ Aside0 (laws_FnExactAddClue.j0 kq t208 t225 x46_15 a0_0 a0_1 l0_2 a1_0 a1_1 a1_2 a1_3 t203 t204 t205 t210 t211 t212 t220 t221 t222 = some r) ∧ Aside0 (kq ≤ k) ∧ Aside0 (Kd.R k37 37 wc w.heap.size (fun k_=>some k_ ≠ ((.slice Ao41 t212.length co41) : Value).ownBlock ∧ some k_ ≠ ((.slice Ao50 t222.length co50) : Value).ownBlock) (.slice Ao31 t205.length co31) t205) ∧ Aside0 (Kd.R k37 37 wc w.heap.size (fun k_=>some k_ ≠ ((.slice Ao31 t205.length co31) : Value).ownBlock ∧ some k_ ≠ ((.slice Ao50 t222.length co50) : Value).ownBlock) (.slice Ao41 t212.length co41) t212) ∧ Aside0 (Kd.R k37 37 wc w.heap.size (fun k_=>some k_ ≠ ((.slice Ao31 t205.length co31) : Value).ownBlock ∧ some k_ ≠ ((.slice Ao41 t212.length co41) : Value).ownBlock) (.slice Ao50 t222.length co50) t222) ∧ Aside0 (wc.heap[gb191]? = some (.cells #[.int .i64 a0_0,.int .i64 a0_1,(.slice A0_2 l0_2.length c0_2)] 24 (0,0))) ∧ Aside0 (wc.heap[gb192]? = some (.cells #[.int .i64 a1_0,.int .i64 a1_1,.int .i64 a1_2,.int .i64 a1_3] 34 (0,0))) ∧ Aside0 (wc.heap[gb209]? = some (.cells #[.int .i64 t203,.int .i64 t204,(.slice Ao31 t205.length co31)] 29 (0,0))) ∧ Aside0 (wc.heap[gb215]? = some (.cells #[.int .i64 t210,.int .i64 t211,(.slice Ao41 t212.length co41)] 29 (0,0))) ∧ Aside0 (wc.heap[gb226]? = some (.cells #[.int .i64 t220,.int .i64 t221,(.slice Ao50 t222.length co50)] 29 (0,0))) ∧ Aside0 (Below w.heap.size w wc))
  case first =>
   have H:=HC16.out
   clear HC16
   replace H:=Option.bind_eq_some_iff.mp H
   obtain ⟨t227,A520,H⟩:=H
   replace H : (if t227 = true then (laws_FnExactAddClue.j0 k t208 t225 (t225 != t208) a0_0 a0_1 l0_2 a1_0 a1_1 a1_2 a1_3 t203 t204 t205 t210 t211 t212 t220 t221 t222) else (laws_FnExactAddClue.j0 k t208 t225 true a0_0 a0_1 l0_2 a1_0 a1_1 a1_2 a1_3 t203 t204 t205 t210 t211 t212 t220 t221 t222)) = some r:=H
   have A52:=Aside0.mk A520
   clear A520
   by_cases c53 : t227 = true
   ·subst c53
    have H1 : (laws_FnExactAddClue.j0 k t208 t225 (t225 != t208) a0_0 a0_1 l0_2 a1_0 a1_1 a1_2 a1_3 t203 t204 t205 t210 t211 t212 t220 t221 t222) = some r:=by rw [if_pos rfl] at H;exact H
    clear H
    have H:=H1
    clear H1
    have H':=Aside0.mk H
    clear H
    have hnb54:=NB226_191.out
    have hnc54:=NB191_226.out
    have hnb55:=NB226_192.out
    have hnc55:=NB192_226.out
    have hnb56:=NB226_209.out
    have hnc56:=NB209_226.out
    have hnb57:=NB226_215.out
    have hnc57:=NB215_226.out
    have hcz58_0 : w47.cell? ⟨gb226,0,none⟩ = some (.int .i64 0):=(bC BK226 0).trans rfl
    have hcz58_1 : w47.cell? ⟨gb226,1,none⟩ = some (.int .i64 0):=(bC BK226 1).trans rfl
    have hcz58_2 : w47.cell? ⟨gb226,2,none⟩ = some (.slice none 0 0):=(bC BK226 2).trans rfl
    have hfz58_0:=blk_frozen BK226.out 0
    have hfz58_1:=blk_frozen BK226.out 1
    have hfz58_2:=blk_frozen BK226.out 2
    have hnb59:=NB209_191.out
    have hnc59:=NB191_209.out
    have hnb60:=NB209_192.out
    have hnc60:=NB192_209.out
    have hnb61:=NB209_215.out
    have hnc61:=NB215_209.out
    have hcz62_0 : w47.cell? ⟨gb209,0,none⟩ = some (.int .i64 t203):=(bC BK209 0).trans rfl
    have hcz62_1 : w47.cell? ⟨gb209,1,none⟩ = some (.int .i64 t204):=(bC BK209 1).trans rfl
    have hcz62_2 : w47.cell? ⟨gb209,2,none⟩ = some (.slice Ao31 t205.length co31):=(bC BK209 2).trans rfl
    have hfz62_0:=blk_frozen BK209.out 0
    have hfz62_1:=blk_frozen BK209.out 1
    have hfz62_2:=blk_frozen BK209.out 2
    go_wp2_with (first|((with_reducible refine gate_callee (f:=10) rfl ?_);refine goesL_ (some 40) rfl rfl Try.func10 (by kernel_rfl) rfl #[.agg #[.int .i64 t220,.int .i64 t221,.slice Ao50 t222.length co50],.agg #[.int .i64 t203,.int .i64 t204,.slice Ao31 t205.length co31]] rfl (by (try simp only [List.map_toArray,List.map_cons,List.map_nil]);first|done|rfl) ?_;(with_reducible refine (laws_eqPuzzle.calls k t220 t221 _ _ t222 t203 t204 _ _ t205 true _ ?side1 ?side2 ?side3 ?side4 A52.out).mono ?_);(case side1=>refine (Kd.R_reads' (e:=37) (base:=w.heap.size) (ok:=fun k_=>(some k_ ≠ (v197 : Value).ownBlock ∧ (some k_ ≠ (.slice Ao31 t205.length co31 : Value).ownBlock ∧ some k_ ≠ (.slice Ao41 t212.length co41 : Value).ownBlock))) (n:=t222.length) (c:=co50) ?_).2.2;exact (by (repeat with_reducible first|apply rA|apply rN|apply rD);exact (Kd.R_mono (Kd.R_far (p:=⟨gb226,2,none⟩) (Kd.R_far (p:=⟨gb226,1,none⟩) (Kd.R_far (p:=⟨gb226,0,none⟩) (Kd.R_types HO224.out BK226.out (by decide)) (fun _ hk=>hk.2) (.int .i64 t220)) (fun _ hk=>hk.2) (.int .i64 t221)) (fun _ hk=>hk.2) (.slice Ao50 t222.length co50)) (fun _ h_=>h_.1))));(case side2=>exact (Kd.R_reads' HO224.out).2.1);(case side3=>refine (Kd.R_reads' (e:=37) (base:=w.heap.size) (ok:=fun k_=>(some k_ ≠ (v197 : Value).ownBlock ∧ (some k_ ≠ (.slice Ao41 t212.length co41 : Value).ownBlock ∧ some k_ ≠ (.slice Ao50 t222.length co50 : Value).ownBlock))) (n:=t205.length) (c:=co31) ?_).2.2;exact (by (repeat with_reducible first|apply rA|apply rN|apply rD);exact (Kd.R_mono (Kd.R_far (p:=⟨gb226,2,none⟩) (Kd.R_far (p:=⟨gb226,1,none⟩) (Kd.R_far (p:=⟨gb226,0,none⟩) (Kd.R_types HO207.out BK226.out (by decide)) (fun _ hk=>hk.2) (.int .i64 t220)) (fun _ hk=>hk.2) (.int .i64 t221)) (fun _ hk=>hk.2) (.slice Ao50 t222.length co50)) (fun _ h_=>h_.1))));(case side4=>exact (Kd.R_reads' HO207.out).2.1);rintro e w63 ⟨rfl,hb⟩;refine ⟨_,rfl,?_⟩;have n0_:=Aside0.mk (Kd.R_below (by (repeat with_reducible first|apply rA|apply rN|apply rD);exact (Kd.R_mono (Kd.R_far (p:=⟨gb226,2,none⟩) (Kd.R_far (p:=⟨gb226,1,none⟩) (Kd.R_far (p:=⟨gb226,0,none⟩) (Kd.R_types HO198.out BK226.out (by decide)) (fun _ hk=>hk.2) (.int .i64 t220)) (fun _ hk=>hk.2) (.int .i64 t221)) (fun _ hk=>hk.2) (.slice Ao50 t222.length co50)) (fun _ h_=>h_.1))) hb);have n1_:=Aside0.mk (Kd.R_below (by (repeat with_reducible first|apply rA|apply rN|apply rD);exact (Kd.R_mono (Kd.R_far (p:=⟨gb226,2,none⟩) (Kd.R_far (p:=⟨gb226,1,none⟩) (Kd.R_far (p:=⟨gb226,0,none⟩) (Kd.R_types HO207.out BK226.out (by decide)) (fun _ hk=>hk.2) (.int .i64 t220)) (fun _ hk=>hk.2) (.int .i64 t221)) (fun _ hk=>hk.2) (.slice Ao50 t222.length co50)) (fun _ h_=>h_.1))) hb);have n2_:=Aside0.mk (Kd.R_below (by (repeat with_reducible first|apply rA|apply rN|apply rD);exact (Kd.R_mono (Kd.R_far (p:=⟨gb226,2,none⟩) (Kd.R_far (p:=⟨gb226,1,none⟩) (Kd.R_far (p:=⟨gb226,0,none⟩) (Kd.R_types HO214.out BK226.out (by decide)) (fun _ hk=>hk.2) (.int .i64 t220)) (fun _ hk=>hk.2) (.int .i64 t221)) (fun _ hk=>hk.2) (.slice Ao50 t222.length co50)) (fun _ h_=>h_.1))) hb);have n3_:=Aside0.mk (Kd.R_below (by (repeat with_reducible first|apply rA|apply rN|apply rD);exact (Kd.R_mono (Kd.R_far (p:=⟨gb226,2,none⟩) (Kd.R_far (p:=⟨gb226,1,none⟩) (Kd.R_far (p:=⟨gb226,0,none⟩) (Kd.R_types HO224.out BK226.out (by decide)) (fun _ hk=>hk.2) (.int .i64 t220)) (fun _ hk=>hk.2) (.int .i64 t221)) (fun _ hk=>hk.2) (.slice Ao50 t222.length co50)) (fun _ h_=>h_.1))) hb);have n4_:=(bB (g:=gb191) (o:=.cells #[.int .i64 a0_0,.int .i64 a0_1,.slice A0_2 l0_2.length c0_2] 24 (0,0)) (by (repeat with_reducible first|apply bN|apply bD|apply bA);refine blk_far ?_ NB191_226.out _;(repeat with_reducible first|apply bN|apply bD|apply bA);refine blk_far ?_ NB191_226.out _;(repeat with_reducible first|apply bN|apply bD|apply bA);refine blk_far ?_ NB191_226.out _;(repeat with_reducible first|apply bN|apply bD|apply bA);exact BK191.out) hb);have n5_:=(bB (g:=gb192) (o:=.cells #[.int .i64 a1_0,.int .i64 a1_1,.int .i64 a1_2,.int .i64 a1_3] 34 (0,0)) (by (repeat with_reducible first|apply bN|apply bD|apply bA);refine blk_far ?_ NB192_226.out _;(repeat with_reducible first|apply bN|apply bD|apply bA);refine blk_far ?_ NB192_226.out _;(repeat with_reducible first|apply bN|apply bD|apply bA);refine blk_far ?_ NB192_226.out _;(repeat with_reducible first|apply bN|apply bD|apply bA);exact BK192.out) hb);have n6_:=(bB (g:=gb209) (o:=.cells #[.int .i64 t203,.int .i64 t204,.slice Ao31 t205.length co31] 29 (0,0)) (by (repeat with_reducible first|apply bN|apply bD|apply bA);refine blk_far ?_ NB209_226.out _;(repeat with_reducible first|apply bN|apply bD|apply bA);refine blk_far ?_ NB209_226.out _;(repeat with_reducible first|apply bN|apply bD|apply bA);refine blk_far ?_ NB209_226.out _;(repeat with_reducible first|apply bN|apply bD|apply bA);exact BK209.out) hb);have n7_:=(bB (g:=gb215) (o:=.cells #[.int .i64 t210,.int .i64 t211,.slice Ao41 t212.length co41] 29 (0,0)) (by (repeat with_reducible first|apply bN|apply bD|apply bA);refine blk_far ?_ NB215_226.out _;(repeat with_reducible first|apply bN|apply bD|apply bA);refine blk_far ?_ NB215_226.out _;(repeat with_reducible first|apply bN|apply bD|apply bA);refine blk_far ?_ NB215_226.out _;(repeat with_reducible first|apply bN|apply bD|apply bA);exact BK215.out) hb);have n8_:=(bB (g:=gb226) (o:=.cells #[.int .i64 t220,.int .i64 t221,.slice Ao50 t222.length co50] 29 (0,0)) (by (repeat with_reducible first|apply bN|apply bD|apply bA);refine blk_put (cs:=#[.int .i64 t220,.int .i64 t221,.slice none 0 0]) ?_ 2 _ rfl;(repeat with_reducible first|apply bN|apply bD|apply bA);refine blk_put (cs:=#[.int .i64 t220,.int .i64 0,.slice none 0 0]) ?_ 1 _ rfl;(repeat with_reducible first|apply bN|apply bD|apply bA);refine blk_put (cs:=#[.int .i64 0,.int .i64 0,.slice none 0 0]) ?_ 0 _ rfl;(repeat with_reducible first|apply bN|apply bD|apply bA);exact BK226.out) hb);have n9_:=Aside0.mk (below_step (by repeat (with_reducible first|exact HB.out|apply eA|apply eN|apply eD|refine eS ?_ (Aside0.out ‹_›))) hb);clear HO198;clear HO207;clear HO214;clear HO224;clear BK191;clear BK192;clear BK209;clear BK215;clear BK226;clear HB;have HO198:=n0_;have HO207:=n1_;have HO214:=n2_;have HO224:=n3_;have BK191:=n4_;have BK192:=n5_;have BK209:=n6_;have BK215:=n7_;have BK226:=n8_;have HB:=n9_;clear n0_ n1_ n2_ n3_ n4_ n5_ n6_ n7_ n8_ n9_;(try clear hb);(try clear hb2);(try clear hk);(try clear hi)))
    go_meet
    case rel=>exact ⟨_,((t225 != t208)),(by first|rfl|(simp;done)|(simp [*];done)),H',⟨by first|omega|exact Nat.le_refl _⟩,⟨by (repeat with_reducible first|apply rA|apply rN|apply rD);exact Kd.R_mono HO207.out (fun _ hk=>⟨hk.2.1,hk.2.2⟩)⟩,⟨by (repeat with_reducible first|apply rA|apply rN|apply rD);exact Kd.R_mono HO214.out (fun _ hk=>⟨hk.2.1,hk.2.2⟩)⟩,⟨by (repeat with_reducible first|apply rA|apply rN|apply rD);exact Kd.R_mono HO224.out (fun _ hk=>⟨hk.2.1,hk.2.2⟩)⟩,⟨by (repeat with_reducible first|apply bN|apply bD|apply bA);exact BK191.out⟩,⟨by (repeat with_reducible first|apply bN|apply bD|apply bA);exact BK192.out⟩,⟨by (repeat with_reducible first|apply bN|apply bD|apply bA);exact BK209.out⟩,⟨by (repeat with_reducible first|apply bN|apply bD|apply bA);exact BK215.out⟩,⟨by (repeat with_reducible first|apply bN|apply bD|apply bA);exact BK226.out⟩,⟨by repeat (with_reducible first|exact HB.out|apply eA|apply eN|apply eD|refine eS ?_ (Aside0.out ‹_›))⟩⟩
   ·replace c53:=Bool.eq_false_iff.mpr c53
    subst c53
    have H1 : (laws_FnExactAddClue.j0 k t208 t225 true a0_0 a0_1 l0_2 a1_0 a1_1 a1_2 a1_3 t203 t204 t205 t210 t211 t212 t220 t221 t222) = some r:=by rw [if_neg (show ¬ (false = true) by decide)] at H;exact H
    clear H
    have H:=H1
    clear H1
    exact absurd (H.trans (congrArg some rT)) (laws_FnExactAddClue.j0_no _ _ _ _ _ _ _ _ _ _ _ _ _ _ _ _ _ _ _)
  case rest =>
   clear HC16
   try clear c1
   try clear p2
   try clear c5
   try clear c6
   try clear c10
   try clear c12
   try clear c13
   try clear c53
   try clear c54
   try clear c55
   try clear c56
   try clear c57
   try clear c59
   try clear c60
   try clear c61
   try clear hcz58_0
   try clear hcz58_1
   try clear hcz58_2
   try clear hcz62_0
   try clear hcz62_1
   try clear hcz62_2
   try clear hfz58_0
   try clear hfz58_1
   try clear hfz58_2
   try clear hfz62_0
   try clear hfz62_1
   try clear hfz62_2
   obtain ⟨kq,x46_15,rfl,HA,HJ15,HO_210002,HO_216002,HO_227002,BK191,BK192,BK209,BK215,BK226,HB⟩:=hcut
   cases kq with
  |zero=>exact absurd HA.out (by simp [laws_FnExactAddClue.j0])
  |succ kj15 =>
    have H:=HA.out
    clear HA
    simp only [laws_FnExactAddClue.j0] at H
    by_cases c64 : x46_15 = true
    ·subst c64
     have H1 : (some false) = some r:=by rw [if_pos rfl] at H;exact H
     clear H
     have H:=H1
     clear H1
     exact absurd ((Option.some.inj H).trans rT) (by decide)
    ·replace c64:=Bool.eq_false_iff.mpr c64
     subst c64
     have H1 : ((laws_toPuzzle.f kj15 a0_0 a0_1 l0_2).bind fun bt228=>((laws_eqPuzzle.f kj15 t210 t211 t212 bt228.1 bt228.2.1 bt228.2.2).bind fun t233=>(if t233 = true then ((laws_markPuzzle.f kj15 t210 t211 t212 1).bind fun bt234=>(if bt234.1 < 0 then (laws_FnExactAddClue.j1 kj15 t208 true a0_0 a0_1 l0_2 a1_0 a1_1 a1_2 a1_3 t203 t204 t205 t220 t221 t222) else ((laws_eqPuzzle.f kj15 t220 t221 t222 t203 t204 t205).bind fun t236=>(if t236 = true then (laws_FnExactAddClue.j1 kj15 t208 (t225 != t208) a0_0 a0_1 l0_2 a1_0 a1_1 a1_2 a1_3 t203 t204 t205 t220 t221 t222) else (laws_FnExactAddClue.j1 kj15 t208 true a0_0 a0_1 l0_2 a1_0 a1_1 a1_2 a1_3 t203 t204 t205 t220 t221 t222))))) else (some false)))) = some r:=by rw [if_neg (show ¬ (false = true) by decide)] at H;exact H
     clear H
     have H:=H1
     clear H1
     replace H:=Option.bind_eq_some_iff.mp H
     obtain ⟨⟨t228,t229,t230⟩,A650,H⟩:=H
     replace H : ((laws_eqPuzzle.f kj15 t210 t211 t212 t228 t229 t230).bind fun t233=>(if t233 = true then ((laws_markPuzzle.f kj15 t210 t211 t212 1).bind fun bt234=>(if bt234.1 < 0 then (laws_FnExactAddClue.j1 kj15 t208 true a0_0 a0_1 l0_2 a1_0 a1_1 a1_2 a1_3 t203 t204 t205 t220 t221 t222) else ((laws_eqPuzzle.f kj15 t220 t221 t222 t203 t204 t205).bind fun t236=>(if t236 = true then (laws_FnExactAddClue.j1 kj15 t208 (t225 != t208) a0_0 a0_1 l0_2 a1_0 a1_1 a1_2 a1_3 t203 t204 t205 t220 t221 t222) else (laws_FnExactAddClue.j1 kj15 t208 true a0_0 a0_1 l0_2 a1_0 a1_1 a1_2 a1_3 t203 t204 t205 t220 t221 t222))))) else (some false))) = some r:=H
     have A65:=Aside0.mk A650
     clear A650
     replace H:=Option.bind_eq_some_iff.mp H
     obtain ⟨t233,A660,H⟩:=H
     replace H : (if t233 = true then ((laws_markPuzzle.f kj15 t210 t211 t212 1).bind fun bt234=>(if bt234.1 < 0 then (laws_FnExactAddClue.j1 kj15 t208 true a0_0 a0_1 l0_2 a1_0 a1_1 a1_2 a1_3 t203 t204 t205 t220 t221 t222) else ((laws_eqPuzzle.f kj15 t220 t221 t222 t203 t204 t205).bind fun t236=>(if t236 = true then (laws_FnExactAddClue.j1 kj15 t208 (t225 != t208) a0_0 a0_1 l0_2 a1_0 a1_1 a1_2 a1_3 t203 t204 t205 t220 t221 t222) else (laws_FnExactAddClue.j1 kj15 t208 true a0_0 a0_1 l0_2 a1_0 a1_1 a1_2 a1_3 t203 t204 t205 t220 t221 t222))))) else (some false)) = some r:=H
     have A66:=Aside0.mk A660
     clear A660
     by_cases c67 : t233 = true
     ·subst c67
      have H1 : ((laws_markPuzzle.f kj15 t210 t211 t212 1).bind fun bt234=>(if bt234.1 < 0 then (laws_FnExactAddClue.j1 kj15 t208 true a0_0 a0_1 l0_2 a1_0 a1_1 a1_2 a1_3 t203 t204 t205 t220 t221 t222) else ((laws_eqPuzzle.f kj15 t220 t221 t222 t203 t204 t205).bind fun t236=>(if t236 = true then (laws_FnExactAddClue.j1 kj15 t208 (t225 != t208) a0_0 a0_1 l0_2 a1_0 a1_1 a1_2 a1_3 t203 t204 t205 t220 t221 t222) else (laws_FnExactAddClue.j1 kj15 t208 true a0_0 a0_1 l0_2 a1_0 a1_1 a1_2 a1_3 t203 t204 t205 t220 t221 t222))))) = some r:=by rw [if_pos rfl] at H;exact H
      clear H
      have H:=H1
      clear H1
      replace H:=Option.bind_eq_some_iff.mp H
      obtain ⟨⟨t234,t235⟩,A680,H⟩:=H
      replace H : (if t234 < 0 then (laws_FnExactAddClue.j1 kj15 t208 true a0_0 a0_1 l0_2 a1_0 a1_1 a1_2 a1_3 t203 t204 t205 t220 t221 t222) else ((laws_eqPuzzle.f kj15 t220 t221 t222 t203 t204 t205).bind fun t236=>(if t236 = true then (laws_FnExactAddClue.j1 kj15 t208 (t225 != t208) a0_0 a0_1 l0_2 a1_0 a1_1 a1_2 a1_3 t203 t204 t205 t220 t221 t222) else (laws_FnExactAddClue.j1 kj15 t208 true a0_0 a0_1 l0_2 a1_0 a1_1 a1_2 a1_3 t203 t204 t205 t220 t221 t222)))) = some r:=H
      have A68:=Aside0.mk A680
      clear A680
      have HC69:=Aside0.mk H
      clear H
      try go_wp2
      have n0_:=Aside0.mk (Kd.R_drew HO_210002.out)
      have n1_:=Aside0.mk (Kd.R_drew HO_216002.out)
      have n2_:=Aside0.mk (Kd.R_drew HO_227002.out)
      have n3_:=Aside0.mk (blk_drew BK191.out)
      have n4_:=Aside0.mk (blk_drew BK192.out)
      have n5_:=Aside0.mk (blk_drew BK209.out)
      have n6_:=Aside0.mk (blk_drew BK215.out)
      have n7_:=Aside0.mk (blk_drew BK226.out)
      have n8_:=Aside0.mk (below_drew1 HB.out)
      clear HO_210002
      clear HO_216002
      clear HO_227002
      clear BK191
      clear BK192
      clear BK209
      clear BK215
      clear BK226
      clear HB
      have HO_210002:=n0_
      have HO_216002:=n1_
      have HO_227002:=n2_
      have BK191:=n3_
      have BK192:=n4_
      have BK209:=n5_
      have BK215:=n6_
      have BK226:=n7_
      have HB:=n8_
      clear n0_ n1_ n2_ n3_ n4_ n5_ n6_ n7_ n8_
      refine start_ (n:=5) (S:=fun w'=>w'.cell? ⟨gb215,0,none⟩ = some (.int .i64 t210) ∧ w'.cell? ⟨gb215,1,none⟩ = some (.int .i64 t211) ∧ w'.cell? ⟨gb215,2,none⟩ = some (.slice Ao41 t212.length co41) ∧ w'.cell? ⟨gb191,0,none⟩ = some (.int .i64 a0_0) ∧ w'.cell? ⟨gb191,1,none⟩ = some (.int .i64 a0_1) ∧ w'.cell? ⟨gb191,2,none⟩ = some (.slice A0_2 l0_2.length c0_2)) (ds:=[]) #[false,false,false,false,false] (by kernel_rfl) rfl rfl ⟨(bC BK215 0).trans rfl,(bC BK215 1).trans rfl,(bC BK215 2).trans rfl,(bC BK191 0).trans rfl,(bC BK191 1).trans rfl,(bC BK191 2).trans rfl⟩ (fun hHeld=>?_)
      generalize wc.drew = w70 at HO_210002 HO_216002 HO_227002 BK191 BK192 BK209 BK215 BK226 HB hHeld ⊢
      refine take_ (i:=0) (N:=some 47) (v:=?_) (a':=?_) #[true,false,false,false,false] rfl rfl (by kernel_rfl) (fun _ _ _ h=>h) (Or.inl ⟨by rfl,?_⟩) hHeld ?_ ?_
      rotate_left
      ·rintro w' ⟨s0,s1,s2,s3,s4,s5⟩
       go_simp
       with_reducible rfl
      rotate_left
      ·simp only [Act.put,List.setIfInBounds_toArray,List.set_cons_zero,List.set_cons_succ,i64_w,i32_w]
       rfl
      refine take_ (i:=1) (N:=some 48) (v:=?_) (a':=?_) #[true,true,false,false,false] rfl rfl (by kernel_rfl) (fun _ _ _ h=>h) (Or.inl ⟨by rfl,?_⟩) hHeld ?_ ?_
      rotate_left
      ·rintro w' ⟨s0,s1,s2,s3,s4,s5⟩
       go_simp
       with_reducible rfl
      rotate_left
      ·simp only [Act.put,List.setIfInBounds_toArray,List.set_cons_zero,List.set_cons_succ,i64_w,i32_w]
       rfl
      refine one_ (i:=2) (N:=some 49) #[true,true,true,false,false] rfl rfl (by kernel_rfl) (by decide) (fun K hK=>?_)
      refine goes_ Try.func8 (by kernel_rfl) rfl #[.agg #[.int .i64 a0_0,.int .i64 a0_1,.slice A0_2 l0_2.length c0_2]] (by rfl) rfl rfl (by (try simp only [List.map_toArray,List.map_cons,List.map_nil]);first|done|rfl) ?_
      with_reducible refine (laws_toPuzzle.calls kj15 a0_0 a0_1 _ _ l0_2 t228 t229 t230 _ ?side1 ?side2 A65.out).mono ?_
      (case side1=>repeat (first|exact (Kd.C_below HR0_2.out HB.out)|(with_reducible refine Kd.C_alloc ?_ _)|(with_reducible refine Kd.C_drewN ?_ _)|(with_reducible refine Kd.C_drew ?_)))
      (case side2=>exact HC0_2.out)
      rintro e w71 ⟨v231,rfl,ho0,hb⟩
      refine ⟨_,rfl,?_⟩
      have n0_:=Aside0.mk (Kd.R_elder' (by (repeat with_reducible first|apply rA|apply rN|apply rD);exact HO_210002.out) (Kd.R_base ho0) hb)
      have n1_:=Aside0.mk (Kd.R_elder' (by (repeat with_reducible first|apply rA|apply rN|apply rD);exact HO_216002.out) (Kd.R_base ho0) hb)
      have n2_:=Aside0.mk (Kd.R_elder' (by (repeat with_reducible first|apply rA|apply rN|apply rD);exact HO_227002.out) (Kd.R_base ho0) hb)
      have n3_:=Aside0.mk (rL (rW (rW (rW ho0 (Kd.R_lt (by (repeat with_reducible first|apply rA|apply rN|apply rD);exact HO_210002.out))) (Kd.R_lt (by (repeat with_reducible first|apply rA|apply rN|apply rD);exact HO_216002.out))) (Kd.R_lt (by (repeat with_reducible first|apply rA|apply rN|apply rD);exact HO_227002.out))) (below_size (by repeat (with_reducible first|exact HB.out|apply eA|apply eN|apply eD|refine eS ?_ (Aside0.out ‹_›)))))
      have n4_:=(bB (by (repeat with_reducible first|apply bN|apply bD|apply bA);exact BK191.out) hb)
      have n5_:=(bB (by (repeat with_reducible first|apply bN|apply bD|apply bA);exact BK192.out) hb)
      have n6_:=(bB (by (repeat with_reducible first|apply bN|apply bD|apply bA);exact BK209.out) hb)
      have n7_:=(bB (by (repeat with_reducible first|apply bN|apply bD|apply bA);exact BK215.out) hb)
      have n8_:=(bB (by (repeat with_reducible first|apply bN|apply bD|apply bA);exact BK226.out) hb)
      have n9_:=Aside0.mk (below_step (by repeat (with_reducible first|exact HB.out|apply eA|apply eN|apply eD|refine eS ?_ (Aside0.out ‹_›))) hb)
      clear HO_210002
      clear HO_216002
      clear HO_227002
      clear BK191
      clear BK192
      clear BK209
      clear BK215
      clear BK226
      clear HB
      have HO_210002:=n0_
      have HO_216002:=n1_
      have HO_227002:=n2_
      have HO232:=n3_
      have BK191:=n4_
      have BK192:=n5_
      have BK209:=n6_
      have BK215:=n7_
      have BK226:=n8_
      have HB:=n9_
      clear n0_ n1_ n2_ n3_ n4_ n5_ n6_ n7_ n8_ n9_
      (try clear hb)
      (try clear hb2)
      (try clear hk)
      (try clear hi)
      (try clear ho0)
      obtain ⟨Ao72,co72,eo72⟩:=Kd.R_slice HO232.out
      (first|subst eo72|(injection eo72 with f1_ f2_ f3_;have f4_:=f1_.symm;have f5_:=f3_.symm;clear f1_ f2_ f3_;subst f4_;subst f5_))
      refine hK.out _ _ ⟨(bC BK215 0).trans rfl,(bC BK215 1).trans rfl,(bC BK215 2).trans rfl,(bC BK191 0).trans rfl,(bC BK191 1).trans rfl,(bC BK191 2).trans rfl⟩ (fun hHeld=>?_)
      clear hK K
      refine norm_ (a':=?_) ?_ ?_
      rotate_left
      ·show Act.put _ (some 49) _ = _
       simp only [Act.put,List.setIfInBounds_toArray,List.set_cons_zero,List.set_cons_succ,i64_w,i32_w]
       rfl
      refine one_ (i:=3) (N:=some 50) #[true,true,true,true,false] rfl rfl (by kernel_rfl) (by decide) (fun K hK=>?_)
      refine goes_ Try.func10 (by kernel_rfl) rfl #[.agg #[.int .i64 t210,.int .i64 t211,.slice Ao41 t212.length co41],.agg #[.int .i64 t228,.int .i64 t229,.slice Ao72 t230.length co72]] (by rfl) rfl rfl (by (try simp only [List.map_toArray,List.map_cons,List.map_nil]);first|done|rfl) ?_
      with_reducible refine (laws_eqPuzzle.calls kj15 t210 t211 _ _ t212 t228 t229 _ _ t230 true _ ?side1 ?side2 ?side3 ?side4 A66.out).mono ?_
      (case side1=>repeat (first|exact (Kd.R_reads' HO_216002.out).2.2|(with_reducible refine Kd.C_alloc ?_ _)|(with_reducible refine Kd.C_drewN ?_ _)|(with_reducible refine Kd.C_drew ?_)))
      (case side2=>exact (Kd.R_reads' HO_216002.out).2.1)
      (case side3=>repeat (first|exact (Kd.R_reads' HO232.out).2.2|(with_reducible refine Kd.C_alloc ?_ _)|(with_reducible refine Kd.C_drewN ?_ _)|(with_reducible refine Kd.C_drew ?_)))
      (case side4=>exact (Kd.R_reads' HO232.out).2.1)
      rintro e w73 ⟨rfl,hb⟩
      refine ⟨_,rfl,?_⟩
      have n0_:=Aside0.mk (Kd.R_below (by (repeat with_reducible first|apply rA|apply rN|apply rD);exact HO_210002.out) hb)
      have n1_:=Aside0.mk (Kd.R_below (by (repeat with_reducible first|apply rA|apply rN|apply rD);exact HO_216002.out) hb)
      have n2_:=Aside0.mk (Kd.R_below (by (repeat with_reducible first|apply rA|apply rN|apply rD);exact HO_227002.out) hb)
      have n3_:=Aside0.mk (Kd.R_below (by (repeat with_reducible first|apply rA|apply rN|apply rD);exact HO232.out) hb)
      have n4_:=(bB (by (repeat with_reducible first|apply bN|apply bD|apply bA);exact BK191.out) hb)
      have n5_:=(bB (by (repeat with_reducible first|apply bN|apply bD|apply bA);exact BK192.out) hb)
      have n6_:=(bB (by (repeat with_reducible first|apply bN|apply bD|apply bA);exact BK209.out) hb)
      have n7_:=(bB (by (repeat with_reducible first|apply bN|apply bD|apply bA);exact BK215.out) hb)
      have n8_:=(bB (by (repeat with_reducible first|apply bN|apply bD|apply bA);exact BK226.out) hb)
      have n9_:=Aside0.mk (below_step (by repeat (with_reducible first|exact HB.out|apply eA|apply eN|apply eD|refine eS ?_ (Aside0.out ‹_›))) hb)
      clear HO_210002
      clear HO_216002
      clear HO_227002
      clear HO232
      clear BK191
      clear BK192
      clear BK209
      clear BK215
      clear BK226
      clear HB
      have HO_210002:=n0_
      have HO_216002:=n1_
      have HO_227002:=n2_
      have HO232:=n3_
      have BK191:=n4_
      have BK192:=n5_
      have BK209:=n6_
      have BK215:=n7_
      have BK226:=n8_
      have HB:=n9_
      clear n0_ n1_ n2_ n3_ n4_ n5_ n6_ n7_ n8_ n9_
      (try clear hb)
      (try clear hb2)
      (try clear hk)
      (try clear hi)
      refine hK.out _ _ ⟨(bC BK215 0).trans rfl,(bC BK215 1).trans rfl,(bC BK215 2).trans rfl,(bC BK191 0).trans rfl,(bC BK191 1).trans rfl,(bC BK191 2).trans rfl⟩ (fun hHeld=>?_)
      clear hK K
      refine norm_ (a':=?_) ?_ ?_
      rotate_left
      ·show Act.put _ (some 50) _ = _
       simp only [Act.put,List.setIfInBounds_toArray,List.set_cons_zero,List.set_cons_succ,i64_w,i32_w]
       rfl
      refine pure_ (i:=4) (N:=some 51) (v:=?_) (a':=?_) #[true,true,true,true,true] rfl rfl (by kernel_rfl) (fun _ _ _ h=>h) (Or.inl ⟨by rfl,?_⟩) ?_ ?_
      rotate_left
      ·intro w'
       go_simp
       with_reducible rfl
      rotate_left
      ·simp only [Act.put,List.setIfInBounds_toArray,List.set_cons_zero,List.set_cons_succ,i64_w,i32_w]
       rfl
      refine done_ (by kernel_rfl) ?_
      have hnb74:=NB215_191.out
      have hnc74:=NB191_215.out
      have hnb75:=NB215_192.out
      have hnc75:=NB192_215.out
      have hnb76:=NB215_209.out
      have hnc76:=NB209_215.out
      have hnb77:=NB215_226.out
      have hnc77:=NB226_215.out
      have hcz78_0 : w73.cell? ⟨gb215,0,none⟩ = some (.int .i64 t210):=(bC BK215 0).trans rfl
      have hcz78_1 : w73.cell? ⟨gb215,1,none⟩ = some (.int .i64 t211):=(bC BK215 1).trans rfl
      have hcz78_2 : w73.cell? ⟨gb215,2,none⟩ = some (.slice Ao41 t212.length co41):=(bC BK215 2).trans rfl
      have hfz78_0:=blk_frozen BK215.out 0
      have hfz78_1:=blk_frozen BK215.out 1
      have hfz78_2:=blk_frozen BK215.out 2
      go_upto_region 14 with (first|((with_reducible refine gate_callee (f:=14) rfl ?_);refine goesL_ (some 54) rfl rfl Try.func14 (by kernel_rfl) rfl #[.agg #[.int .i64 t210,.int .i64 t211,.slice Ao41 t212.length co41],.int .i64 1] rfl (by (try simp only [List.map_toArray,List.map_cons,List.map_nil]);first|done|rfl) ?_;(with_reducible refine (laws_markPuzzle.calls kj15 t210 t211 (fun k_=>some k_ = (.slice Ao41 t212.length co41 : Value).ownBlock) (.slice Ao41 t212.length co41) t212 1 t234 t235 w _ ?side1 ?side2 A68.out).mono ?_);(case side1=>repeat (with_reducible first|exact HB.out|apply eA|apply eN|apply eD|refine eS ?_ (Aside0.out ‹_›)));(case side2=>exact Kd.R_tight rfl HO_216002.out);rintro e w79 ⟨rfl,hy0,hb,hkp⟩;refine ⟨_,rfl,?_⟩;have n0_:=Aside0.mk (Kd.R_mono (ok':=fun k_=>some k_ ≠ (.slice Ao41 t212.length co41 : Value).ownBlock ∧ some k_ ≠ (.slice Ao50 t222.length co50 : Value).ownBlock ∧ some k_ ≠ (.slice Ao72 t230.length co72 : Value).ownBlock) (Kd.R_keptB (HO_210002.out) hkp (fun k_ hk_ hs_=>(hk_.1.1) hs_)) (fun k_ hk_=>⟨hk_.1.1.1,hk_.1.1.2,hk_.1.2⟩));have n1_:=Aside0.mk (Kd.R_reok rfl hy0 (fun k_ e_=>HO_216002.out.1 k_ e_));have n2_:=Aside0.mk (Kd.R_mono (ok':=fun k_=>some k_ ≠ (.slice Ao31 t205.length co31 : Value).ownBlock ∧ some k_ ≠ (.slice Ao41 t212.length co41 : Value).ownBlock ∧ some k_ ≠ (.slice Ao72 t230.length co72 : Value).ownBlock) (Kd.R_keptB (HO_227002.out) hkp (fun k_ hk_ hs_=>(hk_.1.2) hs_)) (fun k_ hk_=>⟨hk_.1.1.1,hk_.1.1.2,hk_.1.2⟩));have n3_:=Aside0.mk (blk_kept (by (repeat with_reducible first|apply bN|apply bD|apply bA);exact BK191.out) hkp (fun hs_=>(fun e_=>(Kd.R_ne HO_216002.out BK191.out (by decide)) e_) hs_));have n4_:=Aside0.mk (blk_kept (by (repeat with_reducible first|apply bN|apply bD|apply bA);exact BK192.out) hkp (fun hs_=>(fun e_=>(Kd.R_ne HO_216002.out BK192.out (by decide)) e_) hs_));have n5_:=Aside0.mk (blk_kept (by (repeat with_reducible first|apply bN|apply bD|apply bA);exact BK209.out) hkp (fun hs_=>(fun e_=>(Kd.R_ne HO_216002.out BK209.out (by decide)) e_) hs_));have n6_:=Aside0.mk (blk_kept (by (repeat with_reducible first|apply bN|apply bD|apply bA);exact BK215.out) hkp (fun hs_=>(fun e_=>(Kd.R_ne HO_216002.out BK215.out (by decide)) e_) hs_));have n7_:=Aside0.mk (blk_kept (by (repeat with_reducible first|apply bN|apply bD|apply bA);exact BK226.out) hkp (fun hs_=>(fun e_=>(Kd.R_ne HO_216002.out BK226.out (by decide)) e_) hs_));have n8_:=Aside0.mk (Kd.R_mono (ok':=fun k_=>some k_ ≠ (.slice Ao31 t205.length co31 : Value).ownBlock ∧ some k_ ≠ (.slice Ao41 t212.length co41 : Value).ownBlock ∧ some k_ ≠ (.slice Ao50 t222.length co50 : Value).ownBlock) (Kd.R_keptB (HO232.out) hkp (fun k_ hk_ hs_=>(hk_.1.2) hs_)) (fun k_ hk_=>⟨hk_.1.1.1.2,hk_.1.1.2,hk_.1.2⟩));have n9_:=Aside0.mk (hb);clear HO_210002;clear HO_216002;clear HO_227002;clear BK191;clear BK192;clear BK209;clear BK215;clear BK226;clear HO232;clear HB;have HO_210002:=n0_;have HO_216002:=n1_;have HO_227002:=n2_;have BK191:=n3_;have BK192:=n4_;have BK209:=n5_;have BK215:=n6_;have BK226:=n7_;have HO232:=n8_;have HB:=n9_;clear n0_ n1_ n2_ n3_ n4_ n5_ n6_ n7_ n8_ n9_;(try clear hb);(try clear hkp);(try clear hy0)))
      (try simp only [Act.put,List.setIfInBounds_toArray,List.set_cons_zero,List.set_cons_succ])
      go_cut [67] (fun v67 wc=>∃ (kq : Nat) (x67_68 : Bool),v67 = .bool x67_68 ∧ Aside0 (laws_FnExactAddClue.j1 kq t208 x67_68 a0_0 a0_1 l0_2 a1_0 a1_1 a1_2 a1_3 t203 t204 t205 t220 t221 t222 = some r) ∧ Aside0 (kq ≤ kj15) ∧ Aside0 (Kd.R k37 37 wc w.heap.size (fun k_=>some k_ ≠ ((.slice Ao41 t212.length co41) : Value).ownBlock ∧ some k_ ≠ ((.slice Ao50 t222.length co50) : Value).ownBlock) (.slice Ao31 t205.length co31) t205) ∧ Aside0 (Kd.R k37 37 wc w.heap.size (fun k_=>some k_ ≠ ((.slice Ao31 t205.length co31) : Value).ownBlock ∧ some k_ ≠ ((.slice Ao50 t222.length co50) : Value).ownBlock) (.slice Ao41 t212.length co41) t235) ∧ Aside0 (Kd.R k37 37 wc w.heap.size (fun k_=>some k_ ≠ ((.slice Ao31 t205.length co31) : Value).ownBlock ∧ some k_ ≠ ((.slice Ao41 t212.length co41) : Value).ownBlock) (.slice Ao50 t222.length co50) t222) ∧ Aside0 (wc.heap[gb191]? = some (.cells #[.int .i64 a0_0,.int .i64 a0_1,(.slice A0_2 l0_2.length c0_2)] 24 (0,0))) ∧ Aside0 (wc.heap[gb192]? = some (.cells #[.int .i64 a1_0,.int .i64 a1_1,.int .i64 a1_2,.int .i64 a1_3] 34 (0,0))) ∧ Aside0 (wc.heap[gb209]? = some (.cells #[.int .i64 t203,.int .i64 t204,(.slice Ao31 t205.length co31)] 29 (0,0))) ∧ Aside0 (wc.heap[gb215]? = some (.cells #[.int .i64 t210,.int .i64 t211,(.slice Ao41 t212.length co41)] 29 (0,0))) ∧ Aside0 (wc.heap[gb226]? = some (.cells #[.int .i64 t220,.int .i64 t221,(.slice Ao50 t222.length co50)] 29 (0,0))) ∧ Aside0 (Below w.heap.size w wc))
      case first =>
       have H:=HC69.out
       clear HC69
       by_cases c80 : t234 < 0
       ·rw [if_pos c80] at H
        have c80b0 : decide (t234 < 0) = true:=decide_eq_true c80
        clear c80
        (first|rw [c80b0]|(simp only [i64_w,i32_w];rw [c80b0])|skip)
        exact absurd (H.trans (congrArg some rT)) (laws_FnExactAddClue.j1_no _ _ _ _ _ _ _ _ _ _ _ _ _ _ _)
       ·rw [if_neg c80] at H
        have c80b0 : decide (t234 < 0) = false:=decide_eq_false c80
        clear c80
        (first|rw [c80b0]|(simp only [i64_w,i32_w];rw [c80b0])|skip)
        replace H:=Option.bind_eq_some_iff.mp H
        obtain ⟨t236,A810,H⟩:=H
        replace H : (if t236 = true then (laws_FnExactAddClue.j1 kj15 t208 (t225 != t208) a0_0 a0_1 l0_2 a1_0 a1_1 a1_2 a1_3 t203 t204 t205 t220 t221 t222) else (laws_FnExactAddClue.j1 kj15 t208 true a0_0 a0_1 l0_2 a1_0 a1_1 a1_2 a1_3 t203 t204 t205 t220 t221 t222)) = some r:=H
        have A81:=Aside0.mk A810
        clear A810
        by_cases c82 : t236 = true
        ·subst c82
         have H1 : (laws_FnExactAddClue.j1 kj15 t208 (t225 != t208) a0_0 a0_1 l0_2 a1_0 a1_1 a1_2 a1_3 t203 t204 t205 t220 t221 t222) = some r:=by rw [if_pos rfl] at H;exact H
         clear H
         have H:=H1
         clear H1
         have H':=Aside0.mk H
         clear H
         have hnb83:=NB226_191.out
         have hnc83:=NB191_226.out
         have hnb84:=NB226_192.out
         have hnc84:=NB192_226.out
         have hnb85:=NB226_209.out
         have hnc85:=NB209_226.out
         have hnb86:=NB226_215.out
         have hnc86:=NB215_226.out
         have hcz87_0 : w79.cell? ⟨gb226,0,none⟩ = some (.int .i64 t220):=(bC BK226 0).trans rfl
         have hcz87_1 : w79.cell? ⟨gb226,1,none⟩ = some (.int .i64 t221):=(bC BK226 1).trans rfl
         have hcz87_2 : w79.cell? ⟨gb226,2,none⟩ = some (.slice Ao50 t222.length co50):=(bC BK226 2).trans rfl
         have hfz87_0:=blk_frozen BK226.out 0
         have hfz87_1:=blk_frozen BK226.out 1
         have hfz87_2:=blk_frozen BK226.out 2
         have hnb88:=NB209_191.out
         have hnc88:=NB191_209.out
         have hnb89:=NB209_192.out
         have hnc89:=NB192_209.out
         have hnb90:=NB209_215.out
         have hnc90:=NB215_209.out
         have hcz91_0 : w79.cell? ⟨gb209,0,none⟩ = some (.int .i64 t203):=(bC BK209 0).trans rfl
         have hcz91_1 : w79.cell? ⟨gb209,1,none⟩ = some (.int .i64 t204):=(bC BK209 1).trans rfl
         have hcz91_2 : w79.cell? ⟨gb209,2,none⟩ = some (.slice Ao31 t205.length co31):=(bC BK209 2).trans rfl
         have hfz91_0:=blk_frozen BK209.out 0
         have hfz91_1:=blk_frozen BK209.out 1
         have hfz91_2:=blk_frozen BK209.out 2
         go_wp2_with (first|(go_at_call 10;(with_reducible refine (laws_eqPuzzle.calls kj15 t220 t221 _ _ t222 t203 t204 _ _ t205 true _ ?side1 ?side2 ?side3 ?side4 A81.out).mono ?_);(case side1=>repeat (first|exact (Kd.R_reads' HO_227002.out).2.2|(with_reducible refine Kd.C_alloc ?_ _)|(with_reducible refine Kd.C_drewN ?_ _)|(with_reducible refine Kd.C_drew ?_)));(case side2=>exact (Kd.R_reads' HO_227002.out).2.1);(case side3=>repeat (first|exact (Kd.R_reads' HO_210002.out).2.2|(with_reducible refine Kd.C_alloc ?_ _)|(with_reducible refine Kd.C_drewN ?_ _)|(with_reducible refine Kd.C_drew ?_)));(case side4=>exact (Kd.R_reads' HO_210002.out).2.1);rintro e w92 ⟨rfl,hb⟩;have n0_:=Aside0.mk (Kd.R_below (by (repeat with_reducible first|apply rA|apply rN|apply rD);exact HO_210002.out) hb);have n1_:=Aside0.mk (Kd.R_below (by (repeat with_reducible first|apply rA|apply rN|apply rD);exact HO_216002.out) hb);have n2_:=Aside0.mk (Kd.R_below (by (repeat with_reducible first|apply rA|apply rN|apply rD);exact HO_227002.out) hb);have n3_:=Aside0.mk (Kd.R_below (by (repeat with_reducible first|apply rA|apply rN|apply rD);exact HO232.out) hb);have n4_:=(bB (by (repeat with_reducible first|apply bN|apply bD|apply bA);exact BK191.out) hb);have n5_:=(bB (by (repeat with_reducible first|apply bN|apply bD|apply bA);exact BK192.out) hb);have n6_:=(bB (by (repeat with_reducible first|apply bN|apply bD|apply bA);exact BK209.out) hb);have n7_:=(bB (by (repeat with_reducible first|apply bN|apply bD|apply bA);exact BK215.out) hb);have n8_:=(bB (by (repeat with_reducible first|apply bN|apply bD|apply bA);exact BK226.out) hb);have n9_:=Aside0.mk (below_step (by repeat (with_reducible first|exact HB.out|apply eA|apply eN|apply eD|refine eS ?_ (Aside0.out ‹_›))) hb);clear HO_210002;clear HO_216002;clear HO_227002;clear HO232;clear BK191;clear BK192;clear BK209;clear BK215;clear BK226;clear HB;have HO_210002:=n0_;have HO_216002:=n1_;have HO_227002:=n2_;have HO232:=n3_;have BK191:=n4_;have BK192:=n5_;have BK209:=n6_;have BK215:=n7_;have BK226:=n8_;have HB:=n9_;clear n0_ n1_ n2_ n3_ n4_ n5_ n6_ n7_ n8_ n9_;(try clear hb);(try clear hb2);(try clear hk);(try clear hi)))
         go_meet
         case rel=>exact ⟨_,((t225 != t208)),(by first|rfl|(simp;done)|(simp [*];done)),H',⟨by have:=HJ15.out;first|omega|exact Nat.le_refl _⟩,⟨by (repeat with_reducible first|apply rA|apply rN|apply rD);exact Kd.R_mono HO_210002.out (fun _ hk=>⟨hk.1,hk.2.1⟩)⟩,⟨by (repeat with_reducible first|apply rA|apply rN|apply rD);exact Kd.R_mono HO_216002.out (fun _ hk=>⟨hk.1.1,hk.1.2⟩)⟩,⟨by (repeat with_reducible first|apply rA|apply rN|apply rD);exact Kd.R_mono HO_227002.out (fun _ hk=>⟨hk.1,hk.2.1⟩)⟩,⟨by (repeat with_reducible first|apply bN|apply bD|apply bA);exact BK191.out⟩,⟨by (repeat with_reducible first|apply bN|apply bD|apply bA);exact BK192.out⟩,⟨by (repeat with_reducible first|apply bN|apply bD|apply bA);exact BK209.out⟩,⟨by (repeat with_reducible first|apply bN|apply bD|apply bA);exact BK215.out⟩,⟨by (repeat with_reducible first|apply bN|apply bD|apply bA);exact BK226.out⟩,⟨by repeat (with_reducible first|exact HB.out|apply eA|apply eN|apply eD|refine eS ?_ (Aside0.out ‹_›))⟩⟩
        ·replace c82:=Bool.eq_false_iff.mpr c82
         subst c82
         have H1 : (laws_FnExactAddClue.j1 kj15 t208 true a0_0 a0_1 l0_2 a1_0 a1_1 a1_2 a1_3 t203 t204 t205 t220 t221 t222) = some r:=by rw [if_neg (show ¬ (false = true) by decide)] at H;exact H
         clear H
         have H:=H1
         clear H1
         exact absurd (H.trans (congrArg some rT)) (laws_FnExactAddClue.j1_no _ _ _ _ _ _ _ _ _ _ _ _ _ _ _)
      case rest =>
       clear HC69
       try clear c1
       try clear p2
       try clear c5
       try clear c6
       try clear c7
       try clear c8
       try clear c9
       try clear c10
       try clear c12
       try clear c13
       try clear c14
       try clear c53
       try clear c54
       try clear c55
       try clear c56
       try clear c57
       try clear c59
       try clear c60
       try clear c61
       try clear c64
       try clear c67
       try clear c74
       try clear c75
       try clear c76
       try clear c77
       try clear c80
       try clear c80b0
       try clear c82
       try clear c83
       try clear c84
       try clear c85
       try clear c86
       try clear c88
       try clear c89
       try clear c90
       try clear hcz58_0
       try clear hcz58_1
       try clear hcz58_2
       try clear hcz62_0
       try clear hcz62_1
       try clear hcz62_2
       try clear hcz78_0
       try clear hcz78_1
       try clear hcz78_2
       try clear hcz87_0
       try clear hcz87_1
       try clear hcz87_2
       try clear hcz91_0
       try clear hcz91_1
       try clear hcz91_2
       try clear hfz58_0
       try clear hfz58_1
       try clear hfz58_2
       try clear hfz62_0
       try clear hfz62_1
       try clear hfz62_2
       try clear hfz78_0
       try clear hfz78_1
       try clear hfz78_2
       try clear hfz87_0
       try clear hfz87_1
       try clear hfz87_2
       try clear hfz91_0
       try clear hfz91_1
       try clear hfz91_2
       try clear p2
       obtain ⟨kq,x67_68,rfl,HA,HJ68,HO_210002,HO_216002,HO_227002,BK191,BK192,BK209,BK215,BK226,HB⟩:=hcut
       have hl216002_68:=(Kd.R_reads' HO_216002.out).1
       rw [hl216002_68] at HO_216002
       (try simp only [hl216002_68])
       (try simp only [hl216002_68] at BK191)
       (try simp only [hl216002_68] at BK192)
       (try simp only [hl216002_68] at BK209)
       (try simp only [hl216002_68] at BK215)
       (try simp only [hl216002_68] at BK226)
       (try simp only [hl216002_68] at HO_210002)
       (try simp only [hl216002_68] at HO_227002)
       cases kq with
      |zero=>exact absurd HA.out (by simp [laws_FnExactAddClue.j1])
      |succ kj68 =>
        have H:=HA.out
        clear HA
        simp only [laws_FnExactAddClue.j1] at H
        by_cases c93 : x67_68 = true
        ·subst c93
         have H1 : (some false) = some r:=by rw [if_pos rfl] at H;exact H
         clear H
         have H:=H1
         clear H1
         exact absurd ((Option.some.inj H).trans rT) (by decide)
        ·replace c93:=Bool.eq_false_iff.mpr c93
         subst c93
         have H1 : ((laws_markPuzzle.f kj68 t220 t221 t222 1).bind fun bt237=>((laws_heldPuzzle.f kj68 t220 t221 bt237.2 1).bind fun t239=>(if t239 < 0 then (some false) else (if t239 = bt237.1 then ((laws_toPuzzle.f kj68 a0_0 a0_1 l0_2).bind fun bt240=>((laws_toClue.f a1_0 a1_1 a1_2 a1_3).bind fun bt245=>((impl_AddClue.f kj68 bt240.1 bt240.2.1 bt240.2.2 bt245.1 bt245.2.1 bt245.2.2.1 bt245.2.2.2).bind fun bt249=>((laws_eqPuzzle.f kj68 bt249.1 bt249.2.1 bt249.2.2.1 t203 t204 t205).bind fun t256=>(if t256 = true then (laws_FnExactAddClue.j2 kj68 bt237.1 (bt249.2.2.2 != t208) t220 t221 bt237.2) else (laws_FnExactAddClue.j2 kj68 bt237.1 true t220 t221 bt237.2)))))) else (some false))))) = some r:=by rw [if_neg (show ¬ (false = true) by decide)] at H;exact H
         clear H
         have H:=H1
         clear H1
         replace H:=Option.bind_eq_some_iff.mp H
         obtain ⟨⟨t237,t238⟩,A940,H⟩:=H
         replace H : ((laws_heldPuzzle.f kj68 t220 t221 t238 1).bind fun t239=>(if t239 < 0 then (some false) else (if t239 = t237 then ((laws_toPuzzle.f kj68 a0_0 a0_1 l0_2).bind fun bt240=>((laws_toClue.f a1_0 a1_1 a1_2 a1_3).bind fun bt245=>((impl_AddClue.f kj68 bt240.1 bt240.2.1 bt240.2.2 bt245.1 bt245.2.1 bt245.2.2.1 bt245.2.2.2).bind fun bt249=>((laws_eqPuzzle.f kj68 bt249.1 bt249.2.1 bt249.2.2.1 t203 t204 t205).bind fun t256=>(if t256 = true then (laws_FnExactAddClue.j2 kj68 t237 (bt249.2.2.2 != t208) t220 t221 t238) else (laws_FnExactAddClue.j2 kj68 t237 true t220 t221 t238)))))) else (some false)))) = some r:=H
         have A94:=Aside0.mk A940
         clear A940
         replace H:=Option.bind_eq_some_iff.mp H
         obtain ⟨t239,A950,H⟩:=H
         replace H : (if t239 < 0 then (some false) else (if t239 = t237 then ((laws_toPuzzle.f kj68 a0_0 a0_1 l0_2).bind fun bt240=>((laws_toClue.f a1_0 a1_1 a1_2 a1_3).bind fun bt245=>((impl_AddClue.f kj68 bt240.1 bt240.2.1 bt240.2.2 bt245.1 bt245.2.1 bt245.2.2.1 bt245.2.2.2).bind fun bt249=>((laws_eqPuzzle.f kj68 bt249.1 bt249.2.1 bt249.2.2.1 t203 t204 t205).bind fun t256=>(if t256 = true then (laws_FnExactAddClue.j2 kj68 t237 (bt249.2.2.2 != t208) t220 t221 t238) else (laws_FnExactAddClue.j2 kj68 t237 true t220 t221 t238)))))) else (some false))) = some r:=H
         have A95:=Aside0.mk A950
         clear A950
         by_cases c96 : t239 < 0
         ·rw [if_pos c96] at H
          have c96b0 : decide (t239 < 0) = true:=decide_eq_true c96
          clear c96
          exact absurd ((Option.some.inj H).trans rT) (by decide)
         ·rw [if_neg c96] at H
          have c96b0 : decide (t239 < 0) = false:=decide_eq_false c96
          clear c96
          by_cases c97 : t239 = t237
          ·rw [if_pos c97] at H
           have c97b0 : (t239 == t237) = true:=beq_iff_eq.mpr c97
           have c97b1 : (t239 != t237) = false:=bne_eq_false_iff_eq.mpr c97
           clear c97
           replace H:=Option.bind_eq_some_iff.mp H
           obtain ⟨⟨t240,t241,t242⟩,A980,H⟩:=H
           replace H : ((laws_toClue.f a1_0 a1_1 a1_2 a1_3).bind fun bt245=>((impl_AddClue.f kj68 t240 t241 t242 bt245.1 bt245.2.1 bt245.2.2.1 bt245.2.2.2).bind fun bt249=>((laws_eqPuzzle.f kj68 bt249.1 bt249.2.1 bt249.2.2.1 t203 t204 t205).bind fun t256=>(if t256 = true then (laws_FnExactAddClue.j2 kj68 t237 (bt249.2.2.2 != t208) t220 t221 t238) else (laws_FnExactAddClue.j2 kj68 t237 true t220 t221 t238))))) = some r:=H
           have A98:=Aside0.mk A980
           clear A980
           replace H:=Option.bind_eq_some_iff.mp H
           obtain ⟨⟨t245,t246,t247,t248⟩,A990,H⟩:=H
           replace H : ((impl_AddClue.f kj68 t240 t241 t242 t245 t246 t247 t248).bind fun bt249=>((laws_eqPuzzle.f kj68 bt249.1 bt249.2.1 bt249.2.2.1 t203 t204 t205).bind fun t256=>(if t256 = true then (laws_FnExactAddClue.j2 kj68 t237 (bt249.2.2.2 != t208) t220 t221 t238) else (laws_FnExactAddClue.j2 kj68 t237 true t220 t221 t238)))) = some r:=H
           have A99:=Aside0.mk A990
           clear A990
           replace H:=Option.bind_eq_some_iff.mp H
           obtain ⟨⟨t249,t250,t251,t254⟩,A1000,H⟩:=H
           replace H : ((laws_eqPuzzle.f kj68 t249 t250 t251 t203 t204 t205).bind fun t256=>(if t256 = true then (laws_FnExactAddClue.j2 kj68 t237 (t254 != t208) t220 t221 t238) else (laws_FnExactAddClue.j2 kj68 t237 true t220 t221 t238))) = some r:=H
           have A100:=Aside0.mk A1000
           clear A1000
           have HC101:=Aside0.mk H
           clear H
           have hnb102:=NB226_191.out
           have hnc102:=NB191_226.out
           have hnb103:=NB226_192.out
           have hnc103:=NB192_226.out
           have hnb104:=NB226_209.out
           have hnc104:=NB209_226.out
           have hnb105:=NB226_215.out
           have hnc105:=NB215_226.out
           have hcz106_0 : wc.cell? ⟨gb226,0,none⟩ = some (.int .i64 t220):=(bC BK226 0).trans rfl
           have hcz106_1 : wc.cell? ⟨gb226,1,none⟩ = some (.int .i64 t221):=(bC BK226 1).trans rfl
           have hcz106_2 : wc.cell? ⟨gb226,2,none⟩ = some (.slice Ao50 t222.length co50):=(bC BK226 2).trans rfl
           have hfz106_0:=blk_frozen BK226.out 0
           have hfz106_1:=blk_frozen BK226.out 1
           have hfz106_2:=blk_frozen BK226.out 2
           try go_wp2_with (first|((with_reducible refine gate_callee (f:=14) rfl ?_);refine goesL_ (some 70) rfl rfl Try.func14 (by kernel_rfl) rfl #[.agg #[.int .i64 t220,.int .i64 t221,.slice Ao50 t222.length co50],.int .i64 1] rfl (by (try simp only [List.map_toArray,List.map_cons,List.map_nil]);first|done|rfl) ?_;(with_reducible refine (laws_markPuzzle.calls kj68 t220 t221 (fun k_=>some k_ = (.slice Ao50 t222.length co50 : Value).ownBlock) (.slice Ao50 t222.length co50) t222 1 t237 t238 w _ ?side1 ?side2 A94.out).mono ?_);(case side1=>repeat (with_reducible first|exact HB.out|apply eA|apply eN|apply eD|refine eS ?_ (Aside0.out ‹_›)));(case side2=>exact Kd.R_tight rfl HO_227002.out);rintro e w107 ⟨rfl,hy0,hb,hkp⟩;refine ⟨_,rfl,?_⟩;have n0_:=Aside0.mk (Kd.R_mono (ok':=fun k_=>some k_ ≠ (.slice Ao41 t235.length co41 : Value).ownBlock ∧ some k_ ≠ (.slice Ao50 t222.length co50 : Value).ownBlock) (Kd.R_keptB (HO_210002.out) hkp (fun k_ hk_ hs_=>(hk_.2) hs_)) (fun k_ hk_=>⟨hk_.1.1,hk_.1.2⟩));have n1_:=Aside0.mk (Kd.R_mono (ok':=fun k_=>some k_ ≠ (.slice Ao31 t205.length co31 : Value).ownBlock ∧ some k_ ≠ (.slice Ao50 t222.length co50 : Value).ownBlock) (Kd.R_keptB (HO_216002.out) hkp (fun k_ hk_ hs_=>(hk_.2) hs_)) (fun k_ hk_=>⟨hk_.1.1,hk_.1.2⟩));have n2_:=Aside0.mk (Kd.R_reok rfl hy0 (fun k_ e_=>HO_227002.out.1 k_ e_));have n3_:=Aside0.mk (blk_kept (by (repeat with_reducible first|apply bN|apply bD|apply bA);exact BK191.out) hkp (fun hs_=>(fun e_=>(Kd.R_ne HO_227002.out BK191.out (by decide)) e_) hs_));have n4_:=Aside0.mk (blk_kept (by (repeat with_reducible first|apply bN|apply bD|apply bA);exact BK192.out) hkp (fun hs_=>(fun e_=>(Kd.R_ne HO_227002.out BK192.out (by decide)) e_) hs_));have n5_:=Aside0.mk (blk_kept (by (repeat with_reducible first|apply bN|apply bD|apply bA);exact BK209.out) hkp (fun hs_=>(fun e_=>(Kd.R_ne HO_227002.out BK209.out (by decide)) e_) hs_));have n6_:=Aside0.mk (blk_kept (by (repeat with_reducible first|apply bN|apply bD|apply bA);exact BK215.out) hkp (fun hs_=>(fun e_=>(Kd.R_ne HO_227002.out BK215.out (by decide)) e_) hs_));have n7_:=Aside0.mk (blk_kept (by (repeat with_reducible first|apply bN|apply bD|apply bA);exact BK226.out) hkp (fun hs_=>(fun e_=>(Kd.R_ne HO_227002.out BK226.out (by decide)) e_) hs_));have n8_:=Aside0.mk (hb);clear HO_210002;clear HO_216002;clear HO_227002;clear BK191;clear BK192;clear BK209;clear BK215;clear BK226;clear HB;have HO_210002:=n0_;have HO_216002:=n1_;have HO_227002:=n2_;have BK191:=n3_;have BK192:=n4_;have BK209:=n5_;have BK215:=n6_;have BK226:=n7_;have HB:=n8_;clear n0_ n1_ n2_ n3_ n4_ n5_ n6_ n7_ n8_;(try clear hb);(try clear hkp);(try clear hy0);have hcz108_0 : w107.cell? ⟨gb226,0,none⟩ = some (.int .i64 t220):=(bC BK226 0).trans rfl;have hcz108_1 : w107.cell? ⟨gb226,1,none⟩ = some (.int .i64 t221):=(bC BK226 1).trans rfl;have hcz108_2 : w107.cell? ⟨gb226,2,none⟩ = some (.slice Ao50 t222.length co50):=(bC BK226 2).trans rfl;have hfz108_0:=blk_frozen BK226.out 0;have hfz108_1:=blk_frozen BK226.out 1;have hfz108_2:=blk_frozen BK226.out 2)|((with_reducible refine gate_callee (f:=15) rfl ?_);refine goesL_ (some 73) rfl rfl Try.func15 (by kernel_rfl) rfl #[.agg #[.int .i64 t220,.int .i64 t221,.slice Ao50 t238.length co50],.int .i64 1] rfl (by (try simp only [List.map_toArray,List.map_cons,List.map_nil]);first|done|(rw [show t238.length = t222.length from (Kd.R_reads' HO_227002.out).1.symm] <;> rfl)|rfl|(simp only [List.length_drop,List.length_take];rfl)) ?_;(with_reducible refine (laws_heldPuzzle.calls kj68 t220 t221 _ _ t238 1 t239 _ ?side1 ?side2 A95.out).mono ?_);(case side1=>repeat (first|exact (Kd.R_reads' HO_227002.out).2.2|(with_reducible refine Kd.C_alloc ?_ _)|(with_reducible refine Kd.C_drewN ?_ _)|(with_reducible refine Kd.C_drew ?_)));(case side2=>rw [show t238.length = t222.length from (Kd.R_reads' HO_227002.out).1.symm];exact (Kd.R_reads' HO_227002.out).2.1);rintro e w109 ⟨rfl,hb⟩;refine ⟨_,rfl,?_⟩;have n0_:=Aside0.mk (Kd.R_below (by (repeat with_reducible first|apply rA|apply rN|apply rD);exact HO_210002.out) hb);have n1_:=Aside0.mk (Kd.R_below (by (repeat with_reducible first|apply rA|apply rN|apply rD);exact HO_216002.out) hb);have n2_:=Aside0.mk (Kd.R_below (by (repeat with_reducible first|apply rA|apply rN|apply rD);exact HO_227002.out) hb);have n3_:=(bB (by (repeat with_reducible first|apply bN|apply bD|apply bA);exact BK191.out) hb);have n4_:=(bB (by (repeat with_reducible first|apply bN|apply bD|apply bA);exact BK192.out) hb);have n5_:=(bB (by (repeat with_reducible first|apply bN|apply bD|apply bA);exact BK209.out) hb);have n6_:=(bB (by (repeat with_reducible first|apply bN|apply bD|apply bA);exact BK215.out) hb);have n7_:=(bB (by (repeat with_reducible first|apply bN|apply bD|apply bA);exact BK226.out) hb);have n8_:=Aside0.mk (below_step (by repeat (with_reducible first|exact HB.out|apply eA|apply eN|apply eD|refine eS ?_ (Aside0.out ‹_›))) hb);clear HO_210002;clear HO_216002;clear HO_227002;clear BK191;clear BK192;clear BK209;clear BK215;clear BK226;clear HB;have HO_210002:=n0_;have HO_216002:=n1_;have HO_227002:=n2_;have BK191:=n3_;have BK192:=n4_;have BK209:=n5_;have BK215:=n6_;have BK226:=n7_;have HB:=n8_;clear n0_ n1_ n2_ n3_ n4_ n5_ n6_ n7_ n8_;(try clear hb);(try clear hb2);(try clear hk);(try clear hi)))
           have n0_:=Aside0.mk (Kd.R_drew HO_210002.out)
           have n1_:=Aside0.mk (Kd.R_drew HO_216002.out)
           have n2_:=Aside0.mk (Kd.R_drew HO_227002.out)
           have n3_:=Aside0.mk (blk_drew BK191.out)
           have n4_:=Aside0.mk (blk_drew BK192.out)
           have n5_:=Aside0.mk (blk_drew BK209.out)
           have n6_:=Aside0.mk (blk_drew BK215.out)
           have n7_:=Aside0.mk (blk_drew BK226.out)
           have n8_:=Aside0.mk (below_drew1 HB.out)
           clear HO_210002
           clear HO_216002
           clear HO_227002
           clear BK191
           clear BK192
           clear BK209
           clear BK215
           clear BK226
           clear HB
           have HO_210002:=n0_
           have HO_216002:=n1_
           have HO_227002:=n2_
           have BK191:=n3_
           have BK192:=n4_
           have BK209:=n5_
           have BK215:=n6_
           have BK226:=n7_
           have HB:=n8_
           clear n0_ n1_ n2_ n3_ n4_ n5_ n6_ n7_ n8_
           refine start_ (n:=11) (S:=fun w'=>w'.cell? ⟨gb191,0,none⟩ = some (.int .i64 a0_0) ∧ w'.cell? ⟨gb191,1,none⟩ = some (.int .i64 a0_1) ∧ w'.cell? ⟨gb191,2,none⟩ = some (.slice A0_2 l0_2.length c0_2) ∧ w'.cell? ⟨gb192,0,none⟩ = some (.int .i64 a1_0) ∧ w'.cell? ⟨gb192,1,none⟩ = some (.int .i64 a1_1) ∧ w'.cell? ⟨gb192,2,none⟩ = some (.int .i64 a1_2) ∧ w'.cell? ⟨gb192,3,none⟩ = some (.int .i64 a1_3)) (ds:=[]) #[false,false,false,false,false,false,false,false,false,false,false] (by kernel_rfl) rfl rfl ⟨(bC BK191 0).trans rfl,(bC BK191 1).trans rfl,(bC BK191 2).trans rfl,(bC BK192 0).trans rfl,(bC BK192 1).trans rfl,(bC BK192 2).trans rfl,(bC BK192 3).trans rfl⟩ (fun hHeld=>?_);refine with_tabW laws_FnExactAddClue.tab24 laws_FnExactAddClue.bits24 (fun HT_ HW_=>?_)
           generalize w109.drew = w110 at HO_210002 HO_216002 HO_227002 BK191 BK192 BK209 BK215 BK226 HB hHeld ⊢
           refine take_ (i:=0) (N:=some 80) (v:=?_) (a':=?_) #[true,false,false,false,false,false,false,false,false,false,false] rfl rfl (take_ofW HT_.out HW_.out (by kernel_rfl)) (fun _ _ _ h=>h) (Or.inl ⟨by rfl,?_⟩) hHeld ?_ ?_
           rotate_left
           ·rintro w' ⟨s0,s1,s2,s3,s4,s5,s6⟩
            go_simp
            with_reducible rfl
           rotate_left
           ·simp only [Act.put,List.setIfInBounds_toArray,List.set_cons_zero,List.set_cons_succ,i64_w,i32_w]
            rfl
           refine take_ (i:=2) (N:=some 82) (v:=?_) (a':=?_) #[true,false,true,false,false,false,false,false,false,false,false] rfl rfl (take_ofW HT_.out HW_.out (by kernel_rfl)) (fun _ _ _ h=>h) (Or.inl ⟨by rfl,?_⟩) hHeld ?_ ?_
           rotate_left
           ·rintro w' ⟨s0,s1,s2,s3,s4,s5,s6⟩
            go_simp
            with_reducible rfl
           rotate_left
           ·simp only [Act.put,List.setIfInBounds_toArray,List.set_cons_zero,List.set_cons_succ,i64_w,i32_w]
            rfl
           refine join_ (σ:=Value × Value × Nat) 2 #[true,true,true,true,true,true,true,true,true,false,false] (fun s_=>[(81,.agg #[.int .i64 t240,.int .i64 t241,s_.1]),(83,.agg #[.int .i64 t245,.int .i64 t246,.int .i64 t247,.int .i64 t248]),(84,.tuple #[.agg #[.int .i64 t249,.int .i64 t250,s_.2.1],.bool t254]),(14,.pointer (some ⟨s_.2.2,0,none⟩)),(79,.tuple #[.agg #[.int .i64 t249,.int .i64 t250,s_.2.1],.bool t254]),(85,.agg #[.int .i64 t249,.int .i64 t250,s_.2.1]),(86,.bool t254)]) (fun s_ w'=>(w'.cell? ⟨gb191,0,none⟩ = some (.int .i64 a0_0) ∧ w'.cell? ⟨gb191,1,none⟩ = some (.int .i64 a0_1) ∧ w'.cell? ⟨gb191,2,none⟩ = some (.slice A0_2 l0_2.length c0_2) ∧ w'.cell? ⟨gb192,0,none⟩ = some (.int .i64 a1_0) ∧ w'.cell? ⟨gb192,1,none⟩ = some (.int .i64 a1_1) ∧ w'.cell? ⟨gb192,2,none⟩ = some (.int .i64 a1_2) ∧ w'.cell? ⟨gb192,3,none⟩ = some (.int .i64 a1_3)) ∧ (Kd.R k37 37 w' w.heap.size (fun k_=>some k_ ≠ (s_.2.1 : Value).ownBlock ∧ some k_ ≠ (.slice Ao31 t205.length co31 : Value).ownBlock ∧ some k_ ≠ (.slice Ao41 t235.length co41 : Value).ownBlock ∧ some k_ ≠ (.slice Ao50 t222.length co50 : Value).ownBlock) s_.1 t242) ∧ (Kd.R k37 37 w' w.heap.size (fun k_=>some k_ ≠ (s_.1 : Value).ownBlock ∧ some k_ ≠ (.slice Ao31 t205.length co31 : Value).ownBlock ∧ some k_ ≠ (.slice Ao41 t235.length co41 : Value).ownBlock ∧ some k_ ≠ (.slice Ao50 t222.length co50 : Value).ownBlock) s_.2.1 t251) ∧ (Kd.R k37 37 w' w.heap.size (fun k_=>some k_ ≠ (s_.1 : Value).ownBlock ∧ some k_ ≠ (s_.2.1 : Value).ownBlock ∧ some k_ ≠ (.slice Ao41 t235.length co41 : Value).ownBlock ∧ some k_ ≠ (.slice Ao50 t222.length co50 : Value).ownBlock) (.slice Ao31 t205.length co31) t205) ∧ (Kd.R k37 37 w' w.heap.size (fun k_=>some k_ ≠ (s_.1 : Value).ownBlock ∧ some k_ ≠ (s_.2.1 : Value).ownBlock ∧ some k_ ≠ (.slice Ao31 t205.length co31 : Value).ownBlock ∧ some k_ ≠ (.slice Ao50 t222.length co50 : Value).ownBlock) (.slice Ao41 t235.length co41) t235) ∧ (Kd.R k37 37 w' w.heap.size (fun k_=>some k_ ≠ (s_.1 : Value).ownBlock ∧ some k_ ≠ (s_.2.1 : Value).ownBlock ∧ some k_ ≠ (.slice Ao31 t205.length co31 : Value).ownBlock ∧ some k_ ≠ (.slice Ao41 t235.length co41 : Value).ownBlock) (.slice Ao50 t222.length co50) t238) ∧ (w'.heap[gb191]? = some (.cells #[.int .i64 a0_0,.int .i64 a0_1,.slice A0_2 l0_2.length c0_2] 24 (0,0))) ∧ (w'.heap[gb192]? = some (.cells #[.int .i64 a1_0,.int .i64 a1_1,.int .i64 a1_2,.int .i64 a1_3] 34 (0,0))) ∧ (w'.heap[gb209]? = some (.cells #[.int .i64 t203,.int .i64 t204,.slice Ao31 t205.length co31] 29 (0,0))) ∧ (w'.heap[gb215]? = some (.cells #[.int .i64 t210,.int .i64 t211,.slice Ao41 t235.length co41] 29 (0,0))) ∧ (w'.heap[gb226]? = some (.cells #[.int .i64 t220,.int .i64 t221,.slice Ao50 t222.length co50] 29 (0,0))) ∧ (w'.heap[s_.2.2]? = some (.cells #[.int .i64 0,.int .i64 0,.slice none 0 0] 29 (0,0))) ∧ (w.heap.size ≤ s_.2.2) ∧ (w.heap.size ≤ s_.2.2) ∧ (gb191 ≠ s_.2.2) ∧ (s_.2.2 ≠ gb191) ∧ (gb192 ≠ s_.2.2) ∧ (s_.2.2 ≠ gb192) ∧ (gb209 ≠ s_.2.2) ∧ (s_.2.2 ≠ gb209) ∧ (gb215 ≠ s_.2.2) ∧ (s_.2.2 ≠ gb215) ∧ (gb226 ≠ s_.2.2) ∧ (s_.2.2 ≠ gb226) ∧ (Below w.heap.size w w')) ?_ ?_
           rotate_left
           ·intro hCont
            refine two_ (i:=1) (j:=8) (Ni:=some 81) (Nj:=some 14) #[true,true,true,false,false,false,false,false,false,false,false] #[true,false,true,false,false,false,false,false,true,false,false] rfl rfl rfl rfl (two_of HT_.out (by kernel_rfl)) (by decide) (by decide) (fun K hK=>?_) (fun K hK=>?_)
            ·skip
             refine goes_ Try.func8 (by kernel_rfl) rfl #[.agg #[.int .i64 a0_0,.int .i64 a0_1,.slice A0_2 l0_2.length c0_2]] (by rfl) rfl rfl (by (try simp only [List.map_toArray,List.map_cons,List.map_nil]);first|done|rfl) ?_
             with_reducible refine (laws_toPuzzle.calls kj68 a0_0 a0_1 _ _ l0_2 t240 t241 t242 _ ?side1 ?side2 A98.out).mono ?_
             (case side1=>repeat (first|exact (Kd.C_below HR0_2.out HB.out)|(with_reducible refine Kd.C_alloc ?_ _)|(with_reducible refine Kd.C_drewN ?_ _)|(with_reducible refine Kd.C_drew ?_)))
             (case side2=>exact HC0_2.out)
             rintro e w111 ⟨v243,rfl,ho0,hb⟩
             refine ⟨_,rfl,?_⟩
             have n0_:=Aside0.mk (Kd.R_elder' (by (repeat with_reducible first|apply rA|apply rN|apply rD);exact HO_210002.out) (Kd.R_base ho0) hb)
             have n1_:=Aside0.mk (Kd.R_elder' (by (repeat with_reducible first|apply rA|apply rN|apply rD);exact HO_216002.out) (Kd.R_base ho0) hb)
             have n2_:=Aside0.mk (Kd.R_elder' (by (repeat with_reducible first|apply rA|apply rN|apply rD);exact HO_227002.out) (Kd.R_base ho0) hb)
             have n3_:=Aside0.mk (rL (rW (rW (rW ho0 (Kd.R_lt (by (repeat with_reducible first|apply rA|apply rN|apply rD);exact HO_210002.out))) (Kd.R_lt (by (repeat with_reducible first|apply rA|apply rN|apply rD);exact HO_216002.out))) (Kd.R_lt (by (repeat with_reducible first|apply rA|apply rN|apply rD);exact HO_227002.out))) (below_size (by repeat (with_reducible first|exact HB.out|apply eA|apply eN|apply eD|refine eS ?_ (Aside0.out ‹_›)))))
             have n4_:=(bB (by (repeat with_reducible first|apply bN|apply bD|apply bA);exact BK191.out) hb)
             have n5_:=(bB (by (repeat with_reducible first|apply bN|apply bD|apply bA);exact BK192.out) hb)
             have n6_:=(bB (by (repeat with_reducible first|apply bN|apply bD|apply bA);exact BK209.out) hb)
             have n7_:=(bB (by (repeat with_reducible first|apply bN|apply bD|apply bA);exact BK215.out) hb)
             have n8_:=(bB (by (repeat with_reducible first|apply bN|apply bD|apply bA);exact BK226.out) hb)
             have n9_:=Aside0.mk (below_step (by repeat (with_reducible first|exact HB.out|apply eA|apply eN|apply eD|refine eS ?_ (Aside0.out ‹_›))) hb)
             clear HO_210002
             clear HO_216002
             clear HO_227002
             clear BK191
             clear BK192
             clear BK209
             clear BK215
             clear BK226
             clear HB
             have HO_210002:=n0_
             have HO_216002:=n1_
             have HO_227002:=n2_
             have HO244:=n3_
             have BK191:=n4_
             have BK192:=n5_
             have BK209:=n6_
             have BK215:=n7_
             have BK226:=n8_
             have HB:=n9_
             clear n0_ n1_ n2_ n3_ n4_ n5_ n6_ n7_ n8_ n9_
             (try clear hb)
             (try clear hb2)
             (try clear hk)
             (try clear hi)
             (try clear ho0)
             refine hK.out _ _ ⟨(bC BK191 0).trans rfl,(bC BK191 1).trans rfl,(bC BK191 2).trans rfl,(bC BK192 0).trans rfl,(bC BK192 1).trans rfl,(bC BK192 2).trans rfl,(bC BK192 3).trans rfl⟩ (fun hHeld=>?_)
             clear hK K
             refine norm_ (a':=?_) ?_ ?_
             rotate_left
             ·show Act.put _ (some 81) _ = _
              simp only [Act.put,List.setIfInBounds_toArray,List.set_cons_zero,List.set_cons_succ,i64_w,i32_w]
              rfl
             refine two_ (i:=3) (j:=8) (Ni:=some 83) (Nj:=some 14) #[true,true,true,true,false,false,false,false,false,false,false] #[true,true,true,false,false,false,false,false,true,false,false] rfl rfl rfl rfl (two_of HT_.out (by kernel_rfl)) (by decide) (by decide) (fun K hK=>?_) (fun K hK=>?_)
             ·skip
              refine goes_ Try.func12 (by kernel_rfl) rfl #[.agg #[.int .i64 a1_0,.int .i64 a1_1,.int .i64 a1_2,.int .i64 a1_3]] (by rfl) rfl rfl (by (try simp only [List.map_toArray,List.map_cons,List.map_nil]);first|done|rfl) ?_
              with_reducible refine (laws_toClue.calls a1_0 a1_1 a1_2 a1_3 t245 t246 t247 t248 _ A99.out).mono ?_
              rintro e w112 ⟨rfl,hb⟩
              refine ⟨_,rfl,?_⟩
              have n0_:=Aside0.mk (Kd.R_below (by (repeat with_reducible first|apply rA|apply rN|apply rD);exact HO_210002.out) hb)
              have n1_:=Aside0.mk (Kd.R_below (by (repeat with_reducible first|apply rA|apply rN|apply rD);exact HO_216002.out) hb)
              have n2_:=Aside0.mk (Kd.R_below (by (repeat with_reducible first|apply rA|apply rN|apply rD);exact HO_227002.out) hb)
              have n3_:=Aside0.mk (Kd.R_below (by (repeat with_reducible first|apply rA|apply rN|apply rD);exact HO244.out) hb)
              have n4_:=(bB (by (repeat with_reducible first|apply bN|apply bD|apply bA);exact BK191.out) hb)
              have n5_:=(bB (by (repeat with_reducible first|apply bN|apply bD|apply bA);exact BK192.out) hb)
              have n6_:=(bB (by (repeat with_reducible first|apply bN|apply bD|apply bA);exact BK209.out) hb)
              have n7_:=(bB (by (repeat with_reducible first|apply bN|apply bD|apply bA);exact BK215.out) hb)
              have n8_:=(bB (by (repeat with_reducible first|apply bN|apply bD|apply bA);exact BK226.out) hb)
              have n9_:=Aside0.mk (below_step (by repeat (with_reducible first|exact HB.out|apply eA|apply eN|apply eD|refine eS ?_ (Aside0.out ‹_›))) hb)
              clear HO_210002
              clear HO_216002
              clear HO_227002
              clear HO244
              clear BK191
              clear BK192
              clear BK209
              clear BK215
              clear BK226
              clear HB
              have HO_210002:=n0_
              have HO_216002:=n1_
              have HO_227002:=n2_
              have HO244:=n3_
              have BK191:=n4_
              have BK192:=n5_
              have BK209:=n6_
              have BK215:=n7_
              have BK226:=n8_
              have HB:=n9_
              clear n0_ n1_ n2_ n3_ n4_ n5_ n6_ n7_ n8_ n9_
              (try clear hb)
              (try clear hb2)
              (try clear hk)
              (try clear hi)
              obtain ⟨Ao113,co113,eo113⟩:=Kd.R_slice HO244.out
              (first|subst eo113|(injection eo113 with f1_ f2_ f3_;have f4_:=f1_.symm;have f5_:=f3_.symm;clear f1_ f2_ f3_;subst f4_;subst f5_))
              refine hK.out _ _ ⟨(bC BK191 0).trans rfl,(bC BK191 1).trans rfl,(bC BK191 2).trans rfl,(bC BK192 0).trans rfl,(bC BK192 1).trans rfl,(bC BK192 2).trans rfl,(bC BK192 3).trans rfl⟩ (fun hHeld=>?_)
              clear hK K
              refine norm_ (a':=?_) ?_ ?_
              rotate_left
              ·show Act.put _ (some 83) _ = _
               simp only [Act.put,List.setIfInBounds_toArray,List.set_cons_zero,List.set_cons_succ,i64_w,i32_w]
               rfl
              refine two_ (i:=4) (j:=8) (Ni:=some 84) (Nj:=some 14) #[true,true,true,true,true,false,false,false,false,false,false] #[true,true,true,true,false,false,false,false,true,false,false] rfl rfl rfl rfl (two_of HT_.out (by kernel_rfl)) (by decide) (by decide) (fun K hK=>?_) (fun K hK=>?_)
              ·skip
               refine goes_ Try.func13 (by kernel_rfl) rfl #[.agg #[.int .i64 t240,.int .i64 t241,.slice Ao113 t242.length co113],.agg #[.int .i64 t245,.int .i64 t246,.int .i64 t247,.int .i64 t248]] (by rfl) rfl rfl (by (try simp only [List.map_toArray,List.map_cons,List.map_nil]);first|done|rfl) ?_
               with_reducible refine (impl_AddClue.calls kj68 t240 t241 _ _ t242 t245 t246 t247 t248 t249 t250 t251 t254 _ ?side1 ?side2 A100.out).mono ?_
               (case side1=>repeat (first|exact (Kd.R_reads' HO244.out).2.2|(with_reducible refine Kd.C_alloc ?_ _)|(with_reducible refine Kd.C_drewN ?_ _)|(with_reducible refine Kd.C_drew ?_)))
               (case side2=>exact (Kd.R_reads' HO244.out).2.1)
               rintro e w114 ⟨v252,rfl,ho0,hb⟩
               refine ⟨_,rfl,?_⟩
               have n0_:=Aside0.mk (Kd.R_elder' (by (repeat with_reducible first|apply rA|apply rN|apply rD);exact HO_210002.out) (Kd.R_base ho0) hb)
               have n1_:=Aside0.mk (Kd.R_elder' (by (repeat with_reducible first|apply rA|apply rN|apply rD);exact HO_216002.out) (Kd.R_base ho0) hb)
               have n2_:=Aside0.mk (Kd.R_elder' (by (repeat with_reducible first|apply rA|apply rN|apply rD);exact HO_227002.out) (Kd.R_base ho0) hb)
               have n3_:=Aside0.mk (Kd.R_elder' (by (repeat with_reducible first|apply rA|apply rN|apply rD);exact HO244.out) (Kd.R_base ho0) hb)
               have n4_:=Aside0.mk (rL (rW (rW (rW (rW ho0 (Kd.R_lt (by (repeat with_reducible first|apply rA|apply rN|apply rD);exact HO_210002.out))) (Kd.R_lt (by (repeat with_reducible first|apply rA|apply rN|apply rD);exact HO_216002.out))) (Kd.R_lt (by (repeat with_reducible first|apply rA|apply rN|apply rD);exact HO_227002.out))) (Kd.R_lt (by (repeat with_reducible first|apply rA|apply rN|apply rD);exact HO244.out))) (below_size (by repeat (with_reducible first|exact HB.out|apply eA|apply eN|apply eD|refine eS ?_ (Aside0.out ‹_›)))))
               have n5_:=(bB (by (repeat with_reducible first|apply bN|apply bD|apply bA);exact BK191.out) hb)
               have n6_:=(bB (by (repeat with_reducible first|apply bN|apply bD|apply bA);exact BK192.out) hb)
               have n7_:=(bB (by (repeat with_reducible first|apply bN|apply bD|apply bA);exact BK209.out) hb)
               have n8_:=(bB (by (repeat with_reducible first|apply bN|apply bD|apply bA);exact BK215.out) hb)
               have n9_:=(bB (by (repeat with_reducible first|apply bN|apply bD|apply bA);exact BK226.out) hb)
               have n10_:=Aside0.mk (below_step (by repeat (with_reducible first|exact HB.out|apply eA|apply eN|apply eD|refine eS ?_ (Aside0.out ‹_›))) hb)
               clear HO_210002
               clear HO_216002
               clear HO_227002
               clear HO244
               clear BK191
               clear BK192
               clear BK209
               clear BK215
               clear BK226
               clear HB
               have HO_210002:=n0_
               have HO_216002:=n1_
               have HO_227002:=n2_
               have HO244:=n3_
               have HO253:=n4_
               have BK191:=n5_
               have BK192:=n6_
               have BK209:=n7_
               have BK215:=n8_
               have BK226:=n9_
               have HB:=n10_
               clear n0_ n1_ n2_ n3_ n4_ n5_ n6_ n7_ n8_ n9_ n10_
               (try clear hb)
               (try clear hb2)
               (try clear hk)
               (try clear hi)
               (try clear ho0)
               refine hK.out _ _ ⟨(bC BK191 0).trans rfl,(bC BK191 1).trans rfl,(bC BK191 2).trans rfl,(bC BK192 0).trans rfl,(bC BK192 1).trans rfl,(bC BK192 2).trans rfl,(bC BK192 3).trans rfl⟩ (fun hHeld=>?_)
               clear hK K
               refine norm_ (a':=?_) ?_ ?_
               rotate_left
               ·show Act.put _ (some 84) _ = _
                simp only [Act.put,List.setIfInBounds_toArray,List.set_cons_zero,List.set_cons_succ,i64_w,i32_w]
                rfl
               refine pure_ (i:=5) (N:=some 79) (v:=?_) (a':=?_) #[true,true,true,true,true,true,false,false,false,false,false] rfl rfl (any_of HT_.out (by kernel_rfl)) (fun _ _ _ h=>h) (Or.inl ⟨by rfl,?_⟩) ?_ ?_
               rotate_left
               ·intro w'
                go_simp
                with_reducible rfl
               rotate_left
               ·simp only [Act.put,List.setIfInBounds_toArray,List.set_cons_zero,List.set_cons_succ,i64_w,i32_w]
                rfl
               refine pure_ (i:=6) (N:=some 85) (v:=?_) (a':=?_) #[true,true,true,true,true,true,true,false,false,false,false] rfl rfl (any_of HT_.out (by kernel_rfl)) (fun _ _ _ h=>h) (Or.inl ⟨by rfl,?_⟩) ?_ ?_
               rotate_left
               ·intro w'
                go_simp
                with_reducible rfl
               rotate_left
               ·simp only [Act.put,List.setIfInBounds_toArray,List.set_cons_zero,List.set_cons_succ,i64_w,i32_w]
                rfl
               refine pure_ (i:=7) (N:=some 86) (v:=?_) (a':=?_) #[true,true,true,true,true,true,true,true,false,false,false] rfl rfl (any_of HT_.out (by kernel_rfl)) (fun _ _ _ h=>h) (Or.inl ⟨by rfl,?_⟩) ?_ ?_
               rotate_left
               ·intro w'
                go_simp
                with_reducible rfl
               rotate_left
               ·simp only [Act.put,List.setIfInBounds_toArray,List.set_cons_zero,List.set_cons_succ,i64_w,i32_w]
                rfl
               refine one_ (i:=8) (N:=some 14) #[true,true,true,true,true,true,true,true,true,false,false] rfl rfl (one_of HT_.out (by kernel_rfl)) (by decide) (fun K hK=>?_)
               refine box_step ?hg (N:=14) ?hd (cs:=#[.int .i64 0,.int .i64 0,.slice none 0 0]) (t:=29) ?hr ?_;(case hd=>rfl);(case hg=>rfl);(case hr=>first|(go_simp;done)|(go_simp;rfl))
               intro gb255 hg w115 hbox hb
               have n0_:=Aside0.mk (Kd.R_below (by (repeat with_reducible first|apply rA|apply rN|apply rD);exact HO_210002.out) hb)
               have n1_:=Aside0.mk (Kd.R_below (by (repeat with_reducible first|apply rA|apply rN|apply rD);exact HO_216002.out) hb)
               have n2_:=Aside0.mk (Kd.R_below (by (repeat with_reducible first|apply rA|apply rN|apply rD);exact HO_227002.out) hb)
               have n3_:=Aside0.mk (Kd.R_below (by (repeat with_reducible first|apply rA|apply rN|apply rD);exact HO244.out) hb)
               have n4_:=Aside0.mk (Kd.R_below (by (repeat with_reducible first|apply rA|apply rN|apply rD);exact HO253.out) hb)
               have n5_:=(bB (by (repeat with_reducible first|apply bN|apply bD|apply bA);exact BK191.out) hb)
               have n6_:=(bB (by (repeat with_reducible first|apply bN|apply bD|apply bA);exact BK192.out) hb)
               have n7_:=(bB (by (repeat with_reducible first|apply bN|apply bD|apply bA);exact BK209.out) hb)
               have n8_:=(bB (by (repeat with_reducible first|apply bN|apply bD|apply bA);exact BK215.out) hb)
               have n9_:=(bB (by (repeat with_reducible first|apply bN|apply bD|apply bA);exact BK226.out) hb)
               have n10_:=Aside0.mk (below_step (by repeat (with_reducible first|exact HB.out|apply eA|apply eN|apply eD|refine eS ?_ (Aside0.out ‹_›))) hb)
               have n11_:=Aside0.mk (hbox)
               have n12_:=Aside0.mk ((by rw [hg];exact (below_size (by repeat (with_reducible first|exact HB.out|apply eA|apply eN|apply eD|refine eS ?_ (Aside0.out ‹_›)))) : w.heap.size ≤ gb255))
               have n13_:=Aside0.mk ((by rw [hg];exact (below_size (by repeat (with_reducible first|exact HB.out|apply eA|apply eN|apply eD|refine eS ?_ (Aside0.out ‹_›)))) : w.heap.size ≤ gb255))
               have n14_:=Aside0.mk ((by rw [hg];exact Nat.ne_of_lt (blk_lt (by (repeat with_reducible first|apply bN|apply bD|apply bA);exact BK191.out)) : gb191 ≠ gb255))
               have n15_:=Aside0.mk ((by rw [hg];exact Nat.ne_of_gt (blk_lt (by (repeat with_reducible first|apply bN|apply bD|apply bA);exact BK191.out)) : gb255 ≠ gb191))
               have n16_:=Aside0.mk ((by rw [hg];exact Nat.ne_of_lt (blk_lt (by (repeat with_reducible first|apply bN|apply bD|apply bA);exact BK192.out)) : gb192 ≠ gb255))
               have n17_:=Aside0.mk ((by rw [hg];exact Nat.ne_of_gt (blk_lt (by (repeat with_reducible first|apply bN|apply bD|apply bA);exact BK192.out)) : gb255 ≠ gb192))
               have n18_:=Aside0.mk ((by rw [hg];exact Nat.ne_of_lt (blk_lt (by (repeat with_reducible first|apply bN|apply bD|apply bA);exact BK209.out)) : gb209 ≠ gb255))
               have n19_:=Aside0.mk ((by rw [hg];exact Nat.ne_of_gt (blk_lt (by (repeat with_reducible first|apply bN|apply bD|apply bA);exact BK209.out)) : gb255 ≠ gb209))
               have n20_:=Aside0.mk ((by rw [hg];exact Nat.ne_of_lt (blk_lt (by (repeat with_reducible first|apply bN|apply bD|apply bA);exact BK215.out)) : gb215 ≠ gb255))
               have n21_:=Aside0.mk ((by rw [hg];exact Nat.ne_of_gt (blk_lt (by (repeat with_reducible first|apply bN|apply bD|apply bA);exact BK215.out)) : gb255 ≠ gb215))
               have n22_:=Aside0.mk ((by rw [hg];exact Nat.ne_of_lt (blk_lt (by (repeat with_reducible first|apply bN|apply bD|apply bA);exact BK226.out)) : gb226 ≠ gb255))
               have n23_:=Aside0.mk ((by rw [hg];exact Nat.ne_of_gt (blk_lt (by (repeat with_reducible first|apply bN|apply bD|apply bA);exact BK226.out)) : gb255 ≠ gb226))
               clear HO_210002
               clear HO_216002
               clear HO_227002
               clear HO244
               clear HO253
               clear BK191
               clear BK192
               clear BK209
               clear BK215
               clear BK226
               clear HB
               have HO_210002:=n0_
               have HO_216002:=n1_
               have HO_227002:=n2_
               have HO244:=n3_
               have HO253:=n4_
               have BK191:=n5_
               have BK192:=n6_
               have BK209:=n7_
               have BK215:=n8_
               have BK226:=n9_
               have HB:=n10_
               have BK255:=n11_
               have GW255:=n12_
               have GE255:=n13_
               have NB191_255:=n14_
               have NB255_191:=n15_
               have NB192_255:=n16_
               have NB255_192:=n17_
               have NB209_255:=n18_
               have NB255_209:=n19_
               have NB215_255:=n20_
               have NB255_215:=n21_
               have NB226_255:=n22_
               have NB255_226:=n23_
               clear n0_ n1_ n2_ n3_ n4_ n5_ n6_ n7_ n8_ n9_ n10_ n11_ n12_ n13_ n14_ n15_ n16_ n17_ n18_ n19_ n20_ n21_ n22_ n23_
               clear hb hbox hg
               refine hK.out _ _ ⟨(bC BK191 0).trans rfl,(bC BK191 1).trans rfl,(bC BK191 2).trans rfl,(bC BK192 0).trans rfl,(bC BK192 1).trans rfl,(bC BK192 2).trans rfl,(bC BK192 3).trans rfl⟩ (fun hHeld=>?_)
               clear hK K
               refine norm_ (a':=?_) ?_ ?_
               rotate_left
               ·show Act.put _ (some 14) _ = _
                simp only [Act.put,List.setIfInBounds_toArray,List.set_cons_zero,List.set_cons_succ,i64_w,i32_w]
                rfl
               exact norm_ (by simp only [putAll,Act.put,List.setIfInBounds_toArray,List.set_cons_zero,List.set_cons_succ]) (hCont (.slice Ao113 t242.length co113,v252,gb255) _ ⟨hHeld,(by (repeat with_reducible first|apply rA|apply rN|apply rD);exact Kd.R_mono HO244.out (fun _ hk=>⟨hk.2,⟨hk.1.1.1.2,⟨hk.1.1.2,hk.1.2⟩⟩⟩)),(by (repeat with_reducible first|apply rA|apply rN|apply rD);exact Kd.R_mono HO253.out (fun _ hk=>⟨hk.2,⟨hk.1.1.1.2,⟨hk.1.1.2,hk.1.2⟩⟩⟩)),(by (repeat with_reducible first|apply rA|apply rN|apply rD);exact Kd.R_mono HO_210002.out (fun _ hk=>⟨hk.1.2,⟨hk.2,⟨hk.1.1.1,hk.1.1.2⟩⟩⟩)),(by (repeat with_reducible first|apply rA|apply rN|apply rD);exact Kd.R_mono HO_216002.out (fun _ hk=>⟨hk.1.2,⟨hk.2,⟨hk.1.1.1,hk.1.1.2⟩⟩⟩)),(by (repeat with_reducible first|apply rA|apply rN|apply rD);exact Kd.R_mono HO_227002.out (fun _ hk=>⟨hk.1.2,⟨hk.2,⟨hk.1.1.1,hk.1.1.2⟩⟩⟩)),(by (repeat with_reducible first|apply bN|apply bD|apply bA);exact BK191.out),(by (repeat with_reducible first|apply bN|apply bD|apply bA);exact BK192.out),(by (repeat with_reducible first|apply bN|apply bD|apply bA);exact BK209.out),(by (repeat with_reducible first|apply bN|apply bD|apply bA);exact BK215.out),(by (repeat with_reducible first|apply bN|apply bD|apply bA);exact BK226.out),(by (repeat with_reducible first|apply bN|apply bD|apply bA);exact BK255.out),GW255.out,GE255.out,NB191_255.out,NB255_191.out,NB192_255.out,NB255_192.out,NB209_255.out,NB255_209.out,NB215_255.out,NB255_215.out,NB226_255.out,NB255_226.out,(by repeat (with_reducible first|exact HB.out|apply eA|apply eN|apply eD|refine eS ?_ (Aside0.out ‹_›)))⟩)
              ·skip
               refine box_step ?hg (N:=14) ?hd (cs:=#[.int .i64 0,.int .i64 0,.slice none 0 0]) (t:=29) ?hr ?_;(case hd=>rfl);(case hg=>rfl);(case hr=>first|(go_simp;done)|(go_simp;rfl))
               intro gb255 hg w113 hbox hb
               have n0_:=Aside0.mk (Kd.R_below (by (repeat with_reducible first|apply rA|apply rN|apply rD);exact HO_210002.out) hb)
               have n1_:=Aside0.mk (Kd.R_below (by (repeat with_reducible first|apply rA|apply rN|apply rD);exact HO_216002.out) hb)
               have n2_:=Aside0.mk (Kd.R_below (by (repeat with_reducible first|apply rA|apply rN|apply rD);exact HO_227002.out) hb)
               have n3_:=Aside0.mk (Kd.R_below (by (repeat with_reducible first|apply rA|apply rN|apply rD);exact HO244.out) hb)
               have n4_:=(bB (by (repeat with_reducible first|apply bN|apply bD|apply bA);exact BK191.out) hb)
               have n5_:=(bB (by (repeat with_reducible first|apply bN|apply bD|apply bA);exact BK192.out) hb)
               have n6_:=(bB (by (repeat with_reducible first|apply bN|apply bD|apply bA);exact BK209.out) hb)
               have n7_:=(bB (by (repeat with_reducible first|apply bN|apply bD|apply bA);exact BK215.out) hb)
               have n8_:=(bB (by (repeat with_reducible first|apply bN|apply bD|apply bA);exact BK226.out) hb)
               have n9_:=Aside0.mk (below_step (by repeat (with_reducible first|exact HB.out|apply eA|apply eN|apply eD|refine eS ?_ (Aside0.out ‹_›))) hb)
               have n10_:=Aside0.mk (hbox)
               have n11_:=Aside0.mk ((by rw [hg];exact (below_size (by repeat (with_reducible first|exact HB.out|apply eA|apply eN|apply eD|refine eS ?_ (Aside0.out ‹_›)))) : w.heap.size ≤ gb255))
               have n12_:=Aside0.mk ((by rw [hg];exact (below_size (by repeat (with_reducible first|exact HB.out|apply eA|apply eN|apply eD|refine eS ?_ (Aside0.out ‹_›)))) : w.heap.size ≤ gb255))
               have n13_:=Aside0.mk ((by rw [hg];exact Nat.ne_of_lt (blk_lt (by (repeat with_reducible first|apply bN|apply bD|apply bA);exact BK191.out)) : gb191 ≠ gb255))
               have n14_:=Aside0.mk ((by rw [hg];exact Nat.ne_of_gt (blk_lt (by (repeat with_reducible first|apply bN|apply bD|apply bA);exact BK191.out)) : gb255 ≠ gb191))
               have n15_:=Aside0.mk ((by rw [hg];exact Nat.ne_of_lt (blk_lt (by (repeat with_reducible first|apply bN|apply bD|apply bA);exact BK192.out)) : gb192 ≠ gb255))
               have n16_:=Aside0.mk ((by rw [hg];exact Nat.ne_of_gt (blk_lt (by (repeat with_reducible first|apply bN|apply bD|apply bA);exact BK192.out)) : gb255 ≠ gb192))
               have n17_:=Aside0.mk ((by rw [hg];exact Nat.ne_of_lt (blk_lt (by (repeat with_reducible first|apply bN|apply bD|apply bA);exact BK209.out)) : gb209 ≠ gb255))
               have n18_:=Aside0.mk ((by rw [hg];exact Nat.ne_of_gt (blk_lt (by (repeat with_reducible first|apply bN|apply bD|apply bA);exact BK209.out)) : gb255 ≠ gb209))
               have n19_:=Aside0.mk ((by rw [hg];exact Nat.ne_of_lt (blk_lt (by (repeat with_reducible first|apply bN|apply bD|apply bA);exact BK215.out)) : gb215 ≠ gb255))
               have n20_:=Aside0.mk ((by rw [hg];exact Nat.ne_of_gt (blk_lt (by (repeat with_reducible first|apply bN|apply bD|apply bA);exact BK215.out)) : gb255 ≠ gb215))
               have n21_:=Aside0.mk ((by rw [hg];exact Nat.ne_of_lt (blk_lt (by (repeat with_reducible first|apply bN|apply bD|apply bA);exact BK226.out)) : gb226 ≠ gb255))
               have n22_:=Aside0.mk ((by rw [hg];exact Nat.ne_of_gt (blk_lt (by (repeat with_reducible first|apply bN|apply bD|apply bA);exact BK226.out)) : gb255 ≠ gb226))
               clear HO_210002
               clear HO_216002
               clear HO_227002
               clear HO244
               clear BK191
               clear BK192
               clear BK209
               clear BK215
               clear BK226
               clear HB
               have HO_210002:=n0_
               have HO_216002:=n1_
               have HO_227002:=n2_
               have HO244:=n3_
               have BK191:=n4_
               have BK192:=n5_
               have BK209:=n6_
               have BK215:=n7_
               have BK226:=n8_
               have HB:=n9_
               have BK255:=n10_
               have GW255:=n11_
               have GE255:=n12_
               have NB191_255:=n13_
               have NB255_191:=n14_
               have NB192_255:=n15_
               have NB255_192:=n16_
               have NB209_255:=n17_
               have NB255_209:=n18_
               have NB215_255:=n19_
               have NB255_215:=n20_
               have NB226_255:=n21_
               have NB255_226:=n22_
               clear n0_ n1_ n2_ n3_ n4_ n5_ n6_ n7_ n8_ n9_ n10_ n11_ n12_ n13_ n14_ n15_ n16_ n17_ n18_ n19_ n20_ n21_ n22_
               clear hb hbox hg
               obtain ⟨Ao114,co114,eo114⟩:=Kd.R_slice HO244.out
               (first|subst eo114|(injection eo114 with f1_ f2_ f3_;have f4_:=f1_.symm;have f5_:=f3_.symm;clear f1_ f2_ f3_;subst f4_;subst f5_))
               refine hK.out _ _ ⟨(bC BK191 0).trans rfl,(bC BK191 1).trans rfl,(bC BK191 2).trans rfl,(bC BK192 0).trans rfl,(bC BK192 1).trans rfl,(bC BK192 2).trans rfl,(bC BK192 3).trans rfl⟩ (fun hHeld=>?_)
               clear hK K
               refine norm_ (a':=?_) ?_ ?_
               rotate_left
               ·show Act.put _ (some 14) _ = _
                simp only [Act.put,List.setIfInBounds_toArray,List.set_cons_zero,List.set_cons_succ,i64_w,i32_w]
                rfl
               refine one_ (i:=4) (N:=some 84) #[true,true,true,true,true,false,false,false,true,false,false] rfl rfl (one_of HT_.out (by kernel_rfl)) (by decide) (fun K hK=>?_)
               refine goes_ Try.func13 (by kernel_rfl) rfl #[.agg #[.int .i64 t240,.int .i64 t241,.slice Ao114 t242.length co114],.agg #[.int .i64 t245,.int .i64 t246,.int .i64 t247,.int .i64 t248]] (by rfl) rfl rfl (by (try simp only [List.map_toArray,List.map_cons,List.map_nil]);first|done|rfl) ?_
               with_reducible refine (impl_AddClue.calls kj68 t240 t241 _ _ t242 t245 t246 t247 t248 t249 t250 t251 t254 _ ?side1 ?side2 A100.out).mono ?_
               (case side1=>repeat (first|exact (Kd.R_reads' HO244.out).2.2|(with_reducible refine Kd.C_alloc ?_ _)|(with_reducible refine Kd.C_drewN ?_ _)|(with_reducible refine Kd.C_drew ?_)))
               (case side2=>exact (Kd.R_reads' HO244.out).2.1)
               rintro e w115 ⟨v252,rfl,ho0,hb⟩
               refine ⟨_,rfl,?_⟩
               have n0_:=Aside0.mk (Kd.R_elder' (by (repeat with_reducible first|apply rA|apply rN|apply rD);exact HO_210002.out) (Kd.R_base ho0) hb)
               have n1_:=Aside0.mk (Kd.R_elder' (by (repeat with_reducible first|apply rA|apply rN|apply rD);exact HO_216002.out) (Kd.R_base ho0) hb)
               have n2_:=Aside0.mk (Kd.R_elder' (by (repeat with_reducible first|apply rA|apply rN|apply rD);exact HO_227002.out) (Kd.R_base ho0) hb)
               have n3_:=Aside0.mk (Kd.R_elder' (by (repeat with_reducible first|apply rA|apply rN|apply rD);exact HO244.out) (Kd.R_base ho0) hb)
               have n4_:=Aside0.mk (rL (rW (rW (rW (rW ho0 (Kd.R_lt (by (repeat with_reducible first|apply rA|apply rN|apply rD);exact HO_210002.out))) (Kd.R_lt (by (repeat with_reducible first|apply rA|apply rN|apply rD);exact HO_216002.out))) (Kd.R_lt (by (repeat with_reducible first|apply rA|apply rN|apply rD);exact HO_227002.out))) (Kd.R_lt (by (repeat with_reducible first|apply rA|apply rN|apply rD);exact HO244.out))) (below_size (by repeat (with_reducible first|exact HB.out|apply eA|apply eN|apply eD|refine eS ?_ (Aside0.out ‹_›)))))
               have n5_:=(bB (by (repeat with_reducible first|apply bN|apply bD|apply bA);exact BK191.out) hb)
               have n6_:=(bB (by (repeat with_reducible first|apply bN|apply bD|apply bA);exact BK192.out) hb)
               have n7_:=(bB (by (repeat with_reducible first|apply bN|apply bD|apply bA);exact BK209.out) hb)
               have n8_:=(bB (by (repeat with_reducible first|apply bN|apply bD|apply bA);exact BK215.out) hb)
               have n9_:=(bB (by (repeat with_reducible first|apply bN|apply bD|apply bA);exact BK226.out) hb)
               have n10_:=(bB (by (repeat with_reducible first|apply bN|apply bD|apply bA);exact BK255.out) hb)
               have n11_:=Aside0.mk (below_step (by repeat (with_reducible first|exact HB.out|apply eA|apply eN|apply eD|refine eS ?_ (Aside0.out ‹_›))) hb)
               clear HO_210002
               clear HO_216002
               clear HO_227002
               clear HO244
               clear BK191
               clear BK192
               clear BK209
               clear BK215
               clear BK226
               clear BK255
               clear HB
               have HO_210002:=n0_
               have HO_216002:=n1_
               have HO_227002:=n2_
               have HO244:=n3_
               have HO253:=n4_
               have BK191:=n5_
               have BK192:=n6_
               have BK209:=n7_
               have BK215:=n8_
               have BK226:=n9_
               have BK255:=n10_
               have HB:=n11_
               clear n0_ n1_ n2_ n3_ n4_ n5_ n6_ n7_ n8_ n9_ n10_ n11_
               (try clear hb)
               (try clear hb2)
               (try clear hk)
               (try clear hi)
               (try clear ho0)
               refine hK.out _ _ ⟨(bC BK191 0).trans rfl,(bC BK191 1).trans rfl,(bC BK191 2).trans rfl,(bC BK192 0).trans rfl,(bC BK192 1).trans rfl,(bC BK192 2).trans rfl,(bC BK192 3).trans rfl⟩ (fun hHeld=>?_)
               clear hK K
               refine norm_ (a':=?_) ?_ ?_
               rotate_left
               ·show Act.put _ (some 84) _ = _
                simp only [Act.put,List.setIfInBounds_toArray,List.set_cons_zero,List.set_cons_succ,i64_w,i32_w]
                rfl
               refine pure_ (i:=5) (N:=some 79) (v:=?_) (a':=?_) #[true,true,true,true,true,true,false,false,true,false,false] rfl rfl (any_of HT_.out (by kernel_rfl)) (fun _ _ _ h=>h) (Or.inl ⟨by rfl,?_⟩) ?_ ?_
               rotate_left
               ·intro w'
                go_simp
                with_reducible rfl
               rotate_left
               ·simp only [Act.put,List.setIfInBounds_toArray,List.set_cons_zero,List.set_cons_succ,i64_w,i32_w]
                rfl
               refine pure_ (i:=6) (N:=some 85) (v:=?_) (a':=?_) #[true,true,true,true,true,true,true,false,true,false,false] rfl rfl (any_of HT_.out (by kernel_rfl)) (fun _ _ _ h=>h) (Or.inl ⟨by rfl,?_⟩) ?_ ?_
               rotate_left
               ·intro w'
                go_simp
                with_reducible rfl
               rotate_left
               ·simp only [Act.put,List.setIfInBounds_toArray,List.set_cons_zero,List.set_cons_succ,i64_w,i32_w]
                rfl
               refine pure_ (i:=7) (N:=some 86) (v:=?_) (a':=?_) #[true,true,true,true,true,true,true,true,true,false,false] rfl rfl (any_of HT_.out (by kernel_rfl)) (fun _ _ _ h=>h) (Or.inl ⟨by rfl,?_⟩) ?_ ?_
               rotate_left
               ·intro w'
                go_simp
                with_reducible rfl
               rotate_left
               ·simp only [Act.put,List.setIfInBounds_toArray,List.set_cons_zero,List.set_cons_succ,i64_w,i32_w]
                rfl
               exact norm_ (by simp only [putAll,Act.put,List.setIfInBounds_toArray,List.set_cons_zero,List.set_cons_succ]) (hCont (.slice Ao114 t242.length co114,v252,gb255) _ ⟨hHeld,(by (repeat with_reducible first|apply rA|apply rN|apply rD);exact Kd.R_mono HO244.out (fun _ hk=>⟨hk.2,⟨hk.1.1.1.2,⟨hk.1.1.2,hk.1.2⟩⟩⟩)),(by (repeat with_reducible first|apply rA|apply rN|apply rD);exact Kd.R_mono HO253.out (fun _ hk=>⟨hk.2,⟨hk.1.1.1.2,⟨hk.1.1.2,hk.1.2⟩⟩⟩)),(by (repeat with_reducible first|apply rA|apply rN|apply rD);exact Kd.R_mono HO_210002.out (fun _ hk=>⟨hk.1.2,⟨hk.2,⟨hk.1.1.1,hk.1.1.2⟩⟩⟩)),(by (repeat with_reducible first|apply rA|apply rN|apply rD);exact Kd.R_mono HO_216002.out (fun _ hk=>⟨hk.1.2,⟨hk.2,⟨hk.1.1.1,hk.1.1.2⟩⟩⟩)),(by (repeat with_reducible first|apply rA|apply rN|apply rD);exact Kd.R_mono HO_227002.out (fun _ hk=>⟨hk.1.2,⟨hk.2,⟨hk.1.1.1,hk.1.1.2⟩⟩⟩)),(by (repeat with_reducible first|apply bN|apply bD|apply bA);exact BK191.out),(by (repeat with_reducible first|apply bN|apply bD|apply bA);exact BK192.out),(by (repeat with_reducible first|apply bN|apply bD|apply bA);exact BK209.out),(by (repeat with_reducible first|apply bN|apply bD|apply bA);exact BK215.out),(by (repeat with_reducible first|apply bN|apply bD|apply bA);exact BK226.out),(by (repeat with_reducible first|apply bN|apply bD|apply bA);exact BK255.out),GW255.out,GE255.out,NB191_255.out,NB255_191.out,NB192_255.out,NB255_192.out,NB209_255.out,NB255_209.out,NB215_255.out,NB255_215.out,NB226_255.out,NB255_226.out,(by repeat (with_reducible first|exact HB.out|apply eA|apply eN|apply eD|refine eS ?_ (Aside0.out ‹_›)))⟩)
             ·skip
              refine box_step ?hg (N:=14) ?hd (cs:=#[.int .i64 0,.int .i64 0,.slice none 0 0]) (t:=29) ?hr ?_;(case hd=>rfl);(case hg=>rfl);(case hr=>first|(go_simp;done)|(go_simp;rfl))
              intro gb255 hg w112 hbox hb
              have n0_:=Aside0.mk (Kd.R_below (by (repeat with_reducible first|apply rA|apply rN|apply rD);exact HO_210002.out) hb)
              have n1_:=Aside0.mk (Kd.R_below (by (repeat with_reducible first|apply rA|apply rN|apply rD);exact HO_216002.out) hb)
              have n2_:=Aside0.mk (Kd.R_below (by (repeat with_reducible first|apply rA|apply rN|apply rD);exact HO_227002.out) hb)
              have n3_:=Aside0.mk (Kd.R_below (by (repeat with_reducible first|apply rA|apply rN|apply rD);exact HO244.out) hb)
              have n4_:=(bB (by (repeat with_reducible first|apply bN|apply bD|apply bA);exact BK191.out) hb)
              have n5_:=(bB (by (repeat with_reducible first|apply bN|apply bD|apply bA);exact BK192.out) hb)
              have n6_:=(bB (by (repeat with_reducible first|apply bN|apply bD|apply bA);exact BK209.out) hb)
              have n7_:=(bB (by (repeat with_reducible first|apply bN|apply bD|apply bA);exact BK215.out) hb)
              have n8_:=(bB (by (repeat with_reducible first|apply bN|apply bD|apply bA);exact BK226.out) hb)
              have n9_:=Aside0.mk (below_step (by repeat (with_reducible first|exact HB.out|apply eA|apply eN|apply eD|refine eS ?_ (Aside0.out ‹_›))) hb)
              have n10_:=Aside0.mk (hbox)
              have n11_:=Aside0.mk ((by rw [hg];exact (below_size (by repeat (with_reducible first|exact HB.out|apply eA|apply eN|apply eD|refine eS ?_ (Aside0.out ‹_›)))) : w.heap.size ≤ gb255))
              have n12_:=Aside0.mk ((by rw [hg];exact (below_size (by repeat (with_reducible first|exact HB.out|apply eA|apply eN|apply eD|refine eS ?_ (Aside0.out ‹_›)))) : w.heap.size ≤ gb255))
              have n13_:=Aside0.mk ((by rw [hg];exact Nat.ne_of_lt (blk_lt (by (repeat with_reducible first|apply bN|apply bD|apply bA);exact BK191.out)) : gb191 ≠ gb255))
              have n14_:=Aside0.mk ((by rw [hg];exact Nat.ne_of_gt (blk_lt (by (repeat with_reducible first|apply bN|apply bD|apply bA);exact BK191.out)) : gb255 ≠ gb191))
              have n15_:=Aside0.mk ((by rw [hg];exact Nat.ne_of_lt (blk_lt (by (repeat with_reducible first|apply bN|apply bD|apply bA);exact BK192.out)) : gb192 ≠ gb255))
              have n16_:=Aside0.mk ((by rw [hg];exact Nat.ne_of_gt (blk_lt (by (repeat with_reducible first|apply bN|apply bD|apply bA);exact BK192.out)) : gb255 ≠ gb192))
              have n17_:=Aside0.mk ((by rw [hg];exact Nat.ne_of_lt (blk_lt (by (repeat with_reducible first|apply bN|apply bD|apply bA);exact BK209.out)) : gb209 ≠ gb255))
              have n18_:=Aside0.mk ((by rw [hg];exact Nat.ne_of_gt (blk_lt (by (repeat with_reducible first|apply bN|apply bD|apply bA);exact BK209.out)) : gb255 ≠ gb209))
              have n19_:=Aside0.mk ((by rw [hg];exact Nat.ne_of_lt (blk_lt (by (repeat with_reducible first|apply bN|apply bD|apply bA);exact BK215.out)) : gb215 ≠ gb255))
              have n20_:=Aside0.mk ((by rw [hg];exact Nat.ne_of_gt (blk_lt (by (repeat with_reducible first|apply bN|apply bD|apply bA);exact BK215.out)) : gb255 ≠ gb215))
              have n21_:=Aside0.mk ((by rw [hg];exact Nat.ne_of_lt (blk_lt (by (repeat with_reducible first|apply bN|apply bD|apply bA);exact BK226.out)) : gb226 ≠ gb255))
              have n22_:=Aside0.mk ((by rw [hg];exact Nat.ne_of_gt (blk_lt (by (repeat with_reducible first|apply bN|apply bD|apply bA);exact BK226.out)) : gb255 ≠ gb226))
              clear HO_210002
              clear HO_216002
              clear HO_227002
              clear HO244
              clear BK191
              clear BK192
              clear BK209
              clear BK215
              clear BK226
              clear HB
              have HO_210002:=n0_
              have HO_216002:=n1_
              have HO_227002:=n2_
              have HO244:=n3_
              have BK191:=n4_
              have BK192:=n5_
              have BK209:=n6_
              have BK215:=n7_
              have BK226:=n8_
              have HB:=n9_
              have BK255:=n10_
              have GW255:=n11_
              have GE255:=n12_
              have NB191_255:=n13_
              have NB255_191:=n14_
              have NB192_255:=n15_
              have NB255_192:=n16_
              have NB209_255:=n17_
              have NB255_209:=n18_
              have NB215_255:=n19_
              have NB255_215:=n20_
              have NB226_255:=n21_
              have NB255_226:=n22_
              clear n0_ n1_ n2_ n3_ n4_ n5_ n6_ n7_ n8_ n9_ n10_ n11_ n12_ n13_ n14_ n15_ n16_ n17_ n18_ n19_ n20_ n21_ n22_
              clear hb hbox hg
              refine hK.out _ _ ⟨(bC BK191 0).trans rfl,(bC BK191 1).trans rfl,(bC BK191 2).trans rfl,(bC BK192 0).trans rfl,(bC BK192 1).trans rfl,(bC BK192 2).trans rfl,(bC BK192 3).trans rfl⟩ (fun hHeld=>?_)
              clear hK K
              refine norm_ (a':=?_) ?_ ?_
              rotate_left
              ·show Act.put _ (some 14) _ = _
               simp only [Act.put,List.setIfInBounds_toArray,List.set_cons_zero,List.set_cons_succ,i64_w,i32_w]
               rfl
              refine one_ (i:=3) (N:=some 83) #[true,true,true,true,false,false,false,false,true,false,false] rfl rfl (one_of HT_.out (by kernel_rfl)) (by decide) (fun K hK=>?_)
              refine goes_ Try.func12 (by kernel_rfl) rfl #[.agg #[.int .i64 a1_0,.int .i64 a1_1,.int .i64 a1_2,.int .i64 a1_3]] (by rfl) rfl rfl (by (try simp only [List.map_toArray,List.map_cons,List.map_nil]);first|done|rfl) ?_
              with_reducible refine (laws_toClue.calls a1_0 a1_1 a1_2 a1_3 t245 t246 t247 t248 _ A99.out).mono ?_
              rintro e w113 ⟨rfl,hb⟩
              refine ⟨_,rfl,?_⟩
              have n0_:=Aside0.mk (Kd.R_below (by (repeat with_reducible first|apply rA|apply rN|apply rD);exact HO_210002.out) hb)
              have n1_:=Aside0.mk (Kd.R_below (by (repeat with_reducible first|apply rA|apply rN|apply rD);exact HO_216002.out) hb)
              have n2_:=Aside0.mk (Kd.R_below (by (repeat with_reducible first|apply rA|apply rN|apply rD);exact HO_227002.out) hb)
              have n3_:=Aside0.mk (Kd.R_below (by (repeat with_reducible first|apply rA|apply rN|apply rD);exact HO244.out) hb)
              have n4_:=(bB (by (repeat with_reducible first|apply bN|apply bD|apply bA);exact BK191.out) hb)
              have n5_:=(bB (by (repeat with_reducible first|apply bN|apply bD|apply bA);exact BK192.out) hb)
              have n6_:=(bB (by (repeat with_reducible first|apply bN|apply bD|apply bA);exact BK209.out) hb)
              have n7_:=(bB (by (repeat with_reducible first|apply bN|apply bD|apply bA);exact BK215.out) hb)
              have n8_:=(bB (by (repeat with_reducible first|apply bN|apply bD|apply bA);exact BK226.out) hb)
              have n9_:=(bB (by (repeat with_reducible first|apply bN|apply bD|apply bA);exact BK255.out) hb)
              have n10_:=Aside0.mk (below_step (by repeat (with_reducible first|exact HB.out|apply eA|apply eN|apply eD|refine eS ?_ (Aside0.out ‹_›))) hb)
              clear HO_210002
              clear HO_216002
              clear HO_227002
              clear HO244
              clear BK191
              clear BK192
              clear BK209
              clear BK215
              clear BK226
              clear BK255
              clear HB
              have HO_210002:=n0_
              have HO_216002:=n1_
              have HO_227002:=n2_
              have HO244:=n3_
              have BK191:=n4_
              have BK192:=n5_
              have BK209:=n6_
              have BK215:=n7_
              have BK226:=n8_
              have BK255:=n9_
              have HB:=n10_
              clear n0_ n1_ n2_ n3_ n4_ n5_ n6_ n7_ n8_ n9_ n10_
              (try clear hb)
              (try clear hb2)
              (try clear hk)
              (try clear hi)
              obtain ⟨Ao114,co114,eo114⟩:=Kd.R_slice HO244.out
              (first|subst eo114|(injection eo114 with f1_ f2_ f3_;have f4_:=f1_.symm;have f5_:=f3_.symm;clear f1_ f2_ f3_;subst f4_;subst f5_))
              refine hK.out _ _ ⟨(bC BK191 0).trans rfl,(bC BK191 1).trans rfl,(bC BK191 2).trans rfl,(bC BK192 0).trans rfl,(bC BK192 1).trans rfl,(bC BK192 2).trans rfl,(bC BK192 3).trans rfl⟩ (fun hHeld=>?_)
              clear hK K
              refine norm_ (a':=?_) ?_ ?_
              rotate_left
              ·show Act.put _ (some 83) _ = _
               simp only [Act.put,List.setIfInBounds_toArray,List.set_cons_zero,List.set_cons_succ,i64_w,i32_w]
               rfl
              refine one_ (i:=4) (N:=some 84) #[true,true,true,true,true,false,false,false,true,false,false] rfl rfl (one_of HT_.out (by kernel_rfl)) (by decide) (fun K hK=>?_)
              refine goes_ Try.func13 (by kernel_rfl) rfl #[.agg #[.int .i64 t240,.int .i64 t241,.slice Ao114 t242.length co114],.agg #[.int .i64 t245,.int .i64 t246,.int .i64 t247,.int .i64 t248]] (by rfl) rfl rfl (by (try simp only [List.map_toArray,List.map_cons,List.map_nil]);first|done|rfl) ?_
              with_reducible refine (impl_AddClue.calls kj68 t240 t241 _ _ t242 t245 t246 t247 t248 t249 t250 t251 t254 _ ?side1 ?side2 A100.out).mono ?_
              (case side1=>repeat (first|exact (Kd.R_reads' HO244.out).2.2|(with_reducible refine Kd.C_alloc ?_ _)|(with_reducible refine Kd.C_drewN ?_ _)|(with_reducible refine Kd.C_drew ?_)))
              (case side2=>exact (Kd.R_reads' HO244.out).2.1)
              rintro e w115 ⟨v252,rfl,ho0,hb⟩
              refine ⟨_,rfl,?_⟩
              have n0_:=Aside0.mk (Kd.R_elder' (by (repeat with_reducible first|apply rA|apply rN|apply rD);exact HO_210002.out) (Kd.R_base ho0) hb)
              have n1_:=Aside0.mk (Kd.R_elder' (by (repeat with_reducible first|apply rA|apply rN|apply rD);exact HO_216002.out) (Kd.R_base ho0) hb)
              have n2_:=Aside0.mk (Kd.R_elder' (by (repeat with_reducible first|apply rA|apply rN|apply rD);exact HO_227002.out) (Kd.R_base ho0) hb)
              have n3_:=Aside0.mk (Kd.R_elder' (by (repeat with_reducible first|apply rA|apply rN|apply rD);exact HO244.out) (Kd.R_base ho0) hb)
              have n4_:=Aside0.mk (rL (rW (rW (rW (rW ho0 (Kd.R_lt (by (repeat with_reducible first|apply rA|apply rN|apply rD);exact HO_210002.out))) (Kd.R_lt (by (repeat with_reducible first|apply rA|apply rN|apply rD);exact HO_216002.out))) (Kd.R_lt (by (repeat with_reducible first|apply rA|apply rN|apply rD);exact HO_227002.out))) (Kd.R_lt (by (repeat with_reducible first|apply rA|apply rN|apply rD);exact HO244.out))) (below_size (by repeat (with_reducible first|exact HB.out|apply eA|apply eN|apply eD|refine eS ?_ (Aside0.out ‹_›)))))
              have n5_:=(bB (by (repeat with_reducible first|apply bN|apply bD|apply bA);exact BK191.out) hb)
              have n6_:=(bB (by (repeat with_reducible first|apply bN|apply bD|apply bA);exact BK192.out) hb)
              have n7_:=(bB (by (repeat with_reducible first|apply bN|apply bD|apply bA);exact BK209.out) hb)
              have n8_:=(bB (by (repeat with_reducible first|apply bN|apply bD|apply bA);exact BK215.out) hb)
              have n9_:=(bB (by (repeat with_reducible first|apply bN|apply bD|apply bA);exact BK226.out) hb)
              have n10_:=(bB (by (repeat with_reducible first|apply bN|apply bD|apply bA);exact BK255.out) hb)
              have n11_:=Aside0.mk (below_step (by repeat (with_reducible first|exact HB.out|apply eA|apply eN|apply eD|refine eS ?_ (Aside0.out ‹_›))) hb)
              clear HO_210002
              clear HO_216002
              clear HO_227002
              clear HO244
              clear BK191
              clear BK192
              clear BK209
              clear BK215
              clear BK226
              clear BK255
              clear HB
              have HO_210002:=n0_
              have HO_216002:=n1_
              have HO_227002:=n2_
              have HO244:=n3_
              have HO253:=n4_
              have BK191:=n5_
              have BK192:=n6_
              have BK209:=n7_
              have BK215:=n8_
              have BK226:=n9_
              have BK255:=n10_
              have HB:=n11_
              clear n0_ n1_ n2_ n3_ n4_ n5_ n6_ n7_ n8_ n9_ n10_ n11_
              (try clear hb)
              (try clear hb2)
              (try clear hk)
              (try clear hi)
              (try clear ho0)
              refine hK.out _ _ ⟨(bC BK191 0).trans rfl,(bC BK191 1).trans rfl,(bC BK191 2).trans rfl,(bC BK192 0).trans rfl,(bC BK192 1).trans rfl,(bC BK192 2).trans rfl,(bC BK192 3).trans rfl⟩ (fun hHeld=>?_)
              clear hK K
              refine norm_ (a':=?_) ?_ ?_
              rotate_left
              ·show Act.put _ (some 84) _ = _
               simp only [Act.put,List.setIfInBounds_toArray,List.set_cons_zero,List.set_cons_succ,i64_w,i32_w]
               rfl
              refine pure_ (i:=5) (N:=some 79) (v:=?_) (a':=?_) #[true,true,true,true,true,true,false,false,true,false,false] rfl rfl (any_of HT_.out (by kernel_rfl)) (fun _ _ _ h=>h) (Or.inl ⟨by rfl,?_⟩) ?_ ?_
              rotate_left
              ·intro w'
               go_simp
               with_reducible rfl
              rotate_left
              ·simp only [Act.put,List.setIfInBounds_toArray,List.set_cons_zero,List.set_cons_succ,i64_w,i32_w]
               rfl
              refine pure_ (i:=6) (N:=some 85) (v:=?_) (a':=?_) #[true,true,true,true,true,true,true,false,true,false,false] rfl rfl (any_of HT_.out (by kernel_rfl)) (fun _ _ _ h=>h) (Or.inl ⟨by rfl,?_⟩) ?_ ?_
              rotate_left
              ·intro w'
               go_simp
               with_reducible rfl
              rotate_left
              ·simp only [Act.put,List.setIfInBounds_toArray,List.set_cons_zero,List.set_cons_succ,i64_w,i32_w]
               rfl
              refine pure_ (i:=7) (N:=some 86) (v:=?_) (a':=?_) #[true,true,true,true,true,true,true,true,true,false,false] rfl rfl (any_of HT_.out (by kernel_rfl)) (fun _ _ _ h=>h) (Or.inl ⟨by rfl,?_⟩) ?_ ?_
              rotate_left
              ·intro w'
               go_simp
               with_reducible rfl
              rotate_left
              ·simp only [Act.put,List.setIfInBounds_toArray,List.set_cons_zero,List.set_cons_succ,i64_w,i32_w]
               rfl
              exact norm_ (by simp only [putAll,Act.put,List.setIfInBounds_toArray,List.set_cons_zero,List.set_cons_succ]) (hCont (.slice Ao114 t242.length co114,v252,gb255) _ ⟨hHeld,(by (repeat with_reducible first|apply rA|apply rN|apply rD);exact Kd.R_mono HO244.out (fun _ hk=>⟨hk.2,⟨hk.1.1.1.2,⟨hk.1.1.2,hk.1.2⟩⟩⟩)),(by (repeat with_reducible first|apply rA|apply rN|apply rD);exact Kd.R_mono HO253.out (fun _ hk=>⟨hk.2,⟨hk.1.1.1.2,⟨hk.1.1.2,hk.1.2⟩⟩⟩)),(by (repeat with_reducible first|apply rA|apply rN|apply rD);exact Kd.R_mono HO_210002.out (fun _ hk=>⟨hk.1.2,⟨hk.2,⟨hk.1.1.1,hk.1.1.2⟩⟩⟩)),(by (repeat with_reducible first|apply rA|apply rN|apply rD);exact Kd.R_mono HO_216002.out (fun _ hk=>⟨hk.1.2,⟨hk.2,⟨hk.1.1.1,hk.1.1.2⟩⟩⟩)),(by (repeat with_reducible first|apply rA|apply rN|apply rD);exact Kd.R_mono HO_227002.out (fun _ hk=>⟨hk.1.2,⟨hk.2,⟨hk.1.1.1,hk.1.1.2⟩⟩⟩)),(by (repeat with_reducible first|apply bN|apply bD|apply bA);exact BK191.out),(by (repeat with_reducible first|apply bN|apply bD|apply bA);exact BK192.out),(by (repeat with_reducible first|apply bN|apply bD|apply bA);exact BK209.out),(by (repeat with_reducible first|apply bN|apply bD|apply bA);exact BK215.out),(by (repeat with_reducible first|apply bN|apply bD|apply bA);exact BK226.out),(by (repeat with_reducible first|apply bN|apply bD|apply bA);exact BK255.out),GW255.out,GE255.out,NB191_255.out,NB255_191.out,NB192_255.out,NB255_192.out,NB209_255.out,NB255_209.out,NB215_255.out,NB255_215.out,NB226_255.out,NB255_226.out,(by repeat (with_reducible first|exact HB.out|apply eA|apply eN|apply eD|refine eS ?_ (Aside0.out ‹_›)))⟩)
            ·skip
             refine box_step ?hg (N:=14) ?hd (cs:=#[.int .i64 0,.int .i64 0,.slice none 0 0]) (t:=29) ?hr ?_;(case hd=>rfl);(case hg=>rfl);(case hr=>first|(go_simp;done)|(go_simp;rfl))
             intro gb255 hg w111 hbox hb
             have n0_:=Aside0.mk (Kd.R_below (by (repeat with_reducible first|apply rA|apply rN|apply rD);exact HO_210002.out) hb)
             have n1_:=Aside0.mk (Kd.R_below (by (repeat with_reducible first|apply rA|apply rN|apply rD);exact HO_216002.out) hb)
             have n2_:=Aside0.mk (Kd.R_below (by (repeat with_reducible first|apply rA|apply rN|apply rD);exact HO_227002.out) hb)
             have n3_:=(bB (by (repeat with_reducible first|apply bN|apply bD|apply bA);exact BK191.out) hb)
             have n4_:=(bB (by (repeat with_reducible first|apply bN|apply bD|apply bA);exact BK192.out) hb)
             have n5_:=(bB (by (repeat with_reducible first|apply bN|apply bD|apply bA);exact BK209.out) hb)
             have n6_:=(bB (by (repeat with_reducible first|apply bN|apply bD|apply bA);exact BK215.out) hb)
             have n7_:=(bB (by (repeat with_reducible first|apply bN|apply bD|apply bA);exact BK226.out) hb)
             have n8_:=Aside0.mk (below_step (by repeat (with_reducible first|exact HB.out|apply eA|apply eN|apply eD|refine eS ?_ (Aside0.out ‹_›))) hb)
             have n9_:=Aside0.mk (hbox)
             have n10_:=Aside0.mk ((by rw [hg];exact (below_size (by repeat (with_reducible first|exact HB.out|apply eA|apply eN|apply eD|refine eS ?_ (Aside0.out ‹_›)))) : w.heap.size ≤ gb255))
             have n11_:=Aside0.mk ((by rw [hg];exact (below_size (by repeat (with_reducible first|exact HB.out|apply eA|apply eN|apply eD|refine eS ?_ (Aside0.out ‹_›)))) : w.heap.size ≤ gb255))
             have n12_:=Aside0.mk ((by rw [hg];exact Nat.ne_of_lt (blk_lt (by (repeat with_reducible first|apply bN|apply bD|apply bA);exact BK191.out)) : gb191 ≠ gb255))
             have n13_:=Aside0.mk ((by rw [hg];exact Nat.ne_of_gt (blk_lt (by (repeat with_reducible first|apply bN|apply bD|apply bA);exact BK191.out)) : gb255 ≠ gb191))
             have n14_:=Aside0.mk ((by rw [hg];exact Nat.ne_of_lt (blk_lt (by (repeat with_reducible first|apply bN|apply bD|apply bA);exact BK192.out)) : gb192 ≠ gb255))
             have n15_:=Aside0.mk ((by rw [hg];exact Nat.ne_of_gt (blk_lt (by (repeat with_reducible first|apply bN|apply bD|apply bA);exact BK192.out)) : gb255 ≠ gb192))
             have n16_:=Aside0.mk ((by rw [hg];exact Nat.ne_of_lt (blk_lt (by (repeat with_reducible first|apply bN|apply bD|apply bA);exact BK209.out)) : gb209 ≠ gb255))
             have n17_:=Aside0.mk ((by rw [hg];exact Nat.ne_of_gt (blk_lt (by (repeat with_reducible first|apply bN|apply bD|apply bA);exact BK209.out)) : gb255 ≠ gb209))
             have n18_:=Aside0.mk ((by rw [hg];exact Nat.ne_of_lt (blk_lt (by (repeat with_reducible first|apply bN|apply bD|apply bA);exact BK215.out)) : gb215 ≠ gb255))
             have n19_:=Aside0.mk ((by rw [hg];exact Nat.ne_of_gt (blk_lt (by (repeat with_reducible first|apply bN|apply bD|apply bA);exact BK215.out)) : gb255 ≠ gb215))
             have n20_:=Aside0.mk ((by rw [hg];exact Nat.ne_of_lt (blk_lt (by (repeat with_reducible first|apply bN|apply bD|apply bA);exact BK226.out)) : gb226 ≠ gb255))
             have n21_:=Aside0.mk ((by rw [hg];exact Nat.ne_of_gt (blk_lt (by (repeat with_reducible first|apply bN|apply bD|apply bA);exact BK226.out)) : gb255 ≠ gb226))
             clear HO_210002
             clear HO_216002
             clear HO_227002
             clear BK191
             clear BK192
             clear BK209
             clear BK215
             clear BK226
             clear HB
             have HO_210002:=n0_
             have HO_216002:=n1_
             have HO_227002:=n2_
             have BK191:=n3_
             have BK192:=n4_
             have BK209:=n5_
             have BK215:=n6_
             have BK226:=n7_
             have HB:=n8_
             have BK255:=n9_
             have GW255:=n10_
             have GE255:=n11_
             have NB191_255:=n12_
             have NB255_191:=n13_
             have NB192_255:=n14_
             have NB255_192:=n15_
             have NB209_255:=n16_
             have NB255_209:=n17_
             have NB215_255:=n18_
             have NB255_215:=n19_
             have NB226_255:=n20_
             have NB255_226:=n21_
             clear n0_ n1_ n2_ n3_ n4_ n5_ n6_ n7_ n8_ n9_ n10_ n11_ n12_ n13_ n14_ n15_ n16_ n17_ n18_ n19_ n20_ n21_
             clear hb hbox hg
             refine hK.out _ _ ⟨(bC BK191 0).trans rfl,(bC BK191 1).trans rfl,(bC BK191 2).trans rfl,(bC BK192 0).trans rfl,(bC BK192 1).trans rfl,(bC BK192 2).trans rfl,(bC BK192 3).trans rfl⟩ (fun hHeld=>?_)
             clear hK K
             refine norm_ (a':=?_) ?_ ?_
             rotate_left
             ·show Act.put _ (some 14) _ = _
              simp only [Act.put,List.setIfInBounds_toArray,List.set_cons_zero,List.set_cons_succ,i64_w,i32_w]
              rfl
             refine one_ (i:=1) (N:=some 81) #[true,true,true,false,false,false,false,false,true,false,false] rfl rfl (one_of HT_.out (by kernel_rfl)) (by decide) (fun K hK=>?_)
             refine goes_ Try.func8 (by kernel_rfl) rfl #[.agg #[.int .i64 a0_0,.int .i64 a0_1,.slice A0_2 l0_2.length c0_2]] (by rfl) rfl rfl (by (try simp only [List.map_toArray,List.map_cons,List.map_nil]);first|done|rfl) ?_
             with_reducible refine (laws_toPuzzle.calls kj68 a0_0 a0_1 _ _ l0_2 t240 t241 t242 _ ?side1 ?side2 A98.out).mono ?_
             (case side1=>repeat (first|exact (Kd.C_below HR0_2.out HB.out)|(with_reducible refine Kd.C_alloc ?_ _)|(with_reducible refine Kd.C_drewN ?_ _)|(with_reducible refine Kd.C_drew ?_)))
             (case side2=>exact HC0_2.out)
             rintro e w112 ⟨v243,rfl,ho0,hb⟩
             refine ⟨_,rfl,?_⟩
             have n0_:=Aside0.mk (Kd.R_elder' (by (repeat with_reducible first|apply rA|apply rN|apply rD);exact HO_210002.out) (Kd.R_base ho0) hb)
             have n1_:=Aside0.mk (Kd.R_elder' (by (repeat with_reducible first|apply rA|apply rN|apply rD);exact HO_216002.out) (Kd.R_base ho0) hb)
             have n2_:=Aside0.mk (Kd.R_elder' (by (repeat with_reducible first|apply rA|apply rN|apply rD);exact HO_227002.out) (Kd.R_base ho0) hb)
             have n3_:=Aside0.mk (rL (rW (rW (rW ho0 (Kd.R_lt (by (repeat with_reducible first|apply rA|apply rN|apply rD);exact HO_210002.out))) (Kd.R_lt (by (repeat with_reducible first|apply rA|apply rN|apply rD);exact HO_216002.out))) (Kd.R_lt (by (repeat with_reducible first|apply rA|apply rN|apply rD);exact HO_227002.out))) (below_size (by repeat (with_reducible first|exact HB.out|apply eA|apply eN|apply eD|refine eS ?_ (Aside0.out ‹_›)))))
             have n4_:=(bB (by (repeat with_reducible first|apply bN|apply bD|apply bA);exact BK191.out) hb)
             have n5_:=(bB (by (repeat with_reducible first|apply bN|apply bD|apply bA);exact BK192.out) hb)
             have n6_:=(bB (by (repeat with_reducible first|apply bN|apply bD|apply bA);exact BK209.out) hb)
             have n7_:=(bB (by (repeat with_reducible first|apply bN|apply bD|apply bA);exact BK215.out) hb)
             have n8_:=(bB (by (repeat with_reducible first|apply bN|apply bD|apply bA);exact BK226.out) hb)
             have n9_:=(bB (by (repeat with_reducible first|apply bN|apply bD|apply bA);exact BK255.out) hb)
             have n10_:=Aside0.mk (below_step (by repeat (with_reducible first|exact HB.out|apply eA|apply eN|apply eD|refine eS ?_ (Aside0.out ‹_›))) hb)
             clear HO_210002
             clear HO_216002
             clear HO_227002
             clear BK191
             clear BK192
             clear BK209
             clear BK215
             clear BK226
             clear BK255
             clear HB
             have HO_210002:=n0_
             have HO_216002:=n1_
             have HO_227002:=n2_
             have HO244:=n3_
             have BK191:=n4_
             have BK192:=n5_
             have BK209:=n6_
             have BK215:=n7_
             have BK226:=n8_
             have BK255:=n9_
             have HB:=n10_
             clear n0_ n1_ n2_ n3_ n4_ n5_ n6_ n7_ n8_ n9_ n10_
             (try clear hb)
             (try clear hb2)
             (try clear hk)
             (try clear hi)
             (try clear ho0)
             refine hK.out _ _ ⟨(bC BK191 0).trans rfl,(bC BK191 1).trans rfl,(bC BK191 2).trans rfl,(bC BK192 0).trans rfl,(bC BK192 1).trans rfl,(bC BK192 2).trans rfl,(bC BK192 3).trans rfl⟩ (fun hHeld=>?_)
             clear hK K
             refine norm_ (a':=?_) ?_ ?_
             rotate_left
             ·show Act.put _ (some 81) _ = _
              simp only [Act.put,List.setIfInBounds_toArray,List.set_cons_zero,List.set_cons_succ,i64_w,i32_w]
              rfl
             refine one_ (i:=3) (N:=some 83) #[true,true,true,true,false,false,false,false,true,false,false] rfl rfl (one_of HT_.out (by kernel_rfl)) (by decide) (fun K hK=>?_)
             refine goes_ Try.func12 (by kernel_rfl) rfl #[.agg #[.int .i64 a1_0,.int .i64 a1_1,.int .i64 a1_2,.int .i64 a1_3]] (by rfl) rfl rfl (by (try simp only [List.map_toArray,List.map_cons,List.map_nil]);first|done|rfl) ?_
             with_reducible refine (laws_toClue.calls a1_0 a1_1 a1_2 a1_3 t245 t246 t247 t248 _ A99.out).mono ?_
             rintro e w113 ⟨rfl,hb⟩
             refine ⟨_,rfl,?_⟩
             have n0_:=Aside0.mk (Kd.R_below (by (repeat with_reducible first|apply rA|apply rN|apply rD);exact HO_210002.out) hb)
             have n1_:=Aside0.mk (Kd.R_below (by (repeat with_reducible first|apply rA|apply rN|apply rD);exact HO_216002.out) hb)
             have n2_:=Aside0.mk (Kd.R_below (by (repeat with_reducible first|apply rA|apply rN|apply rD);exact HO_227002.out) hb)
             have n3_:=Aside0.mk (Kd.R_below (by (repeat with_reducible first|apply rA|apply rN|apply rD);exact HO244.out) hb)
             have n4_:=(bB (by (repeat with_reducible first|apply bN|apply bD|apply bA);exact BK191.out) hb)
             have n5_:=(bB (by (repeat with_reducible first|apply bN|apply bD|apply bA);exact BK192.out) hb)
             have n6_:=(bB (by (repeat with_reducible first|apply bN|apply bD|apply bA);exact BK209.out) hb)
             have n7_:=(bB (by (repeat with_reducible first|apply bN|apply bD|apply bA);exact BK215.out) hb)
             have n8_:=(bB (by (repeat with_reducible first|apply bN|apply bD|apply bA);exact BK226.out) hb)
             have n9_:=(bB (by (repeat with_reducible first|apply bN|apply bD|apply bA);exact BK255.out) hb)
             have n10_:=Aside0.mk (below_step (by repeat (with_reducible first|exact HB.out|apply eA|apply eN|apply eD|refine eS ?_ (Aside0.out ‹_›))) hb)
             clear HO_210002
             clear HO_216002
             clear HO_227002
             clear HO244
             clear BK191
             clear BK192
             clear BK209
             clear BK215
             clear BK226
             clear BK255
             clear HB
             have HO_210002:=n0_
             have HO_216002:=n1_
             have HO_227002:=n2_
             have HO244:=n3_
             have BK191:=n4_
             have BK192:=n5_
             have BK209:=n6_
             have BK215:=n7_
             have BK226:=n8_
             have BK255:=n9_
             have HB:=n10_
             clear n0_ n1_ n2_ n3_ n4_ n5_ n6_ n7_ n8_ n9_ n10_
             (try clear hb)
             (try clear hb2)
             (try clear hk)
             (try clear hi)
             obtain ⟨Ao114,co114,eo114⟩:=Kd.R_slice HO244.out
             (first|subst eo114|(injection eo114 with f1_ f2_ f3_;have f4_:=f1_.symm;have f5_:=f3_.symm;clear f1_ f2_ f3_;subst f4_;subst f5_))
             refine hK.out _ _ ⟨(bC BK191 0).trans rfl,(bC BK191 1).trans rfl,(bC BK191 2).trans rfl,(bC BK192 0).trans rfl,(bC BK192 1).trans rfl,(bC BK192 2).trans rfl,(bC BK192 3).trans rfl⟩ (fun hHeld=>?_)
             clear hK K
             refine norm_ (a':=?_) ?_ ?_
             rotate_left
             ·show Act.put _ (some 83) _ = _
              simp only [Act.put,List.setIfInBounds_toArray,List.set_cons_zero,List.set_cons_succ,i64_w,i32_w]
              rfl
             refine one_ (i:=4) (N:=some 84) #[true,true,true,true,true,false,false,false,true,false,false] rfl rfl (one_of HT_.out (by kernel_rfl)) (by decide) (fun K hK=>?_)
             refine goes_ Try.func13 (by kernel_rfl) rfl #[.agg #[.int .i64 t240,.int .i64 t241,.slice Ao114 t242.length co114],.agg #[.int .i64 t245,.int .i64 t246,.int .i64 t247,.int .i64 t248]] (by rfl) rfl rfl (by (try simp only [List.map_toArray,List.map_cons,List.map_nil]);first|done|rfl) ?_
             with_reducible refine (impl_AddClue.calls kj68 t240 t241 _ _ t242 t245 t246 t247 t248 t249 t250 t251 t254 _ ?side1 ?side2 A100.out).mono ?_
             (case side1=>repeat (first|exact (Kd.R_reads' HO244.out).2.2|(with_reducible refine Kd.C_alloc ?_ _)|(with_reducible refine Kd.C_drewN ?_ _)|(with_reducible refine Kd.C_drew ?_)))
             (case side2=>exact (Kd.R_reads' HO244.out).2.1)
             rintro e w115 ⟨v252,rfl,ho0,hb⟩
             refine ⟨_,rfl,?_⟩
             have n0_:=Aside0.mk (Kd.R_elder' (by (repeat with_reducible first|apply rA|apply rN|apply rD);exact HO_210002.out) (Kd.R_base ho0) hb)
             have n1_:=Aside0.mk (Kd.R_elder' (by (repeat with_reducible first|apply rA|apply rN|apply rD);exact HO_216002.out) (Kd.R_base ho0) hb)
             have n2_:=Aside0.mk (Kd.R_elder' (by (repeat with_reducible first|apply rA|apply rN|apply rD);exact HO_227002.out) (Kd.R_base ho0) hb)
             have n3_:=Aside0.mk (Kd.R_elder' (by (repeat with_reducible first|apply rA|apply rN|apply rD);exact HO244.out) (Kd.R_base ho0) hb)
             have n4_:=Aside0.mk (rL (rW (rW (rW (rW ho0 (Kd.R_lt (by (repeat with_reducible first|apply rA|apply rN|apply rD);exact HO_210002.out))) (Kd.R_lt (by (repeat with_reducible first|apply rA|apply rN|apply rD);exact HO_216002.out))) (Kd.R_lt (by (repeat with_reducible first|apply rA|apply rN|apply rD);exact HO_227002.out))) (Kd.R_lt (by (repeat with_reducible first|apply rA|apply rN|apply rD);exact HO244.out))) (below_size (by repeat (with_reducible first|exact HB.out|apply eA|apply eN|apply eD|refine eS ?_ (Aside0.out ‹_›)))))
             have n5_:=(bB (by (repeat with_reducible first|apply bN|apply bD|apply bA);exact BK191.out) hb)
             have n6_:=(bB (by (repeat with_reducible first|apply bN|apply bD|apply bA);exact BK192.out) hb)
             have n7_:=(bB (by (repeat with_reducible first|apply bN|apply bD|apply bA);exact BK209.out) hb)
             have n8_:=(bB (by (repeat with_reducible first|apply bN|apply bD|apply bA);exact BK215.out) hb)
             have n9_:=(bB (by (repeat with_reducible first|apply bN|apply bD|apply bA);exact BK226.out) hb)
             have n10_:=(bB (by (repeat with_reducible first|apply bN|apply bD|apply bA);exact BK255.out) hb)
             have n11_:=Aside0.mk (below_step (by repeat (with_reducible first|exact HB.out|apply eA|apply eN|apply eD|refine eS ?_ (Aside0.out ‹_›))) hb)
             clear HO_210002
             clear HO_216002
             clear HO_227002
             clear HO244
             clear BK191
             clear BK192
             clear BK209
             clear BK215
             clear BK226
             clear BK255
             clear HB
             have HO_210002:=n0_
             have HO_216002:=n1_
             have HO_227002:=n2_
             have HO244:=n3_
             have HO253:=n4_
             have BK191:=n5_
             have BK192:=n6_
             have BK209:=n7_
             have BK215:=n8_
             have BK226:=n9_
             have BK255:=n10_
             have HB:=n11_
             clear n0_ n1_ n2_ n3_ n4_ n5_ n6_ n7_ n8_ n9_ n10_ n11_
             (try clear hb)
             (try clear hb2)
             (try clear hk)
             (try clear hi)
             (try clear ho0)
             refine hK.out _ _ ⟨(bC BK191 0).trans rfl,(bC BK191 1).trans rfl,(bC BK191 2).trans rfl,(bC BK192 0).trans rfl,(bC BK192 1).trans rfl,(bC BK192 2).trans rfl,(bC BK192 3).trans rfl⟩ (fun hHeld=>?_)
             clear hK K
             refine norm_ (a':=?_) ?_ ?_
             rotate_left
             ·show Act.put _ (some 84) _ = _
              simp only [Act.put,List.setIfInBounds_toArray,List.set_cons_zero,List.set_cons_succ,i64_w,i32_w]
              rfl
             refine pure_ (i:=5) (N:=some 79) (v:=?_) (a':=?_) #[true,true,true,true,true,true,false,false,true,false,false] rfl rfl (any_of HT_.out (by kernel_rfl)) (fun _ _ _ h=>h) (Or.inl ⟨by rfl,?_⟩) ?_ ?_
             rotate_left
             ·intro w'
              go_simp
              with_reducible rfl
             rotate_left
             ·simp only [Act.put,List.setIfInBounds_toArray,List.set_cons_zero,List.set_cons_succ,i64_w,i32_w]
              rfl
             refine pure_ (i:=6) (N:=some 85) (v:=?_) (a':=?_) #[true,true,true,true,true,true,true,false,true,false,false] rfl rfl (any_of HT_.out (by kernel_rfl)) (fun _ _ _ h=>h) (Or.inl ⟨by rfl,?_⟩) ?_ ?_
             rotate_left
             ·intro w'
              go_simp
              with_reducible rfl
             rotate_left
             ·simp only [Act.put,List.setIfInBounds_toArray,List.set_cons_zero,List.set_cons_succ,i64_w,i32_w]
              rfl
             refine pure_ (i:=7) (N:=some 86) (v:=?_) (a':=?_) #[true,true,true,true,true,true,true,true,true,false,false] rfl rfl (any_of HT_.out (by kernel_rfl)) (fun _ _ _ h=>h) (Or.inl ⟨by rfl,?_⟩) ?_ ?_
             rotate_left
             ·intro w'
              go_simp
              with_reducible rfl
             rotate_left
             ·simp only [Act.put,List.setIfInBounds_toArray,List.set_cons_zero,List.set_cons_succ,i64_w,i32_w]
              rfl
             exact norm_ (by simp only [putAll,Act.put,List.setIfInBounds_toArray,List.set_cons_zero,List.set_cons_succ]) (hCont (.slice Ao114 t242.length co114,v252,gb255) _ ⟨hHeld,(by (repeat with_reducible first|apply rA|apply rN|apply rD);exact Kd.R_mono HO244.out (fun _ hk=>⟨hk.2,⟨hk.1.1.1.2,⟨hk.1.1.2,hk.1.2⟩⟩⟩)),(by (repeat with_reducible first|apply rA|apply rN|apply rD);exact Kd.R_mono HO253.out (fun _ hk=>⟨hk.2,⟨hk.1.1.1.2,⟨hk.1.1.2,hk.1.2⟩⟩⟩)),(by (repeat with_reducible first|apply rA|apply rN|apply rD);exact Kd.R_mono HO_210002.out (fun _ hk=>⟨hk.1.2,⟨hk.2,⟨hk.1.1.1,hk.1.1.2⟩⟩⟩)),(by (repeat with_reducible first|apply rA|apply rN|apply rD);exact Kd.R_mono HO_216002.out (fun _ hk=>⟨hk.1.2,⟨hk.2,⟨hk.1.1.1,hk.1.1.2⟩⟩⟩)),(by (repeat with_reducible first|apply rA|apply rN|apply rD);exact Kd.R_mono HO_227002.out (fun _ hk=>⟨hk.1.2,⟨hk.2,⟨hk.1.1.1,hk.1.1.2⟩⟩⟩)),(by (repeat with_reducible first|apply bN|apply bD|apply bA);exact BK191.out),(by (repeat with_reducible first|apply bN|apply bD|apply bA);exact BK192.out),(by (repeat with_reducible first|apply bN|apply bD|apply bA);exact BK209.out),(by (repeat with_reducible first|apply bN|apply bD|apply bA);exact BK215.out),(by (repeat with_reducible first|apply bN|apply bD|apply bA);exact BK226.out),(by (repeat with_reducible first|apply bN|apply bD|apply bA);exact BK255.out),GW255.out,GE255.out,NB191_255.out,NB255_191.out,NB192_255.out,NB255_192.out,NB209_255.out,NB255_209.out,NB215_255.out,NB255_215.out,NB226_255.out,NB255_226.out,(by repeat (with_reducible first|exact HB.out|apply eA|apply eN|apply eD|refine eS ?_ (Aside0.out ‹_›)))⟩)
           rintro ⟨v243,v252,gb255⟩ w116 ⟨hS_,h0_,h1_,h2_,h3_,h4_,h5_,h6_,h7_,h8_,h9_,h10_,h11_,h12_,h13_,h14_,h15_,h16_,h17_,h18_,h19_,h20_,h21_,h22_,h23_⟩
           have n0_ : Aside0 (Kd.R k37 37 w116 w.heap.size (fun k_=>some k_ ≠ (v252 : Value).ownBlock ∧ some k_ ≠ (.slice Ao31 t205.length co31 : Value).ownBlock ∧ some k_ ≠ (.slice Ao41 t235.length co41 : Value).ownBlock ∧ some k_ ≠ (.slice Ao50 t222.length co50 : Value).ownBlock) v243 t242):=⟨h0_⟩
           have n1_ : Aside0 (Kd.R k37 37 w116 w.heap.size (fun k_=>some k_ ≠ (v243 : Value).ownBlock ∧ some k_ ≠ (.slice Ao31 t205.length co31 : Value).ownBlock ∧ some k_ ≠ (.slice Ao41 t235.length co41 : Value).ownBlock ∧ some k_ ≠ (.slice Ao50 t222.length co50 : Value).ownBlock) v252 t251):=⟨h1_⟩
           have n2_ : Aside0 (Kd.R k37 37 w116 w.heap.size (fun k_=>some k_ ≠ (v243 : Value).ownBlock ∧ some k_ ≠ (v252 : Value).ownBlock ∧ some k_ ≠ (.slice Ao41 t235.length co41 : Value).ownBlock ∧ some k_ ≠ (.slice Ao50 t222.length co50 : Value).ownBlock) (.slice Ao31 t205.length co31) t205):=⟨h2_⟩
           have n3_ : Aside0 (Kd.R k37 37 w116 w.heap.size (fun k_=>some k_ ≠ (v243 : Value).ownBlock ∧ some k_ ≠ (v252 : Value).ownBlock ∧ some k_ ≠ (.slice Ao31 t205.length co31 : Value).ownBlock ∧ some k_ ≠ (.slice Ao50 t222.length co50 : Value).ownBlock) (.slice Ao41 t235.length co41) t235):=⟨h3_⟩
           have n4_ : Aside0 (Kd.R k37 37 w116 w.heap.size (fun k_=>some k_ ≠ (v243 : Value).ownBlock ∧ some k_ ≠ (v252 : Value).ownBlock ∧ some k_ ≠ (.slice Ao31 t205.length co31 : Value).ownBlock ∧ some k_ ≠ (.slice Ao41 t235.length co41 : Value).ownBlock) (.slice Ao50 t222.length co50) t238):=⟨h4_⟩
           have n5_ : Aside0 (w116.heap[gb191]? = some (.cells #[.int .i64 a0_0,.int .i64 a0_1,.slice A0_2 l0_2.length c0_2] 24 (0,0))):=⟨h5_⟩
           have n6_ : Aside0 (w116.heap[gb192]? = some (.cells #[.int .i64 a1_0,.int .i64 a1_1,.int .i64 a1_2,.int .i64 a1_3] 34 (0,0))):=⟨h6_⟩
           have n7_ : Aside0 (w116.heap[gb209]? = some (.cells #[.int .i64 t203,.int .i64 t204,.slice Ao31 t205.length co31] 29 (0,0))):=⟨h7_⟩
           have n8_ : Aside0 (w116.heap[gb215]? = some (.cells #[.int .i64 t210,.int .i64 t211,.slice Ao41 t235.length co41] 29 (0,0))):=⟨h8_⟩
           have n9_ : Aside0 (w116.heap[gb226]? = some (.cells #[.int .i64 t220,.int .i64 t221,.slice Ao50 t222.length co50] 29 (0,0))):=⟨h9_⟩
           have n10_ : Aside0 (w116.heap[gb255]? = some (.cells #[.int .i64 0,.int .i64 0,.slice none 0 0] 29 (0,0))):=⟨h10_⟩
           have n11_ : Aside0 (w.heap.size ≤ gb255):=⟨h11_⟩
           have n12_ : Aside0 (w.heap.size ≤ gb255):=⟨h12_⟩
           have n13_ : Aside0 (gb191 ≠ gb255):=⟨h13_⟩
           have n14_ : Aside0 (gb255 ≠ gb191):=⟨h14_⟩
           have n15_ : Aside0 (gb192 ≠ gb255):=⟨h15_⟩
           have n16_ : Aside0 (gb255 ≠ gb192):=⟨h16_⟩
           have n17_ : Aside0 (gb209 ≠ gb255):=⟨h17_⟩
           have n18_ : Aside0 (gb255 ≠ gb209):=⟨h18_⟩
           have n19_ : Aside0 (gb215 ≠ gb255):=⟨h19_⟩
           have n20_ : Aside0 (gb255 ≠ gb215):=⟨h20_⟩
           have n21_ : Aside0 (gb226 ≠ gb255):=⟨h21_⟩
           have n22_ : Aside0 (gb255 ≠ gb226):=⟨h22_⟩
           have n23_ : Aside0 (Below w.heap.size w w116):=⟨h23_⟩
           clear HO_210002
           clear HO_216002
           clear HO_227002
           clear BK191
           clear BK192
           clear BK209
           clear BK215
           clear BK226
           clear HB
           clear h0_ h1_ h2_ h3_ h4_ h5_ h6_ h7_ h8_ h9_ h10_ h11_ h12_ h13_ h14_ h15_ h16_ h17_ h18_ h19_ h20_ h21_ h22_ h23_
           have HO244:=n0_
           have HO253:=n1_
           have HO_210002:=n2_
           have HO_216002:=n3_
           have HO_227002:=n4_
           have BK191:=n5_
           have BK192:=n6_
           have BK209:=n7_
           have BK215:=n8_
           have BK226:=n9_
           have BK255:=n10_
           have GW255:=n11_
           have GE255:=n12_
           have NB191_255:=n13_
           have NB255_191:=n14_
           have NB192_255:=n15_
           have NB255_192:=n16_
           have NB209_255:=n17_
           have NB255_209:=n18_
           have NB215_255:=n19_
           have NB255_215:=n20_
           have NB226_255:=n21_
           have NB255_226:=n22_
           have HB:=n23_
           clear n0_ n1_ n2_ n3_ n4_ n5_ n6_ n7_ n8_ n9_ n10_ n11_ n12_ n13_ n14_ n15_ n16_ n17_ n18_ n19_ n20_ n21_ n22_ n23_
           have hHeld : w116.cell? ⟨gb191,0,none⟩ = some (.int .i64 a0_0) ∧ w116.cell? ⟨gb191,1,none⟩ = some (.int .i64 a0_1) ∧ w116.cell? ⟨gb191,2,none⟩ = some (.slice A0_2 l0_2.length c0_2) ∧ w116.cell? ⟨gb192,0,none⟩ = some (.int .i64 a1_0) ∧ w116.cell? ⟨gb192,1,none⟩ = some (.int .i64 a1_1) ∧ w116.cell? ⟨gb192,2,none⟩ = some (.int .i64 a1_2) ∧ w116.cell? ⟨gb192,3,none⟩ = some (.int .i64 a1_3):=hS_
           obtain ⟨Ao119,co119,eo119⟩:=Kd.R_slice HO253.out
           (first|subst eo119|(injection eo119 with f1_ f2_ f3_;have f4_:=f1_.symm;have f5_:=f3_.symm;clear f1_ f2_ f3_;subst f4_;subst f5_))
           refine norm_ (a':=?_) ?_ ?_
           rotate_left
           ·simp only [putAll,Act.put,List.setIfInBounds_toArray,List.set_cons_zero,List.set_cons_succ]
            rfl
           refine one_ (i:=9) (N:=none) #[true,true,true,true,true,true,true,true,true,true,false] rfl rfl (one_of HT_.out (by kernel_rfl)) (by decide) (fun K hK=>?_)
           have hs117 : w116.cell? ⟨gb255,0,none⟩ = some (.int .i64 0):=(bC BK255 0).trans rfl
           have hfs117:=blk_frozen BK255.out 0
           have hns117_0:=NB191_255.out
           have hns117_1:=NB192_255.out
           have hns117_2:=NB209_255.out
           have hns117_3:=NB215_255.out
           have hns117_4:=NB226_255.out
           have hms117_0:=NB255_191.out
           have hms117_1:=NB255_192.out
           have hms117_2:=NB255_209.out
           have hms117_3:=NB255_215.out
           have hms117_4:=NB255_226.out
           have hs118 : w116.cell? ⟨gb255,1,none⟩ = some (.int .i64 0):=(bC BK255 1).trans rfl
           have hfs118:=blk_frozen BK255.out 1
           have hns118_0:=NB191_255.out
           have hns118_1:=NB192_255.out
           have hns118_2:=NB209_255.out
           have hns118_3:=NB215_255.out
           have hns118_4:=NB226_255.out
           have hms118_0:=NB255_191.out
           have hms118_1:=NB255_192.out
           have hms118_2:=NB255_209.out
           have hms118_3:=NB255_215.out
           have hms118_4:=NB255_226.out
           have hs120 : w116.cell? ⟨gb255,2,none⟩ = some (.slice none 0 0):=(bC BK255 2).trans rfl
           have hfs120:=blk_frozen BK255.out 2
           have hns120_0:=NB191_255.out
           have hns120_1:=NB192_255.out
           have hns120_2:=NB209_255.out
           have hns120_3:=NB215_255.out
           have hns120_4:=NB226_255.out
           have hms120_0:=NB255_191.out
           have hms120_1:=NB255_192.out
           have hms120_2:=NB255_209.out
           have hms120_3:=NB255_215.out
           have hms120_4:=NB255_226.out
           refine skip_ (w1:=?_) (by rfl) rfl ?_ ?_
           rotate_left
           ·go_simp
            rfl
           refine hK.out _ _ ⟨((cell_far (p:=⟨gb255,_,none⟩) NB191_255.out _).trans (((cell_far (p:=⟨gb255,_,none⟩) NB191_255.out _).trans (((cell_far (p:=⟨gb255,_,none⟩) NB191_255.out _).trans (hHeld.1)))))),((cell_far (p:=⟨gb255,_,none⟩) NB191_255.out _).trans (((cell_far (p:=⟨gb255,_,none⟩) NB191_255.out _).trans (((cell_far (p:=⟨gb255,_,none⟩) NB191_255.out _).trans (hHeld.2.1)))))),((cell_far (p:=⟨gb255,_,none⟩) NB191_255.out _).trans (((cell_far (p:=⟨gb255,_,none⟩) NB191_255.out _).trans (((cell_far (p:=⟨gb255,_,none⟩) NB191_255.out _).trans (hHeld.2.2.1)))))),((cell_far (p:=⟨gb255,_,none⟩) NB192_255.out _).trans (((cell_far (p:=⟨gb255,_,none⟩) NB192_255.out _).trans (((cell_far (p:=⟨gb255,_,none⟩) NB192_255.out _).trans (hHeld.2.2.2.1)))))),((cell_far (p:=⟨gb255,_,none⟩) NB192_255.out _).trans (((cell_far (p:=⟨gb255,_,none⟩) NB192_255.out _).trans (((cell_far (p:=⟨gb255,_,none⟩) NB192_255.out _).trans (hHeld.2.2.2.2.1)))))),((cell_far (p:=⟨gb255,_,none⟩) NB192_255.out _).trans (((cell_far (p:=⟨gb255,_,none⟩) NB192_255.out _).trans (((cell_far (p:=⟨gb255,_,none⟩) NB192_255.out _).trans (hHeld.2.2.2.2.2.1)))))),((cell_far (p:=⟨gb255,_,none⟩) NB192_255.out _).trans (((cell_far (p:=⟨gb255,_,none⟩) NB192_255.out _).trans (((cell_far (p:=⟨gb255,_,none⟩) NB192_255.out _).trans (hHeld.2.2.2.2.2.2))))))⟩ (fun hHeld=>?_)
           clear hK K
           refine pure_ (i:=10) (N:=some 15) (v:=?_) (a':=?_) #[true,true,true,true,true,true,true,true,true,true,true] rfl rfl (any_of HT_.out (by kernel_rfl)) (fun _ _ _ h=>h) (Or.inl ⟨by rfl,?_⟩) ?_ ?_
           rotate_left
           ·intro w'
            go_simp
            with_reducible rfl
           rotate_left
           ·simp only [Act.put,List.setIfInBounds_toArray,List.set_cons_zero,List.set_cons_succ,i64_w,i32_w]
            rfl
           refine done_ (done_of HT_.out (by kernel_rfl)) ?_
           go_upto_region 25 with (fail)
           go_cut [95] (fun v95 wc=>∃ (kq : Nat) (x95_100 : Bool),v95 = .bool x95_100 ∧ Aside0 (laws_FnExactAddClue.j2 kq t237 x95_100 t220 t221 t238 = some r) ∧ Aside0 (kq ≤ kj68) ∧ Aside0 (Kd.R k37 37 wc w.heap.size (fun k_=>some k_ ≠ ((.slice Ao41 t235.length co41) : Value).ownBlock ∧ some k_ ≠ ((.slice Ao50 t222.length co50) : Value).ownBlock ∧ some k_ ≠ ((.slice Ao119 t251.length co119) : Value).ownBlock) (.slice Ao31 t205.length co31) t205) ∧ Aside0 (Kd.R k37 37 wc w.heap.size (fun k_=>some k_ ≠ ((.slice Ao31 t205.length co31) : Value).ownBlock ∧ some k_ ≠ ((.slice Ao50 t222.length co50) : Value).ownBlock ∧ some k_ ≠ ((.slice Ao119 t251.length co119) : Value).ownBlock) (.slice Ao41 t235.length co41) t235) ∧ Aside0 (Kd.R k37 37 wc w.heap.size (fun k_=>some k_ ≠ ((.slice Ao31 t205.length co31) : Value).ownBlock ∧ some k_ ≠ ((.slice Ao41 t235.length co41) : Value).ownBlock ∧ some k_ ≠ ((.slice Ao119 t251.length co119) : Value).ownBlock) (.slice Ao50 t222.length co50) t238) ∧ Aside0 (Kd.R k37 37 wc w.heap.size (fun k_=>some k_ ≠ ((.slice Ao31 t205.length co31) : Value).ownBlock ∧ some k_ ≠ ((.slice Ao41 t235.length co41) : Value).ownBlock ∧ some k_ ≠ ((.slice Ao50 t222.length co50) : Value).ownBlock) (.slice Ao119 t251.length co119) t251) ∧ Aside0 (wc.heap[gb191]? = some (.cells #[.int .i64 a0_0,.int .i64 a0_1,(.slice A0_2 l0_2.length c0_2)] 24 (0,0))) ∧ Aside0 (wc.heap[gb192]? = some (.cells #[.int .i64 a1_0,.int .i64 a1_1,.int .i64 a1_2,.int .i64 a1_3] 34 (0,0))) ∧ Aside0 (wc.heap[gb209]? = some (.cells #[.int .i64 t203,.int .i64 t204,(.slice Ao31 t205.length co31)] 29 (0,0))) ∧ Aside0 (wc.heap[gb215]? = some (.cells #[.int .i64 t210,.int .i64 t211,(.slice Ao41 t235.length co41)] 29 (0,0))) ∧ Aside0 (wc.heap[gb226]? = some (.cells #[.int .i64 t220,.int .i64 t221,(.slice Ao50 t222.length co50)] 29 (0,0))) ∧ Aside0 (wc.heap[gb255]? = some (.cells #[.int .i64 t249,.int .i64 t250,(.slice Ao119 t251.length co119)] 29 (0,0))) ∧ Aside0 (Below w.heap.size w wc))
           case first =>
            have H:=HC101.out
            clear HC101
            replace H:=Option.bind_eq_some_iff.mp H
            obtain ⟨t256,A1210,H⟩:=H
            replace H : (if t256 = true then (laws_FnExactAddClue.j2 kj68 t237 (t254 != t208) t220 t221 t238) else (laws_FnExactAddClue.j2 kj68 t237 true t220 t221 t238)) = some r:=H
            have A121:=Aside0.mk A1210
            clear A1210
            by_cases c122 : t256 = true
            ·subst c122
             have H1 : (laws_FnExactAddClue.j2 kj68 t237 (t254 != t208) t220 t221 t238) = some r:=by rw [if_pos rfl] at H;exact H
             clear H
             have H:=H1
             clear H1
             have H':=Aside0.mk H
             clear H
             have hnb123:=NB255_191.out
             have hnc123:=NB191_255.out
             have hnb124:=NB255_192.out
             have hnc124:=NB192_255.out
             have hnb125:=NB255_209.out
             have hnc125:=NB209_255.out
             have hnb126:=NB255_215.out
             have hnc126:=NB215_255.out
             have hnb127:=NB255_226.out
             have hnc127:=NB226_255.out
             have hcz128_0 : w116.cell? ⟨gb255,0,none⟩ = some (.int .i64 0):=(bC BK255 0).trans rfl
             have hcz128_1 : w116.cell? ⟨gb255,1,none⟩ = some (.int .i64 0):=(bC BK255 1).trans rfl
             have hcz128_2 : w116.cell? ⟨gb255,2,none⟩ = some (.slice none 0 0):=(bC BK255 2).trans rfl
             have hfz128_0:=blk_frozen BK255.out 0
             have hfz128_1:=blk_frozen BK255.out 1
             have hfz128_2:=blk_frozen BK255.out 2
             have hnb129:=NB209_191.out
             have hnc129:=NB191_209.out
             have hnb130:=NB209_192.out
             have hnc130:=NB192_209.out
             have hnb131:=NB209_215.out
             have hnc131:=NB215_209.out
             have hnb132:=NB209_226.out
             have hnc132:=NB226_209.out
             have hcz133_0 : w116.cell? ⟨gb209,0,none⟩ = some (.int .i64 t203):=(bC BK209 0).trans rfl
             have hcz133_1 : w116.cell? ⟨gb209,1,none⟩ = some (.int .i64 t204):=(bC BK209 1).trans rfl
             have hcz133_2 : w116.cell? ⟨gb209,2,none⟩ = some (.slice Ao31 t205.length co31):=(bC BK209 2).trans rfl
             have hfz133_0:=blk_frozen BK209.out 0
             have hfz133_1:=blk_frozen BK209.out 1
             have hfz133_2:=blk_frozen BK209.out 2
             go_wp2_with (first|((with_reducible refine gate_callee (f:=10) rfl ?_);refine goesL_ (some 89) rfl rfl Try.func10 (by kernel_rfl) rfl #[.agg #[.int .i64 t249,.int .i64 t250,.slice Ao119 t251.length co119],.agg #[.int .i64 t203,.int .i64 t204,.slice Ao31 t205.length co31]] rfl (by (try simp only [List.map_toArray,List.map_cons,List.map_nil]);first|done|rfl) ?_;(with_reducible refine (laws_eqPuzzle.calls kj68 t249 t250 _ _ t251 t203 t204 _ _ t205 true _ ?side1 ?side2 ?side3 ?side4 A121.out).mono ?_);(case side1=>refine (Kd.R_reads' (e:=37) (base:=w.heap.size) (ok:=fun k_=>(some k_ ≠ (v243 : Value).ownBlock ∧ (some k_ ≠ (.slice Ao31 t205.length co31 : Value).ownBlock ∧ (some k_ ≠ (.slice Ao41 t235.length co41 : Value).ownBlock ∧ some k_ ≠ (.slice Ao50 t222.length co50 : Value).ownBlock)))) (n:=t251.length) (c:=co119) ?_).2.2;exact (by (repeat with_reducible first|apply rA|apply rN|apply rD);exact (Kd.R_mono (Kd.R_far (p:=⟨gb255,2,none⟩) (Kd.R_far (p:=⟨gb255,1,none⟩) (Kd.R_far (p:=⟨gb255,0,none⟩) (Kd.R_types HO253.out BK255.out (by decide)) (fun _ hk=>hk.2) (.int .i64 t249)) (fun _ hk=>hk.2) (.int .i64 t250)) (fun _ hk=>hk.2) (.slice Ao119 t251.length co119)) (fun _ h_=>h_.1))));(case side2=>exact (Kd.R_reads' HO253.out).2.1);(case side3=>refine (Kd.R_reads' (e:=37) (base:=w.heap.size) (ok:=fun k_=>(some k_ ≠ (v243 : Value).ownBlock ∧ (some k_ ≠ (.slice Ao119 t251.length co119 : Value).ownBlock ∧ (some k_ ≠ (.slice Ao41 t235.length co41 : Value).ownBlock ∧ some k_ ≠ (.slice Ao50 t222.length co50 : Value).ownBlock)))) (n:=t205.length) (c:=co31) ?_).2.2;exact (by (repeat with_reducible first|apply rA|apply rN|apply rD);exact (Kd.R_mono (Kd.R_far (p:=⟨gb255,2,none⟩) (Kd.R_far (p:=⟨gb255,1,none⟩) (Kd.R_far (p:=⟨gb255,0,none⟩) (Kd.R_types HO_210002.out BK255.out (by decide)) (fun _ hk=>hk.2) (.int .i64 t249)) (fun _ hk=>hk.2) (.int .i64 t250)) (fun _ hk=>hk.2) (.slice Ao119 t251.length co119)) (fun _ h_=>h_.1))));(case side4=>exact (Kd.R_reads' HO_210002.out).2.1);rintro e w134 ⟨rfl,hb⟩;refine ⟨_,rfl,?_⟩;have n0_:=Aside0.mk (Kd.R_below (by (repeat with_reducible first|apply rA|apply rN|apply rD);exact (Kd.R_mono (Kd.R_far (p:=⟨gb255,2,none⟩) (Kd.R_far (p:=⟨gb255,1,none⟩) (Kd.R_far (p:=⟨gb255,0,none⟩) (Kd.R_types HO_210002.out BK255.out (by decide)) (fun _ hk=>hk.2) (.int .i64 t249)) (fun _ hk=>hk.2) (.int .i64 t250)) (fun _ hk=>hk.2) (.slice Ao119 t251.length co119)) (fun _ h_=>h_.1))) hb);have n1_:=Aside0.mk (Kd.R_below (by (repeat with_reducible first|apply rA|apply rN|apply rD);exact (Kd.R_mono (Kd.R_far (p:=⟨gb255,2,none⟩) (Kd.R_far (p:=⟨gb255,1,none⟩) (Kd.R_far (p:=⟨gb255,0,none⟩) (Kd.R_types HO_216002.out BK255.out (by decide)) (fun _ hk=>hk.2) (.int .i64 t249)) (fun _ hk=>hk.2) (.int .i64 t250)) (fun _ hk=>hk.2) (.slice Ao119 t251.length co119)) (fun _ h_=>h_.1))) hb);have n2_:=Aside0.mk (Kd.R_below (by (repeat with_reducible first|apply rA|apply rN|apply rD);exact (Kd.R_mono (Kd.R_far (p:=⟨gb255,2,none⟩) (Kd.R_far (p:=⟨gb255,1,none⟩) (Kd.R_far (p:=⟨gb255,0,none⟩) (Kd.R_types HO_227002.out BK255.out (by decide)) (fun _ hk=>hk.2) (.int .i64 t249)) (fun _ hk=>hk.2) (.int .i64 t250)) (fun _ hk=>hk.2) (.slice Ao119 t251.length co119)) (fun _ h_=>h_.1))) hb);have n3_:=Aside0.mk (Kd.R_below (by (repeat with_reducible first|apply rA|apply rN|apply rD);exact (Kd.R_mono (Kd.R_far (p:=⟨gb255,2,none⟩) (Kd.R_far (p:=⟨gb255,1,none⟩) (Kd.R_far (p:=⟨gb255,0,none⟩) (Kd.R_types HO244.out BK255.out (by decide)) (fun _ hk=>hk.2) (.int .i64 t249)) (fun _ hk=>hk.2) (.int .i64 t250)) (fun _ hk=>hk.2) (.slice Ao119 t251.length co119)) (fun _ h_=>h_.1))) hb);have n4_:=Aside0.mk (Kd.R_below (by (repeat with_reducible first|apply rA|apply rN|apply rD);exact (Kd.R_mono (Kd.R_far (p:=⟨gb255,2,none⟩) (Kd.R_far (p:=⟨gb255,1,none⟩) (Kd.R_far (p:=⟨gb255,0,none⟩) (Kd.R_types HO253.out BK255.out (by decide)) (fun _ hk=>hk.2) (.int .i64 t249)) (fun _ hk=>hk.2) (.int .i64 t250)) (fun _ hk=>hk.2) (.slice Ao119 t251.length co119)) (fun _ h_=>h_.1))) hb);have n5_:=(bB (g:=gb191) (o:=.cells #[.int .i64 a0_0,.int .i64 a0_1,.slice A0_2 l0_2.length c0_2] 24 (0,0)) (by (repeat with_reducible first|apply bN|apply bD|apply bA);refine blk_far ?_ NB191_255.out _;(repeat with_reducible first|apply bN|apply bD|apply bA);refine blk_far ?_ NB191_255.out _;(repeat with_reducible first|apply bN|apply bD|apply bA);refine blk_far ?_ NB191_255.out _;(repeat with_reducible first|apply bN|apply bD|apply bA);exact BK191.out) hb);have n6_:=(bB (g:=gb192) (o:=.cells #[.int .i64 a1_0,.int .i64 a1_1,.int .i64 a1_2,.int .i64 a1_3] 34 (0,0)) (by (repeat with_reducible first|apply bN|apply bD|apply bA);refine blk_far ?_ NB192_255.out _;(repeat with_reducible first|apply bN|apply bD|apply bA);refine blk_far ?_ NB192_255.out _;(repeat with_reducible first|apply bN|apply bD|apply bA);refine blk_far ?_ NB192_255.out _;(repeat with_reducible first|apply bN|apply bD|apply bA);exact BK192.out) hb);have n7_:=(bB (g:=gb209) (o:=.cells #[.int .i64 t203,.int .i64 t204,.slice Ao31 t205.length co31] 29 (0,0)) (by (repeat with_reducible first|apply bN|apply bD|apply bA);refine blk_far ?_ NB209_255.out _;(repeat with_reducible first|apply bN|apply bD|apply bA);refine blk_far ?_ NB209_255.out _;(repeat with_reducible first|apply bN|apply bD|apply bA);refine blk_far ?_ NB209_255.out _;(repeat with_reducible first|apply bN|apply bD|apply bA);exact BK209.out) hb);have n8_:=(bB (g:=gb215) (o:=.cells #[.int .i64 t210,.int .i64 t211,.slice Ao41 t235.length co41] 29 (0,0)) (by (repeat with_reducible first|apply bN|apply bD|apply bA);refine blk_far ?_ NB215_255.out _;(repeat with_reducible first|apply bN|apply bD|apply bA);refine blk_far ?_ NB215_255.out _;(repeat with_reducible first|apply bN|apply bD|apply bA);refine blk_far ?_ NB215_255.out _;(repeat with_reducible first|apply bN|apply bD|apply bA);exact BK215.out) hb);have n9_:=(bB (g:=gb226) (o:=.cells #[.int .i64 t220,.int .i64 t221,.slice Ao50 t222.length co50] 29 (0,0)) (by (repeat with_reducible first|apply bN|apply bD|apply bA);refine blk_far ?_ NB226_255.out _;(repeat with_reducible first|apply bN|apply bD|apply bA);refine blk_far ?_ NB226_255.out _;(repeat with_reducible first|apply bN|apply bD|apply bA);refine blk_far ?_ NB226_255.out _;(repeat with_reducible first|apply bN|apply bD|apply bA);exact BK226.out) hb);have n10_:=(bB (g:=gb255) (o:=.cells #[.int .i64 t249,.int .i64 t250,.slice Ao119 t251.length co119] 29 (0,0)) (by (repeat with_reducible first|apply bN|apply bD|apply bA);refine blk_put (cs:=#[.int .i64 t249,.int .i64 t250,.slice none 0 0]) ?_ 2 _ rfl;(repeat with_reducible first|apply bN|apply bD|apply bA);refine blk_put (cs:=#[.int .i64 t249,.int .i64 0,.slice none 0 0]) ?_ 1 _ rfl;(repeat with_reducible first|apply bN|apply bD|apply bA);refine blk_put (cs:=#[.int .i64 0,.int .i64 0,.slice none 0 0]) ?_ 0 _ rfl;(repeat with_reducible first|apply bN|apply bD|apply bA);exact BK255.out) hb);have n11_:=Aside0.mk (below_step (by repeat (with_reducible first|exact HB.out|apply eA|apply eN|apply eD|refine eS ?_ (Aside0.out ‹_›))) hb);clear HO_210002;clear HO_216002;clear HO_227002;clear HO244;clear HO253;clear BK191;clear BK192;clear BK209;clear BK215;clear BK226;clear BK255;clear HB;have HO_210002:=n0_;have HO_216002:=n1_;have HO_227002:=n2_;have HO244:=n3_;have HO253:=n4_;have BK191:=n5_;have BK192:=n6_;have BK209:=n7_;have BK215:=n8_;have BK226:=n9_;have BK255:=n10_;have HB:=n11_;clear n0_ n1_ n2_ n3_ n4_ n5_ n6_ n7_ n8_ n9_ n10_ n11_;(try clear hb);(try clear hb2);(try clear hk);(try clear hi)))
             go_meet
             case rel=>exact ⟨_,((t254 != t208)),(by first|rfl|(simp;done)|(simp [*];done)),H',⟨by have:=HJ15.out;have:=HJ68.out;first|omega|exact Nat.le_refl _⟩,⟨by (try simp only [hl216002_68]);(repeat with_reducible first|apply rA|apply rN|apply rD);exact Kd.R_mono HO_210002.out (fun _ hk=>⟨hk.2.2.1,⟨hk.2.2.2,hk.2.1⟩⟩)⟩,⟨by (try simp only [hl216002_68]);(repeat with_reducible first|apply rA|apply rN|apply rD);exact Kd.R_mono HO_216002.out (fun _ hk=>⟨hk.2.2.1,⟨hk.2.2.2,hk.2.1⟩⟩)⟩,⟨by (try simp only [hl216002_68]);(repeat with_reducible first|apply rA|apply rN|apply rD);exact Kd.R_mono HO_227002.out (fun _ hk=>⟨hk.2.2.1,⟨hk.2.2.2,hk.2.1⟩⟩)⟩,⟨by (try simp only [hl216002_68]);(repeat with_reducible first|apply rA|apply rN|apply rD);exact Kd.R_mono HO253.out (fun _ hk=>⟨hk.2.1,⟨hk.2.2.1,hk.2.2.2⟩⟩)⟩,⟨by (try simp only [hl216002_68]);(repeat with_reducible first|apply bN|apply bD|apply bA);exact BK191.out⟩,⟨by (try simp only [hl216002_68]);(repeat with_reducible first|apply bN|apply bD|apply bA);exact BK192.out⟩,⟨by (try simp only [hl216002_68]);(repeat with_reducible first|apply bN|apply bD|apply bA);exact BK209.out⟩,⟨by (try simp only [hl216002_68]);(repeat with_reducible first|apply bN|apply bD|apply bA);exact BK215.out⟩,⟨by (try simp only [hl216002_68]);(repeat with_reducible first|apply bN|apply bD|apply bA);exact BK226.out⟩,⟨by (try simp only [hl216002_68]);(repeat with_reducible first|apply bN|apply bD|apply bA);exact BK255.out⟩,⟨by repeat (with_reducible first|exact HB.out|apply eA|apply eN|apply eD|refine eS ?_ (Aside0.out ‹_›))⟩⟩
            ·replace c122:=Bool.eq_false_iff.mpr c122
             subst c122
             have H1 : (laws_FnExactAddClue.j2 kj68 t237 true t220 t221 t238) = some r:=by rw [if_neg (show ¬ (false = true) by decide)] at H;exact H
             clear H
             have H:=H1
             clear H1
             exact absurd (H.trans (congrArg some rT)) (laws_FnExactAddClue.j2_no _ _ _ _ _)
           case rest =>
            clear HC101
            try clear c1
            try clear p2
            try clear c8
            try clear c10
            try clear c12
            try clear c13
            try clear c122
            try clear c123
            try clear c124
            try clear c125
            try clear c126
            try clear c127
            try clear c129
            try clear c130
            try clear c131
            try clear c132
            try clear hcz128_0
            try clear hcz128_1
            try clear hcz128_2
            try clear hcz133_0
            try clear hcz133_1
            try clear hcz133_2
            try clear hfz128_0
            try clear hfz128_1
            try clear hfz128_2
            try clear hfz133_0
            try clear hfz133_1
            try clear hfz133_2
            obtain ⟨kq,x95_100,rfl,HA,HJ100,HO_210002,HO_216002,HO_227002,HO_256002,BK191,BK192,BK209,BK215,BK226,BK255,HB⟩:=hcut
            have hl227002_100:=(Kd.R_reads' HO_227002.out).1
            rw [hl227002_100] at HO_227002
            (try simp only [hl227002_100])
            (try simp only [hl227002_100] at BK191)
            (try simp only [hl227002_100] at BK192)
            (try simp only [hl227002_100] at BK209)
            (try simp only [hl227002_100] at BK215)
            (try simp only [hl227002_100] at BK226)
            (try simp only [hl227002_100] at BK255)
            (try simp only [hl227002_100] at HO_210002)
            (try simp only [hl227002_100] at HO_216002)
            (try simp only [hl227002_100] at HO_256002)
            cases kq with
           |zero=>exact absurd HA.out (by simp [laws_FnExactAddClue.j2])
           |succ kj100 =>
             have H:=HA.out
             clear HA
             simp only [laws_FnExactAddClue.j2] at H
             by_cases c135 : x95_100 = true
             ·subst c135
              have H1 : (some false) = some r:=by rw [if_pos rfl] at H;exact H
              clear H
              have H:=H1
              clear H1
              exact absurd ((Option.some.inj H).trans rT) (by decide)
             ·replace c135:=Bool.eq_false_iff.mpr c135
              subst c135
              have H1 : ((laws_heldPuzzle.f kj100 t220 t221 t238 1).bind fun t257=>(if t257 < 0 then (some false) else (if t257 = t237 then (some true) else (some false)))) = some r:=by rw [if_neg (show ¬ (false = true) by decide)] at H;exact H
              clear H
              have H:=H1
              clear H1
              replace H:=Option.bind_eq_some_iff.mp H
              obtain ⟨t257,A1360,H⟩:=H
              replace H : (if t257 < 0 then (some false) else (if t257 = t237 then (some true) else (some false))) = some r:=H
              have A136:=Aside0.mk A1360
              clear A1360
              by_cases c137 : t257 < 0
              ·rw [if_pos c137] at H
               have c137b0 : decide (t257 < 0) = true:=decide_eq_true c137
               clear c137
               exact absurd ((Option.some.inj H).trans rT) (by decide)
              ·rw [if_neg c137] at H
               have c137b0 : decide (t257 < 0) = false:=decide_eq_false c137
               clear c137
               by_cases c138 : t257 = t237
               ·rw [if_pos c138] at H
                have c138b0 : (t257 == t237) = true:=beq_iff_eq.mpr c138
                have c138b1 : (t257 != t237) = false:=bne_eq_false_iff_eq.mpr c138
                clear c138
                obtain rfl:=Option.some.inj H
                have hnb139:=NB226_191.out
                have hnc139:=NB191_226.out
                have hnb140:=NB226_192.out
                have hnc140:=NB192_226.out
                have hnb141:=NB226_209.out
                have hnc141:=NB209_226.out
                have hnb142:=NB226_215.out
                have hnc142:=NB215_226.out
                have hnb143:=NB226_255.out
                have hnc143:=NB255_226.out
                have hcz144_0 : wc.cell? ⟨gb226,0,none⟩ = some (.int .i64 t220):=(bC BK226 0).trans rfl
                have hcz144_1 : wc.cell? ⟨gb226,1,none⟩ = some (.int .i64 t221):=(bC BK226 1).trans rfl
                have hcz144_2 : wc.cell? ⟨gb226,2,none⟩ = some (.slice Ao50 t238.length co50):=(bC BK226 2).trans rfl
                have hfz144_0:=blk_frozen BK226.out 0
                have hfz144_1:=blk_frozen BK226.out 1
                have hfz144_2:=blk_frozen BK226.out 2
                go_wp2_with (first|((with_reducible refine gate_callee (f:=15) rfl ?_);refine goesL_ (some 98) rfl rfl Try.func15 (by kernel_rfl) rfl #[.agg #[.int .i64 t220,.int .i64 t221,.slice Ao50 t238.length co50],.int .i64 1] rfl (by (try simp only [List.map_toArray,List.map_cons,List.map_nil]);first|done|rfl) ?_;(with_reducible refine (laws_heldPuzzle.calls kj100 t220 t221 _ _ t238 1 t257 _ ?side1 ?side2 A136.out).mono ?_);(case side1=>repeat (first|exact (Kd.R_reads' HO_227002.out).2.2|(with_reducible refine Kd.C_alloc ?_ _)|(with_reducible refine Kd.C_drewN ?_ _)|(with_reducible refine Kd.C_drew ?_)));(case side2=>exact (Kd.R_reads' HO_227002.out).2.1);rintro e w145 ⟨rfl,hb⟩;refine ⟨_,rfl,?_⟩;have n0_:=Aside0.mk (Kd.R_below (by (repeat with_reducible first|apply rA|apply rN|apply rD);exact HO_210002.out) hb);have n1_:=Aside0.mk (Kd.R_below (by (repeat with_reducible first|apply rA|apply rN|apply rD);exact HO_216002.out) hb);have n2_:=Aside0.mk (Kd.R_below (by (repeat with_reducible first|apply rA|apply rN|apply rD);exact HO_227002.out) hb);have n3_:=Aside0.mk (Kd.R_below (by (repeat with_reducible first|apply rA|apply rN|apply rD);exact HO_256002.out) hb);have n4_:=(bB (by (repeat with_reducible first|apply bN|apply bD|apply bA);exact BK191.out) hb);have n5_:=(bB (by (repeat with_reducible first|apply bN|apply bD|apply bA);exact BK192.out) hb);have n6_:=(bB (by (repeat with_reducible first|apply bN|apply bD|apply bA);exact BK209.out) hb);have n7_:=(bB (by (repeat with_reducible first|apply bN|apply bD|apply bA);exact BK215.out) hb);have n8_:=(bB (by (repeat with_reducible first|apply bN|apply bD|apply bA);exact BK226.out) hb);have n9_:=(bB (by (repeat with_reducible first|apply bN|apply bD|apply bA);exact BK255.out) hb);have n10_:=Aside0.mk (below_step (by repeat (with_reducible first|exact HB.out|apply eA|apply eN|apply eD|refine eS ?_ (Aside0.out ‹_›))) hb);clear HO_210002;clear HO_216002;clear HO_227002;clear HO_256002;clear BK191;clear BK192;clear BK209;clear BK215;clear BK226;clear BK255;clear HB;have HO_210002:=n0_;have HO_216002:=n1_;have HO_227002:=n2_;have HO_256002:=n3_;have BK191:=n4_;have BK192:=n5_;have BK209:=n6_;have BK215:=n7_;have BK226:=n8_;have BK255:=n9_;have HB:=n10_;clear n0_ n1_ n2_ n3_ n4_ n5_ n6_ n7_ n8_ n9_ n10_;(try clear hb);(try clear hb2);(try clear hk);(try clear hi)))
                go_ret
                exact ⟨by first|rfl|(simp [errW_none,errW_some] <;> rfl)|(simp [*,errW_none,errW_some] <;> rfl),by repeat (with_reducible first|exact HB.out|apply eA|apply eN|apply eD|refine eS ?_ (Aside0.out ‹_›))⟩
               ·rw [if_neg c138] at H
                have c138b0 : (t257 == t237) = false:=beq_eq_false_iff_ne.mpr c138
                have c138b1 : (t257 != t237) = true:=bne_iff_ne.mpr c138
                exact absurd ((Option.some.inj H).trans rT) (by decide)
          ·rw [if_neg c97] at H
           have c97b0 : (t239 == t237) = false:=beq_eq_false_iff_ne.mpr c97
           have c97b1 : (t239 != t237) = true:=bne_iff_ne.mpr c97
           exact absurd ((Option.some.inj H).trans rT) (by decide)
     ·replace c67:=Bool.eq_false_iff.mpr c67
      subst c67
      have H1 : (some false) = some r:=by rw [if_neg (show ¬ (false = true) by decide)] at H;exact H
      clear H
      have H:=H1
      clear H1
      exact absurd ((Option.some.inj H).trans rT) (by decide)

end Go.Proofs.Ytffjdaabapokiaa.PFnExactAddClue
