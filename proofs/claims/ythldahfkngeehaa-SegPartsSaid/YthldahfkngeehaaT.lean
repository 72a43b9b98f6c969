/- Part of the proof of a law of this seat: the texts S25 S26 S27, in this order. -/
import Derived.Test.YthldahfkngeehaaR
namespace Go.Proofs
open Go Go.Av Go.Sort
set_option linter.unusedSimpArgs false
set_option linter.unusedVariables false
set_option maxRecDepth 30000
set_option maxHeartbeats 2000000

def totC : Cell → List Row → Option Cell
  | acc, [] => some acc
  | acc, x :: l => (mergeC acc x.c).bind fun c => totC c l

theorem cell_bel (n : Nat) (c : Cell) : OBel n (.cells c.av) := by
  intro x hx
  simp only [Cell.av, List.mem_cons, List.not_mem_nil, or_false] at hx
  rcases hx with rfl | rfl | rfl | rfl <;> exact .v _

theorem total_spec (o : Option (List Row)) (hl : (o.getD []).length ≤ 1000000) : APure Try.prog 22 [segA o] (resC (totC zeroC (o.getD []))) := by
  intro s
  have hR := rows_spec o
  generalize o.getD [] = l at hl hR ⊢
  generalize hr : totC zeroC l = r
  refine ACalls_body (C := ⟨[]⟩) (c := Try.f22.body.getD .skip) (rs := [.cell 2 44, .tmp 3]) Try.func22 (by kernel_rfl) (by kernel_rfl) (by kernel_rfl) (Nat.le_of_ble_eq_true rfl) (by kernel_rfl) fun hwf hbel => ?_; simp only [Try.f22, untok_segA, rowsA_len, factsA_len, rowsA_nil, factsA_nil, List.length_append, Int.le_refl, room, i64_0, nx, keysA_len, keysA_nil, segsA_len, mapsA_len, EVL, ite_toInt, ER, EW, Wv_nil, i6, i64, str, boo, EA, EL, ↓EP, binK, pickK, loadK, storeK, EO, Key.av, Cell.av, Fact.av, Row.av, ↓EC, ↓EK, EE, EB, ↓aBuiltin, ↓aAppend, rowsOf, ↓aLen, ↓aSlice, bnd, ↓aIndexAddr, ↓aIndex, ↓aBuild, ↓aBuildSlice, fillL, ↓aMakeSlice, two, ↓opt_some, ↓opt_none, ldAV, aggT, szOf, zeroAV, tys, unders, chunks, spliceL, Cfg.ro, detOp, gval, resAll, resOne, packAV, ↓reduceIte, seval, reduceCtorEq, Int.cast_ofNat_Int, exists_const, implies_true, decide_true, decide_false, if_true, if_false]
  refine hR.use ?_
  simp only [untok_segA, rowsA_len, factsA_len, rowsA_nil, factsA_nil, List.length_append, Int.le_refl, room, i64_0, nx, keysA_len, keysA_nil, segsA_len, mapsA_len, EVL, ite_toInt, ER, EW, Wv_nil, i6, i64, str, boo, EA, EL, ↓EP, binK, pickK, loadK, storeK, EO, Key.av, Cell.av, Fact.av, Row.av, ↓EC, ↓EK, EE, EB, ↓aBuiltin, ↓aAppend, rowsOf, ↓aLen, ↓aSlice, bnd, ↓aIndexAddr, ↓aIndex, ↓aBuild, ↓aBuildSlice, fillL, ↓aMakeSlice, two, ↓opt_some, ↓opt_none, ldAV, aggT, szOf, zeroAV, tys, unders, chunks, spliceL, Cfg.ro, detOp, gval, resAll, resOne, packAV, ↓reduceIte, seval, reduceCtorEq, Int.cast_ofNat_Int, exists_const, implies_true, decide_true, decide_false, if_true, if_false]
  refine ALoop_inv (ι := Nat × Cell) (fun i => i.1 ≤ l.length ∧ r = totC i.2 (l.drop i.1)) (fun i => envL [(2, .ptr s.next 0), (7, .sl 9 (rowsA l) .none), (8, i64 l.length), (9, i64 i.1)]) (fun i => AState.new { s with base := ⟨s.next, []⟩ } (.cells i.2.av)) (fun i => l.length - i.1) (0, zeroC) ⟨Nat.zero_le _, by rw [← hr]; rfl⟩ (ent rfl ?_) (fun i hi => ?_)
  · simp only [untok_segA, rowsA_len, factsA_len, rowsA_nil, factsA_nil, List.length_append, Int.le_refl, room, i64_0, nx, keysA_len, keysA_nil, segsA_len, mapsA_len, EVL, ite_toInt, ER, EW, Wv_nil, i6, i64, str, boo, EA, EL, ↓EP, binK, pickK, loadK, storeK, EO, Key.av, Cell.av, Fact.av, Row.av, ↓EC, ↓EK, EE, EB, ↓aBuiltin, ↓aAppend, rowsOf, ↓aLen, ↓aSlice, bnd, ↓aIndexAddr, ↓aIndex, ↓aBuild, ↓aBuildSlice, fillL, ↓aMakeSlice, two, ↓opt_some, ↓opt_none, ldAV, aggT, szOf, zeroAV, tys, unders, chunks, spliceL, Cfg.ro, detOp, gval, resAll, resOne, packAV, ↓reduceIte, seval, reduceCtorEq, Int.cast_ofNat_Int, exists_const, implies_true, decide_true, decide_false, if_true, if_false]
  · obtain ⟨i, c⟩ := i
    obtain ⟨hi, hs⟩ := hi
    simp only at hi hs
    by_cases hlt : i < l.length
    · obtain ⟨x, hx⟩ : ∃ x, l[i]? = some x := ⟨_, List.getElem?_eq_getElem hlt⟩
      have gx := rowsA_get hx
      rw [drop_get hx, totC] at hs
      have hc : ((i : Int) < (l.length : Int)) := by omega
      have h0 : (0 : Int) ≤ (i : Int) := by omega
      have hw : IntKind.i64.wrap ((i : Int) + 1) = (i : Int) + 1 := wrap_in (by omega) (by omega)
      have hm := merge_spec c x.c
      simp only [hc, h0, gx, untok_segA, rowsA_len, factsA_len, rowsA_nil, factsA_nil, List.length_append, Int.le_refl, room, i64_0, nx, keysA_len, keysA_nil, segsA_len, mapsA_len, EVL, ite_toInt, ER, EW, Wv_nil, i6, i64, str, boo, EA, EL, ↓EP, binK, pickK, loadK, storeK, EO, Key.av, Cell.av, Fact.av, Row.av, ↓EC, ↓EK, EE, EB, ↓aBuiltin, ↓aAppend, rowsOf, ↓aLen, ↓aSlice, bnd, ↓aIndexAddr, ↓aIndex, ↓aBuild, ↓aBuildSlice, fillL, ↓aMakeSlice, two, ↓opt_some, ↓opt_none, ldAV, aggT, szOf, zeroAV, tys, unders, chunks, spliceL, Cfg.ro, detOp, gval, resAll, resOne, packAV, ↓reduceIte, seval, reduceCtorEq, Int.cast_ofNat_Int, exists_const, implies_true, decide_true, decide_false, if_true, if_false]
      cases hmc : mergeC c x.c with
      | none =>
        rw [hmc] at hm
        refine hm.use ?_
        simp only [resC, zeroC, untok_segA, rowsA_len, factsA_len, rowsA_nil, factsA_nil, List.length_append, Int.le_refl, room, i64_0, nx, keysA_len, keysA_nil, segsA_len, mapsA_len, EVL, ite_toInt, ER, EW, Wv_nil, i6, i64, str, boo, EA, EL, ↓EP, binK, pickK, loadK, storeK, EO, Key.av, Cell.av, Fact.av, Row.av, ↓EC, ↓EK, EE, EB, ↓aBuiltin, ↓aAppend, rowsOf, ↓aLen, ↓aSlice, bnd, ↓aIndexAddr, ↓aIndex, ↓aBuild, ↓aBuildSlice, fillL, ↓aMakeSlice, two, ↓opt_some, ↓opt_none, ldAV, aggT, szOf, zeroAV, tys, unders, chunks, spliceL, Cfg.ro, detOp, gval, resAll, resOne, packAV, ↓reduceIte, seval, reduceCtorEq, Int.cast_ofNat_Int, exists_const, implies_true, decide_true, decide_false, if_true, if_false]
        rw [show r = none by rw [hs, hmc]; rfl]
        exact Ret_pure (l := [.agg zeroC.av, boo false]) (.inr rfl) rfl (by simp only [untok_segA, rowsA_len, factsA_len, rowsA_nil, factsA_nil, List.length_append, Int.le_refl, room, i64_0, nx, keysA_len, keysA_nil, segsA_len, mapsA_len, EVL, ite_toInt, ER, EW, Wv_nil, i6, i64, str, boo, EA, EL, ↓EP, binK, pickK, loadK, storeK, EO, Key.av, Cell.av, Fact.av, Row.av, ↓EC, ↓EK, EE, EB, ↓aBuiltin, ↓aAppend, rowsOf, ↓aLen, ↓aSlice, bnd, ↓aIndexAddr, ↓aIndex, ↓aBuild, ↓aBuildSlice, fillL, ↓aMakeSlice, two, ↓opt_some, ↓opt_none, ldAV, aggT, szOf, zeroAV, tys, unders, chunks, spliceL, Cfg.ro, detOp, gval, resAll, resOne, packAV, ↓reduceIte, seval, reduceCtorEq, Int.cast_ofNat_Int, exists_const, implies_true, decide_true, decide_false, if_true, if_false] <;> rfl) rfl (by first | exact Keeps.base _ _ | (repeat (first | exact Keeps.base _ _ | refine Keeps.new ?_ _ | refine Keeps.set ?_ (by first | (simp; done) | omega | (simp only [EO]; omega)) _))) (by show Bel _ (packAV [.agg zeroC.av, boo false]); exact (by first | exact .v _ | (simp only [packAV, rowsA_bel, factsA_bel, segA_bel, segsA_bel, mapsA_bel, resS, if_true, if_false, Bool.false_eq_true, resC, Key.av, Cell.av, Fact.av, Row.av, zeroC, Bel_v, Bel_tup, Bel_agg, List.forall_mem_map, List.map_nil, false_implies, implies_true, List.mem_cons, List.not_mem_nil, or_false, forall_eq_or_imp, forall_eq, and_self, true_and, and_true, Bel_sl, Bel_ep, tokBel, implies_true])))
      | some d =>
        rw [hmc] at hm
        refine hm.use ?_
        simp only [resC, untok_segA, rowsA_len, factsA_len, rowsA_nil, factsA_nil, List.length_append, Int.le_refl, room, i64_0, nx, keysA_len, keysA_nil, segsA_len, mapsA_len, EVL, ite_toInt, ER, EW, Wv_nil, i6, i64, str, boo, EA, EL, ↓EP, binK, pickK, loadK, storeK, EO, Key.av, Cell.av, Fact.av, Row.av, ↓EC, ↓EK, EE, EB, ↓aBuiltin, ↓aAppend, rowsOf, ↓aLen, ↓aSlice, bnd, ↓aIndexAddr, ↓aIndex, ↓aBuild, ↓aBuildSlice, fillL, ↓aMakeSlice, two, ↓opt_some, ↓opt_none, ldAV, aggT, szOf, zeroAV, tys, unders, chunks, spliceL, Cfg.ro, detOp, gval, resAll, resOne, packAV, ↓reduceIte, seval, reduceCtorEq, Int.cast_ofNat_Int, exists_const, implies_true, decide_true, decide_false, if_true, if_false]
        simp only [hw, untok_segA, rowsA_len, factsA_len, rowsA_nil, factsA_nil, List.length_append, Int.le_refl, room, i64_0, nx, keysA_len, keysA_nil, segsA_len, mapsA_len, EVL, ite_toInt, ER, EW, Wv_nil, i6, i64, str, boo, EA, EL, ↓EP, binK, pickK, loadK, storeK, EO, Key.av, Cell.av, Fact.av, Row.av, ↓EC, ↓EK, EE, EB, ↓aBuiltin, ↓aAppend, rowsOf, ↓aLen, ↓aSlice, bnd, ↓aIndexAddr, ↓aIndex, ↓aBuild, ↓aBuildSlice, fillL, ↓aMakeSlice, two, ↓opt_some, ↓opt_none, ldAV, aggT, szOf, zeroAV, tys, unders, chunks, spliceL, Cfg.ro, detOp, gval, resAll, resOne, packAV, ↓reduceIte, seval, reduceCtorEq, Int.cast_ofNat_Int, exists_const, implies_true, decide_true, decide_false, if_true, if_false]
        refine round_next (i + 1, d) ⟨by simp only; omega, by rw [hs, hmc]; rfl⟩ (by simp only; omega) (AEnt_drop rfl rfl (Nat.le_succ _) ⟨by simp only [EO]; omega, fun id hid => ?_⟩ ((hwf.base _).new (cell_bel _ d)) (EntB_all ?_))
        · simp only [AState.set, AState.new] at hid ⊢
          (repeat' split) <;> first | rfl | omega
        simp only [untok_segA, rowsA_len, factsA_len, rowsA_nil, factsA_nil, List.length_append, Int.le_refl, room, i64_0, nx, keysA_len, keysA_nil, segsA_len, mapsA_len, EVL, ite_toInt, ER, EW, Wv_nil, i6, i64, str, boo, EA, EL, ↓EP, binK, pickK, loadK, storeK, EO, Key.av, Cell.av, Fact.av, Row.av, ↓EC, ↓EK, EE, EB, ↓aBuiltin, ↓aAppend, rowsOf, ↓aLen, ↓aSlice, bnd, ↓aIndexAddr, ↓aIndex, ↓aBuild, ↓aBuildSlice, fillL, ↓aMakeSlice, two, ↓opt_some, ↓opt_none, ldAV, aggT, szOf, zeroAV, tys, unders, chunks, spliceL, Cfg.ro, detOp, gval, resAll, resOne, packAV, ↓reduceIte, seval, reduceCtorEq, Int.cast_ofNat_Int, exists_const, implies_true, decide_true, decide_false, if_true, if_false]
        exact ⟨Bel_ptr.2 (Nat.lt_succ_self _), Bel_sl.2 ⟨of_eq_true (rowsA_bel _ _), trivial⟩, .v _, .v _⟩
    · have hc : ¬ ((i : Int) < (l.length : Int)) := by omega
      simp only [hc, untok_segA, rowsA_len, factsA_len, rowsA_nil, factsA_nil, List.length_append, Int.le_refl, room, i64_0, nx, keysA_len, keysA_nil, segsA_len, mapsA_len, EVL, ite_toInt, ER, EW, Wv_nil, i6, i64, str, boo, EA, EL, ↓EP, binK, pickK, loadK, storeK, EO, Key.av, Cell.av, Fact.av, Row.av, ↓EC, ↓EK, EE, EB, ↓aBuiltin, ↓aAppend, rowsOf, ↓aLen, ↓aSlice, bnd, ↓aIndexAddr, ↓aIndex, ↓aBuild, ↓aBuildSlice, fillL, ↓aMakeSlice, two, ↓opt_some, ↓opt_none, ldAV, aggT, szOf, zeroAV, tys, unders, chunks, spliceL, Cfg.ro, detOp, gval, resAll, resOne, packAV, ↓reduceIte, seval, reduceCtorEq, Int.cast_ofNat_Int, exists_const, implies_true, decide_true, decide_false, if_true, if_false]
      rw [show r = some c by rw [hs, List.drop_eq_nil_of_le (by omega)]; rfl]
      exact Ret_pure (l := [.agg c.av, boo true]) (.inr rfl) rfl (by simp only [untok_segA, rowsA_len, factsA_len, rowsA_nil, factsA_nil, List.length_append, Int.le_refl, room, i64_0, nx, keysA_len, keysA_nil, segsA_len, mapsA_len, EVL, ite_toInt, ER, EW, Wv_nil, i6, i64, str, boo, EA, EL, ↓EP, binK, pickK, loadK, storeK, EO, Key.av, Cell.av, Fact.av, Row.av, ↓EC, ↓EK, EE, EB, ↓aBuiltin, ↓aAppend, rowsOf, ↓aLen, ↓aSlice, bnd, ↓aIndexAddr, ↓aIndex, ↓aBuild, ↓aBuildSlice, fillL, ↓aMakeSlice, two, ↓opt_some, ↓opt_none, ldAV, aggT, szOf, zeroAV, tys, unders, chunks, spliceL, Cfg.ro, detOp, gval, resAll, resOne, packAV, ↓reduceIte, seval, reduceCtorEq, Int.cast_ofNat_Int, exists_const, implies_true, decide_true, decide_false, if_true, if_false] <;> rfl) rfl (by first | exact Keeps.base _ _ | (repeat (first | exact Keeps.base _ _ | refine Keeps.new ?_ _ | refine Keeps.set ?_ (by first | (simp; done) | omega | (simp only [EO]; omega)) _))) (by show Bel _ (packAV [.agg c.av, boo true]); exact (by first | exact .v _ | (simp only [packAV, rowsA_bel, factsA_bel, segA_bel, segsA_bel, mapsA_bel, resS, if_true, if_false, Bool.false_eq_true, resC, Key.av, Cell.av, Fact.av, Row.av, zeroC, Bel_v, Bel_tup, Bel_agg, List.forall_mem_map, List.map_nil, false_implies, implies_true, List.mem_cons, List.not_mem_nil, or_false, forall_eq_or_imp, forall_eq, and_self, true_and, and_true, Bel_sl, Bel_ep, tokBel, implies_true])))

theorem rtotal_spec (l : List Row) (hl : l.length ≤ 1000000) : APure Try.prog 34 [.sl 9 (rowsA l) .none] (resC (totC zeroC l)) := by
  intro s
  generalize hr : totC zeroC l = r
  refine ACalls_body (C := ⟨[]⟩) (c := Try.f34.body.getD .skip) (rs := [.cell 2 44, .tmp 3]) Try.func34 (by kernel_rfl) (by kernel_rfl) (by kernel_rfl) (Nat.le_of_ble_eq_true rfl) (by kernel_rfl) fun hwf hbel => ?_; simp only [Try.f34, untok_segA, rowsA_len, factsA_len, rowsA_nil, factsA_nil, List.length_append, Int.le_refl, room, i64_0, nx, keysA_len, keysA_nil, segsA_len, mapsA_len, EVL, ite_toInt, ER, EW, Wv_nil, i6, i64, str, boo, EA, EL, ↓EP, binK, pickK, loadK, storeK, EO, Key.av, Cell.av, Fact.av, Row.av, ↓EC, ↓EK, EE, EB, ↓aBuiltin, ↓aAppend, rowsOf, ↓aLen, ↓aSlice, bnd, ↓aIndexAddr, ↓aIndex, ↓aBuild, ↓aBuildSlice, fillL, ↓aMakeSlice, two, ↓opt_some, ↓opt_none, ldAV, aggT, szOf, zeroAV, tys, unders, chunks, spliceL, Cfg.ro, detOp, gval, resAll, resOne, packAV, ↓reduceIte, seval, reduceCtorEq, Int.cast_ofNat_Int, exists_const, implies_true, decide_true, decide_false, if_true, if_false]
  refine ALoop_inv (ι := Nat × Cell) (fun i => i.1 ≤ l.length ∧ r = totC i.2 (l.drop i.1)) (fun i => envL [(0, .sl 9 (rowsA l) .none), (2, .ptr s.next 0), (4, .ptr (s.next + 1) 0), (5, i64 i.1)]) (fun i => AState.new (AState.new { s with base := ⟨s.next, []⟩ } (.cells zeroC.av)) (.cells i.2.av)) (fun i => l.length - i.1) (0, zeroC) ⟨Nat.zero_le _, by rw [← hr]; rfl⟩ (AEnt_drop rfl rfl (Nat.le_add_right _ 2) ⟨Nat.le_refl _, fun id hid => ?_⟩ (((hwf.base _).new (cell_bel _ zeroC)).new (cell_bel _ zeroC)) (EntB_all ?_)) (fun i hi => ?_)
  · simp only [AState.set, AState.new] at hid ⊢
    (repeat' split) <;> first | rfl | omega
  · simp only [untok_segA, rowsA_len, factsA_len, rowsA_nil, factsA_nil, List.length_append, Int.le_refl, room, i64_0, nx, keysA_len, keysA_nil, segsA_len, mapsA_len, EVL, ite_toInt, ER, EW, Wv_nil, i6, i64, str, boo, EA, EL, ↓EP, binK, pickK, loadK, storeK, EO, Key.av, Cell.av, Fact.av, Row.av, ↓EC, ↓EK, EE, EB, ↓aBuiltin, ↓aAppend, rowsOf, ↓aLen, ↓aSlice, bnd, ↓aIndexAddr, ↓aIndex, ↓aBuild, ↓aBuildSlice, fillL, ↓aMakeSlice, two, ↓opt_some, ↓opt_none, ldAV, aggT, szOf, zeroAV, tys, unders, chunks, spliceL, Cfg.ro, detOp, gval, resAll, resOne, packAV, ↓reduceIte, seval, reduceCtorEq, Int.cast_ofNat_Int, exists_const, implies_true, decide_true, decide_false, if_true, if_false]
    exact ⟨Bel_sl.2 ⟨of_eq_true (rowsA_bel _ _), trivial⟩, Bel_ptr.2 (by show s.next < s.next + 2; omega), Bel_ptr.2 (by show s.next + 1 < s.next + 2; omega), .v _⟩
  · obtain ⟨i, c⟩ := i
    obtain ⟨hi, hs⟩ := hi
    simp only at hi hs
    by_cases hlt : i < l.length
    · obtain ⟨x, hx⟩ : ∃ x, l[i]? = some x := ⟨_, List.getElem?_eq_getElem hlt⟩
      have gx := rowsA_get hx
      rw [drop_get hx, totC] at hs
      have hc : ((i : Int) < (l.length : Int)) := by omega
      have h0 : (0 : Int) ≤ (i : Int) := by omega
      have hw : IntKind.i64.wrap ((i : Int) + 1) = (i : Int) + 1 := wrap_in (by omega) (by omega)
      have hm := rmerge_spec c x.c
      simp only [hc, untok_segA, rowsA_len, factsA_len, rowsA_nil, factsA_nil, List.length_append, Int.le_refl, room, i64_0, nx, keysA_len, keysA_nil, segsA_len, mapsA_len, EVL, ite_toInt, ER, EW, Wv_nil, i6, i64, str, boo, EA, EL, ↓EP, binK, pickK, loadK, storeK, EO, Key.av, Cell.av, Fact.av, Row.av, ↓EC, ↓EK, EE, EB, ↓aBuiltin, ↓aAppend, rowsOf, ↓aLen, ↓aSlice, bnd, ↓aIndexAddr, ↓aIndex, ↓aBuild, ↓aBuildSlice, fillL, ↓aMakeSlice, two, ↓opt_some, ↓opt_none, ldAV, aggT, szOf, zeroAV, tys, unders, chunks, spliceL, Cfg.ro, detOp, gval, resAll, resOne, packAV, ↓reduceIte, seval, reduceCtorEq, Int.cast_ofNat_Int, exists_const, implies_true, decide_true, decide_false, if_true, if_false]
      cases hmc : mergeC c x.c with
      | none =>
        rw [hmc] at hm
        refine aDraw_chainS [(AState.new (AState.new { s with base := ⟨s.next, []⟩ } (.cells zeroC.av)) (.cells c.av)), AState.new (AState.new (AState.new { s with base := ⟨s.next, []⟩ } (.cells zeroC.av)) (.cells c.av)) (.cells zeroC.av), AState.set (AState.new (AState.new (AState.new { s with base := ⟨s.next, []⟩ } (.cells zeroC.av)) (.cells c.av)) (.cells zeroC.av)) (s.next + 2) (.cells zeroC.av)] [some 9, some 9, some 9, some 9, some 9, some 9, some 9, some 9, some 9, some 9, none, none, some 9] mixed (by kernel_rfl) (by kernel_rfl) (by kernel_rfl) rfl ?_; simp only [zeroC, h0, hc, gx,  ↓EX, EY, ↓EH, untok_segA, rowsA_len, factsA_len, rowsA_nil, factsA_nil, List.length_append, Int.le_refl, room, i64_0, nx, keysA_len, keysA_nil, segsA_len, mapsA_len, EVL, ite_toInt, ER, EW, Wv_nil, i6, i64, str, boo, EA, EL, ↓EP, binK, pickK, loadK, storeK, EO, Key.av, Cell.av, Fact.av, Row.av, ↓EC, ↓EK, EE, EB, ↓aBuiltin, ↓aAppend, rowsOf, ↓aLen, ↓aSlice, bnd, ↓aIndexAddr, ↓aIndex, ↓aBuild, ↓aBuildSlice, fillL, ↓aMakeSlice, two, ↓opt_some, ↓opt_none, ldAV, aggT, szOf, zeroAV, tys, unders, chunks, spliceL, Cfg.ro, detOp, gval, resAll, resOne, packAV, ↓reduceIte, seval, reduceCtorEq, Int.cast_ofNat_Int, exists_const, implies_true, decide_true, decide_false, if_true, if_false]
        refine qcallC (hm) rfl (by simp only [untok_segA, rowsA_len, factsA_len, rowsA_nil, factsA_nil, List.length_append, Int.le_refl, room, i64_0, nx, keysA_len, keysA_nil, segsA_len, mapsA_len, EVL, ite_toInt, ER, EW, Wv_nil, i6, i64, str, boo, EA, EL, ↓EP, binK, pickK, loadK, storeK, EO, Key.av, Cell.av, Fact.av, Row.av, ↓EC, ↓EK, EE, EB, ↓aBuiltin, ↓aAppend, rowsOf, ↓aLen, ↓aSlice, bnd, ↓aIndexAddr, ↓aIndex, ↓aBuild, ↓aBuildSlice, fillL, ↓aMakeSlice, two, ↓opt_some, ↓opt_none, ldAV, aggT, szOf, zeroAV, tys, unders, chunks, spliceL, Cfg.ro, detOp, gval, resAll, resOne, packAV, ↓reduceIte, seval, reduceCtorEq, Int.cast_ofNat_Int, exists_const, implies_true, decide_true, decide_false, if_true, if_false] <;> rfl) ?_; simp only [↓EX, EY, ↓EH, untok_segA, rowsA_len, factsA_len, rowsA_nil, factsA_nil, List.length_append, Int.le_refl, room, i64_0, nx, keysA_len, keysA_nil, segsA_len, mapsA_len, EVL, ite_toInt, ER, EW, Wv_nil, i6, i64, str, boo, EA, EL, ↓EP, binK, pickK, loadK, storeK, EO, Key.av, Cell.av, Fact.av, Row.av, ↓EC, ↓EK, EE, EB, ↓aBuiltin, ↓aAppend, rowsOf, ↓aLen, ↓aSlice, bnd, ↓aIndexAddr, ↓aIndex, ↓aBuild, ↓aBuildSlice, fillL, ↓aMakeSlice, two, ↓opt_some, ↓opt_none, ldAV, aggT, szOf, zeroAV, tys, unders, chunks, spliceL, Cfg.ro, detOp, gval, resAll, resOne, packAV, ↓reduceIte, seval, reduceCtorEq, Int.cast_ofNat_Int, exists_const, implies_true, decide_true, decide_false, if_true, if_false]
        simp only [resC, zeroC, ↓EX, EY, ↓EH, untok_segA, rowsA_len, factsA_len, rowsA_nil, factsA_nil, List.length_append, Int.le_refl, room, i64_0, nx, keysA_len, keysA_nil, segsA_len, mapsA_len, EVL, ite_toInt, ER, EW, Wv_nil, i6, i64, str, boo, EA, EL, ↓EP, binK, pickK, loadK, storeK, EO, Key.av, Cell.av, Fact.av, Row.av, ↓EC, ↓EK, EE, EB, ↓aBuiltin, ↓aAppend, rowsOf, ↓aLen, ↓aSlice, bnd, ↓aIndexAddr, ↓aIndex, ↓aBuild, ↓aBuildSlice, fillL, ↓aMakeSlice, two, ↓opt_some, ↓opt_none, ldAV, aggT, szOf, zeroAV, tys, unders, chunks, spliceL, Cfg.ro, detOp, gval, resAll, resOne, packAV, ↓reduceIte, seval, reduceCtorEq, Int.cast_ofNat_Int, exists_const, implies_true, decide_true, decide_false, if_true, if_false]
        rw [show r = none by rw [hs, hmc]; rfl]
        exact Ret_pure (l := [.agg zeroC.av, boo false]) (.inr rfl) rfl (by simp only [untok_segA, rowsA_len, factsA_len, rowsA_nil, factsA_nil, List.length_append, Int.le_refl, room, i64_0, nx, keysA_len, keysA_nil, segsA_len, mapsA_len, EVL, ite_toInt, ER, EW, Wv_nil, i6, i64, str, boo, EA, EL, ↓EP, binK, pickK, loadK, storeK, EO, Key.av, Cell.av, Fact.av, Row.av, ↓EC, ↓EK, EE, EB, ↓aBuiltin, ↓aAppend, rowsOf, ↓aLen, ↓aSlice, bnd, ↓aIndexAddr, ↓aIndex, ↓aBuild, ↓aBuildSlice, fillL, ↓aMakeSlice, two, ↓opt_some, ↓opt_none, ldAV, aggT, szOf, zeroAV, tys, unders, chunks, spliceL, Cfg.ro, detOp, gval, resAll, resOne, packAV, ↓reduceIte, seval, reduceCtorEq, Int.cast_ofNat_Int, exists_const, implies_true, decide_true, decide_false, if_true, if_false] <;> rfl) rfl (by first | exact Keeps.base _ _ | (repeat (first | exact Keeps.base _ _ | refine Keeps.new ?_ _ | refine Keeps.set ?_ (by first | (simp; done) | omega | (simp only [EO]; omega)) _))) (by show Bel _ (packAV [.agg zeroC.av, boo false]); exact (by first | exact .v _ | (simp only [packAV, rowsA_bel, factsA_bel, segA_bel, segsA_bel, mapsA_bel, resS, if_true, if_false, Bool.false_eq_true, resC, Key.av, Cell.av, Fact.av, Row.av, zeroC, Bel_v, Bel_tup, Bel_agg, List.forall_mem_map, List.map_nil, false_implies, implies_true, List.mem_cons, List.not_mem_nil, or_false, forall_eq_or_imp, forall_eq, and_self, true_and, and_true, Bel_sl, Bel_ep, tokBel, implies_true])))
      | some d =>
        rw [hmc] at hm
        refine aDraw_chainS [(AState.new (AState.new { s with base := ⟨s.next, []⟩ } (.cells zeroC.av)) (.cells c.av)), AState.new (AState.new (AState.new { s with base := ⟨s.next, []⟩ } (.cells zeroC.av)) (.cells c.av)) (.cells zeroC.av), AState.set (AState.new (AState.new (AState.new { s with base := ⟨s.next, []⟩ } (.cells zeroC.av)) (.cells c.av)) (.cells zeroC.av)) (s.next + 2) (.cells d.av)] [some 9, some 9, some 9, some 9, some 9, some 9, some 9, some 9, some 9, some 9, none, none, some 9] mixed (by kernel_rfl) (by kernel_rfl) (by kernel_rfl) rfl ?_; simp only [zeroC, h0, hc, gx,  ↓EX, EY, ↓EH, untok_segA, rowsA_len, factsA_len, rowsA_nil, factsA_nil, List.length_append, Int.le_refl, room, i64_0, nx, keysA_len, keysA_nil, segsA_len, mapsA_len, EVL, ite_toInt, ER, EW, Wv_nil, i6, i64, str, boo, EA, EL, ↓EP, binK, pickK, loadK, storeK, EO, Key.av, Cell.av, Fact.av, Row.av, ↓EC, ↓EK, EE, EB, ↓aBuiltin, ↓aAppend, rowsOf, ↓aLen, ↓aSlice, bnd, ↓aIndexAddr, ↓aIndex, ↓aBuild, ↓aBuildSlice, fillL, ↓aMakeSlice, two, ↓opt_some, ↓opt_none, ldAV, aggT, szOf, zeroAV, tys, unders, chunks, spliceL, Cfg.ro, detOp, gval, resAll, resOne, packAV, ↓reduceIte, seval, reduceCtorEq, Int.cast_ofNat_Int, exists_const, implies_true, decide_true, decide_false, if_true, if_false]
        refine qcallC (hm) rfl (by simp only [untok_segA, rowsA_len, factsA_len, rowsA_nil, factsA_nil, List.length_append, Int.le_refl, room, i64_0, nx, keysA_len, keysA_nil, segsA_len, mapsA_len, EVL, ite_toInt, ER, EW, Wv_nil, i6, i64, str, boo, EA, EL, ↓EP, binK, pickK, loadK, storeK, EO, Key.av, Cell.av, Fact.av, Row.av, ↓EC, ↓EK, EE, EB, ↓aBuiltin, ↓aAppend, rowsOf, ↓aLen, ↓aSlice, bnd, ↓aIndexAddr, ↓aIndex, ↓aBuild, ↓aBuildSlice, fillL, ↓aMakeSlice, two, ↓opt_some, ↓opt_none, ldAV, aggT, szOf, zeroAV, tys, unders, chunks, spliceL, Cfg.ro, detOp, gval, resAll, resOne, packAV, ↓reduceIte, seval, reduceCtorEq, Int.cast_ofNat_Int, exists_const, implies_true, decide_true, decide_false, if_true, if_false] <;> rfl) ?_; simp only [↓EX, EY, ↓EH, untok_segA, rowsA_len, factsA_len, rowsA_nil, factsA_nil, List.length_append, Int.le_refl, room, i64_0, nx, keysA_len, keysA_nil, segsA_len, mapsA_len, EVL, ite_toInt, ER, EW, Wv_nil, i6, i64, str, boo, EA, EL, ↓EP, binK, pickK, loadK, storeK, EO, Key.av, Cell.av, Fact.av, Row.av, ↓EC, ↓EK, EE, EB, ↓aBuiltin, ↓aAppend, rowsOf, ↓aLen, ↓aSlice, bnd, ↓aIndexAddr, ↓aIndex, ↓aBuild, ↓aBuildSlice, fillL, ↓aMakeSlice, two, ↓opt_some, ↓opt_none, ldAV, aggT, szOf, zeroAV, tys, unders, chunks, spliceL, Cfg.ro, detOp, gval, resAll, resOne, packAV, ↓reduceIte, seval, reduceCtorEq, Int.cast_ofNat_Int, exists_const, implies_true, decide_true, decide_false, if_true, if_false]
        simp only [resC, zeroC, ↓EX, EY, ↓EH, untok_segA, rowsA_len, factsA_len, rowsA_nil, factsA_nil, List.length_append, Int.le_refl, room, i64_0, nx, keysA_len, keysA_nil, segsA_len, mapsA_len, EVL, ite_toInt, ER, EW, Wv_nil, i6, i64, str, boo, EA, EL, ↓EP, binK, pickK, loadK, storeK, EO, Key.av, Cell.av, Fact.av, Row.av, ↓EC, ↓EK, EE, EB, ↓aBuiltin, ↓aAppend, rowsOf, ↓aLen, ↓aSlice, bnd, ↓aIndexAddr, ↓aIndex, ↓aBuild, ↓aBuildSlice, fillL, ↓aMakeSlice, two, ↓opt_some, ↓opt_none, ldAV, aggT, szOf, zeroAV, tys, unders, chunks, spliceL, Cfg.ro, detOp, gval, resAll, resOne, packAV, ↓reduceIte, seval, reduceCtorEq, Int.cast_ofNat_Int, exists_const, implies_true, decide_true, decide_false, if_true, if_false]
        simp only [hw, untok_segA, rowsA_len, factsA_len, rowsA_nil, factsA_nil, List.length_append, Int.le_refl, room, i64_0, nx, keysA_len, keysA_nil, segsA_len, mapsA_len, EVL, ite_toInt, ER, EW, Wv_nil, i6, i64, str, boo, EA, EL, ↓EP, binK, pickK, loadK, storeK, EO, Key.av, Cell.av, Fact.av, Row.av, ↓EC, ↓EK, EE, EB, ↓aBuiltin, ↓aAppend, rowsOf, ↓aLen, ↓aSlice, bnd, ↓aIndexAddr, ↓aIndex, ↓aBuild, ↓aBuildSlice, fillL, ↓aMakeSlice, two, ↓opt_some, ↓opt_none, ldAV, aggT, szOf, zeroAV, tys, unders, chunks, spliceL, Cfg.ro, detOp, gval, resAll, resOne, packAV, ↓reduceIte, seval, reduceCtorEq, Int.cast_ofNat_Int, exists_const, implies_true, decide_true, decide_false, if_true, if_false]
        refine round_next (i + 1, d) ⟨by simp only; omega, by rw [hs, hmc]; rfl⟩ (by simp only; omega) (AEnt_drop rfl rfl (Nat.le_add_right _ 2) ⟨by simp only [EO]; omega, fun id hid => ?_⟩ (((hwf.base _).new (cell_bel _ zeroC)).new (cell_bel _ d)) (EntB_all ?_))
        · simp only [AState.set, AState.new] at hid ⊢
          (repeat' split) <;> first | rfl | omega
        simp only [untok_segA, rowsA_len, factsA_len, rowsA_nil, factsA_nil, List.length_append, Int.le_refl, room, i64_0, nx, keysA_len, keysA_nil, segsA_len, mapsA_len, EVL, ite_toInt, ER, EW, Wv_nil, i6, i64, str, boo, EA, EL, ↓EP, binK, pickK, loadK, storeK, EO, Key.av, Cell.av, Fact.av, Row.av, ↓EC, ↓EK, EE, EB, ↓aBuiltin, ↓aAppend, rowsOf, ↓aLen, ↓aSlice, bnd, ↓aIndexAddr, ↓aIndex, ↓aBuild, ↓aBuildSlice, fillL, ↓aMakeSlice, two, ↓opt_some, ↓opt_none, ldAV, aggT, szOf, zeroAV, tys, unders, chunks, spliceL, Cfg.ro, detOp, gval, resAll, resOne, packAV, ↓reduceIte, seval, reduceCtorEq, Int.cast_ofNat_Int, exists_const, implies_true, decide_true, decide_false, if_true, if_false]
        exact ⟨Bel_sl.2 ⟨of_eq_true (rowsA_bel _ _), trivial⟩, Bel_ptr.2 (by show s.next < s.next + 2; omega), Bel_ptr.2 (by show s.next + 1 < s.next + 2; omega), .v _⟩
    · have hc : ¬ ((i : Int) < (l.length : Int)) := by omega
      simp only [hc, untok_segA, rowsA_len, factsA_len, rowsA_nil, factsA_nil, List.length_append, Int.le_refl, room, i64_0, nx, keysA_len, keysA_nil, segsA_len, mapsA_len, EVL, ite_toInt, ER, EW, Wv_nil, i6, i64, str, boo, EA, EL, ↓EP, binK, pickK, loadK, storeK, EO, Key.av, Cell.av, Fact.av, Row.av, ↓EC, ↓EK, EE, EB, ↓aBuiltin, ↓aAppend, rowsOf, ↓aLen, ↓aSlice, bnd, ↓aIndexAddr, ↓aIndex, ↓aBuild, ↓aBuildSlice, fillL, ↓aMakeSlice, two, ↓opt_some, ↓opt_none, ldAV, aggT, szOf, zeroAV, tys, unders, chunks, spliceL, Cfg.ro, detOp, gval, resAll, resOne, packAV, ↓reduceIte, seval, reduceCtorEq, Int.cast_ofNat_Int, exists_const, implies_true, decide_true, decide_false, if_true, if_false]
      rw [show r = some c by rw [hs, List.drop_eq_nil_of_le (by omega)]; rfl]
      exact Ret_pure (l := [.agg c.av, boo true]) (.inr rfl) rfl (by simp only [untok_segA, rowsA_len, factsA_len, rowsA_nil, factsA_nil, List.length_append, Int.le_refl, room, i64_0, nx, keysA_len, keysA_nil, segsA_len, mapsA_len, EVL, ite_toInt, ER, EW, Wv_nil, i6, i64, str, boo, EA, EL, ↓EP, binK, pickK, loadK, storeK, EO, Key.av, Cell.av, Fact.av, Row.av, ↓EC, ↓EK, EE, EB, ↓aBuiltin, ↓aAppend, rowsOf, ↓aLen, ↓aSlice, bnd, ↓aIndexAddr, ↓aIndex, ↓aBuild, ↓aBuildSlice, fillL, ↓aMakeSlice, two, ↓opt_some, ↓opt_none, ldAV, aggT, szOf, zeroAV, tys, unders, chunks, spliceL, Cfg.ro, detOp, gval, resAll, resOne, packAV, ↓reduceIte, seval, reduceCtorEq, Int.cast_ofNat_Int, exists_const, implies_true, decide_true, decide_false, if_true, if_false] <;> rfl) rfl (by first | exact Keeps.base _ _ | (repeat (first | exact Keeps.base _ _ | refine Keeps.new ?_ _ | refine Keeps.set ?_ (by first | (simp; done) | omega | (simp only [EO]; omega)) _))) (by show Bel _ (packAV [.agg c.av, boo true]); exact (by first | exact .v _ | (simp only [packAV, rowsA_bel, factsA_bel, segA_bel, segsA_bel, mapsA_bel, resS, if_true, if_false, Bool.false_eq_true, resC, Key.av, Cell.av, Fact.av, Row.av, zeroC, Bel_v, Bel_tup, Bel_agg, List.forall_mem_map, List.map_nil, false_implies, implies_true, List.mem_cons, List.not_mem_nil, or_false, forall_eq_or_imp, forall_eq, and_self, true_and, and_true, Bel_sl, Bel_ep, tokBel, implies_true])))

end Go.Proofs

namespace Go.Proofs
open Go Go.Av Go.Sort
set_option linter.unusedSimpArgs false
set_option linter.unusedVariables false

/-! Cells that do not leave their range -/
def mulC (a b : Cell) : Cell := ⟨a.n + b.n, a.s + b.s, if b.lo.toInt < a.lo.toInt then b.lo else a.lo, if b.hi.toInt > a.hi.toInt then b.hi else a.hi⟩
theorem lo_comm (a b : Int64) : (if b.toInt < a.toInt then b else a) = if a.toInt < b.toInt then a else b := by
  rw [← Int64.toInt_inj]; split <;> split <;> omega
theorem hi_comm (a b : Int64) : (if b.toInt > a.toInt then b else a) = if a.toInt > b.toInt then a else b := by
  rw [← Int64.toInt_inj]; split <;> split <;> omega
theorem mulC_comm (a b : Cell) : mulC a b = mulC b a := by
  simp only [mulC, Int64.add_comm a.n, Int64.add_comm a.s, lo_comm a.lo, hi_comm a.hi]
theorem mulC_assoc (a b c : Cell) : mulC (mulC a b) c = mulC a (mulC b c) := by
  simp only [mulC, Int64.add_assoc, Cell.mk.injEq, true_and]
  constructor <;> (rw [← Int64.toInt_inj]; (repeat' split) <;> omega)

def plusO : Option Cell → Option Cell → Option Cell
  | none, y => y
  | x, none => x
  | some c, some d => some (mulC c d)
theorem plusO_none (x : Option Cell) : plusO x none = x := by cases x <;> rfl
theorem none_plusO (x : Option Cell) : plusO none x = x := rfl
theorem plusO_comm (x y : Option Cell) : plusO x y = plusO y x := by
  cases x <;> cases y <;> simp only [plusO]
  rw [mulC_comm]
theorem plusO_assoc (x y z : Option Cell) : plusO (plusO x y) z = plusO x (plusO y z) := by
  cases x <;> cases y <;> cases z <;> simp only [plusO]
  rw [mulC_assoc]

def oneC (v : Int64) : Cell := ⟨1, v, v, v⟩
def factO (f : Fact) (k : Key) : Option Cell := if f.k = k then some (oneC f.v) else none
def cellOf : List Fact → Key → Option Cell
  | [], _ => none
  | f :: l, k => plusO (factO f k) (cellOf l k)
theorem cellOf_append (l m : List Fact) (k : Key) : cellOf (l ++ m) k = plusO (cellOf l k) (cellOf m k) := by
  induction l with
  | nil => rfl
  | cons f l ih => rw [List.cons_append, cellOf, cellOf, ih, plusO_assoc]
theorem cellOf_swap (l : List Fact) (i : Nat) (k : Key) : plusO (cellOf (l.drop i) k) (cellOf (l.take i) k) = cellOf l k := by
  rw [plusO_comm, ← cellOf_append, List.take_append_drop]

def Fine (c : Cell) : Prop := 1 ≤ c.n.toInt ∧ -(c.n.toInt * 1099511627776) ≤ c.s.toInt ∧ c.s.toInt ≤ c.n.toInt * 1099511627776
theorem Fine.ne {c : Cell} (h : Fine c) : c.n ≠ 0 := fun e => by have := h.1; rw [e] at this; exact absurd this (by decide)

theorem add_in (a b : Int64) (h : -9223372036854775808 ≤ a.toInt + b.toInt ∧ a.toInt + b.toInt ≤ 9223372036854775807) : (a + b).toInt = a.toInt + b.toInt := by
  rw [Int64.toInt_add]
  exact Int.bmod_eq_of_le (by omega) (by omega)

theorem merge_mul {c d e : Cell} (hc : c.n ≠ 0) (hd : d.n ≠ 0) (h : mergeC c d = some e) : e = mulC c d := by
  rw [mergeC, if_neg hc, if_neg hd] at h
  split at h
  · cases h; rfl
  · cases h

theorem merge_fine {c d : Cell} (hc : Fine c) (hd : Fine d) (h : c.n.toInt + d.n.toInt ≤ 100) : mergeC c d = some (mulC c d) ∧ Fine (mulC c d) ∧ (mulC c d).n.toInt = c.n.toInt + d.n.toInt := by
  obtain ⟨c1, c2, c3⟩ := hc
  obtain ⟨d1, d2, d3⟩ := hd
  have hn : (c.n + d.n).toInt = c.n.toInt + d.n.toInt := add_in _ _ (by omega)
  have hs : (c.s + d.s).toInt = c.s.toInt + d.s.toInt := add_in _ _ (by omega)
  refine ⟨?_, ⟨?_, ?_, ?_⟩, hn⟩
  · rw [mergeC, if_neg (Fine.ne ⟨c1, c2, c3⟩), if_neg (Fine.ne ⟨d1, d2, d3⟩), if_pos]
    · rfl
    · simp only [addOk, Bool.and_eq_true, decide_eq_true_eq]; omega
  · show 1 ≤ (c.n + d.n).toInt
    omega
  · show -((c.n + d.n).toInt * 1099511627776) ≤ (c.s + d.s).toInt
    omega
  · show (c.s + d.s).toInt ≤ (c.n + d.n).toInt * 1099511627776
    omega

def cnt : List Row → Int
  | [] => 0
  | r :: l => r.c.n.toInt + cnt l
theorem cnt_append (a b : List Row) : cnt (a ++ b) = cnt a + cnt b := by
  induction a with
  | nil => simp [cnt]
  | cons x a ih => simp only [List.cons_append, cnt, ih]; omega
def FineL (q : List Row) : Prop := ∀ r ∈ q, Fine r.c
theorem FineL.cons {r : Row} {q : List Row} (h : FineL (r :: q)) : Fine r.c ∧ FineL q := ⟨h r (by simp), fun x hx => h x (by simp [hx])⟩
theorem FineL.nil : FineL [] := fun r h => by cases h
theorem FineL.mk {r : Row} {q : List Row} (h : Fine r.c) (hq : FineL q) : FineL (r :: q) := fun x hx => by rcases List.mem_cons.1 hx with rfl | hx; exact h; exact hq x hx
theorem FineL.append {p q : List Row} (hp : FineL p) (hq : FineL q) : FineL (p ++ q) := fun x hx => by rcases List.mem_append.1 hx with hx | hx; exact hp x hx; exact hq x hx
theorem cnt_pos : ∀ {q : List Row}, FineL q → 0 ≤ cnt q
  | [], _ => Int.le_refl _
  | r :: q, h => by have := cnt_pos h.cons.2; have := h.cons.1.1; simp only [cnt]; omega
theorem cnt_mem : ∀ {q : List Row} {r : Row}, FineL q → r ∈ q → r.c.n.toInt ≤ cnt q
  | x :: q, r, h, hr => by
    have h1 := cnt_pos h.cons.2
    have h2 := h.cons.1.1
    simp only [cnt]
    rcases List.mem_cons.1 hr with rfl | hr
    · omega
    · have := cnt_mem h.cons.2 hr; omega

theorem putR_fine {pre rest : List Row} {x : Row} (h1 : FineL pre) (h2 : FineL rest) (hx : Fine x.c) (hc : cnt pre + cnt rest + x.c.n.toInt ≤ 100) :
    ∃ q, putR pre rest x = some q ∧ FineL q ∧ cnt q = cnt pre + cnt rest + x.c.n.toInt := by
  have hp := cnt_pos h1
  cases rest with
  | nil => exact ⟨_, rfl, h1.append (FineL.mk hx FineL.nil), by simp only [cnt_append, cnt]; omega⟩
  | cons y t =>
    have ht := cnt_pos h2.cons.2
    simp only [cnt] at hc
    rw [putR]
    by_cases e : y.k = x.k
    · obtain ⟨m1, m2, m3⟩ := merge_fine h2.cons.1 hx (by omega)
      rw [if_pos e, m1]
      exact ⟨_, rfl, h1.append (FineL.mk m2 h2.cons.2), by simp only [cnt_append, cnt, m3]; omega⟩
    · rw [if_neg e]
      exact ⟨_, rfl, h1.append (FineL.mk hx h2), by simp only [cnt_append, cnt]; omega⟩

theorem putL_fine {q : List Row} {x : Row} (hq : FineL q) (hx : Fine x.c) (hc : cnt q + x.c.n.toInt ≤ 100) :
    ∃ q', putL q x = some q' ∧ FineL q' ∧ cnt q' = cnt q + x.c.n.toInt := by
  have hsplit : q.takeWhile (fun r => decide (cmpK r.k x.k < 0)) ++ q.dropWhile (fun r => decide (cmpK r.k x.k < 0)) = q := List.takeWhile_append_dropWhile
  have e : cnt q = cnt (q.takeWhile (fun r => decide (cmpK r.k x.k < 0))) + cnt (q.dropWhile (fun r => decide (cmpK r.k x.k < 0))) := by rw [← cnt_append, hsplit]
  rw [e] at hc ⊢
  exact putR_fine (fun r hr => hq r (by rw [← hsplit]; exact List.mem_append_left _ hr)) (fun r hr => hq r (by rw [← hsplit]; exact List.mem_append_right _ hr)) hx hc

theorem comb_plus {x y : Option Cell} (hx : ∀ c, x = some c → c.n ≠ 0) (hy : ∀ d, y = some d → d.n ≠ 0) (h : ∀ c d, x = some c → y = some d → mergeC c d ≠ none) : comb x y = plusO x y := by
  cases x with
  | none => rfl
  | some c =>
    cases y with
    | none => rfl
    | some d =>
      show mergeC c d = some (mulC c d)
      cases e : mergeC c d with
      | none => exact absurd e (h c d rfl rfl)
      | some m => rw [merge_mul (hx c rfl) (hy d rfl) e]

theorem FineL.get {q : List Row} (h : FineL q) {k : Key} {c : Cell} (e : getR q k = some c) : Fine c := h _ (getR_some e)

def lightV (f : Fact) : Prop := -1099511627776 ≤ f.v.toInt ∧ f.v.toInt ≤ 1099511627776
theorem fine_one {f : Fact} (h : lightV f) : Fine (factRow f).c := by
  refine ⟨by show (1 : Int) ≤ (1 : Int64).toInt; decide, ?_, ?_⟩
  · show -((1 : Int64).toInt * 1099511627776) ≤ f.v.toInt
    have := h.1; have e : (1 : Int64).toInt = 1 := rfl; rw [e]; omega
  · show f.v.toInt ≤ (1 : Int64).toInt * 1099511627776
    have := h.2; have e : (1 : Int64).toInt = 1 := rfl; rw [e]; omega

theorem facts_put : ∀ (l : List Fact) (acc : List Row), Srt acc → FineL acc → cnt acc + l.length ≤ 100 → (∀ f ∈ l, lightV f) →
    ∃ q, putAll acc (l.map factRow) = some q ∧ Srt q ∧ FineL q ∧ cnt q = cnt acc + l.length ∧ ∀ k, getR q k = plusO (getR acc k) (cellOf l k)
  | [], acc, h1, h2, _, _ => ⟨acc, rfl, h1, h2, by simp, fun k => by rw [cellOf, plusO_none]⟩
  | f :: l, acc, h1, h2, h3, h4 => by
    have hf := fine_one (h4 f (by simp))
    have e1 : (factRow f).c.n.toInt = 1 := rfl
    have hcx : cnt acc + (factRow f).c.n.toInt ≤ 100 := by rw [e1]; simp only [List.length_cons] at h3; omega
    obtain ⟨a, p1, p2, p3⟩ := putL_fine h2 hf hcx
    have hb := put_is h1 (factRow f)
    rw [p1] at hb
    obtain ⟨b1, b2, b3⟩ := hb
    rw [e1] at p3
    obtain ⟨q, q1, q2, q3, q4, q5⟩ := facts_put l a b1 p2 (by simp only [List.length_cons] at h3; omega) (fun g hg => h4 g (by simp [hg]))
    refine ⟨q, by rw [List.map_cons, putAll, p1]; exact q1, q2, q3, by simp only [List.length_cons]; omega, fun k => ?_⟩
    have g1 : getR [factRow f] k = factO f k := rfl
    have gd : ∀ d, factO f k = some d → d.n ≠ 0 := fun d hd => by
      unfold factO at hd; split at hd
      · cases hd; exact Fine.ne hf
      · cases hd
    rw [q5, b2, g1, cellOf, ← plusO_assoc]
    congr 1
    exact comb_plus (fun c hc => (h2.get hc).ne) gd (fun c d hc hd => b3 k c d hc (by rw [g1]; exact hd))

/-- The rows of facts that weigh not too much. -/
theorem facts_rows (l : List Fact) (h1 : l.length ≤ 100) (h2 : ∀ f ∈ l, lightV f) : ∃ q, putAll [] (l.map factRow) = some q ∧ Srt q ∧ FineL q ∧ cnt q = l.length ∧ ∀ k, getR q k = cellOf l k := by
  obtain ⟨q, q1, q2, q3, q4, q5⟩ := facts_put l [] Srt.nil FineL.nil (by simp only [cnt]; omega) h2
  exact ⟨q, q1, q2, q3, by simp only [cnt] at q4; omega, fun k => by rw [q5]; rfl⟩

theorem parts_both {l : List Fact} (i : Nat) (h1 : l.length ≤ 100) (h2 : ∀ f ∈ l, lightV f) {q a b : List Row} (hq : putAll [] (l.map factRow) = some q) (ha : putAll [] ((l.take i).map factRow) = some a) (hb : putAll [] ((l.drop i).map factRow) = some b) :
    bothL b a = some q := by
  obtain ⟨q', e1, q2, q3, q4, q5⟩ := facts_rows l h1 h2
  obtain rfl : q = q' := Option.some.inj (hq.symm.trans e1)
  obtain ⟨a', e2, a2, a3, a4, a5⟩ := facts_rows (l.take i) (by rw [List.length_take]; omega) (fun f hf => h2 f (List.mem_of_mem_take hf))
  obtain rfl : a = a' := Option.some.inj (ha.symm.trans e2)
  obtain ⟨b', e3, b2, b3, b4, b5⟩ := facts_rows (l.drop i) (by rw [List.length_drop]; omega) (fun f hf => h2 f (List.mem_of_mem_drop hf))
  obtain rfl : b = b' := Option.some.inj (hb.symm.trans e3)
  have hB := both_is b a b2 a2
  have hm : ∀ k c d, getR b k = some c → getR a k = some d → mergeC c d ≠ none := fun k c d hc hd => by
    have l1 := cnt_mem b3 (getR_some hc)
    have l2 := cnt_mem a3 (getR_some hd)
    simp only at l1 l2
    rw [List.length_drop] at b4
    rw [List.length_take] at a4
    rw [(merge_fine (b3.get hc) (a3.get hd) (by omega)).1]
    exact fun h => by cases h
  cases e : bothL b a with
  | none => rw [e] at hB; obtain ⟨k, c, d, c1, c2, c3⟩ := hB; exact absurd c3 (hm k c d c1 c2)
  | some p =>
    rw [e] at hB
    obtain ⟨p1, p2, p3⟩ := hB
    rw [getR_ext p1 q2 fun k => by
      rw [p2, comb_plus (fun c hc => (b3.get hc).ne) (fun d hd => (a3.get hd).ne) (hm k), b5, a5, q5, cellOf_swap]]

theorem tot_fine : ∀ (l : List Row) (acc : Cell), FineL l → Fine acc → acc.n.toInt + cnt l ≤ 100 → ∃ t, totC acc l = some t ∧ t.n.toInt = acc.n.toInt + cnt l
  | [], acc, _, _, _ => ⟨acc, rfl, by simp [cnt]⟩
  | x :: l, acc, h1, h2, h3 => by
    simp only [cnt] at h3
    have hp := cnt_pos h1.cons.2
    obtain ⟨m1, m2, m3⟩ := merge_fine h2 h1.cons.1 (by omega)
    obtain ⟨t, t1, t2⟩ := tot_fine l _ h1.cons.2 m2 (by rw [m3]; omega)
    exact ⟨t, by rw [totC, m1]; exact t1, by rw [t2, m3, cnt]; omega⟩
theorem tot_rows (l : List Row) (h1 : FineL l) (h2 : cnt l ≤ 100) : ∃ t, totC zeroC l = some t ∧ t.n.toInt = cnt l := by
  cases l with
  | nil => exact ⟨zeroC, rfl, rfl⟩
  | cons x l =>
    simp only [cnt] at h2
    have e : mergeC zeroC x.c = some x.c := rfl
    obtain ⟨t, t1, t2⟩ := tot_fine l x.c h1.cons.2 h1.cons.1 h2
    exact ⟨t, by rw [totC, e]; exact t1, t2⟩

end Go.Proofs

namespace Go.Proofs
open Go Go.Av Go.Sort
set_option linter.unusedSimpArgs false
set_option linter.unusedVariables false
set_option maxRecDepth 30000
set_option maxHeartbeats 2000000

theorem factsA_take (l : List Fact) (n : Nat) : (factsA l).take n = factsA (l.take n) := by simp [factsA, List.map_take]
theorem factsA_drop (l : List Fact) (n : Nat) : (factsA l).drop n = factsA (l.drop n) := by simp [factsA, List.map_drop]

theorem factsA_tl (l : List Fact) : List.take l.length (factsA l) = factsA l := List.take_of_length_le (by rw [factsA_len]; exact Nat.le_refl _)

theorem segParts_spec (l : List Fact) (a : Int64) : APure Try.prog 4 [.sl 6 (factsA l) .none, i6 a] (boo true) := by
  intro s
  have hLF := lightF_spec l
  by_cases h1 : lightF l = true
  · rw [h1] at hLF
    have hl : l.length ≤ 100 := by simp only [lightF, Bool.and_eq_true, decide_eq_true_eq] at h1; exact h1.1
    by_cases h2 : a.toInt < 0
    · refine ACalls_body (C := ⟨[]⟩) (c := Try.f4.body.getD .skip) (rs := [.tmp 4]) Try.func4 (by kernel_rfl) (by kernel_rfl) (by kernel_rfl) (Nat.le_of_ble_eq_true rfl) (by kernel_rfl) fun hwf hbel => ?_; simp only [h2,Try.f4, untok_segA, rowsA_len, factsA_len, rowsA_nil, factsA_nil, List.length_append, Int.le_refl, room, i64_0, nx, keysA_len, keysA_nil, segsA_len, mapsA_len, EVL, ite_toInt, ER, EW, Wv_nil, i6, i64, str, boo, EA, EL, ↓EP, binK, pickK, loadK, storeK, EO, Key.av, Cell.av, Fact.av, Row.av, ↓EC, ↓EK, EE, EB, ↓aBuiltin, ↓aAppend, rowsOf, ↓aLen, ↓aSlice, bnd, ↓aIndexAddr, ↓aIndex, ↓aBuild, ↓aBuildSlice, fillL, ↓aMakeSlice, two, ↓opt_some, ↓opt_none, ldAV, aggT, szOf, zeroAV, tys, unders, chunks, spliceL, Cfg.ro, detOp, gval, resAll, resOne, packAV, ↓reduceIte, seval, reduceCtorEq, Int.cast_ofNat_Int, exists_const, implies_true, decide_true, decide_false, if_true, if_false]
      refine hLF.use ?_
      simp only [h2, untok_segA, rowsA_len, factsA_len, rowsA_nil, factsA_nil, List.length_append, Int.le_refl, room, i64_0, nx, keysA_len, keysA_nil, segsA_len, mapsA_len, EVL, ite_toInt, ER, EW, Wv_nil, i6, i64, str, boo, EA, EL, ↓EP, binK, pickK, loadK, storeK, EO, Key.av, Cell.av, Fact.av, Row.av, ↓EC, ↓EK, EE, EB, ↓aBuiltin, ↓aAppend, rowsOf, ↓aLen, ↓aSlice, bnd, ↓aIndexAddr, ↓aIndex, ↓aBuild, ↓aBuildSlice, fillL, ↓aMakeSlice, two, ↓opt_some, ↓opt_none, ldAV, aggT, szOf, zeroAV, tys, unders, chunks, spliceL, Cfg.ro, detOp, gval, resAll, resOne, packAV, ↓reduceIte, seval, reduceCtorEq, Int.cast_ofNat_Int, exists_const, implies_true, decide_true, decide_false, if_true, if_false]
      refine alive_spec.use ?_
      simp only [untok_segA, rowsA_len, factsA_len, rowsA_nil, factsA_nil, List.length_append, Int.le_refl, room, i64_0, nx, keysA_len, keysA_nil, segsA_len, mapsA_len, EVL, ite_toInt, ER, EW, Wv_nil, i6, i64, str, boo, EA, EL, ↓EP, binK, pickK, loadK, storeK, EO, Key.av, Cell.av, Fact.av, Row.av, ↓EC, ↓EK, EE, EB, ↓aBuiltin, ↓aAppend, rowsOf, ↓aLen, ↓aSlice, bnd, ↓aIndexAddr, ↓aIndex, ↓aBuild, ↓aBuildSlice, fillL, ↓aMakeSlice, two, ↓opt_some, ↓opt_none, ldAV, aggT, szOf, zeroAV, tys, unders, chunks, spliceL, Cfg.ro, detOp, gval, resAll, resOne, packAV, ↓reduceIte, seval, reduceCtorEq, Int.cast_ofNat_Int, exists_const, implies_true, decide_true, decide_false, if_true, if_false]
      exact Ret_pure (l := [boo true]) (.inr rfl) rfl (by simp only [untok_segA, rowsA_len, factsA_len, rowsA_nil, factsA_nil, List.length_append, Int.le_refl, room, i64_0, nx, keysA_len, keysA_nil, segsA_len, mapsA_len, EVL, ite_toInt, ER, EW, Wv_nil, i6, i64, str, boo, EA, EL, ↓EP, binK, pickK, loadK, storeK, EO, Key.av, Cell.av, Fact.av, Row.av, ↓EC, ↓EK, EE, EB, ↓aBuiltin, ↓aAppend, rowsOf, ↓aLen, ↓aSlice, bnd, ↓aIndexAddr, ↓aIndex, ↓aBuild, ↓aBuildSlice, fillL, ↓aMakeSlice, two, ↓opt_some, ↓opt_none, ldAV, aggT, szOf, zeroAV, tys, unders, chunks, spliceL, Cfg.ro, detOp, gval, resAll, resOne, packAV, ↓reduceIte, seval, reduceCtorEq, Int.cast_ofNat_Int, exists_const, implies_true, decide_true, decide_false, if_true, if_false] <;> rfl) rfl (by first | exact Keeps.base _ _ | (repeat (first | exact Keeps.base _ _ | refine Keeps.new ?_ _ | refine Keeps.set ?_ (by first | (simp; done) | omega | (simp only [EO]; omega)) _))) (by show Bel _ (packAV [boo true]); exact (by first | exact .v _ | (simp only [packAV, rowsA_bel, factsA_bel, segA_bel, segsA_bel, mapsA_bel, resS, if_true, if_false, Bool.false_eq_true, resC, Key.av, Cell.av, Fact.av, Row.av, zeroC, Bel_v, Bel_tup, Bel_agg, List.forall_mem_map, List.map_nil, false_implies, implies_true, List.mem_cons, List.not_mem_nil, or_false, forall_eq_or_imp, forall_eq, and_self, true_and, and_true, Bel_sl, Bel_ep, tokBel, implies_true])))
    · by_cases h3 : (l.length : Int) < a.toInt
      · refine ACalls_body (C := ⟨[]⟩) (c := Try.f4.body.getD .skip) (rs := [.tmp 4]) Try.func4 (by kernel_rfl) (by kernel_rfl) (by kernel_rfl) (Nat.le_of_ble_eq_true rfl) (by kernel_rfl) fun hwf hbel => ?_; simp only [h2, h3,Try.f4, untok_segA, rowsA_len, factsA_len, rowsA_nil, factsA_nil, List.length_append, Int.le_refl, room, i64_0, nx, keysA_len, keysA_nil, segsA_len, mapsA_len, EVL, ite_toInt, ER, EW, Wv_nil, i6, i64, str, boo, EA, EL, ↓EP, binK, pickK, loadK, storeK, EO, Key.av, Cell.av, Fact.av, Row.av, ↓EC, ↓EK, EE, EB, ↓aBuiltin, ↓aAppend, rowsOf, ↓aLen, ↓aSlice, bnd, ↓aIndexAddr, ↓aIndex, ↓aBuild, ↓aBuildSlice, fillL, ↓aMakeSlice, two, ↓opt_some, ↓opt_none, ldAV, aggT, szOf, zeroAV, tys, unders, chunks, spliceL, Cfg.ro, detOp, gval, resAll, resOne, packAV, ↓reduceIte, seval, reduceCtorEq, Int.cast_ofNat_Int, exists_const, implies_true, decide_true, decide_false, if_true, if_false]
        refine hLF.use ?_
        simp only [h2, h3, untok_segA, rowsA_len, factsA_len, rowsA_nil, factsA_nil, List.length_append, Int.le_refl, room, i64_0, nx, keysA_len, keysA_nil, segsA_len, mapsA_len, EVL, ite_toInt, ER, EW, Wv_nil, i6, i64, str, boo, EA, EL, ↓EP, binK, pickK, loadK, storeK, EO, Key.av, Cell.av, Fact.av, Row.av, ↓EC, ↓EK, EE, EB, ↓aBuiltin, ↓aAppend, rowsOf, ↓aLen, ↓aSlice, bnd, ↓aIndexAddr, ↓aIndex, ↓aBuild, ↓aBuildSlice, fillL, ↓aMakeSlice, two, ↓opt_some, ↓opt_none, ldAV, aggT, szOf, zeroAV, tys, unders, chunks, spliceL, Cfg.ro, detOp, gval, resAll, resOne, packAV, ↓reduceIte, seval, reduceCtorEq, Int.cast_ofNat_Int, exists_const, implies_true, decide_true, decide_false, if_true, if_false]
        refine alive_spec.use ?_
        simp only [untok_segA, rowsA_len, factsA_len, rowsA_nil, factsA_nil, List.length_append, Int.le_refl, room, i64_0, nx, keysA_len, keysA_nil, segsA_len, mapsA_len, EVL, ite_toInt, ER, EW, Wv_nil, i6, i64, str, boo, EA, EL, ↓EP, binK, pickK, loadK, storeK, EO, Key.av, Cell.av, Fact.av, Row.av, ↓EC, ↓EK, EE, EB, ↓aBuiltin, ↓aAppend, rowsOf, ↓aLen, ↓aSlice, bnd, ↓aIndexAddr, ↓aIndex, ↓aBuild, ↓aBuildSlice, fillL, ↓aMakeSlice, two, ↓opt_some, ↓opt_none, ldAV, aggT, szOf, zeroAV, tys, unders, chunks, spliceL, Cfg.ro, detOp, gval, resAll, resOne, packAV, ↓reduceIte, seval, reduceCtorEq, Int.cast_ofNat_Int, exists_const, implies_true, decide_true, decide_false, if_true, if_false]
        exact Ret_pure (l := [boo true]) (.inr rfl) rfl (by simp only [untok_segA, rowsA_len, factsA_len, rowsA_nil, factsA_nil, List.length_append, Int.le_refl, room, i64_0, nx, keysA_len, keysA_nil, segsA_len, mapsA_len, EVL, ite_toInt, ER, EW, Wv_nil, i6, i64, str, boo, EA, EL, ↓EP, binK, pickK, loadK, storeK, EO, Key.av, Cell.av, Fact.av, Row.av, ↓EC, ↓EK, EE, EB, ↓aBuiltin, ↓aAppend, rowsOf, ↓aLen, ↓aSlice, bnd, ↓aIndexAddr, ↓aIndex, ↓aBuild, ↓aBuildSlice, fillL, ↓aMakeSlice, two, ↓opt_some, ↓opt_none, ldAV, aggT, szOf, zeroAV, tys, unders, chunks, spliceL, Cfg.ro, detOp, gval, resAll, resOne, packAV, ↓reduceIte, seval, reduceCtorEq, Int.cast_ofNat_Int, exists_const, implies_true, decide_true, decide_false, if_true, if_false] <;> rfl) rfl (by first | exact Keeps.base _ _ | (repeat (first | exact Keeps.base _ _ | refine Keeps.new ?_ _ | refine Keeps.set ?_ (by first | (simp; done) | omega | (simp only [EO]; omega)) _))) (by show Bel _ (packAV [boo true]); exact (by first | exact .v _ | (simp only [packAV, rowsA_bel, factsA_bel, segA_bel, segsA_bel, mapsA_bel, resS, if_true, if_false, Bool.false_eq_true, resC, Key.av, Cell.av, Fact.av, Row.av, zeroC, Bel_v, Bel_tup, Bel_agg, List.forall_mem_map, List.map_nil, false_implies, implies_true, List.mem_cons, List.not_mem_nil, or_false, forall_eq_or_imp, forall_eq, and_self, true_and, and_true, Bel_sl, Bel_ep, tokBel, implies_true])))
      · obtain ⟨n, hn⟩ : ∃ n : Nat, a.toInt = n := ⟨a.toInt.toNat, by omega⟩
        have h0n : (0 : Int) ≤ (n : Int) := by omega
        have hnl : (n : Int) ≤ (l.length : Int) := by omega
        have hnl2 : n ≤ l.length := by omega
        have hn1 : ¬ (n : Int) < 0 := by omega
        have hn2 : ¬ (l.length : Int) < (n : Int) := by omega
        refine ACalls_body (C := ⟨[]⟩) (c := Try.f4.body.getD .skip) (rs := [.tmp 4]) Try.func4 (by kernel_rfl) (by kernel_rfl) (by kernel_rfl) (Nat.le_of_ble_eq_true rfl) (by kernel_rfl) fun hwf hbel => ?_; simp only [hn, hn1, hn2,Try.f4, untok_segA, rowsA_len, factsA_len, rowsA_nil, factsA_nil, List.length_append, Int.le_refl, room, i64_0, nx, keysA_len, keysA_nil, segsA_len, mapsA_len, EVL, ite_toInt, ER, EW, Wv_nil, i6, i64, str, boo, EA, EL, ↓EP, binK, pickK, loadK, storeK, EO, Key.av, Cell.av, Fact.av, Row.av, ↓EC, ↓EK, EE, EB, ↓aBuiltin, ↓aAppend, rowsOf, ↓aLen, ↓aSlice, bnd, ↓aIndexAddr, ↓aIndex, ↓aBuild, ↓aBuildSlice, fillL, ↓aMakeSlice, two, ↓opt_some, ↓opt_none, ldAV, aggT, szOf, zeroAV, tys, unders, chunks, spliceL, Cfg.ro, detOp, gval, resAll, resOne, packAV, ↓reduceIte, seval, reduceCtorEq, Int.cast_ofNat_Int, exists_const, implies_true, decide_true, decide_false, if_true, if_false]
        refine hLF.use ?_
        simp only [hn, hn1, hn2, untok_segA, rowsA_len, factsA_len, rowsA_nil, factsA_nil, List.length_append, Int.le_refl, room, i64_0, nx, keysA_len, keysA_nil, segsA_len, mapsA_len, EVL, ite_toInt, ER, EW, Wv_nil, i6, i64, str, boo, EA, EL, ↓EP, binK, pickK, loadK, storeK, EO, Key.av, Cell.av, Fact.av, Row.av, ↓EC, ↓EK, EE, EB, ↓aBuiltin, ↓aAppend, rowsOf, ↓aLen, ↓aSlice, bnd, ↓aIndexAddr, ↓aIndex, ↓aBuild, ↓aBuildSlice, fillL, ↓aMakeSlice, two, ↓opt_some, ↓opt_none, ldAV, aggT, szOf, zeroAV, tys, unders, chunks, spliceL, Cfg.ro, detOp, gval, resAll, resOne, packAV, ↓reduceIte, seval, reduceCtorEq, Int.cast_ofNat_Int, exists_const, implies_true, decide_true, decide_false, if_true, if_false]
        refine ALoop_inv (ι := Nat) (fun i => i ≤ l.length ∧ ∀ f ∈ l.take i, lightV f) (fun i => envL [(0, .sl 6 (factsA l) .none), (1, i64 n), (5, i64 i)]) (fun _ => { s with base := ⟨s.next, []⟩ }) (fun i => l.length - i) 0 ⟨Nat.zero_le _, fun f hf => by cases hf⟩ (ent rfl ?_) (fun i hi => ?_)
        · simp only [untok_segA, rowsA_len, factsA_len, rowsA_nil, factsA_nil, List.length_append, Int.le_refl, room, i64_0, nx, keysA_len, keysA_nil, segsA_len, mapsA_len, EVL, ite_toInt, ER, EW, Wv_nil, i6, i64, str, boo, EA, EL, ↓EP, binK, pickK, loadK, storeK, EO, Key.av, Cell.av, Fact.av, Row.av, ↓EC, ↓EK, EE, EB, ↓aBuiltin, ↓aAppend, rowsOf, ↓aLen, ↓aSlice, bnd, ↓aIndexAddr, ↓aIndex, ↓aBuild, ↓aBuildSlice, fillL, ↓aMakeSlice, two, ↓opt_some, ↓opt_none, ldAV, aggT, szOf, zeroAV, tys, unders, chunks, spliceL, Cfg.ro, detOp, gval, resAll, resOne, packAV, ↓reduceIte, seval, reduceCtorEq, Int.cast_ofNat_Int, exists_const, implies_true, decide_true, decide_false, if_true, if_false]
        · obtain ⟨hi, hs⟩ := hi
          by_cases hlt : i < l.length
          · obtain ⟨x, hx⟩ : ∃ x, l[i]? = some x := ⟨_, List.getElem?_eq_getElem hlt⟩
            have gx := factsA_get hx
            have hc : ((i : Int) < (l.length : Int)) := by omega
            have h0 : (0 : Int) ≤ (i : Int) := by omega
            have hw : IntKind.i64.wrap ((i : Int) + 1) = (i : Int) + 1 := wrap_in (by omega) (by omega)
            by_cases hv1 : (1099511627776 : Int) < x.v.toInt
            · simp only [hc, h0, gx, hv1, untok_segA, rowsA_len, factsA_len, rowsA_nil, factsA_nil, List.length_append, Int.le_refl, room, i64_0, nx, keysA_len, keysA_nil, segsA_len, mapsA_len, EVL, ite_toInt, ER, EW, Wv_nil, i6, i64, str, boo, EA, EL, ↓EP, binK, pickK, loadK, storeK, EO, Key.av, Cell.av, Fact.av, Row.av, ↓EC, ↓EK, EE, EB, ↓aBuiltin, ↓aAppend, rowsOf, ↓aLen, ↓aSlice, bnd, ↓aIndexAddr, ↓aIndex, ↓aBuild, ↓aBuildSlice, fillL, ↓aMakeSlice, two, ↓opt_some, ↓opt_none, ldAV, aggT, szOf, zeroAV, tys, unders, chunks, spliceL, Cfg.ro, detOp, gval, resAll, resOne, packAV, ↓reduceIte, seval, reduceCtorEq, Int.cast_ofNat_Int, exists_const, implies_true, decide_true, decide_false, if_true, if_false]
              refine alive_spec.use ?_
              simp only [untok_segA, rowsA_len, factsA_len, rowsA_nil, factsA_nil, List.length_append, Int.le_refl, room, i64_0, nx, keysA_len, keysA_nil, segsA_len, mapsA_len, EVL, ite_toInt, ER, EW, Wv_nil, i6, i64, str, boo, EA, EL, ↓EP, binK, pickK, loadK, storeK, EO, Key.av, Cell.av, Fact.av, Row.av, ↓EC, ↓EK, EE, EB, ↓aBuiltin, ↓aAppend, rowsOf, ↓aLen, ↓aSlice, bnd, ↓aIndexAddr, ↓aIndex, ↓aBuild, ↓aBuildSlice, fillL, ↓aMakeSlice, two, ↓opt_some, ↓opt_none, ldAV, aggT, szOf, zeroAV, tys, unders, chunks, spliceL, Cfg.ro, detOp, gval, resAll, resOne, packAV, ↓reduceIte, seval, reduceCtorEq, Int.cast_ofNat_Int, exists_const, implies_true, decide_true, decide_false, if_true, if_false]
              exact Ret_pure (l := [boo true]) (.inr rfl) rfl (by simp only [untok_segA, rowsA_len, factsA_len, rowsA_nil, factsA_nil, List.length_append, Int.le_refl, room, i64_0, nx, keysA_len, keysA_nil, segsA_len, mapsA_len, EVL, ite_toInt, ER, EW, Wv_nil, i6, i64, str, boo, EA, EL, ↓EP, binK, pickK, loadK, storeK, EO, Key.av, Cell.av, Fact.av, Row.av, ↓EC, ↓EK, EE, EB, ↓aBuiltin, ↓aAppend, rowsOf, ↓aLen, ↓aSlice, bnd, ↓aIndexAddr, ↓aIndex, ↓aBuild, ↓aBuildSlice, fillL, ↓aMakeSlice, two, ↓opt_some, ↓opt_none, ldAV, aggT, szOf, zeroAV, tys, unders, chunks, spliceL, Cfg.ro, detOp, gval, resAll, resOne, packAV, ↓reduceIte, seval, reduceCtorEq, Int.cast_ofNat_Int, exists_const, implies_true, decide_true, decide_false, if_true, if_false] <;> rfl) rfl (by first | exact Keeps.base _ _ | (repeat (first | exact Keeps.base _ _ | refine Keeps.new ?_ _ | refine Keeps.set ?_ (by first | (simp; done) | omega | (simp only [EO]; omega)) _))) (by show Bel _ (packAV [boo true]); exact (by first | exact .v _ | (simp only [packAV, rowsA_bel, factsA_bel, segA_bel, segsA_bel, mapsA_bel, resS, if_true, if_false, Bool.false_eq_true, resC, Key.av, Cell.av, Fact.av, Row.av, zeroC, Bel_v, Bel_tup, Bel_agg, List.forall_mem_map, List.map_nil, false_implies, implies_true, List.mem_cons, List.not_mem_nil, or_false, forall_eq_or_imp, forall_eq, and_self, true_and, and_true, Bel_sl, Bel_ep, tokBel, implies_true])))
            · by_cases hv2 : x.v.toInt < -1099511627776
              · simp only [hc, h0, gx, hv1, hv2, untok_segA, rowsA_len, factsA_len, rowsA_nil, factsA_nil, List.length_append, Int.le_refl, room, i64_0, nx, keysA_len, keysA_nil, segsA_len, mapsA_len, EVL, ite_toInt, ER, EW, Wv_nil, i6, i64, str, boo, EA, EL, ↓EP, binK, pickK, loadK, storeK, EO, Key.av, Cell.av, Fact.av, Row.av, ↓EC, ↓EK, EE, EB, ↓aBuiltin, ↓aAppend, rowsOf, ↓aLen, ↓aSlice, bnd, ↓aIndexAddr, ↓aIndex, ↓aBuild, ↓aBuildSlice, fillL, ↓aMakeSlice, two, ↓opt_some, ↓opt_none, ldAV, aggT, szOf, zeroAV, tys, unders, chunks, spliceL, Cfg.ro, detOp, gval, resAll, resOne, packAV, ↓reduceIte, seval, reduceCtorEq, Int.cast_ofNat_Int, exists_const, implies_true, decide_true, decide_false, if_true, if_false]
                refine alive_spec.use ?_
                simp only [untok_segA, rowsA_len, factsA_len, rowsA_nil, factsA_nil, List.length_append, Int.le_refl, room, i64_0, nx, keysA_len, keysA_nil, segsA_len, mapsA_len, EVL, ite_toInt, ER, EW, Wv_nil, i6, i64, str, boo, EA, EL, ↓EP, binK, pickK, loadK, storeK, EO, Key.av, Cell.av, Fact.av, Row.av, ↓EC, ↓EK, EE, EB, ↓aBuiltin, ↓aAppend, rowsOf, ↓aLen, ↓aSlice, bnd, ↓aIndexAddr, ↓aIndex, ↓aBuild, ↓aBuildSlice, fillL, ↓aMakeSlice, two, ↓opt_some, ↓opt_none, ldAV, aggT, szOf, zeroAV, tys, unders, chunks, spliceL, Cfg.ro, detOp, gval, resAll, resOne, packAV, ↓reduceIte, seval, reduceCtorEq, Int.cast_ofNat_Int, exists_const, implies_true, decide_true, decide_false, if_true, if_false]
                exact Ret_pure (l := [boo true]) (.inr rfl) rfl (by simp only [untok_segA, rowsA_len, factsA_len, rowsA_nil, factsA_nil, List.length_append, Int.le_refl, room, i64_0, nx, keysA_len, keysA_nil, segsA_len, mapsA_len, EVL, ite_toInt, ER, EW, Wv_nil, i6, i64, str, boo, EA, EL, ↓EP, binK, pickK, loadK, storeK, EO, Key.av, Cell.av, Fact.av, Row.av, ↓EC, ↓EK, EE, EB, ↓aBuiltin, ↓aAppend, rowsOf, ↓aLen, ↓aSlice, bnd, ↓aIndexAddr, ↓aIndex, ↓aBuild, ↓aBuildSlice, fillL, ↓aMakeSlice, two, ↓opt_some, ↓opt_none, ldAV, aggT, szOf, zeroAV, tys, unders, chunks, spliceL, Cfg.ro, detOp, gval, resAll, resOne, packAV, ↓reduceIte, seval, reduceCtorEq, Int.cast_ofNat_Int, exists_const, implies_true, decide_true, decide_false, if_true, if_false] <;> rfl) rfl (by first | exact Keeps.base _ _ | (repeat (first | exact Keeps.base _ _ | refine Keeps.new ?_ _ | refine Keeps.set ?_ (by first | (simp; done) | omega | (simp only [EO]; omega)) _))) (by show Bel _ (packAV [boo true]); exact (by first | exact .v _ | (simp only [packAV, rowsA_bel, factsA_bel, segA_bel, segsA_bel, mapsA_bel, resS, if_true, if_false, Bool.false_eq_true, resC, Key.av, Cell.av, Fact.av, Row.av, zeroC, Bel_v, Bel_tup, Bel_agg, List.forall_mem_map, List.map_nil, false_implies, implies_true, List.mem_cons, List.not_mem_nil, or_false, forall_eq_or_imp, forall_eq, and_self, true_and, and_true, Bel_sl, Bel_ep, tokBel, implies_true])))
              · simp only [hc, h0, gx, hv1, hv2, hw, untok_segA, rowsA_len, factsA_len, rowsA_nil, factsA_nil, List.length_append, Int.le_refl, room, i64_0, nx, keysA_len, keysA_nil, segsA_len, mapsA_len, EVL, ite_toInt, ER, EW, Wv_nil, i6, i64, str, boo, EA, EL, ↓EP, binK, pickK, loadK, storeK, EO, Key.av, Cell.av, Fact.av, Row.av, ↓EC, ↓EK, EE, EB, ↓aBuiltin, ↓aAppend, rowsOf, ↓aLen, ↓aSlice, bnd, ↓aIndexAddr, ↓aIndex, ↓aBuild, ↓aBuildSlice, fillL, ↓aMakeSlice, two, ↓opt_some, ↓opt_none, ldAV, aggT, szOf, zeroAV, tys, unders, chunks, spliceL, Cfg.ro, detOp, gval, resAll, resOne, packAV, ↓reduceIte, seval, reduceCtorEq, Int.cast_ofNat_Int, exists_const, implies_true, decide_true, decide_false, if_true, if_false]
                refine round_next (i + 1) ⟨by omega, fun f hf => ?_⟩ (by omega) (ent rfl ?_)
                · rw [take_get hx] at hf
                  rcases List.mem_append.1 hf with hf | hf
                  · exact hs f hf
                  · obtain rfl := List.mem_singleton.1 hf
                    exact ⟨by omega, by omega⟩
                · simp only [untok_segA, rowsA_len, factsA_len, rowsA_nil, factsA_nil, List.length_append, Int.le_refl, room, i64_0, nx, keysA_len, keysA_nil, segsA_len, mapsA_len, EVL, ite_toInt, ER, EW, Wv_nil, i6, i64, str, boo, EA, EL, ↓EP, binK, pickK, loadK, storeK, EO, Key.av, Cell.av, Fact.av, Row.av, ↓EC, ↓EK, EE, EB, ↓aBuiltin, ↓aAppend, rowsOf, ↓aLen, ↓aSlice, bnd, ↓aIndexAddr, ↓aIndex, ↓aBuild, ↓aBuildSlice, fillL, ↓aMakeSlice, two, ↓opt_some, ↓opt_none, ldAV, aggT, szOf, zeroAV, tys, unders, chunks, spliceL, Cfg.ro, detOp, gval, resAll, resOne, packAV, ↓reduceIte, seval, reduceCtorEq, Int.cast_ofNat_Int, exists_const, implies_true, decide_true, decide_false, if_true, if_false]
          · have hc : ¬ ((i : Int) < (l.length : Int)) := by omega
            rw [List.take_of_length_le (by omega)] at hs
            obtain ⟨q, q1, q2, q3, q4, q5⟩ := facts_rows l hl hs
            obtain ⟨qa, a1, a2, a3, a4, a5⟩ := facts_rows (l.take n) (by rw [List.length_take]; omega) (fun f hf => hs f (List.mem_of_mem_take hf))
            obtain ⟨qb, b1, b2, b3, b4, b5⟩ := facts_rows (l.drop n) (by rw [List.length_drop]; omega) (fun f hf => hs f (List.mem_of_mem_drop hf))
            have hboth := parts_both n hl hs q1 a1 b1
            have lq := putAll_len _ _ _ q1
            have la := putAll_len _ _ _ a1
            have lb := putAll_len _ _ _ b1
            simp only [List.length_map, List.length_nil, List.length_take, List.length_drop] at lq la lb
            have ho := of_seg l (by omega)
            have hoa := of_seg (l.take n) (by rw [List.length_take]; omega)
            have hob := of_seg (l.drop n) (by rw [List.length_drop]; omega)
            rw [ofs_eq, q1] at ho
            rw [ofs_eq, a1] at hoa
            rw [ofs_eq, b1] at hob
            have hm : APure Try.prog 21 [.sl 1 [[segA (some qb)], [segA (some qa)]] .none] (resO (some q)) := by
              have h := merges_spec [some qb, some qa] (by simp) (by simp only [weigh, List.map_cons, List.map_nil, List.sum_cons, List.sum_nil, Option.getD_some]; omega)
              rw [show mergeAll [] [some qb, some qa] = some q by simp only [mergeAll, bothL, Option.bind_some, hboth]] at h
              exact h
            obtain ⟨t, t1, t2⟩ := tot_rows q q3 (by omega)
            have ht := total_spec (some q) (by simp only [Option.getD_some]; omega)
            simp only [Option.getD_some] at ht
            rw [t1] at ht
            have hS := sames_spec (some q) (some q) (by simp only [Option.getD_some]; omega)
            simp only [decide_true] at hS
            rw [q4] at t2
            simp only [hc, untok_segA, rowsA_len, factsA_len, rowsA_nil, factsA_nil, List.length_append, Int.le_refl, room, i64_0, nx, keysA_len, keysA_nil, segsA_len, mapsA_len, EVL, ite_toInt, ER, EW, Wv_nil, i6, i64, str, boo, EA, EL, ↓EP, binK, pickK, loadK, storeK, EO, Key.av, Cell.av, Fact.av, Row.av, ↓EC, ↓EK, EE, EB, ↓aBuiltin, ↓aAppend, rowsOf, ↓aLen, ↓aSlice, bnd, ↓aIndexAddr, ↓aIndex, ↓aBuild, ↓aBuildSlice, fillL, ↓aMakeSlice, two, ↓opt_some, ↓opt_none, ldAV, aggT, szOf, zeroAV, tys, unders, chunks, spliceL, Cfg.ro, detOp, gval, resAll, resOne, packAV, ↓reduceIte, seval, reduceCtorEq, Int.cast_ofNat_Int, exists_const, implies_true, decide_true, decide_false, if_true, if_false]
            refine ho.use ?_
            simp only [resO, resS, hnl, h0n, factsA_take, factsA_drop, List.take_length, untok_segA, rowsA_len, factsA_len, rowsA_nil, factsA_nil, List.length_append, Int.le_refl, room, i64_0, nx, keysA_len, keysA_nil, segsA_len, mapsA_len, EVL, ite_toInt, ER, EW, Wv_nil, i6, i64, str, boo, EA, EL, ↓EP, binK, pickK, loadK, storeK, EO, Key.av, Cell.av, Fact.av, Row.av, ↓EC, ↓EK, EE, EB, ↓aBuiltin, ↓aAppend, rowsOf, ↓aLen, ↓aSlice, bnd, ↓aIndexAddr, ↓aIndex, ↓aBuild, ↓aBuildSlice, fillL, ↓aMakeSlice, two, ↓opt_some, ↓opt_none, ldAV, aggT, szOf, zeroAV, tys, unders, chunks, spliceL, Cfg.ro, detOp, gval, resAll, resOne, packAV, ↓reduceIte, seval, reduceCtorEq, Int.cast_ofNat_Int, exists_const, implies_true, decide_true, decide_false, if_true, if_false]
            refine hoa.use ?_
            simp only [resO, resS, hnl, h0n, factsA_take, factsA_drop, List.take_length, untok_segA, rowsA_len, factsA_len, rowsA_nil, factsA_nil, List.length_append, Int.le_refl, room, i64_0, nx, keysA_len, keysA_nil, segsA_len, mapsA_len, EVL, ite_toInt, ER, EW, Wv_nil, i6, i64, str, boo, EA, EL, ↓EP, binK, pickK, loadK, storeK, EO, Key.av, Cell.av, Fact.av, Row.av, ↓EC, ↓EK, EE, EB, ↓aBuiltin, ↓aAppend, rowsOf, ↓aLen, ↓aSlice, bnd, ↓aIndexAddr, ↓aIndex, ↓aBuild, ↓aBuildSlice, fillL, ↓aMakeSlice, two, ↓opt_some, ↓opt_none, ldAV, aggT, szOf, zeroAV, tys, unders, chunks, spliceL, Cfg.ro, detOp, gval, resAll, resOne, packAV, ↓reduceIte, seval, reduceCtorEq, Int.cast_ofNat_Int, exists_const, implies_true, decide_true, decide_false, if_true, if_false]
            refine hob.use ?_
            simp only [resO, resS, untok_segA, rowsA_len, factsA_len, rowsA_nil, factsA_nil, List.length_append, Int.le_refl, room, i64_0, nx, keysA_len, keysA_nil, segsA_len, mapsA_len, EVL, ite_toInt, ER, EW, Wv_nil, i6, i64, str, boo, EA, EL, ↓EP, binK, pickK, loadK, storeK, EO, Key.av, Cell.av, Fact.av, Row.av, ↓EC, ↓EK, EE, EB, ↓aBuiltin, ↓aAppend, rowsOf, ↓aLen, ↓aSlice, bnd, ↓aIndexAddr, ↓aIndex, ↓aBuild, ↓aBuildSlice, fillL, ↓aMakeSlice, two, ↓opt_some, ↓opt_none, ldAV, aggT, szOf, zeroAV, tys, unders, chunks, spliceL, Cfg.ro, detOp, gval, resAll, resOne, packAV, ↓reduceIte, seval, reduceCtorEq, Int.cast_ofNat_Int, exists_const, implies_true, decide_true, decide_false, if_true, if_false]
            refine hm.use ?_
            simp only [resO, resS, untok_segA, rowsA_len, factsA_len, rowsA_nil, factsA_nil, List.length_append, Int.le_refl, room, i64_0, nx, keysA_len, keysA_nil, segsA_len, mapsA_len, EVL, ite_toInt, ER, EW, Wv_nil, i6, i64, str, boo, EA, EL, ↓EP, binK, pickK, loadK, storeK, EO, Key.av, Cell.av, Fact.av, Row.av, ↓EC, ↓EK, EE, EB, ↓aBuiltin, ↓aAppend, rowsOf, ↓aLen, ↓aSlice, bnd, ↓aIndexAddr, ↓aIndex, ↓aBuild, ↓aBuildSlice, fillL, ↓aMakeSlice, two, ↓opt_some, ↓opt_none, ldAV, aggT, szOf, zeroAV, tys, unders, chunks, spliceL, Cfg.ro, detOp, gval, resAll, resOne, packAV, ↓reduceIte, seval, reduceCtorEq, Int.cast_ofNat_Int, exists_const, implies_true, decide_true, decide_false, if_true, if_false]
            refine ht.use ?_
            simp only [resC, untok_segA, rowsA_len, factsA_len, rowsA_nil, factsA_nil, List.length_append, Int.le_refl, room, i64_0, nx, keysA_len, keysA_nil, segsA_len, mapsA_len, EVL, ite_toInt, ER, EW, Wv_nil, i6, i64, str, boo, EA, EL, ↓EP, binK, pickK, loadK, storeK, EO, Key.av, Cell.av, Fact.av, Row.av, ↓EC, ↓EK, EE, EB, ↓aBuiltin, ↓aAppend, rowsOf, ↓aLen, ↓aSlice, bnd, ↓aIndexAddr, ↓aIndex, ↓aBuild, ↓aBuildSlice, fillL, ↓aMakeSlice, two, ↓opt_some, ↓opt_none, ldAV, aggT, szOf, zeroAV, tys, unders, chunks, spliceL, Cfg.ro, detOp, gval, resAll, resOne, packAV, ↓reduceIte, seval, reduceCtorEq, Int.cast_ofNat_Int, exists_const, implies_true, decide_true, decide_false, if_true, if_false]
            refine hS.use ?_
            simp only [untok_segA, rowsA_len, factsA_len, rowsA_nil, factsA_nil, List.length_append, Int.le_refl, room, i64_0, nx, keysA_len, keysA_nil, segsA_len, mapsA_len, EVL, ite_toInt, ER, EW, Wv_nil, i6, i64, str, boo, EA, EL, ↓EP, binK, pickK, loadK, storeK, EO, Key.av, Cell.av, Fact.av, Row.av, ↓EC, ↓EK, EE, EB, ↓aBuiltin, ↓aAppend, rowsOf, ↓aLen, ↓aSlice, bnd, ↓aIndexAddr, ↓aIndex, ↓aBuild, ↓aBuildSlice, fillL, ↓aMakeSlice, two, ↓opt_some, ↓opt_none, ldAV, aggT, szOf, zeroAV, tys, unders, chunks, spliceL, Cfg.ro, detOp, gval, resAll, resOne, packAV, ↓reduceIte, seval, reduceCtorEq, Int.cast_ofNat_Int, exists_const, implies_true, decide_true, decide_false, if_true, if_false]
            refine hS.use ?_
            simp only [t2, untok_segA, rowsA_len, factsA_len, rowsA_nil, factsA_nil, List.length_append, Int.le_refl, room, i64_0, nx, keysA_len, keysA_nil, segsA_len, mapsA_len, EVL, ite_toInt, ER, EW, Wv_nil, i6, i64, str, boo, EA, EL, ↓EP, binK, pickK, loadK, storeK, EO, Key.av, Cell.av, Fact.av, Row.av, ↓EC, ↓EK, EE, EB, ↓aBuiltin, ↓aAppend, rowsOf, ↓aLen, ↓aSlice, bnd, ↓aIndexAddr, ↓aIndex, ↓aBuild, ↓aBuildSlice, fillL, ↓aMakeSlice, two, ↓opt_some, ↓opt_none, ldAV, aggT, szOf, zeroAV, tys, unders, chunks, spliceL, Cfg.ro, detOp, gval, resAll, resOne, packAV, ↓reduceIte, seval, reduceCtorEq, Int.cast_ofNat_Int, exists_const, implies_true, decide_true, decide_false, if_true, if_false]
            refine alive_spec.use ?_
            simp only [untok_segA, rowsA_len, factsA_len, rowsA_nil, factsA_nil, List.length_append, Int.le_refl, room, i64_0, nx, keysA_len, keysA_nil, segsA_len, mapsA_len, EVL, ite_toInt, ER, EW, Wv_nil, i6, i64, str, boo, EA, EL, ↓EP, binK, pickK, loadK, storeK, EO, Key.av, Cell.av, Fact.av, Row.av, ↓EC, ↓EK, EE, EB, ↓aBuiltin, ↓aAppend, rowsOf, ↓aLen, ↓aSlice, bnd, ↓aIndexAddr, ↓aIndex, ↓aBuild, ↓aBuildSlice, fillL, ↓aMakeSlice, two, ↓opt_some, ↓opt_none, ldAV, aggT, szOf, zeroAV, tys, unders, chunks, spliceL, Cfg.ro, detOp, gval, resAll, resOne, packAV, ↓reduceIte, seval, reduceCtorEq, Int.cast_ofNat_Int, exists_const, implies_true, decide_true, decide_false, if_true, if_false]
            exact Ret_pure (l := [boo true]) (.inr rfl) rfl (by simp only [untok_segA, rowsA_len, factsA_len, rowsA_nil, factsA_nil, List.length_append, Int.le_refl, room, i64_0, nx, keysA_len, keysA_nil, segsA_len, mapsA_len, EVL, ite_toInt, ER, EW, Wv_nil, i6, i64, str, boo, EA, EL, ↓EP, binK, pickK, loadK, storeK, EO, Key.av, Cell.av, Fact.av, Row.av, ↓EC, ↓EK, EE, EB, ↓aBuiltin, ↓aAppend, rowsOf, ↓aLen, ↓aSlice, bnd, ↓aIndexAddr, ↓aIndex, ↓aBuild, ↓aBuildSlice, fillL, ↓aMakeSlice, two, ↓opt_some, ↓opt_none, ldAV, aggT, szOf, zeroAV, tys, unders, chunks, spliceL, Cfg.ro, detOp, gval, resAll, resOne, packAV, ↓reduceIte, seval, reduceCtorEq, Int.cast_ofNat_Int, exists_const, implies_true, decide_true, decide_false, if_true, if_false] <;> rfl) rfl (by first | exact Keeps.base _ _ | (repeat (first | exact Keeps.base _ _ | refine Keeps.new ?_ _ | refine Keeps.set ?_ (by first | (simp; done) | omega | (simp only [EO]; omega)) _))) (by show Bel _ (packAV [boo true]); exact (by first | exact .v _ | (simp only [packAV, rowsA_bel, factsA_bel, segA_bel, segsA_bel, mapsA_bel, resS, if_true, if_false, Bool.false_eq_true, resC, Key.av, Cell.av, Fact.av, Row.av, zeroC, Bel_v, Bel_tup, Bel_agg, List.forall_mem_map, List.map_nil, false_implies, implies_true, List.mem_cons, List.not_mem_nil, or_false, forall_eq_or_imp, forall_eq, and_self, true_and, and_true, Bel_sl, Bel_ep, tokBel, implies_true])))
  · have h1 : lightF l = false := by simpa using h1
    rw [h1] at hLF
    refine ACalls_body (C := ⟨[]⟩) (c := Try.f4.body.getD .skip) (rs := [.tmp 4]) Try.func4 (by kernel_rfl) (by kernel_rfl) (by kernel_rfl) (Nat.le_of_ble_eq_true rfl) (by kernel_rfl) fun hwf hbel => ?_; simp only [Try.f4, untok_segA, rowsA_len, factsA_len, rowsA_nil, factsA_nil, List.length_append, Int.le_refl, room, i64_0, nx, keysA_len, keysA_nil, segsA_len, mapsA_len, EVL, ite_toInt, ER, EW, Wv_nil, i6, i64, str, boo, EA, EL, ↓EP, binK, pickK, loadK, storeK, EO, Key.av, Cell.av, Fact.av, Row.av, ↓EC, ↓EK, EE, EB, ↓aBuiltin, ↓aAppend, rowsOf, ↓aLen, ↓aSlice, bnd, ↓aIndexAddr, ↓aIndex, ↓aBuild, ↓aBuildSlice, fillL, ↓aMakeSlice, two, ↓opt_some, ↓opt_none, ldAV, aggT, szOf, zeroAV, tys, unders, chunks, spliceL, Cfg.ro, detOp, gval, resAll, resOne, packAV, ↓reduceIte, seval, reduceCtorEq, Int.cast_ofNat_Int, exists_const, implies_true, decide_true, decide_false, if_true, if_false]
    refine hLF.use ?_
    simp only [untok_segA, rowsA_len, factsA_len, rowsA_nil, factsA_nil, List.length_append, Int.le_refl, room, i64_0, nx, keysA_len, keysA_nil, segsA_len, mapsA_len, EVL, ite_toInt, ER, EW, Wv_nil, i6, i64, str, boo, EA, EL, ↓EP, binK, pickK, loadK, storeK, EO, Key.av, Cell.av, Fact.av, Row.av, ↓EC, ↓EK, EE, EB, ↓aBuiltin, ↓aAppend, rowsOf, ↓aLen, ↓aSlice, bnd, ↓aIndexAddr, ↓aIndex, ↓aBuild, ↓aBuildSlice, fillL, ↓aMakeSlice, two, ↓opt_some, ↓opt_none, ldAV, aggT, szOf, zeroAV, tys, unders, chunks, spliceL, Cfg.ro, detOp, gval, resAll, resOne, packAV, ↓reduceIte, seval, reduceCtorEq, Int.cast_ofNat_Int, exists_const, implies_true, decide_true, decide_false, if_true, if_false]
    refine alive_spec.use ?_
    simp only [untok_segA, rowsA_len, factsA_len, rowsA_nil, factsA_nil, List.length_append, Int.le_refl, room, i64_0, nx, keysA_len, keysA_nil, segsA_len, mapsA_len, EVL, ite_toInt, ER, EW, Wv_nil, i6, i64, str, boo, EA, EL, ↓EP, binK, pickK, loadK, storeK, EO, Key.av, Cell.av, Fact.av, Row.av, ↓EC, ↓EK, EE, EB, ↓aBuiltin, ↓aAppend, rowsOf, ↓aLen, ↓aSlice, bnd, ↓aIndexAddr, ↓aIndex, ↓aBuild, ↓aBuildSlice, fillL, ↓aMakeSlice, two, ↓opt_some, ↓opt_none, ldAV, aggT, szOf, zeroAV, tys, unders, chunks, spliceL, Cfg.ro, detOp, gval, resAll, resOne, packAV, ↓reduceIte, seval, reduceCtorEq, Int.cast_ofNat_Int, exists_const, implies_true, decide_true, decide_false, if_true, if_false]
    exact Ret_pure (l := [boo true]) (.inr rfl) rfl (by simp only [untok_segA, rowsA_len, factsA_len, rowsA_nil, factsA_nil, List.length_append, Int.le_refl, room, i64_0, nx, keysA_len, keysA_nil, segsA_len, mapsA_len, EVL, ite_toInt, ER, EW, Wv_nil, i6, i64, str, boo, EA, EL, ↓EP, binK, pickK, loadK, storeK, EO, Key.av, Cell.av, Fact.av, Row.av, ↓EC, ↓EK, EE, EB, ↓aBuiltin, ↓aAppend, rowsOf, ↓aLen, ↓aSlice, bnd, ↓aIndexAddr, ↓aIndex, ↓aBuild, ↓aBuildSlice, fillL, ↓aMakeSlice, two, ↓opt_some, ↓opt_none, ldAV, aggT, szOf, zeroAV, tys, unders, chunks, spliceL, Cfg.ro, detOp, gval, resAll, resOne, packAV, ↓reduceIte, seval, reduceCtorEq, Int.cast_ofNat_Int, exists_const, implies_true, decide_true, decide_false, if_true, if_false] <;> rfl) rfl (by first | exact Keeps.base _ _ | (repeat (first | exact Keeps.base _ _ | refine Keeps.new ?_ _ | refine Keeps.set ?_ (by first | (simp; done) | omega | (simp only [EO]; omega)) _))) (by show Bel _ (packAV [boo true]); exact (by first | exact .v _ | (simp only [packAV, rowsA_bel, factsA_bel, segA_bel, segsA_bel, mapsA_bel, resS, if_true, if_false, Bool.false_eq_true, resC, Key.av, Cell.av, Fact.av, Row.av, zeroC, Bel_v, Bel_tup, Bel_agg, List.forall_mem_map, List.map_nil, false_implies, implies_true, List.mem_cons, List.not_mem_nil, or_false, forall_eq_or_imp, forall_eq, and_self, true_and, and_true, Bel_sl, Bel_ep, tokBel, implies_true])))

end Go.Proofs
