/- Part of the proof of a law of this seat: the texts S21 S22 S23 S24, in this order. -/
import Derived.Test.YthldahfkngeehaaP
namespace Go.Proofs
open Go Go.Av Go.Sort
set_option linter.unusedSimpArgs false
set_option linter.unusedVariables false
set_option maxRecDepth 30000
set_option maxHeartbeats 2000000

theorem equal_spec (l m : List Row) (hl : l.length ≤ 1000000) : APure Try.prog 59 [.sl 9 (rowsA l) .none, .sl 9 (rowsA m) .none] (boo (decide (l = m))) := by
  intro s
  by_cases hlen : l.length = m.length
  · generalize hr : decide (l = m) = r
    have hlen' : (l.length : Int) = (m.length : Int) := by omega
    refine ACalls_body (C := ⟨[]⟩) (c := Try.f59.body.getD .skip) (rs := [.tmp 4]) Try.func59 (by kernel_rfl) (by kernel_rfl) (by kernel_rfl) (Nat.le_of_ble_eq_true rfl) (by kernel_rfl) fun hwf hbel => ?_; simp only [hlen',Try.f59, untok_segA, rowsA_len, factsA_len, rowsA_nil, factsA_nil, List.length_append, Int.le_refl, room, i64_0, nx, keysA_len, keysA_nil, EVL, ite_toInt, ER, EW, Wv_nil, i6, i64, str, boo, EA, EL, ↓EP, binK, pickK, loadK, storeK, EO, Key.av, Cell.av, Fact.av, Row.av, ↓EC, ↓EK, EE, EB, ↓aBuiltin, ↓aAppend, rowsOf, ↓aLen, ↓aSlice, bnd, ↓aIndexAddr, ↓aIndex, ↓aBuild, ↓aBuildSlice, fillL, ↓aMakeSlice, two, ↓opt_some, ↓opt_none, ldAV, aggT, szOf, zeroAV, tys, unders, chunks, spliceL, Cfg.ro, detOp, gval, resAll, resOne, packAV, ↓reduceIte, seval, reduceCtorEq, Int.cast_ofNat_Int, exists_const, implies_true, decide_true, decide_false, if_true, if_false]
    refine ALoop_inv (ι := Nat) (fun i => i ≤ l.length ∧ r = decide (l.drop i = m.drop i)) (fun i => envL [(0, .sl 9 (rowsA l) .none), (1, .sl 9 (rowsA m) .none), (12, i64 l.length), (13, i64 i)]) (fun _ => { s with base := ⟨s.next, []⟩ }) (fun i => l.length - i) 0 ⟨Nat.zero_le _, by rw [← hr]; rfl⟩ (ent rfl ?_) (fun i hi => ?_)
    · simp only [hlen', untok_segA, rowsA_len, factsA_len, rowsA_nil, factsA_nil, List.length_append, Int.le_refl, room, i64_0, nx, keysA_len, keysA_nil, EVL, ite_toInt, ER, EW, Wv_nil, i6, i64, str, boo, EA, EL, ↓EP, binK, pickK, loadK, storeK, EO, Key.av, Cell.av, Fact.av, Row.av, ↓EC, ↓EK, EE, EB, ↓aBuiltin, ↓aAppend, rowsOf, ↓aLen, ↓aSlice, bnd, ↓aIndexAddr, ↓aIndex, ↓aBuild, ↓aBuildSlice, fillL, ↓aMakeSlice, two, ↓opt_some, ↓opt_none, ldAV, aggT, szOf, zeroAV, tys, unders, chunks, spliceL, Cfg.ro, detOp, gval, resAll, resOne, packAV, ↓reduceIte, seval, reduceCtorEq, Int.cast_ofNat_Int, exists_const, implies_true, decide_true, decide_false, if_true, if_false]
    · obtain ⟨hi, hs⟩ := hi
      by_cases hlt : i < l.length
      · obtain ⟨x, hx⟩ : ∃ x, l[i]? = some x := ⟨_, List.getElem?_eq_getElem hlt⟩
        obtain ⟨y, hy⟩ : ∃ y, m[i]? = some y := ⟨_, List.getElem?_eq_getElem (by omega)⟩
        have gx := rowsA_get hx
        have gy := rowsA_get hy
        have hc : ((i : Int) < (l.length : Int)) := by omega
        have hc2 : ((i : Int) < (m.length : Int)) := by omega
        have h0 : (0 : Int) ≤ (i : Int) := by omega
        have hw : IntKind.i64.wrap ((i : Int) + 1) = (i : Int) + 1 := wrap_in (by omega) (by omega)
        simp only [hc, untok_segA, rowsA_len, factsA_len, rowsA_nil, factsA_nil, List.length_append, Int.le_refl, room, i64_0, nx, keysA_len, keysA_nil, EVL, ite_toInt, ER, EW, Wv_nil, i6, i64, str, boo, EA, EL, ↓EP, binK, pickK, loadK, storeK, EO, Key.av, Cell.av, Fact.av, Row.av, ↓EC, ↓EK, EE, EB, ↓aBuiltin, ↓aAppend, rowsOf, ↓aLen, ↓aSlice, bnd, ↓aIndexAddr, ↓aIndex, ↓aBuild, ↓aBuildSlice, fillL, ↓aMakeSlice, two, ↓opt_some, ↓opt_none, ldAV, aggT, szOf, zeroAV, tys, unders, chunks, spliceL, Cfg.ro, detOp, gval, resAll, resOne, packAV, ↓reduceIte, seval, reduceCtorEq, Int.cast_ofNat_Int, exists_const, implies_true, decide_true, decide_false, if_true, if_false]
        refine aDraw_walk mixed (by kernel_rfl) ?_; simp only [hc, hc2, h0, gx, gy, untok_segA, rowsA_len, factsA_len, rowsA_nil, factsA_nil, List.length_append, Int.le_refl, room, i64_0, nx, keysA_len, keysA_nil, EVL, ite_toInt, ER, EW, Wv_nil, i6, i64, str, boo, EA, EL, ↓EP, binK, pickK, loadK, storeK, EO, Key.av, Cell.av, Fact.av, Row.av, ↓EC, ↓EK, EE, EB, ↓aBuiltin, ↓aAppend, rowsOf, ↓aLen, ↓aSlice, bnd, ↓aIndexAddr, ↓aIndex, ↓aBuild, ↓aBuildSlice, fillL, ↓aMakeSlice, two, ↓opt_some, ↓opt_none, ldAV, aggT, szOf, zeroAV, tys, unders, chunks, spliceL, Cfg.ro, detOp, gval, resAll, resOne, packAV, ↓reduceIte, seval, reduceCtorEq, Int.cast_ofNat_Int, exists_const, implies_true, decide_true, decide_false, if_true, if_false]
        refine eqK_use (aeq_row x y) ?_
        by_cases hxy : x = y
        · simp only [hxy, hw, bne_self_eq_false, untok_segA, rowsA_len, factsA_len, rowsA_nil, factsA_nil, List.length_append, Int.le_refl, room, i64_0, nx, keysA_len, keysA_nil, EVL, ite_toInt, ER, EW, Wv_nil, i6, i64, str, boo, EA, EL, ↓EP, binK, pickK, loadK, storeK, EO, Key.av, Cell.av, Fact.av, Row.av, ↓EC, ↓EK, EE, EB, ↓aBuiltin, ↓aAppend, rowsOf, ↓aLen, ↓aSlice, bnd, ↓aIndexAddr, ↓aIndex, ↓aBuild, ↓aBuildSlice, fillL, ↓aMakeSlice, two, ↓opt_some, ↓opt_none, ldAV, aggT, szOf, zeroAV, tys, unders, chunks, spliceL, Cfg.ro, detOp, gval, resAll, resOne, packAV, ↓reduceIte, seval, reduceCtorEq, Int.cast_ofNat_Int, exists_const, implies_true, decide_true, decide_false, if_true, if_false]
          refine round_next (i + 1) ⟨by omega, by rw [hs, drop_get hx, drop_get hy, hxy]; simp⟩ (by omega) (ent rfl ?_)
          simp only [untok_segA, rowsA_len, factsA_len, rowsA_nil, factsA_nil, List.length_append, Int.le_refl, room, i64_0, nx, keysA_len, keysA_nil, EVL, ite_toInt, ER, EW, Wv_nil, i6, i64, str, boo, EA, EL, ↓EP, binK, pickK, loadK, storeK, EO, Key.av, Cell.av, Fact.av, Row.av, ↓EC, ↓EK, EE, EB, ↓aBuiltin, ↓aAppend, rowsOf, ↓aLen, ↓aSlice, bnd, ↓aIndexAddr, ↓aIndex, ↓aBuild, ↓aBuildSlice, fillL, ↓aMakeSlice, two, ↓opt_some, ↓opt_none, ldAV, aggT, szOf, zeroAV, tys, unders, chunks, spliceL, Cfg.ro, detOp, gval, resAll, resOne, packAV, ↓reduceIte, seval, reduceCtorEq, Int.cast_ofNat_Int, exists_const, implies_true, decide_true, decide_false, if_true, if_false]
        · simp only [hxy, untok_segA, rowsA_len, factsA_len, rowsA_nil, factsA_nil, List.length_append, Int.le_refl, room, i64_0, nx, keysA_len, keysA_nil, EVL, ite_toInt, ER, EW, Wv_nil, i6, i64, str, boo, EA, EL, ↓EP, binK, pickK, loadK, storeK, EO, Key.av, Cell.av, Fact.av, Row.av, ↓EC, ↓EK, EE, EB, ↓aBuiltin, ↓aAppend, rowsOf, ↓aLen, ↓aSlice, bnd, ↓aIndexAddr, ↓aIndex, ↓aBuild, ↓aBuildSlice, fillL, ↓aMakeSlice, two, ↓opt_some, ↓opt_none, ldAV, aggT, szOf, zeroAV, tys, unders, chunks, spliceL, Cfg.ro, detOp, gval, resAll, resOne, packAV, ↓reduceIte, seval, reduceCtorEq, Int.cast_ofNat_Int, exists_const, implies_true, decide_true, decide_false, if_true, if_false]
          rw [show r = false by rw [hs, drop_get hx, drop_get hy]; simp [hxy]]
          exact Ret_pure (l := [boo false]) (.inr rfl) rfl (by simp only [untok_segA, rowsA_len, factsA_len, rowsA_nil, factsA_nil, List.length_append, Int.le_refl, room, i64_0, nx, keysA_len, keysA_nil, EVL, ite_toInt, ER, EW, Wv_nil, i6, i64, str, boo, EA, EL, ↓EP, binK, pickK, loadK, storeK, EO, Key.av, Cell.av, Fact.av, Row.av, ↓EC, ↓EK, EE, EB, ↓aBuiltin, ↓aAppend, rowsOf, ↓aLen, ↓aSlice, bnd, ↓aIndexAddr, ↓aIndex, ↓aBuild, ↓aBuildSlice, fillL, ↓aMakeSlice, two, ↓opt_some, ↓opt_none, ldAV, aggT, szOf, zeroAV, tys, unders, chunks, spliceL, Cfg.ro, detOp, gval, resAll, resOne, packAV, ↓reduceIte, seval, reduceCtorEq, Int.cast_ofNat_Int, exists_const, implies_true, decide_true, decide_false, if_true, if_false] <;> rfl) rfl (by first | exact Keeps.base _ _ | (repeat (first | exact Keeps.base _ _ | refine Keeps.new ?_ _ | refine Keeps.set ?_ (by first | (simp; done) | omega | (simp only [EO]; omega)) _))) (by show Bel _ (packAV [boo false]); exact (by first | exact .v _ | (simp only [packAV, rowsA_bel, factsA_bel, segA_bel, resS, if_true, if_false, Bool.false_eq_true, resC, Key.av, Cell.av, Fact.av, Row.av, zeroC, Bel_v, Bel_tup, Bel_agg, List.forall_mem_map, List.map_nil, false_implies, implies_true, List.mem_cons, List.not_mem_nil, or_false, forall_eq_or_imp, forall_eq, and_self, true_and, and_true, Bel_sl, Bel_ep, tokBel, implies_true])))
      · have hc : ¬ ((i : Int) < (l.length : Int)) := by omega
        simp only [hc, untok_segA, rowsA_len, factsA_len, rowsA_nil, factsA_nil, List.length_append, Int.le_refl, room, i64_0, nx, keysA_len, keysA_nil, EVL, ite_toInt, ER, EW, Wv_nil, i6, i64, str, boo, EA, EL, ↓EP, binK, pickK, loadK, storeK, EO, Key.av, Cell.av, Fact.av, Row.av, ↓EC, ↓EK, EE, EB, ↓aBuiltin, ↓aAppend, rowsOf, ↓aLen, ↓aSlice, bnd, ↓aIndexAddr, ↓aIndex, ↓aBuild, ↓aBuildSlice, fillL, ↓aMakeSlice, two, ↓opt_some, ↓opt_none, ldAV, aggT, szOf, zeroAV, tys, unders, chunks, spliceL, Cfg.ro, detOp, gval, resAll, resOne, packAV, ↓reduceIte, seval, reduceCtorEq, Int.cast_ofNat_Int, exists_const, implies_true, decide_true, decide_false, if_true, if_false]
        rw [show r = true by rw [hs, List.drop_eq_nil_of_le (by omega), List.drop_eq_nil_of_le (by omega)]; simp]
        exact Ret_pure (l := [boo true]) (.inr rfl) rfl (by simp only [untok_segA, rowsA_len, factsA_len, rowsA_nil, factsA_nil, List.length_append, Int.le_refl, room, i64_0, nx, keysA_len, keysA_nil, EVL, ite_toInt, ER, EW, Wv_nil, i6, i64, str, boo, EA, EL, ↓EP, binK, pickK, loadK, storeK, EO, Key.av, Cell.av, Fact.av, Row.av, ↓EC, ↓EK, EE, EB, ↓aBuiltin, ↓aAppend, rowsOf, ↓aLen, ↓aSlice, bnd, ↓aIndexAddr, ↓aIndex, ↓aBuild, ↓aBuildSlice, fillL, ↓aMakeSlice, two, ↓opt_some, ↓opt_none, ldAV, aggT, szOf, zeroAV, tys, unders, chunks, spliceL, Cfg.ro, detOp, gval, resAll, resOne, packAV, ↓reduceIte, seval, reduceCtorEq, Int.cast_ofNat_Int, exists_const, implies_true, decide_true, decide_false, if_true, if_false] <;> rfl) rfl (by first | exact Keeps.base _ _ | (repeat (first | exact Keeps.base _ _ | refine Keeps.new ?_ _ | refine Keeps.set ?_ (by first | (simp; done) | omega | (simp only [EO]; omega)) _))) (by show Bel _ (packAV [boo true]); exact (by first | exact .v _ | (simp only [packAV, rowsA_bel, factsA_bel, segA_bel, resS, if_true, if_false, Bool.false_eq_true, resC, Key.av, Cell.av, Fact.av, Row.av, zeroC, Bel_v, Bel_tup, Bel_agg, List.forall_mem_map, List.map_nil, false_implies, implies_true, List.mem_cons, List.not_mem_nil, or_false, forall_eq_or_imp, forall_eq, and_self, true_and, and_true, Bel_sl, Bel_ep, tokBel, implies_true])))
  · have hlen' : ¬ ((l.length : Int) = (m.length : Int)) := by omega
    rw [show decide (l = m) = false by simp only [decide_eq_false_iff_not]; intro e; exact hlen (by rw [e])]
    refine ACalls_body (C := ⟨[]⟩) (c := Try.f59.body.getD .skip) (rs := [.tmp 4]) Try.func59 (by kernel_rfl) (by kernel_rfl) (by kernel_rfl) (Nat.le_of_ble_eq_true rfl) (by kernel_rfl) fun hwf hbel => ?_; simp only [hlen',Try.f59, untok_segA, rowsA_len, factsA_len, rowsA_nil, factsA_nil, List.length_append, Int.le_refl, room, i64_0, nx, keysA_len, keysA_nil, EVL, ite_toInt, ER, EW, Wv_nil, i6, i64, str, boo, EA, EL, ↓EP, binK, pickK, loadK, storeK, EO, Key.av, Cell.av, Fact.av, Row.av, ↓EC, ↓EK, EE, EB, ↓aBuiltin, ↓aAppend, rowsOf, ↓aLen, ↓aSlice, bnd, ↓aIndexAddr, ↓aIndex, ↓aBuild, ↓aBuildSlice, fillL, ↓aMakeSlice, two, ↓opt_some, ↓opt_none, ldAV, aggT, szOf, zeroAV, tys, unders, chunks, spliceL, Cfg.ro, detOp, gval, resAll, resOne, packAV, ↓reduceIte, seval, reduceCtorEq, Int.cast_ofNat_Int, exists_const, implies_true, decide_true, decide_false, if_true, if_false]
    exact Ret_pure (l := [boo false]) (.inr rfl) rfl (by simp only [untok_segA, rowsA_len, factsA_len, rowsA_nil, factsA_nil, List.length_append, Int.le_refl, room, i64_0, nx, keysA_len, keysA_nil, EVL, ite_toInt, ER, EW, Wv_nil, i6, i64, str, boo, EA, EL, ↓EP, binK, pickK, loadK, storeK, EO, Key.av, Cell.av, Fact.av, Row.av, ↓EC, ↓EK, EE, EB, ↓aBuiltin, ↓aAppend, rowsOf, ↓aLen, ↓aSlice, bnd, ↓aIndexAddr, ↓aIndex, ↓aBuild, ↓aBuildSlice, fillL, ↓aMakeSlice, two, ↓opt_some, ↓opt_none, ldAV, aggT, szOf, zeroAV, tys, unders, chunks, spliceL, Cfg.ro, detOp, gval, resAll, resOne, packAV, ↓reduceIte, seval, reduceCtorEq, Int.cast_ofNat_Int, exists_const, implies_true, decide_true, decide_false, if_true, if_false] <;> rfl) rfl (by first | exact Keeps.base _ _ | (repeat (first | exact Keeps.base _ _ | refine Keeps.new ?_ _ | refine Keeps.set ?_ (by first | (simp; done) | omega | (simp only [EO]; omega)) _))) (by show Bel _ (packAV [boo false]); exact (by first | exact .v _ | (simp only [packAV, rowsA_bel, factsA_bel, segA_bel, resS, if_true, if_false, Bool.false_eq_true, resC, Key.av, Cell.av, Fact.av, Row.av, zeroC, Bel_v, Bel_tup, Bel_agg, List.forall_mem_map, List.map_nil, false_implies, implies_true, List.mem_cons, List.not_mem_nil, or_false, forall_eq_or_imp, forall_eq, and_self, true_and, and_true, Bel_sl, Bel_ep, tokBel, implies_true])))

theorem sames_spec (a b : Option (List Row)) (hl : (a.getD []).length ≤ 1000000) : APure Try.prog 23 [segA a, segA b] (boo (decide (a.getD [] = b.getD []))) := by
  intro s
  refine ACalls_body (C := ⟨[]⟩) (c := Try.f23.body.getD .skip) (rs := [.tmp 4]) Try.func23 (by kernel_rfl) (by kernel_rfl) (by kernel_rfl) (Nat.le_of_ble_eq_true rfl) (by kernel_rfl) fun hwf hbel => ?_; simp only [Try.f23, untok_segA, rowsA_len, factsA_len, rowsA_nil, factsA_nil, List.length_append, Int.le_refl, room, i64_0, nx, keysA_len, keysA_nil, EVL, ite_toInt, ER, EW, Wv_nil, i6, i64, str, boo, EA, EL, ↓EP, binK, pickK, loadK, storeK, EO, Key.av, Cell.av, Fact.av, Row.av, ↓EC, ↓EK, EE, EB, ↓aBuiltin, ↓aAppend, rowsOf, ↓aLen, ↓aSlice, bnd, ↓aIndexAddr, ↓aIndex, ↓aBuild, ↓aBuildSlice, fillL, ↓aMakeSlice, two, ↓opt_some, ↓opt_none, ldAV, aggT, szOf, zeroAV, tys, unders, chunks, spliceL, Cfg.ro, detOp, gval, resAll, resOne, packAV, ↓reduceIte, seval, reduceCtorEq, Int.cast_ofNat_Int, exists_const, implies_true, decide_true, decide_false, if_true, if_false]
  refine (rows_spec a).use ?_
  simp only [untok_segA, rowsA_len, factsA_len, rowsA_nil, factsA_nil, List.length_append, Int.le_refl, room, i64_0, nx, keysA_len, keysA_nil, EVL, ite_toInt, ER, EW, Wv_nil, i6, i64, str, boo, EA, EL, ↓EP, binK, pickK, loadK, storeK, EO, Key.av, Cell.av, Fact.av, Row.av, ↓EC, ↓EK, EE, EB, ↓aBuiltin, ↓aAppend, rowsOf, ↓aLen, ↓aSlice, bnd, ↓aIndexAddr, ↓aIndex, ↓aBuild, ↓aBuildSlice, fillL, ↓aMakeSlice, two, ↓opt_some, ↓opt_none, ldAV, aggT, szOf, zeroAV, tys, unders, chunks, spliceL, Cfg.ro, detOp, gval, resAll, resOne, packAV, ↓reduceIte, seval, reduceCtorEq, Int.cast_ofNat_Int, exists_const, implies_true, decide_true, decide_false, if_true, if_false]
  refine (rows_spec b).use ?_
  simp only [untok_segA, rowsA_len, factsA_len, rowsA_nil, factsA_nil, List.length_append, Int.le_refl, room, i64_0, nx, keysA_len, keysA_nil, EVL, ite_toInt, ER, EW, Wv_nil, i6, i64, str, boo, EA, EL, ↓EP, binK, pickK, loadK, storeK, EO, Key.av, Cell.av, Fact.av, Row.av, ↓EC, ↓EK, EE, EB, ↓aBuiltin, ↓aAppend, rowsOf, ↓aLen, ↓aSlice, bnd, ↓aIndexAddr, ↓aIndex, ↓aBuild, ↓aBuildSlice, fillL, ↓aMakeSlice, two, ↓opt_some, ↓opt_none, ldAV, aggT, szOf, zeroAV, tys, unders, chunks, spliceL, Cfg.ro, detOp, gval, resAll, resOne, packAV, ↓reduceIte, seval, reduceCtorEq, Int.cast_ofNat_Int, exists_const, implies_true, decide_true, decide_false, if_true, if_false]
  refine (equal_spec _ _ hl).use ?_
  simp only [untok_segA, rowsA_len, factsA_len, rowsA_nil, factsA_nil, List.length_append, Int.le_refl, room, i64_0, nx, keysA_len, keysA_nil, EVL, ite_toInt, ER, EW, Wv_nil, i6, i64, str, boo, EA, EL, ↓EP, binK, pickK, loadK, storeK, EO, Key.av, Cell.av, Fact.av, Row.av, ↓EC, ↓EK, EE, EB, ↓aBuiltin, ↓aAppend, rowsOf, ↓aLen, ↓aSlice, bnd, ↓aIndexAddr, ↓aIndex, ↓aBuild, ↓aBuildSlice, fillL, ↓aMakeSlice, two, ↓opt_some, ↓opt_none, ldAV, aggT, szOf, zeroAV, tys, unders, chunks, spliceL, Cfg.ro, detOp, gval, resAll, resOne, packAV, ↓reduceIte, seval, reduceCtorEq, Int.cast_ofNat_Int, exists_const, implies_true, decide_true, decide_false, if_true, if_false]
  exact Ret_pure (l := [boo (decide (a.getD [] = b.getD []))]) (.inr rfl) rfl (by simp only [untok_segA, rowsA_len, factsA_len, rowsA_nil, factsA_nil, List.length_append, Int.le_refl, room, i64_0, nx, keysA_len, keysA_nil, EVL, ite_toInt, ER, EW, Wv_nil, i6, i64, str, boo, EA, EL, ↓EP, binK, pickK, loadK, storeK, EO, Key.av, Cell.av, Fact.av, Row.av, ↓EC, ↓EK, EE, EB, ↓aBuiltin, ↓aAppend, rowsOf, ↓aLen, ↓aSlice, bnd, ↓aIndexAddr, ↓aIndex, ↓aBuild, ↓aBuildSlice, fillL, ↓aMakeSlice, two, ↓opt_some, ↓opt_none, ldAV, aggT, szOf, zeroAV, tys, unders, chunks, spliceL, Cfg.ro, detOp, gval, resAll, resOne, packAV, ↓reduceIte, seval, reduceCtorEq, Int.cast_ofNat_Int, exists_const, implies_true, decide_true, decide_false, if_true, if_false] <;> rfl) rfl (by first | exact Keeps.base _ _ | (repeat (first | exact Keeps.base _ _ | refine Keeps.new ?_ _ | refine Keeps.set ?_ (by first | (simp; done) | omega | (simp only [EO]; omega)) _))) (by show Bel _ (packAV [boo (decide (a.getD [] = b.getD []))]); exact (by first | exact .v _ | (simp only [packAV, rowsA_bel, factsA_bel, segA_bel, resS, if_true, if_false, Bool.false_eq_true, resC, Key.av, Cell.av, Fact.av, Row.av, zeroC, Bel_v, Bel_tup, Bel_agg, List.forall_mem_map, List.map_nil, false_implies, implies_true, List.mem_cons, List.not_mem_nil, or_false, forall_eq_or_imp, forall_eq, and_self, true_and, and_true, Bel_sl, Bel_ep, tokBel, implies_true])))

end Go.Proofs

namespace Go.Proofs
open Go Go.Av Go.Sort
set_option linter.unusedSimpArgs false
set_option linter.unusedVariables false

/-! Rows by their keys -/
def getR : List Row → Key → Option Cell
  | [], _ => none
  | r :: l, k => if r.k = k then some r.c else getR l k

theorem getR_none {l : List Row} {k : Key} (h : ∀ r ∈ l, r.k ≠ k) : getR l k = none := by
  induction l with
  | nil => rfl
  | cons r l ih => rw [getR, if_neg (h r (by simp))]; exact ih fun x hx => h x (by simp [hx])
theorem getR_lt {l : List Row} {k : Key} (h : ∀ r ∈ l, cmpK k r.k < 0) : getR l k = none := getR_none fun r hr e => by have := h r hr; rw [e] at this; exact cmp_irr _ this
theorem getR_some {l : List Row} {k : Key} {c : Cell} (h : getR l k = some c) : (⟨k, c⟩ : Row) ∈ l := by
  induction l with
  | nil => cases h
  | cons r l ih =>
    rw [getR] at h
    split at h
    · rename_i e; cases h; subst e; simp
    · exact List.mem_cons_of_mem _ (ih h)
theorem Srt.tail {x : Row} {l : List Row} (h : Srt (x :: l)) : Srt l := (List.pairwise_cons.1 h).2
theorem Srt.head {x : Row} {l : List Row} (h : Srt (x :: l)) : ∀ r ∈ l, cmpK x.k r.k < 0 := (List.pairwise_cons.1 h).1
theorem Srt.cons {x : Row} {l : List Row} (h : Srt l) (hx : ∀ r ∈ l, cmpK x.k r.k < 0) : Srt (x :: l) := List.pairwise_cons.2 ⟨hx, h⟩
theorem Srt.nil : Srt [] := List.Pairwise.nil
theorem getR_mem {l : List Row} (hl : Srt l) {r : Row} (h : r ∈ l) : getR l r.k = some r.c := by
  induction l with
  | nil => cases h
  | cons x l ih =>
    rw [getR]
    rcases List.mem_cons.1 h with rfl | h
    · rw [if_pos rfl]
    · have hlt := hl.head r h
      rw [if_neg (fun e => by rw [e] at hlt; exact cmp_irr _ hlt)]
      exact ih hl.tail h
theorem getR_ext {l m : List Row} (hl : Srt l) (hm : Srt m) (h : ∀ k, getR l k = getR m k) : l = m := by
  refine srt_ext hl hm fun r => ⟨fun hr => ?_, fun hr => ?_⟩
  · have := getR_mem hl hr; rw [h] at this; exact getR_some this
  · have := getR_mem hm hr; rw [← h] at this; exact getR_some this
theorem getR_head {x : Row} {l : List Row} : getR (x :: l) x.k = some x.c := by rw [getR, if_pos rfl]
theorem getR_ne {x : Row} {l : List Row} {k : Key} (h : x.k ≠ k) : getR (x :: l) k = getR l k := by rw [getR, if_neg h]

def comb : Option Cell → Option Cell → Option Cell
  | none, y => y
  | x, none => x
  | some c, some d => mergeC c d
theorem comb_none_right (x : Option Cell) : comb x none = x := by cases x <;> rfl
theorem comb_none_left (x : Option Cell) : comb none x = x := rfl

/-- What two lists of rows come to. -/
def IsBoth (a b : List Row) : Option (List Row) → Prop
  | some q => Srt q ∧ (∀ k, getR q k = comb (getR a k) (getR b k)) ∧ ∀ k c d, getR a k = some c → getR b k = some d → mergeC c d ≠ none
  | none => ∃ k c d, getR a k = some c ∧ getR b k = some d ∧ mergeC c d = none

theorem IsBoth.unique {a b : List Row} {o p : Option (List Row)} (h : IsBoth a b o) (h' : IsBoth a b p) : o = p := by
  cases o with
  | none =>
    cases p with
    | none => rfl
    | some q => obtain ⟨k, c, d, h1, h2, h3⟩ := h; exact absurd h3 (h'.2.2 k c d h1 h2)
  | some q =>
    cases p with
    | none => obtain ⟨k, c, d, h1, h2, h3⟩ := h'; exact absurd h3 (h.2.2 k c d h1 h2)
    | some q' => rw [getR_ext h.1 h'.1 fun k => by rw [h.2.1, h'.2.1]]

theorem keys_of_comb {a b q : List Row} (hq : Srt q) (h : ∀ k, getR q k = comb (getR a k) (getR b k)) {r : Row} (hr : r ∈ q) : (∃ x ∈ a, x.k = r.k) ∨ (∃ x ∈ b, x.k = r.k) := by
  have h1 := getR_mem hq hr
  rw [h] at h1
  cases e : getR a r.k with
  | some c => exact .inl ⟨_, getR_some e, rfl⟩
  | none =>
    rw [e, comb_none_left] at h1
    exact .inr ⟨_, getR_some h1, rfl⟩

theorem both_is : ∀ (a b : List Row), Srt a → Srt b → IsBoth a b (bothL a b)
  | [], b, _, hb => by rw [bothL]; exact ⟨hb, fun k => rfl, fun k c d h => by cases h⟩
  | x :: a, [], ha, _ => by rw [bothL]; exact ⟨ha, fun k => by rw [show getR [] k = none from rfl, comb_none_right], fun k c d _ h => by cases h⟩
  | x :: a, y :: b, ha, hb => by
    rw [bothL]
    by_cases h1 : 0 < cmpK x.k y.k
    · rw [if_pos h1]
      have hyx : cmpK y.k x.k < 0 := (good_key.anti _ _).2 h1
      have hya : ∀ r ∈ x :: a, cmpK y.k r.k < 0 := fun r hr => by
        rcases List.mem_cons.1 hr with rfl | hr
        · exact hyx
        · exact good_key.trans _ _ _ hyx (ha.head r hr)
      have ih := both_is (x :: a) b ha hb.tail
      have gy : getR (x :: a) y.k = none := getR_lt hya
      cases e : bothL (x :: a) b with
      | none =>
        rw [e] at ih
        obtain ⟨k, c, d, q1, q2, q3⟩ := ih
        refine ⟨k, c, d, q1, ?_, q3⟩
        rw [getR_ne (fun e => by rw [e, q1] at gy; cases gy)]; exact q2
      | some q =>
        rw [e] at ih
        obtain ⟨i1, i2, i3⟩ := ih
        refine ⟨i1.cons fun r hr => ?_, fun k => ?_, fun k c d g1 g2 => ?_⟩
        · rcases keys_of_comb i1 i2 hr with ⟨z, hz, ez⟩ | ⟨z, hz, ez⟩
          · rw [← ez]; exact hya z hz
          · rw [← ez]; exact hb.head z hz
        · by_cases ek : y.k = k
          · subst ek; rw [getR_head, getR_head, gy]; rfl
          · rw [getR_ne ek, getR_ne ek, i2]
        · have ek : y.k ≠ k := fun ek => by rw [← ek, gy] at g1; cases g1
          rw [getR_ne ek] at g2
          exact i3 k c d g1 g2
    · rw [if_neg h1]
      by_cases h2 : cmpK x.k y.k = 0
      · rw [if_pos h2]
        have exy : x.k = y.k := (good_key.zero _ _).1 h2
        have ih := both_is a b ha.tail hb.tail
        have gx : getR a x.k = none := getR_lt ha.head
        have gy : getR b x.k = none := by rw [exy]; exact getR_lt hb.head
        cases em : mergeC x.c y.c with
        | none => exact ⟨x.k, x.c, y.c, getR_head, by rw [exy]; exact getR_head, em⟩
        | some c =>
          simp only [Option.bind_some]
          cases e : bothL a b with
          | none =>
            rw [e] at ih
            obtain ⟨k, c', d, q1, q2, q3⟩ := ih
            have ek : x.k ≠ k := fun e => by rw [e, q1] at gx; cases gx
            exact ⟨k, c', d, by rw [getR_ne ek]; exact q1, by rw [getR_ne (by rw [← exy]; exact ek)]; exact q2, q3⟩
          | some q =>
            rw [e] at ih
            obtain ⟨i1, i2, i3⟩ := ih
            refine ⟨Srt.cons i1 fun r hr => ?_, fun k => ?_, fun k c' d g1 g2 => ?_⟩
            · show cmpK x.k r.k < 0
              rcases keys_of_comb i1 i2 hr with ⟨z, hz, ez⟩ | ⟨z, hz, ez⟩
              · rw [← ez]; exact ha.head z hz
              · rw [← ez, exy]; exact hb.head z hz
            · by_cases ek : x.k = k
              · subst ek
                rw [getR, if_pos rfl, getR_head, exy, getR_head]
                exact em.symm
              · have ek' : y.k ≠ k := by rw [← exy]; exact ek
                rw [getR, if_neg ek, getR_ne ek, getR_ne ek', i2]
            · by_cases ek : x.k = k
              · subst ek
                rw [getR_head] at g1
                rw [exy, getR_head] at g2
                cases g1; cases g2
                rw [em]; exact fun h => by cases h
              · have ek' : y.k ≠ k := by rw [← exy]; exact ek
                rw [getR_ne ek] at g1; rw [getR_ne ek'] at g2
                exact i3 k c' d g1 g2
      · rw [if_neg h2]
        have hxy : cmpK x.k y.k < 0 := by omega
        have hxb : ∀ r ∈ y :: b, cmpK x.k r.k < 0 := fun r hr => by
          rcases List.mem_cons.1 hr with rfl | hr
          · exact hxy
          · exact good_key.trans _ _ _ hxy (hb.head r hr)
        have ih := both_is a (y :: b) ha.tail hb
        have gx : getR (y :: b) x.k = none := getR_lt hxb
        cases e : bothL a (y :: b) with
        | none =>
          rw [e] at ih
          obtain ⟨k, c, d, q1, q2, q3⟩ := ih
          exact ⟨k, c, d, by rw [getR_ne (fun e => by rw [e, q2] at gx; cases gx)]; exact q1, q2, q3⟩
        | some q =>
          rw [e] at ih
          obtain ⟨i1, i2, i3⟩ := ih
          refine ⟨i1.cons fun r hr => ?_, fun k => ?_, fun k c d g1 g2 => ?_⟩
          · rcases keys_of_comb i1 i2 hr with ⟨z, hz, ez⟩ | ⟨z, hz, ez⟩
            · rw [← ez]; exact ha.head z hz
            · rw [← ez]; exact hxb z hz
          · by_cases ek : x.k = k
            · subst ek; rw [getR_head, getR_head, gx]; rfl
            · rw [getR_ne ek, getR_ne ek, i2]
          · have ek : x.k ≠ k := fun ek => by rw [← ek, gx] at g2; cases g2
            rw [getR_ne ek] at g1
            exact i3 k c d g1 g2
  termination_by a b => a.length + b.length

/-- A row put among rows: both, of it alone. -/
theorem put_is {l : List Row} (hl : Srt l) (x : Row) : IsBoth l [x] (putL l x) := by
  have g1 : ∀ k, getR [x] k = if x.k = k then some x.c else none := fun k => rfl
  rcases putL_cases hl x with ⟨h1, l', h2, h3, h4⟩ | ⟨y, hy, hyk, h2, h3⟩
  · have gx : getR l x.k = none := getR_none fun r hr e => h1 (List.mem_map.2 ⟨r, hr, e⟩)
    rw [h2]
    refine ⟨h3, fun k => ?_, fun k c d e1 e2 => ?_⟩
    · rw [g1]
      by_cases ek : x.k = k
      · subst ek; rw [if_pos rfl, gx, comb_none_left]; exact getR_mem h3 ((h4 x).2 (.inl rfl))
      · rw [if_neg ek, comb_none_right]
        cases e : getR l k with
        | some c => exact getR_mem h3 (r := ⟨k, c⟩) ((h4 _).2 (.inr (getR_some e)))
        | none =>
          refine getR_none fun r hr er => ?_
          rcases (h4 r).1 hr with rfl | hr
          · exact ek er
          · have := getR_mem hl hr; rw [er, e] at this; cases this
    · rw [g1] at e2
      split at e2
      · rename_i ek; subst ek; rw [gx] at e1; cases e1
      · cases e2
  · have gx : getR l x.k = some y.c := by rw [← hyk]; exact getR_mem hl hy
    rw [h2]
    cases em : mergeC y.c x.c with
    | none => exact ⟨x.k, y.c, x.c, gx, by rw [g1, if_pos rfl], em⟩
    | some c =>
      simp only [Option.map_some]
      obtain ⟨i1, i2⟩ := h3 c
      refine ⟨i1, fun k => ?_, fun k c' d e1 e2 => ?_⟩
      · rw [g1]
        by_cases ek : x.k = k
        · subst ek
          rw [if_pos rfl, gx]
          show _ = mergeC y.c x.c
          rw [em]
          exact getR_mem i1 (r := ⟨x.k, c⟩) ((i2 _).2 (.inl rfl))
        · rw [if_neg ek, comb_none_right]
          cases e : getR l k with
          | some c => exact getR_mem i1 (r := ⟨k, c⟩) ((i2 _).2 (.inr ⟨getR_some e, fun e' => ek e'.symm⟩))
          | none =>
            refine getR_none fun r hr er => ?_
            rcases (i2 r).1 hr with rfl | ⟨hr, _⟩
            · exact ek er
            · have := getR_mem hl hr; rw [er, e] at this; cases this
      · rw [g1] at e2
        split at e2
        · rename_i ek; subst ek; rw [gx] at e1; cases e1; cases e2; rw [em]; exact fun h => by cases h
        · cases e2

theorem putAll_is : ∀ (b a : List Row), Srt a → Srt b → IsBoth a b (putAll a b)
  | [], a, ha, _ => ⟨ha, fun k => by rw [show getR [] k = none from rfl, comb_none_right], fun k c d _ h => by cases h⟩
  | x :: b, a, ha, hb => by
    rw [putAll]
    have h1 := put_is ha x
    have gx : getR b x.k = none := getR_lt hb.head
    have g1 : ∀ k, getR [x] k = if x.k = k then some x.c else none := fun k => rfl
    cases e : putL a x with
    | none =>
      rw [e] at h1
      obtain ⟨k, c, d, q1, q2, q3⟩ := h1
      rw [g1] at q2
      split at q2
      · rename_i ek; subst ek; cases q2; exact ⟨x.k, c, x.c, q1, getR_head, q3⟩
      · cases q2
    | some a' =>
      rw [e] at h1
      obtain ⟨i1, i2, i3⟩ := h1
      have ih := putAll_is b a' i1 hb.tail
      have gne : ∀ k, x.k ≠ k → getR a' k = getR a k := fun k ek => by rw [i2, g1, if_neg ek, comb_none_right]
      simp only [Option.bind_some]
      cases e2 : putAll a' b with
      | none =>
        rw [e2] at ih
        obtain ⟨k, c, d, q1, q2, q3⟩ := ih
        have ek : x.k ≠ k := fun e => by rw [e, q2] at gx; cases gx
        rw [gne k ek] at q1
        exact ⟨k, c, d, q1, by rw [getR_ne ek]; exact q2, q3⟩
      | some q =>
        rw [e2] at ih
        obtain ⟨j1, j2, j3⟩ := ih
        refine ⟨j1, fun k => ?_, fun k c d q1 q2 => ?_⟩
        · rw [j2]
          by_cases ek : x.k = k
          · subst ek; rw [gx, comb_none_right, i2, g1, if_pos rfl, getR_head]
          · rw [gne k ek, getR_ne ek]
        · by_cases ek : x.k = k
          · subst ek
            rw [getR_head] at q2; cases q2
            exact i3 x.k c x.c q1 (by rw [g1, if_pos rfl])
          · rw [getR_ne ek] at q2
            exact j3 k c d (by rw [gne k ek]; exact q1) q2

theorem both_putAll {a b : List Row} (ha : Srt a) (hb : Srt b) : bothL a b = putAll a b := (both_is a b ha hb).unique (putAll_is b a ha hb)

theorem IsBoth.srt {a b q : List Row} (h : IsBoth a b (some q)) : Srt q := h.1

/-- Right rows are in order. -/
theorem right_srt : ∀ (l : List Row) (p : Option Key), rightL p l = true → Srt l ∧ ∀ k, p = some k → ∀ r ∈ l, cmpK k r.k < 0
  | [], p, _ => ⟨Srt.nil, fun _ _ _ h => by cases h⟩
  | x :: l, p, h => by
    simp only [rightL, Bool.and_eq_true] at h
    obtain ⟨h1, h2⟩ := h
    obtain ⟨i1, i2⟩ := right_srt l (some x.k) h2
    refine ⟨i1.cons (i2 x.k rfl), fun k hk r hr => ?_⟩
    subst hk
    simp only [okRow, Bool.and_eq_true, decide_eq_true_eq] at h1
    rcases List.mem_cons.1 hr with rfl | hr
    · exact h1.1
    · exact good_key.trans _ _ _ h1.1 (i2 x.k rfl r hr)

end Go.Proofs

namespace Go.Proofs
open Go Go.Av Go.Sort
set_option linter.unusedSimpArgs false
set_option linter.unusedVariables false
set_option maxRecDepth 30000
set_option maxHeartbeats 2000000

def segsA (l : List (Option (List Row))) : List (List AV) := l.map fun o => [segA o]
def mapsA (l : List (List Row)) : List (List AV) := l.map fun o => [.sl 9 (rowsA o) .none]
theorem segsA_len (l : List (Option (List Row))) : (segsA l).length = l.length := by simp [segsA]
theorem mapsA_len (l : List (List Row)) : (mapsA l).length = l.length := by simp [mapsA]
theorem segsA_get {l : List (Option (List Row))} {i : Nat} {x : Option (List Row)} (h : l[i]? = some x) : (segsA l).getD i [] = [segA x] := by simp [segsA, List.getD, h]
theorem mapsA_get {l : List (List Row)} {i : Nat} {x : List Row} (h : l[i]? = some x) : (mapsA l).getD i [] = [.sl 9 (rowsA x) .none] := by simp [mapsA, List.getD, h]
theorem segsA_bel (n : Nat) (l : List (Option (List Row))) : (∀ c ∈ segsA l, ∀ x ∈ c, Bel n x) = True := by
  apply eq_true
  intro c hc x hx
  simp only [segsA, List.mem_map] at hc
  obtain ⟨o, _, rfl⟩ := hc
  simp only [List.mem_cons, List.not_mem_nil, or_false] at hx
  subst hx
  simp only [segA_bel]
theorem mapsA_bel (n : Nat) (l : List (List Row)) : (∀ c ∈ mapsA l, ∀ x ∈ c, Bel n x) = True := by
  apply eq_true
  intro c hc x hx
  simp only [mapsA, List.mem_map] at hc
  obtain ⟨o, _, rfl⟩ := hc
  simp only [List.mem_cons, List.not_mem_nil, or_false] at hx
  subst hx
  exact Bel_sl.2 ⟨of_eq_true (rowsA_bel _ _), trivial⟩

def mergeAll : List Row → List (Option (List Row)) → Option (List Row)
  | acc, [] => some acc
  | acc, none :: l => mergeAll acc l
  | acc, some b :: l => (bothL acc b).bind fun q => mergeAll q l

def weigh (l : List (Option (List Row))) : Nat := (l.map fun o => (o.getD []).length).sum

theorem bothL_len : ∀ (a b q : List Row), bothL a b = some q → q.length ≤ a.length + b.length
  | [], b, q, h => by rw [bothL] at h; cases h; simp
  | x :: a, [], q, h => by rw [bothL] at h; cases h; simp
  | x :: a, y :: b, q, h => by
    rw [bothL] at h
    split at h
    · obtain ⟨p, hp, rfl⟩ := Option.map_eq_some_iff.1 h
      have := bothL_len (x :: a) b p hp
      simp only [List.length_cons] at this ⊢; omega
    · split at h
      · obtain ⟨c, hc, h⟩ := Option.bind_eq_some_iff.1 h
        obtain ⟨p, hp, rfl⟩ := Option.map_eq_some_iff.1 h
        have := bothL_len a b p hp
        simp only [List.length_cons] at this ⊢; omega
      · obtain ⟨p, hp, rfl⟩ := Option.map_eq_some_iff.1 h
        have := bothL_len a (y :: b) p hp
        simp only [List.length_cons] at this ⊢; omega
  termination_by a b => a.length + b.length

theorem weigh_drop {l : List (Option (List Row))} {i : Nat} {x : Option (List Row)} (h : l[i]? = some x) : weigh (l.drop i) = (x.getD []).length + weigh (l.drop (i + 1)) := by
  rw [drop_get h]; simp [weigh]

theorem box_bel (n : Nat) (l : List Row) : OBel n (.cells [.sl 9 (rowsA l) .none]) := by
  intro c hc
  simp only [List.mem_cons, List.not_mem_nil, or_false] at hc
  subst hc
  exact Bel_sl.2 ⟨of_eq_true (rowsA_bel _ _), trivial⟩

theorem merges_spec (l : List (Option (List Row))) (hl : l.length ≤ 1000) (hw : weigh l ≤ 1000000) : APure Try.prog 21 [.sl 1 (segsA l) .none] (resO (mergeAll [] l)) := by
  intro s
  generalize hr : mergeAll [] l = r
  refine ACalls_body (C := ⟨[]⟩) (c := Try.f21.body.getD .skip) (rs := [.tmp 2, .tmp 3]) Try.func21 (by kernel_rfl) (by kernel_rfl) (by kernel_rfl) (Nat.le_of_ble_eq_true rfl) (by kernel_rfl) fun hwf hbel => ?_; simp only [Try.f21, untok_segA, rowsA_len, factsA_len, rowsA_nil, factsA_nil, List.length_append, Int.le_refl, room, i64_0, nx, keysA_len, keysA_nil, segsA_len, mapsA_len, EVL, ite_toInt, ER, EW, Wv_nil, i6, i64, str, boo, EA, EL, ↓EP, binK, pickK, loadK, storeK, EO, Key.av, Cell.av, Fact.av, Row.av, ↓EC, ↓EK, EE, EB, ↓aBuiltin, ↓aAppend, rowsOf, ↓aLen, ↓aSlice, bnd, ↓aIndexAddr, ↓aIndex, ↓aBuild, ↓aBuildSlice, fillL, ↓aMakeSlice, two, ↓opt_some, ↓opt_none, ldAV, aggT, szOf, zeroAV, tys, unders, chunks, spliceL, Cfg.ro, detOp, gval, resAll, resOne, packAV, ↓reduceIte, seval, reduceCtorEq, Int.cast_ofNat_Int, exists_const, implies_true, decide_true, decide_false, if_true, if_false]
  refine ALoop_inv (ι := Nat × List Row) (fun i => i.1 ≤ l.length ∧ i.2.length + weigh (l.drop i.1) ≤ 1000000 ∧ r = mergeAll i.2 (l.drop i.1)) (fun i => envL [(4, .ptr s.next 0), (11, .sl 1 (segsA l) .none), (12, i64 l.length), (13, i64 i.1)]) (fun i => AState.new { s with base := ⟨s.next, []⟩ } (.cells [.sl 9 (rowsA i.2) .none])) (fun i => l.length - i.1) (0, []) ⟨Nat.zero_le _, by simpa using hw, by rw [← hr]; rfl⟩ ((AEnt_obj (id := s.next) (cs := [.v (.slice none 0 0)]) (cs' := [.sl 9 [] .none]) (by (simp only [upd, AState.set, AState.new]; (repeat (first | rw [if_neg (by omega)] | rw [if_pos (by omega)] | (simp only [↓reduceIte]; done) | simp only [↓reduceIte])); try rfl)) ⟨of_eq_true (Wv_nil (by decide)), trivial⟩ rfl).trans (AEnt_drop rfl rfl (Nat.le_succ _) ⟨Nat.le_refl _, fun id hid => by simp only [AState.set, AState.new] at hid ⊢; (repeat' split) <;> first | rfl | omega⟩ ((hwf.base _).new (box_bel _ _)) (EntB_all ?_))) (fun i hi => ?_)
  · simp only [untok_segA, rowsA_len, factsA_len, rowsA_nil, factsA_nil, List.length_append, Int.le_refl, room, i64_0, nx, keysA_len, keysA_nil, segsA_len, mapsA_len, EVL, ite_toInt, ER, EW, Wv_nil, i6, i64, str, boo, EA, EL, ↓EP, binK, pickK, loadK, storeK, EO, Key.av, Cell.av, Fact.av, Row.av, ↓EC, ↓EK, EE, EB, ↓aBuiltin, ↓aAppend, rowsOf, ↓aLen, ↓aSlice, bnd, ↓aIndexAddr, ↓aIndex, ↓aBuild, ↓aBuildSlice, fillL, ↓aMakeSlice, two, ↓opt_some, ↓opt_none, ldAV, aggT, szOf, zeroAV, tys, unders, chunks, spliceL, Cfg.ro, detOp, gval, resAll, resOne, packAV, ↓reduceIte, seval, reduceCtorEq, Int.cast_ofNat_Int, exists_const, implies_true, decide_true, decide_false, if_true, if_false]
    exact ⟨Bel_ptr.2 (Nat.lt_succ_self _), by simp only [Bel_sl, segsA_bel, tokBel, and_self], .v _, .v _⟩
  · obtain ⟨i, acc⟩ := i
    obtain ⟨hi, hwi, hs⟩ := hi
    simp only at hi hwi hs
    by_cases hlt : i < l.length
    · obtain ⟨x, hx⟩ : ∃ x, l[i]? = some x := ⟨_, List.getElem?_eq_getElem hlt⟩
      have gx := segsA_get hx
      rw [weigh_drop hx] at hwi
      rw [drop_get hx] at hs
      have hc : ((i : Int) < (l.length : Int)) := by omega
      have h0 : (0 : Int) ≤ (i : Int) := by omega
      have hw : IntKind.i64.wrap ((i : Int) + 1) = (i : Int) + 1 := wrap_in (by omega) (by omega)
      simp only [hc, h0, gx, untok_segA, rowsA_len, factsA_len, rowsA_nil, factsA_nil, List.length_append, Int.le_refl, room, i64_0, nx, keysA_len, keysA_nil, segsA_len, mapsA_len, EVL, ite_toInt, ER, EW, Wv_nil, i6, i64, str, boo, EA, EL, ↓EP, binK, pickK, loadK, storeK, EO, Key.av, Cell.av, Fact.av, Row.av, ↓EC, ↓EK, EE, EB, ↓aBuiltin, ↓aAppend, rowsOf, ↓aLen, ↓aSlice, bnd, ↓aIndexAddr, ↓aIndex, ↓aBuild, ↓aBuildSlice, fillL, ↓aMakeSlice, two, ↓opt_some, ↓opt_none, ldAV, aggT, szOf, zeroAV, tys, unders, chunks, spliceL, Cfg.ro, detOp, gval, resAll, resOne, packAV, ↓reduceIte, seval, reduceCtorEq, Int.cast_ofNat_Int, exists_const, implies_true, decide_true, decide_false, if_true, if_false]
      cases x with
      | none =>
        simp only [segA]
        refine eqK_use (AEq_nil u27) ?_
        simp only [hw, untok_segA, rowsA_len, factsA_len, rowsA_nil, factsA_nil, List.length_append, Int.le_refl, room, i64_0, nx, keysA_len, keysA_nil, segsA_len, mapsA_len, EVL, ite_toInt, ER, EW, Wv_nil, i6, i64, str, boo, EA, EL, ↓EP, binK, pickK, loadK, storeK, EO, Key.av, Cell.av, Fact.av, Row.av, ↓EC, ↓EK, EE, EB, ↓aBuiltin, ↓aAppend, rowsOf, ↓aLen, ↓aSlice, bnd, ↓aIndexAddr, ↓aIndex, ↓aBuild, ↓aBuildSlice, fillL, ↓aMakeSlice, two, ↓opt_some, ↓opt_none, ldAV, aggT, szOf, zeroAV, tys, unders, chunks, spliceL, Cfg.ro, detOp, gval, resAll, resOne, packAV, ↓reduceIte, seval, reduceCtorEq, Int.cast_ofNat_Int, exists_const, implies_true, decide_true, decide_false, if_true, if_false]
        refine round_next (i + 1, acc) ⟨by simp only; omega, by simp only [Option.getD_none, List.length_nil] at hwi ⊢; omega, by rw [hs]; rfl⟩ (by simp only; omega) (ent rfl ?_)
        simp only [untok_segA, rowsA_len, factsA_len, rowsA_nil, factsA_nil, List.length_append, Int.le_refl, room, i64_0, nx, keysA_len, keysA_nil, segsA_len, mapsA_len, EVL, ite_toInt, ER, EW, Wv_nil, i6, i64, str, boo, EA, EL, ↓EP, binK, pickK, loadK, storeK, EO, Key.av, Cell.av, Fact.av, Row.av, ↓EC, ↓EK, EE, EB, ↓aBuiltin, ↓aAppend, rowsOf, ↓aLen, ↓aSlice, bnd, ↓aIndexAddr, ↓aIndex, ↓aBuild, ↓aBuildSlice, fillL, ↓aMakeSlice, two, ↓opt_some, ↓opt_none, ldAV, aggT, szOf, zeroAV, tys, unders, chunks, spliceL, Cfg.ro, detOp, gval, resAll, resOne, packAV, ↓reduceIte, seval, reduceCtorEq, Int.cast_ofNat_Int, exists_const, implies_true, decide_true, decide_false, if_true, if_false]
      | some b =>
        simp only [segA]
        refine eqK_use (AEq_ep u27) ?_
        simp only [untok_segA, rowsA_len, factsA_len, rowsA_nil, factsA_nil, List.length_append, Int.le_refl, room, i64_0, nx, keysA_len, keysA_nil, segsA_len, mapsA_len, EVL, ite_toInt, ER, EW, Wv_nil, i6, i64, str, boo, EA, EL, ↓EP, binK, pickK, loadK, storeK, EO, Key.av, Cell.av, Fact.av, Row.av, ↓EC, ↓EK, EE, EB, ↓aBuiltin, ↓aAppend, rowsOf, ↓aLen, ↓aSlice, bnd, ↓aIndexAddr, ↓aIndex, ↓aBuild, ↓aBuildSlice, fillL, ↓aMakeSlice, two, ↓opt_some, ↓opt_none, ldAV, aggT, szOf, zeroAV, tys, unders, chunks, spliceL, Cfg.ro, detOp, gval, resAll, resOne, packAV, ↓reduceIte, seval, reduceCtorEq, Int.cast_ofNat_Int, exists_const, implies_true, decide_true, decide_false, if_true, if_false]
        have hb := both_spec acc b (by simp only [Option.getD_some] at hwi; omega)
        cases hq : bothL acc b with
        | none =>
          rw [hq] at hb
          refine aDraw_walk mixed (by kernel_rfl) ?_; simp only [untok_segA, rowsA_len, factsA_len, rowsA_nil, factsA_nil, List.length_append, Int.le_refl, room, i64_0, nx, keysA_len, keysA_nil, segsA_len, mapsA_len, EVL, ite_toInt, ER, EW, Wv_nil, i6, i64, str, boo, EA, EL, ↓EP, binK, pickK, loadK, storeK, EO, Key.av, Cell.av, Fact.av, Row.av, ↓EC, ↓EK, EE, EB, ↓aBuiltin, ↓aAppend, rowsOf, ↓aLen, ↓aSlice, bnd, ↓aIndexAddr, ↓aIndex, ↓aBuild, ↓aBuildSlice, fillL, ↓aMakeSlice, two, ↓opt_some, ↓opt_none, ldAV, aggT, szOf, zeroAV, tys, unders, chunks, spliceL, Cfg.ro, detOp, gval, resAll, resOne, packAV, ↓reduceIte, seval, reduceCtorEq, Int.cast_ofNat_Int, exists_const, implies_true, decide_true, decide_false, if_true, if_false]
          refine qcall (hb) rfl (by simp only [untok_segA, rowsA_len, factsA_len, rowsA_nil, factsA_nil, List.length_append, Int.le_refl, room, i64_0, nx, keysA_len, keysA_nil, segsA_len, mapsA_len, EVL, ite_toInt, ER, EW, Wv_nil, i6, i64, str, boo, EA, EL, ↓EP, binK, pickK, loadK, storeK, EO, Key.av, Cell.av, Fact.av, Row.av, ↓EC, ↓EK, EE, EB, ↓aBuiltin, ↓aAppend, rowsOf, ↓aLen, ↓aSlice, bnd, ↓aIndexAddr, ↓aIndex, ↓aBuild, ↓aBuildSlice, fillL, ↓aMakeSlice, two, ↓opt_some, ↓opt_none, ldAV, aggT, szOf, zeroAV, tys, unders, chunks, spliceL, Cfg.ro, detOp, gval, resAll, resOne, packAV, ↓reduceIte, seval, reduceCtorEq, Int.cast_ofNat_Int, exists_const, implies_true, decide_true, decide_false, if_true, if_false] <;> rfl) ?_; simp only [untok_segA, rowsA_len, factsA_len, rowsA_nil, factsA_nil, List.length_append, Int.le_refl, room, i64_0, nx, keysA_len, keysA_nil, segsA_len, mapsA_len, EVL, ite_toInt, ER, EW, Wv_nil, i6, i64, str, boo, EA, EL, ↓EP, binK, pickK, loadK, storeK, EO, Key.av, Cell.av, Fact.av, Row.av, ↓EC, ↓EK, EE, EB, ↓aBuiltin, ↓aAppend, rowsOf, ↓aLen, ↓aSlice, bnd, ↓aIndexAddr, ↓aIndex, ↓aBuild, ↓aBuildSlice, fillL, ↓aMakeSlice, two, ↓opt_some, ↓opt_none, ldAV, aggT, szOf, zeroAV, tys, unders, chunks, spliceL, Cfg.ro, detOp, gval, resAll, resOne, packAV, ↓reduceIte, seval, reduceCtorEq, Int.cast_ofNat_Int, exists_const, implies_true, decide_true, decide_false, if_true, if_false]
          simp only [resB, untok_segA, rowsA_len, factsA_len, rowsA_nil, factsA_nil, List.length_append, Int.le_refl, room, i64_0, nx, keysA_len, keysA_nil, segsA_len, mapsA_len, EVL, ite_toInt, ER, EW, Wv_nil, i6, i64, str, boo, EA, EL, ↓EP, binK, pickK, loadK, storeK, EO, Key.av, Cell.av, Fact.av, Row.av, ↓EC, ↓EK, EE, EB, ↓aBuiltin, ↓aAppend, rowsOf, ↓aLen, ↓aSlice, bnd, ↓aIndexAddr, ↓aIndex, ↓aBuild, ↓aBuildSlice, fillL, ↓aMakeSlice, two, ↓opt_some, ↓opt_none, ldAV, aggT, szOf, zeroAV, tys, unders, chunks, spliceL, Cfg.ro, detOp, gval, resAll, resOne, packAV, ↓reduceIte, seval, reduceCtorEq, Int.cast_ofNat_Int, exists_const, implies_true, decide_true, decide_false, if_true, if_false]
          rw [show r = none by rw [hs, mergeAll, hq]; rfl]
          exact Ret_pure (l := [segA none, i64 6]) (.inr rfl) rfl (by simp only [untok_segA, rowsA_len, factsA_len, rowsA_nil, factsA_nil, List.length_append, Int.le_refl, room, i64_0, nx, keysA_len, keysA_nil, segsA_len, mapsA_len, EVL, ite_toInt, ER, EW, Wv_nil, i6, i64, str, boo, EA, EL, ↓EP, binK, pickK, loadK, storeK, EO, Key.av, Cell.av, Fact.av, Row.av, ↓EC, ↓EK, EE, EB, ↓aBuiltin, ↓aAppend, rowsOf, ↓aLen, ↓aSlice, bnd, ↓aIndexAddr, ↓aIndex, ↓aBuild, ↓aBuildSlice, fillL, ↓aMakeSlice, two, ↓opt_some, ↓opt_none, ldAV, aggT, szOf, zeroAV, tys, unders, chunks, spliceL, Cfg.ro, detOp, gval, resAll, resOne, packAV, ↓reduceIte, seval, reduceCtorEq, Int.cast_ofNat_Int, exists_const, implies_true, decide_true, decide_false, if_true, if_false] <;> rfl) rfl (by first | exact Keeps.base _ _ | (repeat (first | exact Keeps.base _ _ | refine Keeps.new ?_ _ | refine Keeps.set ?_ (by first | (simp; done) | omega | (simp only [EO]; omega)) _))) (by show Bel _ (packAV [segA none, i64 6]); exact (by first | exact .v _ | (simp only [packAV, rowsA_bel, factsA_bel, segA_bel, segsA_bel, mapsA_bel, resS, if_true, if_false, Bool.false_eq_true, resC, Key.av, Cell.av, Fact.av, Row.av, zeroC, Bel_v, Bel_tup, Bel_agg, List.forall_mem_map, List.map_nil, false_implies, implies_true, List.mem_cons, List.not_mem_nil, or_false, forall_eq_or_imp, forall_eq, and_self, true_and, and_true, Bel_sl, Bel_ep, tokBel, implies_true])))
        | some q =>
          rw [hq] at hb
          have hql := bothL_len acc b q hq
          refine aDraw_walk mixed (by kernel_rfl) ?_; simp only [untok_segA, rowsA_len, factsA_len, rowsA_nil, factsA_nil, List.length_append, Int.le_refl, room, i64_0, nx, keysA_len, keysA_nil, segsA_len, mapsA_len, EVL, ite_toInt, ER, EW, Wv_nil, i6, i64, str, boo, EA, EL, ↓EP, binK, pickK, loadK, storeK, EO, Key.av, Cell.av, Fact.av, Row.av, ↓EC, ↓EK, EE, EB, ↓aBuiltin, ↓aAppend, rowsOf, ↓aLen, ↓aSlice, bnd, ↓aIndexAddr, ↓aIndex, ↓aBuild, ↓aBuildSlice, fillL, ↓aMakeSlice, two, ↓opt_some, ↓opt_none, ldAV, aggT, szOf, zeroAV, tys, unders, chunks, spliceL, Cfg.ro, detOp, gval, resAll, resOne, packAV, ↓reduceIte, seval, reduceCtorEq, Int.cast_ofNat_Int, exists_const, implies_true, decide_true, decide_false, if_true, if_false]
          refine qcall (hb) rfl (by simp only [untok_segA, rowsA_len, factsA_len, rowsA_nil, factsA_nil, List.length_append, Int.le_refl, room, i64_0, nx, keysA_len, keysA_nil, segsA_len, mapsA_len, EVL, ite_toInt, ER, EW, Wv_nil, i6, i64, str, boo, EA, EL, ↓EP, binK, pickK, loadK, storeK, EO, Key.av, Cell.av, Fact.av, Row.av, ↓EC, ↓EK, EE, EB, ↓aBuiltin, ↓aAppend, rowsOf, ↓aLen, ↓aSlice, bnd, ↓aIndexAddr, ↓aIndex, ↓aBuild, ↓aBuildSlice, fillL, ↓aMakeSlice, two, ↓opt_some, ↓opt_none, ldAV, aggT, szOf, zeroAV, tys, unders, chunks, spliceL, Cfg.ro, detOp, gval, resAll, resOne, packAV, ↓reduceIte, seval, reduceCtorEq, Int.cast_ofNat_Int, exists_const, implies_true, decide_true, decide_false, if_true, if_false] <;> rfl) ?_; simp only [untok_segA, rowsA_len, factsA_len, rowsA_nil, factsA_nil, List.length_append, Int.le_refl, room, i64_0, nx, keysA_len, keysA_nil, segsA_len, mapsA_len, EVL, ite_toInt, ER, EW, Wv_nil, i6, i64, str, boo, EA, EL, ↓EP, binK, pickK, loadK, storeK, EO, Key.av, Cell.av, Fact.av, Row.av, ↓EC, ↓EK, EE, EB, ↓aBuiltin, ↓aAppend, rowsOf, ↓aLen, ↓aSlice, bnd, ↓aIndexAddr, ↓aIndex, ↓aBuild, ↓aBuildSlice, fillL, ↓aMakeSlice, two, ↓opt_some, ↓opt_none, ldAV, aggT, szOf, zeroAV, tys, unders, chunks, spliceL, Cfg.ro, detOp, gval, resAll, resOne, packAV, ↓reduceIte, seval, reduceCtorEq, Int.cast_ofNat_Int, exists_const, implies_true, decide_true, decide_false, if_true, if_false]
          simp only [resB, untok_segA, rowsA_len, factsA_len, rowsA_nil, factsA_nil, List.length_append, Int.le_refl, room, i64_0, nx, keysA_len, keysA_nil, segsA_len, mapsA_len, EVL, ite_toInt, ER, EW, Wv_nil, i6, i64, str, boo, EA, EL, ↓EP, binK, pickK, loadK, storeK, EO, Key.av, Cell.av, Fact.av, Row.av, ↓EC, ↓EK, EE, EB, ↓aBuiltin, ↓aAppend, rowsOf, ↓aLen, ↓aSlice, bnd, ↓aIndexAddr, ↓aIndex, ↓aBuild, ↓aBuildSlice, fillL, ↓aMakeSlice, two, ↓opt_some, ↓opt_none, ldAV, aggT, szOf, zeroAV, tys, unders, chunks, spliceL, Cfg.ro, detOp, gval, resAll, resOne, packAV, ↓reduceIte, seval, reduceCtorEq, Int.cast_ofNat_Int, exists_const, implies_true, decide_true, decide_false, if_true, if_false]
          simp only [hw, untok_segA, rowsA_len, factsA_len, rowsA_nil, factsA_nil, List.length_append, Int.le_refl, room, i64_0, nx, keysA_len, keysA_nil, segsA_len, mapsA_len, EVL, ite_toInt, ER, EW, Wv_nil, i6, i64, str, boo, EA, EL, ↓EP, binK, pickK, loadK, storeK, EO, Key.av, Cell.av, Fact.av, Row.av, ↓EC, ↓EK, EE, EB, ↓aBuiltin, ↓aAppend, rowsOf, ↓aLen, ↓aSlice, bnd, ↓aIndexAddr, ↓aIndex, ↓aBuild, ↓aBuildSlice, fillL, ↓aMakeSlice, two, ↓opt_some, ↓opt_none, ldAV, aggT, szOf, zeroAV, tys, unders, chunks, spliceL, Cfg.ro, detOp, gval, resAll, resOne, packAV, ↓reduceIte, seval, reduceCtorEq, Int.cast_ofNat_Int, exists_const, implies_true, decide_true, decide_false, if_true, if_false]
          refine round_next (i + 1, q) ⟨by simp only; omega, by simp only [Option.getD_some] at hwi ⊢; omega, by rw [hs, mergeAll, hq]; rfl⟩ (by simp only; omega) (AEnt_drop rfl rfl (Nat.le_succ _) ⟨Nat.le_refl _, fun id hid => by simp only [AState.set, AState.new] at hid ⊢; (repeat' split) <;> first | rfl | omega⟩ ((hwf.base _).new (box_bel _ _)) (EntB_all ?_))
          simp only [untok_segA, rowsA_len, factsA_len, rowsA_nil, factsA_nil, List.length_append, Int.le_refl, room, i64_0, nx, keysA_len, keysA_nil, segsA_len, mapsA_len, EVL, ite_toInt, ER, EW, Wv_nil, i6, i64, str, boo, EA, EL, ↓EP, binK, pickK, loadK, storeK, EO, Key.av, Cell.av, Fact.av, Row.av, ↓EC, ↓EK, EE, EB, ↓aBuiltin, ↓aAppend, rowsOf, ↓aLen, ↓aSlice, bnd, ↓aIndexAddr, ↓aIndex, ↓aBuild, ↓aBuildSlice, fillL, ↓aMakeSlice, two, ↓opt_some, ↓opt_none, ldAV, aggT, szOf, zeroAV, tys, unders, chunks, spliceL, Cfg.ro, detOp, gval, resAll, resOne, packAV, ↓reduceIte, seval, reduceCtorEq, Int.cast_ofNat_Int, exists_const, implies_true, decide_true, decide_false, if_true, if_false]
          exact ⟨Bel_ptr.2 (Nat.lt_succ_self _), by simp only [Bel_sl, segsA_bel, tokBel, and_self], .v _, .v _⟩
    · have hc : ¬ ((i : Int) < (l.length : Int)) := by omega
      simp only [hc, untok_segA, rowsA_len, factsA_len, rowsA_nil, factsA_nil, List.length_append, Int.le_refl, room, i64_0, nx, keysA_len, keysA_nil, segsA_len, mapsA_len, EVL, ite_toInt, ER, EW, Wv_nil, i6, i64, str, boo, EA, EL, ↓EP, binK, pickK, loadK, storeK, EO, Key.av, Cell.av, Fact.av, Row.av, ↓EC, ↓EK, EE, EB, ↓aBuiltin, ↓aAppend, rowsOf, ↓aLen, ↓aSlice, bnd, ↓aIndexAddr, ↓aIndex, ↓aBuild, ↓aBuildSlice, fillL, ↓aMakeSlice, two, ↓opt_some, ↓opt_none, ldAV, aggT, szOf, zeroAV, tys, unders, chunks, spliceL, Cfg.ro, detOp, gval, resAll, resOne, packAV, ↓reduceIte, seval, reduceCtorEq, Int.cast_ofNat_Int, exists_const, implies_true, decide_true, decide_false, if_true, if_false]
      rw [show r = some acc by rw [hs, List.drop_eq_nil_of_le (by omega)]; rfl]
      refine Ret_freeze (id := s.next) (l := [.ptr s.next 0, i64 0]) (l' := [segA (some acc), i64 0]) (m := [segA (some acc), i64 0]) (cs := [.sl 9 (rowsA acc) .none]) (cs' := [.sl 9 (rowsA acc) .none]) (.inr rfl) rfl (by simp only [untok_segA, rowsA_len, factsA_len, rowsA_nil, factsA_nil, List.length_append, Int.le_refl, room, i64_0, nx, keysA_len, keysA_nil, segsA_len, mapsA_len, EVL, ite_toInt, ER, EW, Wv_nil, i6, i64, str, boo, EA, EL, ↓EP, binK, pickK, loadK, storeK, EO, Key.av, Cell.av, Fact.av, Row.av, ↓EC, ↓EK, EE, EB, ↓aBuiltin, ↓aAppend, rowsOf, ↓aLen, ↓aSlice, bnd, ↓aIndexAddr, ↓aIndex, ↓aBuild, ↓aBuildSlice, fillL, ↓aMakeSlice, two, ↓opt_some, ↓opt_none, ldAV, aggT, szOf, zeroAV, tys, unders, chunks, spliceL, Cfg.ro, detOp, gval, resAll, resOne, packAV, ↓reduceIte, seval, reduceCtorEq, Int.cast_ofNat_Int, exists_const, implies_true, decide_true, decide_false, if_true, if_false]) (by (simp only [upd, AState.set, AState.new]; (repeat (first | rw [if_neg (by omega)] | rw [if_pos (by omega)] | (simp only [↓reduceIte]; done) | simp only [↓reduceIte])); try rfl)) ⟨.inl rfl, trivial⟩ rfl ?_ ⟨.inl rfl, .inl rfl, trivial⟩ rfl (Nat.le_refl _) (by first | exact Keeps.base _ _ | (repeat (first | exact Keeps.base _ _ | refine Keeps.new ?_ _ | refine Keeps.set ?_ (by first | (simp; done) | omega | (simp only [EO]; omega)) _))) ?_
      · simp only [packAV, frz, List.map_cons, List.map_nil, frzL, if_true, segA]
      · simp only [resO, resS, Bel_tup, List.mem_cons, List.not_mem_nil, or_false, forall_eq_or_imp, forall_eq, segA_bel, true_and]
        exact .v _

end Go.Proofs

namespace Go.Proofs
open Go Go.Av Go.Sort
set_option linter.unusedSimpArgs false
set_option linter.unusedVariables false
set_option maxRecDepth 30000
set_option maxHeartbeats 2000000

def total (l : List (List Row)) : Nat := (l.map List.length).sum
theorem total_drop {l : List (List Row)} {i : Nat} {x : List Row} (h : l[i]? = some x) : total (l.drop i) = x.length + total (l.drop (i + 1)) := by
  rw [drop_get h]; simp [total]
theorem putAll_append (acc l m : List Row) : putAll acc (l ++ m) = (putAll acc l).bind fun a => putAll a m := by
  induction l generalizing acc with
  | nil => rfl
  | cons x l ih => simp only [List.cons_append, putAll]; cases putL acc x <;> simp [ih]

theorem rmerges_spec (l : List (List Row)) (hl : l.length ≤ 1000) (hw : total l ≤ 1000000) : APure Try.prog 25 [.sl 1 (mapsA l) .none] (resP (putAll [] l.flatten)) := by
  intro s
  generalize hr : putAll [] l.flatten = r
  refine ACalls_body (C := ⟨[]⟩) (c := Try.f25.body.getD .skip) (rs := [.tmp 2, .tmp 3]) Try.func25 (by kernel_rfl) (by kernel_rfl) (by kernel_rfl) (Nat.le_of_ble_eq_true rfl) (by kernel_rfl) fun hwf hbel => ?_; simp only [Try.f25, untok_segA, rowsA_len, factsA_len, rowsA_nil, factsA_nil, List.length_append, Int.le_refl, room, i64_0, nx, keysA_len, keysA_nil, segsA_len, mapsA_len, EVL, ite_toInt, ER, EW, Wv_nil, i6, i64, str, boo, EA, EL, ↓EP, binK, pickK, loadK, storeK, EO, Key.av, Cell.av, Fact.av, Row.av, ↓EC, ↓EK, EE, EB, ↓aBuiltin, ↓aAppend, rowsOf, ↓aLen, ↓aSlice, bnd, ↓aIndexAddr, ↓aIndex, ↓aBuild, ↓aBuildSlice, fillL, ↓aMakeSlice, two, ↓opt_some, ↓opt_none, ldAV, aggT, szOf, zeroAV, tys, unders, chunks, spliceL, Cfg.ro, detOp, gval, resAll, resOne, packAV, ↓reduceIte, seval, reduceCtorEq, Int.cast_ofNat_Int, exists_const, implies_true, decide_true, decide_false, if_true, if_false]
  refine ALoop_inv (ι := Nat × List Row) (fun i => i.1 ≤ l.length ∧ i.2.length + total (l.drop i.1) ≤ 1000000 ∧ r = putAll i.2 (l.drop i.1).flatten) (fun i => envL [(0, .sl 1 (mapsA l) .none), (4, .sl 9 (rowsA i.2) .none), (5, i64 i.1)]) (fun i => { s with base := ⟨s.next, []⟩ }) (fun i => l.length - i.1) (0, []) ⟨Nat.zero_le _, by simpa using hw, by rw [← hr]; rfl⟩ (ent rfl ?_) (fun i hi => ?_)
  · simp only [untok_segA, rowsA_len, factsA_len, rowsA_nil, factsA_nil, List.length_append, Int.le_refl, room, i64_0, nx, keysA_len, keysA_nil, segsA_len, mapsA_len, EVL, ite_toInt, ER, EW, Wv_nil, i6, i64, str, boo, EA, EL, ↓EP, binK, pickK, loadK, storeK, EO, Key.av, Cell.av, Fact.av, Row.av, ↓EC, ↓EK, EE, EB, ↓aBuiltin, ↓aAppend, rowsOf, ↓aLen, ↓aSlice, bnd, ↓aIndexAddr, ↓aIndex, ↓aBuild, ↓aBuildSlice, fillL, ↓aMakeSlice, two, ↓opt_some, ↓opt_none, ldAV, aggT, szOf, zeroAV, tys, unders, chunks, spliceL, Cfg.ro, detOp, gval, resAll, resOne, packAV, ↓reduceIte, seval, reduceCtorEq, Int.cast_ofNat_Int, exists_const, implies_true, decide_true, decide_false, if_true, if_false]
  · obtain ⟨i, acc⟩ := i
    obtain ⟨hi, hwi, hs⟩ := hi
    simp only at hi hwi hs
    by_cases hlt : i < l.length
    · obtain ⟨x, hx⟩ : ∃ x, l[i]? = some x := ⟨_, List.getElem?_eq_getElem hlt⟩
      have gx := mapsA_get hx
      rw [total_drop hx] at hwi
      rw [drop_get hx, List.flatten_cons, putAll_append] at hs
      have hc : ((i : Int) < (l.length : Int)) := by omega
      have h0 : (0 : Int) ≤ (i : Int) := by omega
      have hw : IntKind.i64.wrap ((i : Int) + 1) = (i : Int) + 1 := wrap_in (by omega) (by omega)
      simp only [hc, untok_segA, rowsA_len, factsA_len, rowsA_nil, factsA_nil, List.length_append, Int.le_refl, room, i64_0, nx, keysA_len, keysA_nil, segsA_len, mapsA_len, EVL, ite_toInt, ER, EW, Wv_nil, i6, i64, str, boo, EA, EL, ↓EP, binK, pickK, loadK, storeK, EO, Key.av, Cell.av, Fact.av, Row.av, ↓EC, ↓EK, EE, EB, ↓aBuiltin, ↓aAppend, rowsOf, ↓aLen, ↓aSlice, bnd, ↓aIndexAddr, ↓aIndex, ↓aBuild, ↓aBuildSlice, fillL, ↓aMakeSlice, two, ↓opt_some, ↓opt_none, ldAV, aggT, szOf, zeroAV, tys, unders, chunks, spliceL, Cfg.ro, detOp, gval, resAll, resOne, packAV, ↓reduceIte, seval, reduceCtorEq, Int.cast_ofNat_Int, exists_const, implies_true, decide_true, decide_false, if_true, if_false]
      refine ALoop_inv (ι := Nat × List Row) (fun j => j.1 ≤ x.length ∧ j.2.length + (x.length - j.1) + total (l.drop (i + 1)) ≤ 1000000 ∧ r = (putAll j.2 (x.drop j.1)).bind fun a => putAll a (l.drop (i + 1)).flatten) (fun j => envL [(0, .sl 1 (mapsA l) .none), (4, .sl 9 (rowsA j.2) .none), (5, i64 i), (6, i64 j.1)]) (fun _ => { s with base := ⟨s.next, []⟩ }) (fun j => x.length - j.1) (0, acc) ⟨Nat.zero_le _, by simp only; omega, hs⟩ (ent rfl ?_) (fun j hj => ?_)
      · simp only [untok_segA, rowsA_len, factsA_len, rowsA_nil, factsA_nil, List.length_append, Int.le_refl, room, i64_0, nx, keysA_len, keysA_nil, segsA_len, mapsA_len, EVL, ite_toInt, ER, EW, Wv_nil, i6, i64, str, boo, EA, EL, ↓EP, binK, pickK, loadK, storeK, EO, Key.av, Cell.av, Fact.av, Row.av, ↓EC, ↓EK, EE, EB, ↓aBuiltin, ↓aAppend, rowsOf, ↓aLen, ↓aSlice, bnd, ↓aIndexAddr, ↓aIndex, ↓aBuild, ↓aBuildSlice, fillL, ↓aMakeSlice, two, ↓opt_some, ↓opt_none, ldAV, aggT, szOf, zeroAV, tys, unders, chunks, spliceL, Cfg.ro, detOp, gval, resAll, resOne, packAV, ↓reduceIte, seval, reduceCtorEq, Int.cast_ofNat_Int, exists_const, implies_true, decide_true, decide_false, if_true, if_false]
      · obtain ⟨j, ac⟩ := j
        obtain ⟨hj, hwj, hs⟩ := hj
        simp only at hj hwj hs
        by_cases hjl : j < x.length
        · obtain ⟨y, hy⟩ : ∃ y, x[j]? = some y := ⟨_, List.getElem?_eq_getElem hjl⟩
          have gy := rowsA_get hy
          rw [drop_get hy, putAll] at hs
          have hd : ((j : Int) < (x.length : Int)) := by omega
          have h0j : (0 : Int) ≤ (j : Int) := by omega
          have hwj' : IntKind.i64.wrap ((j : Int) + 1) = (j : Int) + 1 := wrap_in (by omega) (by omega)
          have hp := put_spec ac y (by omega)
          cases hq : putL ac y with
          | none =>
            rw [hq] at hp
            simp only [hc, h0, gx, hd, h0j, gy, untok_segA, rowsA_len, factsA_len, rowsA_nil, factsA_nil, List.length_append, Int.le_refl, room, i64_0, nx, keysA_len, keysA_nil, segsA_len, mapsA_len, EVL, ite_toInt, ER, EW, Wv_nil, i6, i64, str, boo, EA, EL, ↓EP, binK, pickK, loadK, storeK, EO, Key.av, Cell.av, Fact.av, Row.av, ↓EC, ↓EK, EE, EB, ↓aBuiltin, ↓aAppend, rowsOf, ↓aLen, ↓aSlice, bnd, ↓aIndexAddr, ↓aIndex, ↓aBuild, ↓aBuildSlice, fillL, ↓aMakeSlice, two, ↓opt_some, ↓opt_none, ldAV, aggT, szOf, zeroAV, tys, unders, chunks, spliceL, Cfg.ro, detOp, gval, resAll, resOne, packAV, ↓reduceIte, seval, reduceCtorEq, Int.cast_ofNat_Int, exists_const, implies_true, decide_true, decide_false, if_true, if_false]
            refine hp.use ?_
            simp only [resP, untok_segA, rowsA_len, factsA_len, rowsA_nil, factsA_nil, List.length_append, Int.le_refl, room, i64_0, nx, keysA_len, keysA_nil, segsA_len, mapsA_len, EVL, ite_toInt, ER, EW, Wv_nil, i6, i64, str, boo, EA, EL, ↓EP, binK, pickK, loadK, storeK, EO, Key.av, Cell.av, Fact.av, Row.av, ↓EC, ↓EK, EE, EB, ↓aBuiltin, ↓aAppend, rowsOf, ↓aLen, ↓aSlice, bnd, ↓aIndexAddr, ↓aIndex, ↓aBuild, ↓aBuildSlice, fillL, ↓aMakeSlice, two, ↓opt_some, ↓opt_none, ldAV, aggT, szOf, zeroAV, tys, unders, chunks, spliceL, Cfg.ro, detOp, gval, resAll, resOne, packAV, ↓reduceIte, seval, reduceCtorEq, Int.cast_ofNat_Int, exists_const, implies_true, decide_true, decide_false, if_true, if_false]
            rw [show r = none by rw [hs, hq]; rfl]
            exact Ret_weak (l := [.v (.slice none 0 0), i64 6]) (m := [.sl 9 [] .none, i64 6]) (.inr rfl) rfl (by simp only [untok_segA, rowsA_len, factsA_len, rowsA_nil, factsA_nil, List.length_append, Int.le_refl, room, i64_0, nx, keysA_len, keysA_nil, segsA_len, mapsA_len, EVL, ite_toInt, ER, EW, Wv_nil, i6, i64, str, boo, EA, EL, ↓EP, binK, pickK, loadK, storeK, EO, Key.av, Cell.av, Fact.av, Row.av, ↓EC, ↓EK, EE, EB, ↓aBuiltin, ↓aAppend, rowsOf, ↓aLen, ↓aSlice, bnd, ↓aIndexAddr, ↓aIndex, ↓aBuild, ↓aBuildSlice, fillL, ↓aMakeSlice, two, ↓opt_some, ↓opt_none, ldAV, aggT, szOf, zeroAV, tys, unders, chunks, spliceL, Cfg.ro, detOp, gval, resAll, resOne, packAV, ↓reduceIte, seval, reduceCtorEq, Int.cast_ofNat_Int, exists_const, implies_true, decide_true, decide_false, if_true, if_false] <;> rfl) (by simp only [WvL, untok_segA, rowsA_len, factsA_len, rowsA_nil, factsA_nil, List.length_append, Int.le_refl, room, i64_0, nx, keysA_len, keysA_nil, segsA_len, mapsA_len, EVL, ite_toInt, ER, EW, Wv_nil, i6, i64, str, boo, EA, EL, ↓EP, binK, pickK, loadK, storeK, EO, Key.av, Cell.av, Fact.av, Row.av, ↓EC, ↓EK, EE, EB, ↓aBuiltin, ↓aAppend, rowsOf, ↓aLen, ↓aSlice, bnd, ↓aIndexAddr, ↓aIndex, ↓aBuild, ↓aBuildSlice, fillL, ↓aMakeSlice, two, ↓opt_some, ↓opt_none, ldAV, aggT, szOf, zeroAV, tys, unders, chunks, spliceL, Cfg.ro, detOp, gval, resAll, resOne, packAV, ↓reduceIte, seval, reduceCtorEq, Int.cast_ofNat_Int, exists_const, implies_true, decide_true, decide_false, if_true, if_false]) rfl (by first | exact Keeps.base _ _ | (repeat (first | exact Keeps.base _ _ | refine Keeps.new ?_ _ | refine Keeps.set ?_ (by first | (simp; done) | omega | (simp only [EO]; omega)) _))) (by show Bel _ (packAV [.sl 9 [] .none, i64 6]); exact (by first | exact .v _ | (simp only [packAV, rowsA_bel, factsA_bel, segA_bel, segsA_bel, mapsA_bel, resS, if_true, if_false, Bool.false_eq_true, resC, Key.av, Cell.av, Fact.av, Row.av, zeroC, Bel_v, Bel_tup, Bel_agg, List.forall_mem_map, List.map_nil, false_implies, implies_true, List.mem_cons, List.not_mem_nil, or_false, forall_eq_or_imp, forall_eq, and_self, true_and, and_true, Bel_sl, Bel_ep, tokBel, implies_true])))
          | some q =>
            rw [hq] at hp
            have hql := putL_len hq
            simp only [hc, h0, gx, hd, h0j, gy, untok_segA, rowsA_len, factsA_len, rowsA_nil, factsA_nil, List.length_append, Int.le_refl, room, i64_0, nx, keysA_len, keysA_nil, segsA_len, mapsA_len, EVL, ite_toInt, ER, EW, Wv_nil, i6, i64, str, boo, EA, EL, ↓EP, binK, pickK, loadK, storeK, EO, Key.av, Cell.av, Fact.av, Row.av, ↓EC, ↓EK, EE, EB, ↓aBuiltin, ↓aAppend, rowsOf, ↓aLen, ↓aSlice, bnd, ↓aIndexAddr, ↓aIndex, ↓aBuild, ↓aBuildSlice, fillL, ↓aMakeSlice, two, ↓opt_some, ↓opt_none, ldAV, aggT, szOf, zeroAV, tys, unders, chunks, spliceL, Cfg.ro, detOp, gval, resAll, resOne, packAV, ↓reduceIte, seval, reduceCtorEq, Int.cast_ofNat_Int, exists_const, implies_true, decide_true, decide_false, if_true, if_false]
            refine hp.use ?_
            simp only [resP, hwj', untok_segA, rowsA_len, factsA_len, rowsA_nil, factsA_nil, List.length_append, Int.le_refl, room, i64_0, nx, keysA_len, keysA_nil, segsA_len, mapsA_len, EVL, ite_toInt, ER, EW, Wv_nil, i6, i64, str, boo, EA, EL, ↓EP, binK, pickK, loadK, storeK, EO, Key.av, Cell.av, Fact.av, Row.av, ↓EC, ↓EK, EE, EB, ↓aBuiltin, ↓aAppend, rowsOf, ↓aLen, ↓aSlice, bnd, ↓aIndexAddr, ↓aIndex, ↓aBuild, ↓aBuildSlice, fillL, ↓aMakeSlice, two, ↓opt_some, ↓opt_none, ldAV, aggT, szOf, zeroAV, tys, unders, chunks, spliceL, Cfg.ro, detOp, gval, resAll, resOne, packAV, ↓reduceIte, seval, reduceCtorEq, Int.cast_ofNat_Int, exists_const, implies_true, decide_true, decide_false, if_true, if_false]
            refine round_next (j + 1, q) ⟨by simp only; omega, by simp only; omega, by rw [hs, hq]; rfl⟩ (by simp only; omega) (ent rfl ?_)
            simp only [untok_segA, rowsA_len, factsA_len, rowsA_nil, factsA_nil, List.length_append, Int.le_refl, room, i64_0, nx, keysA_len, keysA_nil, segsA_len, mapsA_len, EVL, ite_toInt, ER, EW, Wv_nil, i6, i64, str, boo, EA, EL, ↓EP, binK, pickK, loadK, storeK, EO, Key.av, Cell.av, Fact.av, Row.av, ↓EC, ↓EK, EE, EB, ↓aBuiltin, ↓aAppend, rowsOf, ↓aLen, ↓aSlice, bnd, ↓aIndexAddr, ↓aIndex, ↓aBuild, ↓aBuildSlice, fillL, ↓aMakeSlice, two, ↓opt_some, ↓opt_none, ldAV, aggT, szOf, zeroAV, tys, unders, chunks, spliceL, Cfg.ro, detOp, gval, resAll, resOne, packAV, ↓reduceIte, seval, reduceCtorEq, Int.cast_ofNat_Int, exists_const, implies_true, decide_true, decide_false, if_true, if_false]
        · have hd : ¬ ((j : Int) < (x.length : Int)) := by omega
          simp only [hc, h0, gx, hd, hw, untok_segA, rowsA_len, factsA_len, rowsA_nil, factsA_nil, List.length_append, Int.le_refl, room, i64_0, nx, keysA_len, keysA_nil, segsA_len, mapsA_len, EVL, ite_toInt, ER, EW, Wv_nil, i6, i64, str, boo, EA, EL, ↓EP, binK, pickK, loadK, storeK, EO, Key.av, Cell.av, Fact.av, Row.av, ↓EC, ↓EK, EE, EB, ↓aBuiltin, ↓aAppend, rowsOf, ↓aLen, ↓aSlice, bnd, ↓aIndexAddr, ↓aIndex, ↓aBuild, ↓aBuildSlice, fillL, ↓aMakeSlice, two, ↓opt_some, ↓opt_none, ldAV, aggT, szOf, zeroAV, tys, unders, chunks, spliceL, Cfg.ro, detOp, gval, resAll, resOne, packAV, ↓reduceIte, seval, reduceCtorEq, Int.cast_ofNat_Int, exists_const, implies_true, decide_true, decide_false, if_true, if_false]
          rw [List.drop_eq_nil_of_le (by omega)] at hs
          refine round_next (i + 1, ac) ⟨by simp only; omega, by simp only; omega, hs⟩ (by simp only; omega) (ent rfl ?_)
          simp only [untok_segA, rowsA_len, factsA_len, rowsA_nil, factsA_nil, List.length_append, Int.le_refl, room, i64_0, nx, keysA_len, keysA_nil, segsA_len, mapsA_len, EVL, ite_toInt, ER, EW, Wv_nil, i6, i64, str, boo, EA, EL, ↓EP, binK, pickK, loadK, storeK, EO, Key.av, Cell.av, Fact.av, Row.av, ↓EC, ↓EK, EE, EB, ↓aBuiltin, ↓aAppend, rowsOf, ↓aLen, ↓aSlice, bnd, ↓aIndexAddr, ↓aIndex, ↓aBuild, ↓aBuildSlice, fillL, ↓aMakeSlice, two, ↓opt_some, ↓opt_none, ldAV, aggT, szOf, zeroAV, tys, unders, chunks, spliceL, Cfg.ro, detOp, gval, resAll, resOne, packAV, ↓reduceIte, seval, reduceCtorEq, Int.cast_ofNat_Int, exists_const, implies_true, decide_true, decide_false, if_true, if_false]
    · have hc : ¬ ((i : Int) < (l.length : Int)) := by omega
      simp only [hc, untok_segA, rowsA_len, factsA_len, rowsA_nil, factsA_nil, List.length_append, Int.le_refl, room, i64_0, nx, keysA_len, keysA_nil, segsA_len, mapsA_len, EVL, ite_toInt, ER, EW, Wv_nil, i6, i64, str, boo, EA, EL, ↓EP, binK, pickK, loadK, storeK, EO, Key.av, Cell.av, Fact.av, Row.av, ↓EC, ↓EK, EE, EB, ↓aBuiltin, ↓aAppend, rowsOf, ↓aLen, ↓aSlice, bnd, ↓aIndexAddr, ↓aIndex, ↓aBuild, ↓aBuildSlice, fillL, ↓aMakeSlice, two, ↓opt_some, ↓opt_none, ldAV, aggT, szOf, zeroAV, tys, unders, chunks, spliceL, Cfg.ro, detOp, gval, resAll, resOne, packAV, ↓reduceIte, seval, reduceCtorEq, Int.cast_ofNat_Int, exists_const, implies_true, decide_true, decide_false, if_true, if_false]
      rw [show r = some acc by rw [hs, List.drop_eq_nil_of_le (by omega)]; rfl]
      exact Ret_pure (l := [.sl 9 (rowsA acc) .none, i64 0]) (.inr rfl) rfl (by simp only [untok_segA, rowsA_len, factsA_len, rowsA_nil, factsA_nil, List.length_append, Int.le_refl, room, i64_0, nx, keysA_len, keysA_nil, segsA_len, mapsA_len, EVL, ite_toInt, ER, EW, Wv_nil, i6, i64, str, boo, EA, EL, ↓EP, binK, pickK, loadK, storeK, EO, Key.av, Cell.av, Fact.av, Row.av, ↓EC, ↓EK, EE, EB, ↓aBuiltin, ↓aAppend, rowsOf, ↓aLen, ↓aSlice, bnd, ↓aIndexAddr, ↓aIndex, ↓aBuild, ↓aBuildSlice, fillL, ↓aMakeSlice, two, ↓opt_some, ↓opt_none, ldAV, aggT, szOf, zeroAV, tys, unders, chunks, spliceL, Cfg.ro, detOp, gval, resAll, resOne, packAV, ↓reduceIte, seval, reduceCtorEq, Int.cast_ofNat_Int, exists_const, implies_true, decide_true, decide_false, if_true, if_false] <;> rfl) rfl (by first | exact Keeps.base _ _ | (repeat (first | exact Keeps.base _ _ | refine Keeps.new ?_ _ | refine Keeps.set ?_ (by first | (simp; done) | omega | (simp only [EO]; omega)) _))) (by show Bel _ (packAV [.sl 9 (rowsA acc) .none, i64 0]); exact (by first | exact .v _ | (simp only [packAV, rowsA_bel, factsA_bel, segA_bel, segsA_bel, mapsA_bel, resS, if_true, if_false, Bool.false_eq_true, resC, Key.av, Cell.av, Fact.av, Row.av, zeroC, Bel_v, Bel_tup, Bel_agg, List.forall_mem_map, List.map_nil, false_implies, implies_true, List.mem_cons, List.not_mem_nil, or_false, forall_eq_or_imp, forall_eq, and_self, true_and, and_true, Bel_sl, Bel_ep, tokBel, implies_true])))

/-- What is made of rows: they, when they are right. -/
def madeO (l : List Row) : Option (List Row) := if rightL none l then some l else none

theorem mergeAll_eq : ∀ (l : List (List Row)) (acc : List Row), Srt acc → mergeAll acc (l.map madeO) = putAll acc (l.filter (rightL none)).flatten
  | [], acc, _ => rfl
  | b :: l, acc, ha => by
    simp only [List.map_cons, madeO]
    by_cases h : rightL none b = true
    · have hb := (right_srt b none h).1
      rw [if_pos h, List.filter_cons_of_pos h, List.flatten_cons, putAll_append, mergeAll, both_putAll ha hb]
      cases hq : putAll acc b with
      | none => rfl
      | some q =>
        have hs := both_is acc b ha hb
        rw [both_putAll ha hb, hq] at hs
        exact mergeAll_eq l q hs.1
    · rw [if_neg h, List.filter_cons_of_neg h, mergeAll]
      exact mergeAll_eq l acc ha

theorem mergeAll_none (l : List (Option (List Row))) (acc : List Row) (o : Option (List Row)) : mergeAll acc (o :: none :: l) = mergeAll acc (o :: l) := by
  cases o with
  | none => rfl
  | some b => simp only [mergeAll]

theorem total_filter (l : List (List Row)) : total (l.filter (rightL none)) ≤ total l := by
  induction l with
  | nil => exact Nat.le_refl _
  | cons x l ih =>
    by_cases h : rightL none x = true
    · rw [List.filter_cons_of_pos h]; simp only [total, List.map_cons, List.sum_cons] at ih ⊢; omega
    · rw [List.filter_cons_of_neg h]; simp only [total, List.map_cons, List.sum_cons] at ih ⊢; omega

theorem flatten_len (l : List (List Row)) : l.flatten.length = total l := by simp [total, List.length_flatten]

theorem filter_take {l : List (List Row)} {i : Nat} {x : List Row} (h : l[i]? = some x) : (l.take (i + 1)).filter (rightL none) = (l.take i).filter (rightL none) ++ [x].filter (rightL none) := by
  rw [take_get h, List.filter_append]

theorem kept_len (a b c : List Row) (i : Nat) : (([a, b, c].take i).filter (rightL none)).length ≤ 3 := Nat.le_trans (List.length_filter_le _ _) (by simp; omega)

theorem kept_light (a b c : List Row) (ha : a.length ≤ 100) (hb : b.length ≤ 100) (hc : c.length ≤ 100) : total ([a, b, c].filter (rightL none)) ≤ 300 := by
  have := total_filter [a, b, c]
  simp only [total, List.map_cons, List.map_nil, List.sum_cons, List.sum_nil] at this ⊢
  omega
theorem made_len (l : List Row) : ((madeO l).getD []).length ≤ l.length := by
  simp only [madeO]; split <;> simp

theorem mapsA_snoc (k : List (List Row)) (x : List Row) : mapsA (k ++ [x]) = mapsA k ++ [[.sl 9 (rowsA x) .none]] := by simp [mapsA]
theorem mapsB_snoc (n : Nat) (k : List (List Row)) (x : List Row) : ∀ c ∈ mapsA k ++ [[.sl 9 (rowsA x) .none]], ∀ y ∈ c, Bel n y := by rw [← mapsA_snoc]; exact of_eq_true (mapsA_bel _ _)

theorem segA_cells (o : Option (List Row)) : (segA o).cells = [segA o] := by cases o <;> rfl
theorem segA_one (o : Option (List Row)) : (segA o).one = true := by cases o <;> rfl

theorem segMerges_spec (a b c : List Row) : APure Try.prog 5 [.sl 9 (rowsA a) .none, .sl 9 (rowsA b) .none, .sl 9 (rowsA c) .none] (boo true) := by
  intro s
  have hLa := light_spec a
  have hLb := light_spec b
  have hLc := light_spec c
  by_cases h1 : a.length ≤ 100 ∧ b.length ≤ 100 ∧ c.length ≤ 100
  · obtain ⟨ha, hb, h1c⟩ := h1
    simp only [ha, hb, h1c, decide_true] at hLa hLb hLc
    refine ACalls_body (C := ⟨[]⟩) (c := Try.f5.body.getD .skip) (rs := [.tmp 6]) Try.func5 (by kernel_rfl) (by kernel_rfl) (by kernel_rfl) (Nat.le_of_ble_eq_true rfl) (by kernel_rfl) fun hwf hbel => ?_; simp only [Try.f5, untok_segA, rowsA_len, factsA_len, rowsA_nil, factsA_nil, List.length_append, Int.le_refl, room, i64_0, nx, keysA_len, keysA_nil, segsA_len, mapsA_len, EVL, ite_toInt, ER, EW, Wv_nil, i6, i64, str, boo, EA, EL, ↓EP, binK, pickK, loadK, storeK, EO, Key.av, Cell.av, Fact.av, Row.av, ↓EC, ↓EK, EE, EB, ↓aBuiltin, ↓aAppend, rowsOf, ↓aLen, ↓aSlice, bnd, ↓aIndexAddr, ↓aIndex, ↓aBuild, ↓aBuildSlice, fillL, ↓aMakeSlice, two, ↓opt_some, ↓opt_none, ldAV, aggT, szOf, zeroAV, tys, unders, chunks, spliceL, Cfg.ro, detOp, gval, resAll, resOne, packAV, ↓reduceIte, seval, reduceCtorEq, Int.cast_ofNat_Int, exists_const, implies_true, decide_true, decide_false, if_true, if_false]
    refine hLa.use ?_
    simp only [untok_segA, rowsA_len, factsA_len, rowsA_nil, factsA_nil, List.length_append, Int.le_refl, room, i64_0, nx, keysA_len, keysA_nil, segsA_len, mapsA_len, EVL, ite_toInt, ER, EW, Wv_nil, i6, i64, str, boo, EA, EL, ↓EP, binK, pickK, loadK, storeK, EO, Key.av, Cell.av, Fact.av, Row.av, ↓EC, ↓EK, EE, EB, ↓aBuiltin, ↓aAppend, rowsOf, ↓aLen, ↓aSlice, bnd, ↓aIndexAddr, ↓aIndex, ↓aBuild, ↓aBuildSlice, fillL, ↓aMakeSlice, two, ↓opt_some, ↓opt_none, ldAV, aggT, szOf, zeroAV, tys, unders, chunks, spliceL, Cfg.ro, detOp, gval, resAll, resOne, packAV, ↓reduceIte, seval, reduceCtorEq, Int.cast_ofNat_Int, exists_const, implies_true, decide_true, decide_false, if_true, if_false]
    refine hLb.use ?_
    simp only [untok_segA, rowsA_len, factsA_len, rowsA_nil, factsA_nil, List.length_append, Int.le_refl, room, i64_0, nx, keysA_len, keysA_nil, segsA_len, mapsA_len, EVL, ite_toInt, ER, EW, Wv_nil, i6, i64, str, boo, EA, EL, ↓EP, binK, pickK, loadK, storeK, EO, Key.av, Cell.av, Fact.av, Row.av, ↓EC, ↓EK, EE, EB, ↓aBuiltin, ↓aAppend, rowsOf, ↓aLen, ↓aSlice, bnd, ↓aIndexAddr, ↓aIndex, ↓aBuild, ↓aBuildSlice, fillL, ↓aMakeSlice, two, ↓opt_some, ↓opt_none, ldAV, aggT, szOf, zeroAV, tys, unders, chunks, spliceL, Cfg.ro, detOp, gval, resAll, resOne, packAV, ↓reduceIte, seval, reduceCtorEq, Int.cast_ofNat_Int, exists_const, implies_true, decide_true, decide_false, if_true, if_false]
    refine hLc.use ?_
    simp only [untok_segA, rowsA_len, factsA_len, rowsA_nil, factsA_nil, List.length_append, Int.le_refl, room, i64_0, nx, keysA_len, keysA_nil, segsA_len, mapsA_len, EVL, ite_toInt, ER, EW, Wv_nil, i6, i64, str, boo, EA, EL, ↓EP, binK, pickK, loadK, storeK, EO, Key.av, Cell.av, Fact.av, Row.av, ↓EC, ↓EK, EE, EB, ↓aBuiltin, ↓aAppend, rowsOf, ↓aLen, ↓aSlice, bnd, ↓aIndexAddr, ↓aIndex, ↓aBuild, ↓aBuildSlice, fillL, ↓aMakeSlice, two, ↓opt_some, ↓opt_none, ldAV, aggT, szOf, zeroAV, tys, unders, chunks, spliceL, Cfg.ro, detOp, gval, resAll, resOne, packAV, ↓reduceIte, seval, reduceCtorEq, Int.cast_ofNat_Int, exists_const, implies_true, decide_true, decide_false, if_true, if_false]
    refine ALoop_inv (ι := Nat) (fun i => i ≤ 3) (fun i => envL [(0, .sl 9 (rowsA a) .none), (1, .sl 9 (rowsA b) .none), (2, .sl 9 (rowsA c) .none), (7, .sl 1 (mapsA (([a, b, c].take i).filter (rightL none))) (.row s.next (([a, b, c].take i).filter (rightL none)).length)), (8, i64 i)]) (fun i => AState.new { s with base := ⟨s.next, []⟩ } (.row (([a, b, c].take i).filter (rightL none)).length)) (fun i => 3 - i) 0 (Nat.zero_le _) (AEnt.trans (AEnt_reserve _ _) (ent rfl ?_)) (fun i hi => ?_)
    · simp only [Wv_row, List.take_zero, List.filter_nil, mapsA, List.map_nil, untok_segA, rowsA_len, factsA_len, rowsA_nil, factsA_nil, List.length_append, Int.le_refl, room, i64_0, nx, keysA_len, keysA_nil, segsA_len, mapsA_len, EVL, ite_toInt, ER, EW, Wv_nil, i6, i64, str, boo, EA, EL, ↓EP, binK, pickK, loadK, storeK, EO, Key.av, Cell.av, Fact.av, Row.av, ↓EC, ↓EK, EE, EB, ↓aBuiltin, ↓aAppend, rowsOf, ↓aLen, ↓aSlice, bnd, ↓aIndexAddr, ↓aIndex, ↓aBuild, ↓aBuildSlice, fillL, ↓aMakeSlice, two, ↓opt_some, ↓opt_none, ldAV, aggT, szOf, zeroAV, tys, unders, chunks, spliceL, Cfg.ro, detOp, gval, resAll, resOne, packAV, ↓reduceIte, seval, reduceCtorEq, Int.cast_ofNat_Int, exists_const, implies_true, decide_true, decide_false, if_true, if_false]
    · by_cases hlt : i < 3
      · obtain ⟨x, hx⟩ : ∃ x, [a, b, c][i]? = some x := ⟨_, List.getElem?_eq_getElem hlt⟩
        have gx : (([[.sl 9 (rowsA a) .none], [.sl 9 (rowsA b) .none], [.sl 9 (rowsA c) .none]] : List (List AV))).getD i [] = [.sl 9 (rowsA x) .none] := mapsA_get hx
        have hxl : x.length ≤ 100 := by
          obtain rfl | rfl | rfl : i = 0 ∨ i = 1 ∨ i = 2 := by omega
          · cases hx; exact ha
          · cases hx; exact hb
          · cases hx; exact h1c
        have hr := rright_list x (by omega)
        have hc : ((i : Int) < 3) := by omega
        have h0 : (0 : Int) ≤ (i : Int) := by omega
        have hw : IntKind.i64.wrap ((i : Int) + 1) = (i : Int) + 1 := wrap_in (by omega) (by omega)
        have hk := kept_len a b c i
        have hf := filter_take hx
        simp only [hc, h0, gx, untok_segA, rowsA_len, factsA_len, rowsA_nil, factsA_nil, List.length_append, Int.le_refl, room, i64_0, nx, keysA_len, keysA_nil, segsA_len, mapsA_len, EVL, ite_toInt, ER, EW, Wv_nil, i6, i64, str, boo, EA, EL, ↓EP, binK, pickK, loadK, storeK, EO, Key.av, Cell.av, Fact.av, Row.av, ↓EC, ↓EK, EE, EB, ↓aBuiltin, ↓aAppend, rowsOf, ↓aLen, ↓aSlice, bnd, ↓aIndexAddr, ↓aIndex, ↓aBuild, ↓aBuildSlice, fillL, ↓aMakeSlice, two, ↓opt_some, ↓opt_none, ldAV, aggT, szOf, zeroAV, tys, unders, chunks, spliceL, Cfg.ro, detOp, gval, resAll, resOne, packAV, ↓reduceIte, seval, reduceCtorEq, Int.cast_ofNat_Int, exists_const, implies_true, decide_true, decide_false, if_true, if_false]
        refine hr.use ?_
        have hlen : (List.filter (rightL none) (List.take (i + 1) [a, b, c])).length ≤ 3 := kept_len a b c (i + 1)
        by_cases hrx : rightL none x = true
        · rw [List.filter_cons_of_pos hrx, List.filter_nil] at hf
          rw [hrx]
          simp only [hw, untok_segA, rowsA_len, factsA_len, rowsA_nil, factsA_nil, List.length_append, Int.le_refl, room, i64_0, nx, keysA_len, keysA_nil, segsA_len, mapsA_len, EVL, ite_toInt, ER, EW, Wv_nil, i6, i64, str, boo, EA, EL, ↓EP, binK, pickK, loadK, storeK, EO, Key.av, Cell.av, Fact.av, Row.av, ↓EC, ↓EK, EE, EB, ↓aBuiltin, ↓aAppend, rowsOf, ↓aLen, ↓aSlice, bnd, ↓aIndexAddr, ↓aIndex, ↓aBuild, ↓aBuildSlice, fillL, ↓aMakeSlice, two, ↓opt_some, ↓opt_none, ldAV, aggT, szOf, zeroAV, tys, unders, chunks, spliceL, Cfg.ro, detOp, gval, resAll, resOne, packAV, ↓reduceIte, seval, reduceCtorEq, Int.cast_ofNat_Int, exists_const, implies_true, decide_true, decide_false, if_true, if_false]
          refine ⟨by omega, ?_⟩
          refine round_next (i + 1) (by omega) (by omega) (AEnt_drop rfl rfl (Nat.le_succ _) ?_ ((hwf.base _).new trivial) (EntB_all ?_))
          · rw [hf, List.length_append]
            exact ⟨by simp only [EO]; omega, fun id hid => by simp only [EO] at hid ⊢; (repeat' split) <;> first | rfl | omega | (subst_vars; simp_all)⟩
          · rw [hf, mapsA_snoc, List.length_append]
            simp only [untok_segA, rowsA_len, factsA_len, rowsA_nil, factsA_nil, List.length_append, Int.le_refl, room, i64_0, nx, keysA_len, keysA_nil, segsA_len, mapsA_len, EVL, ite_toInt, ER, EW, Wv_nil, i6, i64, str, boo, EA, EL, ↓EP, binK, pickK, loadK, storeK, EO, Key.av, Cell.av, Fact.av, Row.av, ↓EC, ↓EK, EE, EB, ↓aBuiltin, ↓aAppend, rowsOf, ↓aLen, ↓aSlice, bnd, ↓aIndexAddr, ↓aIndex, ↓aBuild, ↓aBuildSlice, fillL, ↓aMakeSlice, two, ↓opt_some, ↓opt_none, ldAV, aggT, szOf, zeroAV, tys, unders, chunks, spliceL, Cfg.ro, detOp, gval, resAll, resOne, packAV, ↓reduceIte, seval, reduceCtorEq, Int.cast_ofNat_Int, exists_const, implies_true, decide_true, decide_false, if_true, if_false]
            exact ⟨by simp only [Bel_sl, rowsA_bel, tokBel, and_self], by simp only [Bel_sl, rowsA_bel, tokBel, and_self], by simp only [Bel_sl, rowsA_bel, tokBel, and_self], Bel_sl.2 ⟨mapsB_snoc _ _ _, Nat.lt_succ_self _⟩, .v _⟩
        · rw [List.filter_cons_of_neg hrx, List.filter_nil, List.append_nil] at hf
          have hrf : rightL none x = false := by simpa using hrx
          rw [hrf]
          simp only [hw, untok_segA, rowsA_len, factsA_len, rowsA_nil, factsA_nil, List.length_append, Int.le_refl, room, i64_0, nx, keysA_len, keysA_nil, segsA_len, mapsA_len, EVL, ite_toInt, ER, EW, Wv_nil, i6, i64, str, boo, EA, EL, ↓EP, binK, pickK, loadK, storeK, EO, Key.av, Cell.av, Fact.av, Row.av, ↓EC, ↓EK, EE, EB, ↓aBuiltin, ↓aAppend, rowsOf, ↓aLen, ↓aSlice, bnd, ↓aIndexAddr, ↓aIndex, ↓aBuild, ↓aBuildSlice, fillL, ↓aMakeSlice, two, ↓opt_some, ↓opt_none, ldAV, aggT, szOf, zeroAV, tys, unders, chunks, spliceL, Cfg.ro, detOp, gval, resAll, resOne, packAV, ↓reduceIte, seval, reduceCtorEq, Int.cast_ofNat_Int, exists_const, implies_true, decide_true, decide_false, if_true, if_false]
          refine round_next (i + 1) (by omega) (by omega) ?_
          rw [hf]
          refine ent rfl ?_
          simp only [untok_segA, rowsA_len, factsA_len, rowsA_nil, factsA_nil, List.length_append, Int.le_refl, room, i64_0, nx, keysA_len, keysA_nil, segsA_len, mapsA_len, EVL, ite_toInt, ER, EW, Wv_nil, i6, i64, str, boo, EA, EL, ↓EP, binK, pickK, loadK, storeK, EO, Key.av, Cell.av, Fact.av, Row.av, ↓EC, ↓EK, EE, EB, ↓aBuiltin, ↓aAppend, rowsOf, ↓aLen, ↓aSlice, bnd, ↓aIndexAddr, ↓aIndex, ↓aBuild, ↓aBuildSlice, fillL, ↓aMakeSlice, two, ↓opt_some, ↓opt_none, ldAV, aggT, szOf, zeroAV, tys, unders, chunks, spliceL, Cfg.ro, detOp, gval, resAll, resOne, packAV, ↓reduceIte, seval, reduceCtorEq, Int.cast_ofNat_Int, exists_const, implies_true, decide_true, decide_false, if_true, if_false]
      · have hc : ¬ ((i : Int) < 3) := by omega
        obtain rfl : i = 3 := by omega
        have hAa : APure Try.prog 24 [.sl 9 (rowsA a) .none] (segA (madeO a)) := made_spec a (by omega)
        have hAb : APure Try.prog 24 [.sl 9 (rowsA b) .none] (segA (madeO b)) := made_spec b (by omega)
        have hAc : APure Try.prog 24 [.sl 9 (rowsA c) .none] (segA (madeO c)) := made_spec c (by omega)
        have hm : APure Try.prog 21 [.sl 1 [[segA (madeO a)], [.v (.pointer none)], [segA (madeO b)], [segA (madeO c)]] .none] (resO (mergeAll [] [madeO a, none, madeO b, madeO c])) := merges_spec [madeO a, none, madeO b, madeO c] (by simp) (by have := made_len a; have := made_len b; have := made_len c; simp only [weigh, List.map_cons, List.map_nil, List.sum_cons, List.sum_nil, Option.getD_none, List.length_nil]; omega)
        rw [mergeAll_none, show [madeO a, madeO b, madeO c] = [a, b, c].map madeO from rfl, mergeAll_eq [a, b, c] [] Srt.nil] at hm
        have hg := rmerges_spec ([a, b, c].filter (rightL none)) (Nat.le_trans (List.length_filter_le _ _) (by simp)) (by have := kept_light a b c ha hb h1c; omega)
        have hql := putAll_getD ([a, b, c].filter (rightL none)).flatten
        rw [flatten_len] at hql
        have hkl := kept_light a b c ha hb h1c
        generalize hq : putAll [] (List.filter (rightL none) [a, b, c]).flatten = q at hm hg hql
        rw [resO_eq] at hm
        rw [resP_eq] at hg
        have hB := back_spec q (by omega)
        have hS := same_spec (q.getD []) (q.getD []) (by omega)
        simp only [decide_true] at hS
        simp only [hc, List.take_succ_cons, List.take_zero, untok_segA, rowsA_len, factsA_len, rowsA_nil, factsA_nil, List.length_append, Int.le_refl, room, i64_0, nx, keysA_len, keysA_nil, segsA_len, mapsA_len, EVL, ite_toInt, ER, EW, Wv_nil, i6, i64, str, boo, EA, EL, ↓EP, binK, pickK, loadK, storeK, EO, Key.av, Cell.av, Fact.av, Row.av, ↓EC, ↓EK, EE, EB, ↓aBuiltin, ↓aAppend, rowsOf, ↓aLen, ↓aSlice, bnd, ↓aIndexAddr, ↓aIndex, ↓aBuild, ↓aBuildSlice, fillL, ↓aMakeSlice, two, ↓opt_some, ↓opt_none, ldAV, aggT, szOf, zeroAV, tys, unders, chunks, spliceL, Cfg.ro, detOp, gval, resAll, resOne, packAV, ↓reduceIte, seval, reduceCtorEq, Int.cast_ofNat_Int, exists_const, implies_true, decide_true, decide_false, if_true, if_false]
        refine hAa.use ?_
        simp only [untok_segA, rowsA_len, factsA_len, rowsA_nil, factsA_nil, List.length_append, Int.le_refl, room, i64_0, nx, keysA_len, keysA_nil, segsA_len, mapsA_len, EVL, ite_toInt, ER, EW, Wv_nil, i6, i64, str, boo, EA, EL, ↓EP, binK, pickK, loadK, storeK, EO, Key.av, Cell.av, Fact.av, Row.av, ↓EC, ↓EK, EE, EB, ↓aBuiltin, ↓aAppend, rowsOf, ↓aLen, ↓aSlice, bnd, ↓aIndexAddr, ↓aIndex, ↓aBuild, ↓aBuildSlice, fillL, ↓aMakeSlice, two, ↓opt_some, ↓opt_none, ldAV, aggT, szOf, zeroAV, tys, unders, chunks, spliceL, Cfg.ro, detOp, gval, resAll, resOne, packAV, ↓reduceIte, seval, reduceCtorEq, Int.cast_ofNat_Int, exists_const, implies_true, decide_true, decide_false, if_true, if_false]
        refine hAb.use ?_
        simp only [untok_segA, rowsA_len, factsA_len, rowsA_nil, factsA_nil, List.length_append, Int.le_refl, room, i64_0, nx, keysA_len, keysA_nil, segsA_len, mapsA_len, EVL, ite_toInt, ER, EW, Wv_nil, i6, i64, str, boo, EA, EL, ↓EP, binK, pickK, loadK, storeK, EO, Key.av, Cell.av, Fact.av, Row.av, ↓EC, ↓EK, EE, EB, ↓aBuiltin, ↓aAppend, rowsOf, ↓aLen, ↓aSlice, bnd, ↓aIndexAddr, ↓aIndex, ↓aBuild, ↓aBuildSlice, fillL, ↓aMakeSlice, two, ↓opt_some, ↓opt_none, ldAV, aggT, szOf, zeroAV, tys, unders, chunks, spliceL, Cfg.ro, detOp, gval, resAll, resOne, packAV, ↓reduceIte, seval, reduceCtorEq, Int.cast_ofNat_Int, exists_const, implies_true, decide_true, decide_false, if_true, if_false]
        refine hAc.use ?_
        simp only [segA_cells, segA_one, untok_segA, rowsA_len, factsA_len, rowsA_nil, factsA_nil, List.length_append, Int.le_refl, room, i64_0, nx, keysA_len, keysA_nil, segsA_len, mapsA_len, EVL, ite_toInt, ER, EW, Wv_nil, i6, i64, str, boo, EA, EL, ↓EP, binK, pickK, loadK, storeK, EO, Key.av, Cell.av, Fact.av, Row.av, ↓EC, ↓EK, EE, EB, ↓aBuiltin, ↓aAppend, rowsOf, ↓aLen, ↓aSlice, bnd, ↓aIndexAddr, ↓aIndex, ↓aBuild, ↓aBuildSlice, fillL, ↓aMakeSlice, two, ↓opt_some, ↓opt_none, ldAV, aggT, szOf, zeroAV, tys, unders, chunks, spliceL, Cfg.ro, detOp, gval, resAll, resOne, packAV, ↓reduceIte, seval, reduceCtorEq, Int.cast_ofNat_Int, exists_const, implies_true, decide_true, decide_false, if_true, if_false]
        refine hm.use ?_
        simp only [untok_segA, rowsA_len, factsA_len, rowsA_nil, factsA_nil, List.length_append, Int.le_refl, room, i64_0, nx, keysA_len, keysA_nil, segsA_len, mapsA_len, EVL, ite_toInt, ER, EW, Wv_nil, i6, i64, str, boo, EA, EL, ↓EP, binK, pickK, loadK, storeK, EO, Key.av, Cell.av, Fact.av, Row.av, ↓EC, ↓EK, EE, EB, ↓aBuiltin, ↓aAppend, rowsOf, ↓aLen, ↓aSlice, bnd, ↓aIndexAddr, ↓aIndex, ↓aBuild, ↓aBuildSlice, fillL, ↓aMakeSlice, two, ↓opt_some, ↓opt_none, ldAV, aggT, szOf, zeroAV, tys, unders, chunks, spliceL, Cfg.ro, detOp, gval, resAll, resOne, packAV, ↓reduceIte, seval, reduceCtorEq, Int.cast_ofNat_Int, exists_const, implies_true, decide_true, decide_false, if_true, if_false]
        refine hg.use ?_
        simp only [untok_segA, rowsA_len, factsA_len, rowsA_nil, factsA_nil, List.length_append, Int.le_refl, room, i64_0, nx, keysA_len, keysA_nil, segsA_len, mapsA_len, EVL, ite_toInt, ER, EW, Wv_nil, i6, i64, str, boo, EA, EL, ↓EP, binK, pickK, loadK, storeK, EO, Key.av, Cell.av, Fact.av, Row.av, ↓EC, ↓EK, EE, EB, ↓aBuiltin, ↓aAppend, rowsOf, ↓aLen, ↓aSlice, bnd, ↓aIndexAddr, ↓aIndex, ↓aBuild, ↓aBuildSlice, fillL, ↓aMakeSlice, two, ↓opt_some, ↓opt_none, ldAV, aggT, szOf, zeroAV, tys, unders, chunks, spliceL, Cfg.ro, detOp, gval, resAll, resOne, packAV, ↓reduceIte, seval, reduceCtorEq, Int.cast_ofNat_Int, exists_const, implies_true, decide_true, decide_false, if_true, if_false]
        refine hB.use ?_
        simp only [untok_segA, rowsA_len, factsA_len, rowsA_nil, factsA_nil, List.length_append, Int.le_refl, room, i64_0, nx, keysA_len, keysA_nil, segsA_len, mapsA_len, EVL, ite_toInt, ER, EW, Wv_nil, i6, i64, str, boo, EA, EL, ↓EP, binK, pickK, loadK, storeK, EO, Key.av, Cell.av, Fact.av, Row.av, ↓EC, ↓EK, EE, EB, ↓aBuiltin, ↓aAppend, rowsOf, ↓aLen, ↓aSlice, bnd, ↓aIndexAddr, ↓aIndex, ↓aBuild, ↓aBuildSlice, fillL, ↓aMakeSlice, two, ↓opt_some, ↓opt_none, ldAV, aggT, szOf, zeroAV, tys, unders, chunks, spliceL, Cfg.ro, detOp, gval, resAll, resOne, packAV, ↓reduceIte, seval, reduceCtorEq, Int.cast_ofNat_Int, exists_const, implies_true, decide_true, decide_false, if_true, if_false]
        refine hS.use ?_
        simp only [untok_segA, rowsA_len, factsA_len, rowsA_nil, factsA_nil, List.length_append, Int.le_refl, room, i64_0, nx, keysA_len, keysA_nil, segsA_len, mapsA_len, EVL, ite_toInt, ER, EW, Wv_nil, i6, i64, str, boo, EA, EL, ↓EP, binK, pickK, loadK, storeK, EO, Key.av, Cell.av, Fact.av, Row.av, ↓EC, ↓EK, EE, EB, ↓aBuiltin, ↓aAppend, rowsOf, ↓aLen, ↓aSlice, bnd, ↓aIndexAddr, ↓aIndex, ↓aBuild, ↓aBuildSlice, fillL, ↓aMakeSlice, two, ↓opt_some, ↓opt_none, ldAV, aggT, szOf, zeroAV, tys, unders, chunks, spliceL, Cfg.ro, detOp, gval, resAll, resOne, packAV, ↓reduceIte, seval, reduceCtorEq, Int.cast_ofNat_Int, exists_const, implies_true, decide_true, decide_false, if_true, if_false]
        refine alive_spec.use ?_
        simp only [untok_segA, rowsA_len, factsA_len, rowsA_nil, factsA_nil, List.length_append, Int.le_refl, room, i64_0, nx, keysA_len, keysA_nil, segsA_len, mapsA_len, EVL, ite_toInt, ER, EW, Wv_nil, i6, i64, str, boo, EA, EL, ↓EP, binK, pickK, loadK, storeK, EO, Key.av, Cell.av, Fact.av, Row.av, ↓EC, ↓EK, EE, EB, ↓aBuiltin, ↓aAppend, rowsOf, ↓aLen, ↓aSlice, bnd, ↓aIndexAddr, ↓aIndex, ↓aBuild, ↓aBuildSlice, fillL, ↓aMakeSlice, two, ↓opt_some, ↓opt_none, ldAV, aggT, szOf, zeroAV, tys, unders, chunks, spliceL, Cfg.ro, detOp, gval, resAll, resOne, packAV, ↓reduceIte, seval, reduceCtorEq, Int.cast_ofNat_Int, exists_const, implies_true, decide_true, decide_false, if_true, if_false]
        exact Ret_pure (l := [boo true]) (.inr rfl) rfl (by simp only [untok_segA, rowsA_len, factsA_len, rowsA_nil, factsA_nil, List.length_append, Int.le_refl, room, i64_0, nx, keysA_len, keysA_nil, segsA_len, mapsA_len, EVL, ite_toInt, ER, EW, Wv_nil, i6, i64, str, boo, EA, EL, ↓EP, binK, pickK, loadK, storeK, EO, Key.av, Cell.av, Fact.av, Row.av, ↓EC, ↓EK, EE, EB, ↓aBuiltin, ↓aAppend, rowsOf, ↓aLen, ↓aSlice, bnd, ↓aIndexAddr, ↓aIndex, ↓aBuild, ↓aBuildSlice, fillL, ↓aMakeSlice, two, ↓opt_some, ↓opt_none, ldAV, aggT, szOf, zeroAV, tys, unders, chunks, spliceL, Cfg.ro, detOp, gval, resAll, resOne, packAV, ↓reduceIte, seval, reduceCtorEq, Int.cast_ofNat_Int, exists_const, implies_true, decide_true, decide_false, if_true, if_false] <;> rfl) rfl (by first | exact Keeps.base _ _ | (repeat (first | exact Keeps.base _ _ | refine Keeps.new ?_ _ | refine Keeps.set ?_ (by first | (simp; done) | omega | (simp only [EO]; omega)) _))) (by show Bel _ (packAV [boo true]); exact (by first | exact .v _ | (simp only [packAV, rowsA_bel, factsA_bel, segA_bel, segsA_bel, mapsA_bel, resS, if_true, if_false, Bool.false_eq_true, resC, Key.av, Cell.av, Fact.av, Row.av, zeroC, Bel_v, Bel_tup, Bel_agg, List.forall_mem_map, List.map_nil, false_implies, implies_true, List.mem_cons, List.not_mem_nil, or_false, forall_eq_or_imp, forall_eq, and_self, true_and, and_true, Bel_sl, Bel_ep, tokBel, implies_true])))
  · have hF : ∀ l : List Row, ¬ l.length ≤ 100 → decide (l.length ≤ 100) = false := fun l h => by simp [h]
    by_cases ha : a.length ≤ 100
    · rw [decide_eq_true ha] at hLa
      by_cases hb : b.length ≤ 100
      · rw [decide_eq_true hb] at hLb
        rw [hF c (fun hc => h1 ⟨ha, hb, hc⟩)] at hLc
        refine ACalls_body (C := ⟨[]⟩) (c := Try.f5.body.getD .skip) (rs := [.tmp 6]) Try.func5 (by kernel_rfl) (by kernel_rfl) (by kernel_rfl) (Nat.le_of_ble_eq_true rfl) (by kernel_rfl) fun hwf hbel => ?_; simp only [Try.f5, untok_segA, rowsA_len, factsA_len, rowsA_nil, factsA_nil, List.length_append, Int.le_refl, room, i64_0, nx, keysA_len, keysA_nil, segsA_len, mapsA_len, EVL, ite_toInt, ER, EW, Wv_nil, i6, i64, str, boo, EA, EL, ↓EP, binK, pickK, loadK, storeK, EO, Key.av, Cell.av, Fact.av, Row.av, ↓EC, ↓EK, EE, EB, ↓aBuiltin, ↓aAppend, rowsOf, ↓aLen, ↓aSlice, bnd, ↓aIndexAddr, ↓aIndex, ↓aBuild, ↓aBuildSlice, fillL, ↓aMakeSlice, two, ↓opt_some, ↓opt_none, ldAV, aggT, szOf, zeroAV, tys, unders, chunks, spliceL, Cfg.ro, detOp, gval, resAll, resOne, packAV, ↓reduceIte, seval, reduceCtorEq, Int.cast_ofNat_Int, exists_const, implies_true, decide_true, decide_false, if_true, if_false]
        refine hLa.use ?_
        simp only [untok_segA, rowsA_len, factsA_len, rowsA_nil, factsA_nil, List.length_append, Int.le_refl, room, i64_0, nx, keysA_len, keysA_nil, segsA_len, mapsA_len, EVL, ite_toInt, ER, EW, Wv_nil, i6, i64, str, boo, EA, EL, ↓EP, binK, pickK, loadK, storeK, EO, Key.av, Cell.av, Fact.av, Row.av, ↓EC, ↓EK, EE, EB, ↓aBuiltin, ↓aAppend, rowsOf, ↓aLen, ↓aSlice, bnd, ↓aIndexAddr, ↓aIndex, ↓aBuild, ↓aBuildSlice, fillL, ↓aMakeSlice, two, ↓opt_some, ↓opt_none, ldAV, aggT, szOf, zeroAV, tys, unders, chunks, spliceL, Cfg.ro, detOp, gval, resAll, resOne, packAV, ↓reduceIte, seval, reduceCtorEq, Int.cast_ofNat_Int, exists_const, implies_true, decide_true, decide_false, if_true, if_false]
        refine hLb.use ?_
        simp only [untok_segA, rowsA_len, factsA_len, rowsA_nil, factsA_nil, List.length_append, Int.le_refl, room, i64_0, nx, keysA_len, keysA_nil, segsA_len, mapsA_len, EVL, ite_toInt, ER, EW, Wv_nil, i6, i64, str, boo, EA, EL, ↓EP, binK, pickK, loadK, storeK, EO, Key.av, Cell.av, Fact.av, Row.av, ↓EC, ↓EK, EE, EB, ↓aBuiltin, ↓aAppend, rowsOf, ↓aLen, ↓aSlice, bnd, ↓aIndexAddr, ↓aIndex, ↓aBuild, ↓aBuildSlice, fillL, ↓aMakeSlice, two, ↓opt_some, ↓opt_none, ldAV, aggT, szOf, zeroAV, tys, unders, chunks, spliceL, Cfg.ro, detOp, gval, resAll, resOne, packAV, ↓reduceIte, seval, reduceCtorEq, Int.cast_ofNat_Int, exists_const, implies_true, decide_true, decide_false, if_true, if_false]
        refine hLc.use ?_
        simp only [untok_segA, rowsA_len, factsA_len, rowsA_nil, factsA_nil, List.length_append, Int.le_refl, room, i64_0, nx, keysA_len, keysA_nil, segsA_len, mapsA_len, EVL, ite_toInt, ER, EW, Wv_nil, i6, i64, str, boo, EA, EL, ↓EP, binK, pickK, loadK, storeK, EO, Key.av, Cell.av, Fact.av, Row.av, ↓EC, ↓EK, EE, EB, ↓aBuiltin, ↓aAppend, rowsOf, ↓aLen, ↓aSlice, bnd, ↓aIndexAddr, ↓aIndex, ↓aBuild, ↓aBuildSlice, fillL, ↓aMakeSlice, two, ↓opt_some, ↓opt_none, ldAV, aggT, szOf, zeroAV, tys, unders, chunks, spliceL, Cfg.ro, detOp, gval, resAll, resOne, packAV, ↓reduceIte, seval, reduceCtorEq, Int.cast_ofNat_Int, exists_const, implies_true, decide_true, decide_false, if_true, if_false]
        refine alive_spec.use ?_
        simp only [untok_segA, rowsA_len, factsA_len, rowsA_nil, factsA_nil, List.length_append, Int.le_refl, room, i64_0, nx, keysA_len, keysA_nil, segsA_len, mapsA_len, EVL, ite_toInt, ER, EW, Wv_nil, i6, i64, str, boo, EA, EL, ↓EP, binK, pickK, loadK, storeK, EO, Key.av, Cell.av, Fact.av, Row.av, ↓EC, ↓EK, EE, EB, ↓aBuiltin, ↓aAppend, rowsOf, ↓aLen, ↓aSlice, bnd, ↓aIndexAddr, ↓aIndex, ↓aBuild, ↓aBuildSlice, fillL, ↓aMakeSlice, two, ↓opt_some, ↓opt_none, ldAV, aggT, szOf, zeroAV, tys, unders, chunks, spliceL, Cfg.ro, detOp, gval, resAll, resOne, packAV, ↓reduceIte, seval, reduceCtorEq, Int.cast_ofNat_Int, exists_const, implies_true, decide_true, decide_false, if_true, if_false]
        exact Ret_pure (l := [boo true]) (.inr rfl) rfl (by simp only [untok_segA, rowsA_len, factsA_len, rowsA_nil, factsA_nil, List.length_append, Int.le_refl, room, i64_0, nx, keysA_len, keysA_nil, segsA_len, mapsA_len, EVL, ite_toInt, ER, EW, Wv_nil, i6, i64, str, boo, EA, EL, ↓EP, binK, pickK, loadK, storeK, EO, Key.av, Cell.av, Fact.av, Row.av, ↓EC, ↓EK, EE, EB, ↓aBuiltin, ↓aAppend, rowsOf, ↓aLen, ↓aSlice, bnd, ↓aIndexAddr, ↓aIndex, ↓aBuild, ↓aBuildSlice, fillL, ↓aMakeSlice, two, ↓opt_some, ↓opt_none, ldAV, aggT, szOf, zeroAV, tys, unders, chunks, spliceL, Cfg.ro, detOp, gval, resAll, resOne, packAV, ↓reduceIte, seval, reduceCtorEq, Int.cast_ofNat_Int, exists_const, implies_true, decide_true, decide_false, if_true, if_false] <;> rfl) rfl (by first | exact Keeps.base _ _ | (repeat (first | exact Keeps.base _ _ | refine Keeps.new ?_ _ | refine Keeps.set ?_ (by first | (simp; done) | omega | (simp only [EO]; omega)) _))) (by show Bel _ (packAV [boo true]); exact (by first | exact .v _ | (simp only [packAV, rowsA_bel, factsA_bel, segA_bel, segsA_bel, mapsA_bel, resS, if_true, if_false, Bool.false_eq_true, resC, Key.av, Cell.av, Fact.av, Row.av, zeroC, Bel_v, Bel_tup, Bel_agg, List.forall_mem_map, List.map_nil, false_implies, implies_true, List.mem_cons, List.not_mem_nil, or_false, forall_eq_or_imp, forall_eq, and_self, true_and, and_true, Bel_sl, Bel_ep, tokBel, implies_true])))
      · rw [hF b hb] at hLb
        refine ACalls_body (C := ⟨[]⟩) (c := Try.f5.body.getD .skip) (rs := [.tmp 6]) Try.func5 (by kernel_rfl) (by kernel_rfl) (by kernel_rfl) (Nat.le_of_ble_eq_true rfl) (by kernel_rfl) fun hwf hbel => ?_; simp only [Try.f5, untok_segA, rowsA_len, factsA_len, rowsA_nil, factsA_nil, List.length_append, Int.le_refl, room, i64_0, nx, keysA_len, keysA_nil, segsA_len, mapsA_len, EVL, ite_toInt, ER, EW, Wv_nil, i6, i64, str, boo, EA, EL, ↓EP, binK, pickK, loadK, storeK, EO, Key.av, Cell.av, Fact.av, Row.av, ↓EC, ↓EK, EE, EB, ↓aBuiltin, ↓aAppend, rowsOf, ↓aLen, ↓aSlice, bnd, ↓aIndexAddr, ↓aIndex, ↓aBuild, ↓aBuildSlice, fillL, ↓aMakeSlice, two, ↓opt_some, ↓opt_none, ldAV, aggT, szOf, zeroAV, tys, unders, chunks, spliceL, Cfg.ro, detOp, gval, resAll, resOne, packAV, ↓reduceIte, seval, reduceCtorEq, Int.cast_ofNat_Int, exists_const, implies_true, decide_true, decide_false, if_true, if_false]
        refine hLa.use ?_
        simp only [untok_segA, rowsA_len, factsA_len, rowsA_nil, factsA_nil, List.length_append, Int.le_refl, room, i64_0, nx, keysA_len, keysA_nil, segsA_len, mapsA_len, EVL, ite_toInt, ER, EW, Wv_nil, i6, i64, str, boo, EA, EL, ↓EP, binK, pickK, loadK, storeK, EO, Key.av, Cell.av, Fact.av, Row.av, ↓EC, ↓EK, EE, EB, ↓aBuiltin, ↓aAppend, rowsOf, ↓aLen, ↓aSlice, bnd, ↓aIndexAddr, ↓aIndex, ↓aBuild, ↓aBuildSlice, fillL, ↓aMakeSlice, two, ↓opt_some, ↓opt_none, ldAV, aggT, szOf, zeroAV, tys, unders, chunks, spliceL, Cfg.ro, detOp, gval, resAll, resOne, packAV, ↓reduceIte, seval, reduceCtorEq, Int.cast_ofNat_Int, exists_const, implies_true, decide_true, decide_false, if_true, if_false]
        refine hLb.use ?_
        simp only [untok_segA, rowsA_len, factsA_len, rowsA_nil, factsA_nil, List.length_append, Int.le_refl, room, i64_0, nx, keysA_len, keysA_nil, segsA_len, mapsA_len, EVL, ite_toInt, ER, EW, Wv_nil, i6, i64, str, boo, EA, EL, ↓EP, binK, pickK, loadK, storeK, EO, Key.av, Cell.av, Fact.av, Row.av, ↓EC, ↓EK, EE, EB, ↓aBuiltin, ↓aAppend, rowsOf, ↓aLen, ↓aSlice, bnd, ↓aIndexAddr, ↓aIndex, ↓aBuild, ↓aBuildSlice, fillL, ↓aMakeSlice, two, ↓opt_some, ↓opt_none, ldAV, aggT, szOf, zeroAV, tys, unders, chunks, spliceL, Cfg.ro, detOp, gval, resAll, resOne, packAV, ↓reduceIte, seval, reduceCtorEq, Int.cast_ofNat_Int, exists_const, implies_true, decide_true, decide_false, if_true, if_false]
        refine alive_spec.use ?_
        simp only [untok_segA, rowsA_len, factsA_len, rowsA_nil, factsA_nil, List.length_append, Int.le_refl, room, i64_0, nx, keysA_len, keysA_nil, segsA_len, mapsA_len, EVL, ite_toInt, ER, EW, Wv_nil, i6, i64, str, boo, EA, EL, ↓EP, binK, pickK, loadK, storeK, EO, Key.av, Cell.av, Fact.av, Row.av, ↓EC, ↓EK, EE, EB, ↓aBuiltin, ↓aAppend, rowsOf, ↓aLen, ↓aSlice, bnd, ↓aIndexAddr, ↓aIndex, ↓aBuild, ↓aBuildSlice, fillL, ↓aMakeSlice, two, ↓opt_some, ↓opt_none, ldAV, aggT, szOf, zeroAV, tys, unders, chunks, spliceL, Cfg.ro, detOp, gval, resAll, resOne, packAV, ↓reduceIte, seval, reduceCtorEq, Int.cast_ofNat_Int, exists_const, implies_true, decide_true, decide_false, if_true, if_false]
        exact Ret_pure (l := [boo true]) (.inr rfl) rfl (by simp only [untok_segA, rowsA_len, factsA_len, rowsA_nil, factsA_nil, List.length_append, Int.le_refl, room, i64_0, nx, keysA_len, keysA_nil, segsA_len, mapsA_len, EVL, ite_toInt, ER, EW, Wv_nil, i6, i64, str, boo, EA, EL, ↓EP, binK, pickK, loadK, storeK, EO, Key.av, Cell.av, Fact.av, Row.av, ↓EC, ↓EK, EE, EB, ↓aBuiltin, ↓aAppend, rowsOf, ↓aLen, ↓aSlice, bnd, ↓aIndexAddr, ↓aIndex, ↓aBuild, ↓aBuildSlice, fillL, ↓aMakeSlice, two, ↓opt_some, ↓opt_none, ldAV, aggT, szOf, zeroAV, tys, unders, chunks, spliceL, Cfg.ro, detOp, gval, resAll, resOne, packAV, ↓reduceIte, seval, reduceCtorEq, Int.cast_ofNat_Int, exists_const, implies_true, decide_true, decide_false, if_true, if_false] <;> rfl) rfl (by first | exact Keeps.base _ _ | (repeat (first | exact Keeps.base _ _ | refine Keeps.new ?_ _ | refine Keeps.set ?_ (by first | (simp; done) | omega | (simp only [EO]; omega)) _))) (by show Bel _ (packAV [boo true]); exact (by first | exact .v _ | (simp only [packAV, rowsA_bel, factsA_bel, segA_bel, segsA_bel, mapsA_bel, resS, if_true, if_false, Bool.false_eq_true, resC, Key.av, Cell.av, Fact.av, Row.av, zeroC, Bel_v, Bel_tup, Bel_agg, List.forall_mem_map, List.map_nil, false_implies, implies_true, List.mem_cons, List.not_mem_nil, or_false, forall_eq_or_imp, forall_eq, and_self, true_and, and_true, Bel_sl, Bel_ep, tokBel, implies_true])))
    · rw [hF a ha] at hLa
      refine ACalls_body (C := ⟨[]⟩) (c := Try.f5.body.getD .skip) (rs := [.tmp 6]) Try.func5 (by kernel_rfl) (by kernel_rfl) (by kernel_rfl) (Nat.le_of_ble_eq_true rfl) (by kernel_rfl) fun hwf hbel => ?_; simp only [Try.f5, untok_segA, rowsA_len, factsA_len, rowsA_nil, factsA_nil, List.length_append, Int.le_refl, room, i64_0, nx, keysA_len, keysA_nil, segsA_len, mapsA_len, EVL, ite_toInt, ER, EW, Wv_nil, i6, i64, str, boo, EA, EL, ↓EP, binK, pickK, loadK, storeK, EO, Key.av, Cell.av, Fact.av, Row.av, ↓EC, ↓EK, EE, EB, ↓aBuiltin, ↓aAppend, rowsOf, ↓aLen, ↓aSlice, bnd, ↓aIndexAddr, ↓aIndex, ↓aBuild, ↓aBuildSlice, fillL, ↓aMakeSlice, two, ↓opt_some, ↓opt_none, ldAV, aggT, szOf, zeroAV, tys, unders, chunks, spliceL, Cfg.ro, detOp, gval, resAll, resOne, packAV, ↓reduceIte, seval, reduceCtorEq, Int.cast_ofNat_Int, exists_const, implies_true, decide_true, decide_false, if_true, if_false]
      refine hLa.use ?_
      simp only [untok_segA, rowsA_len, factsA_len, rowsA_nil, factsA_nil, List.length_append, Int.le_refl, room, i64_0, nx, keysA_len, keysA_nil, segsA_len, mapsA_len, EVL, ite_toInt, ER, EW, Wv_nil, i6, i64, str, boo, EA, EL, ↓EP, binK, pickK, loadK, storeK, EO, Key.av, Cell.av, Fact.av, Row.av, ↓EC, ↓EK, EE, EB, ↓aBuiltin, ↓aAppend, rowsOf, ↓aLen, ↓aSlice, bnd, ↓aIndexAddr, ↓aIndex, ↓aBuild, ↓aBuildSlice, fillL, ↓aMakeSlice, two, ↓opt_some, ↓opt_none, ldAV, aggT, szOf, zeroAV, tys, unders, chunks, spliceL, Cfg.ro, detOp, gval, resAll, resOne, packAV, ↓reduceIte, seval, reduceCtorEq, Int.cast_ofNat_Int, exists_const, implies_true, decide_true, decide_false, if_true, if_false]
      refine alive_spec.use ?_
      simp only [untok_segA, rowsA_len, factsA_len, rowsA_nil, factsA_nil, List.length_append, Int.le_refl, room, i64_0, nx, keysA_len, keysA_nil, segsA_len, mapsA_len, EVL, ite_toInt, ER, EW, Wv_nil, i6, i64, str, boo, EA, EL, ↓EP, binK, pickK, loadK, storeK, EO, Key.av, Cell.av, Fact.av, Row.av, ↓EC, ↓EK, EE, EB, ↓aBuiltin, ↓aAppend, rowsOf, ↓aLen, ↓aSlice, bnd, ↓aIndexAddr, ↓aIndex, ↓aBuild, ↓aBuildSlice, fillL, ↓aMakeSlice, two, ↓opt_some, ↓opt_none, ldAV, aggT, szOf, zeroAV, tys, unders, chunks, spliceL, Cfg.ro, detOp, gval, resAll, resOne, packAV, ↓reduceIte, seval, reduceCtorEq, Int.cast_ofNat_Int, exists_const, implies_true, decide_true, decide_false, if_true, if_false]
      exact Ret_pure (l := [boo true]) (.inr rfl) rfl (by simp only [untok_segA, rowsA_len, factsA_len, rowsA_nil, factsA_nil, List.length_append, Int.le_refl, room, i64_0, nx, keysA_len, keysA_nil, segsA_len, mapsA_len, EVL, ite_toInt, ER, EW, Wv_nil, i6, i64, str, boo, EA, EL, ↓EP, binK, pickK, loadK, storeK, EO, Key.av, Cell.av, Fact.av, Row.av, ↓EC, ↓EK, EE, EB, ↓aBuiltin, ↓aAppend, rowsOf, ↓aLen, ↓aSlice, bnd, ↓aIndexAddr, ↓aIndex, ↓aBuild, ↓aBuildSlice, fillL, ↓aMakeSlice, two, ↓opt_some, ↓opt_none, ldAV, aggT, szOf, zeroAV, tys, unders, chunks, spliceL, Cfg.ro, detOp, gval, resAll, resOne, packAV, ↓reduceIte, seval, reduceCtorEq, Int.cast_ofNat_Int, exists_const, implies_true, decide_true, decide_false, if_true, if_false] <;> rfl) rfl (by first | exact Keeps.base _ _ | (repeat (first | exact Keeps.base _ _ | refine Keeps.new ?_ _ | refine Keeps.set ?_ (by first | (simp; done) | omega | (simp only [EO]; omega)) _))) (by show Bel _ (packAV [boo true]); exact (by first | exact .v _ | (simp only [packAV, rowsA_bel, factsA_bel, segA_bel, segsA_bel, mapsA_bel, resS, if_true, if_false, Bool.false_eq_true, resC, Key.av, Cell.av, Fact.av, Row.av, zeroC, Bel_v, Bel_tup, Bel_agg, List.forall_mem_map, List.map_nil, false_implies, implies_true, List.mem_cons, List.not_mem_nil, or_false, forall_eq_or_imp, forall_eq, and_self, true_and, and_true, Bel_sl, Bel_ep, tokBel, implies_true])))

end Go.Proofs
