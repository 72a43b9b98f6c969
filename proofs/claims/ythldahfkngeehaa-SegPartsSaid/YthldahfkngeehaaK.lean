/- Part of the proof of a law of this seat: the texts S11 S12 S13 S14, in this order. -/
import Derived.Test.YthldahfkngeehaaJ
import Derived.Test.YthldahfkngeehaaE
namespace Go.Proofs
open Go Go.Av
set_option linter.unusedSimpArgs false
set_option linter.unusedVariables false
set_option maxRecDepth 30000
set_option maxHeartbeats 1000000

/-- The rows of facts, put one by one. -/
def putAll : List Row → List Row → Option (List Row)
  | acc, [] => some acc
  | acc, x :: l => (putL acc x).bind fun a => putAll a l
def factRow (f : Fact) : Row := ⟨f.k, ⟨1, f.v, f.v, f.v⟩⟩

theorem putR_len {pre rest : List Row} {x : Row} {l : List Row} (h : putR pre rest x = some l) : l.length ≤ pre.length + rest.length + 1 := by
  unfold putR at h
  split at h
  · cases h; simp
  · split at h
    · obtain ⟨c, _, rfl⟩ := Option.map_eq_some_iff.1 h
      simp
    · cases h; simp; omega
theorem putL_len {l m : List Row} {x : Row} (h : putL l x = some m) : m.length ≤ l.length + 1 := by
  have h1 := putR_len h
  have h2 : (l.takeWhile fun r => decide (cmpK r.k x.k < 0)).length + (l.dropWhile fun r => decide (cmpK r.k x.k < 0)).length = l.length := by
    rw [← List.length_append, List.takeWhile_append_dropWhile]
  omega

theorem rof_list (l : List Fact) (hl : l.length ≤ 1000) : APure Try.prog 16 [.sl 6 (factsA l) .none] (resP (putAll [] (l.map factRow))) := by
  intro s
  generalize hr : putAll [] (l.map factRow) = r
  refine ACalls_body (C := ⟨[]⟩) (c := Try.f16.body.getD .skip) (rs := [.tmp 2, .tmp 3]) Try.func16 (by kernel_rfl) (by kernel_rfl) (by kernel_rfl) (Nat.le_of_ble_eq_true rfl) (by kernel_rfl) fun hwf hbel => ?_; simp only [Try.f16, untok_segA, rowsA_len, factsA_len, rowsA_nil, factsA_nil, EVL, ite_toInt, ER, EW, Wv_nil, i6, i64, str, boo, EA, EL, ↓EP, binK, pickK, loadK, storeK, EO, Key.av, Cell.av, Fact.av, Row.av, ↓EC, ↓EK, EE, EB, ↓aBuiltin, ↓aAppend, rowsOf, ↓aLen, ↓aSlice, bnd, ↓aIndexAddr, ↓aIndex, ↓aBuild, ↓aBuildSlice, fillL, ↓aMakeSlice, two, ↓opt_some, ↓opt_none, ldAV, aggT, szOf, zeroAV, tys, unders, chunks, spliceL, Cfg.ro, detOp, gval, resAll, resOne, packAV, ↓reduceIte, seval, reduceCtorEq, Int.cast_ofNat_Int, exists_const, implies_true, decide_true, decide_false, if_true, if_false]
  refine ALoop_inv (ι := Nat × List Row) (fun i => i.1 ≤ l.length ∧ i.2.length ≤ i.1 ∧ r = putAll i.2 ((l.drop i.1).map factRow)) (fun i => envL [(0, .sl 6 (factsA l) .none), (4, .sl 9 (rowsA i.2) .none), (5, i64 i.1)]) (fun _ => { s with base := ⟨s.next, []⟩ }) (fun i => l.length - i.1) (0, []) ⟨Nat.zero_le _, Nat.le_refl _, by rw [← hr]; rfl⟩ (ent rfl ?_) (fun i hi => ?_)
  · simp only [untok_segA, rowsA_len, factsA_len, rowsA_nil, factsA_nil, EVL, ite_toInt, ER, EW, Wv_nil, i6, i64, str, boo, EA, EL, ↓EP, binK, pickK, loadK, storeK, EO, Key.av, Cell.av, Fact.av, Row.av, ↓EC, ↓EK, EE, EB, ↓aBuiltin, ↓aAppend, rowsOf, ↓aLen, ↓aSlice, bnd, ↓aIndexAddr, ↓aIndex, ↓aBuild, ↓aBuildSlice, fillL, ↓aMakeSlice, two, ↓opt_some, ↓opt_none, ldAV, aggT, szOf, zeroAV, tys, unders, chunks, spliceL, Cfg.ro, detOp, gval, resAll, resOne, packAV, ↓reduceIte, seval, reduceCtorEq, Int.cast_ofNat_Int, exists_const, implies_true, decide_true, decide_false, if_true, if_false]
  · obtain ⟨i, acc⟩ := i
    obtain ⟨hi, ha, hs⟩ := hi
    simp only at hi ha hs
    by_cases hlt : i < l.length
    · obtain ⟨x, hx⟩ : ∃ x, l[i]? = some x := ⟨_, List.getElem?_eq_getElem hlt⟩
      have gx := factsA_get hx
      rw [drop_get hx, List.map_cons, putAll] at hs
      have hc : ((i : Int) < (l.length : Int)) := by omega
      have h0 : (0 : Int) ≤ (i : Int) := by omega
      have hw : IntKind.i64.wrap ((i : Int) + 1) = (i : Int) + 1 := wrap_in (by omega) (by omega)
      have hp := put_spec acc (factRow x) (by omega)
      simp only [hc, untok_segA, rowsA_len, factsA_len, rowsA_nil, factsA_nil, EVL, ite_toInt, ER, EW, Wv_nil, i6, i64, str, boo, EA, EL, ↓EP, binK, pickK, loadK, storeK, EO, Key.av, Cell.av, Fact.av, Row.av, ↓EC, ↓EK, EE, EB, ↓aBuiltin, ↓aAppend, rowsOf, ↓aLen, ↓aSlice, bnd, ↓aIndexAddr, ↓aIndex, ↓aBuild, ↓aBuildSlice, fillL, ↓aMakeSlice, two, ↓opt_some, ↓opt_none, ldAV, aggT, szOf, zeroAV, tys, unders, chunks, spliceL, Cfg.ro, detOp, gval, resAll, resOne, packAV, ↓reduceIte, seval, reduceCtorEq, Int.cast_ofNat_Int, exists_const, implies_true, decide_true, decide_false, if_true, if_false]
      refine aDraw_walk mixed (by kernel_rfl) ?_; simp only [hc, h0, gx, untok_segA, rowsA_len, factsA_len, rowsA_nil, factsA_nil, EVL, ite_toInt, ER, EW, Wv_nil, i6, i64, str, boo, EA, EL, ↓EP, binK, pickK, loadK, storeK, EO, Key.av, Cell.av, Fact.av, Row.av, ↓EC, ↓EK, EE, EB, ↓aBuiltin, ↓aAppend, rowsOf, ↓aLen, ↓aSlice, bnd, ↓aIndexAddr, ↓aIndex, ↓aBuild, ↓aBuildSlice, fillL, ↓aMakeSlice, two, ↓opt_some, ↓opt_none, ldAV, aggT, szOf, zeroAV, tys, unders, chunks, spliceL, Cfg.ro, detOp, gval, resAll, resOne, packAV, ↓reduceIte, seval, reduceCtorEq, Int.cast_ofNat_Int, exists_const, implies_true, decide_true, decide_false, if_true, if_false]
      refine qcall (rof_spec x.v) rfl (by simp only [untok_segA, rowsA_len, factsA_len, rowsA_nil, factsA_nil, EVL, ite_toInt, ER, EW, Wv_nil, i6, i64, str, boo, EA, EL, ↓EP, binK, pickK, loadK, storeK, EO, Key.av, Cell.av, Fact.av, Row.av, ↓EC, ↓EK, EE, EB, ↓aBuiltin, ↓aAppend, rowsOf, ↓aLen, ↓aSlice, bnd, ↓aIndexAddr, ↓aIndex, ↓aBuild, ↓aBuildSlice, fillL, ↓aMakeSlice, two, ↓opt_some, ↓opt_none, ldAV, aggT, szOf, zeroAV, tys, unders, chunks, spliceL, Cfg.ro, detOp, gval, resAll, resOne, packAV, ↓reduceIte, seval, reduceCtorEq, Int.cast_ofNat_Int, exists_const, implies_true, decide_true, decide_false, if_true, if_false] <;> rfl) ?_; simp only [untok_segA, rowsA_len, factsA_len, rowsA_nil, factsA_nil, EVL, ite_toInt, ER, EW, Wv_nil, i6, i64, str, boo, EA, EL, ↓EP, binK, pickK, loadK, storeK, EO, Key.av, Cell.av, Fact.av, Row.av, ↓EC, ↓EK, EE, EB, ↓aBuiltin, ↓aAppend, rowsOf, ↓aLen, ↓aSlice, bnd, ↓aIndexAddr, ↓aIndex, ↓aBuild, ↓aBuildSlice, fillL, ↓aMakeSlice, two, ↓opt_some, ↓opt_none, ldAV, aggT, szOf, zeroAV, tys, unders, chunks, spliceL, Cfg.ro, detOp, gval, resAll, resOne, packAV, ↓reduceIte, seval, reduceCtorEq, Int.cast_ofNat_Int, exists_const, implies_true, decide_true, decide_false, if_true, if_false]
      refine qcall (hp) rfl (by simp only [untok_segA, rowsA_len, factsA_len, rowsA_nil, factsA_nil, EVL, ite_toInt, ER, EW, Wv_nil, i6, i64, str, boo, EA, EL, ↓EP, binK, pickK, loadK, storeK, EO, Key.av, Cell.av, Fact.av, Row.av, ↓EC, ↓EK, EE, EB, ↓aBuiltin, ↓aAppend, rowsOf, ↓aLen, ↓aSlice, bnd, ↓aIndexAddr, ↓aIndex, ↓aBuild, ↓aBuildSlice, fillL, ↓aMakeSlice, two, ↓opt_some, ↓opt_none, ldAV, aggT, szOf, zeroAV, tys, unders, chunks, spliceL, Cfg.ro, detOp, gval, resAll, resOne, packAV, ↓reduceIte, seval, reduceCtorEq, Int.cast_ofNat_Int, exists_const, implies_true, decide_true, decide_false, if_true, if_false] <;> rfl) ?_; simp only [untok_segA, rowsA_len, factsA_len, rowsA_nil, factsA_nil, EVL, ite_toInt, ER, EW, Wv_nil, i6, i64, str, boo, EA, EL, ↓EP, binK, pickK, loadK, storeK, EO, Key.av, Cell.av, Fact.av, Row.av, ↓EC, ↓EK, EE, EB, ↓aBuiltin, ↓aAppend, rowsOf, ↓aLen, ↓aSlice, bnd, ↓aIndexAddr, ↓aIndex, ↓aBuild, ↓aBuildSlice, fillL, ↓aMakeSlice, two, ↓opt_some, ↓opt_none, ldAV, aggT, szOf, zeroAV, tys, unders, chunks, spliceL, Cfg.ro, detOp, gval, resAll, resOne, packAV, ↓reduceIte, seval, reduceCtorEq, Int.cast_ofNat_Int, exists_const, implies_true, decide_true, decide_false, if_true, if_false]
      cases hq : putL acc (factRow x) with
      | none =>
        simp only [resP, untok_segA, rowsA_len, factsA_len, rowsA_nil, factsA_nil, EVL, ite_toInt, ER, EW, Wv_nil, i6, i64, str, boo, EA, EL, ↓EP, binK, pickK, loadK, storeK, EO, Key.av, Cell.av, Fact.av, Row.av, ↓EC, ↓EK, EE, EB, ↓aBuiltin, ↓aAppend, rowsOf, ↓aLen, ↓aSlice, bnd, ↓aIndexAddr, ↓aIndex, ↓aBuild, ↓aBuildSlice, fillL, ↓aMakeSlice, two, ↓opt_some, ↓opt_none, ldAV, aggT, szOf, zeroAV, tys, unders, chunks, spliceL, Cfg.ro, detOp, gval, resAll, resOne, packAV, ↓reduceIte, seval, reduceCtorEq, Int.cast_ofNat_Int, exists_const, implies_true, decide_true, decide_false, if_true, if_false]
        rw [show r = none by rw [hs, hq]; rfl]
        exact Ret_weak (l := [.v (.slice none 0 0), i64 6]) (m := [.sl 9 [] .none, i64 6]) (.inr rfl) rfl (by simp only [untok_segA, rowsA_len, factsA_len, rowsA_nil, factsA_nil, EVL, ite_toInt, ER, EW, Wv_nil, i6, i64, str, boo, EA, EL, ↓EP, binK, pickK, loadK, storeK, EO, Key.av, Cell.av, Fact.av, Row.av, ↓EC, ↓EK, EE, EB, ↓aBuiltin, ↓aAppend, rowsOf, ↓aLen, ↓aSlice, bnd, ↓aIndexAddr, ↓aIndex, ↓aBuild, ↓aBuildSlice, fillL, ↓aMakeSlice, two, ↓opt_some, ↓opt_none, ldAV, aggT, szOf, zeroAV, tys, unders, chunks, spliceL, Cfg.ro, detOp, gval, resAll, resOne, packAV, ↓reduceIte, seval, reduceCtorEq, Int.cast_ofNat_Int, exists_const, implies_true, decide_true, decide_false, if_true, if_false] <;> rfl) (by simp only [WvL, untok_segA, rowsA_len, factsA_len, rowsA_nil, factsA_nil, EVL, ite_toInt, ER, EW, Wv_nil, i6, i64, str, boo, EA, EL, ↓EP, binK, pickK, loadK, storeK, EO, Key.av, Cell.av, Fact.av, Row.av, ↓EC, ↓EK, EE, EB, ↓aBuiltin, ↓aAppend, rowsOf, ↓aLen, ↓aSlice, bnd, ↓aIndexAddr, ↓aIndex, ↓aBuild, ↓aBuildSlice, fillL, ↓aMakeSlice, two, ↓opt_some, ↓opt_none, ldAV, aggT, szOf, zeroAV, tys, unders, chunks, spliceL, Cfg.ro, detOp, gval, resAll, resOne, packAV, ↓reduceIte, seval, reduceCtorEq, Int.cast_ofNat_Int, exists_const, implies_true, decide_true, decide_false, if_true, if_false]) rfl (by first | exact Keeps.base _ _ | (repeat (first | exact Keeps.base _ _ | refine Keeps.new ?_ _ | refine Keeps.set ?_ (by first | (simp; done) | omega | (simp only [EO]; omega)) _))) (by show Bel _ (packAV [.sl 9 [] .none, i64 6]); exact (by first | exact .v _ | (simp only [packAV, rowsA_bel, factsA_bel, segA_bel, resS, if_true, if_false, Bool.false_eq_true, resC, Key.av, Cell.av, Fact.av, Row.av, zeroC, Bel_v, Bel_tup, Bel_agg, List.forall_mem_map, List.map_nil, false_implies, implies_true, List.mem_cons, List.not_mem_nil, or_false, forall_eq_or_imp, forall_eq, and_self, true_and, and_true, Bel_sl, Bel_ep, tokBel, implies_true])))
      | some a =>
        have := putL_len hq
        simp only [resP, hw, untok_segA, rowsA_len, factsA_len, rowsA_nil, factsA_nil, EVL, ite_toInt, ER, EW, Wv_nil, i6, i64, str, boo, EA, EL, ↓EP, binK, pickK, loadK, storeK, EO, Key.av, Cell.av, Fact.av, Row.av, ↓EC, ↓EK, EE, EB, ↓aBuiltin, ↓aAppend, rowsOf, ↓aLen, ↓aSlice, bnd, ↓aIndexAddr, ↓aIndex, ↓aBuild, ↓aBuildSlice, fillL, ↓aMakeSlice, two, ↓opt_some, ↓opt_none, ldAV, aggT, szOf, zeroAV, tys, unders, chunks, spliceL, Cfg.ro, detOp, gval, resAll, resOne, packAV, ↓reduceIte, seval, reduceCtorEq, Int.cast_ofNat_Int, exists_const, implies_true, decide_true, decide_false, if_true, if_false]
        refine round_next (i + 1, a) ⟨by simp only; omega, by simp only; omega, by rw [hs, hq]; rfl⟩ (by simp only; omega) (ent rfl ?_)
        simp only [untok_segA, rowsA_len, factsA_len, rowsA_nil, factsA_nil, EVL, ite_toInt, ER, EW, Wv_nil, i6, i64, str, boo, EA, EL, ↓EP, binK, pickK, loadK, storeK, EO, Key.av, Cell.av, Fact.av, Row.av, ↓EC, ↓EK, EE, EB, ↓aBuiltin, ↓aAppend, rowsOf, ↓aLen, ↓aSlice, bnd, ↓aIndexAddr, ↓aIndex, ↓aBuild, ↓aBuildSlice, fillL, ↓aMakeSlice, two, ↓opt_some, ↓opt_none, ldAV, aggT, szOf, zeroAV, tys, unders, chunks, spliceL, Cfg.ro, detOp, gval, resAll, resOne, packAV, ↓reduceIte, seval, reduceCtorEq, Int.cast_ofNat_Int, exists_const, implies_true, decide_true, decide_false, if_true, if_false]
    · have hc : ¬ ((i : Int) < (l.length : Int)) := by omega
      simp only [hc, untok_segA, rowsA_len, factsA_len, rowsA_nil, factsA_nil, EVL, ite_toInt, ER, EW, Wv_nil, i6, i64, str, boo, EA, EL, ↓EP, binK, pickK, loadK, storeK, EO, Key.av, Cell.av, Fact.av, Row.av, ↓EC, ↓EK, EE, EB, ↓aBuiltin, ↓aAppend, rowsOf, ↓aLen, ↓aSlice, bnd, ↓aIndexAddr, ↓aIndex, ↓aBuild, ↓aBuildSlice, fillL, ↓aMakeSlice, two, ↓opt_some, ↓opt_none, ldAV, aggT, szOf, zeroAV, tys, unders, chunks, spliceL, Cfg.ro, detOp, gval, resAll, resOne, packAV, ↓reduceIte, seval, reduceCtorEq, Int.cast_ofNat_Int, exists_const, implies_true, decide_true, decide_false, if_true, if_false]
      rw [show r = some acc by rw [hs, List.drop_eq_nil_of_le (by omega)]; rfl]
      exact Ret_pure (l := [.sl 9 (rowsA acc) .none, i64 0]) (.inr rfl) rfl (by simp only [untok_segA, rowsA_len, factsA_len, rowsA_nil, factsA_nil, EVL, ite_toInt, ER, EW, Wv_nil, i6, i64, str, boo, EA, EL, ↓EP, binK, pickK, loadK, storeK, EO, Key.av, Cell.av, Fact.av, Row.av, ↓EC, ↓EK, EE, EB, ↓aBuiltin, ↓aAppend, rowsOf, ↓aLen, ↓aSlice, bnd, ↓aIndexAddr, ↓aIndex, ↓aBuild, ↓aBuildSlice, fillL, ↓aMakeSlice, two, ↓opt_some, ↓opt_none, ldAV, aggT, szOf, zeroAV, tys, unders, chunks, spliceL, Cfg.ro, detOp, gval, resAll, resOne, packAV, ↓reduceIte, seval, reduceCtorEq, Int.cast_ofNat_Int, exists_const, implies_true, decide_true, decide_false, if_true, if_false] <;> rfl) rfl (by first | exact Keeps.base _ _ | (repeat (first | exact Keeps.base _ _ | refine Keeps.new ?_ _ | refine Keeps.set ?_ (by first | (simp; done) | omega | (simp only [EO]; omega)) _))) (by show Bel _ (packAV [.sl 9 (rowsA acc) .none, i64 0]); exact (by first | exact .v _ | (simp only [packAV, rowsA_bel, factsA_bel, segA_bel, resS, if_true, if_false, Bool.false_eq_true, resC, Key.av, Cell.av, Fact.av, Row.av, zeroC, Bel_v, Bel_tup, Bel_agg, List.forall_mem_map, List.map_nil, false_implies, implies_true, List.mem_cons, List.not_mem_nil, or_false, forall_eq_or_imp, forall_eq, and_self, true_and, and_true, Bel_sl, Bel_ep, tokBel, implies_true])))

end Go.Proofs

namespace Go.Proofs
open Go Go.Av
set_option linter.unusedSimpArgs false
set_option linter.unusedVariables false
set_option maxRecDepth 30000
set_option maxHeartbeats 1000000

theorem made_spec (l : List Row) (hl : l.length ≤ 1000000) : APure Try.prog 24 [.sl 9 (rowsA l) .none] (segA (if rightL none l then some l else none)) := by
  intro s
  have h := srows_spec l hl
  cases hr : rightL none l with
  | true =>
    rw [hr] at h
    simp only [if_true, resS] at h
    refine ACalls_body (C := ⟨[]⟩) (c := Try.f24.body.getD .skip) (rs := [.tmp 2]) Try.func24 (by kernel_rfl) (by kernel_rfl) (by kernel_rfl) (Nat.le_of_ble_eq_true rfl) (by kernel_rfl) fun hwf hbel => ?_; simp only [Try.f24, untok_segA, rowsA_len, factsA_len, rowsA_nil, factsA_nil, List.length_append, Int.le_refl, room, i64_0, nx, EVL, ite_toInt, ER, EW, Wv_nil, i6, i64, str, boo, EA, EL, ↓EP, binK, pickK, loadK, storeK, EO, Key.av, Cell.av, Fact.av, Row.av, ↓EC, ↓EK, EE, EB, ↓aBuiltin, ↓aAppend, rowsOf, ↓aLen, ↓aSlice, bnd, ↓aIndexAddr, ↓aIndex, ↓aBuild, ↓aBuildSlice, fillL, ↓aMakeSlice, two, ↓opt_some, ↓opt_none, ldAV, aggT, szOf, zeroAV, tys, unders, chunks, spliceL, Cfg.ro, detOp, gval, resAll, resOne, packAV, ↓reduceIte, seval, reduceCtorEq, Int.cast_ofNat_Int, exists_const, implies_true, decide_true, decide_false, if_true, if_false]
    refine h.use ?_
    simp only [untok_segA, rowsA_len, factsA_len, rowsA_nil, factsA_nil, List.length_append, Int.le_refl, room, i64_0, nx, EVL, ite_toInt, ER, EW, Wv_nil, i6, i64, str, boo, EA, EL, ↓EP, binK, pickK, loadK, storeK, EO, Key.av, Cell.av, Fact.av, Row.av, ↓EC, ↓EK, EE, EB, ↓aBuiltin, ↓aAppend, rowsOf, ↓aLen, ↓aSlice, bnd, ↓aIndexAddr, ↓aIndex, ↓aBuild, ↓aBuildSlice, fillL, ↓aMakeSlice, two, ↓opt_some, ↓opt_none, ldAV, aggT, szOf, zeroAV, tys, unders, chunks, spliceL, Cfg.ro, detOp, gval, resAll, resOne, packAV, ↓reduceIte, seval, reduceCtorEq, Int.cast_ofNat_Int, exists_const, implies_true, decide_true, decide_false, if_true, if_false]
    exact Ret_pure (l := [segA (some l)]) (.inr rfl) rfl (by simp only [untok_segA, rowsA_len, factsA_len, rowsA_nil, factsA_nil, List.length_append, Int.le_refl, room, i64_0, nx, EVL, ite_toInt, ER, EW, Wv_nil, i6, i64, str, boo, EA, EL, ↓EP, binK, pickK, loadK, storeK, EO, Key.av, Cell.av, Fact.av, Row.av, ↓EC, ↓EK, EE, EB, ↓aBuiltin, ↓aAppend, rowsOf, ↓aLen, ↓aSlice, bnd, ↓aIndexAddr, ↓aIndex, ↓aBuild, ↓aBuildSlice, fillL, ↓aMakeSlice, two, ↓opt_some, ↓opt_none, ldAV, aggT, szOf, zeroAV, tys, unders, chunks, spliceL, Cfg.ro, detOp, gval, resAll, resOne, packAV, ↓reduceIte, seval, reduceCtorEq, Int.cast_ofNat_Int, exists_const, implies_true, decide_true, decide_false, if_true, if_false] <;> rfl) rfl (by first | exact Keeps.base _ _ | (repeat (first | exact Keeps.base _ _ | refine Keeps.new ?_ _ | refine Keeps.set ?_ (by first | (simp; done) | omega | (simp only [EO]; omega)) _))) (by show Bel _ (packAV [segA (some l)]); exact (by first | exact .v _ | (simp only [packAV, rowsA_bel, factsA_bel, segA_bel, resS, if_true, if_false, Bool.false_eq_true, resC, Key.av, Cell.av, Fact.av, Row.av, zeroC, Bel_v, Bel_tup, Bel_agg, List.forall_mem_map, List.map_nil, false_implies, implies_true, List.mem_cons, List.not_mem_nil, or_false, forall_eq_or_imp, forall_eq, and_self, true_and, and_true, Bel_sl, Bel_ep, tokBel, implies_true])))
  | false =>
    rw [hr] at h
    simp only [if_false, Bool.false_eq_true, resS] at h
    refine ACalls_body (C := ⟨[]⟩) (c := Try.f24.body.getD .skip) (rs := [.tmp 2]) Try.func24 (by kernel_rfl) (by kernel_rfl) (by kernel_rfl) (Nat.le_of_ble_eq_true rfl) (by kernel_rfl) fun hwf hbel => ?_; simp only [Try.f24, untok_segA, rowsA_len, factsA_len, rowsA_nil, factsA_nil, List.length_append, Int.le_refl, room, i64_0, nx, EVL, ite_toInt, ER, EW, Wv_nil, i6, i64, str, boo, EA, EL, ↓EP, binK, pickK, loadK, storeK, EO, Key.av, Cell.av, Fact.av, Row.av, ↓EC, ↓EK, EE, EB, ↓aBuiltin, ↓aAppend, rowsOf, ↓aLen, ↓aSlice, bnd, ↓aIndexAddr, ↓aIndex, ↓aBuild, ↓aBuildSlice, fillL, ↓aMakeSlice, two, ↓opt_some, ↓opt_none, ldAV, aggT, szOf, zeroAV, tys, unders, chunks, spliceL, Cfg.ro, detOp, gval, resAll, resOne, packAV, ↓reduceIte, seval, reduceCtorEq, Int.cast_ofNat_Int, exists_const, implies_true, decide_true, decide_false, if_true, if_false]
    refine h.use ?_
    simp only [untok_segA, rowsA_len, factsA_len, rowsA_nil, factsA_nil, List.length_append, Int.le_refl, room, i64_0, nx, EVL, ite_toInt, ER, EW, Wv_nil, i6, i64, str, boo, EA, EL, ↓EP, binK, pickK, loadK, storeK, EO, Key.av, Cell.av, Fact.av, Row.av, ↓EC, ↓EK, EE, EB, ↓aBuiltin, ↓aAppend, rowsOf, ↓aLen, ↓aSlice, bnd, ↓aIndexAddr, ↓aIndex, ↓aBuild, ↓aBuildSlice, fillL, ↓aMakeSlice, two, ↓opt_some, ↓opt_none, ldAV, aggT, szOf, zeroAV, tys, unders, chunks, spliceL, Cfg.ro, detOp, gval, resAll, resOne, packAV, ↓reduceIte, seval, reduceCtorEq, Int.cast_ofNat_Int, exists_const, implies_true, decide_true, decide_false, if_true, if_false]
    exact Ret_pure (l := [segA none]) (.inr rfl) rfl (by simp only [untok_segA, rowsA_len, factsA_len, rowsA_nil, factsA_nil, List.length_append, Int.le_refl, room, i64_0, nx, EVL, ite_toInt, ER, EW, Wv_nil, i6, i64, str, boo, EA, EL, ↓EP, binK, pickK, loadK, storeK, EO, Key.av, Cell.av, Fact.av, Row.av, ↓EC, ↓EK, EE, EB, ↓aBuiltin, ↓aAppend, rowsOf, ↓aLen, ↓aSlice, bnd, ↓aIndexAddr, ↓aIndex, ↓aBuild, ↓aBuildSlice, fillL, ↓aMakeSlice, two, ↓opt_some, ↓opt_none, ldAV, aggT, szOf, zeroAV, tys, unders, chunks, spliceL, Cfg.ro, detOp, gval, resAll, resOne, packAV, ↓reduceIte, seval, reduceCtorEq, Int.cast_ofNat_Int, exists_const, implies_true, decide_true, decide_false, if_true, if_false] <;> rfl) rfl (by first | exact Keeps.base _ _ | (repeat (first | exact Keeps.base _ _ | refine Keeps.new ?_ _ | refine Keeps.set ?_ (by first | (simp; done) | omega | (simp only [EO]; omega)) _))) (by show Bel _ (packAV [segA none]); exact (by first | exact .v _ | (simp only [packAV, rowsA_bel, factsA_bel, segA_bel, resS, if_true, if_false, Bool.false_eq_true, resC, Key.av, Cell.av, Fact.av, Row.av, zeroC, Bel_v, Bel_tup, Bel_agg, List.forall_mem_map, List.map_nil, false_implies, implies_true, List.mem_cons, List.not_mem_nil, or_false, forall_eq_or_imp, forall_eq, and_self, true_and, and_true, Bel_sl, Bel_ep, tokBel, implies_true])))

end Go.Proofs

namespace Go.Proofs
open Go Go.Av
set_option linter.unusedSimpArgs false
set_option linter.unusedVariables false
set_option maxRecDepth 30000
set_option maxHeartbeats 2000000

def bothL : List Row → List Row → Option (List Row)
  | [], b => some b
  | x :: a, [] => some (x :: a)
  | x :: a, y :: b =>
    if 0 < cmpK x.k y.k then (bothL (x :: a) b).map (y :: ·)
    else if cmpK x.k y.k = 0 then (mergeC x.c y.c).bind fun c => (bothL a b).map (⟨x.k, c⟩ :: ·)
    else (bothL a (y :: b)).map (x :: ·)
  termination_by a b => a.length + b.length

def resB : Option (List Row) → AV
  | some l => .tup [.sl 9 (rowsA l) .none, boo true]
  | none => .tup [.sl 9 [] .none, boo false]

theorem both_spec (a b : List Row) (hl : a.length + b.length ≤ 1000000) : APure Try.prog 57 [.sl 9 (rowsA a) .none, .sl 9 (rowsA b) .none] (resB (bothL a b)) := by
  intro s
  generalize hr : bothL a b = r
  have hz : (0 : Int) ≤ (a.length : Int) + (b.length : Int) := by omega
  have hw0 : IntKind.i64.wrap ((a.length : Int) + (b.length : Int)) = (a.length : Int) + (b.length : Int) := wrap_in (by omega) (by omega)
  have hz2 : ((a.length : Int) + (b.length : Int)) * 104 ≤ 140737488355328 := by omega
  have hz3 : ((a.length : Int) + (b.length : Int)) ≤ 140737488355328 := by omega
  refine ACalls_body (C := ⟨[16]⟩) (c := Try.f57.body.getD .skip) (rs := [.tmp 4, .tmp 5]) Try.func57 (by kernel_rfl) (by kernel_rfl) (by kernel_rfl) (Nat.le_of_ble_eq_true rfl) (by kernel_rfl) fun hwf hbel => ?_; simp only [hw0, hz, hz2, hz3,Try.f57, untok_segA, rowsA_len, factsA_len, rowsA_nil, factsA_nil, List.length_append, Int.le_refl, room, i64_0, nx, EVL, ite_toInt, ER, EW, Wv_nil, i6, i64, str, boo, EA, EL, ↓EP, binK, pickK, loadK, storeK, EO, Key.av, Cell.av, Fact.av, Row.av, ↓EC, ↓EK, EE, EB, ↓aBuiltin, ↓aAppend, rowsOf, ↓aLen, ↓aSlice, bnd, ↓aIndexAddr, ↓aIndex, ↓aBuild, ↓aBuildSlice, fillL, ↓aMakeSlice, two, ↓opt_some, ↓opt_none, ldAV, aggT, szOf, zeroAV, tys, unders, chunks, spliceL, Cfg.ro, detOp, gval, resAll, resOne, packAV, ↓reduceIte, seval, reduceCtorEq, Int.cast_ofNat_Int, exists_const, implies_true, decide_true, decide_false, if_true, if_false]
  refine ALoop_inv (ι := List Row × List Row × List Row) (fun i => i.1.length + i.2.1.length + i.2.2.length ≤ a.length + b.length ∧ r = (bothL i.1 i.2.1).map (i.2.2 ++ ·)) (fun i => envL [(0, .sl 9 (rowsA i.1) .none), (1, .sl 9 (rowsA i.2.1) .none), (6, .sl 9 (rowsA i.2.2) (.row s.next i.2.2.length))]) (fun i => AState.new { s with base := ⟨s.next, []⟩ } (.row i.2.2.length)) (fun i => i.1.length + i.2.1.length) (a, b, []) ⟨by simp, by rw [← hr]; simp⟩ (ent rfl ?_) (fun i hi => ?_)
  · simp only [untok_segA, rowsA_len, factsA_len, rowsA_nil, factsA_nil, List.length_append, Int.le_refl, room, i64_0, nx, EVL, ite_toInt, ER, EW, Wv_nil, i6, i64, str, boo, EA, EL, ↓EP, binK, pickK, loadK, storeK, EO, Key.av, Cell.av, Fact.av, Row.av, ↓EC, ↓EK, EE, EB, ↓aBuiltin, ↓aAppend, rowsOf, ↓aLen, ↓aSlice, bnd, ↓aIndexAddr, ↓aIndex, ↓aBuild, ↓aBuildSlice, fillL, ↓aMakeSlice, two, ↓opt_some, ↓opt_none, ldAV, aggT, szOf, zeroAV, tys, unders, chunks, spliceL, Cfg.ro, detOp, gval, resAll, resOne, packAV, ↓reduceIte, seval, reduceCtorEq, Int.cast_ofNat_Int, exists_const, implies_true, decide_true, decide_false, if_true, if_false]
  · obtain ⟨a', b', out⟩ := i
    obtain ⟨hle, hs⟩ := hi
    simp only at hle hs
    cases a' with
    | nil =>
      simp only [List.length_nil] at hle
      simp only [untok_segA, rowsA_len, factsA_len, rowsA_nil, factsA_nil, List.length_append, Int.le_refl, room, i64_0, nx, EVL, ite_toInt, ER, EW, Wv_nil, i6, i64, str, boo, EA, EL, ↓EP, binK, pickK, loadK, storeK, EO, Key.av, Cell.av, Fact.av, Row.av, ↓EC, ↓EK, EE, EB, ↓aBuiltin, ↓aAppend, rowsOf, ↓aLen, ↓aSlice, bnd, ↓aIndexAddr, ↓aIndex, ↓aBuild, ↓aBuildSlice, fillL, ↓aMakeSlice, two, ↓opt_some, ↓opt_none, ldAV, aggT, szOf, zeroAV, tys, unders, chunks, spliceL, Cfg.ro, detOp, gval, resAll, resOne, packAV, ↓reduceIte, seval, reduceCtorEq, Int.cast_ofNat_Int, exists_const, implies_true, decide_true, decide_false, if_true, if_false]
      refine ⟨by omega, ?_⟩
      rw [show r = some (out ++ b') by rw [hs, bothL]; rfl]
      exact Ret_weak (l := [.sl 9 (rowsA out ++ rowsA b') (.row s.next (out.length + b'.length)), boo true]) (m := [.sl 9 (rowsA (out ++ b')) .none, boo true]) (.inr rfl) rfl (by simp only [untok_segA, rowsA_len, factsA_len, rowsA_nil, factsA_nil, List.length_append, Int.le_refl, room, i64_0, nx, EVL, ite_toInt, ER, EW, Wv_nil, i6, i64, str, boo, EA, EL, ↓EP, binK, pickK, loadK, storeK, EO, Key.av, Cell.av, Fact.av, Row.av, ↓EC, ↓EK, EE, EB, ↓aBuiltin, ↓aAppend, rowsOf, ↓aLen, ↓aSlice, bnd, ↓aIndexAddr, ↓aIndex, ↓aBuild, ↓aBuildSlice, fillL, ↓aMakeSlice, two, ↓opt_some, ↓opt_none, ldAV, aggT, szOf, zeroAV, tys, unders, chunks, spliceL, Cfg.ro, detOp, gval, resAll, resOne, packAV, ↓reduceIte, seval, reduceCtorEq, Int.cast_ofNat_Int, exists_const, implies_true, decide_true, decide_false, if_true, if_false] <;> rfl) (by simp only [WvL, rowsA_append, untok_segA, rowsA_len, factsA_len, rowsA_nil, factsA_nil, List.length_append, Int.le_refl, room, i64_0, nx, EVL, ite_toInt, ER, EW, Wv_nil, i6, i64, str, boo, EA, EL, ↓EP, binK, pickK, loadK, storeK, EO, Key.av, Cell.av, Fact.av, Row.av, ↓EC, ↓EK, EE, EB, ↓aBuiltin, ↓aAppend, rowsOf, ↓aLen, ↓aSlice, bnd, ↓aIndexAddr, ↓aIndex, ↓aBuild, ↓aBuildSlice, fillL, ↓aMakeSlice, two, ↓opt_some, ↓opt_none, ldAV, aggT, szOf, zeroAV, tys, unders, chunks, spliceL, Cfg.ro, detOp, gval, resAll, resOne, packAV, ↓reduceIte, seval, reduceCtorEq, Int.cast_ofNat_Int, exists_const, implies_true, decide_true, decide_false, if_true, if_false]) rfl (by first | exact Keeps.base _ _ | (repeat (first | exact Keeps.base _ _ | refine Keeps.new ?_ _ | refine Keeps.set ?_ (by first | (simp; done) | omega | (simp only [EO]; omega)) _))) (by show Bel _ (packAV [.sl 9 (rowsA (out ++ b')) .none, boo true]); exact (by first | exact .v _ | (simp only [packAV, rowsA_bel, factsA_bel, segA_bel, resS, if_true, if_false, Bool.false_eq_true, resC, Key.av, Cell.av, Fact.av, Row.av, zeroC, Bel_v, Bel_tup, Bel_agg, List.forall_mem_map, List.map_nil, false_implies, implies_true, List.mem_cons, List.not_mem_nil, or_false, forall_eq_or_imp, forall_eq, and_self, true_and, and_true, Bel_sl, Bel_ep, tokBel, implies_true])))
    | cons x a1 =>
      have hx : ¬ ((a1.length : Int) + 1 = 0) := by omega
      cases b' with
      | nil =>
        simp only [List.length_nil, List.length_cons] at hle
        simp only [hx, untok_segA, rowsA_len, factsA_len, rowsA_nil, factsA_nil, List.length_append, Int.le_refl, room, i64_0, nx, EVL, ite_toInt, ER, EW, Wv_nil, i6, i64, str, boo, EA, EL, ↓EP, binK, pickK, loadK, storeK, EO, Key.av, Cell.av, Fact.av, Row.av, ↓EC, ↓EK, EE, EB, ↓aBuiltin, ↓aAppend, rowsOf, ↓aLen, ↓aSlice, bnd, ↓aIndexAddr, ↓aIndex, ↓aBuild, ↓aBuildSlice, fillL, ↓aMakeSlice, two, ↓opt_some, ↓opt_none, ldAV, aggT, szOf, zeroAV, tys, unders, chunks, spliceL, Cfg.ro, detOp, gval, resAll, resOne, packAV, ↓reduceIte, seval, reduceCtorEq, Int.cast_ofNat_Int, exists_const, implies_true, decide_true, decide_false, if_true, if_false]
        refine ⟨by omega, ?_⟩
        rw [show r = some (out ++ x :: a1) by rw [hs, bothL]; rfl]
        exact Ret_weak (l := [.sl 9 (rowsA out ++ rowsA (x :: a1)) (.row s.next (out.length + (a1.length + 1))), boo true]) (m := [.sl 9 (rowsA (out ++ x :: a1)) .none, boo true]) (.inr rfl) rfl (by simp only [untok_segA, rowsA_len, factsA_len, rowsA_nil, factsA_nil, List.length_append, Int.le_refl, room, i64_0, nx, EVL, ite_toInt, ER, EW, Wv_nil, i6, i64, str, boo, EA, EL, ↓EP, binK, pickK, loadK, storeK, EO, Key.av, Cell.av, Fact.av, Row.av, ↓EC, ↓EK, EE, EB, ↓aBuiltin, ↓aAppend, rowsOf, ↓aLen, ↓aSlice, bnd, ↓aIndexAddr, ↓aIndex, ↓aBuild, ↓aBuildSlice, fillL, ↓aMakeSlice, two, ↓opt_some, ↓opt_none, ldAV, aggT, szOf, zeroAV, tys, unders, chunks, spliceL, Cfg.ro, detOp, gval, resAll, resOne, packAV, ↓reduceIte, seval, reduceCtorEq, Int.cast_ofNat_Int, exists_const, implies_true, decide_true, decide_false, if_true, if_false] <;> rfl) (by simp only [WvL, rowsA_append, untok_segA, rowsA_len, factsA_len, rowsA_nil, factsA_nil, List.length_append, Int.le_refl, room, i64_0, nx, EVL, ite_toInt, ER, EW, Wv_nil, i6, i64, str, boo, EA, EL, ↓EP, binK, pickK, loadK, storeK, EO, Key.av, Cell.av, Fact.av, Row.av, ↓EC, ↓EK, EE, EB, ↓aBuiltin, ↓aAppend, rowsOf, ↓aLen, ↓aSlice, bnd, ↓aIndexAddr, ↓aIndex, ↓aBuild, ↓aBuildSlice, fillL, ↓aMakeSlice, two, ↓opt_some, ↓opt_none, ldAV, aggT, szOf, zeroAV, tys, unders, chunks, spliceL, Cfg.ro, detOp, gval, resAll, resOne, packAV, ↓reduceIte, seval, reduceCtorEq, Int.cast_ofNat_Int, exists_const, implies_true, decide_true, decide_false, if_true, if_false]) rfl (by first | exact Keeps.base _ _ | (repeat (first | exact Keeps.base _ _ | refine Keeps.new ?_ _ | refine Keeps.set ?_ (by first | (simp; done) | omega | (simp only [EO]; omega)) _))) (by show Bel _ (packAV [.sl 9 (rowsA (out ++ x :: a1)) .none, boo true]); exact (by first | exact .v _ | (simp only [packAV, rowsA_bel, factsA_bel, segA_bel, resS, if_true, if_false, Bool.false_eq_true, resC, Key.av, Cell.av, Fact.av, Row.av, zeroC, Bel_v, Bel_tup, Bel_agg, List.forall_mem_map, List.map_nil, false_implies, implies_true, List.mem_cons, List.not_mem_nil, or_false, forall_eq_or_imp, forall_eq, and_self, true_and, and_true, Bel_sl, Bel_ep, tokBel, implies_true])))
      | cons y b1 =>
        simp only [List.length_cons] at hle
        have hy : ¬ ((b1.length : Int) + 1 = 0) := by omega
        have hx0 : (0 : Int) < (a1.length : Int) + 1 := by omega
        have hy0 : (0 : Int) < (b1.length : Int) + 1 := by omega
        have hx1 : (1 : Int) ≤ (a1.length : Int) + 1 := by omega
        have hy1 : (1 : Int) ≤ (b1.length : Int) + 1 := by omega
        have gx : (rowsA (x :: a1)).getD 0 [] = x.av := rfl
        have gy : (rowsA (y :: b1)).getD 0 [] = y.av := rfl
        have tx : ((a1.length : Int) + 1).toNat = a1.length + 1 := by omega
        have ty : ((b1.length : Int) + 1).toNat = b1.length + 1 := by omega
        simp only [hx, hy, hx0, gx, untok_segA, rowsA_len, factsA_len, rowsA_nil, factsA_nil, List.length_append, Int.le_refl, room, i64_0, nx, EVL, ite_toInt, ER, EW, Wv_nil, i6, i64, str, boo, EA, EL, ↓EP, binK, pickK, loadK, storeK, EO, Key.av, Cell.av, Fact.av, Row.av, ↓EC, ↓EK, EE, EB, ↓aBuiltin, ↓aAppend, rowsOf, ↓aLen, ↓aSlice, bnd, ↓aIndexAddr, ↓aIndex, ↓aBuild, ↓aBuildSlice, fillL, ↓aMakeSlice, two, ↓opt_some, ↓opt_none, ldAV, aggT, szOf, zeroAV, tys, unders, chunks, spliceL, Cfg.ro, detOp, gval, resAll, resOne, packAV, ↓reduceIte, seval, reduceCtorEq, Int.cast_ofNat_Int, exists_const, implies_true, decide_true, decide_false, if_true, if_false]
        refine aDraw_walk mixed (by kernel_rfl) ?_; simp only [hx0, hy0, gx, gy, untok_segA, rowsA_len, factsA_len, rowsA_nil, factsA_nil, List.length_append, Int.le_refl, room, i64_0, nx, EVL, ite_toInt, ER, EW, Wv_nil, i6, i64, str, boo, EA, EL, ↓EP, binK, pickK, loadK, storeK, EO, Key.av, Cell.av, Fact.av, Row.av, ↓EC, ↓EK, EE, EB, ↓aBuiltin, ↓aAppend, rowsOf, ↓aLen, ↓aSlice, bnd, ↓aIndexAddr, ↓aIndex, ↓aBuild, ↓aBuildSlice, fillL, ↓aMakeSlice, two, ↓opt_some, ↓opt_none, ldAV, aggT, szOf, zeroAV, tys, unders, chunks, spliceL, Cfg.ro, detOp, gval, resAll, resOne, packAV, ↓reduceIte, seval, reduceCtorEq, Int.cast_ofNat_Int, exists_const, implies_true, decide_true, decide_false, if_true, if_false]
        refine qcall (fcmp_spec x.k y.k) rfl (by simp only [untok_segA, rowsA_len, factsA_len, rowsA_nil, factsA_nil, List.length_append, Int.le_refl, room, i64_0, nx, EVL, ite_toInt, ER, EW, Wv_nil, i6, i64, str, boo, EA, EL, ↓EP, binK, pickK, loadK, storeK, EO, Key.av, Cell.av, Fact.av, Row.av, ↓EC, ↓EK, EE, EB, ↓aBuiltin, ↓aAppend, rowsOf, ↓aLen, ↓aSlice, bnd, ↓aIndexAddr, ↓aIndex, ↓aBuild, ↓aBuildSlice, fillL, ↓aMakeSlice, two, ↓opt_some, ↓opt_none, ldAV, aggT, szOf, zeroAV, tys, unders, chunks, spliceL, Cfg.ro, detOp, gval, resAll, resOne, packAV, ↓reduceIte, seval, reduceCtorEq, Int.cast_ofNat_Int, exists_const, implies_true, decide_true, decide_false, if_true, if_false] <;> rfl) ?_; simp only [untok_segA, rowsA_len, factsA_len, rowsA_nil, factsA_nil, List.length_append, Int.le_refl, room, i64_0, nx, EVL, ite_toInt, ER, EW, Wv_nil, i6, i64, str, boo, EA, EL, ↓EP, binK, pickK, loadK, storeK, EO, Key.av, Cell.av, Fact.av, Row.av, ↓EC, ↓EK, EE, EB, ↓aBuiltin, ↓aAppend, rowsOf, ↓aLen, ↓aSlice, bnd, ↓aIndexAddr, ↓aIndex, ↓aBuild, ↓aBuildSlice, fillL, ↓aMakeSlice, two, ↓opt_some, ↓opt_none, ldAV, aggT, szOf, zeroAV, tys, unders, chunks, spliceL, Cfg.ro, detOp, gval, resAll, resOne, packAV, ↓reduceIte, seval, reduceCtorEq, Int.cast_ofNat_Int, exists_const, implies_true, decide_true, decide_false, if_true, if_false]
        by_cases h1 : 0 < cmpK x.k y.k
        · simp only [h1, hx0, hy0, hx1, hy1, gx, gy, tx, ty, rowsA_tail, untok_segA, rowsA_len, factsA_len, rowsA_nil, factsA_nil, List.length_append, Int.le_refl, room, i64_0, nx, EVL, ite_toInt, ER, EW, Wv_nil, i6, i64, str, boo, EA, EL, ↓EP, binK, pickK, loadK, storeK, EO, Key.av, Cell.av, Fact.av, Row.av, ↓EC, ↓EK, EE, EB, ↓aBuiltin, ↓aAppend, rowsOf, ↓aLen, ↓aSlice, bnd, ↓aIndexAddr, ↓aIndex, ↓aBuild, ↓aBuildSlice, fillL, ↓aMakeSlice, two, ↓opt_some, ↓opt_none, ldAV, aggT, szOf, zeroAV, tys, unders, chunks, spliceL, Cfg.ro, detOp, gval, resAll, resOne, packAV, ↓reduceIte, seval, reduceCtorEq, Int.cast_ofNat_Int, exists_const, implies_true, decide_true, decide_false, if_true, if_false]
          refine ⟨by omega, ?_⟩
          refine round_next (x :: a1, b1, out ++ [y]) ⟨by simp only [List.length_append, List.length_cons, List.length_nil]; omega, by rw [hs, bothL, if_pos h1]; cases bothL (x :: a1) b1 <;> simp⟩ (by simp only [List.length_cons]; omega) (AEnt_drop rfl rfl (Nat.le_succ _) ⟨by simp only [EO]; omega, fun id hid => by simp only [EO] at hid ⊢; (repeat' split) <;> first | rfl | omega | (subst_vars; simp_all)⟩ ((hwf.base _).new trivial) (EntB_all ?_))
          simp only [rowsA_append, rowsA_cons, untok_segA, rowsA_len, factsA_len, rowsA_nil, factsA_nil, List.length_append, Int.le_refl, room, i64_0, nx, EVL, ite_toInt, ER, EW, Wv_nil, i6, i64, str, boo, EA, EL, ↓EP, binK, pickK, loadK, storeK, EO, Key.av, Cell.av, Fact.av, Row.av, ↓EC, ↓EK, EE, EB, ↓aBuiltin, ↓aAppend, rowsOf, ↓aLen, ↓aSlice, bnd, ↓aIndexAddr, ↓aIndex, ↓aBuild, ↓aBuildSlice, fillL, ↓aMakeSlice, two, ↓opt_some, ↓opt_none, ldAV, aggT, szOf, zeroAV, tys, unders, chunks, spliceL, Cfg.ro, detOp, gval, resAll, resOne, packAV, ↓reduceIte, seval, reduceCtorEq, Int.cast_ofNat_Int, exists_const, implies_true, decide_true, decide_false, if_true, if_false]
          (simp only [Bel_v, segA_bel, Bel_sl, Bel_agg, Bel_tup, Bel_ep, List.forall_mem_append, rowsA_bel, factsA_bel, List.mem_cons, List.not_mem_nil, or_false, forall_eq_or_imp, forall_eq, tokBel, and_self, true_and, and_true, implies_true, zeroR, Key.av, Cell.av, Fact.av, Row.av] <;> omega)
        · by_cases h2 : cmpK x.k y.k = 0
          · have hm := merge_spec x.c y.c
            cases hmc : mergeC x.c y.c with
            | none =>
              rw [hmc] at hm
              simp only [h1, h2, hx0, hy0, hx1, hy1, gx, gy, tx, ty, rowsA_tail, untok_segA, rowsA_len, factsA_len, rowsA_nil, factsA_nil, List.length_append, Int.le_refl, room, i64_0, nx, EVL, ite_toInt, ER, EW, Wv_nil, i6, i64, str, boo, EA, EL, ↓EP, binK, pickK, loadK, storeK, EO, Key.av, Cell.av, Fact.av, Row.av, ↓EC, ↓EK, EE, EB, ↓aBuiltin, ↓aAppend, rowsOf, ↓aLen, ↓aSlice, bnd, ↓aIndexAddr, ↓aIndex, ↓aBuild, ↓aBuildSlice, fillL, ↓aMakeSlice, two, ↓opt_some, ↓opt_none, ldAV, aggT, szOf, zeroAV, tys, unders, chunks, spliceL, Cfg.ro, detOp, gval, resAll, resOne, packAV, ↓reduceIte, seval, reduceCtorEq, Int.cast_ofNat_Int, exists_const, implies_true, decide_true, decide_false, if_true, if_false]
              refine aDraw_chainS [(AState.set (AState.new (AState.new { s with base := ⟨s.next, []⟩ } (.row out.length)) (.cells zeroR.av)) (s.next + 1) (.cells x.av)), AState.new (AState.set (AState.new (AState.new { s with base := ⟨s.next, []⟩ } (.row out.length)) (.cells zeroR.av)) (s.next + 1) (.cells x.av)) (.cells zeroC.av), AState.set (AState.new (AState.set (AState.new (AState.new { s with base := ⟨s.next, []⟩ } (.row out.length)) (.cells zeroR.av)) (s.next + 1) (.cells x.av)) (.cells zeroC.av)) (s.next + 2) (.cells zeroC.av)] [some 9, some 9, some 9, some 9, some 9, some 9, some 9, some 9, some 9, some 9, some 9, some 9, none, none, some 9] mixed (by kernel_rfl) (by kernel_rfl) (by kernel_rfl) rfl ?_; simp only [zeroC, hx0, hy0, gx, gy,  ↓EX, EY, ↓EH, untok_segA, rowsA_len, factsA_len, rowsA_nil, factsA_nil, List.length_append, Int.le_refl, room, i64_0, nx, EVL, ite_toInt, ER, EW, Wv_nil, i6, i64, str, boo, EA, EL, ↓EP, binK, pickK, loadK, storeK, EO, Key.av, Cell.av, Fact.av, Row.av, ↓EC, ↓EK, EE, EB, ↓aBuiltin, ↓aAppend, rowsOf, ↓aLen, ↓aSlice, bnd, ↓aIndexAddr, ↓aIndex, ↓aBuild, ↓aBuildSlice, fillL, ↓aMakeSlice, two, ↓opt_some, ↓opt_none, ldAV, aggT, szOf, zeroAV, tys, unders, chunks, spliceL, Cfg.ro, detOp, gval, resAll, resOne, packAV, ↓reduceIte, seval, reduceCtorEq, Int.cast_ofNat_Int, exists_const, implies_true, decide_true, decide_false, if_true, if_false]
              refine qcallC (hm) rfl (by simp only [untok_segA, rowsA_len, factsA_len, rowsA_nil, factsA_nil, List.length_append, Int.le_refl, room, i64_0, nx, EVL, ite_toInt, ER, EW, Wv_nil, i6, i64, str, boo, EA, EL, ↓EP, binK, pickK, loadK, storeK, EO, Key.av, Cell.av, Fact.av, Row.av, ↓EC, ↓EK, EE, EB, ↓aBuiltin, ↓aAppend, rowsOf, ↓aLen, ↓aSlice, bnd, ↓aIndexAddr, ↓aIndex, ↓aBuild, ↓aBuildSlice, fillL, ↓aMakeSlice, two, ↓opt_some, ↓opt_none, ldAV, aggT, szOf, zeroAV, tys, unders, chunks, spliceL, Cfg.ro, detOp, gval, resAll, resOne, packAV, ↓reduceIte, seval, reduceCtorEq, Int.cast_ofNat_Int, exists_const, implies_true, decide_true, decide_false, if_true, if_false] <;> rfl) ?_; simp only [↓EX, EY, ↓EH, untok_segA, rowsA_len, factsA_len, rowsA_nil, factsA_nil, List.length_append, Int.le_refl, room, i64_0, nx, EVL, ite_toInt, ER, EW, Wv_nil, i6, i64, str, boo, EA, EL, ↓EP, binK, pickK, loadK, storeK, EO, Key.av, Cell.av, Fact.av, Row.av, ↓EC, ↓EK, EE, EB, ↓aBuiltin, ↓aAppend, rowsOf, ↓aLen, ↓aSlice, bnd, ↓aIndexAddr, ↓aIndex, ↓aBuild, ↓aBuildSlice, fillL, ↓aMakeSlice, two, ↓opt_some, ↓opt_none, ldAV, aggT, szOf, zeroAV, tys, unders, chunks, spliceL, Cfg.ro, detOp, gval, resAll, resOne, packAV, ↓reduceIte, seval, reduceCtorEq, Int.cast_ofNat_Int, exists_const, implies_true, decide_true, decide_false, if_true, if_false]
              simp only [resC, zeroC, ↓EX, EY, ↓EH, untok_segA, rowsA_len, factsA_len, rowsA_nil, factsA_nil, List.length_append, Int.le_refl, room, i64_0, nx, EVL, ite_toInt, ER, EW, Wv_nil, i6, i64, str, boo, EA, EL, ↓EP, binK, pickK, loadK, storeK, EO, Key.av, Cell.av, Fact.av, Row.av, ↓EC, ↓EK, EE, EB, ↓aBuiltin, ↓aAppend, rowsOf, ↓aLen, ↓aSlice, bnd, ↓aIndexAddr, ↓aIndex, ↓aBuild, ↓aBuildSlice, fillL, ↓aMakeSlice, two, ↓opt_some, ↓opt_none, ldAV, aggT, szOf, zeroAV, tys, unders, chunks, spliceL, Cfg.ro, detOp, gval, resAll, resOne, packAV, ↓reduceIte, seval, reduceCtorEq, Int.cast_ofNat_Int, exists_const, implies_true, decide_true, decide_false, if_true, if_false]
              rw [show r = none by rw [hs, bothL, if_neg h1, if_pos h2, hmc]; rfl]
              exact Ret_weak (l := [.v (.slice none 0 0), boo false]) (m := [.sl 9 [] .none, boo false]) (.inr rfl) rfl (by simp only [untok_segA, rowsA_len, factsA_len, rowsA_nil, factsA_nil, List.length_append, Int.le_refl, room, i64_0, nx, EVL, ite_toInt, ER, EW, Wv_nil, i6, i64, str, boo, EA, EL, ↓EP, binK, pickK, loadK, storeK, EO, Key.av, Cell.av, Fact.av, Row.av, ↓EC, ↓EK, EE, EB, ↓aBuiltin, ↓aAppend, rowsOf, ↓aLen, ↓aSlice, bnd, ↓aIndexAddr, ↓aIndex, ↓aBuild, ↓aBuildSlice, fillL, ↓aMakeSlice, two, ↓opt_some, ↓opt_none, ldAV, aggT, szOf, zeroAV, tys, unders, chunks, spliceL, Cfg.ro, detOp, gval, resAll, resOne, packAV, ↓reduceIte, seval, reduceCtorEq, Int.cast_ofNat_Int, exists_const, implies_true, decide_true, decide_false, if_true, if_false] <;> rfl) (by simp only [WvL, untok_segA, rowsA_len, factsA_len, rowsA_nil, factsA_nil, List.length_append, Int.le_refl, room, i64_0, nx, EVL, ite_toInt, ER, EW, Wv_nil, i6, i64, str, boo, EA, EL, ↓EP, binK, pickK, loadK, storeK, EO, Key.av, Cell.av, Fact.av, Row.av, ↓EC, ↓EK, EE, EB, ↓aBuiltin, ↓aAppend, rowsOf, ↓aLen, ↓aSlice, bnd, ↓aIndexAddr, ↓aIndex, ↓aBuild, ↓aBuildSlice, fillL, ↓aMakeSlice, two, ↓opt_some, ↓opt_none, ldAV, aggT, szOf, zeroAV, tys, unders, chunks, spliceL, Cfg.ro, detOp, gval, resAll, resOne, packAV, ↓reduceIte, seval, reduceCtorEq, Int.cast_ofNat_Int, exists_const, implies_true, decide_true, decide_false, if_true, if_false]) rfl (by first | exact Keeps.base _ _ | (repeat (first | exact Keeps.base _ _ | refine Keeps.new ?_ _ | refine Keeps.set ?_ (by first | (simp; done) | omega | (simp only [EO]; omega)) _))) (by show Bel _ (packAV [.sl 9 [] .none, boo false]); exact (by first | exact .v _ | (simp only [packAV, rowsA_bel, factsA_bel, segA_bel, resS, if_true, if_false, Bool.false_eq_true, resC, Key.av, Cell.av, Fact.av, Row.av, zeroC, Bel_v, Bel_tup, Bel_agg, List.forall_mem_map, List.map_nil, false_implies, implies_true, List.mem_cons, List.not_mem_nil, or_false, forall_eq_or_imp, forall_eq, and_self, true_and, and_true, Bel_sl, Bel_ep, tokBel, implies_true])))
            | some c =>
              rw [hmc] at hm
              simp only [h1, h2, hx0, hy0, hx1, hy1, gx, gy, tx, ty, rowsA_tail, untok_segA, rowsA_len, factsA_len, rowsA_nil, factsA_nil, List.length_append, Int.le_refl, room, i64_0, nx, EVL, ite_toInt, ER, EW, Wv_nil, i6, i64, str, boo, EA, EL, ↓EP, binK, pickK, loadK, storeK, EO, Key.av, Cell.av, Fact.av, Row.av, ↓EC, ↓EK, EE, EB, ↓aBuiltin, ↓aAppend, rowsOf, ↓aLen, ↓aSlice, bnd, ↓aIndexAddr, ↓aIndex, ↓aBuild, ↓aBuildSlice, fillL, ↓aMakeSlice, two, ↓opt_some, ↓opt_none, ldAV, aggT, szOf, zeroAV, tys, unders, chunks, spliceL, Cfg.ro, detOp, gval, resAll, resOne, packAV, ↓reduceIte, seval, reduceCtorEq, Int.cast_ofNat_Int, exists_const, implies_true, decide_true, decide_false, if_true, if_false]
              refine aDraw_chainS [(AState.set (AState.new (AState.new { s with base := ⟨s.next, []⟩ } (.row out.length)) (.cells zeroR.av)) (s.next + 1) (.cells x.av)), AState.new (AState.set (AState.new (AState.new { s with base := ⟨s.next, []⟩ } (.row out.length)) (.cells zeroR.av)) (s.next + 1) (.cells x.av)) (.cells zeroC.av), AState.set (AState.new (AState.set (AState.new (AState.new { s with base := ⟨s.next, []⟩ } (.row out.length)) (.cells zeroR.av)) (s.next + 1) (.cells x.av)) (.cells zeroC.av)) (s.next + 2) (.cells c.av)] [some 9, some 9, some 9, some 9, some 9, some 9, some 9, some 9, some 9, some 9, some 9, some 9, none, none, some 9] mixed (by kernel_rfl) (by kernel_rfl) (by kernel_rfl) rfl ?_; simp only [zeroC, hx0, hy0, gx, gy,  ↓EX, EY, ↓EH, untok_segA, rowsA_len, factsA_len, rowsA_nil, factsA_nil, List.length_append, Int.le_refl, room, i64_0, nx, EVL, ite_toInt, ER, EW, Wv_nil, i6, i64, str, boo, EA, EL, ↓EP, binK, pickK, loadK, storeK, EO, Key.av, Cell.av, Fact.av, Row.av, ↓EC, ↓EK, EE, EB, ↓aBuiltin, ↓aAppend, rowsOf, ↓aLen, ↓aSlice, bnd, ↓aIndexAddr, ↓aIndex, ↓aBuild, ↓aBuildSlice, fillL, ↓aMakeSlice, two, ↓opt_some, ↓opt_none, ldAV, aggT, szOf, zeroAV, tys, unders, chunks, spliceL, Cfg.ro, detOp, gval, resAll, resOne, packAV, ↓reduceIte, seval, reduceCtorEq, Int.cast_ofNat_Int, exists_const, implies_true, decide_true, decide_false, if_true, if_false]
              refine qcallC (hm) rfl (by simp only [untok_segA, rowsA_len, factsA_len, rowsA_nil, factsA_nil, List.length_append, Int.le_refl, room, i64_0, nx, EVL, ite_toInt, ER, EW, Wv_nil, i6, i64, str, boo, EA, EL, ↓EP, binK, pickK, loadK, storeK, EO, Key.av, Cell.av, Fact.av, Row.av, ↓EC, ↓EK, EE, EB, ↓aBuiltin, ↓aAppend, rowsOf, ↓aLen, ↓aSlice, bnd, ↓aIndexAddr, ↓aIndex, ↓aBuild, ↓aBuildSlice, fillL, ↓aMakeSlice, two, ↓opt_some, ↓opt_none, ldAV, aggT, szOf, zeroAV, tys, unders, chunks, spliceL, Cfg.ro, detOp, gval, resAll, resOne, packAV, ↓reduceIte, seval, reduceCtorEq, Int.cast_ofNat_Int, exists_const, implies_true, decide_true, decide_false, if_true, if_false] <;> rfl) ?_; simp only [↓EX, EY, ↓EH, untok_segA, rowsA_len, factsA_len, rowsA_nil, factsA_nil, List.length_append, Int.le_refl, room, i64_0, nx, EVL, ite_toInt, ER, EW, Wv_nil, i6, i64, str, boo, EA, EL, ↓EP, binK, pickK, loadK, storeK, EO, Key.av, Cell.av, Fact.av, Row.av, ↓EC, ↓EK, EE, EB, ↓aBuiltin, ↓aAppend, rowsOf, ↓aLen, ↓aSlice, bnd, ↓aIndexAddr, ↓aIndex, ↓aBuild, ↓aBuildSlice, fillL, ↓aMakeSlice, two, ↓opt_some, ↓opt_none, ldAV, aggT, szOf, zeroAV, tys, unders, chunks, spliceL, Cfg.ro, detOp, gval, resAll, resOne, packAV, ↓reduceIte, seval, reduceCtorEq, Int.cast_ofNat_Int, exists_const, implies_true, decide_true, decide_false, if_true, if_false]
              simp only [resC, zeroC, hx1, hy1, tx, ty, rowsA_tail, ↓EX, EY, ↓EH, untok_segA, rowsA_len, factsA_len, rowsA_nil, factsA_nil, List.length_append, Int.le_refl, room, i64_0, nx, EVL, ite_toInt, ER, EW, Wv_nil, i6, i64, str, boo, EA, EL, ↓EP, binK, pickK, loadK, storeK, EO, Key.av, Cell.av, Fact.av, Row.av, ↓EC, ↓EK, EE, EB, ↓aBuiltin, ↓aAppend, rowsOf, ↓aLen, ↓aSlice, bnd, ↓aIndexAddr, ↓aIndex, ↓aBuild, ↓aBuildSlice, fillL, ↓aMakeSlice, two, ↓opt_some, ↓opt_none, ldAV, aggT, szOf, zeroAV, tys, unders, chunks, spliceL, Cfg.ro, detOp, gval, resAll, resOne, packAV, ↓reduceIte, seval, reduceCtorEq, Int.cast_ofNat_Int, exists_const, implies_true, decide_true, decide_false, if_true, if_false]
              refine aDraw_walk mixed (by kernel_rfl) ?_; simp only [hx0, hy0, hx1, hy1, tx, ty, rowsA_tail, untok_segA, rowsA_len, factsA_len, rowsA_nil, factsA_nil, List.length_append, Int.le_refl, room, i64_0, nx, EVL, ite_toInt, ER, EW, Wv_nil, i6, i64, str, boo, EA, EL, ↓EP, binK, pickK, loadK, storeK, EO, Key.av, Cell.av, Fact.av, Row.av, ↓EC, ↓EK, EE, EB, ↓aBuiltin, ↓aAppend, rowsOf, ↓aLen, ↓aSlice, bnd, ↓aIndexAddr, ↓aIndex, ↓aBuild, ↓aBuildSlice, fillL, ↓aMakeSlice, two, ↓opt_some, ↓opt_none, ldAV, aggT, szOf, zeroAV, tys, unders, chunks, spliceL, Cfg.ro, detOp, gval, resAll, resOne, packAV, ↓reduceIte, seval, reduceCtorEq, Int.cast_ofNat_Int, exists_const, implies_true, decide_true, decide_false, if_true, if_false]
              refine ⟨by omega, ?_⟩
              refine round_next (a1, b1, out ++ [⟨x.k, c⟩]) ⟨by simp only [List.length_append, List.length_cons, List.length_nil]; omega, by rw [hs, bothL, if_neg h1, if_pos h2, hmc]; cases bothL a1 b1 <;> simp⟩ (by simp only [List.length_cons]; omega) (AEnt_drop rfl rfl (Nat.le_succ _) ⟨by simp only [EO]; omega, fun id hid => by simp only [EO] at hid ⊢; (repeat' split) <;> first | rfl | omega | (subst_vars; simp_all)⟩ ((hwf.base _).new trivial) (EntB_all ?_))
              simp only [rowsA_append, rowsA_cons, untok_segA, rowsA_len, factsA_len, rowsA_nil, factsA_nil, List.length_append, Int.le_refl, room, i64_0, nx, EVL, ite_toInt, ER, EW, Wv_nil, i6, i64, str, boo, EA, EL, ↓EP, binK, pickK, loadK, storeK, EO, Key.av, Cell.av, Fact.av, Row.av, ↓EC, ↓EK, EE, EB, ↓aBuiltin, ↓aAppend, rowsOf, ↓aLen, ↓aSlice, bnd, ↓aIndexAddr, ↓aIndex, ↓aBuild, ↓aBuildSlice, fillL, ↓aMakeSlice, two, ↓opt_some, ↓opt_none, ldAV, aggT, szOf, zeroAV, tys, unders, chunks, spliceL, Cfg.ro, detOp, gval, resAll, resOne, packAV, ↓reduceIte, seval, reduceCtorEq, Int.cast_ofNat_Int, exists_const, implies_true, decide_true, decide_false, if_true, if_false]
              (simp only [Bel_v, segA_bel, Bel_sl, Bel_agg, Bel_tup, Bel_ep, List.forall_mem_append, rowsA_bel, factsA_bel, List.mem_cons, List.not_mem_nil, or_false, forall_eq_or_imp, forall_eq, tokBel, and_self, true_and, and_true, implies_true, zeroR, Key.av, Cell.av, Fact.av, Row.av] <;> omega)
          · simp only [h1, h2, hx0, hy0, hx1, hy1, gx, gy, tx, ty, rowsA_tail, untok_segA, rowsA_len, factsA_len, rowsA_nil, factsA_nil, List.length_append, Int.le_refl, room, i64_0, nx, EVL, ite_toInt, ER, EW, Wv_nil, i6, i64, str, boo, EA, EL, ↓EP, binK, pickK, loadK, storeK, EO, Key.av, Cell.av, Fact.av, Row.av, ↓EC, ↓EK, EE, EB, ↓aBuiltin, ↓aAppend, rowsOf, ↓aLen, ↓aSlice, bnd, ↓aIndexAddr, ↓aIndex, ↓aBuild, ↓aBuildSlice, fillL, ↓aMakeSlice, two, ↓opt_some, ↓opt_none, ldAV, aggT, szOf, zeroAV, tys, unders, chunks, spliceL, Cfg.ro, detOp, gval, resAll, resOne, packAV, ↓reduceIte, seval, reduceCtorEq, Int.cast_ofNat_Int, exists_const, implies_true, decide_true, decide_false, if_true, if_false]
            refine ⟨by omega, ?_⟩
            refine round_next (a1, y :: b1, out ++ [x]) ⟨by simp only [List.length_append, List.length_cons, List.length_nil]; omega, by rw [hs, bothL, if_neg h1, if_neg h2]; cases bothL a1 (y :: b1) <;> simp⟩ (by simp only [List.length_cons]; omega) (AEnt_drop rfl rfl (Nat.le_succ _) ⟨by simp only [EO]; omega, fun id hid => by simp only [EO] at hid ⊢; (repeat' split) <;> first | rfl | omega | (subst_vars; simp_all)⟩ ((hwf.base _).new trivial) (EntB_all ?_))
            simp only [rowsA_append, rowsA_cons, untok_segA, rowsA_len, factsA_len, rowsA_nil, factsA_nil, List.length_append, Int.le_refl, room, i64_0, nx, EVL, ite_toInt, ER, EW, Wv_nil, i6, i64, str, boo, EA, EL, ↓EP, binK, pickK, loadK, storeK, EO, Key.av, Cell.av, Fact.av, Row.av, ↓EC, ↓EK, EE, EB, ↓aBuiltin, ↓aAppend, rowsOf, ↓aLen, ↓aSlice, bnd, ↓aIndexAddr, ↓aIndex, ↓aBuild, ↓aBuildSlice, fillL, ↓aMakeSlice, two, ↓opt_some, ↓opt_none, ldAV, aggT, szOf, zeroAV, tys, unders, chunks, spliceL, Cfg.ro, detOp, gval, resAll, resOne, packAV, ↓reduceIte, seval, reduceCtorEq, Int.cast_ofNat_Int, exists_const, implies_true, decide_true, decide_false, if_true, if_false]
            (simp only [Bel_v, segA_bel, Bel_sl, Bel_agg, Bel_tup, Bel_ep, List.forall_mem_append, rowsA_bel, factsA_bel, List.mem_cons, List.not_mem_nil, or_false, forall_eq_or_imp, forall_eq, tokBel, and_self, true_and, and_true, implies_true, zeroR, Key.av, Cell.av, Fact.av, Row.av] <;> omega)

end Go.Proofs

namespace Go.Proofs
open Go Go.Av
set_option linter.unusedSimpArgs false
set_option linter.unusedVariables false
set_option maxRecDepth 30000
set_option maxHeartbeats 2000000

def keysA (l : List Key) : List (List AV) := l.map Key.av
theorem keysA_len (l : List Key) : (keysA l).length = l.length := by simp [keysA]
theorem keysA_app (l m : List Key) : keysA (l ++ m) = keysA l ++ keysA m := by simp [keysA]
theorem keysA_get {l : List Key} {i : Nat} {x : Key} (h : l[i]? = some x) : (keysA l).getD i [] = x.av := by simp [keysA, List.getD_eq_getElem?_getD, h]
theorem keysA_bel (n : Nat) (l : List Key) : (∀ x ∈ keysA l, ∀ c ∈ x, Bel n c) = True := eq_true (by
  intro x hx c hc
  simp only [keysA, List.mem_map] at hx
  obtain ⟨k, _, rfl⟩ := hx
  simp only [Key.av, List.mem_cons, List.not_mem_nil, or_false] at hc
  rcases hc with rfl | rfl | rfl | rfl | rfl <;> exact .v _)
def entA (l : List (Key × Cell)) : List (AV × AV) := l.map fun p => (.agg p.1.av, .agg p.2.av)
theorem entA_len (l : List (Key × Cell)) : (entA l).length = l.length := by simp [entA]

theorem keysOf_spec (m : Nat) : APure Try.prog 49 [.mp m] (.fn 97 [] [.ep [.mp m] 0]) := by
  intro s
  refine ACalls_body (C := ⟨[1]⟩) (c := Try.f49.body.getD .skip) (rs := [.tmp 2]) Try.func49 (by kernel_rfl) (by kernel_rfl) (by kernel_rfl) (Nat.le_of_ble_eq_true rfl) (by kernel_rfl) fun hwf hbel => ?_; simp only [Try.f49, untok_segA, rowsA_len, factsA_len, rowsA_nil, factsA_nil, List.length_append, Int.le_refl, room, i64_0, nx, EVL, ite_toInt, ER, EW, Wv_nil, i6, i64, str, boo, EA, EL, ↓EP, binK, pickK, loadK, storeK, EO, Key.av, Cell.av, Fact.av, Row.av, ↓EC, ↓EK, EE, EB, ↓aBuiltin, ↓aAppend, rowsOf, ↓aLen, ↓aSlice, bnd, ↓aIndexAddr, ↓aIndex, ↓aBuild, ↓aBuildSlice, fillL, ↓aMakeSlice, two, ↓opt_some, ↓opt_none, ldAV, aggT, szOf, zeroAV, tys, unders, chunks, spliceL, Cfg.ro, detOp, gval, resAll, resOne, packAV, ↓reduceIte, seval, reduceCtorEq, Int.cast_ofNat_Int, exists_const, implies_true, decide_true, decide_false, if_true, if_false]
  exact Ret_pure (l := [.fn 97 [] [.ep [.mp m] 0]]) (.inr rfl) rfl (by simp only [untok_segA, rowsA_len, factsA_len, rowsA_nil, factsA_nil, List.length_append, Int.le_refl, room, i64_0, nx, EVL, ite_toInt, ER, EW, Wv_nil, i6, i64, str, boo, EA, EL, ↓EP, binK, pickK, loadK, storeK, EO, Key.av, Cell.av, Fact.av, Row.av, ↓EC, ↓EK, EE, EB, ↓aBuiltin, ↓aAppend, rowsOf, ↓aLen, ↓aSlice, bnd, ↓aIndexAddr, ↓aIndex, ↓aBuild, ↓aBuildSlice, fillL, ↓aMakeSlice, two, ↓opt_some, ↓opt_none, ldAV, aggT, szOf, zeroAV, tys, unders, chunks, spliceL, Cfg.ro, detOp, gval, resAll, resOne, packAV, ↓reduceIte, seval, reduceCtorEq, Int.cast_ofNat_Int, exists_const, implies_true, decide_true, decide_false, if_true, if_false] <;> rfl) rfl (by first | exact Keeps.base _ _ | (repeat (first | exact Keeps.base _ _ | refine Keeps.new ?_ _ | refine Keeps.set ?_ (by first | (simp; done) | omega | (simp only [EO]; omega)) _))) (by
    have := hbel (.mp m) (by simp)
    simp only [packAV, Bel_fn, List.not_mem_nil, false_implies, implies_true, List.mem_cons, or_false, forall_eq, Bel_ep, true_and]
    exact this)

/-- The box holds the keys that have come. -/
def upd (s : AState) (bx rid : Nat) (l : List Key) : AState := (s.set bx (.cells [.sl 5 (keysA l) (.row rid l.length)])).set rid (.row l.length)

/-- The keys at places. -/
def keysAt (l : List (Key × Cell)) (is : List Nat) : List Key := is.map fun i => ((l[i]?).map (·.1)).getD ⟨0, .empty, .empty, .empty, .empty⟩

theorem keysAt_all {l : List (Key × Cell)} {is : List Nat} (hn : is.Nodup) (hlt : ∀ i ∈ is, i < l.length) (hall : ∀ i, i < l.length → i ∈ is) : (keysAt l is).Perm (l.map (·.1)) := by
  have hp : is.Perm (List.range l.length) := (List.perm_ext_iff_of_nodup hn List.nodup_range).2 fun i => ⟨fun h => List.mem_range.2 (hlt i h), fun h => hall i (List.mem_range.1 h)⟩
  refine (hp.map _).trans (List.Perm.of_eq ?_)
  apply List.ext_getElem (by simp)
  intro i h1 h2
  simp at h2
  simp [h2]

theorem nodup_le {n : Nat} {is : List Nat} (hn : is.Nodup) (hlt : ∀ i ∈ is, i < n) : is.length ≤ n := by
  have hp : is.Perm ((List.range n).filter fun i => decide (i ∈ is)) := (List.perm_ext_iff_of_nodup hn (List.nodup_range.filter _)).2 fun i => by
    simp only [List.mem_filter, List.mem_range, decide_eq_true_eq]
    exact ⟨fun h => ⟨hlt i h, h⟩, fun h => h.2⟩
  have := List.length_filter_le (fun i => decide (i ∈ is)) (List.range n)
  rw [hp.length_eq]
  simpa using this

theorem upd_len {s : AState} {bx rid : Nat} {l : List Key} : (upd s bx rid l).next = s.next ∧ (upd s bx rid l).base = s.base := ⟨rfl, rfl⟩
theorem upd_bx {s : AState} {bx rid : Nat} {l : List Key} (h : bx ≠ rid) : (upd s bx rid l).obj bx = some (.cells [.sl 5 (keysA l) (.row rid l.length)]) := by simp [upd, AState.set, h]
theorem upd_rid {s : AState} {bx rid : Nat} {l : List Key} : (upd s bx rid l).obj rid = some (.row l.length) := by simp [upd, AState.set]
theorem upd_ne {s : AState} {bx rid i : Nat} {l : List Key} (h1 : i ≠ bx) (h2 : i ≠ rid) : (upd s bx rid l).obj i = s.obj i := by simp [upd, AState.set, h1, h2]

theorem Wf_upd {s : AState} {bx rid : Nat} {l : List Key} (h : s.Wf) (h1 : bx < s.next) (h2 : rid < s.next) : (upd s bx rid l).Wf := by
  intro id o ho
  simp only [upd, AState.set] at ho ⊢
  split at ho
  · rename_i e; subst e; cases ho; exact ⟨h2, trivial⟩
  · split at ho
    · rename_i e; subst e; cases ho
      refine ⟨h1, ?_⟩
      intro c hc
      simp only [List.mem_cons, List.not_mem_nil, or_false] at hc
      subst hc
      exact Bel_sl.2 ⟨of_eq_true (keysA_bel _ _), h2⟩
    · exact h id o ho
theorem upd_nil {s : AState} {bx rid : Nat} (h1 : s.obj bx = some (.cells [.sl 5 [] (.row rid 0)])) (h2 : s.obj rid = some (.row 0)) : upd s bx rid [] = s := by
  refine AState.ext' (fun i => ?_) rfl rfl
  simp only [upd, AState.set]
  split
  · rename_i e; subst e; exact h2.symm
  · split
    · rename_i e; subst e; exact h1.symm
    · rfl

theorem u85 : Try.prog.underlying 85 = some (.map 39 44) := by simp only [unders]
theorem u39 : Try.prog.underlying 39 = some (Try.prog.underlying 39).get! := by simp only [unders]; rfl

theorem entA_get {l : List (Key × Cell)} {i : Nat} {q : AV × AV} (h : (entA l)[i]? = some q) : ∃ p, l[i]? = some p ∧ q = (.agg p.1.av, .agg p.2.av) := by
  simp only [entA, List.getElem?_map, Option.map_eq_some_iff] at h
  obtain ⟨p, hp, rfl⟩ := h
  exact ⟨p, hp, rfl⟩
theorem keysAt_len (l : List (Key × Cell)) (is : List Nat) : (keysAt l is).length = is.length := by simp [keysAt]
theorem keysAt_snoc {l : List (Key × Cell)} {is : List Nat} {i : Nat} {p : Key × Cell} (h : l[i]? = some p) : keysAt l (is ++ [i]) = keysAt l is ++ [p.1] := by simp [keysAt, h]

theorem keyIter_spec (l : List (Key × Cell)) (s : AState) (L bx rid m : Nat) (eL : Env) (ps : List Nat) (nt : Nat) (asg body : Code) (D : Nat) (hL : s.obj L = some (.loop eL ps nt asg body .ready none D))
    (hbx : s.obj bx = some (.cells [.sl 5 [] (.row rid 0)])) (hrid : s.obj rid = some (.row 0)) (hm : s.obj m = some (.map (entA l))) (hlen : l.length ≤ 1000000)
    (hy : ∀ (s' : AState) (acc : List Key) (x : Key), s'.obj L = some (.loop eL ps nt asg body .ready none D) → s'.obj bx = some (.cells [.sl 5 (keysA acc) (.row rid acc.length)]) → s'.obj rid = some (.row acc.length) → acc.length < l.length →
      AYield Try.prog L [.agg x.av] s' (fun d s'' => d = boo true ∧ s'' = upd s' bx rid (acc ++ [x]))) :
    ACalls Try.prog 97 [.yl L, .ep [.mp m] 0] s (fun d s' => d = .tup [] ∧ ∃ ks : List Key, ks.Perm (l.map (·.1)) ∧ s' = upd s bx rid ks) := by
  have n1 : L ≠ bx := by rintro rfl; rw [hL] at hbx; cases hbx
  have n2 : L ≠ rid := by rintro rfl; rw [hL] at hrid; cases hrid
  have n3 : bx ≠ rid := by rintro rfl; rw [hbx] at hrid; cases hrid
  have n4 : m ≠ bx := by rintro rfl; rw [hm] at hbx; cases hbx
  have n5 : m ≠ rid := by rintro rfl; rw [hm] at hrid; cases hrid
  refine ACalls_body (C := ⟨[]⟩) (c := Try.f97.body.getD .skip) (rs := []) Try.func97 (by kernel_rfl) (by kernel_rfl) (by kernel_rfl) (Nat.le_of_ble_eq_true rfl) (by kernel_rfl) fun hwf hbel => ?_; simp only [Try.f97, untok_segA, rowsA_len, factsA_len, rowsA_nil, factsA_nil, List.length_append, Int.le_refl, room, i64_0, nx, EVL, ite_toInt, ER, EW, Wv_nil, i6, i64, str, boo, EA, EL, ↓EP, binK, pickK, loadK, storeK, EO, Key.av, Cell.av, Fact.av, Row.av, ↓EC, ↓EK, EE, EB, ↓aBuiltin, ↓aAppend, rowsOf, ↓aLen, ↓aSlice, bnd, ↓aIndexAddr, ↓aIndex, ↓aBuild, ↓aBuildSlice, fillL, ↓aMakeSlice, two, ↓opt_some, ↓opt_none, ldAV, aggT, szOf, zeroAV, tys, unders, chunks, spliceL, Cfg.ro, detOp, gval, resAll, resOne, packAV, ↓reduceIte, seval, reduceCtorEq, Int.cast_ofNat_Int, exists_const, implies_true, decide_true, decide_false, if_true, if_false]
  have k1 := (hwf _ _ hL).1
  have k2 := (hwf _ _ hbx).1
  have k3 := (hwf _ _ hrid).1
  have k4 := (hwf _ _ hm).1
  refine range_law (id := m) (es := entA l) u85 rfl hm ?_
  rw [entA_len]
  simp only [untok_segA, rowsA_len, factsA_len, rowsA_nil, factsA_nil, List.length_append, Int.le_refl, room, i64_0, nx, EVL, ite_toInt, ER, EW, Wv_nil, i6, i64, str, boo, EA, EL, ↓EP, binK, pickK, loadK, storeK, EO, Key.av, Cell.av, Fact.av, Row.av, ↓EC, ↓EK, EE, EB, ↓aBuiltin, ↓aAppend, rowsOf, ↓aLen, ↓aSlice, bnd, ↓aIndexAddr, ↓aIndex, ↓aBuild, ↓aBuildSlice, fillL, ↓aMakeSlice, two, ↓opt_some, ↓opt_none, ldAV, aggT, szOf, zeroAV, tys, unders, chunks, spliceL, Cfg.ro, detOp, gval, resAll, resOne, packAV, ↓reduceIte, seval, reduceCtorEq, Int.cast_ofNat_Int, exists_const, implies_true, decide_true, decide_false, if_true, if_false]
  refine ALoop_inv (ι := List Nat) (fun is => is.Nodup ∧ ∀ i ∈ is, i < l.length) (fun is => envL [(0, .yl L), (1, .ep [.mp m] 0), (5, .ptr s.next 0)]) (fun is => upd (AState.new { s with base := ⟨s.next, []⟩ } (.iter m l.length is)) bx rid (keysAt l is)) (fun is => l.length - is.length) [] ⟨List.nodup_nil, fun _ h => by cases h⟩ ?_ (fun is hi => ?_)
  · rw [show keysAt l [] = [] from rfl, upd_nil (by simp only [AState.new]; rw [if_neg (by omega)]; exact hbx) (by simp only [AState.new]; rw [if_neg (by omega)]; exact hrid)]
    refine ent rfl ?_
    simp only [untok_segA, rowsA_len, factsA_len, rowsA_nil, factsA_nil, List.length_append, Int.le_refl, room, i64_0, nx, EVL, ite_toInt, ER, EW, Wv_nil, i6, i64, str, boo, EA, EL, ↓EP, binK, pickK, loadK, storeK, EO, Key.av, Cell.av, Fact.av, Row.av, ↓EC, ↓EK, EE, EB, ↓aBuiltin, ↓aAppend, rowsOf, ↓aLen, ↓aSlice, bnd, ↓aIndexAddr, ↓aIndex, ↓aBuild, ↓aBuildSlice, fillL, ↓aMakeSlice, two, ↓opt_some, ↓opt_none, ldAV, aggT, szOf, zeroAV, tys, unders, chunks, spliceL, Cfg.ro, detOp, gval, resAll, resOne, packAV, ↓reduceIte, seval, reduceCtorEq, Int.cast_ofNat_Int, exists_const, implies_true, decide_true, decide_false, if_true, if_false]
  · obtain ⟨hn, hlt⟩ := hi
    have hit : (upd (AState.new { s with base := ⟨s.next, []⟩ } (.iter m l.length is)) bx rid (keysAt l is)).obj s.next = some (.iter m l.length is) := by (simp only [upd, AState.set, AState.new]; (repeat (first | rw [if_neg (by omega)] | rw [if_pos (by omega)] | (simp only [↓reduceIte]; done) | simp only [↓reduceIte])); try rfl)
    have hmm : (upd (AState.new { s with base := ⟨s.next, []⟩ } (.iter m l.length is)) bx rid (keysAt l is)).obj m = some (.map (entA l)) := by (simp only [upd, AState.set, AState.new]; (repeat (first | rw [if_neg (by omega)] | rw [if_pos (by omega)] | (simp only [↓reduceIte]; done) | simp only [↓reduceIte])); try rfl); exact hm
    simp only [untok_segA, rowsA_len, factsA_len, rowsA_nil, factsA_nil, List.length_append, Int.le_refl, room, i64_0, nx, EVL, ite_toInt, ER, EW, Wv_nil, i6, i64, str, boo, EA, EL, ↓EP, binK, pickK, loadK, storeK, EO, Key.av, Cell.av, Fact.av, Row.av, ↓EC, ↓EK, EE, EB, ↓aBuiltin, ↓aAppend, rowsOf, ↓aLen, ↓aSlice, bnd, ↓aIndexAddr, ↓aIndex, ↓aBuild, ↓aBuildSlice, fillL, ↓aMakeSlice, two, ↓opt_some, ↓opt_none, ldAV, aggT, szOf, zeroAV, tys, unders, chunks, spliceL, Cfg.ro, detOp, gval, resAll, resOne, packAV, ↓reduceIte, seval, reduceCtorEq, Int.cast_ofNat_Int, exists_const, implies_true, decide_true, decide_false, if_true, if_false]
    refine next_law (id := s.next) (m := m) (n := l.length) (seen := is) (es := entA l) rfl hit hmm (entA_len l) (fun hall => ?_) (fun i q hq hni => ?_)
    · simp only [untok_segA, rowsA_len, factsA_len, rowsA_nil, factsA_nil, List.length_append, Int.le_refl, room, i64_0, nx, EVL, ite_toInt, ER, EW, Wv_nil, i6, i64, str, boo, EA, EL, ↓EP, binK, pickK, loadK, storeK, EO, Key.av, Cell.av, Fact.av, Row.av, ↓EC, ↓EK, EE, EB, ↓aBuiltin, ↓aAppend, rowsOf, ↓aLen, ↓aSlice, bnd, ↓aIndexAddr, ↓aIndex, ↓aBuild, ↓aBuildSlice, fillL, ↓aMakeSlice, two, ↓opt_some, ↓opt_none, ldAV, aggT, szOf, zeroAV, tys, unders, chunks, spliceL, Cfg.ro, detOp, gval, resAll, resOne, packAV, ↓reduceIte, seval, reduceCtorEq, Int.cast_ofNat_Int, exists_const, implies_true, decide_true, decide_false, if_true, if_false]
      refine Ret_drop (S := upd s bx rid (keysAt l is)) (l := []) (m := []) (.inl rfl) rfl rfl trivial rfl rfl (Nat.le_succ _) ?_ (by simp only [packAV, Bel_tup]; simp) ⟨rfl, _, keysAt_all hn hlt hall, rfl⟩
      intro i o ho
      obtain ⟨h1, h2⟩ := Wf_upd hwf k2 k3 i o ho
      refine ⟨h1, h2, ?_⟩
      rw [← ho]
      simp only [upd, AState.set, AState.new] at h1 ⊢
      (repeat' split) <;> first | rfl | omega
    · obtain ⟨p, hp, rfl⟩ := entA_get hq
      simp only [untok_segA, rowsA_len, factsA_len, rowsA_nil, factsA_nil, List.length_append, Int.le_refl, room, i64_0, nx, EVL, ite_toInt, ER, EW, Wv_nil, i6, i64, str, boo, EA, EL, ↓EP, binK, pickK, loadK, storeK, EO, Key.av, Cell.av, Fact.av, Row.av, ↓EC, ↓EK, EE, EB, ↓aBuiltin, ↓aAppend, rowsOf, ↓aLen, ↓aSlice, bnd, ↓aIndexAddr, ↓aIndex, ↓aBuild, ↓aBuildSlice, fillL, ↓aMakeSlice, two, ↓opt_some, ↓opt_none, ldAV, aggT, szOf, zeroAV, tys, unders, chunks, spliceL, Cfg.ro, detOp, gval, resAll, resOne, packAV, ↓reduceIte, seval, reduceCtorEq, Int.cast_ofNat_Int, exists_const, implies_true, decide_true, decide_false, if_true, if_false]
      refine entry_law (id := s.next) (m := m) (n := l.length) (i := i) (seen := is) (es := entA l) rfl ?_ ?_ (entA_len l) hq ?_
      · (simp only [upd, AState.set, AState.new]; (repeat (first | rw [if_neg (by omega)] | rw [if_pos (by omega)] | (simp only [↓reduceIte]; done) | simp only [↓reduceIte])); try rfl)
      · (simp only [upd, AState.set, AState.new]; (repeat (first | rw [if_neg (by omega)] | rw [if_pos (by omega)] | (simp only [↓reduceIte]; done) | simp only [↓reduceIte])); try rfl); exact hm
      simp only [untok_segA, rowsA_len, factsA_len, rowsA_nil, factsA_nil, List.length_append, Int.le_refl, room, i64_0, nx, EVL, ite_toInt, ER, EW, Wv_nil, i6, i64, str, boo, EA, EL, ↓EP, binK, pickK, loadK, storeK, EO, Key.av, Cell.av, Fact.av, Row.av, ↓EC, ↓EK, EE, EB, ↓aBuiltin, ↓aAppend, rowsOf, ↓aLen, ↓aSlice, bnd, ↓aIndexAddr, ↓aIndex, ↓aBuild, ↓aBuildSlice, fillL, ↓aMakeSlice, two, ↓opt_some, ↓opt_none, ldAV, aggT, szOf, zeroAV, tys, unders, chunks, spliceL, Cfg.ro, detOp, gval, resAll, resOne, packAV, ↓reduceIte, seval, reduceCtorEq, Int.cast_ofNat_Int, exists_const, implies_true, decide_true, decide_false, if_true, if_false]
      simp only [EZ, EZ0, untok_segA, rowsA_len, factsA_len, rowsA_nil, factsA_nil, List.length_append, Int.le_refl, room, i64_0, nx, EVL, ite_toInt, ER, EW, Wv_nil, i6, i64, str, boo, EA, EL, ↓EP, binK, pickK, loadK, storeK, EO, Key.av, Cell.av, Fact.av, Row.av, ↓EC, ↓EK, EE, EB, ↓aBuiltin, ↓aAppend, rowsOf, ↓aLen, ↓aSlice, bnd, ↓aIndexAddr, ↓aIndex, ↓aBuild, ↓aBuildSlice, fillL, ↓aMakeSlice, two, ↓opt_some, ↓opt_none, ldAV, aggT, szOf, zeroAV, tys, unders, chunks, spliceL, Cfg.ro, detOp, gval, resAll, resOne, packAV, ↓reduceIte, seval, reduceCtorEq, Int.cast_ofNat_Int, exists_const, implies_true, decide_true, decide_false, if_true, if_false]
      have hil : i < l.length := (List.getElem?_eq_some_iff.1 hp).1
      have hn2 : (is ++ [i]).Nodup := by
        rw [List.nodup_append]; exact ⟨hn, by simp, by intro a ha b hb; simp at hb; subst hb; intro e; subst e; exact hni ha⟩
      have hlt2 : ∀ j ∈ is ++ [i], j < l.length := by
        intro j hj
        rcases List.mem_append.1 hj with hj | hj
        · exact hlt j hj
        · simp at hj; omega
      have hle2 := nodup_le hn2 hlt2
      simp only [List.length_append, List.length_cons, List.length_nil] at hle2
      refine AYield_use (hy _ (keysAt l is) p.1 ?_ ?_ ?_ (by rw [keysAt_len]; omega)) ?_
      · (simp only [upd, AState.set, AState.new]; (repeat (first | rw [if_neg (by omega)] | rw [if_pos (by omega)] | (simp only [↓reduceIte]; done) | simp only [↓reduceIte])); try rfl); exact hL
      · (simp only [upd, AState.set, AState.new]; (repeat (first | rw [if_neg (by omega)] | rw [if_pos (by omega)] | (simp only [↓reduceIte]; done) | simp only [↓reduceIte])); try rfl)
      · (simp only [upd, AState.set, AState.new]; (repeat (first | rw [if_neg (by omega)] | rw [if_pos (by omega)] | (simp only [↓reduceIte]; done) | simp only [↓reduceIte])); try rfl)
      simp only [untok_segA, rowsA_len, factsA_len, rowsA_nil, factsA_nil, List.length_append, Int.le_refl, room, i64_0, nx, EVL, ite_toInt, ER, EW, Wv_nil, i6, i64, str, boo, EA, EL, ↓EP, binK, pickK, loadK, storeK, EO, Key.av, Cell.av, Fact.av, Row.av, ↓EC, ↓EK, EE, EB, ↓aBuiltin, ↓aAppend, rowsOf, ↓aLen, ↓aSlice, bnd, ↓aIndexAddr, ↓aIndex, ↓aBuild, ↓aBuildSlice, fillL, ↓aMakeSlice, two, ↓opt_some, ↓opt_none, ldAV, aggT, szOf, zeroAV, tys, unders, chunks, spliceL, Cfg.ro, detOp, gval, resAll, resOne, packAV, ↓reduceIte, seval, reduceCtorEq, Int.cast_ofNat_Int, exists_const, implies_true, decide_true, decide_false, if_true, if_false]
      refine round_next (is ++ [i]) ⟨hn2, hlt2⟩ (by simp only [List.length_append, List.length_cons, List.length_nil]; omega) (AEnt_drop rfl rfl (Nat.le_succ _) ?_ (Wf_upd ((hwf.base _).new ?_) (by simp only [AState.new]; omega) (by simp only [AState.new]; omega)) (EntB_all ?_))
      · rw [keysAt_snoc hp]
        refine ⟨by simp only [upd, EO]; omega, fun id hid => ?_⟩
        simp only [upd, AState.set, AState.new] at hid ⊢
        (repeat' split) <;> first | rfl | omega
      · show m < s.next + 1; omega
      simp only [untok_segA, rowsA_len, factsA_len, rowsA_nil, factsA_nil, List.length_append, Int.le_refl, room, i64_0, nx, EVL, ite_toInt, ER, EW, Wv_nil, i6, i64, str, boo, EA, EL, ↓EP, binK, pickK, loadK, storeK, EO, Key.av, Cell.av, Fact.av, Row.av, ↓EC, ↓EK, EE, EB, ↓aBuiltin, ↓aAppend, rowsOf, ↓aLen, ↓aSlice, bnd, ↓aIndexAddr, ↓aIndex, ↓aBuild, ↓aBuildSlice, fillL, ↓aMakeSlice, two, ↓opt_some, ↓opt_none, ldAV, aggT, szOf, zeroAV, tys, unders, chunks, spliceL, Cfg.ro, detOp, gval, resAll, resOne, packAV, ↓reduceIte, seval, reduceCtorEq, Int.cast_ofNat_Int, exists_const, implies_true, decide_true, decide_false, if_true, if_false]
      simp only [Bel_ptr, Bel_ep, Bel_mp, List.mem_cons, List.not_mem_nil, or_false, forall_eq, upd, EO]
      exact ⟨.yl (by omega), by omega, by omega⟩

end Go.Proofs
