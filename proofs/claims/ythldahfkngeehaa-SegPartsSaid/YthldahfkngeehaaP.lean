/- Part of the proof of a law of this seat: the texts S18 S19 S20, in this order. -/
import Derived.Test.YthldahfkngeehaaM
import Derived.Test.YthldahfkngeehaaE
namespace Go.Proofs
open Go Go.Av Go.Sort
set_option linter.unusedSimpArgs false
set_option linter.unusedVariables false
set_option maxRecDepth 30000
set_option maxHeartbeats 2000000

theorem keysA_nil : keysA [] = [] := rfl

/-! A map by keys, as a list -/
abbrev KM := List (Key × Cell)
def KM.find (m : KM) (k : Key) : Option Nat := m.findIdx? fun p => decide (p.1 = k)
def KM.get (m : KM) (k : Key) : Cell := match m.find k with | some i => ((m[i]?).map (·.2)).getD zeroC | none => zeroC
def KM.put (m : KM) (k : Key) (c : Cell) : KM := match m.find k with | some i => m.set i (k, c) | none => m ++ [(k, c)]

theorem eqAV_key (c d : Key) : eqAV Try.prog 20 39 (.agg c.av) (.agg d.av) = some (decide (c = d)) := by
  rw [← key_beq]
  kernel_rfl
theorem ck_key (c : Key) : ckAV Try.prog 20 39 (.agg c.av) = true := by kernel_rfl
theorem bits_key (c : Key) : bitsAV (.agg c.av) = true := rfl

theorem KM.find_some {m : KM} {k : Key} {i : Nat} (h : m.find k = some i) : ∃ c, m[i]? = some (k, c) ∧ ∀ j q, j < i → m[j]? = some q → q.1 ≠ k := by
  obtain ⟨hlt, h1, h2⟩ := List.findIdx?_eq_some_iff_getElem.1 h
  simp only [decide_eq_true_eq] at h1 h2
  refine ⟨m[i].2, by rw [List.getElem?_eq_getElem hlt, ← h1], fun j q hj hq => ?_⟩
  have := h2 j hj
  obtain ⟨hjl, rfl⟩ := List.getElem?_eq_some_iff.1 hq
  simpa using this
theorem KM.find_none {m : KM} {k : Key} (h : m.find k = none) : ∀ q ∈ m, q.1 ≠ k := by
  intro q hq
  have := List.findIdx?_eq_none_iff.1 h q hq
  simpa using this

theorem mfind (m : KM) (k : Key) : MFind Try.prog 39 (.agg k.av) (entA m) (m.find k) := by
  cases h : m.find k with
  | some i =>
    obtain ⟨c, h1, h2⟩ := KM.find_some h
    refine ⟨(.agg k.av, .agg c.av), by simp [entA, h1], by rw [eqAV_key]; simp, fun j q hj hq => ?_⟩
    obtain ⟨p, hp, rfl⟩ := entA_get hq
    rw [eqAV_key]
    have := h2 j p hj hp
    simp [Ne.symm this]
  | none =>
    intro j q hq
    obtain ⟨p, hp, rfl⟩ := entA_get hq
    rw [eqAV_key]
    have := KM.find_none h p (List.mem_of_getElem? hp)
    simp [Ne.symm this]

theorem zero44 : zeroAV Try.prog 44 = some (.agg zeroC.av) := by simp only [zeroAV, tys, Option.bind_some]; rfl

theorem mval (m : KM) (k : Key) : mGet Try.prog 44 (entA m) (m.find k) = some (.agg (m.get k).av) := by
  simp only [KM.get]
  cases h : m.find k with
  | some i =>
    obtain ⟨c, h1, _⟩ := KM.find_some h
    simp [mGet, entA, h1]
  | none => exact zero44

theorem mput (m : KM) (k : Key) (c : Cell) : mPut (entA m) (.agg k.av) (.agg c.av) (m.find k) = entA (m.put k c) := by
  simp only [KM.put]
  cases h : m.find k with
  | some i => simp [mPut, entA, List.map_set]
  | none => simp [mPut, entA]
theorem msame (m : KM) (k : Key) : ∀ i, m.find k = some i → ((entA m)[i]?).map (·.1) = some (.agg k.av) := by
  intro i h
  obtain ⟨c, h1, _⟩ := KM.find_some h
  simp [entA, h1]

theorem KM.put_len (m : KM) (k : Key) (c : Cell) : (m.put k c).length ≤ m.length + 1 := by
  simp only [KM.put]; split <;> simp
theorem KM.put_keys (m : KM) (k : Key) (c : Cell) : (m.put k c).map (·.1) = if m.find k = none then m.map (·.1) ++ [k] else m.map (·.1) := by
  simp only [KM.put]
  cases h : m.find k with
  | some i =>
    obtain ⟨c', h1, _⟩ := KM.find_some h
    simp only [List.map_set, reduceCtorEq, if_false]
    apply List.ext_getElem? 
    intro j
    by_cases e : i = j
    · subst e
      have hl := (List.getElem?_eq_some_iff.1 h1).1
      rw [List.getElem?_set_self (by simpa using hl)]
      simp [h1]
    · rw [List.getElem?_set_ne e]
  | none => simp

/-- Facts, one by one. -/
def mAll : KM → List Fact → Option KM
  | m, [] => some m
  | m, f :: l => (mergeC (m.get f.k) ⟨1, f.v, f.v, f.v⟩).bind fun c => mAll (m.put f.k c) l

def mRows (m : KM) : List Row := (sortK (m.map (·.1))).map fun k => ⟨k, m.get k⟩

def resO : Option (List Row) → AV
  | some l => resS (some l) 0
  | none => resS none 6

def zeroF : Fact := ⟨⟨0, .empty, .empty, .empty, .empty⟩, 0⟩

def zeroK : Key := ⟨0, .empty, .empty, .empty, .empty⟩
/-- The first rows. -/
def KR (m : KM) (j : Nat) : List Row := ((sortK (m.map (·.1))).take j).map fun k => ⟨k, m.get k⟩
theorem sortK_len (m : KM) : (sortK (m.map (·.1))).length = m.length := by rw [(sortK_perm _).length_eq, List.length_map]

theorem KR_len {m : KM} {j : Nat} (h : j ≤ m.length) : (KR m j).length = j := by simp [KR, sortK_len]; omega
theorem KR_succ {m : KM} {j : Nat} {x : Key} (h : (sortK (m.map (·.1)))[j]? = some x) : KR m (j + 1) = KR m j ++ [⟨x, m.get x⟩] := by simp [KR, take_get h]
theorem KR_all (m : KM) : KR m m.length = mRows m := by
  rw [KR, mRows, List.take_of_length_le (by rw [sortK_len]; exact Nat.le_refl _)]
theorem entA_bel (n : Nat) (m : KM) : OBel n (.map (entA m)) := by
  intro p hp
  simp only [entA, List.mem_map] at hp
  obtain ⟨q, _, rfl⟩ := hp
  refine ⟨Bel_agg.2 fun c hc => ?_, Bel_agg.2 fun c hc => ?_⟩
  · simp only [Key.av, List.mem_cons, List.not_mem_nil, or_false] at hc
    rcases hc with rfl | rfl | rfl | rfl | rfl <;> exact .v _
  · simp only [Cell.av, List.mem_cons, List.not_mem_nil, or_false] at hc
    rcases hc with rfl | rfl | rfl | rfl <;> exact .v _

theorem wfS {s : AState} (hwf : s.Wf) (m : KM) (l : List Row) (n : Nat) : AState.Wf (AState.new (AState.new (AState.new { s with base := ⟨s.next, []⟩ } (.map (entA m))) (.cells [.sl 9 (rowsA l) (.row (s.next + 2) n)])) (.row n)) := by
  intro id o ho
  simp only [AState.new] at ho
  split at ho
  · rename_i e; subst e; cases ho; exact ⟨by show s.next + 1 + 1 < s.next + 3; omega, trivial⟩
  · split at ho
    · rename_i e; subst e; cases ho
      refine ⟨by show s.next + 1 < s.next + 3; omega, ?_⟩
      intro c hc
      simp only [List.mem_cons, List.not_mem_nil, or_false] at hc
      subst hc
      exact Bel_sl.2 ⟨of_eq_true (rowsA_bel _ _), (by show s.next + 2 < s.next + 3; omega)⟩
    · split at ho
      · rename_i e; subst e; cases ho; exact ⟨by show s.next < s.next + 3; omega, entA_bel _ _⟩
      · obtain ⟨h1, h2⟩ := hwf id o ho
        exact ⟨Nat.lt_of_lt_of_le h1 (Nat.le_add_right _ 3), h2.mono (Nat.le_add_right _ 3)⟩

theorem of_seg (l : List Fact) (hl : l.length ≤ 1000) : APure Try.prog 15 [.sl 6 (factsA l) .none] (resO ((mAll [] l).map mRows)) := by
  intro s
  generalize hr : mAll [] l = r
  refine ACalls_body (C := ⟨[]⟩) (c := Try.f15.body.getD .skip) (rs := [.tmp 2, .tmp 3]) Try.func15 (by kernel_rfl) (by kernel_rfl) (by kernel_rfl) (Nat.le_of_ble_eq_true rfl) (by kernel_rfl) fun hwf hbel => ?_
  simp only [Try.f15, untok_segA, rowsA_len, factsA_len, rowsA_nil, factsA_nil, List.length_append, Int.le_refl, room, i64_0, nx, keysA_len, keysA_nil, EVL, ite_toInt, ER, EW, Wv_nil, i6, i64, str, boo, EA, EL, ↓EP, binK, pickK, loadK, storeK, EO, Key.av, Cell.av, Fact.av, Row.av, ↓EC, ↓EK, EE, EB, ↓aBuiltin, ↓aAppend, rowsOf, ↓aLen, ↓aSlice, bnd, ↓aIndexAddr, ↓aIndex, ↓aBuild, ↓aBuildSlice, fillL, ↓aMakeSlice, two, ↓opt_some, ↓opt_none, ldAV, aggT, szOf, zeroAV, tys, unders, chunks, spliceL, Cfg.ro, detOp, gval, resAll, resOne, packAV, ↓reduceIte, seval, reduceCtorEq, Int.cast_ofNat_Int, exists_const, implies_true, decide_true, decide_false, if_true, if_false]
  refine makeMap_law ?_
  simp only [untok_segA, rowsA_len, factsA_len, rowsA_nil, factsA_nil, List.length_append, Int.le_refl, room, i64_0, nx, keysA_len, keysA_nil, EVL, ite_toInt, ER, EW, Wv_nil, i6, i64, str, boo, EA, EL, ↓EP, binK, pickK, loadK, storeK, EO, Key.av, Cell.av, Fact.av, Row.av, ↓EC, ↓EK, EE, EB, ↓aBuiltin, ↓aAppend, rowsOf, ↓aLen, ↓aSlice, bnd, ↓aIndexAddr, ↓aIndex, ↓aBuild, ↓aBuildSlice, fillL, ↓aMakeSlice, two, ↓opt_some, ↓opt_none, ldAV, aggT, szOf, zeroAV, tys, unders, chunks, spliceL, Cfg.ro, detOp, gval, resAll, resOne, packAV, ↓reduceIte, seval, reduceCtorEq, Int.cast_ofNat_Int, exists_const, implies_true, decide_true, decide_false, if_true, if_false]
  refine ALoop_inv (ι := Nat × KM) (fun i => i.1 ≤ l.length ∧ i.2.length ≤ i.1 ∧ r = mAll i.2 (l.drop i.1)) (fun i => envL [(4, .mp s.next), (13, .sl 6 (factsA l) .none), (14, i64 l.length), (15, i64 i.1)]) (fun i => AState.new { s with base := ⟨s.next, []⟩ } (.map (entA i.2))) (fun i => l.length - i.1) (0, []) ⟨Nat.zero_le _, Nat.le_refl _, by rw [← hr]; rfl⟩ (ent rfl ?_) (fun i hi => ?_)
  · simp only [untok_segA, rowsA_len, factsA_len, rowsA_nil, factsA_nil, List.length_append, Int.le_refl, room, i64_0, nx, keysA_len, keysA_nil, EVL, ite_toInt, ER, EW, Wv_nil, i6, i64, str, boo, EA, EL, ↓EP, binK, pickK, loadK, storeK, EO, Key.av, Cell.av, Fact.av, Row.av, ↓EC, ↓EK, EE, EB, ↓aBuiltin, ↓aAppend, rowsOf, ↓aLen, ↓aSlice, bnd, ↓aIndexAddr, ↓aIndex, ↓aBuild, ↓aBuildSlice, fillL, ↓aMakeSlice, two, ↓opt_some, ↓opt_none, ldAV, aggT, szOf, zeroAV, tys, unders, chunks, spliceL, Cfg.ro, detOp, gval, resAll, resOne, packAV, ↓reduceIte, seval, reduceCtorEq, Int.cast_ofNat_Int, exists_const, implies_true, decide_true, decide_false, if_true, if_false]
  · obtain ⟨i, m⟩ := i
    obtain ⟨hi, hml, hs⟩ := hi
    simp only at hi hml hs
    by_cases hlt : i < l.length
    · obtain ⟨x, hx⟩ : ∃ x, l[i]? = some x := ⟨_, List.getElem?_eq_getElem hlt⟩
      have gx := factsA_get hx
      rw [drop_get hx, mAll] at hs
      have hc : ((i : Int) < (l.length : Int)) := by omega
      have h0 : (0 : Int) ≤ (i : Int) := by omega
      have hw : IntKind.i64.wrap ((i : Int) + 1) = (i : Int) + 1 := wrap_in (by omega) (by omega)
      simp only [hc, h0, gx, untok_segA, rowsA_len, factsA_len, rowsA_nil, factsA_nil, List.length_append, Int.le_refl, room, i64_0, nx, keysA_len, keysA_nil, EVL, ite_toInt, ER, EW, Wv_nil, i6, i64, str, boo, EA, EL, ↓EP, binK, pickK, loadK, storeK, EO, Key.av, Cell.av, Fact.av, Row.av, ↓EC, ↓EK, EE, EB, ↓aBuiltin, ↓aAppend, rowsOf, ↓aLen, ↓aSlice, bnd, ↓aIndexAddr, ↓aIndex, ↓aBuild, ↓aBuildSlice, fillL, ↓aMakeSlice, two, ↓opt_some, ↓opt_none, ldAV, aggT, szOf, zeroAV, tys, unders, chunks, spliceL, Cfg.ro, detOp, gval, resAll, resOne, packAV, ↓reduceIte, seval, reduceCtorEq, Int.cast_ofNat_Int, exists_const, implies_true, decide_true, decide_false, if_true, if_false]
      have hm := merge_spec (m.get x.k) ⟨1, x.v, x.v, x.v⟩
      cases hmc : mergeC (m.get x.k) ⟨1, x.v, x.v, x.v⟩ with
      | none =>
        rw [hmc] at hm
        refine aDraw_chainS [(AState.set (AState.new (AState.new { s with base := ⟨s.next, []⟩ } (.map (entA m))) (.cells zeroF.av)) (s.next + 1) (.cells x.av)), AState.new (AState.set (AState.new (AState.new { s with base := ⟨s.next, []⟩ } (.map (entA m))) (.cells zeroF.av)) (s.next + 1) (.cells x.av)) (.cells zeroC.av), AState.set (AState.new (AState.set (AState.new (AState.new { s with base := ⟨s.next, []⟩ } (.map (entA m))) (.cells zeroF.av)) (s.next + 1) (.cells x.av)) (.cells zeroC.av)) (s.next + 2) (.cells zeroC.av)] [some 9, some 9, some 9, some 9, some 9, some 9, some 9, some 9, some 9, some 9, some 9, none, none, some 9] mixed (by kernel_rfl) (by kernel_rfl) (by kernel_rfl) rfl ?_; simp only [zeroC, h0, gx,  ↓EX, EY, ↓EH, untok_segA, rowsA_len, factsA_len, rowsA_nil, factsA_nil, List.length_append, Int.le_refl, room, i64_0, nx, keysA_len, keysA_nil, EVL, ite_toInt, ER, EW, Wv_nil, i6, i64, str, boo, EA, EL, ↓EP, binK, pickK, loadK, storeK, EO, Key.av, Cell.av, Fact.av, Row.av, ↓EC, ↓EK, EE, EB, ↓aBuiltin, ↓aAppend, rowsOf, ↓aLen, ↓aSlice, bnd, ↓aIndexAddr, ↓aIndex, ↓aBuild, ↓aBuildSlice, fillL, ↓aMakeSlice, two, ↓opt_some, ↓opt_none, ldAV, aggT, szOf, zeroAV, tys, unders, chunks, spliceL, Cfg.ro, detOp, gval, resAll, resOne, packAV, ↓reduceIte, seval, reduceCtorEq, Int.cast_ofNat_Int, exists_const, implies_true, decide_true, decide_false, if_true, if_false]
        refine qlookC (id := s.next) (es := entA m) (v := .agg (m.get x.k).av) (m.find x.k) u85 u39 rfl rfl (ck_key x.k) (mfind m x.k) (mval m x.k) (fun st hst => ?_) ?_
        · simp only [List.mem_cons, List.not_mem_nil, or_false] at hst
          rcases hst with rfl | rfl | rfl <;> (simp only [upd, AState.set, AState.new]; (repeat (first | rw [if_neg (by omega)] | rw [if_pos (by omega)] | (simp only [↓reduceIte]; done) | simp only [↓reduceIte])); try rfl)
        simp only [↓EX, EY, ↓EH, untok_segA, rowsA_len, factsA_len, rowsA_nil, factsA_nil, List.length_append, Int.le_refl, room, i64_0, nx, keysA_len, keysA_nil, EVL, ite_toInt, ER, EW, Wv_nil, i6, i64, str, boo, EA, EL, ↓EP, binK, pickK, loadK, storeK, EO, Key.av, Cell.av, Fact.av, Row.av, ↓EC, ↓EK, EE, EB, ↓aBuiltin, ↓aAppend, rowsOf, ↓aLen, ↓aSlice, bnd, ↓aIndexAddr, ↓aIndex, ↓aBuild, ↓aBuildSlice, fillL, ↓aMakeSlice, two, ↓opt_some, ↓opt_none, ldAV, aggT, szOf, zeroAV, tys, unders, chunks, spliceL, Cfg.ro, detOp, gval, resAll, resOne, packAV, ↓reduceIte, seval, reduceCtorEq, Int.cast_ofNat_Int, exists_const, implies_true, decide_true, decide_false, if_true, if_false]
        refine qcallC (of_spec x.v) rfl (by simp only [untok_segA, rowsA_len, factsA_len, rowsA_nil, factsA_nil, List.length_append, Int.le_refl, room, i64_0, nx, keysA_len, keysA_nil, EVL, ite_toInt, ER, EW, Wv_nil, i6, i64, str, boo, EA, EL, ↓EP, binK, pickK, loadK, storeK, EO, Key.av, Cell.av, Fact.av, Row.av, ↓EC, ↓EK, EE, EB, ↓aBuiltin, ↓aAppend, rowsOf, ↓aLen, ↓aSlice, bnd, ↓aIndexAddr, ↓aIndex, ↓aBuild, ↓aBuildSlice, fillL, ↓aMakeSlice, two, ↓opt_some, ↓opt_none, ldAV, aggT, szOf, zeroAV, tys, unders, chunks, spliceL, Cfg.ro, detOp, gval, resAll, resOne, packAV, ↓reduceIte, seval, reduceCtorEq, Int.cast_ofNat_Int, exists_const, implies_true, decide_true, decide_false, if_true, if_false] <;> rfl) ?_; simp only [↓EX, EY, ↓EH, untok_segA, rowsA_len, factsA_len, rowsA_nil, factsA_nil, List.length_append, Int.le_refl, room, i64_0, nx, keysA_len, keysA_nil, EVL, ite_toInt, ER, EW, Wv_nil, i6, i64, str, boo, EA, EL, ↓EP, binK, pickK, loadK, storeK, EO, Key.av, Cell.av, Fact.av, Row.av, ↓EC, ↓EK, EE, EB, ↓aBuiltin, ↓aAppend, rowsOf, ↓aLen, ↓aSlice, bnd, ↓aIndexAddr, ↓aIndex, ↓aBuild, ↓aBuildSlice, fillL, ↓aMakeSlice, two, ↓opt_some, ↓opt_none, ldAV, aggT, szOf, zeroAV, tys, unders, chunks, spliceL, Cfg.ro, detOp, gval, resAll, resOne, packAV, ↓reduceIte, seval, reduceCtorEq, Int.cast_ofNat_Int, exists_const, implies_true, decide_true, decide_false, if_true, if_false]
        refine qcallC (hm) rfl (by simp only [untok_segA, rowsA_len, factsA_len, rowsA_nil, factsA_nil, List.length_append, Int.le_refl, room, i64_0, nx, keysA_len, keysA_nil, EVL, ite_toInt, ER, EW, Wv_nil, i6, i64, str, boo, EA, EL, ↓EP, binK, pickK, loadK, storeK, EO, Key.av, Cell.av, Fact.av, Row.av, ↓EC, ↓EK, EE, EB, ↓aBuiltin, ↓aAppend, rowsOf, ↓aLen, ↓aSlice, bnd, ↓aIndexAddr, ↓aIndex, ↓aBuild, ↓aBuildSlice, fillL, ↓aMakeSlice, two, ↓opt_some, ↓opt_none, ldAV, aggT, szOf, zeroAV, tys, unders, chunks, spliceL, Cfg.ro, detOp, gval, resAll, resOne, packAV, ↓reduceIte, seval, reduceCtorEq, Int.cast_ofNat_Int, exists_const, implies_true, decide_true, decide_false, if_true, if_false] <;> rfl) ?_; simp only [↓EX, EY, ↓EH, untok_segA, rowsA_len, factsA_len, rowsA_nil, factsA_nil, List.length_append, Int.le_refl, room, i64_0, nx, keysA_len, keysA_nil, EVL, ite_toInt, ER, EW, Wv_nil, i6, i64, str, boo, EA, EL, ↓EP, binK, pickK, loadK, storeK, EO, Key.av, Cell.av, Fact.av, Row.av, ↓EC, ↓EK, EE, EB, ↓aBuiltin, ↓aAppend, rowsOf, ↓aLen, ↓aSlice, bnd, ↓aIndexAddr, ↓aIndex, ↓aBuild, ↓aBuildSlice, fillL, ↓aMakeSlice, two, ↓opt_some, ↓opt_none, ldAV, aggT, szOf, zeroAV, tys, unders, chunks, spliceL, Cfg.ro, detOp, gval, resAll, resOne, packAV, ↓reduceIte, seval, reduceCtorEq, Int.cast_ofNat_Int, exists_const, implies_true, decide_true, decide_false, if_true, if_false]
        simp only [resC, zeroC, ↓EX, EY, ↓EH, untok_segA, rowsA_len, factsA_len, rowsA_nil, factsA_nil, List.length_append, Int.le_refl, room, i64_0, nx, keysA_len, keysA_nil, EVL, ite_toInt, ER, EW, Wv_nil, i6, i64, str, boo, EA, EL, ↓EP, binK, pickK, loadK, storeK, EO, Key.av, Cell.av, Fact.av, Row.av, ↓EC, ↓EK, EE, EB, ↓aBuiltin, ↓aAppend, rowsOf, ↓aLen, ↓aSlice, bnd, ↓aIndexAddr, ↓aIndex, ↓aBuild, ↓aBuildSlice, fillL, ↓aMakeSlice, two, ↓opt_some, ↓opt_none, ldAV, aggT, szOf, zeroAV, tys, unders, chunks, spliceL, Cfg.ro, detOp, gval, resAll, resOne, packAV, ↓reduceIte, seval, reduceCtorEq, Int.cast_ofNat_Int, exists_const, implies_true, decide_true, decide_false, if_true, if_false]
        rw [show r = none by rw [hs, hmc]; rfl]
        exact Ret_pure (l := [segA none, i64 6]) (.inr rfl) rfl (by simp only [untok_segA, rowsA_len, factsA_len, rowsA_nil, factsA_nil, List.length_append, Int.le_refl, room, i64_0, nx, keysA_len, keysA_nil, EVL, ite_toInt, ER, EW, Wv_nil, i6, i64, str, boo, EA, EL, ↓EP, binK, pickK, loadK, storeK, EO, Key.av, Cell.av, Fact.av, Row.av, ↓EC, ↓EK, EE, EB, ↓aBuiltin, ↓aAppend, rowsOf, ↓aLen, ↓aSlice, bnd, ↓aIndexAddr, ↓aIndex, ↓aBuild, ↓aBuildSlice, fillL, ↓aMakeSlice, two, ↓opt_some, ↓opt_none, ldAV, aggT, szOf, zeroAV, tys, unders, chunks, spliceL, Cfg.ro, detOp, gval, resAll, resOne, packAV, ↓reduceIte, seval, reduceCtorEq, Int.cast_ofNat_Int, exists_const, implies_true, decide_true, decide_false, if_true, if_false] <;> rfl) rfl (by first | exact Keeps.base _ _ | (repeat (first | exact Keeps.base _ _ | refine Keeps.new ?_ _ | refine Keeps.set ?_ (by first | (simp; done) | omega | (simp only [EO]; omega)) _))) (by show Bel _ (packAV [segA none, i64 6]); exact (by first | exact .v _ | (simp only [packAV, rowsA_bel, factsA_bel, segA_bel, resS, if_true, if_false, Bool.false_eq_true, resC, Key.av, Cell.av, Fact.av, Row.av, zeroC, Bel_v, Bel_tup, Bel_agg, List.forall_mem_map, List.map_nil, false_implies, implies_true, List.mem_cons, List.not_mem_nil, or_false, forall_eq_or_imp, forall_eq, and_self, true_and, and_true, Bel_sl, Bel_ep, tokBel, implies_true])))
      | some c =>
        rw [hmc] at hm
        refine aDraw_chainS [(AState.set (AState.new (AState.new { s with base := ⟨s.next, []⟩ } (.map (entA m))) (.cells zeroF.av)) (s.next + 1) (.cells x.av)), AState.new (AState.set (AState.new (AState.new { s with base := ⟨s.next, []⟩ } (.map (entA m))) (.cells zeroF.av)) (s.next + 1) (.cells x.av)) (.cells zeroC.av), AState.set (AState.new (AState.set (AState.new (AState.new { s with base := ⟨s.next, []⟩ } (.map (entA m))) (.cells zeroF.av)) (s.next + 1) (.cells x.av)) (.cells zeroC.av)) (s.next + 2) (.cells c.av)] [some 9, some 9, some 9, some 9, some 9, some 9, some 9, some 9, some 9, some 9, some 9, none, none, some 9] mixed (by kernel_rfl) (by kernel_rfl) (by kernel_rfl) rfl ?_; simp only [zeroC, h0, gx,  ↓EX, EY, ↓EH, untok_segA, rowsA_len, factsA_len, rowsA_nil, factsA_nil, List.length_append, Int.le_refl, room, i64_0, nx, keysA_len, keysA_nil, EVL, ite_toInt, ER, EW, Wv_nil, i6, i64, str, boo, EA, EL, ↓EP, binK, pickK, loadK, storeK, EO, Key.av, Cell.av, Fact.av, Row.av, ↓EC, ↓EK, EE, EB, ↓aBuiltin, ↓aAppend, rowsOf, ↓aLen, ↓aSlice, bnd, ↓aIndexAddr, ↓aIndex, ↓aBuild, ↓aBuildSlice, fillL, ↓aMakeSlice, two, ↓opt_some, ↓opt_none, ldAV, aggT, szOf, zeroAV, tys, unders, chunks, spliceL, Cfg.ro, detOp, gval, resAll, resOne, packAV, ↓reduceIte, seval, reduceCtorEq, Int.cast_ofNat_Int, exists_const, implies_true, decide_true, decide_false, if_true, if_false]
        refine qlookC (id := s.next) (es := entA m) (v := .agg (m.get x.k).av) (m.find x.k) u85 u39 rfl rfl (ck_key x.k) (mfind m x.k) (mval m x.k) (fun st hst => ?_) ?_
        · simp only [List.mem_cons, List.not_mem_nil, or_false] at hst
          rcases hst with rfl | rfl | rfl <;> (simp only [upd, AState.set, AState.new]; (repeat (first | rw [if_neg (by omega)] | rw [if_pos (by omega)] | (simp only [↓reduceIte]; done) | simp only [↓reduceIte])); try rfl)
        simp only [↓EX, EY, ↓EH, untok_segA, rowsA_len, factsA_len, rowsA_nil, factsA_nil, List.length_append, Int.le_refl, room, i64_0, nx, keysA_len, keysA_nil, EVL, ite_toInt, ER, EW, Wv_nil, i6, i64, str, boo, EA, EL, ↓EP, binK, pickK, loadK, storeK, EO, Key.av, Cell.av, Fact.av, Row.av, ↓EC, ↓EK, EE, EB, ↓aBuiltin, ↓aAppend, rowsOf, ↓aLen, ↓aSlice, bnd, ↓aIndexAddr, ↓aIndex, ↓aBuild, ↓aBuildSlice, fillL, ↓aMakeSlice, two, ↓opt_some, ↓opt_none, ldAV, aggT, szOf, zeroAV, tys, unders, chunks, spliceL, Cfg.ro, detOp, gval, resAll, resOne, packAV, ↓reduceIte, seval, reduceCtorEq, Int.cast_ofNat_Int, exists_const, implies_true, decide_true, decide_false, if_true, if_false]
        refine qcallC (of_spec x.v) rfl (by simp only [untok_segA, rowsA_len, factsA_len, rowsA_nil, factsA_nil, List.length_append, Int.le_refl, room, i64_0, nx, keysA_len, keysA_nil, EVL, ite_toInt, ER, EW, Wv_nil, i6, i64, str, boo, EA, EL, ↓EP, binK, pickK, loadK, storeK, EO, Key.av, Cell.av, Fact.av, Row.av, ↓EC, ↓EK, EE, EB, ↓aBuiltin, ↓aAppend, rowsOf, ↓aLen, ↓aSlice, bnd, ↓aIndexAddr, ↓aIndex, ↓aBuild, ↓aBuildSlice, fillL, ↓aMakeSlice, two, ↓opt_some, ↓opt_none, ldAV, aggT, szOf, zeroAV, tys, unders, chunks, spliceL, Cfg.ro, detOp, gval, resAll, resOne, packAV, ↓reduceIte, seval, reduceCtorEq, Int.cast_ofNat_Int, exists_const, implies_true, decide_true, decide_false, if_true, if_false] <;> rfl) ?_; simp only [↓EX, EY, ↓EH, untok_segA, rowsA_len, factsA_len, rowsA_nil, factsA_nil, List.length_append, Int.le_refl, room, i64_0, nx, keysA_len, keysA_nil, EVL, ite_toInt, ER, EW, Wv_nil, i6, i64, str, boo, EA, EL, ↓EP, binK, pickK, loadK, storeK, EO, Key.av, Cell.av, Fact.av, Row.av, ↓EC, ↓EK, EE, EB, ↓aBuiltin, ↓aAppend, rowsOf, ↓aLen, ↓aSlice, bnd, ↓aIndexAddr, ↓aIndex, ↓aBuild, ↓aBuildSlice, fillL, ↓aMakeSlice, two, ↓opt_some, ↓opt_none, ldAV, aggT, szOf, zeroAV, tys, unders, chunks, spliceL, Cfg.ro, detOp, gval, resAll, resOne, packAV, ↓reduceIte, seval, reduceCtorEq, Int.cast_ofNat_Int, exists_const, implies_true, decide_true, decide_false, if_true, if_false]
        refine qcallC (hm) rfl (by simp only [untok_segA, rowsA_len, factsA_len, rowsA_nil, factsA_nil, List.length_append, Int.le_refl, room, i64_0, nx, keysA_len, keysA_nil, EVL, ite_toInt, ER, EW, Wv_nil, i6, i64, str, boo, EA, EL, ↓EP, binK, pickK, loadK, storeK, EO, Key.av, Cell.av, Fact.av, Row.av, ↓EC, ↓EK, EE, EB, ↓aBuiltin, ↓aAppend, rowsOf, ↓aLen, ↓aSlice, bnd, ↓aIndexAddr, ↓aIndex, ↓aBuild, ↓aBuildSlice, fillL, ↓aMakeSlice, two, ↓opt_some, ↓opt_none, ldAV, aggT, szOf, zeroAV, tys, unders, chunks, spliceL, Cfg.ro, detOp, gval, resAll, resOne, packAV, ↓reduceIte, seval, reduceCtorEq, Int.cast_ofNat_Int, exists_const, implies_true, decide_true, decide_false, if_true, if_false] <;> rfl) ?_; simp only [↓EX, EY, ↓EH, untok_segA, rowsA_len, factsA_len, rowsA_nil, factsA_nil, List.length_append, Int.le_refl, room, i64_0, nx, keysA_len, keysA_nil, EVL, ite_toInt, ER, EW, Wv_nil, i6, i64, str, boo, EA, EL, ↓EP, binK, pickK, loadK, storeK, EO, Key.av, Cell.av, Fact.av, Row.av, ↓EC, ↓EK, EE, EB, ↓aBuiltin, ↓aAppend, rowsOf, ↓aLen, ↓aSlice, bnd, ↓aIndexAddr, ↓aIndex, ↓aBuild, ↓aBuildSlice, fillL, ↓aMakeSlice, two, ↓opt_some, ↓opt_none, ldAV, aggT, szOf, zeroAV, tys, unders, chunks, spliceL, Cfg.ro, detOp, gval, resAll, resOne, packAV, ↓reduceIte, seval, reduceCtorEq, Int.cast_ofNat_Int, exists_const, implies_true, decide_true, decide_false, if_true, if_false]
        simp only [resC, zeroC, ↓EX, EY, ↓EH, untok_segA, rowsA_len, factsA_len, rowsA_nil, factsA_nil, List.length_append, Int.le_refl, room, i64_0, nx, keysA_len, keysA_nil, EVL, ite_toInt, ER, EW, Wv_nil, i6, i64, str, boo, EA, EL, ↓EP, binK, pickK, loadK, storeK, EO, Key.av, Cell.av, Fact.av, Row.av, ↓EC, ↓EK, EE, EB, ↓aBuiltin, ↓aAppend, rowsOf, ↓aLen, ↓aSlice, bnd, ↓aIndexAddr, ↓aIndex, ↓aBuild, ↓aBuildSlice, fillL, ↓aMakeSlice, two, ↓opt_some, ↓opt_none, ldAV, aggT, szOf, zeroAV, tys, unders, chunks, spliceL, Cfg.ro, detOp, gval, resAll, resOne, packAV, ↓reduceIte, seval, reduceCtorEq, Int.cast_ofNat_Int, exists_const, implies_true, decide_true, decide_false, if_true, if_false]
        refine mapUpdate_law (id := s.next) (es := entA m) (key := .agg x.k.av) (val := .agg c.av) (m.find x.k) u85 u39 rfl rfl rfl ?_ (ck_key x.k) (mfind m x.k) (bits_key x.k) (msame m x.k) ?_
        · (simp only [upd, AState.set, AState.new]; (repeat (first | rw [if_neg (by omega)] | rw [if_pos (by omega)] | (simp only [↓reduceIte]; done) | simp only [↓reduceIte])); try rfl)
        rw [mput]
        simp only [hw, untok_segA, rowsA_len, factsA_len, rowsA_nil, factsA_nil, List.length_append, Int.le_refl, room, i64_0, nx, keysA_len, keysA_nil, EVL, ite_toInt, ER, EW, Wv_nil, i6, i64, str, boo, EA, EL, ↓EP, binK, pickK, loadK, storeK, EO, Key.av, Cell.av, Fact.av, Row.av, ↓EC, ↓EK, EE, EB, ↓aBuiltin, ↓aAppend, rowsOf, ↓aLen, ↓aSlice, bnd, ↓aIndexAddr, ↓aIndex, ↓aBuild, ↓aBuildSlice, fillL, ↓aMakeSlice, two, ↓opt_some, ↓opt_none, ldAV, aggT, szOf, zeroAV, tys, unders, chunks, spliceL, Cfg.ro, detOp, gval, resAll, resOne, packAV, ↓reduceIte, seval, reduceCtorEq, Int.cast_ofNat_Int, exists_const, implies_true, decide_true, decide_false, if_true, if_false]
        have hpl := m.put_len x.k c
        refine round_next (i + 1, m.put x.k c) ⟨by simp only; omega, by simp only; omega, by rw [hs, hmc]; rfl⟩ (by simp only; omega) (AEnt_drop rfl rfl (Nat.le_succ _) ?_ ((hwf.base _).new ?_) (EntB_all ?_))
        · refine ⟨by simp only [EO]; omega, fun id hid => ?_⟩
          simp only [AState.set, AState.new] at hid ⊢
          (repeat' split) <;> first | rfl | omega
        · exact entA_bel _ _
        simp only [hw, untok_segA, rowsA_len, factsA_len, rowsA_nil, factsA_nil, List.length_append, Int.le_refl, room, i64_0, nx, keysA_len, keysA_nil, EVL, ite_toInt, ER, EW, Wv_nil, i6, i64, str, boo, EA, EL, ↓EP, binK, pickK, loadK, storeK, EO, Key.av, Cell.av, Fact.av, Row.av, ↓EC, ↓EK, EE, EB, ↓aBuiltin, ↓aAppend, rowsOf, ↓aLen, ↓aSlice, bnd, ↓aIndexAddr, ↓aIndex, ↓aBuild, ↓aBuildSlice, fillL, ↓aMakeSlice, two, ↓opt_some, ↓opt_none, ldAV, aggT, szOf, zeroAV, tys, unders, chunks, spliceL, Cfg.ro, detOp, gval, resAll, resOne, packAV, ↓reduceIte, seval, reduceCtorEq, Int.cast_ofNat_Int, exists_const, implies_true, decide_true, decide_false, if_true, if_false]
        exact ⟨Bel_mp.2 (Nat.lt_succ_self _), Bel_sl.2 ⟨of_eq_true (factsA_bel _ _), trivial⟩, .v _, .v _⟩
    · have hc : ¬ ((i : Int) < (l.length : Int)) := by omega
      simp only [hc, untok_segA, rowsA_len, factsA_len, rowsA_nil, factsA_nil, List.length_append, Int.le_refl, room, i64_0, nx, keysA_len, keysA_nil, EVL, ite_toInt, ER, EW, Wv_nil, i6, i64, str, boo, EA, EL, ↓EP, binK, pickK, loadK, storeK, EO, Key.av, Cell.av, Fact.av, Row.av, ↓EC, ↓EK, EE, EB, ↓aBuiltin, ↓aAppend, rowsOf, ↓aLen, ↓aSlice, bnd, ↓aIndexAddr, ↓aIndex, ↓aBuild, ↓aBuildSlice, fillL, ↓aMakeSlice, two, ↓opt_some, ↓opt_none, ldAV, aggT, szOf, zeroAV, tys, unders, chunks, spliceL, Cfg.ro, detOp, gval, resAll, resOne, packAV, ↓reduceIte, seval, reduceCtorEq, Int.cast_ofNat_Int, exists_const, implies_true, decide_true, decide_false, if_true, if_false]
      rw [show r = some m by rw [hs, List.drop_eq_nil_of_le (by omega)]; rfl]
      refine (keysOf_spec s.next).use ?_
      simp only [untok_segA, rowsA_len, factsA_len, rowsA_nil, factsA_nil, List.length_append, Int.le_refl, room, i64_0, nx, keysA_len, keysA_nil, EVL, ite_toInt, ER, EW, Wv_nil, i6, i64, str, boo, EA, EL, ↓EP, binK, pickK, loadK, storeK, EO, Key.av, Cell.av, Fact.av, Row.av, ↓EC, ↓EK, EE, EB, ↓aBuiltin, ↓aAppend, rowsOf, ↓aLen, ↓aSlice, bnd, ↓aIndexAddr, ↓aIndex, ↓aBuild, ↓aBuildSlice, fillL, ↓aMakeSlice, two, ↓opt_some, ↓opt_none, ldAV, aggT, szOf, zeroAV, tys, unders, chunks, spliceL, Cfg.ro, detOp, gval, resAll, resOne, packAV, ↓reduceIte, seval, reduceCtorEq, Int.cast_ofNat_Int, exists_const, implies_true, decide_true, decide_false, if_true, if_false]
      refine ACalls_mono ?_ (sortedFunc_spec m _ s.next (by (simp only [upd, AState.set, AState.new]; (repeat (first | rw [if_neg (by omega)] | rw [if_pos (by omega)] | (simp only [↓reduceIte]; done) | simp only [↓reduceIte])); try rfl)) (by omega))
      rintro d s' ⟨rfl, rfl⟩
      simp only [keysA_len, sortK_len, untok_segA, rowsA_len, factsA_len, rowsA_nil, factsA_nil, List.length_append, Int.le_refl, room, i64_0, nx, keysA_len, keysA_nil, EVL, ite_toInt, ER, EW, Wv_nil, i6, i64, str, boo, EA, EL, ↓EP, binK, pickK, loadK, storeK, EO, Key.av, Cell.av, Fact.av, Row.av, ↓EC, ↓EK, EE, EB, ↓aBuiltin, ↓aAppend, rowsOf, ↓aLen, ↓aSlice, bnd, ↓aIndexAddr, ↓aIndex, ↓aBuild, ↓aBuildSlice, fillL, ↓aMakeSlice, two, ↓opt_some, ↓opt_none, ldAV, aggT, szOf, zeroAV, tys, unders, chunks, spliceL, Cfg.ro, detOp, gval, resAll, resOne, packAV, ↓reduceIte, seval, reduceCtorEq, Int.cast_ofNat_Int, exists_const, implies_true, decide_true, decide_false, if_true, if_false]
      refine ALoop_inv (ι := Nat) (fun j => j ≤ m.length) (fun j => envL [(4, .mp s.next), (9, .ptr (s.next + 1) 0), (41, .sl 5 (keysA (sortK (m.map (·.1)))) .none), (42, i64 m.length), (43, i64 j)]) (fun j => (AState.new (AState.new (AState.new { s with base := ⟨s.next, []⟩ } (.map (entA m))) (.cells [.sl 9 (rowsA (KR m j)) (.row (s.next + 2) j)])) (.row j))) (fun j => m.length - j) 0 (Nat.zero_le _) ?_ (fun j hj => ?_)
      · refine (AEnt_reserve _ _).trans ((AEnt_obj (id := s.next + 1) (cs := [.v (.slice none 0 0)]) (cs' := [.sl 9 [] (.row (s.next + 2) 0)]) (by (simp only [upd, AState.set, AState.new]; (repeat (first | rw [if_neg (by omega)] | rw [if_pos (by omega)] | (simp only [↓reduceIte]; done) | simp only [↓reduceIte])); try rfl)) ⟨.inr (.inr ⟨rfl, 9, _, rfl, by decide, .inr (.inr ⟨s.next + 2, rfl, by (simp only [upd, AState.set, AState.new]; (repeat (first | rw [if_neg (by omega)] | rw [if_pos (by omega)] | (simp only [↓reduceIte]; done) | simp only [↓reduceIte])); try rfl)⟩)⟩), trivial⟩ rfl).trans (AEnt_drop rfl rfl (Nat.le_add_right _ 3) ⟨Nat.le_refl _, fun id hid => ?_⟩ (wfS hwf m _ _) (EntB_all ?_)))
        · replace hid : id < s.next + 3 := hid
          simp only [AState.set, AState.new]
          (repeat' split) <;> first | rfl | omega
        simp only [untok_segA, rowsA_len, factsA_len, rowsA_nil, factsA_nil, List.length_append, Int.le_refl, room, i64_0, nx, keysA_len, keysA_nil, EVL, ite_toInt, ER, EW, Wv_nil, i6, i64, str, boo, EA, EL, ↓EP, binK, pickK, loadK, storeK, EO, Key.av, Cell.av, Fact.av, Row.av, ↓EC, ↓EK, EE, EB, ↓aBuiltin, ↓aAppend, rowsOf, ↓aLen, ↓aSlice, bnd, ↓aIndexAddr, ↓aIndex, ↓aBuild, ↓aBuildSlice, fillL, ↓aMakeSlice, two, ↓opt_some, ↓opt_none, ldAV, aggT, szOf, zeroAV, tys, unders, chunks, spliceL, Cfg.ro, detOp, gval, resAll, resOne, packAV, ↓reduceIte, seval, reduceCtorEq, Int.cast_ofNat_Int, exists_const, implies_true, decide_true, decide_false, if_true, if_false]
        exact ⟨Bel_mp.2 (by show s.next < s.next + 3; omega), Bel_ptr.2 (by show s.next + 1 < s.next + 3; omega), Bel_sl.2 ⟨of_eq_true (keysA_bel _ _), trivial⟩, .v _, .v _⟩
      · by_cases hjl : j < m.length
        · obtain ⟨x, hx⟩ : ∃ x, (sortK (m.map (·.1)))[j]? = some x := ⟨_, List.getElem?_eq_getElem (by rw [sortK_len]; exact hjl)⟩
          have gx := keysA_get hx
          have hc : ((j : Int) < (m.length : Int)) := by omega
          have h0 : (0 : Int) ≤ (j : Int) := by omega
          have hw : IntKind.i64.wrap ((j : Int) + 1) = (j : Int) + 1 := wrap_in (by omega) (by omega)
          have hrm : ((j : Int) + 1) * 104 ≤ 140737488355328 := by omega
          simp only [hc, h0, gx, keysA_len, sortK_len, untok_segA, rowsA_len, factsA_len, rowsA_nil, factsA_nil, List.length_append, Int.le_refl, room, i64_0, nx, keysA_len, keysA_nil, EVL, ite_toInt, ER, EW, Wv_nil, i6, i64, str, boo, EA, EL, ↓EP, binK, pickK, loadK, storeK, EO, Key.av, Cell.av, Fact.av, Row.av, ↓EC, ↓EK, EE, EB, ↓aBuiltin, ↓aAppend, rowsOf, ↓aLen, ↓aSlice, bnd, ↓aIndexAddr, ↓aIndex, ↓aBuild, ↓aBuildSlice, fillL, ↓aMakeSlice, two, ↓opt_some, ↓opt_none, ldAV, aggT, szOf, zeroAV, tys, unders, chunks, spliceL, Cfg.ro, detOp, gval, resAll, resOne, packAV, ↓reduceIte, seval, reduceCtorEq, Int.cast_ofNat_Int, exists_const, implies_true, decide_true, decide_false, if_true, if_false]
          refine aDraw_chainS [AState.set (AState.new (AState.new (AState.new (AState.new { s with base := ⟨s.next, []⟩ } (.map (entA m))) (.cells [.sl 9 (rowsA (KR m j)) (.row (s.next + 2) j)])) (.row j)) (.cells zeroK.av)) (s.next + 3) (.cells x.av), AState.set (AState.set (AState.new (AState.new (AState.new (AState.new { s with base := ⟨s.next, []⟩ } (.map (entA m))) (.cells [.sl 9 (rowsA (KR m j)) (.row (s.next + 2) j)])) (.row j)) (.cells zeroK.av)) (s.next + 3) (.cells x.av)) (s.next + 2) (.row (j + 1)), AState.set (AState.set (AState.set (AState.new (AState.new (AState.new (AState.new { s with base := ⟨s.next, []⟩ } (.map (entA m))) (.cells [.sl 9 (rowsA (KR m j)) (.row (s.next + 2) j)])) (.row j)) (.cells zeroK.av)) (s.next + 3) (.cells x.av)) (s.next + 2) (.row (j + 1))) (s.next + 1) (.cells [.sl 9 (rowsA (KR m j) ++ [Row.av ⟨x, m.get x⟩]) (.row (s.next + 2) (j + 1))])] [some 9, some 9, some 9, some 9, some 2, some 9, some 9, some 9, some 9, some 9, some 9, none, some 9, some 9, none] mixed (by kernel_rfl) (by kernel_rfl) (by kernel_rfl) rfl ?_; simp only [h0, gx, keysA_len, sortK_len, hrm,  ↓EX, EY, ↓EH, untok_segA, rowsA_len, factsA_len, rowsA_nil, factsA_nil, List.length_append, Int.le_refl, room, i64_0, nx, keysA_len, keysA_nil, EVL, ite_toInt, ER, EW, Wv_nil, i6, i64, str, boo, EA, EL, ↓EP, binK, pickK, loadK, storeK, EO, Key.av, Cell.av, Fact.av, Row.av, ↓EC, ↓EK, EE, EB, ↓aBuiltin, ↓aAppend, rowsOf, ↓aLen, ↓aSlice, bnd, ↓aIndexAddr, ↓aIndex, ↓aBuild, ↓aBuildSlice, fillL, ↓aMakeSlice, two, ↓opt_some, ↓opt_none, ldAV, aggT, szOf, zeroAV, tys, unders, chunks, spliceL, Cfg.ro, detOp, gval, resAll, resOne, packAV, ↓reduceIte, seval, reduceCtorEq, Int.cast_ofNat_Int, exists_const, implies_true, decide_true, decide_false, if_true, if_false]
          refine qlookC (id := s.next) (es := entA m) (v := .agg (m.get x).av) (m.find x) u85 u39 rfl rfl (ck_key x) (mfind m x) (mval m x) (fun st hst => ?_) ?_
          · simp only [List.take_succ_cons, List.take_zero, List.mem_cons, List.not_mem_nil, or_false] at hst
            rcases hst with rfl | rfl | rfl <;> (simp only [upd, AState.set, AState.new]; (repeat (first | rw [if_neg (by omega)] | rw [if_pos (by omega)] | (simp only [↓reduceIte]; done) | simp only [↓reduceIte])); try rfl)
          simp only [hrm, ↓EX, EY, ↓EH, untok_segA, rowsA_len, factsA_len, rowsA_nil, factsA_nil, List.length_append, Int.le_refl, room, i64_0, nx, keysA_len, keysA_nil, EVL, ite_toInt, ER, EW, Wv_nil, i6, i64, str, boo, EA, EL, ↓EP, binK, pickK, loadK, storeK, EO, Key.av, Cell.av, Fact.av, Row.av, ↓EC, ↓EK, EE, EB, ↓aBuiltin, ↓aAppend, rowsOf, ↓aLen, ↓aSlice, bnd, ↓aIndexAddr, ↓aIndex, ↓aBuild, ↓aBuildSlice, fillL, ↓aMakeSlice, two, ↓opt_some, ↓opt_none, ldAV, aggT, szOf, zeroAV, tys, unders, chunks, spliceL, Cfg.ro, detOp, gval, resAll, resOne, packAV, ↓reduceIte, seval, reduceCtorEq, Int.cast_ofNat_Int, exists_const, implies_true, decide_true, decide_false, if_true, if_false]
          refine ⟨by rw [KR_len (by omega)]; omega, ?_⟩
          refine round_next (j + 1) (by show j + 1 ≤ m.length; omega) (by show m.length - (j + 1) < m.length - j; omega) (AEnt_drop rfl rfl (Nat.le_add_right _ 3) ⟨Nat.le_succ _, fun id hid => ?_⟩ (wfS hwf m _ _) (EntB_all ?_))
          · rw [KR_succ hx, rowsA_append]
            replace hid : id < s.next + 3 := hid
            simp only [AState.set, AState.new]
            (repeat' split) <;> first | rfl | omega
          simp only [hw, untok_segA, rowsA_len, factsA_len, rowsA_nil, factsA_nil, List.length_append, Int.le_refl, room, i64_0, nx, keysA_len, keysA_nil, EVL, ite_toInt, ER, EW, Wv_nil, i6, i64, str, boo, EA, EL, ↓EP, binK, pickK, loadK, storeK, EO, Key.av, Cell.av, Fact.av, Row.av, ↓EC, ↓EK, EE, EB, ↓aBuiltin, ↓aAppend, rowsOf, ↓aLen, ↓aSlice, bnd, ↓aIndexAddr, ↓aIndex, ↓aBuild, ↓aBuildSlice, fillL, ↓aMakeSlice, two, ↓opt_some, ↓opt_none, ldAV, aggT, szOf, zeroAV, tys, unders, chunks, spliceL, Cfg.ro, detOp, gval, resAll, resOne, packAV, ↓reduceIte, seval, reduceCtorEq, Int.cast_ofNat_Int, exists_const, implies_true, decide_true, decide_false, if_true, if_false]
          exact ⟨Bel_mp.2 (by show s.next < s.next + 3; omega), Bel_ptr.2 (by show s.next + 1 < s.next + 3; omega), Bel_sl.2 ⟨of_eq_true (keysA_bel _ _), trivial⟩, .v _, .v _⟩
        · have hc : ¬ ((j : Int) < (m.length : Int)) := by omega
          simp only [hc, keysA_len, sortK_len, untok_segA, rowsA_len, factsA_len, rowsA_nil, factsA_nil, List.length_append, Int.le_refl, room, i64_0, nx, keysA_len, keysA_nil, EVL, ite_toInt, ER, EW, Wv_nil, i6, i64, str, boo, EA, EL, ↓EP, binK, pickK, loadK, storeK, EO, Key.av, Cell.av, Fact.av, Row.av, ↓EC, ↓EK, EE, EB, ↓aBuiltin, ↓aAppend, rowsOf, ↓aLen, ↓aSlice, bnd, ↓aIndexAddr, ↓aIndex, ↓aBuild, ↓aBuildSlice, fillL, ↓aMakeSlice, two, ↓opt_some, ↓opt_none, ldAV, aggT, szOf, zeroAV, tys, unders, chunks, spliceL, Cfg.ro, detOp, gval, resAll, resOne, packAV, ↓reduceIte, seval, reduceCtorEq, Int.cast_ofNat_Int, exists_const, implies_true, decide_true, decide_false, if_true, if_false]
          have ej : j = m.length := by omega
          subst ej
          refine Ret_freeze (id := s.next + 1) (l := [.ptr (s.next + 1) 0, i64 0]) (l' := [segA (some (mRows m)), i64 0]) (m := [segA (some (mRows m)), i64 0]) (cs := [.sl 9 (rowsA (KR m m.length)) (.row (s.next + 2) m.length)]) (cs' := [.sl 9 (rowsA (mRows m)) .none]) (.inr rfl) rfl (by simp only [untok_segA, rowsA_len, factsA_len, rowsA_nil, factsA_nil, List.length_append, Int.le_refl, room, i64_0, nx, keysA_len, keysA_nil, EVL, ite_toInt, ER, EW, Wv_nil, i6, i64, str, boo, EA, EL, ↓EP, binK, pickK, loadK, storeK, EO, Key.av, Cell.av, Fact.av, Row.av, ↓EC, ↓EK, EE, EB, ↓aBuiltin, ↓aAppend, rowsOf, ↓aLen, ↓aSlice, bnd, ↓aIndexAddr, ↓aIndex, ↓aBuild, ↓aBuildSlice, fillL, ↓aMakeSlice, two, ↓opt_some, ↓opt_none, ldAV, aggT, szOf, zeroAV, tys, unders, chunks, spliceL, Cfg.ro, detOp, gval, resAll, resOne, packAV, ↓reduceIte, seval, reduceCtorEq, Int.cast_ofNat_Int, exists_const, implies_true, decide_true, decide_false, if_true, if_false]) (by (simp only [upd, AState.set, AState.new]; (repeat (first | rw [if_neg (by omega)] | rw [if_pos (by omega)] | (simp only [↓reduceIte]; done) | simp only [↓reduceIte])); try rfl)) ⟨.inr (.inl ?_), trivial⟩ rfl ?_ ⟨.inl rfl, .inl rfl, trivial⟩ rfl (Nat.le_succ _) (by first | exact Keeps.base _ _ | (repeat (first | exact Keeps.base _ _ | refine Keeps.new ?_ _ | refine Keeps.set ?_ (by first | (simp; done) | omega | (simp only [EO]; omega)) _))) ?_
          · rw [KR_all]; rfl
          · simp only [packAV, frz, List.map_cons, List.map_nil, frzL, if_true, segA]
          · simp only [resO, resS, Bel_tup, List.mem_cons, List.not_mem_nil, or_false, forall_eq_or_imp, forall_eq, segA_bel, true_and]
            exact .v _

end Go.Proofs

namespace Go.Proofs
open Go Go.Av Go.Sort
set_option linter.unusedSimpArgs false
set_option linter.unusedVariables false

/-! The rows of a map are the rows put one by one -/
def Srt (l : List Row) : Prop := l.Pairwise fun a b => cmpK a.k b.k < 0

theorem cmp_irr (x : Key) : ¬ cmpK x x < 0 := by have := (good_key.zero x x).2 rfl; omega
theorem cmp_asym {x y : Key} (h : cmpK x y < 0) : ¬ cmpK y x < 0 := by have := (good_key.anti x y).1 h; omega

def rlt (a b : Row) : Prop := cmpK a.k b.k < 0
theorem rlt_asym (a b : Row) (h1 : rlt a b) (h2 : rlt b a) : a = b := absurd h2 (cmp_asym (x := a.k) (y := b.k) h1)
theorem rlt_ne (a b : Row) (h : rlt a b) : a ≠ b := by
  intro e
  subst e
  exact cmp_irr _ h
theorem srt_nodup {l : List Row} (h : l.Pairwise rlt) : l.Nodup := h.imp (fun {a b} h => rlt_ne a b h)
theorem srt_ext {l m : List Row} (hl : Srt l) (hm : Srt m) (h : ∀ r, r ∈ l ↔ r ∈ m) : l = m := by
  have hp : l.Perm m := (List.perm_ext_iff_of_nodup (srt_nodup hl) (srt_nodup hm)).2 h
  exact List.Perm.eq_of_pairwise (fun a b _ _ h1 h2 => rlt_asym a b h1 h2) (show l.Pairwise rlt from hl) (show m.Pairwise rlt from hm) hp

theorem mRows_mem {m : KM} {r : Row} : r ∈ mRows m ↔ r.k ∈ m.map (·.1) ∧ r.c = m.get r.k := by
  simp only [mRows, List.mem_map]
  constructor
  · rintro ⟨k, hk, rfl⟩
    exact ⟨List.mem_map.1 ((sortK_perm _).mem_iff.1 hk), rfl⟩
  · rintro ⟨h1, h2⟩
    exact ⟨r.k, (sortK_perm _).mem_iff.2 (List.mem_map.2 h1), by cases r; simp only at h2; rw [← h2]⟩

theorem mRows_srt {m : KM} (hn : (m.map (·.1)).Nodup) : Srt (mRows m) := by
  unfold Srt mRows
  rw [List.pairwise_map]
  have h1 := sortK_sorted (m.map (·.1))
  have h2 : (sortK (m.map (·.1))).Nodup := (sortK_perm _).nodup_iff.2 hn
  refine (h1.and h2).imp fun {a b} h => ?_
  obtain ⟨h3, h4⟩ := h
  have h5 : cmpK a b ≠ 0 := fun e => h4 ((good_key.zero a b).1 e)
  have h6 := good_key.anti b a
  show cmpK a b < 0
  omega

theorem KM.get_put (m : KM) (k k' : Key) (c : Cell) : (m.put k c).get k' = if k' = k then c else m.get k' := by
  have key : ∀ (m : KM) (k : Key) (c : Cell), (∃ i, m[i]? = some (k, c) ∧ ∀ (j : Nat) (q : Key × Cell), j < i → m[j]? = some q → q.1 ≠ k) → m.get k = c := by
    intro m k c ⟨i, h1, h2⟩
    cases h : m.find k with
    | none => exact absurd rfl (KM.find_none h (k, c) (List.mem_of_getElem? h1))
    | some j =>
      obtain ⟨c', h3, h4⟩ := KM.find_some h
      have : j = i := by
        rcases Nat.lt_trichotomy i j with hl | hl | hl
        · exact absurd rfl (h4 i _ hl h1)
        · exact hl.symm
        · exact absurd rfl (h2 j _ hl h3)
      subst this
      simp [KM.get, h, h1]
  have keyN : ∀ (m : KM) (k : Key), (∀ q ∈ m, q.1 ≠ k) → m.get k = zeroC := by
    intro m k hq
    cases h : m.find k with
    | none => simp [KM.get, h]
    | some j =>
      obtain ⟨c', h3, _⟩ := KM.find_some h
      exact absurd rfl (hq _ (List.mem_of_getElem? h3))
  have keyG : ∀ (m : KM) (k : Key) i c, m.find k = some i → m[i]? = some (k, c) → m.get k = c := by
    intro m k i c h1 h2; simp [KM.get, h1, h2]
  cases h : m.find k with
  | some i =>
    obtain ⟨c0, h1, h2⟩ := KM.find_some h
    have hil := (List.getElem?_eq_some_iff.1 h1).1
    have hput : m.put k c = m.set i (k, c) := by simp [KM.put, h]
    rw [hput]
    by_cases e : k' = k
    · subst e
      rw [if_pos rfl]
      refine key _ _ _ ⟨i, by rw [List.getElem?_set_self hil], fun j q hj hq => ?_⟩
      rw [List.getElem?_set_ne (by omega)] at hq
      exact h2 j q hj hq
    · rw [if_neg e]
      cases h' : m.find k' with
      | none =>
        rw [show m.get k' = zeroC by simp [KM.get, h']]
        refine keyN _ _ fun q hq => ?_
        rcases List.mem_or_eq_of_mem_set hq with hq | rfl
        · exact KM.find_none h' q hq
        · exact fun e2 => e e2.symm
      | some i' =>
        obtain ⟨c', h3, h4⟩ := KM.find_some h'
        rw [keyG m k' i' c' h' h3]
        have hne : i ≠ i' := by rintro rfl; rw [h1] at h3; cases h3; exact e rfl
        refine key _ _ _ ⟨i', by rw [List.getElem?_set_ne hne]; exact h3, fun j q hj hq => ?_⟩
        by_cases hji : i = j
        · subst hji; rw [List.getElem?_set_self hil] at hq; cases hq; exact fun e2 => e e2.symm
        · rw [List.getElem?_set_ne hji] at hq; exact h4 j q hj hq
  | none =>
    have hput : m.put k c = m ++ [(k, c)] := by simp [KM.put, h]
    rw [hput]
    by_cases e : k' = k
    · subst e
      rw [if_pos rfl]
      refine key _ _ _ ⟨m.length, by simp, fun j q hj hq => ?_⟩
      rw [List.getElem?_append_left hj] at hq
      exact KM.find_none h q (List.mem_of_getElem? hq)
    · rw [if_neg e]
      cases h' : m.find k' with
      | none =>
        rw [show m.get k' = zeroC by simp [KM.get, h']]
        refine keyN _ _ fun q hq => ?_
        rcases List.mem_append.1 hq with hq | hq
        · exact KM.find_none h' q hq
        · simp at hq; subst hq; exact fun e2 => e e2.symm
      | some i' =>
        obtain ⟨c', h3, h4⟩ := KM.find_some h'
        rw [keyG m k' i' c' h' h3]
        have hil := (List.getElem?_eq_some_iff.1 h3).1
        refine key _ _ _ ⟨i', by rw [List.getElem?_append_left hil]; exact h3, fun j q hj hq => ?_⟩
        rw [List.getElem?_append_left (by omega)] at hq
        exact h4 j q hj hq

theorem KM.put_mem (m : KM) (k k' : Key) (c : Cell) : k' ∈ (m.put k c).map (·.1) ↔ k' = k ∨ k' ∈ m.map (·.1) := by
  rw [KM.put_keys]
  split
  · simp only [List.mem_append, List.mem_cons, List.not_mem_nil, or_false]; exact Or.comm
  · rename_i h
    refine ⟨.inr, fun h' => ?_⟩
    rcases h' with rfl | h'
    · cases e : m.find k' with
      | none => exact absurd e h
      | some i =>
        obtain ⟨c', h1, _⟩ := KM.find_some e
        exact List.mem_map.2 ⟨_, List.mem_of_getElem? h1, rfl⟩
    · exact h'
theorem KM.put_nodup (m : KM) (k : Key) (c : Cell) (hn : (m.map (·.1)).Nodup) : ((m.put k c).map (·.1)).Nodup := by
  rw [KM.put_keys]
  split
  · rename_i h
    rw [List.nodup_append]
    refine ⟨hn, by simp, fun a ha b hb e => ?_⟩
    simp at hb; subst hb; subst e
    obtain ⟨q, hq, e⟩ := List.mem_map.1 ha
    exact KM.find_none h q hq e
  · exact hn

theorem KM.get_none {m : KM} {k : Key} (h : k ∉ m.map (·.1)) : m.get k = zeroC := by
  cases e : m.find k with
  | none => simp [KM.get, e]
  | some i =>
    obtain ⟨c', h1, _⟩ := KM.find_some e
    exact absurd (List.mem_map.2 ⟨_, List.mem_of_getElem? h1, rfl⟩) h

theorem merge_zero (c : Cell) : mergeC zeroC c = some c := by simp [mergeC, zeroC]

/-- Where a row is put among rows in order. -/
theorem putL_cases {l : List Row} (hl : Srt l) (x : Row) :
    (x.k ∉ l.map Row.k ∧ ∃ l', putL l x = some l' ∧ Srt l' ∧ ∀ r, r ∈ l' ↔ r = x ∨ r ∈ l) ∨
    (∃ y ∈ l, y.k = x.k ∧ putL l x = (mergeC y.c x.c).map (fun c => (l.takeWhile fun r => decide (cmpK r.k x.k < 0)) ++ ⟨x.k, c⟩ :: (l.dropWhile fun r => decide (cmpK r.k x.k < 0)).tail) ∧
      ∀ c, Srt ((l.takeWhile fun r => decide (cmpK r.k x.k < 0)) ++ ⟨x.k, c⟩ :: (l.dropWhile fun r => decide (cmpK r.k x.k < 0)).tail) ∧
        ∀ r, r ∈ (l.takeWhile fun r => decide (cmpK r.k x.k < 0)) ++ ⟨x.k, c⟩ :: (l.dropWhile fun r => decide (cmpK r.k x.k < 0)).tail ↔ r = ⟨x.k, c⟩ ∨ (r ∈ l ∧ r.k ≠ x.k)) := by
  unfold putL
  have hsplit : l.takeWhile (fun r => decide (cmpK r.k x.k < 0)) ++ l.dropWhile (fun r => decide (cmpK r.k x.k < 0)) = l := List.takeWhile_append_dropWhile
  have hpre : ∀ r ∈ l.takeWhile (fun r => decide (cmpK r.k x.k < 0)), cmpK r.k x.k < 0 := fun r hr => by simpa using mem_takeWhile hr
  have hhead := fun y t => head_dropWhile (p := fun r : Row => decide (cmpK r.k x.k < 0)) (l := l) (y := y) (t := t)
  generalize l.takeWhile (fun r => decide (cmpK r.k x.k < 0)) = pre at *
  generalize l.dropWhile (fun r => decide (cmpK r.k x.k < 0)) = rest at *
  subst hsplit
  have hl' := hl
  unfold Srt at hl
  rw [List.pairwise_append] at hl
  obtain ⟨h1, h2, h3⟩ := hl
  have ne_pre : ∀ r ∈ pre, r.k ≠ x.k := fun r hr e => by have := hpre r hr; rw [e] at this; exact cmp_irr _ this
  cases rest with
  | nil =>
    refine .inl ⟨?_, pre ++ [x], rfl, ?_, ?_⟩
    · simp only [List.append_nil, List.mem_map, not_exists, not_and]
      exact ne_pre
    · unfold Srt
      rw [List.pairwise_append]
      exact ⟨h1, by simp, fun a ha b hb => by simp at hb; subst hb; exact hpre a ha⟩
    · intro r; simp [or_comm]
  | cons y t =>
    have hy : ¬ cmpK y.k x.k < 0 := by simpa using hhead y t rfl
    rw [List.pairwise_cons] at h2
    by_cases e : y.k = x.k
    · refine .inr ⟨y, by simp, e, by simp only [putR, if_pos e, List.tail_cons], fun c => ⟨?_, fun r => ?_⟩⟩
      · simp only [List.tail_cons]
        unfold Srt
        rw [List.pairwise_append, List.pairwise_cons]
        refine ⟨h1, ⟨fun b hb => by show cmpK x.k b.k < 0; rw [← e]; exact h2.1 b hb, h2.2⟩, fun a ha b hb => ?_⟩
        rcases List.mem_cons.1 hb with rfl | hb
        · exact hpre a ha
        · exact h3 a ha b (by simp [hb])
      · simp only [List.tail_cons, List.mem_append, List.mem_cons]
        have ne_t : ∀ r ∈ t, r.k ≠ x.k := fun r hr e' => by have := h2.1 r hr; rw [e, e'] at this; exact cmp_irr _ this
        constructor
        · rintro (hr | rfl | hr)
          · exact .inr ⟨.inl hr, ne_pre r hr⟩
          · exact .inl rfl
          · exact .inr ⟨.inr (.inr hr), ne_t r hr⟩
        · rintro (rfl | ⟨hr | rfl | hr, hne⟩)
          · exact .inr (.inl rfl)
          · exact .inl hr
          · exact absurd e hne
          · exact .inr (.inr hr)
    · have hxy : cmpK x.k y.k < 0 := by
        have z : cmpK y.k x.k ≠ 0 := fun h => e ((good_key.zero _ _).1 h)
        have := good_key.anti x.k y.k
        omega
      have hxt : ∀ r ∈ t, cmpK x.k r.k < 0 := fun r hr => good_key.trans _ _ _ hxy (h2.1 r hr)
      refine .inl ⟨?_, pre ++ x :: y :: t, by simp only [putR, if_neg e], ?_, ?_⟩
      · simp only [List.map_append, List.map_cons, List.mem_append, List.mem_map, List.mem_cons, not_or, not_exists, not_and]
        exact ⟨ne_pre, fun e' => e e'.symm, fun r hr e' => by have := hxt r hr; rw [e'] at this; exact cmp_irr _ this⟩
      · unfold Srt
        rw [List.pairwise_append, List.pairwise_cons]
        refine ⟨h1, ⟨fun b hb => ?_, List.pairwise_cons.2 h2⟩, fun a ha b hb => ?_⟩
        · rcases List.mem_cons.1 hb with rfl | hb
          · exact hxy
          · exact hxt b hb
        · rcases List.mem_cons.1 hb with rfl | hb
          · exact hpre a ha
          · exact h3 a ha b hb
      · intro r; simp only [List.mem_append, List.mem_cons]; constructor
        · rintro (h | rfl | h)
          · exact .inr (.inl h)
          · exact .inl rfl
          · exact .inr (.inr h)
        · rintro (rfl | h | h)
          · exact .inr (.inl rfl)
          · exact .inl h
          · exact .inr (.inr h)

theorem put_step (m : KM) (hn : (m.map (·.1)).Nodup) (x : Row) : putL (mRows m) x = (mergeC (m.get x.k) x.c).map fun c => mRows (m.put x.k c) := by
  rcases putL_cases (mRows_srt hn) x with ⟨h1, l', h2, h3, h4⟩ | ⟨y, hy, hyk, h2, h3⟩
  · have hk : x.k ∉ m.map (·.1) := fun h => h1 (List.mem_map.2 ⟨⟨x.k, m.get x.k⟩, mRows_mem.2 ⟨h, rfl⟩, rfl⟩)
    rw [h2, KM.get_none hk, merge_zero]
    simp only [Option.map_some, Option.some.injEq]
    refine srt_ext h3 (mRows_srt (KM.put_nodup _ _ _ hn)) fun r => ?_
    rw [h4, mRows_mem, mRows_mem, KM.put_mem, KM.get_put]
    constructor
    · rintro (rfl | ⟨h5, h6⟩)
      · exact ⟨.inl rfl, by rw [if_pos rfl]⟩
      · exact ⟨.inr h5, by rw [if_neg (fun e : r.k = x.k => hk (by rw [← e]; exact h5))]; exact h6⟩
    · rintro ⟨h5, h6⟩
      by_cases e : r.k = x.k
      · rw [if_pos e] at h6
        exact .inl (by cases r; cases x; simp only at e h6; rw [e, h6])
      · rw [if_neg e] at h6
        exact .inr ⟨h5.resolve_left e, h6⟩
  · obtain ⟨hk, hc⟩ := mRows_mem.1 hy
    rw [hyk] at hk hc
    rw [h2, hc]
    cases hm : mergeC (m.get x.k) x.c with
    | none => rfl
    | some c =>
      simp only [Option.map_some, Option.some.injEq]
      refine srt_ext (h3 c).1 (mRows_srt (KM.put_nodup _ _ _ hn)) fun r => ?_
      rw [(h3 c).2, mRows_mem, mRows_mem, KM.put_mem, KM.get_put]
      constructor
      · rintro (rfl | ⟨⟨h5, h6⟩, hne⟩)
        · exact ⟨.inl rfl, by rw [if_pos rfl]⟩
        · exact ⟨.inr h5, by rw [if_neg hne]; exact h6⟩
      · rintro ⟨h5, h6⟩
        by_cases e : r.k = x.k
        · rw [if_pos e] at h6
          exact .inl (by cases r; simp only at e h6; rw [e, h6])
        · rw [if_neg e] at h6
          exact .inr ⟨⟨h5.resolve_left e, h6⟩, e⟩

theorem all_eq : ∀ (l : List Fact) (m : KM), (m.map (·.1)).Nodup → (mAll m l).map mRows = putAll (mRows m) (l.map factRow)
  | [], m, _ => rfl
  | f :: l, m, hn => by
    rw [mAll, List.map_cons, putAll, put_step m hn (factRow f)]
    show ((mergeC (m.get f.k) ⟨1, f.v, f.v, f.v⟩).bind _).map mRows = _
    cases h : mergeC (m.get f.k) ⟨1, f.v, f.v, f.v⟩ with
    | none => simp [factRow, h]
    | some c =>
      simp only [Option.bind_some, factRow, h, Option.map_some]
      exact all_eq l _ (KM.put_nodup _ _ _ hn)

theorem mRows_nil : mRows [] = [] := by simp [mRows, sortK]

theorem ofs_eq (l : List Fact) : (mAll [] l).map mRows = putAll [] (l.map factRow) := by
  have := all_eq l [] List.nodup_nil
  rwa [mRows_nil] at this

end Go.Proofs

namespace Go.Proofs
open Go Go.Av Go.Sort
set_option linter.unusedSimpArgs false
set_option linter.unusedVariables false
set_option maxRecDepth 30000
set_option maxHeartbeats 2000000

def aliveF : List Fact := [⟨⟨0, .empty, .empty, .empty, .empty⟩, 3⟩, ⟨⟨0, .empty, .empty, .empty, .empty⟩, -1⟩]
def aliveR : Row := ⟨⟨0, .empty, .empty, .empty, .empty⟩, ⟨2, 2, -1, 3⟩⟩
theorem alive_rows : (mAll [] aliveF).map mRows = some [aliveR] := by
  rw [ofs_eq]
  have hk : cmpK zeroK zeroK = 0 := (good_key.zero _ _).2 rfl
  have e1 : putL [] ⟨zeroK, ⟨1, 3, 3, 3⟩⟩ = some [⟨zeroK, ⟨1, 3, 3, 3⟩⟩] := rfl
  have e2 : putL [⟨zeroK, ⟨1, 3, 3, 3⟩⟩] ⟨zeroK, ⟨1, -1, -1, -1⟩⟩ = some [⟨zeroK, ⟨2, 2, -1, 3⟩⟩] := by
    have hm : mergeC ⟨1, 3, 3, 3⟩ ⟨1, -1, -1, -1⟩ = some ⟨2, 2, -1, 3⟩ := by decide
    simp [putL, List.takeWhile, List.dropWhile, hk, putR, hm]
  show putAll [] [⟨zeroK, ⟨1, 3, 3, 3⟩⟩, ⟨zeroK, ⟨1, -1, -1, -1⟩⟩] = _
  simp only [putAll, e1, e2, Option.bind_some]
  rfl

theorem alive_spec : APure Try.prog 14 [] (boo true) := by
  intro s
  have h := of_seg aliveF (by decide)
  rw [alive_rows] at h
  have h2 := at_spec [aliveR] 0 aliveR rfl
  have h3 := len_spec (some [aliveR])
  refine ACalls_body (C := ⟨[]⟩) (c := Try.f14.body.getD .skip) (rs := [.tmp 0]) Try.func14 (by kernel_rfl) (by kernel_rfl) (by kernel_rfl) (Nat.le_of_ble_eq_true rfl) (by kernel_rfl) fun hwf hbel => ?_; simp only [Try.f14, untok_segA, rowsA_len, factsA_len, rowsA_nil, factsA_nil, List.length_append, Int.le_refl, room, i64_0, nx, keysA_len, keysA_nil, EVL, ite_toInt, ER, EW, Wv_nil, i6, i64, str, boo, EA, EL, ↓EP, binK, pickK, loadK, storeK, EO, Key.av, Cell.av, Fact.av, Row.av, ↓EC, ↓EK, EE, EB, ↓aBuiltin, ↓aAppend, rowsOf, ↓aLen, ↓aSlice, bnd, ↓aIndexAddr, ↓aIndex, ↓aBuild, ↓aBuildSlice, fillL, ↓aMakeSlice, two, ↓opt_some, ↓opt_none, ldAV, aggT, szOf, zeroAV, tys, unders, chunks, spliceL, Cfg.ro, detOp, gval, resAll, resOne, packAV, ↓reduceIte, seval, reduceCtorEq, Int.cast_ofNat_Int, exists_const, implies_true, decide_true, decide_false, if_true, if_false]
  refine h.use ?_
  simp only [resO, untok_segA, rowsA_len, factsA_len, rowsA_nil, factsA_nil, List.length_append, Int.le_refl, room, i64_0, nx, keysA_len, keysA_nil, EVL, ite_toInt, ER, EW, Wv_nil, i6, i64, str, boo, EA, EL, ↓EP, binK, pickK, loadK, storeK, EO, Key.av, Cell.av, Fact.av, Row.av, ↓EC, ↓EK, EE, EB, ↓aBuiltin, ↓aAppend, rowsOf, ↓aLen, ↓aSlice, bnd, ↓aIndexAddr, ↓aIndex, ↓aBuild, ↓aBuildSlice, fillL, ↓aMakeSlice, two, ↓opt_some, ↓opt_none, ldAV, aggT, szOf, zeroAV, tys, unders, chunks, spliceL, Cfg.ro, detOp, gval, resAll, resOne, packAV, ↓reduceIte, seval, reduceCtorEq, Int.cast_ofNat_Int, exists_const, implies_true, decide_true, decide_false, if_true, if_false]
  refine h2.use ?_
  simp only [untok_segA, rowsA_len, factsA_len, rowsA_nil, factsA_nil, List.length_append, Int.le_refl, room, i64_0, nx, keysA_len, keysA_nil, EVL, ite_toInt, ER, EW, Wv_nil, i6, i64, str, boo, EA, EL, ↓EP, binK, pickK, loadK, storeK, EO, Key.av, Cell.av, Fact.av, Row.av, ↓EC, ↓EK, EE, EB, ↓aBuiltin, ↓aAppend, rowsOf, ↓aLen, ↓aSlice, bnd, ↓aIndexAddr, ↓aIndex, ↓aBuild, ↓aBuildSlice, fillL, ↓aMakeSlice, two, ↓opt_some, ↓opt_none, ldAV, aggT, szOf, zeroAV, tys, unders, chunks, spliceL, Cfg.ro, detOp, gval, resAll, resOne, packAV, ↓reduceIte, seval, reduceCtorEq, Int.cast_ofNat_Int, exists_const, implies_true, decide_true, decide_false, if_true, if_false]
  refine h3.use ?_
  simp only [untok_segA, rowsA_len, factsA_len, rowsA_nil, factsA_nil, List.length_append, Int.le_refl, room, i64_0, nx, keysA_len, keysA_nil, EVL, ite_toInt, ER, EW, Wv_nil, i6, i64, str, boo, EA, EL, ↓EP, binK, pickK, loadK, storeK, EO, Key.av, Cell.av, Fact.av, Row.av, ↓EC, ↓EK, EE, EB, ↓aBuiltin, ↓aAppend, rowsOf, ↓aLen, ↓aSlice, bnd, ↓aIndexAddr, ↓aIndex, ↓aBuild, ↓aBuildSlice, fillL, ↓aMakeSlice, two, ↓opt_some, ↓opt_none, ldAV, aggT, szOf, zeroAV, tys, unders, chunks, spliceL, Cfg.ro, detOp, gval, resAll, resOne, packAV, ↓reduceIte, seval, reduceCtorEq, Int.cast_ofNat_Int, exists_const, implies_true, decide_true, decide_false, if_true, if_false]
  refine eqK_use (aeq_cell aliveR.c ⟨2, 2, -1, 3⟩) ?_
  simp only [untok_segA, rowsA_len, factsA_len, rowsA_nil, factsA_nil, List.length_append, Int.le_refl, room, i64_0, nx, keysA_len, keysA_nil, EVL, ite_toInt, ER, EW, Wv_nil, i6, i64, str, boo, EA, EL, ↓EP, binK, pickK, loadK, storeK, EO, Key.av, Cell.av, Fact.av, Row.av, ↓EC, ↓EK, EE, EB, ↓aBuiltin, ↓aAppend, rowsOf, ↓aLen, ↓aSlice, bnd, ↓aIndexAddr, ↓aIndex, ↓aBuild, ↓aBuildSlice, fillL, ↓aMakeSlice, two, ↓opt_some, ↓opt_none, ldAV, aggT, szOf, zeroAV, tys, unders, chunks, spliceL, Cfg.ro, detOp, gval, resAll, resOne, packAV, ↓reduceIte, seval, reduceCtorEq, Int.cast_ofNat_Int, exists_const, implies_true, decide_true, decide_false, if_true, if_false]
  exact Ret_pure (l := [boo true]) (.inr rfl) rfl (by simp only [untok_segA, rowsA_len, factsA_len, rowsA_nil, factsA_nil, List.length_append, Int.le_refl, room, i64_0, nx, keysA_len, keysA_nil, EVL, ite_toInt, ER, EW, Wv_nil, i6, i64, str, boo, EA, EL, ↓EP, binK, pickK, loadK, storeK, EO, Key.av, Cell.av, Fact.av, Row.av, ↓EC, ↓EK, EE, EB, ↓aBuiltin, ↓aAppend, rowsOf, ↓aLen, ↓aSlice, bnd, ↓aIndexAddr, ↓aIndex, ↓aBuild, ↓aBuildSlice, fillL, ↓aMakeSlice, two, ↓opt_some, ↓opt_none, ldAV, aggT, szOf, zeroAV, tys, unders, chunks, spliceL, Cfg.ro, detOp, gval, resAll, resOne, packAV, ↓reduceIte, seval, reduceCtorEq, Int.cast_ofNat_Int, exists_const, implies_true, decide_true, decide_false, if_true, if_false] <;> rfl) rfl (by first | exact Keeps.base _ _ | (repeat (first | exact Keeps.base _ _ | refine Keeps.new ?_ _ | refine Keeps.set ?_ (by first | (simp; done) | omega | (simp only [EO]; omega)) _))) (by show Bel _ (packAV [boo true]); exact (by first | exact .v _ | (simp only [packAV, rowsA_bel, factsA_bel, segA_bel, resS, if_true, if_false, Bool.false_eq_true, resC, Key.av, Cell.av, Fact.av, Row.av, zeroC, Bel_v, Bel_tup, Bel_agg, List.forall_mem_map, List.map_nil, false_implies, implies_true, List.mem_cons, List.not_mem_nil, or_false, forall_eq_or_imp, forall_eq, and_self, true_and, and_true, Bel_sl, Bel_ep, tokBel, implies_true])))

def fo : Option (List Row) → Int
  | some _ => 0
  | none => 6
theorem resO_eq (o : Option (List Row)) : resO o = .tup [segA o, i64 (fo o)] := by cases o <;> rfl
theorem resP_eq (o : Option (List Row)) : resP o = .tup [.sl 9 (rowsA (o.getD [])) .none, i64 (fo o)] := by cases o <;> rfl
theorem putAll_len : ∀ (l acc q : List Row), putAll acc l = some q → q.length ≤ acc.length + l.length
  | [], acc, q, h => by simp only [putAll, Option.some.injEq] at h; subst h; simp
  | x :: l, acc, q, h => by
    simp only [putAll] at h
    obtain ⟨a, h1, h2⟩ := Option.bind_eq_some_iff.1 h
    have h3 := putL_len h1
    have h4 := putAll_len l a q h2
    simp only [List.length_cons]
    omega
theorem putAll_getD (l : List Row) : ((putAll [] l).getD []).length ≤ l.length := by
  cases h : putAll [] l with
  | none => simp
  | some q => have := putAll_len l [] q h; simpa using this
theorem u27 : Try.prog.underlying 27 = some (.pointer 89) := by simp only [unders]

theorem segMakes_spec (l : List Fact) (rows : List Row) : APure Try.prog 3 [.sl 6 (factsA l) .none, .sl 9 (rowsA rows) .none] (boo true) := by
  intro s
  have hLF := lightF_spec l
  have hLR := light_spec rows
  by_cases h1 : lightF l = true
  · rw [h1] at hLF
    by_cases h2 : rows.length ≤ 100
    · simp only [h2, decide_true] at hLR
      have hl : l.length ≤ 100 := by simp only [lightF, Bool.and_eq_true, decide_eq_true_eq] at h1; exact h1.1
      have ho := of_seg l (by omega)
      have hr := rof_list l (by omega)
      rw [ofs_eq] at ho
      have hlen := putAll_getD (l.map factRow)
      rw [List.length_map] at hlen
      generalize putAll [] (l.map factRow) = o at ho hr hlen
      rw [resO_eq] at ho
      rw [resP_eq] at hr
      have hb := back_spec o (by omega)
      have hs := same_spec (o.getD []) (o.getD []) (by omega)
      simp only [decide_true] at hs
      have hq := srows_spec rows (by omega)
      have hz := rright_list rows (by omega)
      refine ACalls_body (C := ⟨[]⟩) (c := Try.f3.body.getD .skip) (rs := [.tmp 4]) Try.func3 (by kernel_rfl) (by kernel_rfl) (by kernel_rfl) (Nat.le_of_ble_eq_true rfl) (by kernel_rfl) fun hwf hbel => ?_; simp only [Try.f3, untok_segA, rowsA_len, factsA_len, rowsA_nil, factsA_nil, List.length_append, Int.le_refl, room, i64_0, nx, keysA_len, keysA_nil, EVL, ite_toInt, ER, EW, Wv_nil, i6, i64, str, boo, EA, EL, ↓EP, binK, pickK, loadK, storeK, EO, Key.av, Cell.av, Fact.av, Row.av, ↓EC, ↓EK, EE, EB, ↓aBuiltin, ↓aAppend, rowsOf, ↓aLen, ↓aSlice, bnd, ↓aIndexAddr, ↓aIndex, ↓aBuild, ↓aBuildSlice, fillL, ↓aMakeSlice, two, ↓opt_some, ↓opt_none, ldAV, aggT, szOf, zeroAV, tys, unders, chunks, spliceL, Cfg.ro, detOp, gval, resAll, resOne, packAV, ↓reduceIte, seval, reduceCtorEq, Int.cast_ofNat_Int, exists_const, implies_true, decide_true, decide_false, if_true, if_false]
      refine hLF.use ?_
      simp only [untok_segA, rowsA_len, factsA_len, rowsA_nil, factsA_nil, List.length_append, Int.le_refl, room, i64_0, nx, keysA_len, keysA_nil, EVL, ite_toInt, ER, EW, Wv_nil, i6, i64, str, boo, EA, EL, ↓EP, binK, pickK, loadK, storeK, EO, Key.av, Cell.av, Fact.av, Row.av, ↓EC, ↓EK, EE, EB, ↓aBuiltin, ↓aAppend, rowsOf, ↓aLen, ↓aSlice, bnd, ↓aIndexAddr, ↓aIndex, ↓aBuild, ↓aBuildSlice, fillL, ↓aMakeSlice, two, ↓opt_some, ↓opt_none, ldAV, aggT, szOf, zeroAV, tys, unders, chunks, spliceL, Cfg.ro, detOp, gval, resAll, resOne, packAV, ↓reduceIte, seval, reduceCtorEq, Int.cast_ofNat_Int, exists_const, implies_true, decide_true, decide_false, if_true, if_false]
      refine hLR.use ?_
      simp only [untok_segA, rowsA_len, factsA_len, rowsA_nil, factsA_nil, List.length_append, Int.le_refl, room, i64_0, nx, keysA_len, keysA_nil, EVL, ite_toInt, ER, EW, Wv_nil, i6, i64, str, boo, EA, EL, ↓EP, binK, pickK, loadK, storeK, EO, Key.av, Cell.av, Fact.av, Row.av, ↓EC, ↓EK, EE, EB, ↓aBuiltin, ↓aAppend, rowsOf, ↓aLen, ↓aSlice, bnd, ↓aIndexAddr, ↓aIndex, ↓aBuild, ↓aBuildSlice, fillL, ↓aMakeSlice, two, ↓opt_some, ↓opt_none, ldAV, aggT, szOf, zeroAV, tys, unders, chunks, spliceL, Cfg.ro, detOp, gval, resAll, resOne, packAV, ↓reduceIte, seval, reduceCtorEq, Int.cast_ofNat_Int, exists_const, implies_true, decide_true, decide_false, if_true, if_false]
      refine ho.use ?_
      simp only [untok_segA, rowsA_len, factsA_len, rowsA_nil, factsA_nil, List.length_append, Int.le_refl, room, i64_0, nx, keysA_len, keysA_nil, EVL, ite_toInt, ER, EW, Wv_nil, i6, i64, str, boo, EA, EL, ↓EP, binK, pickK, loadK, storeK, EO, Key.av, Cell.av, Fact.av, Row.av, ↓EC, ↓EK, EE, EB, ↓aBuiltin, ↓aAppend, rowsOf, ↓aLen, ↓aSlice, bnd, ↓aIndexAddr, ↓aIndex, ↓aBuild, ↓aBuildSlice, fillL, ↓aMakeSlice, two, ↓opt_some, ↓opt_none, ldAV, aggT, szOf, zeroAV, tys, unders, chunks, spliceL, Cfg.ro, detOp, gval, resAll, resOne, packAV, ↓reduceIte, seval, reduceCtorEq, Int.cast_ofNat_Int, exists_const, implies_true, decide_true, decide_false, if_true, if_false]
      refine hr.use ?_
      simp only [untok_segA, rowsA_len, factsA_len, rowsA_nil, factsA_nil, List.length_append, Int.le_refl, room, i64_0, nx, keysA_len, keysA_nil, EVL, ite_toInt, ER, EW, Wv_nil, i6, i64, str, boo, EA, EL, ↓EP, binK, pickK, loadK, storeK, EO, Key.av, Cell.av, Fact.av, Row.av, ↓EC, ↓EK, EE, EB, ↓aBuiltin, ↓aAppend, rowsOf, ↓aLen, ↓aSlice, bnd, ↓aIndexAddr, ↓aIndex, ↓aBuild, ↓aBuildSlice, fillL, ↓aMakeSlice, two, ↓opt_some, ↓opt_none, ldAV, aggT, szOf, zeroAV, tys, unders, chunks, spliceL, Cfg.ro, detOp, gval, resAll, resOne, packAV, ↓reduceIte, seval, reduceCtorEq, Int.cast_ofNat_Int, exists_const, implies_true, decide_true, decide_false, if_true, if_false]
      refine hb.use ?_
      simp only [untok_segA, rowsA_len, factsA_len, rowsA_nil, factsA_nil, List.length_append, Int.le_refl, room, i64_0, nx, keysA_len, keysA_nil, EVL, ite_toInt, ER, EW, Wv_nil, i6, i64, str, boo, EA, EL, ↓EP, binK, pickK, loadK, storeK, EO, Key.av, Cell.av, Fact.av, Row.av, ↓EC, ↓EK, EE, EB, ↓aBuiltin, ↓aAppend, rowsOf, ↓aLen, ↓aSlice, bnd, ↓aIndexAddr, ↓aIndex, ↓aBuild, ↓aBuildSlice, fillL, ↓aMakeSlice, two, ↓opt_some, ↓opt_none, ldAV, aggT, szOf, zeroAV, tys, unders, chunks, spliceL, Cfg.ro, detOp, gval, resAll, resOne, packAV, ↓reduceIte, seval, reduceCtorEq, Int.cast_ofNat_Int, exists_const, implies_true, decide_true, decide_false, if_true, if_false]
      refine hs.use ?_
      simp only [untok_segA, rowsA_len, factsA_len, rowsA_nil, factsA_nil, List.length_append, Int.le_refl, room, i64_0, nx, keysA_len, keysA_nil, EVL, ite_toInt, ER, EW, Wv_nil, i6, i64, str, boo, EA, EL, ↓EP, binK, pickK, loadK, storeK, EO, Key.av, Cell.av, Fact.av, Row.av, ↓EC, ↓EK, EE, EB, ↓aBuiltin, ↓aAppend, rowsOf, ↓aLen, ↓aSlice, bnd, ↓aIndexAddr, ↓aIndex, ↓aBuild, ↓aBuildSlice, fillL, ↓aMakeSlice, two, ↓opt_some, ↓opt_none, ldAV, aggT, szOf, zeroAV, tys, unders, chunks, spliceL, Cfg.ro, detOp, gval, resAll, resOne, packAV, ↓reduceIte, seval, reduceCtorEq, Int.cast_ofNat_Int, exists_const, implies_true, decide_true, decide_false, if_true, if_false]
      by_cases h3 : rightL none rows = true
      · rw [h3] at hz
        simp only [h3, if_true, resS] at hq
        have hb2 := back_spec (some rows) (show rows.length ≤ 1000000 by omega)
        have hs2 := same_spec rows rows (by omega)
        simp only [decide_true, Option.getD_some] at hs2 hb2
        refine hq.use ?_
        simp only [untok_segA, rowsA_len, factsA_len, rowsA_nil, factsA_nil, List.length_append, Int.le_refl, room, i64_0, nx, keysA_len, keysA_nil, EVL, ite_toInt, ER, EW, Wv_nil, i6, i64, str, boo, EA, EL, ↓EP, binK, pickK, loadK, storeK, EO, Key.av, Cell.av, Fact.av, Row.av, ↓EC, ↓EK, EE, EB, ↓aBuiltin, ↓aAppend, rowsOf, ↓aLen, ↓aSlice, bnd, ↓aIndexAddr, ↓aIndex, ↓aBuild, ↓aBuildSlice, fillL, ↓aMakeSlice, two, ↓opt_some, ↓opt_none, ldAV, aggT, szOf, zeroAV, tys, unders, chunks, spliceL, Cfg.ro, detOp, gval, resAll, resOne, packAV, ↓reduceIte, seval, reduceCtorEq, Int.cast_ofNat_Int, exists_const, implies_true, decide_true, decide_false, if_true, if_false]
        refine hz.use ?_
        simp only [untok_segA, rowsA_len, factsA_len, rowsA_nil, factsA_nil, List.length_append, Int.le_refl, room, i64_0, nx, keysA_len, keysA_nil, EVL, ite_toInt, ER, EW, Wv_nil, i6, i64, str, boo, EA, EL, ↓EP, binK, pickK, loadK, storeK, EO, Key.av, Cell.av, Fact.av, Row.av, ↓EC, ↓EK, EE, EB, ↓aBuiltin, ↓aAppend, rowsOf, ↓aLen, ↓aSlice, bnd, ↓aIndexAddr, ↓aIndex, ↓aBuild, ↓aBuildSlice, fillL, ↓aMakeSlice, two, ↓opt_some, ↓opt_none, ldAV, aggT, szOf, zeroAV, tys, unders, chunks, spliceL, Cfg.ro, detOp, gval, resAll, resOne, packAV, ↓reduceIte, seval, reduceCtorEq, Int.cast_ofNat_Int, exists_const, implies_true, decide_true, decide_false, if_true, if_false]
        refine hb2.use ?_
        simp only [untok_segA, rowsA_len, factsA_len, rowsA_nil, factsA_nil, List.length_append, Int.le_refl, room, i64_0, nx, keysA_len, keysA_nil, EVL, ite_toInt, ER, EW, Wv_nil, i6, i64, str, boo, EA, EL, ↓EP, binK, pickK, loadK, storeK, EO, Key.av, Cell.av, Fact.av, Row.av, ↓EC, ↓EK, EE, EB, ↓aBuiltin, ↓aAppend, rowsOf, ↓aLen, ↓aSlice, bnd, ↓aIndexAddr, ↓aIndex, ↓aBuild, ↓aBuildSlice, fillL, ↓aMakeSlice, two, ↓opt_some, ↓opt_none, ldAV, aggT, szOf, zeroAV, tys, unders, chunks, spliceL, Cfg.ro, detOp, gval, resAll, resOne, packAV, ↓reduceIte, seval, reduceCtorEq, Int.cast_ofNat_Int, exists_const, implies_true, decide_true, decide_false, if_true, if_false]
        refine hs2.use ?_
        simp only [untok_segA, rowsA_len, factsA_len, rowsA_nil, factsA_nil, List.length_append, Int.le_refl, room, i64_0, nx, keysA_len, keysA_nil, EVL, ite_toInt, ER, EW, Wv_nil, i6, i64, str, boo, EA, EL, ↓EP, binK, pickK, loadK, storeK, EO, Key.av, Cell.av, Fact.av, Row.av, ↓EC, ↓EK, EE, EB, ↓aBuiltin, ↓aAppend, rowsOf, ↓aLen, ↓aSlice, bnd, ↓aIndexAddr, ↓aIndex, ↓aBuild, ↓aBuildSlice, fillL, ↓aMakeSlice, two, ↓opt_some, ↓opt_none, ldAV, aggT, szOf, zeroAV, tys, unders, chunks, spliceL, Cfg.ro, detOp, gval, resAll, resOne, packAV, ↓reduceIte, seval, reduceCtorEq, Int.cast_ofNat_Int, exists_const, implies_true, decide_true, decide_false, if_true, if_false]
        refine alive_spec.use ?_
        simp only [untok_segA, rowsA_len, factsA_len, rowsA_nil, factsA_nil, List.length_append, Int.le_refl, room, i64_0, nx, keysA_len, keysA_nil, EVL, ite_toInt, ER, EW, Wv_nil, i6, i64, str, boo, EA, EL, ↓EP, binK, pickK, loadK, storeK, EO, Key.av, Cell.av, Fact.av, Row.av, ↓EC, ↓EK, EE, EB, ↓aBuiltin, ↓aAppend, rowsOf, ↓aLen, ↓aSlice, bnd, ↓aIndexAddr, ↓aIndex, ↓aBuild, ↓aBuildSlice, fillL, ↓aMakeSlice, two, ↓opt_some, ↓opt_none, ldAV, aggT, szOf, zeroAV, tys, unders, chunks, spliceL, Cfg.ro, detOp, gval, resAll, resOne, packAV, ↓reduceIte, seval, reduceCtorEq, Int.cast_ofNat_Int, exists_const, implies_true, decide_true, decide_false, if_true, if_false]
        exact Ret_pure (l := [boo true]) (.inr rfl) rfl (by simp only [untok_segA, rowsA_len, factsA_len, rowsA_nil, factsA_nil, List.length_append, Int.le_refl, room, i64_0, nx, keysA_len, keysA_nil, EVL, ite_toInt, ER, EW, Wv_nil, i6, i64, str, boo, EA, EL, ↓EP, binK, pickK, loadK, storeK, EO, Key.av, Cell.av, Fact.av, Row.av, ↓EC, ↓EK, EE, EB, ↓aBuiltin, ↓aAppend, rowsOf, ↓aLen, ↓aSlice, bnd, ↓aIndexAddr, ↓aIndex, ↓aBuild, ↓aBuildSlice, fillL, ↓aMakeSlice, two, ↓opt_some, ↓opt_none, ldAV, aggT, szOf, zeroAV, tys, unders, chunks, spliceL, Cfg.ro, detOp, gval, resAll, resOne, packAV, ↓reduceIte, seval, reduceCtorEq, Int.cast_ofNat_Int, exists_const, implies_true, decide_true, decide_false, if_true, if_false] <;> rfl) rfl (by first | exact Keeps.base _ _ | (repeat (first | exact Keeps.base _ _ | refine Keeps.new ?_ _ | refine Keeps.set ?_ (by first | (simp; done) | omega | (simp only [EO]; omega)) _))) (by show Bel _ (packAV [boo true]); exact (by first | exact .v _ | (simp only [packAV, rowsA_bel, factsA_bel, segA_bel, resS, if_true, if_false, Bool.false_eq_true, resC, Key.av, Cell.av, Fact.av, Row.av, zeroC, Bel_v, Bel_tup, Bel_agg, List.forall_mem_map, List.map_nil, false_implies, implies_true, List.mem_cons, List.not_mem_nil, or_false, forall_eq_or_imp, forall_eq, and_self, true_and, and_true, Bel_sl, Bel_ep, tokBel, implies_true])))
      · have h3 : rightL none rows = false := by simpa using h3
        rw [h3] at hz
        simp only [h3, Bool.false_eq_true, if_false, resS] at hq
        refine hq.use ?_
        simp only [untok_segA, rowsA_len, factsA_len, rowsA_nil, factsA_nil, List.length_append, Int.le_refl, room, i64_0, nx, keysA_len, keysA_nil, EVL, ite_toInt, ER, EW, Wv_nil, i6, i64, str, boo, EA, EL, ↓EP, binK, pickK, loadK, storeK, EO, Key.av, Cell.av, Fact.av, Row.av, ↓EC, ↓EK, EE, EB, ↓aBuiltin, ↓aAppend, rowsOf, ↓aLen, ↓aSlice, bnd, ↓aIndexAddr, ↓aIndex, ↓aBuild, ↓aBuildSlice, fillL, ↓aMakeSlice, two, ↓opt_some, ↓opt_none, ldAV, aggT, szOf, zeroAV, tys, unders, chunks, spliceL, Cfg.ro, detOp, gval, resAll, resOne, packAV, ↓reduceIte, seval, reduceCtorEq, Int.cast_ofNat_Int, exists_const, implies_true, decide_true, decide_false, if_true, if_false]
        refine hz.use ?_
        simp only [segA, untok_segA, rowsA_len, factsA_len, rowsA_nil, factsA_nil, List.length_append, Int.le_refl, room, i64_0, nx, keysA_len, keysA_nil, EVL, ite_toInt, ER, EW, Wv_nil, i6, i64, str, boo, EA, EL, ↓EP, binK, pickK, loadK, storeK, EO, Key.av, Cell.av, Fact.av, Row.av, ↓EC, ↓EK, EE, EB, ↓aBuiltin, ↓aAppend, rowsOf, ↓aLen, ↓aSlice, bnd, ↓aIndexAddr, ↓aIndex, ↓aBuild, ↓aBuildSlice, fillL, ↓aMakeSlice, two, ↓opt_some, ↓opt_none, ldAV, aggT, szOf, zeroAV, tys, unders, chunks, spliceL, Cfg.ro, detOp, gval, resAll, resOne, packAV, ↓reduceIte, seval, reduceCtorEq, Int.cast_ofNat_Int, exists_const, implies_true, decide_true, decide_false, if_true, if_false]
        refine eqK_use (AEq_nil u27) ?_
        simp only [untok_segA, rowsA_len, factsA_len, rowsA_nil, factsA_nil, List.length_append, Int.le_refl, room, i64_0, nx, keysA_len, keysA_nil, EVL, ite_toInt, ER, EW, Wv_nil, i6, i64, str, boo, EA, EL, ↓EP, binK, pickK, loadK, storeK, EO, Key.av, Cell.av, Fact.av, Row.av, ↓EC, ↓EK, EE, EB, ↓aBuiltin, ↓aAppend, rowsOf, ↓aLen, ↓aSlice, bnd, ↓aIndexAddr, ↓aIndex, ↓aBuild, ↓aBuildSlice, fillL, ↓aMakeSlice, two, ↓opt_some, ↓opt_none, ldAV, aggT, szOf, zeroAV, tys, unders, chunks, spliceL, Cfg.ro, detOp, gval, resAll, resOne, packAV, ↓reduceIte, seval, reduceCtorEq, Int.cast_ofNat_Int, exists_const, implies_true, decide_true, decide_false, if_true, if_false]
        refine alive_spec.use ?_
        simp only [untok_segA, rowsA_len, factsA_len, rowsA_nil, factsA_nil, List.length_append, Int.le_refl, room, i64_0, nx, keysA_len, keysA_nil, EVL, ite_toInt, ER, EW, Wv_nil, i6, i64, str, boo, EA, EL, ↓EP, binK, pickK, loadK, storeK, EO, Key.av, Cell.av, Fact.av, Row.av, ↓EC, ↓EK, EE, EB, ↓aBuiltin, ↓aAppend, rowsOf, ↓aLen, ↓aSlice, bnd, ↓aIndexAddr, ↓aIndex, ↓aBuild, ↓aBuildSlice, fillL, ↓aMakeSlice, two, ↓opt_some, ↓opt_none, ldAV, aggT, szOf, zeroAV, tys, unders, chunks, spliceL, Cfg.ro, detOp, gval, resAll, resOne, packAV, ↓reduceIte, seval, reduceCtorEq, Int.cast_ofNat_Int, exists_const, implies_true, decide_true, decide_false, if_true, if_false]
        exact Ret_pure (l := [boo true]) (.inr rfl) rfl (by simp only [untok_segA, rowsA_len, factsA_len, rowsA_nil, factsA_nil, List.length_append, Int.le_refl, room, i64_0, nx, keysA_len, keysA_nil, EVL, ite_toInt, ER, EW, Wv_nil, i6, i64, str, boo, EA, EL, ↓EP, binK, pickK, loadK, storeK, EO, Key.av, Cell.av, Fact.av, Row.av, ↓EC, ↓EK, EE, EB, ↓aBuiltin, ↓aAppend, rowsOf, ↓aLen, ↓aSlice, bnd, ↓aIndexAddr, ↓aIndex, ↓aBuild, ↓aBuildSlice, fillL, ↓aMakeSlice, two, ↓opt_some, ↓opt_none, ldAV, aggT, szOf, zeroAV, tys, unders, chunks, spliceL, Cfg.ro, detOp, gval, resAll, resOne, packAV, ↓reduceIte, seval, reduceCtorEq, Int.cast_ofNat_Int, exists_const, implies_true, decide_true, decide_false, if_true, if_false] <;> rfl) rfl (by first | exact Keeps.base _ _ | (repeat (first | exact Keeps.base _ _ | refine Keeps.new ?_ _ | refine Keeps.set ?_ (by first | (simp; done) | omega | (simp only [EO]; omega)) _))) (by show Bel _ (packAV [boo true]); exact (by first | exact .v _ | (simp only [packAV, rowsA_bel, factsA_bel, segA_bel, resS, if_true, if_false, Bool.false_eq_true, resC, Key.av, Cell.av, Fact.av, Row.av, zeroC, Bel_v, Bel_tup, Bel_agg, List.forall_mem_map, List.map_nil, false_implies, implies_true, List.mem_cons, List.not_mem_nil, or_false, forall_eq_or_imp, forall_eq, and_self, true_and, and_true, Bel_sl, Bel_ep, tokBel, implies_true])))
    · simp only [h2, decide_false] at hLR
      refine ACalls_body (C := ⟨[]⟩) (c := Try.f3.body.getD .skip) (rs := [.tmp 4]) Try.func3 (by kernel_rfl) (by kernel_rfl) (by kernel_rfl) (Nat.le_of_ble_eq_true rfl) (by kernel_rfl) fun hwf hbel => ?_; simp only [Try.f3, untok_segA, rowsA_len, factsA_len, rowsA_nil, factsA_nil, List.length_append, Int.le_refl, room, i64_0, nx, keysA_len, keysA_nil, EVL, ite_toInt, ER, EW, Wv_nil, i6, i64, str, boo, EA, EL, ↓EP, binK, pickK, loadK, storeK, EO, Key.av, Cell.av, Fact.av, Row.av, ↓EC, ↓EK, EE, EB, ↓aBuiltin, ↓aAppend, rowsOf, ↓aLen, ↓aSlice, bnd, ↓aIndexAddr, ↓aIndex, ↓aBuild, ↓aBuildSlice, fillL, ↓aMakeSlice, two, ↓opt_some, ↓opt_none, ldAV, aggT, szOf, zeroAV, tys, unders, chunks, spliceL, Cfg.ro, detOp, gval, resAll, resOne, packAV, ↓reduceIte, seval, reduceCtorEq, Int.cast_ofNat_Int, exists_const, implies_true, decide_true, decide_false, if_true, if_false]
      refine hLF.use ?_
      simp only [untok_segA, rowsA_len, factsA_len, rowsA_nil, factsA_nil, List.length_append, Int.le_refl, room, i64_0, nx, keysA_len, keysA_nil, EVL, ite_toInt, ER, EW, Wv_nil, i6, i64, str, boo, EA, EL, ↓EP, binK, pickK, loadK, storeK, EO, Key.av, Cell.av, Fact.av, Row.av, ↓EC, ↓EK, EE, EB, ↓aBuiltin, ↓aAppend, rowsOf, ↓aLen, ↓aSlice, bnd, ↓aIndexAddr, ↓aIndex, ↓aBuild, ↓aBuildSlice, fillL, ↓aMakeSlice, two, ↓opt_some, ↓opt_none, ldAV, aggT, szOf, zeroAV, tys, unders, chunks, spliceL, Cfg.ro, detOp, gval, resAll, resOne, packAV, ↓reduceIte, seval, reduceCtorEq, Int.cast_ofNat_Int, exists_const, implies_true, decide_true, decide_false, if_true, if_false]
      refine hLR.use ?_
      simp only [untok_segA, rowsA_len, factsA_len, rowsA_nil, factsA_nil, List.length_append, Int.le_refl, room, i64_0, nx, keysA_len, keysA_nil, EVL, ite_toInt, ER, EW, Wv_nil, i6, i64, str, boo, EA, EL, ↓EP, binK, pickK, loadK, storeK, EO, Key.av, Cell.av, Fact.av, Row.av, ↓EC, ↓EK, EE, EB, ↓aBuiltin, ↓aAppend, rowsOf, ↓aLen, ↓aSlice, bnd, ↓aIndexAddr, ↓aIndex, ↓aBuild, ↓aBuildSlice, fillL, ↓aMakeSlice, two, ↓opt_some, ↓opt_none, ldAV, aggT, szOf, zeroAV, tys, unders, chunks, spliceL, Cfg.ro, detOp, gval, resAll, resOne, packAV, ↓reduceIte, seval, reduceCtorEq, Int.cast_ofNat_Int, exists_const, implies_true, decide_true, decide_false, if_true, if_false]
      refine alive_spec.use ?_
      simp only [untok_segA, rowsA_len, factsA_len, rowsA_nil, factsA_nil, List.length_append, Int.le_refl, room, i64_0, nx, keysA_len, keysA_nil, EVL, ite_toInt, ER, EW, Wv_nil, i6, i64, str, boo, EA, EL, ↓EP, binK, pickK, loadK, storeK, EO, Key.av, Cell.av, Fact.av, Row.av, ↓EC, ↓EK, EE, EB, ↓aBuiltin, ↓aAppend, rowsOf, ↓aLen, ↓aSlice, bnd, ↓aIndexAddr, ↓aIndex, ↓aBuild, ↓aBuildSlice, fillL, ↓aMakeSlice, two, ↓opt_some, ↓opt_none, ldAV, aggT, szOf, zeroAV, tys, unders, chunks, spliceL, Cfg.ro, detOp, gval, resAll, resOne, packAV, ↓reduceIte, seval, reduceCtorEq, Int.cast_ofNat_Int, exists_const, implies_true, decide_true, decide_false, if_true, if_false]
      exact Ret_pure (l := [boo true]) (.inr rfl) rfl (by simp only [untok_segA, rowsA_len, factsA_len, rowsA_nil, factsA_nil, List.length_append, Int.le_refl, room, i64_0, nx, keysA_len, keysA_nil, EVL, ite_toInt, ER, EW, Wv_nil, i6, i64, str, boo, EA, EL, ↓EP, binK, pickK, loadK, storeK, EO, Key.av, Cell.av, Fact.av, Row.av, ↓EC, ↓EK, EE, EB, ↓aBuiltin, ↓aAppend, rowsOf, ↓aLen, ↓aSlice, bnd, ↓aIndexAddr, ↓aIndex, ↓aBuild, ↓aBuildSlice, fillL, ↓aMakeSlice, two, ↓opt_some, ↓opt_none, ldAV, aggT, szOf, zeroAV, tys, unders, chunks, spliceL, Cfg.ro, detOp, gval, resAll, resOne, packAV, ↓reduceIte, seval, reduceCtorEq, Int.cast_ofNat_Int, exists_const, implies_true, decide_true, decide_false, if_true, if_false] <;> rfl) rfl (by first | exact Keeps.base _ _ | (repeat (first | exact Keeps.base _ _ | refine Keeps.new ?_ _ | refine Keeps.set ?_ (by first | (simp; done) | omega | (simp only [EO]; omega)) _))) (by show Bel _ (packAV [boo true]); exact (by first | exact .v _ | (simp only [packAV, rowsA_bel, factsA_bel, segA_bel, resS, if_true, if_false, Bool.false_eq_true, resC, Key.av, Cell.av, Fact.av, Row.av, zeroC, Bel_v, Bel_tup, Bel_agg, List.forall_mem_map, List.map_nil, false_implies, implies_true, List.mem_cons, List.not_mem_nil, or_false, forall_eq_or_imp, forall_eq, and_self, true_and, and_true, Bel_sl, Bel_ep, tokBel, implies_true])))
  · have h1 : lightF l = false := by simpa using h1
    rw [h1] at hLF
    refine ACalls_body (C := ⟨[]⟩) (c := Try.f3.body.getD .skip) (rs := [.tmp 4]) Try.func3 (by kernel_rfl) (by kernel_rfl) (by kernel_rfl) (Nat.le_of_ble_eq_true rfl) (by kernel_rfl) fun hwf hbel => ?_; simp only [Try.f3, untok_segA, rowsA_len, factsA_len, rowsA_nil, factsA_nil, List.length_append, Int.le_refl, room, i64_0, nx, keysA_len, keysA_nil, EVL, ite_toInt, ER, EW, Wv_nil, i6, i64, str, boo, EA, EL, ↓EP, binK, pickK, loadK, storeK, EO, Key.av, Cell.av, Fact.av, Row.av, ↓EC, ↓EK, EE, EB, ↓aBuiltin, ↓aAppend, rowsOf, ↓aLen, ↓aSlice, bnd, ↓aIndexAddr, ↓aIndex, ↓aBuild, ↓aBuildSlice, fillL, ↓aMakeSlice, two, ↓opt_some, ↓opt_none, ldAV, aggT, szOf, zeroAV, tys, unders, chunks, spliceL, Cfg.ro, detOp, gval, resAll, resOne, packAV, ↓reduceIte, seval, reduceCtorEq, Int.cast_ofNat_Int, exists_const, implies_true, decide_true, decide_false, if_true, if_false]
    refine hLF.use ?_
    simp only [untok_segA, rowsA_len, factsA_len, rowsA_nil, factsA_nil, List.length_append, Int.le_refl, room, i64_0, nx, keysA_len, keysA_nil, EVL, ite_toInt, ER, EW, Wv_nil, i6, i64, str, boo, EA, EL, ↓EP, binK, pickK, loadK, storeK, EO, Key.av, Cell.av, Fact.av, Row.av, ↓EC, ↓EK, EE, EB, ↓aBuiltin, ↓aAppend, rowsOf, ↓aLen, ↓aSlice, bnd, ↓aIndexAddr, ↓aIndex, ↓aBuild, ↓aBuildSlice, fillL, ↓aMakeSlice, two, ↓opt_some, ↓opt_none, ldAV, aggT, szOf, zeroAV, tys, unders, chunks, spliceL, Cfg.ro, detOp, gval, resAll, resOne, packAV, ↓reduceIte, seval, reduceCtorEq, Int.cast_ofNat_Int, exists_const, implies_true, decide_true, decide_false, if_true, if_false]
    refine alive_spec.use ?_
    simp only [untok_segA, rowsA_len, factsA_len, rowsA_nil, factsA_nil, List.length_append, Int.le_refl, room, i64_0, nx, keysA_len, keysA_nil, EVL, ite_toInt, ER, EW, Wv_nil, i6, i64, str, boo, EA, EL, ↓EP, binK, pickK, loadK, storeK, EO, Key.av, Cell.av, Fact.av, Row.av, ↓EC, ↓EK, EE, EB, ↓aBuiltin, ↓aAppend, rowsOf, ↓aLen, ↓aSlice, bnd, ↓aIndexAddr, ↓aIndex, ↓aBuild, ↓aBuildSlice, fillL, ↓aMakeSlice, two, ↓opt_some, ↓opt_none, ldAV, aggT, szOf, zeroAV, tys, unders, chunks, spliceL, Cfg.ro, detOp, gval, resAll, resOne, packAV, ↓reduceIte, seval, reduceCtorEq, Int.cast_ofNat_Int, exists_const, implies_true, decide_true, decide_false, if_true, if_false]
    exact Ret_pure (l := [boo true]) (.inr rfl) rfl (by simp only [untok_segA, rowsA_len, factsA_len, rowsA_nil, factsA_nil, List.length_append, Int.le_refl, room, i64_0, nx, keysA_len, keysA_nil, EVL, ite_toInt, ER, EW, Wv_nil, i6, i64, str, boo, EA, EL, ↓EP, binK, pickK, loadK, storeK, EO, Key.av, Cell.av, Fact.av, Row.av, ↓EC, ↓EK, EE, EB, ↓aBuiltin, ↓aAppend, rowsOf, ↓aLen, ↓aSlice, bnd, ↓aIndexAddr, ↓aIndex, ↓aBuild, ↓aBuildSlice, fillL, ↓aMakeSlice, two, ↓opt_some, ↓opt_none, ldAV, aggT, szOf, zeroAV, tys, unders, chunks, spliceL, Cfg.ro, detOp, gval, resAll, resOne, packAV, ↓reduceIte, seval, reduceCtorEq, Int.cast_ofNat_Int, exists_const, implies_true, decide_true, decide_false, if_true, if_false] <;> rfl) rfl (by first | exact Keeps.base _ _ | (repeat (first | exact Keeps.base _ _ | refine Keeps.new ?_ _ | refine Keeps.set ?_ (by first | (simp; done) | omega | (simp only [EO]; omega)) _))) (by show Bel _ (packAV [boo true]); exact (by first | exact .v _ | (simp only [packAV, rowsA_bel, factsA_bel, segA_bel, resS, if_true, if_false, Bool.false_eq_true, resC, Key.av, Cell.av, Fact.av, Row.av, zeroC, Bel_v, Bel_tup, Bel_agg, List.forall_mem_map, List.map_nil, false_implies, implies_true, List.mem_cons, List.not_mem_nil, or_false, forall_eq_or_imp, forall_eq, and_self, true_and, and_true, Bel_sl, Bel_ep, tokBel, implies_true])))

end Go.Proofs
