/- Part of the proof of a law of this seat: the texts Lay1 S15 S16 S17, in this order. -/
import Derived.Test.YthldahfkngeehaaProg
import Derived.Shelf.SlSortCmp.NoneTotal
import Derived.Shelf.SlGeneric
import Derived.Test.YthldahfkngeehaaK
import Derived.Test.YthldahfkngeehaaE
/-
  DERIVED: THE SHELF's CONTRACTS AT THIS DUMP, IN PLAIN WORDS (tools/lay-plain.mjs out of 'TryShelf.lean', which tools/lay-shelf.mjs wrote): THE SAME DECLARATIONS UNDER THE SAME NAMES: 'import', 'namespace', 'open', 'def', 'theorem' AND NOTHING ELSE: no command of the shelf's: FOR A HAND-IN. Each laying: the table of numbers ('.._ren') and one theorem, a field a fact of the dump's own or the kernel's comparison; each contract: ONE APPLICATION.
-/
namespace Go.Proofs
open Go.Shelf
def Try.sortL_ren : Go.Shelf.Ren := ⟨fun | 6 => 96 | 15 => 127 | 14 => 126 | 28 => 148 | 29 => 149 | 20 => 140 | 21 => 141 | 22 => 142 | 23 => 143 | 24 => 144 | 25 => 145 | 26 => 146 | 27 => 147 | 46 => 156 | 47 => 157 | 48 => 158 | 49 => 159 | 50 => 160 | 57 => 166 | n => n, fun | 22 => 90 | 24 => 39 | 25 => 95 | 3 => 3 | 39 => 156 | 0 => 0 | 53 => 196 | 55 => 122 | 4 => 4 | 46 => 204 | 45 => 203 | 50 => 111 | 5 => 5 | 9 => 9 | 66 => 215 | 70 => 218 | 76 => 223 | 77 => 224 | n => n, fun | n => n⟩
theorem Try.sortL : Go.Proofs.SlLaysF0.n6 Try.prog Try.sortL_ren := {
  mixed := by kernel_rfl
  f6 := ⟨Try.f96.name, by decide, Try.func96.trans (congrArg some (by kernel_rfl))⟩
  f14 := ⟨Try.f126.name, by decide, Try.func126.trans (congrArg some (by kernel_rfl))⟩
  f15 := Try.func127.trans (congrArg some (by kernel_rfl))
  f20 := ⟨Try.f140.name, by decide, Try.func140.trans (congrArg some (by kernel_rfl))⟩
  f21 := ⟨Try.f141.name, by decide, Try.func141.trans (congrArg some (by kernel_rfl))⟩
  f22 := ⟨Try.f142.name, by decide, Try.func142.trans (congrArg some (by kernel_rfl))⟩
  f23 := ⟨Try.f143.name, by decide, Try.func143.trans (congrArg some (by kernel_rfl))⟩
  f24 := ⟨Try.f144.name, by decide, Try.func144.trans (congrArg some (by kernel_rfl))⟩
  f25 := ⟨Try.f145.name, by decide, Try.func145.trans (congrArg some (by kernel_rfl))⟩
  f26 := ⟨Try.f146.name, by decide, Try.func146.trans (congrArg some (by kernel_rfl))⟩
  f27 := ⟨Try.f147.name, by decide, Try.func147.trans (congrArg some (by kernel_rfl))⟩
  f28 := Try.func148.trans (congrArg some (by kernel_rfl))
  f29 := Try.func149.trans (congrArg some (by kernel_rfl))
  f46 := ⟨Try.f156.name, by decide, Try.func156.trans (congrArg some (by kernel_rfl))⟩
  f47 := Try.func157.trans (congrArg some (by kernel_rfl))
  f48 := Try.func158.trans (congrArg some (by kernel_rfl))
  f49 := ⟨Try.f159.name, by decide, Try.func159.trans (congrArg some (by kernel_rfl))⟩
  f50 := ⟨Try.f160.name, by decide, Try.func160.trans (congrArg some (by kernel_rfl))⟩
  f57 := ⟨Try.f166.name, by decide, Try.func166.trans (congrArg some (by kernel_rfl))⟩
  t0 := Try.underlying0
  a0 := Try.isAgg0
  z0 := Try.sizeOf0
  v0 := Try.zeroValue0
  t3 := Try.underlying3
  a3 := Try.isAgg3
  z3 := Try.sizeOf3
  v3 := Try.zeroValue3
  t4 := Try.underlying4
  a4 := Try.isAgg4
  z4 := Try.sizeOf4
  v4 := Try.zeroValue4
  t5 := Try.underlying5
  a5 := Try.isAgg5
  z5 := Try.sizeOf5
  v5 := Try.zeroValue5
  t9 := Try.underlying9
  a9 := Try.isAgg9
  z9 := Try.sizeOf9
  v9 := Try.zeroValue9
  t22 := Try.underlying90
  a22 := Try.isAgg90
  z22 := Try.sizeOf90
  v22 := Try.zeroValue90
  t25 := Try.underlying95
  a25 := Try.isAgg95
  z25 := Try.sizeOf95
  v25 := Try.zeroValue95
  t39 := Try.underlying156
  a39 := Try.isAgg156
  z39 := Try.sizeOf156
  v39 := Try.zeroValue156
  t45 := Try.underlying203
  a45 := Try.isAgg203
  z45 := Try.sizeOf203
  v45 := Try.zeroValue203
  t46 := Try.underlying204
  a46 := Try.isAgg204
  z46 := Try.sizeOf204
  v46 := Try.zeroValue204
  t50 := Try.underlying111
  a50 := Try.isAgg111
  z50 := Try.sizeOf111
  v50 := Try.zeroValue111
  t53 := Try.underlying196
  a53 := Try.isAgg196
  z53 := Try.sizeOf196
  v53 := Try.zeroValue196
  t55 := Try.underlying122
  a55 := Try.isAgg122
  z55 := Try.sizeOf122
  v55 := Try.zeroValue122
  t66 := Try.underlying215
  a66 := Try.isAgg215
  z66 := Try.sizeOf215
  v66 := Try.zeroValue215
  t70 := Try.underlying218
  a70 := Try.isAgg218
  z70 := Try.sizeOf218
  v70 := Try.zeroValue218
  t76 := Try.underlying223
  a76 := Try.isAgg223
  z76 := Try.sizeOf223
  v76 := Try.zeroValue223
  t77 := Try.underlying224
  a77 := Try.isAgg224
  z77 := Try.sizeOf224
  v77 := Try.zeroValue224 }
end Go.Proofs

namespace Go.Proofs
open Go Go.Av
set_option linter.unusedSimpArgs false
set_option linter.unusedVariables false
set_option maxRecDepth 30000
set_option maxHeartbeats 2000000

theorem nx0 : (∀ n : Nat, (n + 3 = n) = False) ∧ (∀ n : Nat, (n = n + 3) = False) ∧ (∀ n : Nat, (n + 3 = n + 1) = False) ∧ (∀ n : Nat, (n + 1 = n + 3) = False) := by refine ⟨?_, ?_, ?_, ?_⟩ <;> (intro n; apply eq_false; omega)

theorem appendSeq_spec (l : List (Key × Cell)) (s : AState) (m : Nat) (hm : s.obj m = some (.map (entA l))) (hlen : l.length ≤ 1000000) :
    ACalls Try.prog 125 [.v (.slice none 0 0), .fn 97 [] [.ep [.mp m] 0]] s (fun d s' => ∃ ks : List Key, ks.Perm (l.map (·.1)) ∧ d = .sl 5 (keysA ks) (.row (s.next + 1) ks.length) ∧
      s' = { s with obj := fun i => if i = s.next + 1 then some (.row ks.length) else s.obj i, next := s.next + 2 }) := by
  refine ACalls_bodyM (C := ⟨[]⟩) (c := Try.f125.body.getD .skip) (rs := [.tmp 4]) Try.func125 (by kernel_rfl) (by kernel_rfl) (by kernel_rfl) (Nat.le_of_ble_eq_true rfl) (by kernel_rfl) fun hwf hbel => ?_
  simp only [Try.f125, untok_segA, rowsA_len, factsA_len, rowsA_nil, factsA_nil, List.length_append, Int.le_refl, room, i64_0, nx, keysA_len, EVL, ite_toInt, ER, EW, Wv_nil, i6, i64, str, boo, EA, EL, ↓EP, binK, pickK, loadK, storeK, EO, Key.av, Cell.av, Fact.av, Row.av, ↓EC, ↓EK, EE, EB, ↓aBuiltin, ↓aAppend, rowsOf, ↓aLen, ↓aSlice, bnd, ↓aIndexAddr, ↓aIndex, ↓aBuild, ↓aBuildSlice, fillL, ↓aMakeSlice, two, ↓opt_some, ↓opt_none, ldAV, aggT, szOf, zeroAV, tys, unders, chunks, spliceL, Cfg.ro, detOp, gval, resAll, resOne, packAV, ↓reduceIte, seval, reduceCtorEq, Int.cast_ofNat_Int, exists_const, implies_true, decide_true, decide_false, if_true, if_false]
  have k4 := (hwf _ _ hm).1
  show ACode _ _ _ _ _
  refine ACode_ent ((AEnt_reserve _ _).trans (AEnt_obj (id := s.next) (cs := [.v (.slice none 0 0)]) (cs' := [.sl 5 [] (.row (s.next + 1) 0)]) ?_ ⟨?_, trivial⟩ rfl)) ?_
  · simp [AState.new]
  · exact .inr (.inr ⟨rfl, 5, _, rfl, by decide, .inr (.inr ⟨s.next + 1, rfl, by simp [AState.new]⟩)⟩)
  refine rangeFunc_law (gf := 97) (first := []) (cap := [.ep [.mp m] 0]) rfl fun n hb => ?_
  simp only [codeBel, Bool.and_eq_true] at hb
  obtain ⟨⟨hb1, hb2⟩, hb3⟩ := hb
  refine ACalls_mono ?post (keyIter_spec l _ (s.next + 3) s.next (s.next + 1) m ?eL [7] n ?asg ?body (s.next + 2) ?hL ?hbx ?hrid ?hm hlen ?hy)
  case hL => exact new_self _ _
  case hbx => (simp only [upd, AState.set, AState.new]; (repeat (first | rw [if_neg (by omega)] | rw [if_pos (by omega)] | (simp only [↓reduceIte]; done) | simp only [↓reduceIte])); try rfl)
  case hrid => (simp only [upd, AState.set, AState.new]; (repeat (first | rw [if_neg (by omega)] | rw [if_pos (by omega)] | (simp only [↓reduceIte]; done) | simp only [↓reduceIte])); try rfl)
  case hm => (simp only [upd, AState.set, AState.new]; (repeat (first | rw [if_neg (by omega)] | rw [if_pos (by omega)] | (simp only [↓reduceIte]; done) | simp only [↓reduceIte])); try rfl); exact hm
  case hy =>
    intro s' acc x hL hbx hrid hacc
    refine AYield_body (C := ⟨[]⟩) hL rfl hb1 hb2 hb3 rfl rfl fun hwf' hbel' => ?_
    have q1 := (hwf' _ _ hL).1
    have q2 := (hwf' _ _ hbx).1
    have q3 := (hwf' _ _ hrid).1
    have c1 : ¬ (s.next + 3 = s'.next) := by omega
    have c2 : ¬ (s.next = s'.next) := by omega
    have c3 : ¬ (s.next + 1 = s'.next) := by omega
    have c4 : (((acc.length : Int) + 1) * 72 ≤ 140737488355328) := by omega
    have c5 : ¬ (s'.next = s.next + 3) := by omega
    have c6 : ¬ (s'.next = s.next) := by omega
    have c7 : ¬ (s'.next = s.next + 1) := by omega
    simp only [EZ, EZ0, c1, c2, c3, c5, c6, c7, hL, hbx, hrid, nx0, untok_segA, rowsA_len, factsA_len, rowsA_nil, factsA_nil, List.length_append, Int.le_refl, room, i64_0, nx, keysA_len, EVL, ite_toInt, ER, EW, Wv_nil, i6, i64, str, boo, EA, EL, ↓EP, binK, pickK, loadK, storeK, EO, Key.av, Cell.av, Fact.av, Row.av, ↓EC, ↓EK, EE, EB, ↓aBuiltin, ↓aAppend, rowsOf, ↓aLen, ↓aSlice, bnd, ↓aIndexAddr, ↓aIndex, ↓aBuild, ↓aBuildSlice, fillL, ↓aMakeSlice, two, ↓opt_some, ↓opt_none, ldAV, aggT, szOf, zeroAV, tys, unders, chunks, spliceL, Cfg.ro, detOp, gval, resAll, resOne, packAV, ↓reduceIte, seval, reduceCtorEq, Int.cast_ofNat_Int, exists_const, implies_true, decide_true, decide_false, if_true, if_false]
    refine ⟨by omega, by (simp only [upd, AState.set, AState.new]; (repeat (first | rw [if_neg (by omega)] | rw [if_pos (by omega)] | (simp only [↓reduceIte]; done) | simp only [↓reduceIte])); try rfl), upd s' s.next (s.next + 1) (acc ++ [x]), AFin_drop rfl rfl (Nat.le_succ _) (fun i o ho => ?_) (.v _), rfl, rfl⟩
    obtain ⟨h1, h2⟩ := Wf_upd hwf' q2 q3 i o ho
    refine ⟨h1, h2, ?_⟩
    rw [← ho]
    simp only [upd, AState.set, AState.new, keysA_app, List.length_append, List.length_cons, List.length_nil] at h1 ⊢
    (repeat' split) <;> first | rfl | omega | (have e : i = s.next + 3 := (by omega); rw [e]; exact hL.symm)
  case post =>
    rintro d s3 ⟨rfl, ks, hp, rfl⟩
    refine ⟨.ready, none, by decide, ?_, ?_⟩
    · (simp only [upd, AState.set, AState.new]; (repeat (first | rw [if_neg (by omega)] | rw [if_pos (by omega)] | (simp only [↓reduceIte]; done) | simp only [↓reduceIte])); try rfl)
    have d1 : ¬ (s.next = s.next + 2) := by omega
    have d2 : ¬ (s.next + 2 = s.next) := by omega
    have d3 : ¬ (s.next + 2 = s.next + 1) := by omega
    have d4 : ¬ (s.next + 1 = s.next + 2) := by omega
    have d5 : ¬ (s.next + 2 = s.next + 3) := by omega
    have d6 : ¬ (s.next = s.next + 1) := by omega
    simp only [jumpQ, upd, AState.mark, AState.del, nx0, d1, d2, d3, d4, d5, d6, untok_segA, rowsA_len, factsA_len, rowsA_nil, factsA_nil, List.length_append, Int.le_refl, room, i64_0, nx, keysA_len, EVL, ite_toInt, ER, EW, Wv_nil, i6, i64, str, boo, EA, EL, ↓EP, binK, pickK, loadK, storeK, EO, Key.av, Cell.av, Fact.av, Row.av, ↓EC, ↓EK, EE, EB, ↓aBuiltin, ↓aAppend, rowsOf, ↓aLen, ↓aSlice, bnd, ↓aIndexAddr, ↓aIndex, ↓aBuild, ↓aBuildSlice, fillL, ↓aMakeSlice, two, ↓opt_some, ↓opt_none, ldAV, aggT, szOf, zeroAV, tys, unders, chunks, spliceL, Cfg.ro, detOp, gval, resAll, resOne, packAV, ↓reduceIte, seval, reduceCtorEq, Int.cast_ofNat_Int, exists_const, implies_true, decide_true, decide_false, if_true, if_false]
    refine RetM_more (l := [.sl 5 (keysA ks) (.row (s.next + 1) ks.length)]) (m := [.sl 5 (keysA ks) (.row (s.next + 1) ks.length)]) (S := { s with obj := fun i => if i = s.next + 1 then some (.row ks.length) else s.obj i, next := s.next + 2 }) (.inr rfl) (leaveS_one (D := s.next + 1 + 1) rfl (by (simp only [upd, AState.set, AState.new]; (repeat (first | rw [if_neg (by omega)] | rw [if_pos (by omega)] | (simp only [↓reduceIte]; done) | simp only [↓reduceIte])); try rfl))) (by simp only [untok_segA, rowsA_len, factsA_len, rowsA_nil, factsA_nil, List.length_append, Int.le_refl, room, i64_0, nx, keysA_len, EVL, ite_toInt, ER, EW, Wv_nil, i6, i64, str, boo, EA, EL, ↓EP, binK, pickK, loadK, storeK, EO, Key.av, Cell.av, Fact.av, Row.av, ↓EC, ↓EK, EE, EB, ↓aBuiltin, ↓aAppend, rowsOf, ↓aLen, ↓aSlice, bnd, ↓aIndexAddr, ↓aIndex, ↓aBuild, ↓aBuildSlice, fillL, ↓aMakeSlice, two, ↓opt_some, ↓opt_none, ldAV, aggT, szOf, zeroAV, tys, unders, chunks, spliceL, Cfg.ro, detOp, gval, resAll, resOne, packAV, ↓reduceIte, seval, reduceCtorEq, Int.cast_ofNat_Int, exists_const, implies_true, decide_true, decide_false, if_true, if_false]) ⟨.inl rfl, trivial⟩ (Nat.le_add_right _ _) rfl (by simp only [AState.del]; omega) ?_ ?_ ⟨ks, hp, rfl, rfl⟩
    · intro i o ho
      simp only at ho
      split at ho
      · rename_i e
        subst e
        cases ho
        refine ⟨by show s.next + 1 < s.next + 2; omega, trivial, ?_⟩
        simp only [AState.del]
        ((repeat (first | rw [if_neg (by omega)] | rw [if_pos (by omega)] | (simp only [↓reduceIte]; done) | simp only [↓reduceIte])); try rfl)
      · obtain ⟨h1, h2⟩ := hwf i o ho
        refine ⟨Nat.lt_of_lt_of_le h1 (Nat.le_add_right _ _), h2.mono (Nat.le_add_right _ _), ?_⟩
        simp only [AState.del]
        ((repeat (first | rw [if_neg (by omega)] | rw [if_pos (by omega)] | (simp only [↓reduceIte]; done) | simp only [↓reduceIte])); try rfl)
        exact ho
    · simp only [packAV, Bel_sl, keysA_bel, tokBel, true_and]
      show s.next + 1 < s.next + 2
      omega

end Go.Proofs

namespace Go.Proofs
open Go Go.Av Go.Sort
set_option linter.unusedSimpArgs false
set_option linter.unusedVariables false
set_option maxRecDepth 30000
set_option maxHeartbeats 2000000

/-! The order of keys -/
structure Good {α : Type} (c : α → α → Int) : Prop where
  zero : ∀ x y, c x y = 0 ↔ x = y
  anti : ∀ x y, c x y < 0 ↔ 0 < c y x
  trans : ∀ x y z, c x y < 0 → c y z < 0 → c x z < 0

theorem good_int : Good cmpI := by
  refine ⟨fun x y => ?_, fun x y => ?_, fun x y z => ?_⟩ <;> simp only [cmpI] <;> (repeat' split) <;> omega

theorem bl_iff (a b : UInt8) (x y : List UInt8) : Op.bytesLess (a :: x) (b :: y) = true ↔ a.toNat < b.toNat ∨ (a = b ∧ Op.bytesLess x y = true) := by
  simp only [Op.bytesLess, Bool.or_eq_true, decide_eq_true_eq, Bool.and_eq_true, beq_iff_eq]
  rw [UInt8.lt_iff_toNat_lt]
theorem bl_irrefl : ∀ x : List UInt8, ¬ Op.bytesLess x x = true := fun x => by rw [less_irrefl]; simp
theorem bl_trans : ∀ x y z : List UInt8, Op.bytesLess x y = true → Op.bytesLess y z = true → Op.bytesLess x z = true
  | _, [], _, h, _ => by cases ‹List UInt8› <;> simp [Op.bytesLess] at h
  | _, _ :: _, [], _, h => by simp [Op.bytesLess] at h
  | [], _ :: _, _ :: _, _, _ => rfl
  | a :: x, b :: y, c :: z, h1, h2 => by
    rw [bl_iff] at h1 h2 ⊢
    rcases h1 with h1 | ⟨rfl, h1⟩ <;> rcases h2 with h2 | ⟨rfl, h2⟩
    · exact .inl (by omega)
    · exact .inl h1
    · exact .inl h2
    · exact .inr ⟨rfl, bl_trans x y z h1 h2⟩
theorem bl_total : ∀ x y : List UInt8, ¬ Op.bytesLess x y = true → ¬ Op.bytesLess y x = true → x = y
  | [], [], _, _ => rfl
  | [], _ :: _, h, _ => by simp [Op.bytesLess] at h
  | _ :: _, [], _, h => by simp [Op.bytesLess] at h
  | a :: x, b :: y, h1, h2 => by
    rw [bl_iff] at h1 h2
    have e : a = b := by
      apply UInt8.toNat_inj.1
      rcases Nat.lt_trichotomy a.toNat b.toNat with h | h | h
      · exact absurd (.inl h) h1
      · exact h
      · exact absurd (.inl h) h2
    subst e
    rw [bl_total x y (fun h => h1 (.inr ⟨rfl, h⟩)) (fun h => h2 (.inr ⟨rfl, h⟩))]

theorem good_bytes : Good cmpB := by
  have eqv : ∀ x y : ByteArray, (x.toList == y.toList) = decide (x = y) := str_beq
  have z : ∀ x y, cmpB x y = 0 ↔ x = y := by
    intro x y
    simp only [cmpB, eqv]
    split
    · rename_i h; refine ⟨fun h => by omega, fun e => ?_⟩; subst e; exact absurd h (bl_irrefl _)
    · split
      · rename_i h; simpa using h
      · rename_i h; simp at h; simp [h]
  have n : ∀ x y, cmpB x y < 0 ↔ Op.bytesLess x.toList y.toList = true := by
    intro x y
    simp only [cmpB]
    split
    · rename_i h; simp [h]
    · rename_i h; split <;> simp [h]
  have p : ∀ x y, 0 < cmpB x y ↔ Op.bytesLess y.toList x.toList = true := by
    intro x y
    simp only [cmpB, eqv]
    split
    · rename_i h; refine ⟨fun h => by omega, fun h2 => absurd (bl_trans _ _ _ h h2) (bl_irrefl _)⟩
    · rename_i h
      split
      · rename_i e; simp at e; subst e; simp [less_irrefl]
      · rename_i e
        refine ⟨fun _ => ?_, fun _ => by decide⟩
        by_cases h2 : Op.bytesLess y.toList x.toList = true
        · exact h2
        · have := bl_total _ _ h h2
          have e2 := eqv x y
          rw [this] at e2
          simp at e2 e
          exact absurd e2 e
  exact ⟨z, fun x y => by rw [n, p], fun x y w => by rw [n, n, n]; exact bl_trans _ _ _⟩

theorem good_list : ∀ n, (∀ x y, x.length = n → y.length = n → (cmpL x y = 0 ↔ x = y) ∧ (cmpL x y < 0 ↔ 0 < cmpL y x)) ∧ (∀ x y z, x.length = n → y.length = n → z.length = n → cmpL x y < 0 → cmpL y z < 0 → cmpL x z < 0)
  | 0 => by
    refine ⟨fun x y hx hy => ?_, fun x y z hx hy hz => ?_⟩
    · rw [List.eq_nil_of_length_eq_zero hx, List.eq_nil_of_length_eq_zero hy]; simp [cmpL]
    · rw [List.eq_nil_of_length_eq_zero hx, List.eq_nil_of_length_eq_zero hy]; simp [cmpL]
  | n + 1 => by
    obtain ⟨ih1, ih2⟩ := good_list n
    have g := good_bytes
    refine ⟨fun x y hx hy => ?_, fun x y z hx hy hz => ?_⟩
    · match x, y, hx, hy with
      | a :: x, b :: y, hx, hy =>
        obtain ⟨i1, i2⟩ := ih1 x y (by simpa using hx) (by simpa using hy)
        have z1 := g.zero a b
        have z2 := g.zero b a
        have a1 := g.anti a b
        simp only [cmpL, List.cons.injEq]
        by_cases e : a = b
        · subst e
          simp only [(g.zero a a).2 rfl, if_true, true_and]
          exact ⟨i1, i2⟩
        · have n1 : cmpB a b ≠ 0 := fun h => e (z1.1 h)
          have n2 : cmpB b a ≠ 0 := fun h => e (z2.1 h).symm
          simp only [n1, n2, if_false, e, false_and, iff_false]
          exact ⟨(by first | exact n1 | trivial), a1⟩
    · match x, y, z, hx, hy, hz with
      | a :: x, b :: y, c :: z, hx, hy, hz =>
        have i2 := ih2 x y z (by simpa using hx) (by simpa using hy) (by simpa using hz)
        simp only [cmpL]
        intro h1 h2
        by_cases e1 : a = b
        · subst e1
          simp only [(g.zero a a).2 rfl, if_true] at h1
          by_cases e2 : a = c
          · subst e2
            simp only [(g.zero a a).2 rfl, if_true] at h2 ⊢
            exact i2 h1 h2
          · have n1 : cmpB a c ≠ 0 := fun h => e2 ((g.zero a c).1 h)
            simp only [n1, if_false] at h2 ⊢
            exact h2
        · have n1 : cmpB a b ≠ 0 := fun h => e1 ((g.zero a b).1 h)
          simp only [n1, if_false] at h1
          by_cases e2 : b = c
          · subst e2
            simp only [n1, if_false]
            exact h1
          · have n2 : cmpB b c ≠ 0 := fun h => e2 ((g.zero b c).1 h)
            simp only [n2, if_false] at h2
            have h3 := g.trans a b c h1 h2
            have n3 : cmpB a c ≠ 0 := by omega
            simp only [n3, if_false]
            exact h3

theorem good_key : Good cmpK := by
  have g := good_int
  have gl := good_list 4
  refine ⟨fun x y => ?_, fun x y => ?_, fun x y z h1 h2 => ?_⟩
  · obtain ⟨i1, i2⟩ := gl.1 x.dims y.dims rfl rfl
    simp only [cmpK]
    by_cases e : x.h.toInt = y.h.toInt
    · rw [if_pos ((g.zero _ _).2 e), i1]
      cases x; cases y
      simp only [Key.dims, List.cons.injEq, Key.mk.injEq] at *
      rw [Int64.toInt_inj] at e
      simp [e]
    · rw [if_neg (fun h => e ((g.zero _ _).1 h))]
      refine ⟨fun h => absurd ((g.zero _ _).1 h) e, fun h => absurd (by rw [h]) e⟩
  · obtain ⟨i1, i2⟩ := gl.1 x.dims y.dims rfl rfl
    simp only [cmpK]
    by_cases e : x.h.toInt = y.h.toInt
    · rw [if_pos ((g.zero _ _).2 e), if_pos ((g.zero _ _).2 e.symm), i2]
    · rw [if_neg (fun h => e ((g.zero _ _).1 h)), if_neg (fun h => e ((g.zero _ _).1 h).symm), g.anti]
  · have i2 := gl.2 x.dims y.dims z.dims rfl rfl rfl
    simp only [cmpK] at *
    by_cases e1 : x.h.toInt = y.h.toInt
    · rw [if_pos ((g.zero _ _).2 e1)] at h1
      rw [e1]
      by_cases e2 : y.h.toInt = z.h.toInt
      · rw [if_pos ((g.zero _ _).2 e2)] at h2 ⊢
        exact i2 h1 h2
      · rw [if_neg (fun h => e2 ((g.zero _ _).1 h))] at h2 ⊢
        exact h2
    · rw [if_neg (fun h => e1 ((g.zero _ _).1 h))] at h1
      by_cases e2 : y.h.toInt = z.h.toInt
      · rw [← e2, if_neg (fun h => e1 ((g.zero _ _).1 h))]
        exact h1
      · rw [if_neg (fun h => e2 ((g.zero _ _).1 h))] at h2
        have h3 := g.trans _ _ _ h1 h2
        rw [if_neg (by omega)]
        exact h3

theorem Good.swo {α : Type} {c : α → α → Int} (g : Good c) : SWO (ltOf c) where
  irrefl x := by have := (g.zero x x).2 rfl; simp [ltOf, this]
  trans x y z h1 h2 := by simp only [ltOf, decide_eq_true_eq] at *; exact g.trans x y z h1 h2
  ntrans x y z h1 h2 := by
    simp only [ltOf, decide_eq_false_iff_not] at *
    intro h3
    by_cases e : c y z = 0
    · rw [(g.zero _ _).1 e] at h1; exact h1 h3
    · have h4 : 0 < c y z := by omega
      exact h1 (g.trans x z y h3 ((g.anti z y).2 h4))
theorem Good.total {α : Type} {c : α → α → Int} (g : Good c) (x y : α) (h1 : ltOf c x y = false) (h2 : ltOf c y x = false) : x = y := by
  simp only [ltOf, decide_eq_false_iff_not] at *
  refine (g.zero x y).1 ?_
  have := g.anti y x
  omega

def sortK (l : List Key) : List Key := l.mergeSort fun x y => !(ltOf cmpK) y x

theorem sortK_perm (l : List Key) : (sortK l).Perm l := List.mergeSort_perm _ _
theorem sortK_sorted (l : List Key) : (sortK l).Pairwise fun x y => ¬ cmpK y x < 0 := by
  have h := List.pairwise_mergeSort (le := fun x y : Key => !(ltOf cmpK) y x) (fun a b c h1 h2 => by
    simp only [Bool.not_eq_true'] at *
    exact good_key.swo.ntrans c b a h2 h1) (fun a b => by
    simp only [Bool.or_eq_true, Bool.not_eq_true', ltOf, decide_eq_false_iff_not]
    have := good_key.anti a b
    omega) l
  exact h.imp fun h => by simpa [ltOf] using h
theorem sortK_eq {l m : List Key} (h : l.Perm m) : sortK l = sortK m := by
  refine List.Perm.eq_of_pairwise (le := fun x y => ¬ cmpK y x < 0) ?_ (sortK_sorted l) (sortK_sorted m) ((sortK_perm l).trans (h.trans (sortK_perm m).symm))
  intro a b _ _ h1 h2
  exact good_key.total a b (by simpa [ltOf] using h2) (by simpa [ltOf] using h1)

end Go.Proofs

namespace Go.Proofs
open Go Go.Av Go.Sort
set_option linter.unusedSimpArgs false
set_option linter.unusedVariables false
set_option maxRecDepth 30000
set_option maxHeartbeats 2000000

instance : Inhabited Key := ⟨⟨0, .empty, .empty, .empty, .empty⟩⟩
def encK (k : Key) : List Value := [.int .i64 k.h.toInt, .string k.a, .string k.b, .string k.c, .string k.d]

theorem keysE (l : List Key) : rowsE encK l = keysA l := rfl

theorem agg39 (w : World) : (isAgg 39).run Try.prog w = .ok true w := by
  have h : Try.prog.underlying 39 = some (TypeDesc.struct #[{ name := "Hour", type := 2, offset := 0, embedded := false, tag := "", pkgPath := "", byteOffset := 0 }, { name := "Dims", type := 37, offset := 1, embedded := false, tag := "", pkgPath := "", byteOffset := 8 }]) := by simp only [unders]
  simp [isAgg, run_underlying h, Result.andThen]
theorem size39 (w : World) : (Go.sizeOf 39).run Try.prog w = .ok 5 w := by
  have h : szOf Try.prog 39 = some 5 := by simp only [szOf, tys, Option.map_some]
  exact Go.Av.run_sizeOf h w
theorem sorts : Sorts Try.prog 96 50 encK 5 sortK :=
  sorts_of (ρ := Try.sortL_ren) Try.sortL 5 (by decide) agg39 size39 encK (fun _ => rfl) (fun x v hv => by
    simp only [encK, List.mem_cons, List.not_mem_nil, or_false] at hv
    rcases hv with rfl | rfl | rfl | rfl | rfl <;> exact ⟨rfl, rfl⟩) cmpK good_key.swo good_key.total 50 ((fcmp_spec default default) ⟨fun _ => none, 0, ⟨0, []⟩⟩).1 (fun x y => fcmp_spec x y) (Try.sortL.f6.enters rfl)

theorem collect_spec (l : List (Key × Cell)) (s : AState) (m : Nat) (hm : s.obj m = some (.map (entA l))) (hlen : l.length ≤ 1000000) :
    ACalls Try.prog 95 [.fn 97 [] [.ep [.mp m] 0]] s (fun d s' => ∃ ks : List Key, ks.Perm (l.map (·.1)) ∧ d = .sl 5 (keysA ks) (.row (s.next + 1) ks.length) ∧
      s' = { s with obj := fun i => if i = s.next + 1 then some (.row ks.length) else s.obj i, next := s.next + 2 }) := by
  refine ACalls_bodyM (C := ⟨[]⟩) (c := Try.f95.body.getD .skip) (rs := [.tmp 2]) Try.func95 (by kernel_rfl) (by kernel_rfl) (by kernel_rfl) (Nat.le_of_ble_eq_true rfl) (by kernel_rfl) fun hwf hbel => ?_
  simp only [Try.f95, untok_segA, rowsA_len, factsA_len, rowsA_nil, factsA_nil, List.length_append, Int.le_refl, room, i64_0, nx, keysA_len, EVL, ite_toInt, ER, EW, Wv_nil, i6, i64, str, boo, EA, EL, ↓EP, binK, pickK, loadK, storeK, EO, Key.av, Cell.av, Fact.av, Row.av, ↓EC, ↓EK, EE, EB, ↓aBuiltin, ↓aAppend, rowsOf, ↓aLen, ↓aSlice, bnd, ↓aIndexAddr, ↓aIndex, ↓aBuild, ↓aBuildSlice, fillL, ↓aMakeSlice, two, ↓opt_some, ↓opt_none, ldAV, aggT, szOf, zeroAV, tys, unders, chunks, spliceL, Cfg.ro, detOp, gval, resAll, resOne, packAV, ↓reduceIte, seval, reduceCtorEq, Int.cast_ofNat_Int, exists_const, implies_true, decide_true, decide_false, if_true, if_false]
  refine ACalls_mono ?_ (appendSeq_spec l _ m hm hlen)
  rintro d s' ⟨ks, hp, rfl, rfl⟩
  simp only [untok_segA, rowsA_len, factsA_len, rowsA_nil, factsA_nil, List.length_append, Int.le_refl, room, i64_0, nx, keysA_len, EVL, ite_toInt, ER, EW, Wv_nil, i6, i64, str, boo, EA, EL, ↓EP, binK, pickK, loadK, storeK, EO, Key.av, Cell.av, Fact.av, Row.av, ↓EC, ↓EK, EE, EB, ↓aBuiltin, ↓aAppend, rowsOf, ↓aLen, ↓aSlice, bnd, ↓aIndexAddr, ↓aIndex, ↓aBuild, ↓aBuildSlice, fillL, ↓aMakeSlice, two, ↓opt_some, ↓opt_none, ldAV, aggT, szOf, zeroAV, tys, unders, chunks, spliceL, Cfg.ro, detOp, gval, resAll, resOne, packAV, ↓reduceIte, seval, reduceCtorEq, Int.cast_ofNat_Int, exists_const, implies_true, decide_true, decide_false, if_true, if_false]
  refine RetM_more (l := [.sl 5 (keysA ks) (.row (s.next + 1) ks.length)]) (m := [.sl 5 (keysA ks) (.row (s.next + 1) ks.length)]) (S := { s with obj := fun i => if i = s.next + 1 then some (.row ks.length) else s.obj i, next := s.next + 2 }) (.inr rfl) rfl (by simp only [untok_segA, rowsA_len, factsA_len, rowsA_nil, factsA_nil, List.length_append, Int.le_refl, room, i64_0, nx, keysA_len, EVL, ite_toInt, ER, EW, Wv_nil, i6, i64, str, boo, EA, EL, ↓EP, binK, pickK, loadK, storeK, EO, Key.av, Cell.av, Fact.av, Row.av, ↓EC, ↓EK, EE, EB, ↓aBuiltin, ↓aAppend, rowsOf, ↓aLen, ↓aSlice, bnd, ↓aIndexAddr, ↓aIndex, ↓aBuild, ↓aBuildSlice, fillL, ↓aMakeSlice, two, ↓opt_some, ↓opt_none, ldAV, aggT, szOf, zeroAV, tys, unders, chunks, spliceL, Cfg.ro, detOp, gval, resAll, resOne, packAV, ↓reduceIte, seval, reduceCtorEq, Int.cast_ofNat_Int, exists_const, implies_true, decide_true, decide_false, if_true, if_false]) ⟨.inl rfl, trivial⟩ (Nat.le_add_right _ _) rfl (Nat.le_refl _) ?_ ?_ ⟨ks, hp, rfl, rfl⟩
  · intro i o ho
    refine ⟨?_, ?_, ho⟩ <;> simp only at ho
    · split at ho
      · rename_i e; subst e; show s.next + 1 < s.next + 2; omega
      · exact Nat.lt_of_lt_of_le (hwf i o ho).1 (Nat.le_add_right _ _)
    · split at ho
      · cases ho; trivial
      · exact (hwf i o ho).2.mono (Nat.le_add_right _ _)
  · simp only [packAV, Bel_sl, keysA_bel, tokBel, true_and]
    show s.next + 1 < s.next + 2
    omega

theorem sortedFunc_spec (l : List (Key × Cell)) (s : AState) (m : Nat) (hm : s.obj m = some (.map (entA l))) (hlen : l.length ≤ 1000000) :
    ACalls Try.prog 48 [.fn 97 [] [.ep [.mp m] 0], .fn 50 [] []] s (fun d s' => d = .sl 5 (keysA (sortK (l.map (·.1)))) .none ∧ s' = s) := by
  refine ACalls_frame (fun i => i == m) (k0 := fun d s' => d = .sl 5 (keysA (sortK (l.map (·.1)))) .none ∧ s' = s.keep (fun i => i == m)) ?_ (fun hwf0 d s' hle h => ⟨h.1, ?_⟩)
  · generalize hs0 : s.keep (fun i => i == m) = s0
    have hm0 : s0.obj m = some (.map (entA l)) := by subst hs0; simp [AState.keep, hm]
    have ho0 : ∀ i o, s0.obj i = some o → i = m := by subst hs0; intro i o h; simp [AState.keep] at h; exact h.1
    refine ACalls_code (c := Try.f48.body.getD .skip) (rs := [.tmp 4]) Try.func48 (by kernel_rfl) (by kernel_rfl) (by kernel_rfl) (Nat.le_of_ble_eq_true rfl) (by kernel_rfl) fun hwf hbel => ?_
    simp only [Try.f48, Option.getD_some]
    refine ACode_seq (ACode_of (C := ⟨[]⟩) ?_)
    simp only [untok_segA, rowsA_len, factsA_len, rowsA_nil, factsA_nil, List.length_append, Int.le_refl, room, i64_0, nx, keysA_len, EVL, ite_toInt, ER, EW, Wv_nil, i6, i64, str, boo, EA, EL, ↓EP, binK, pickK, loadK, storeK, EO, Key.av, Cell.av, Fact.av, Row.av, ↓EC, ↓EK, EE, EB, ↓aBuiltin, ↓aAppend, rowsOf, ↓aLen, ↓aSlice, bnd, ↓aIndexAddr, ↓aIndex, ↓aBuild, ↓aBuildSlice, fillL, ↓aMakeSlice, two, ↓opt_some, ↓opt_none, ldAV, aggT, szOf, zeroAV, tys, unders, chunks, spliceL, Cfg.ro, detOp, gval, resAll, resOne, packAV, ↓reduceIte, seval, reduceCtorEq, Int.cast_ofNat_Int, exists_const, implies_true, decide_true, decide_false, if_true, if_false]
    refine ACode_seq (ACode_of (C := ⟨[]⟩) ?_)
    simp only [untok_segA, rowsA_len, factsA_len, rowsA_nil, factsA_nil, List.length_append, Int.le_refl, room, i64_0, nx, keysA_len, EVL, ite_toInt, ER, EW, Wv_nil, i6, i64, str, boo, EA, EL, ↓EP, binK, pickK, loadK, storeK, EO, Key.av, Cell.av, Fact.av, Row.av, ↓EC, ↓EK, EE, EB, ↓aBuiltin, ↓aAppend, rowsOf, ↓aLen, ↓aSlice, bnd, ↓aIndexAddr, ↓aIndex, ↓aBuild, ↓aBuildSlice, fillL, ↓aMakeSlice, two, ↓opt_some, ↓opt_none, ldAV, aggT, szOf, zeroAV, tys, unders, chunks, spliceL, Cfg.ro, detOp, gval, resAll, resOne, packAV, ↓reduceIte, seval, reduceCtorEq, Int.cast_ofNat_Int, exists_const, implies_true, decide_true, decide_false, if_true, if_false]
    refine ACalls_mono ?_ (collect_spec l _ m hm0 hlen)
    rintro d s' ⟨ks, hp, rfl, rfl⟩
    simp only [untok_segA, rowsA_len, factsA_len, rowsA_nil, factsA_nil, List.length_append, Int.le_refl, room, i64_0, nx, keysA_len, EVL, ite_toInt, ER, EW, Wv_nil, i6, i64, str, boo, EA, EL, ↓EP, binK, pickK, loadK, storeK, EO, Key.av, Cell.av, Fact.av, Row.av, ↓EC, ↓EK, EE, EB, ↓aBuiltin, ↓aAppend, rowsOf, ↓aLen, ↓aSlice, bnd, ↓aIndexAddr, ↓aIndex, ↓aBuild, ↓aBuildSlice, fillL, ↓aMakeSlice, two, ↓opt_some, ↓opt_none, ldAV, aggT, szOf, zeroAV, tys, unders, chunks, spliceL, Cfg.ro, detOp, gval, resAll, resOne, packAV, ↓reduceIte, seval, reduceCtorEq, Int.cast_ofNat_Int, exists_const, implies_true, decide_true, decide_false, if_true, if_false]
    refine ACode_seq (sort_code sorts (l := ks) (rid := s0.next + 1) (s' := { s0 with base := ⟨s0.next, []⟩, next := s0.next + 2 }) ?_ ?_ ?_ ?_ (by decide) (by decide) (by decide) (by decide) (by decide) ?_ ?_ rfl rfl ?_)
    · rw [keysE]; simp only [untok_segA, rowsA_len, factsA_len, rowsA_nil, factsA_nil, List.length_append, Int.le_refl, room, i64_0, nx, keysA_len, EVL, ite_toInt, ER, EW, Wv_nil, i6, i64, str, boo, EA, EL, ↓EP, binK, pickK, loadK, storeK, EO, Key.av, Cell.av, Fact.av, Row.av, ↓EC, ↓EK, EE, EB, ↓aBuiltin, ↓aAppend, rowsOf, ↓aLen, ↓aSlice, bnd, ↓aIndexAddr, ↓aIndex, ↓aBuild, ↓aBuildSlice, fillL, ↓aMakeSlice, two, ↓opt_some, ↓opt_none, ldAV, aggT, szOf, zeroAV, tys, unders, chunks, spliceL, Cfg.ro, detOp, gval, resAll, resOne, packAV, ↓reduceIte, seval, reduceCtorEq, Int.cast_ofNat_Int, exists_const, implies_true, decide_true, decide_false, if_true, if_false]
    · simp only [untok_segA, rowsA_len, factsA_len, rowsA_nil, factsA_nil, List.length_append, Int.le_refl, room, i64_0, nx, keysA_len, EVL, ite_toInt, ER, EW, Wv_nil, i6, i64, str, boo, EA, EL, ↓EP, binK, pickK, loadK, storeK, EO, Key.av, Cell.av, Fact.av, Row.av, ↓EC, ↓EK, EE, EB, ↓aBuiltin, ↓aAppend, rowsOf, ↓aLen, ↓aSlice, bnd, ↓aIndexAddr, ↓aIndex, ↓aBuild, ↓aBuildSlice, fillL, ↓aMakeSlice, two, ↓opt_some, ↓opt_none, ldAV, aggT, szOf, zeroAV, tys, unders, chunks, spliceL, Cfg.ro, detOp, gval, resAll, resOne, packAV, ↓reduceIte, seval, reduceCtorEq, Int.cast_ofNat_Int, exists_const, implies_true, decide_true, decide_false, if_true, if_false]
    · ((repeat (first | rw [if_neg (by omega)] | rw [if_pos (by omega)] | (simp only [↓reduceIte]; done) | simp only [↓reduceIte])); try rfl)
    · show s0.next ≤ s0.next + 1; omega
    · have := hp.length_eq
      simp only [List.length_map] at this
      omega
    · intro i o ho
      have e := ho0 i o ho
      subst e
      refine ⟨?_, ?_⟩
      · have := (hwf _ _ ho).1
        ((repeat (first | rw [if_neg (by omega)] | rw [if_pos (by omega)] | (simp only [↓reduceIte]; done) | simp only [↓reduceIte])); try rfl)
        exact ho
      · have e2 := hm0.symm.trans ho
        cases e2
        intro p hp
        simp only [entA, List.mem_map] at hp
        obtain ⟨q, _, rfl⟩ := hp
        refine ⟨WF_agg fun c hc => ?_, WF_agg fun c hc => ?_⟩
        · simp only [Key.av, List.mem_cons, List.not_mem_nil, or_false] at hc
          rcases hc with rfl | rfl | rfl | rfl | rfl <;> exact WF_v _
        · simp only [Cell.av, List.mem_cons, List.not_mem_nil, or_false] at hc
          rcases hc with rfl | rfl | rfl | rfl <;> exact WF_v _
    · rw [keysE, sortK_eq hp]
      simp only [EK, ↓reduceIte]
      refine ACode_seq (ACode_of (C := ⟨[]⟩) ?_)
      simp only [untok_segA, rowsA_len, factsA_len, rowsA_nil, factsA_nil, List.length_append, Int.le_refl, room, i64_0, nx, keysA_len, EVL, ite_toInt, ER, EW, Wv_nil, i6, i64, str, boo, EA, EL, ↓EP, binK, pickK, loadK, storeK, EO, Key.av, Cell.av, Fact.av, Row.av, ↓EC, ↓EK, EE, EB, ↓aBuiltin, ↓aAppend, rowsOf, ↓aLen, ↓aSlice, bnd, ↓aIndexAddr, ↓aIndex, ↓aBuild, ↓aBuildSlice, fillL, ↓aMakeSlice, two, ↓opt_some, ↓opt_none, ldAV, aggT, szOf, zeroAV, tys, unders, chunks, spliceL, Cfg.ro, detOp, gval, resAll, resOne, packAV, ↓reduceIte, seval, reduceCtorEq, Int.cast_ofNat_Int, exists_const, implies_true, decide_true, decide_false, if_true, if_false]
      refine ACode_of (C := ⟨[]⟩) ?_
      simp only [untok_segA, rowsA_len, factsA_len, rowsA_nil, factsA_nil, List.length_append, Int.le_refl, room, i64_0, nx, keysA_len, EVL, ite_toInt, ER, EW, Wv_nil, i6, i64, str, boo, EA, EL, ↓EP, binK, pickK, loadK, storeK, EO, Key.av, Cell.av, Fact.av, Row.av, ↓EC, ↓EK, EE, EB, ↓aBuiltin, ↓aAppend, rowsOf, ↓aLen, ↓aSlice, bnd, ↓aIndexAddr, ↓aIndex, ↓aBuild, ↓aBuildSlice, fillL, ↓aMakeSlice, two, ↓opt_some, ↓opt_none, ldAV, aggT, szOf, zeroAV, tys, unders, chunks, spliceL, Cfg.ro, detOp, gval, resAll, resOne, packAV, ↓reduceIte, seval, reduceCtorEq, Int.cast_ofNat_Int, exists_const, implies_true, decide_true, decide_false, if_true, if_false]
      refine RetM_more (l := [.sl 5 (keysA (sortK (l.map (·.1)))) .none]) (m := [.sl 5 (keysA (sortK (l.map (·.1)))) .none]) (S := s0) (.inr rfl) rfl (by simp only [untok_segA, rowsA_len, factsA_len, rowsA_nil, factsA_nil, List.length_append, Int.le_refl, room, i64_0, nx, keysA_len, EVL, ite_toInt, ER, EW, Wv_nil, i6, i64, str, boo, EA, EL, ↓EP, binK, pickK, loadK, storeK, EO, Key.av, Cell.av, Fact.av, Row.av, ↓EC, ↓EK, EE, EB, ↓aBuiltin, ↓aAppend, rowsOf, ↓aLen, ↓aSlice, bnd, ↓aIndexAddr, ↓aIndex, ↓aBuild, ↓aBuildSlice, fillL, ↓aMakeSlice, two, ↓opt_some, ↓opt_none, ldAV, aggT, szOf, zeroAV, tys, unders, chunks, spliceL, Cfg.ro, detOp, gval, resAll, resOne, packAV, ↓reduceIte, seval, reduceCtorEq, Int.cast_ofNat_Int, exists_const, implies_true, decide_true, decide_false, if_true, if_false]) ⟨.inl rfl, trivial⟩ (Nat.le_refl _) rfl (Nat.le_add_right _ _) (fun i o ho => ⟨(hwf i o ho).1, (hwf i o ho).2, ho⟩) ?_ ⟨rfl, hs0.symm ▸ rfl⟩
      simp only [packAV, Bel_sl, keysA_bel, tokBel, true_and]
  · obtain ⟨rfl, rfl⟩ := h
    refine AState.ext' (fun i => ?_) rfl rfl
    simp only [AState.join, AState.keep, Bool.and_eq_true, decide_eq_true_eq, Bool.not_eq_true', beq_eq_false_iff_ne, beq_iff_eq]
    split
    · rfl
    · split
      · rename_i e; rw [e]
      · rename_i h1 h2
        cases e : s.obj i with
        | none => rfl
        | some o => exact absurd ⟨(hwf0 i o e).1, h2⟩ h1

end Go.Proofs
