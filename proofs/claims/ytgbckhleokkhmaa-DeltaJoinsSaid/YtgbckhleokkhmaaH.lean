/- Part of the proof of a law of this seat: the texts D8 D9 Law0, in this order. -/
import Derived.Test.YtgbckhleokkhmaaG
import Derived.Test.YtgbckhleokkhmaaE
import Derived.Test.YtgbckhleokkhmaaRows
import Derived.WalkKit
import Derived.ProofKit
import Derived.OpenShut
import Derived.ShutString
import Derived.ChangeOld
import Derived.Below
import Derived.SizedLaws
namespace Go.Proofs
open Go Go.Av Go.Sort
set_option linter.unusedSimpArgs false
set_option linter.unusedVariables false
set_option maxRecDepth 30000
set_option maxHeartbeats 4000000

/-- A nil slice is a slice of nothing. -/
theorem R_nil {g : Gh} {w : World} {x : Value} {es : Nat} (h : 0 < es) (hr : R g w x (.v (.slice none 0 0))) : R g w x (.sl es [] .none) := by
  obtain ⟨rfl, _⟩ := hr.flat_eq
  exact .slnil h trivial
theorem APure.nil1 {P : Program} {f es : Nat} {r : AV} (hes : 0 < es) (h : APure P f [.sl es [] .none] r) : APure P f [.v (.slice none 0 0)] r := fun s =>
  ⟨(h s).1, fun T g w vs hi ht hR => (h s).2 T g w vs hi ht ⟨hR.1, fun i hi => by
    have := hR.2 i hi
    match i, hi with
    | 0, _ => exact R_nil hes this⟩⟩

theorem rows1_spec (r : Row) : APure Try.prog 222 [.agg r.av] (boo (!r.k.named)) := by
  intro s
  refine enterA ⟨[1]⟩ (Try.f222.body.getD .skip) [.tmp 2] Try.func222 fun hwf hbel => ?_; simp only [Try.f222, push_cast, ↓EPM, ↓reduceIte, seval, reduceCtorEq]
  refine (named_spec r.k).use ?_
  simp only [push_cast, ↓EPM, ↓reduceIte, seval, reduceCtorEq]
  exact RetP [boo (!r.k.named)]
theorem indexR_spec (l : List Row) (hl : l.length ≤ 1000000) (hn : ∀ r ∈ l, r.k.named = true) : APure Try.prog 244 [.sl 9 (rowsA l) .none, .fn 222 [] []] (i64 (-1)) := by
  intro s
  refine enterA ⟨[]⟩ (Try.f244.body.getD .skip) [.tmp 4] Try.func244 fun hwf hbel => ?_; simp only [Try.f244, push_cast, ↓EPM, ↓reduceIte, seval, reduceCtorEq]
  refine ALoop_inv (ι := Nat) (fun i => i ≤ l.length) (fun i => envL [(0, .sl 9 (rowsA l) .none), (1, .fn 222 [] []), (7, i64 l.length), (8, i64 i)]) (fun _ => { s with base := ⟨s.next, []⟩ }) (fun i => l.length - i) 0 (Nat.zero_le _) (ent rfl ?_) (fun i hi => ?_)
  · simp only [push_cast, ↓EPM, ↓reduceIte, seval, reduceCtorEq]
  · by_cases hlt : i < l.length
    · obtain ⟨x, hx⟩ : ∃ x, l[i]? = some x := ⟨_, List.getElem?_eq_getElem hlt⟩
      have gx := rowsA_get hx
      have hc : ((i : Int) < (l.length : Int)) := by omega
      have h0 : (0 : Int) ≤ (i : Int) := by omega
      have hw : IntKind.i64.wrap ((i : Int) + 1) = (i : Int) + 1 := wrap_in (by omega) (by omega)
      have hq := rows1_spec x
      rw [hn x (List.mem_of_getElem? hx)] at hq
      simp only [hc, h0, gx, push_cast, ↓EPM, ↓reduceIte, seval, reduceCtorEq]
      refine hq.use ?_
      simp only [Bool.not_true, hw, push_cast, ↓EPM, ↓reduceIte, seval, reduceCtorEq]
      refine round_next (i + 1) (by omega) (by omega) (ent rfl ?_)
      simp only [push_cast, ↓EPM, ↓reduceIte, seval, reduceCtorEq]
    · have hc : ¬ ((i : Int) < (l.length : Int)) := by omega
      simp only [hc, push_cast, ↓EPM, ↓reduceIte, seval, reduceCtorEq]
      exact RetP [i64 (-1)]
theorem containsR_spec (l : List Row) (hl : l.length ≤ 1000000) (hn : ∀ r ∈ l, r.k.named = true) : APure Try.prog 152 [.sl 9 (rowsA l) .none, .fn 222 [] []] (boo false) := by
  intro s
  refine enterA ⟨[]⟩ (Try.f152.body.getD .skip) [.tmp 4] Try.func152 fun hwf hbel => ?_; simp only [Try.f152, push_cast, ↓EPM, ↓reduceIte, seval, reduceCtorEq]
  refine (indexR_spec l hl hn).use ?_
  simp only [push_cast, ↓EPM, ↓reduceIte, seval, reduceCtorEq]
  exact RetP [boo false]
theorem drows_spec (l : List Row) (hl : l.length ≤ 1000000) (hr : rightL none l = true) (hn : ∀ r ∈ l, r.k.named = true) : APure Try.prog 137 [.sl 9 (rowsA l) .none] (boo true) := by
  intro s
  have hS := srows_spec l hl
  simp only [hr, if_true, resS] at hS
  refine enterA ⟨[]⟩ (Try.f137.body.getD .skip) [.tmp 2] Try.func137 fun hwf hbel => ?_; simp only [Try.f137, push_cast, ↓EPM, ↓reduceIte, seval, reduceCtorEq]
  refine hS.use ?_
  simp only [push_cast, ↓EPM, ↓reduceIte, seval, reduceCtorEq]
  refine (containsR_spec l hl hn).use ?_
  simp only [Bool.not_false, push_cast, ↓EPM, ↓reduceIte, seval, reduceCtorEq]
  exact RetP [boo true]

def aliveX : Row := ⟨zeroK, ⟨1, 0, 0, 0⟩⟩
def aliveC : Chg := ⟨zeroK, zeroC, ⟨1, 0, 0, 0⟩⟩
def pairA : List AV := [i6 0, str .empty, str .empty, str .empty, str .empty, i6 0, i6 0, i6 0, i6 0, i6 1, i6 0, i6 0, i6 0]
theorem aliveX_right : rightL none [aliveX] = true := by decide
theorem aliveX_named : ∀ r ∈ [aliveX], r.k.named = true := by
  intro r hr
  rw [List.mem_singleton.1 hr]
  decide
theorem aliveC_right : rightC none [aliveC] = true := by decide

theorem put1_law (s : AState) (B : Nat) (hB : s.obj B = some (.cells [.v (.slice none 0 0)])) (hlt : B < s.next) :
    ACalls Try.prog 139 [.agg pairA, .ptr B 0] s (fun d s' => d = .tup [] ∧ s' = { s with obj := fun i => if i = s.next then some (.row 1) else if i = B then some (.cells [.sl 13 (chA [aliveC]) (.row s.next 1)]) else s.obj i, next := s.next + 1 }) := by
  refine ACalls_bodyM (C := ⟨[2]⟩) (c := Try.f139.body.getD .skip) (rs := []) Try.func139 (by kernel_rfl) (by kernel_rfl) (by kernel_rfl) (Nat.le_of_ble_eq_true rfl) (by kernel_rfl) fun hwf hbel => ?_
  simp only [Try.f139, pairA, push_cast, ↓EPM, ↓reduceIte, seval, reduceCtorEq]
  have c1 : ¬ B = s.next := by omega
  refine eqK_use (aeq_cell zeroC ⟨1, 0, 0, 0⟩) ?_
  rw [show decide (zeroC = ⟨1, 0, 0, 0⟩) = false by decide]
  simp only [hB, c1, push_cast, ↓EPM, ↓reduceIte, seval, reduceCtorEq]
  refine RetM_more (l := []) (m := []) (S := { s with obj := fun i => if i = s.next then some (.row 1) else if i = B then some (.cells [.sl 13 (chA [aliveC]) (.row s.next 1)]) else s.obj i, next := s.next + 1 }) (.inl rfl) rfl rfl trivial (Nat.le_succ _) rfl (Nat.le_refl _) (fun i o ho => ?_) (by simp only [packAV, Bel_tup]; simp) ⟨rfl, rfl⟩
  simp only at ho
  split at ho
  · rename_i e; subst e; cases ho
    refine ⟨Nat.lt_succ_self _, trivial, ?_⟩
    (simp only [upd, AState.set, AState.new]; (repeat (first | rw [if_neg (by omega)] | rw [if_pos (by omega)] | (simp only [↓reduceIte]; done) | simp only [↓reduceIte])); try rfl)
  · split at ho
    · rename_i e; subst e; cases ho
      refine ⟨Nat.lt_succ_of_lt hlt, fun x hx => ?_, ?_⟩
      · rw [List.mem_singleton.1 hx]
        exact Bel_sl.2 ⟨of_eq_true (chA_bel _ _), Nat.lt_succ_self _⟩
      · (simp only [upd, AState.set, AState.new]; (repeat (first | rw [if_neg (by omega)] | rw [if_pos (by omega)] | (simp only [↓reduceIte]; done) | simp only [↓reduceIte])); try rfl)
    · obtain ⟨h1, h2⟩ := hwf i o ho
      refine ⟨Nat.lt_succ_of_lt h1, h2.mono (Nat.le_succ _), ?_⟩
      rw [← ho]
      (simp only [upd, AState.set, AState.new]; (repeat (first | rw [if_neg (by omega)] | rw [if_pos (by omega)] | (simp only [↓reduceIte]; done) | simp only [↓reduceIte])); try rfl)

def pairC : List AV := [i6 aliveX.k.h, str aliveX.k.a, str aliveX.k.b, str aliveX.k.c, str aliveX.k.d, .v (.int .i64 0), .v (.int .i64 0), .v (.int .i64 0), .v (.int .i64 0), i6 aliveX.c.n, i6 aliveX.c.s, i6 aliveX.c.lo, i6 aliveX.c.hi]
theorem pairC_bel (n : Nat) : OBel n (.cells pairC) := by
  intro x hx
  simp only [pairC, List.mem_cons, List.not_mem_nil, or_false] at hx
  rcases hx with rfl | rfl | rfl | rfl | rfl | rfl | rfl | rfl | rfl | rfl | rfl | rfl | rfl <;> exact .v _
/-- What is at hand when the one change has been put. -/
def st1 (s : AState) (B : Nat) : AState := { s with obj := fun i => if i = s.next + 1 then some (.row 1) else if i = B then some (.cells [.sl 13 (chA [aliveC]) (.row (s.next + 1) 1)]) else if i = s.next then some (.cells pairC) else s.obj i, next := s.next + 2 }
theorem st1_wf {s : AState} {B : Nat} (h : s.Wf) (hlt : B < s.next) : (st1 s B).Wf := by
  intro i o ho
  simp only [st1] at ho
  split at ho
  · rename_i e; subst e; cases ho; exact ⟨Nat.lt_succ_self _, trivial⟩
  · split at ho
    · rename_i e; cases ho
      refine ⟨by show i < s.next + 2; omega, fun x hx => ?_⟩
      rw [List.mem_singleton.1 hx]
      exact Bel_sl.2 ⟨of_eq_true (chA_bel _ _), Nat.lt_succ_self _⟩
    · split at ho
      · rename_i e; cases ho
        exact ⟨by show i < s.next + 2; omega, pairC_bel _⟩
      · obtain ⟨h1, h2⟩ := h i o ho
        exact ⟨by show i < s.next + 2; omega, h2.mono (by show s.next ≤ s.next + 2; omega)⟩

theorem both_law (s : AState) (B : Nat) (hB : s.obj B = some (.cells [.v (.slice none 0 0)])) (hlt : B < s.next) :
    ACalls Try.prog 138 [.v (.slice none 0 0), .sl 9 (rowsA [aliveX]) .none, .fn 139 [] [.ptr B 0]] s (fun d s' => d = .tup [] ∧ s' = st1 s B) := by
  refine ACalls_bodyM (C := ⟨[]⟩) (c := Try.f138.body.getD .skip) (rs := []) Try.func138 (by kernel_rfl) (by kernel_rfl) (by kernel_rfl) (Nat.le_of_ble_eq_true rfl) (by kernel_rfl) fun hwf hbel => ?_
  simp only [Try.f138, push_cast, ↓EPM, ↓reduceIte, seval, reduceCtorEq]
  have c1 : ¬ B = s.next := by omega
  have c2 : ¬ s.next = B := by omega
  have gx : (rowsA [aliveX]).getD 0 [] = aliveX.av := rfl
  have dx : List.drop 1 (List.take 1 (rowsA [aliveX])) = [] := rfl
  refine ALoop_inv (ι := Bool) (fun _ => True) (fun | false => envL [(0, .v (.slice none 0 0)), (1, .sl 9 (rowsA [aliveX]) .none), (2, .fn 139 [] [.ptr B 0])] | true => envL [(0, .v (.slice none 0 0)), (1, .sl 9 [] .none), (2, .fn 139 [] [.ptr B 0])]) (fun | false => { s with base := ⟨s.next, []⟩ } | true => { st1 s B with base := ⟨s.next, []⟩ }) (fun | false => 1 | true => 0) false trivial (ent rfl ?_) (fun b _ => ?_)
  · simp only [push_cast, ↓EPM, ↓reduceIte, seval, reduceCtorEq]
  · cases b with
    | false =>
      simp only []
      simp only [push_cast, ↓EPM, ↓reduceIte, seval, reduceCtorEq]
      refine chainA [(AState.new { s with base := ⟨s.next, []⟩ } (.cells [.v (.int .i64 0), .v (.string ⟨#[]⟩), .v (.string ⟨#[]⟩), .v (.string ⟨#[]⟩), .v (.string ⟨#[]⟩), .v (.int .i64 0), .v (.int .i64 0), .v (.int .i64 0), .v (.int .i64 0), .v (.int .i64 0), .v (.int .i64 0), .v (.int .i64 0), .v (.int .i64 0)])), AState.set (AState.new { s with base := ⟨s.next, []⟩ } (.cells [.v (.int .i64 0), .v (.string ⟨#[]⟩), .v (.string ⟨#[]⟩), .v (.string ⟨#[]⟩), .v (.string ⟨#[]⟩), .v (.int .i64 0), .v (.int .i64 0), .v (.int .i64 0), .v (.int .i64 0), .v (.int .i64 0), .v (.int .i64 0), .v (.int .i64 0), .v (.int .i64 0)])) s.next (.cells [i6 aliveX.k.h, str aliveX.k.a, str aliveX.k.b, str aliveX.k.c, str aliveX.k.d, .v (.int .i64 0), .v (.int .i64 0), .v (.int .i64 0), .v (.int .i64 0), .v (.int .i64 0), .v (.int .i64 0), .v (.int .i64 0), .v (.int .i64 0)]), AState.set (AState.set (AState.new { s with base := ⟨s.next, []⟩ } (.cells [.v (.int .i64 0), .v (.string ⟨#[]⟩), .v (.string ⟨#[]⟩), .v (.string ⟨#[]⟩), .v (.string ⟨#[]⟩), .v (.int .i64 0), .v (.int .i64 0), .v (.int .i64 0), .v (.int .i64 0), .v (.int .i64 0), .v (.int .i64 0), .v (.int .i64 0), .v (.int .i64 0)])) s.next (.cells [i6 aliveX.k.h, str aliveX.k.a, str aliveX.k.b, str aliveX.k.c, str aliveX.k.d, .v (.int .i64 0), .v (.int .i64 0), .v (.int .i64 0), .v (.int .i64 0), .v (.int .i64 0), .v (.int .i64 0), .v (.int .i64 0), .v (.int .i64 0)])) s.next (.cells [i6 aliveX.k.h, str aliveX.k.a, str aliveX.k.b, str aliveX.k.c, str aliveX.k.d, .v (.int .i64 0), .v (.int .i64 0), .v (.int .i64 0), .v (.int .i64 0), i6 aliveX.c.n, i6 aliveX.c.s, i6 aliveX.c.lo, i6 aliveX.c.hi])] [some 9, some 9, some 9, some 9, some 9, some 9, some 9, some 9, some 9, none, some 9, none] mixed ?_; simp only [gx,  ↓EX, EY, ↓EH, push_cast, ↓EPM, ↓reduceIte, seval, reduceCtorEq]
      simp only [gx, dx, ↓EX, EY, ↓EH, push_cast, ↓EPM, ↓reduceIte, seval, reduceCtorEq]
      refine ACalls_use (put1_law _ B ?_ ?_) ?_
      · (simp only [upd, AState.set, AState.new]; (repeat (first | rw [if_neg (by omega)] | rw [if_pos (by omega)] | (simp only [↓reduceIte]; done) | simp only [↓reduceIte])); try rfl); exact hB
      · show B < s.next + 1; omega
      simp only [push_cast, ↓EPM, ↓reduceIte, seval, reduceCtorEq]
      refine round_next true trivial (by decide) ?_
      simp only []
      refine AEnt_drop rfl rfl (by show s.next ≤ s.next + 2; omega) ⟨by show s.next + 2 ≤ s.next + 2; omega, fun id hid => ?_⟩ (fun id o ho => st1_wf hwf hlt id o ho) (EntB_all ?_)
      · simp only [st1, pairC]
        (repeat' split) <;> first | rfl | omega
      · simp only [push_cast, ↓EPM, ↓reduceIte, seval, reduceCtorEq]
        show B < s.next + 2
        omega
    | true =>
      simp only []
      simp only [push_cast, ↓EPM, ↓reduceIte, seval, reduceCtorEq]
      refine RetM_more (l := []) (m := []) (S := st1 s B) (.inl rfl) rfl rfl trivial (by show s.next ≤ s.next + 2; omega) rfl (Nat.le_refl _) (fun i o ho => ?_) (by simp only [packAV, Bel_tup]; simp) ⟨rfl, rfl⟩
      obtain ⟨h1, h2⟩ := st1_wf hwf hlt i o ho
      exact ⟨h1, h2, ho⟩

theorem make_spec : APure Try.prog 69 [.v (.slice none 0 0), .sl 9 (rowsA [aliveX]) .none] (.tup [.sl 13 (chA [aliveC]) .none, i64 0]) := by
  intro s
  have h1 : APure Try.prog 137 [.v (.slice none 0 0)] (boo true) := APure.nil1 (es := 9) (by decide) (drows_spec [] (by decide) rfl (fun r hr => by cases hr))
  have h2 := drows_spec [aliveX] (by decide) aliveX_right aliveX_named
  refine ACalls_bodyM (C := ⟨[]⟩) (c := Try.f69.body.getD .skip) (rs := [.cell 4 44, .tmp 5]) Try.func69 (by kernel_rfl) (by kernel_rfl) (by kernel_rfl) (Nat.le_of_ble_eq_true rfl) (by kernel_rfl) fun hwf hbel => ?_
  simp only [Try.f69, push_cast, ↓EPM, ↓reduceIte, seval, reduceCtorEq]
  refine h1.use ?_
  simp only [push_cast, ↓EPM, ↓reduceIte, seval, reduceCtorEq]
  refine h2.use ?_
  simp only [push_cast, ↓EPM, ↓reduceIte, seval, reduceCtorEq]
  refine ACalls_use (both_law _ s.next ?_ ?_) ?_
  · (simp only [upd, AState.set, AState.new]; (repeat (first | rw [if_neg (by omega)] | rw [if_pos (by omega)] | (simp only [↓reduceIte]; done) | simp only [↓reduceIte])); try rfl)
  · show s.next < s.next + 1; omega
  have hst : (st1 (AState.new { s with base := ⟨s.next, []⟩ } (.cells [.v (.slice none 0 0)])) s.next).obj s.next = some (.cells [.sl 13 (chA [aliveC]) (.row (s.next + 1 + 1) 1)]) := by
    simp only [st1, AState.new]; ((repeat (first | rw [if_neg (by omega)] | rw [if_pos (by omega)] | (simp only [↓reduceIte]; done) | simp only [↓reduceIte])); try rfl)
  simp only [hst, push_cast, ↓EPM, ↓reduceIte, seval, reduceCtorEq]
  refine RetM_more (l := [.sl 13 (chA [aliveC]) (.row (s.next + 1 + 1) 1), i64 0]) (m := [.sl 13 (chA [aliveC]) .none, i64 0]) (S := s) (.inr rfl) rfl (by simp only [hst, push_cast, ↓EPM, ↓reduceIte, seval, reduceCtorEq]) (by simp only [WvL, push_cast, ↓EPM, ↓reduceIte, seval, reduceCtorEq]) (Nat.le_refl _) rfl (by simp only [AState.set, st1, AState.new]; omega) (keep_of rfl hwf fun i hi => ?_) (by simp only [packAV, push_cast, List.mem_cons, List.not_mem_nil, or_false, forall_eq_or_imp, forall_eq, and_self]) ⟨rfl, rfl⟩
  have hi1 : i < s.next := hi
  have q1 : ¬ i = s.next := by omega
  have q2 : ¬ i = s.next + 1 := by omega
  have q3 : ¬ i = s.next + 1 + 1 := by omega
  simp only [AState.set, st1, AState.new, q1, q2, q3, if_false]

theorem alive41_spec : APure Try.prog 18 [] (boo true) := by
  intro s
  have hr := dright_spec [aliveC] (by decide)
  rw [aliveC_right] at hr
  have gx : (chA [aliveC]).getD 0 [] = aliveC.av := rfl
  have e : decide (aliveC.w = ⟨0, 0, 0, 0⟩) = true := by decide
  refine enterA ⟨[]⟩ (Try.f18.body.getD .skip) [.tmp 0] Try.func18 fun hwf hbel => ?_; simp only [Try.f18, push_cast, ↓EPM, ↓reduceIte, seval, reduceCtorEq]
  refine make_spec.use ?_
  simp only [gx, push_cast, ↓EPM, ↓reduceIte, seval, reduceCtorEq]
  refine eqK_use (aeq_cell aliveC.w ⟨0, 0, 0, 0⟩) ?_
  rw [e]
  have e1 : aliveC.n.n.toInt = 1 := by decide
  simp only [gx, e1, push_cast, ↓EPM, ↓reduceIte, seval, reduceCtorEq]
  refine hr.use ?_
  simp only [push_cast, ↓EPM, ↓reduceIte, seval, reduceCtorEq]
  exact RetP [boo true]

end Go.Proofs

namespace Go.Proofs
open Go Go.Av Go.Sort
set_option linter.unusedSimpArgs false
set_option linter.unusedVariables false
set_option maxRecDepth 30000
set_option maxHeartbeats 4000000

theorem chgs_len {l : List Chg} (h : chgs l = true) : l.length ≤ 60 := by
  simp only [chgs, Bool.and_eq_true, decide_eq_true_eq] at h
  exact h.2

/-- What is answered: the changes; how it went. -/
def resK (l m : List Chg) (o : Option (List Chg)) : Option (List Chg) × Int :=
  if rightC none l && rightC none m then (match o with | some q => (some q, 0) | none => (none, 11)) else (none, 4)
theorem resJ_eq (l m : List Chg) (o : Option (List Chg)) : resJ l m o = .tup [.sl 13 (chA ((resK l m o).1.getD [])) .none, i64 (resK l m o).2] := by
  simp only [resJ, resK]
  split
  · cases o <;> rfl
  · rfl
theorem refB_len (l : List Chg) : ∀ (m out : List Chg), (refB l out m).length ≤ out.length + m.length
  | [], out => Nat.le_refl _
  | c :: m, out => by
    rw [refB]
    have h1 := refB_len l m (if (findC l c.k).isSome then out else putX out c)
    have h2 := putX_len out c
    simp only [List.length_cons]
    split at h1 <;> simp_all <;> omega
theorem refA_len (m : List Chg) : ∀ (l out o : List Chg), refA m out l = some o → o.length ≤ out.length + l.length
  | [], out, o, h => by cases h; exact Nat.le_refl _
  | c :: l, out, o, h => by
    rw [refA] at h
    obtain ⟨d, h1, h2⟩ := Option.bind_eq_some_iff.1 h
    have h3 := refA_len m l _ o h2
    have h4 := putX_len out d
    simp only [List.length_cons]
    split at h3 <;> omega
theorem resK_len (l m : List Chg) : ((resK l m (refJ l m)).1.getD []).length ≤ l.length + m.length := by
  simp only [resK]
  split
  · cases h : refJ l m with
    | none => simp
    | some q =>
      simp only [refJ, Option.map_eq_some_iff] at h
      obtain ⟨o, h1, rfl⟩ := h
      have h2 := refA_len m l [] o h1
      have h3 := refB_len l m o
      simp only [List.length_nil] at h2
      show (refB l o m).length ≤ _
      omega
  · simp

theorem same_law (l m : List Chg) : resJ l m ((allM l m).map outM) = resJ l m (refJ l m) := by
  by_cases h1 : rightC none l = true
  · by_cases h2 : rightC none m = true
    · rw [join_law h1 h2]
    · have h2 : rightC none m = false := by simpa using h2
      simp [resJ, h2]
  · have h1 : rightC none l = false := by simpa using h1
    simp [resJ, h1]

theorem deltaJoins_spec (l m : List Chg) (hl : l.length ≤ 9223372036854775807) (hm : m.length ≤ 9223372036854775807) : APure Try.prog 4 [.sl 13 (chA l) .none, .sl 13 (chA m) .none] (boo true) := by
  intro s
  have hC := changes_spec l hl
  have hD := changes_spec m hm
  cases h1 : chgs l with
  | false =>
    rw [h1] at hC
    refine enterA ⟨[]⟩ (Try.f4.body.getD .skip) [.tmp 4] Try.func4 fun hwf hbel => ?_; simp only [Try.f4, push_cast, ↓EPM, ↓reduceIte, seval, reduceCtorEq]
    refine hC.use ?_
    simp only [push_cast, ↓EPM, ↓reduceIte, seval, reduceCtorEq]
    refine alive41_spec.use ?_
    simp only [push_cast, ↓EPM, ↓reduceIte, seval, reduceCtorEq]
    exact RetP [boo true]
  | true =>
  rw [h1] at hC
  cases h2 : chgs m with
  | false =>
    rw [h2] at hD
    refine enterA ⟨[]⟩ (Try.f4.body.getD .skip) [.tmp 4] Try.func4 fun hwf hbel => ?_; simp only [Try.f4, push_cast, ↓EPM, ↓reduceIte, seval, reduceCtorEq]
    refine hC.use ?_
    simp only [push_cast, ↓EPM, ↓reduceIte, seval, reduceCtorEq]
    refine hD.use ?_
    simp only [push_cast, ↓EPM, ↓reduceIte, seval, reduceCtorEq]
    refine alive41_spec.use ?_
    simp only [push_cast, ↓EPM, ↓reduceIte, seval, reduceCtorEq]
    exact RetP [boo true]
  | true =>
  rw [h2] at hD
  have n1 := chgs_len h1
  have n2 := chgs_len h2
  have hJ := join_spec l m (by omega) (by omega)
  have hK := rjoin_spec l m (by omega) (by omega)
  rw [same_law] at hJ
  rw [resJ_eq] at hJ hK
  have hlen := resK_len l m
  generalize (resK l m (refJ l m)).1.getD [] = q at hJ hK hlen
  generalize (resK l m (refJ l m)).2 = c at hJ hK
  have hS := same22_spec q q (by omega)
  simp only [decide_true] at hS
  refine enterA ⟨[]⟩ (Try.f4.body.getD .skip) [.tmp 4] Try.func4 fun hwf hbel => ?_; simp only [Try.f4, push_cast, ↓EPM, ↓reduceIte, seval, reduceCtorEq]
  refine hC.use ?_
  simp only [push_cast, ↓EPM, ↓reduceIte, seval, reduceCtorEq]
  refine hD.use ?_
  simp only [push_cast, ↓EPM, ↓reduceIte, seval, reduceCtorEq]
  refine (own_spec l (by omega)).use ?_
  simp only [push_cast, ↓EPM, ↓reduceIte, seval, reduceCtorEq]
  refine (own_spec m (by omega)).use ?_
  simp only [push_cast, ↓EPM, ↓reduceIte, seval, reduceCtorEq]
  refine hJ.use ?_
  simp only [push_cast, ↓EPM, ↓reduceIte, seval, reduceCtorEq]
  refine hK.use ?_
  simp only [push_cast, ↓EPM, ↓reduceIte, seval, reduceCtorEq]
  refine (back_spec q (by omega)).use ?_
  simp only [push_cast, ↓EPM, ↓reduceIte, seval, reduceCtorEq]
  refine hS.use ?_
  simp only [push_cast, ↓EPM, ↓reduceIte, seval, reduceCtorEq]
  refine alive41_spec.use ?_
  simp only [push_cast, ↓EPM, ↓reduceIte, seval, reduceCtorEq]
  exact RetP [boo true]

end Go.Proofs

namespace Go.Proofs
open Go Go.Av
set_option maxRecDepth 30000

theorem kFact : kinds Try.prog 5 238 = some [.int .i64, .str, .str, .str, .str, .int .i64] := by kernel_rfl
theorem kRow : kinds Try.prog 5 84 = some [.int .i64, .str, .str, .str, .str, .int .i64, .int .i64, .int .i64, .int .i64] := by kernel_rfl
theorem kKey : kinds Try.prog 5 82 = some [.int .i64, .str, .str, .str, .str] := by kernel_rfl

theorem ks_int {ks : List Knd} {cs : List Value} (h : KsOk (.int .i64 :: ks) cs) : ∃ (x : Int64) (r : List Value), cs = .int .i64 x.toInt :: r ∧ KsOk ks r := by
  obtain ⟨v, hv, n, rfl, hw⟩ := h.2 0 _ rfl
  cases cs with
  | nil => cases hv
  | cons c r =>
    cases hv
    have hx : -9223372036854775808 ≤ n ∧ n ≤ 9223372036854775807 := by simpa [Lit.wf, IntKind.min, IntKind.max, IntKind.signed, IntKind.bits] using hw
    refine ⟨Int64.ofInt n, r, ?_, by have := h.1; simpa using this, fun i k hk => by simpa using h.2 (i + 1) k (by simpa using hk)⟩
    rw [Int64.toInt_ofInt_of_le (by omega) (by omega)]
theorem ks_str {ks : List Knd} {cs : List Value} (h : KsOk (.str :: ks) cs) : ∃ (x : ByteArray) (r : List Value), cs = .string x :: r ∧ KsOk ks r := by
  obtain ⟨v, hv, n, rfl, hw⟩ := h.2 0 _ rfl
  cases cs with
  | nil => cases hv
  | cons c r =>
    cases hv
    exact ⟨n, r, rfl, by have := h.1; simpa using this, fun i k hk => by simpa using h.2 (i + 1) k (by simpa using hk)⟩
theorem ks_nil {cs : List Value} (h : KsOk [] cs) : cs = [] := List.eq_nil_of_length_eq_zero (by simpa using h.1)

theorem ks_fact {cs : List Value} (h : KsOk [.int .i64, .str, .str, .str, .str, .int .i64] cs) : ∃ f : Fact, cs.map AV.v = f.av := by
  obtain ⟨x0, r0, rfl, h1⟩ := ks_int h
  obtain ⟨a, r1, rfl, h2⟩ := ks_str h1
  obtain ⟨b, r2, rfl, h3⟩ := ks_str h2
  obtain ⟨c, r3, rfl, h4⟩ := ks_str h3
  obtain ⟨d, r4, rfl, h5⟩ := ks_str h4
  obtain ⟨v, r5, rfl, h6⟩ := ks_int h5
  obtain rfl := ks_nil h6
  exact ⟨⟨⟨x0, a, b, c, d⟩, v⟩, rfl⟩
theorem ks_row {cs : List Value} (h : KsOk [.int .i64, .str, .str, .str, .str, .int .i64, .int .i64, .int .i64, .int .i64] cs) : ∃ f : Row, cs.map AV.v = f.av := by
  obtain ⟨x0, r0, rfl, h1⟩ := ks_int h
  obtain ⟨a, r1, rfl, h2⟩ := ks_str h1
  obtain ⟨b, r2, rfl, h3⟩ := ks_str h2
  obtain ⟨c, r3, rfl, h4⟩ := ks_str h3
  obtain ⟨d, r4, rfl, h5⟩ := ks_str h4
  obtain ⟨n, r5, rfl, h6⟩ := ks_int h5
  obtain ⟨s, r6, rfl, h7⟩ := ks_int h6
  obtain ⟨lo, r7, rfl, h8⟩ := ks_int h7
  obtain ⟨hi, r8, rfl, h9⟩ := ks_int h8
  obtain rfl := ks_nil h9
  exact ⟨⟨⟨x0, a, b, c, d⟩, ⟨n, s, lo, hi⟩⟩, rfl⟩
theorem ks_key {cs : List Value} (h : KsOk [.int .i64, .str, .str, .str, .str] cs) : ∃ f : Key, cs.map AV.v = f.av := by
  obtain ⟨x0, r0, rfl, h1⟩ := ks_int h
  obtain ⟨a, r1, rfl, h2⟩ := ks_str h1
  obtain ⟨b, r2, rfl, h3⟩ := ks_str h2
  obtain ⟨c, r3, rfl, h4⟩ := ks_str h3
  obtain ⟨d, r4, rfl, h5⟩ := ks_str h4
  obtain rfl := ks_nil h5
  exact ⟨⟨x0, a, b, c, d⟩, rfl⟩
theorem ks_list {α : Type} {ks : List Knd} {av : α → List AV} (hone : ∀ cs, KsOk ks cs → ∃ x, cs.map AV.v = av x) : ∀ css : List (List Value), (∀ cs ∈ css, KsOk ks cs) → ∃ l : List α, css.map (·.map AV.v) = l.map av
  | [], _ => ⟨[], rfl⟩
  | cs :: css, h => by
    obtain ⟨x, hx⟩ := hone cs (h cs (by simp))
    obtain ⟨l, hl⟩ := ks_list hone css (fun c hc => h c (by simp [hc]))
    exact ⟨x :: l, by simp [hx, hl]⟩

section
variable {H : Type} {enc : TypeId × Value → H} {w : World} {base : Nat} {spare : Nat → Bool} {held : Bool}
theorem open_facts {v : Value} {D : DataW H} {ps : List MemPlace} (hval : Value.okWide Try.prog w .any base 118 v) (h : DataW.Trod enc Try.prog w 0 spare held 118 v D ps) : ∃ l : List Fact, R Gh.all w v (.sl 6 (factsA l) .none) := by
  obtain ⟨css, h1, h2⟩ := open_row (e := 238) Try.underlying118 kFact (by kernel_rfl) (by decide) hval h
  obtain ⟨l, hl⟩ := ks_list (fun cs h => ks_fact h) css h1
  rw [hl] at h2
  exact ⟨l, h2⟩
theorem open_rows {v : Value} {D : DataW H} {ps : List MemPlace} (hval : Value.okWide Try.prog w .any base 63 v) (h : DataW.Trod enc Try.prog w 0 spare held 63 v D ps) : ∃ l : List Row, R Gh.all w v (.sl 9 (rowsA l) .none) := by
  obtain ⟨css, h1, h2⟩ := open_row (e := 84) Try.underlying63 kRow (by kernel_rfl) (by decide) hval h
  obtain ⟨l, hl⟩ := ks_list (fun cs h => ks_row h) css h1
  rw [hl] at h2
  exact ⟨l, h2⟩
theorem open_keyA {v : Value} {D : DataW H} {ps : List MemPlace} (hval : Value.okWide Try.prog w .any base 82 v) (h : DataW.Trod enc Try.prog w 0 spare held 82 v D ps) : ∃ k : Key, R Gh.all w v (.agg k.av) := by
  have h1 := open_flat kKey h
  have hu : Try.prog.underlying 82 = some (TypeDesc.struct #[{ name := "Hour", type := 2, offset := 0, embedded := false, tag := "", pkgPath := "", byteOffset := 0 }, { name := "Dims", type := 80, offset := 1, embedded := false, tag := "", pkgPath := "", byteOffset := 8 }]) := by simp only [unders]
  simp only [Value.okWide, hu] at hval
  obtain ⟨cs, rfl, _⟩ := hval
  have h2 := open_agg (w := w) (cs := cs) h1
  obtain ⟨k, hk⟩ := ks_key h1
  exact ⟨k, by rw [← hk]; exact h2⟩
theorem open_i64 {n : Int} (y : (Lit.int .i64 n).wf = true) : ∃ a : Int64, R Gh.all w (.int .i64 n) (i6 a) := by
  have hx : -9223372036854775808 ≤ n ∧ n ≤ 9223372036854775807 := by simpa [Lit.wf, IntKind.min, IntKind.max, IntKind.signed, IntKind.bits] using y
  refine ⟨Int64.ofInt n, ?_⟩
  rw [i6, Int64.toInt_ofInt_of_le (by omega) (by omega)]
  exact .v rfl
end

theorem open_len {P : Program} {w : World} {base : Nat} {t e : TypeId} {v : Value} {g : Gh} {es : Nat} {L : List (List AV)} {k : Tok} (hu : P.underlying t = some (.slice e)) (hval : Value.okWide P w .any base t v) (hr : R g w v (.sl es L k)) : L.length ≤ 9223372036854775807 := by
  obtain ⟨a, len, cap, rfl⟩ := Go.WideShapes.okWide_slice hu hval
  have e1 : IntKind.i64.max = 9223372036854775807 := by decide
  cases a with
  | none =>
    cases hr with
    | slnil he hk => simp
  | some a =>
    have hval' : len ≤ cap ∧ (cap : Int) ≤ IntKind.i64.max ∧ w.has P .any base a e cap := by
      simpa [Value.okWide, hu, Cell.okWide, Cell.ok] using hval
    cases hr with
    | sl vs hsp hl hc he hes hcell h h1 hb hx hk =>
      have h2 := hval'.2.1
      rw [e1] at h2
      omega
theorem kChg : kinds Try.prog 5 149 = some [.int .i64, .str, .str, .str, .str, .int .i64, .int .i64, .int .i64, .int .i64, .int .i64, .int .i64, .int .i64, .int .i64] := by kernel_rfl
theorem ks_chg {cs : List Value} (h : KsOk [.int .i64, .str, .str, .str, .str, .int .i64, .int .i64, .int .i64, .int .i64, .int .i64, .int .i64, .int .i64, .int .i64] cs) : ∃ f : Chg, cs.map AV.v = f.av := by
  obtain ⟨x0, r0, rfl, h1⟩ := ks_int h
  obtain ⟨a, r1, rfl, h2⟩ := ks_str h1
  obtain ⟨b, r2, rfl, h3⟩ := ks_str h2
  obtain ⟨c, r3, rfl, h4⟩ := ks_str h3
  obtain ⟨d, r4, rfl, h5⟩ := ks_str h4
  obtain ⟨y1, r5, rfl, h6⟩ := ks_int h5
  obtain ⟨y2, r6, rfl, h7⟩ := ks_int h6
  obtain ⟨y3, r7, rfl, h8⟩ := ks_int h7
  obtain ⟨y4, r8, rfl, h9⟩ := ks_int h8
  obtain ⟨z1, r9, rfl, h10⟩ := ks_int h9
  obtain ⟨z2, r10, rfl, h11⟩ := ks_int h10
  obtain ⟨z3, r11, rfl, h12⟩ := ks_int h11
  obtain ⟨z4, r12, rfl, h13⟩ := ks_int h12
  obtain rfl := ks_nil h13
  exact ⟨⟨⟨x0, a, b, c, d⟩, ⟨y1, y2, y3, y4⟩, ⟨z1, z2, z3, z4⟩⟩, rfl⟩
theorem open_changes {H : Type} {enc : TypeId × Value → H} {w : World} {base : Nat} {spare : Nat → Bool} {held : Bool} {v : Value} {D : DataW H} {ps : List MemPlace} (hval : Value.okWide Try.prog w .any base 42 v) (h : DataW.Trod enc Try.prog w 0 spare held 42 v D ps) :
    ∃ l : List Chg, l.length ≤ 9223372036854775807 ∧ R Gh.all w v (.sl 13 (chA l) .none) := by
  obtain ⟨css, h1, h2⟩ := open_row (e := 149) Try.underlying42 kChg (by kernel_rfl) (by decide) hval h
  obtain ⟨l, hl⟩ := ks_list (fun cs h => ks_chg h) css h1
  rw [hl] at h2
  have h3 := open_len Try.underlying42 hval h2
  rw [List.length_map] at h3
  exact ⟨l, h3, h2⟩

end Go.Proofs
