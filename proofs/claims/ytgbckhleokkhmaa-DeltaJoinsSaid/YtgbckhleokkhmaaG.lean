/- Part of the proof of a law of this seat: the texts S10 D1 D2 D3 S14 Lay1 S15 S16 S17 S18 D4 D5 D6 D7, in this order. -/
import Derived.Test.YtgbckhleokkhmaaF
import Derived.Test.YtgbckhleokkhmaaE
import Derived.Test.YtgbckhleokkhmaaProg
import Derived.Shelf.SlSortCmp.NoneTotal
import Derived.Shelf.SlGeneric
namespace Go.Proofs
open Go Go.Av
set_option linter.unusedSimpArgs false
set_option linter.unusedVariables false
set_option maxRecDepth 30000
set_option maxHeartbeats 2000000
theorem nx : (∀ n : Nat, (n = n + 1 + 1) = False) ∧ (∀ n : Nat, (n + 1 + 1 = n) = False) ∧ (∀ n : Nat, (n = n + 1 + 1 + 1) = False) ∧ (∀ n : Nat, (n + 1 + 1 + 1 = n) = False) := by
  refine ⟨fun n => ?_, fun n => ?_, fun n => ?_, fun n => ?_⟩ <;> (apply eq_false; omega)
theorem i64_0 : Int64.toInt 0 = 0 := rfl

attribute [push_cast] List.length_append Int.le_refl room i64_0 nx

def putR (pre rest : List Row) (x : Row) : Option (List Row) :=
  match rest with
  | [] => some (pre ++ [x])
  | y :: t => if y.k = x.k then (mergeC y.c x.c).map fun c => pre ++ ⟨x.k, c⟩ :: t else some (pre ++ x :: y :: t)
def resP : Option (List Row) → AV
  | some l => .tup [.sl 9 (rowsA l) .none, i64 0]
  | none => .tup [.sl 9 [] .none, i64 6]

theorem rows_take (pre rest : List Row) : (rowsA (pre ++ rest)).take pre.length = rowsA pre := by
  rw [← rowsA_app, ← rowsA_len pre, List.take_left]
theorem rows_drop (pre rest : List Row) : ((rowsA (pre ++ rest)).take (pre.length + rest.length)).drop pre.length = rowsA rest := by
  rw [← List.length_append, ← rowsA_len (pre ++ rest), List.take_length, ← rowsA_app, ← rowsA_len pre, List.drop_left]
theorem rowsA_cons (x : Row) (l : List Row) : rowsA (x :: l) = x.av :: rowsA l := rfl
theorem rowsA_tail (y : Row) (t : List Row) : (List.take (t.length + 1) (rowsA (y :: t))).drop 1 = rowsA t := by
  rw [show t.length + 1 = (rowsA (y :: t)).length by simp [rowsA], List.take_length]; rfl

theorem rowsA_append (l m : List Row) : rowsA (l ++ m) = rowsA l ++ rowsA m := (rowsA_app l m).symm
theorem rowsA_self (l : List Row) : (rowsA l).take l.length = rowsA l := by rw [← rowsA_len l, List.take_length]
theorem rowsA_none (l : List Row) : (rowsA l).drop l.length = [] := by rw [← rowsA_len l, List.drop_length]
theorem rowsA_isnil {l : List Row} (h : rowsA l = []) : l = [] := by cases l with | nil => rfl | cons x l => simp [rowsA] at h

theorem put_pr (pre rest : List Row) (x : Row) (h1 : ∀ r ∈ pre, cmpK r.k x.k < 0) (h2 : ∀ y t, rest = y :: t → ¬ cmpK y.k x.k < 0) (hl : (pre ++ rest).length ≤ 1000000) :
    APure Try.prog 105 [.sl 9 (rowsA (pre ++ rest)) .none, .agg x.av] (resP (putR pre rest x)) := by
  intro s
  have hlen : (pre ++ rest).length = pre.length + rest.length := List.length_append
  refine enterA ⟨[]⟩ (Try.f105.body.getD .skip) [.tmp 4, .tmp 5] Try.func105 fun hwf hbel => ?_; simp only [Try.f105, push_cast, ↓EPM, ↓reduceIte, seval, reduceCtorEq]
  refine ALoop_inv (ι := Nat) (fun i => i ≤ pre.length) (fun i => envL [(0, .sl 9 (rowsA (pre ++ rest)) .none), (3, .ptr s.next 0), (6, i64 i)]) (fun _ => AState.new { s with base := ⟨s.next, []⟩ } (.cells x.av)) (fun i => pre.length - i) 0 (Nat.zero_le _) (ent rfl ?_) (fun i hi => ?_)
  · simp only [push_cast, ↓EPM, ↓reduceIte, seval, reduceCtorEq]
  · have h0 : (0 : Int) ≤ (i : Int) := by omega
    by_cases hlt : i < pre.length
    · have hc : ((i : Int) < (pre.length : Int) + (rest.length : Int)) := by omega
      have hw : IntKind.i64.wrap ((i : Int) + 1) = (i : Int) + 1 := wrap_in (by omega) (by omega)
      obtain ⟨y, hy⟩ : ∃ y, pre[i]? = some y := ⟨_, List.getElem?_eq_getElem hlt⟩
      have gy := rowsA_get (l := pre ++ rest) (i := i) (x := y) (by rw [List.getElem?_append_left hlt, hy])
      have hp : cmpK y.k x.k < 0 := h1 y (List.mem_of_getElem? hy)
      simp only [push_cast, ↓EPM, ↓reduceIte, seval, reduceCtorEq]
      refine drawA mixed ?_; simp only [hc, h0, gy, push_cast, ↓EPM, ↓reduceIte, seval, reduceCtorEq]
      refine qcall (rcmp_spec y.k x.k) rfl (by simp only [push_cast, ↓EPM, ↓reduceIte, seval, reduceCtorEq] <;> rfl) ?_; simp only [push_cast, ↓EPM, ↓reduceIte, seval, reduceCtorEq]
      simp only [hp, hw, push_cast, ↓EPM, ↓reduceIte, seval, reduceCtorEq]
      refine round_next (i + 1) (by omega) (by omega) (ent rfl ?_)
      simp only [push_cast, ↓EPM, ↓reduceIte, seval, reduceCtorEq]
    · have hi' : i = pre.length := by omega
      subst hi'
      cases rest with
      | nil =>
        have hc : ¬ ((pre.length : Int) < (pre.length : Int)) := by omega
        simp only [push_cast, ↓EPM, ↓reduceIte, seval, reduceCtorEq]
        refine drawA mixed ?_; simp only [hc, h0, rowsA_self, rowsA_none, push_cast, ↓EPM, ↓reduceIte, seval, reduceCtorEq]
        refine ⟨fun hn => ?_, fun hn => ⟨by omega, ?_⟩⟩
        · have hp := rowsA_isnil hn
          subst hp
          simp only [push_cast, ↓EPM, ↓reduceIte, seval, reduceCtorEq]
          refine drawA mixed ?_; simp only [push_cast, ↓EPM, ↓reduceIte, seval, reduceCtorEq]
          exact RetW [.sl 9 [x.av] (.row (s.next + 1) 1), i64 0] [.sl 9 (rowsA [x]) .none, i64 0] (hw := by simp only [WvL, rowsA_cons, rowsA_append, push_cast, ↓EPM, ↓reduceIte, seval, reduceCtorEq])
        · refine drawA mixed ?_; simp only [push_cast, ↓EPM, ↓reduceIte, seval, reduceCtorEq]
          refine ⟨by omega, by omega, ?_⟩
          exact RetW [.sl 9 (rowsA pre ++ [x.av]) (.row (s.next + 1) (pre.length + 1)), i64 0] [.sl 9 (rowsA (pre ++ [x])) .none, i64 0] (hw := by simp only [WvL, rowsA_cons, rowsA_append, push_cast, ↓EPM, ↓reduceIte, seval, reduceCtorEq])
      | cons y t =>
        have hy2 : ¬ cmpK y.k x.k < 0 := h2 y t rfl
        simp only [List.length_cons] at hlen
        have hc : ((pre.length : Int) < (pre.length : Int) + ((t.length : Int) + 1)) := by omega
        have gy := rowsA_get (l := pre ++ y :: t) (i := pre.length) (x := y) (by simp)
        have e1 := rows_take pre (y :: t)
        have hT : ((pre.length : Int) + ((t.length : Int) + 1)).toNat = pre.length + (t.length + 1) := by omega
        have hD : List.drop pre.length (List.take (pre.length + (t.length + 1)) (rowsA (pre ++ y :: t))) = rowsA (y :: t) := rows_drop pre (y :: t)
        have hle : (pre.length : Int) ≤ (pre.length : Int) + ((t.length : Int) + 1) := by omega
        have h3 : (0 : Int) < (t.length : Int) + 1 := by omega
        have h4 : (1 : Int) ≤ (t.length : Int) + 1 := by omega
        have hT4 : ((t.length : Int) + 1).toNat = t.length + 1 := by omega
        have hT3 := h3
        have g0 : (rowsA (y :: t)).getD 0 [] = y.av := rfl
        simp only [push_cast, ↓EPM, ↓reduceIte, seval, reduceCtorEq]
        refine drawA mixed ?_; simp only [hc, h0, gy, push_cast, ↓EPM, ↓reduceIte, seval, reduceCtorEq]
        refine qcall (rcmp_spec y.k x.k) rfl (by simp only [push_cast, ↓EPM, ↓reduceIte, seval, reduceCtorEq] <;> rfl) ?_; simp only [push_cast, ↓EPM, ↓reduceIte, seval, reduceCtorEq]
        simp only [hy2, h0, hle, e1, hT, hD, push_cast, ↓EPM, ↓reduceIte, seval, reduceCtorEq]
        refine ⟨fun hn => ?_, fun hn => ⟨by omega, ?_⟩⟩
        · have hp := rowsA_isnil hn
          subst hp
          simp only [List.nil_append, rowsA_nil, List.length_nil] at *
          simp only [push_cast, ↓EPM, ↓reduceIte, seval, reduceCtorEq]
          refine drawA mixed ?_; simp only [h3, g0, hT3, push_cast, ↓EPM, ↓reduceIte, seval, reduceCtorEq]
          refine eqK_use (aeq_key y.k x.k) ?_
          by_cases hk : y.k = x.k
          · have hk' : decide (y.k = x.k) = true := by simp [hk]
            rw [hk']
            have hm := rmerge_spec y.c x.c
            cases hmc : mergeC y.c x.c with
            | none =>
              rw [hmc] at hm
              simp only [push_cast, ↓EPM, ↓reduceIte, seval, reduceCtorEq]
              refine chainA [(AState.new { s with base := ⟨s.next, []⟩ } (.cells x.av)), AState.new (AState.new { s with base := ⟨s.next, []⟩ } (.cells x.av)) (.cells zeroC.av), AState.set (AState.new (AState.new { s with base := ⟨s.next, []⟩ } (.cells x.av)) (.cells zeroC.av)) (s.next + 1) (.cells zeroC.av)] [some 9, some 9, some 9, some 9, some 9, some 9, some 9, some 9, some 9, some 9, none, none, some 9] mixed ?_; simp only [zeroC, h3, g0, hT3,  ↓EX, EY, ↓EH, push_cast, ↓EPM, ↓reduceIte, seval, reduceCtorEq]
              refine qcallC (hm) rfl (by simp only [push_cast, ↓EPM, ↓reduceIte, seval, reduceCtorEq] <;> rfl) ?_; simp only [↓EX, EY, ↓EH, push_cast, ↓EPM, ↓reduceIte, seval, reduceCtorEq]
              simp only [resC, zeroC, h4, hT4, rowsA_tail, ↓EX, EY, ↓EH, push_cast, ↓EPM, ↓reduceIte, seval, reduceCtorEq]
              rw [show putR [] (y :: t) x = none by simp [putR, hk, hmc]]
              exact RetW [.v (.slice none 0 0), i64 6] [.sl 9 [] .none, i64 6]
            | some c =>
              rw [hmc] at hm
              simp only [push_cast, ↓EPM, ↓reduceIte, seval, reduceCtorEq]
              refine chainA [(AState.new { s with base := ⟨s.next, []⟩ } (.cells x.av)), AState.new (AState.new { s with base := ⟨s.next, []⟩ } (.cells x.av)) (.cells zeroC.av), AState.set (AState.new (AState.new { s with base := ⟨s.next, []⟩ } (.cells x.av)) (.cells zeroC.av)) (s.next + 1) (.cells c.av)] [some 9, some 9, some 9, some 9, some 9, some 9, some 9, some 9, some 9, some 9, none, none, some 9] mixed ?_; simp only [zeroC, h3, g0, hT3,  ↓EX, EY, ↓EH, push_cast, ↓EPM, ↓reduceIte, seval, reduceCtorEq]
              refine qcallC (hm) rfl (by simp only [push_cast, ↓EPM, ↓reduceIte, seval, reduceCtorEq] <;> rfl) ?_; simp only [↓EX, EY, ↓EH, push_cast, ↓EPM, ↓reduceIte, seval, reduceCtorEq]
              simp only [resC, zeroC, h4, hT4, rowsA_tail, ↓EX, EY, ↓EH, push_cast, ↓EPM, ↓reduceIte, seval, reduceCtorEq]
              refine ⟨by omega, ?_⟩
              rw [show putR [] (y :: t) x = some ([] ++ ⟨x.k, c⟩ :: t) by simp [putR, hk, hmc]]
              exact RetW [.sl 9 ([Row.av ⟨x.k, c⟩] ++ rowsA t) (.row (s.next + 2) (1 + t.length)), i64 0] [.sl 9 (rowsA ([] ++ ⟨x.k, c⟩ :: t)) .none, i64 0] (hw := by simp only [WvL, rowsA_cons, rowsA_append, push_cast, ↓EPM, ↓reduceIte, seval, reduceCtorEq])
          · have hk' : decide (y.k = x.k) = false := by simp [hk]
            rw [hk']
            simp only [push_cast, ↓EPM, ↓reduceIte, seval, reduceCtorEq]
            refine ⟨by omega, ?_⟩
            rw [show putR [] (y :: t) x = some ([] ++ x :: y :: t) by simp [putR, hk]]
            exact RetW [.sl 9 ([x.av] ++ rowsA (y :: t)) (.row (s.next + 1) (1 + (t.length + 1))), i64 0] [.sl 9 (rowsA ([] ++ x :: y :: t)) .none, i64 0] (hw := by simp only [WvL, rowsA_cons, rowsA_append, List.append_assoc, push_cast, ↓EPM, ↓reduceIte, seval, reduceCtorEq])
        · refine drawA mixed ?_; simp only [h3, g0, hT3, push_cast, ↓EPM, ↓reduceIte, seval, reduceCtorEq]
          refine eqK_use (aeq_key y.k x.k) ?_
          by_cases hk : y.k = x.k
          · have hk' : decide (y.k = x.k) = true := by simp [hk]
            rw [hk']
            have hm := rmerge_spec y.c x.c
            cases hmc : mergeC y.c x.c with
            | none =>
              rw [hmc] at hm
              simp only [push_cast, ↓EPM, ↓reduceIte, seval, reduceCtorEq]
              refine chainA [(AState.new (AState.new { s with base := ⟨s.next, []⟩ } (.cells x.av)) (.row pre.length)), AState.new (AState.new (AState.new { s with base := ⟨s.next, []⟩ } (.cells x.av)) (.row pre.length)) (.cells zeroC.av), AState.set (AState.new (AState.new (AState.new { s with base := ⟨s.next, []⟩ } (.cells x.av)) (.row pre.length)) (.cells zeroC.av)) (s.next + 2) (.cells zeroC.av)] [some 9, some 9, some 9, some 9, some 9, some 9, some 9, some 9, some 9, some 9, none, none, some 9] mixed ?_; simp only [zeroC, h3, g0, hT3,  ↓EX, EY, ↓EH, push_cast, ↓EPM, ↓reduceIte, seval, reduceCtorEq]
              refine qcallC (hm) rfl (by simp only [push_cast, ↓EPM, ↓reduceIte, seval, reduceCtorEq] <;> rfl) ?_; simp only [↓EX, EY, ↓EH, push_cast, ↓EPM, ↓reduceIte, seval, reduceCtorEq]
              simp only [resC, zeroC, h4, hT4, rowsA_tail, ↓EX, EY, ↓EH, push_cast, ↓EPM, ↓reduceIte, seval, reduceCtorEq]
              rw [show putR pre (y :: t) x = none by simp [putR, hk, hmc]]
              exact RetW [.v (.slice none 0 0), i64 6] [.sl 9 [] .none, i64 6]
            | some c =>
              rw [hmc] at hm
              simp only [push_cast, ↓EPM, ↓reduceIte, seval, reduceCtorEq]
              refine chainA [(AState.new (AState.new { s with base := ⟨s.next, []⟩ } (.cells x.av)) (.row pre.length)), AState.new (AState.new (AState.new { s with base := ⟨s.next, []⟩ } (.cells x.av)) (.row pre.length)) (.cells zeroC.av), AState.set (AState.new (AState.new (AState.new { s with base := ⟨s.next, []⟩ } (.cells x.av)) (.row pre.length)) (.cells zeroC.av)) (s.next + 2) (.cells c.av)] [some 9, some 9, some 9, some 9, some 9, some 9, some 9, some 9, some 9, some 9, none, none, some 9] mixed ?_; simp only [zeroC, h3, g0, hT3,  ↓EX, EY, ↓EH, push_cast, ↓EPM, ↓reduceIte, seval, reduceCtorEq]
              refine qcallC (hm) rfl (by simp only [push_cast, ↓EPM, ↓reduceIte, seval, reduceCtorEq] <;> rfl) ?_; simp only [↓EX, EY, ↓EH, push_cast, ↓EPM, ↓reduceIte, seval, reduceCtorEq]
              simp only [resC, zeroC, h4, hT4, rowsA_tail, ↓EX, EY, ↓EH, push_cast, ↓EPM, ↓reduceIte, seval, reduceCtorEq]
              refine ⟨by omega, by omega, ?_⟩
              rw [show putR pre (y :: t) x = some (pre ++ ⟨x.k, c⟩ :: t) by simp [putR, hk, hmc]]
              exact RetW [.sl 9 ((rowsA pre ++ [Row.av ⟨x.k, c⟩]) ++ rowsA t) (.row (s.next + 1) (pre.length + 1 + t.length)), i64 0] [.sl 9 (rowsA (pre ++ ⟨x.k, c⟩ :: t)) .none, i64 0] (hw := by simp only [WvL, rowsA_cons, rowsA_append, List.append_assoc, push_cast, ↓EPM, ↓reduceIte, seval, reduceCtorEq])
          · have hk' : decide (y.k = x.k) = false := by simp [hk]
            rw [hk']
            simp only [push_cast, ↓EPM, ↓reduceIte, seval, reduceCtorEq]
            refine ⟨by omega, by omega, ?_⟩
            rw [show putR pre (y :: t) x = some (pre ++ x :: y :: t) by simp [putR, hk]]
            exact RetW [.sl 9 (rowsA pre ++ [x.av] ++ rowsA (y :: t)) (.row (s.next + 1) (pre.length + 1 + (t.length + 1))), i64 0] [.sl 9 (rowsA (pre ++ x :: y :: t)) .none, i64 0] (hw := by simp only [WvL, rowsA_cons, rowsA_append, List.append_assoc, push_cast, ↓EPM, ↓reduceIte, seval, reduceCtorEq])

/-- A row put into others, behind all that are less. -/
def putL (l : List Row) (x : Row) : Option (List Row) := putR (l.takeWhile fun r => decide (cmpK r.k x.k < 0)) (l.dropWhile fun r => decide (cmpK r.k x.k < 0)) x

theorem mem_takeWhile {α : Type} {p : α → Bool} : ∀ {l : List α} {a : α}, a ∈ l.takeWhile p → p a = true
  | b :: l, a, h => by
    rw [List.takeWhile_cons] at h
    split at h
    · rename_i hb
      rcases List.mem_cons.1 h with rfl | h
      · exact hb
      · exact mem_takeWhile h
    · cases h
theorem head_dropWhile {α : Type} {p : α → Bool} : ∀ {l : List α} {y : α} {t : List α}, l.dropWhile p = y :: t → p y = false
  | b :: l, y, t, h => by
    rw [List.dropWhile_cons] at h
    split at h
    · exact head_dropWhile h
    · rename_i hb
      cases h
      simpa using hb

theorem put_spec (l : List Row) (x : Row) (hl : l.length ≤ 1000000) : APure Try.prog 105 [.sl 9 (rowsA l) .none, .agg x.av] (resP (putL l x)) := by
  have h := put_pr (l.takeWhile fun r => decide (cmpK r.k x.k < 0)) (l.dropWhile fun r => decide (cmpK r.k x.k < 0)) x
    (fun r hr => by simpa using mem_takeWhile hr) (fun y t e => by simpa using head_dropWhile e)
  rw [List.takeWhile_append_dropWhile] at h
  exact h hl

end Go.Proofs

namespace Go.Proofs
open Go Go.Av
set_option linter.unusedSimpArgs false
set_option linter.unusedVariables false
set_option maxRecDepth 30000
set_option maxHeartbeats 2000000

structure Chg where
  k : Key
  w : Cell
  n : Cell
  deriving DecidableEq
def Chg.av (c : Chg) : List AV := [i6 c.k.h, str c.k.a, str c.k.b, str c.k.c, str c.k.d, i6 c.w.n, i6 c.w.s, i6 c.w.lo, i6 c.w.hi, i6 c.n.n, i6 c.n.s, i6 c.n.lo, i6 c.n.hi]
def chA (l : List Chg) : List (List AV) := l.map Chg.av
theorem chA_len (l : List Chg) : (chA l).length = l.length := by simp [chA]
theorem chA_get {l : List Chg} {i : Nat} {x : Chg} (h : l[i]? = some x) : (chA l).getD i [] = x.av := by simp [chA, List.getD_eq_getElem?_getD, h]
theorem chA_nil : chA [] = [] := rfl
theorem chA_app (l m : List Chg) : chA l ++ chA m = chA (l ++ m) := by simp [chA]
theorem chA_one (x : Chg) : [x.av] = chA [x] := rfl
theorem chA_take {l : List Chg} {i : Nat} {x : Chg} (h : l[i]? = some x) : chA (l.take (i + 1)) = chA (l.take i) ++ [x.av] := by rw [take_get h, ← chA_app]; rfl
theorem chA_bel (n : Nat) (l : List Chg) : (∀ x ∈ chA l, ∀ c ∈ x, Bel n c) = True := eq_true (by
  simp only [chA, List.forall_mem_map, Chg.av, List.mem_cons, List.not_mem_nil, or_false, forall_eq_or_imp, forall_eq, Bel_v, and_self, implies_true])
attribute [push_cast] Chg.av chA_len chA_nil chA_bel

theorem wlit : IntKind.i64.wrap 1 = 1 ∧ IntKind.i64.wrap 2 = 2 ∧ IntKind.i64.wrap 3 = 3 ∧ IntKind.i64.wrap 4 = 4 := by refine ⟨?_, ?_, ?_, ?_⟩ <;> exact wrap_in (by omega) (by omega)
attribute [push_cast] wlit

def Key.fits (n : Nat) (k : Key) : Bool := decide (k.a.size ≤ n) && decide (k.b.size ≤ n) && decide (k.c.size ≤ n) && decide (k.d.size ≤ n)
def Key.named (k : Key) : Bool := decide (0 ≤ k.h.toInt) && decide (k.h.toInt ≤ 16777216) && k.fits 16
def Key.dim (k : Key) : Nat → ByteArray
  | 0 => k.a
  | 1 => k.b
  | 2 => k.c
  | _ => k.d

theorem short_spec (k : Key) : APure Try.prog 68 [.agg k.av] (boo (k.fits 40)) := by
  intro s
  refine enterA ⟨[1]⟩ (Try.f68.body.getD .skip) [.tmp 2] Try.func68 fun hwf hbel => ?_; simp only [Try.f68, push_cast, ↓EPM, ↓reduceIte, seval, reduceCtorEq]
  refine ALoop_inv (ι := Nat) (fun i => i ≤ 4 ∧ ∀ j, j < i → (k.dim j).size ≤ 40) (fun i => envL [(1, .ep k.av 0), (3, i64 i)]) (fun _ => { s with base := ⟨s.next, []⟩ }) (fun i => 4 - i) 0 ⟨Nat.zero_le _, fun j hj => absurd hj (Nat.not_lt_zero _)⟩ (ent rfl ?_) (fun i hi => ?_)
  · simp only [push_cast, ↓EPM, ↓reduceIte, seval, reduceCtorEq]
  · obtain ⟨hi, hs⟩ := hi
    rcases (show i = 0 ∨ i = 1 ∨ i = 2 ∨ i = 3 ∨ i = 4 by omega) with rfl | rfl | rfl | rfl | rfl
    · by_cases hb : (40 : Int) < (k.a.size : Int)
      · have e : k.fits 40 = false := by
          have : ¬ k.a.size ≤ 40 := by omega
          simp [Key.fits, this]
        rw [e]
        simp only [hb, push_cast, ↓EPM, ↓reduceIte, seval, reduceCtorEq]
        exact RetP [boo false]
      · simp only [hb, push_cast, ↓EPM, ↓reduceIte, seval, reduceCtorEq]
        refine round_next 1 ⟨by omega, fun j hj => ?_⟩ (by omega) (ent rfl ?_)
        · rcases (show j < 0 ∨ j = 0 by omega) with h | rfl
          · exact hs j h
          · show k.a.size ≤ 40
            omega
        · simp only [push_cast, ↓EPM, ↓reduceIte, seval, reduceCtorEq]
    · by_cases hb : (40 : Int) < (k.b.size : Int)
      · have e : k.fits 40 = false := by
          have : ¬ k.b.size ≤ 40 := by omega
          simp [Key.fits, this]
        rw [e]
        simp only [hb, push_cast, ↓EPM, ↓reduceIte, seval, reduceCtorEq]
        exact RetP [boo false]
      · simp only [hb, push_cast, ↓EPM, ↓reduceIte, seval, reduceCtorEq]
        refine round_next 2 ⟨by omega, fun j hj => ?_⟩ (by omega) (ent rfl ?_)
        · rcases (show j < 1 ∨ j = 1 by omega) with h | rfl
          · exact hs j h
          · show k.b.size ≤ 40
            omega
        · simp only [push_cast, ↓EPM, ↓reduceIte, seval, reduceCtorEq]
    · by_cases hb : (40 : Int) < (k.c.size : Int)
      · have e : k.fits 40 = false := by
          have : ¬ k.c.size ≤ 40 := by omega
          simp [Key.fits, this]
        rw [e]
        simp only [hb, push_cast, ↓EPM, ↓reduceIte, seval, reduceCtorEq]
        exact RetP [boo false]
      · simp only [hb, push_cast, ↓EPM, ↓reduceIte, seval, reduceCtorEq]
        refine round_next 3 ⟨by omega, fun j hj => ?_⟩ (by omega) (ent rfl ?_)
        · rcases (show j < 2 ∨ j = 2 by omega) with h | rfl
          · exact hs j h
          · show k.c.size ≤ 40
            omega
        · simp only [push_cast, ↓EPM, ↓reduceIte, seval, reduceCtorEq]
    · by_cases hb : (40 : Int) < (k.d.size : Int)
      · have e : k.fits 40 = false := by
          have : ¬ k.d.size ≤ 40 := by omega
          simp [Key.fits, this]
        rw [e]
        simp only [hb, push_cast, ↓EPM, ↓reduceIte, seval, reduceCtorEq]
        exact RetP [boo false]
      · simp only [hb, push_cast, ↓EPM, ↓reduceIte, seval, reduceCtorEq]
        refine round_next 4 ⟨by omega, fun j hj => ?_⟩ (by omega) (ent rfl ?_)
        · rcases (show j < 3 ∨ j = 3 by omega) with h | rfl
          · exact hs j h
          · show k.d.size ≤ 40
            omega
        · simp only [push_cast, ↓EPM, ↓reduceIte, seval, reduceCtorEq]
    · have h0 : k.a.size ≤ 40 := hs 0 (by omega)
      have h1 : k.b.size ≤ 40 := hs 1 (by omega)
      have h2 : k.c.size ≤ 40 := hs 2 (by omega)
      have h3 : k.d.size ≤ 40 := hs 3 (by omega)
      have e : k.fits 40 = true := by simp [Key.fits, h0, h1, h2, h3]
      rw [e]
      simp only [push_cast, ↓EPM, ↓reduceIte, seval, reduceCtorEq]
      exact RetP [boo true]

theorem rnamed_spec (k : Key) : APure Try.prog 147 [.agg k.av] (boo k.named) := by
  intro s
  refine enterA ⟨[1]⟩ (Try.f147.body.getD .skip) [.tmp 2] Try.func147 fun hwf hbel => ?_; simp only [Try.f147, push_cast, ↓EPM, ↓reduceIte, seval, reduceCtorEq]
  refine ALoop_inv (ι := Nat) (fun i => i ≤ 4 ∧ ∀ j, j < i → (k.dim j).size ≤ 16) (fun i => envL [(1, .ep k.av 0), (3, i64 i)]) (fun _ => { s with base := ⟨s.next, []⟩ }) (fun i => 4 - i) 0 ⟨Nat.zero_le _, fun j hj => absurd hj (Nat.not_lt_zero _)⟩ (ent rfl ?_) (fun i hi => ?_)
  · simp only [push_cast, ↓EPM, ↓reduceIte, seval, reduceCtorEq]
  · obtain ⟨hi, hs⟩ := hi
    rcases (show i = 0 ∨ i = 1 ∨ i = 2 ∨ i = 3 ∨ i = 4 by omega) with rfl | rfl | rfl | rfl | rfl
    · by_cases hb : (16 : Int) < (k.a.size : Int)
      · have e : k.named = false := by
          have : ¬ k.a.size ≤ 16 := by omega
          simp [Key.named, Key.fits, this]
        rw [e]
        simp only [hb, push_cast, ↓EPM, ↓reduceIte, seval, reduceCtorEq]
        exact RetP [boo false]
      · simp only [hb, push_cast, ↓EPM, ↓reduceIte, seval, reduceCtorEq]
        refine round_next 1 ⟨by omega, fun j hj => ?_⟩ (by omega) (ent rfl ?_)
        · rcases (show j < 0 ∨ j = 0 by omega) with h | rfl
          · exact hs j h
          · show k.a.size ≤ 16
            omega
        · simp only [push_cast, ↓EPM, ↓reduceIte, seval, reduceCtorEq]
    · by_cases hb : (16 : Int) < (k.b.size : Int)
      · have e : k.named = false := by
          have : ¬ k.b.size ≤ 16 := by omega
          simp [Key.named, Key.fits, this]
        rw [e]
        simp only [hb, push_cast, ↓EPM, ↓reduceIte, seval, reduceCtorEq]
        exact RetP [boo false]
      · simp only [hb, push_cast, ↓EPM, ↓reduceIte, seval, reduceCtorEq]
        refine round_next 2 ⟨by omega, fun j hj => ?_⟩ (by omega) (ent rfl ?_)
        · rcases (show j < 1 ∨ j = 1 by omega) with h | rfl
          · exact hs j h
          · show k.b.size ≤ 16
            omega
        · simp only [push_cast, ↓EPM, ↓reduceIte, seval, reduceCtorEq]
    · by_cases hb : (16 : Int) < (k.c.size : Int)
      · have e : k.named = false := by
          have : ¬ k.c.size ≤ 16 := by omega
          simp [Key.named, Key.fits, this]
        rw [e]
        simp only [hb, push_cast, ↓EPM, ↓reduceIte, seval, reduceCtorEq]
        exact RetP [boo false]
      · simp only [hb, push_cast, ↓EPM, ↓reduceIte, seval, reduceCtorEq]
        refine round_next 3 ⟨by omega, fun j hj => ?_⟩ (by omega) (ent rfl ?_)
        · rcases (show j < 2 ∨ j = 2 by omega) with h | rfl
          · exact hs j h
          · show k.c.size ≤ 16
            omega
        · simp only [push_cast, ↓EPM, ↓reduceIte, seval, reduceCtorEq]
    · by_cases hb : (16 : Int) < (k.d.size : Int)
      · have e : k.named = false := by
          have : ¬ k.d.size ≤ 16 := by omega
          simp [Key.named, Key.fits, this]
        rw [e]
        simp only [hb, push_cast, ↓EPM, ↓reduceIte, seval, reduceCtorEq]
        exact RetP [boo false]
      · simp only [hb, push_cast, ↓EPM, ↓reduceIte, seval, reduceCtorEq]
        refine round_next 4 ⟨by omega, fun j hj => ?_⟩ (by omega) (ent rfl ?_)
        · rcases (show j < 3 ∨ j = 3 by omega) with h | rfl
          · exact hs j h
          · show k.d.size ≤ 16
            omega
        · simp only [push_cast, ↓EPM, ↓reduceIte, seval, reduceCtorEq]
    · have h0 : k.a.size ≤ 16 := hs 0 (by omega)
      have h1 : k.b.size ≤ 16 := hs 1 (by omega)
      have h2 : k.c.size ≤ 16 := hs 2 (by omega)
      have h3 : k.d.size ≤ 16 := hs 3 (by omega)
      have e : k.fits 16 = true := by simp [Key.fits, h0, h1, h2, h3]
      rw [show k.named = (decide (0 ≤ k.h.toInt) && decide (k.h.toInt ≤ 16777216)) by simp [Key.named, e]]
      by_cases g1 : 0 ≤ k.h.toInt
      · simp only [g1, push_cast, ↓EPM, ↓reduceIte, seval, reduceCtorEq]
        exact RetP [boo (decide (k.h.toInt ≤ 16777216))]
      · simp only [g1, push_cast, ↓EPM, ↓reduceIte, seval, reduceCtorEq]
        exact RetP [boo false]

theorem long_spec (t : ByteArray) : APure Try.prog 223 [str t] (boo (decide (16 < t.size))) := by
  intro s
  refine enterA ⟨[]⟩ (Try.f223.body.getD .skip) [.tmp 2] Try.func223 fun hwf hbel => ?_; simp only [Try.f223, push_cast, ↓EPM, ↓reduceIte, seval, reduceCtorEq]
  rw [show decide (16 < t.size) = decide ((16 : Int) < (t.size : Int)) by rw [decide_eq_decide]; omega]
  exact RetP [boo (decide ((16 : Int) < (t.size : Int)))]

/-- The place of the first that is so; -1: none is. -/
def idx {α : Type} (p : α → Bool) (l : List α) : Int := if l.any p then ((l.takeWhile fun x => !p x).length : Int) else -1

theorem indexS_spec (l : List ByteArray) (hl : l.length ≤ 1000000) : ∃ r : Int, APure Try.prog 245 [.sl 1 (strs l) .none, .fn 223 [] []] (i64 r) ∧ (0 ≤ r ↔ l.any (fun t : ByteArray => decide (16 < t.size)) = true) := by
  by_cases hex : ∃ (i : Nat) (t : ByteArray), l[i]? = some t ∧ 16 < t.size
  · obtain ⟨i0, t0, h1, h2, h3⟩ : ∃ (i : Nat) (t : ByteArray), l[i]? = some t ∧ 16 < t.size ∧ ∀ (j : Nat) (u : ByteArray), j < i → l[j]? = some u → ¬ 16 < u.size := by
      obtain ⟨i, t, a, b⟩ := hex
      induction i using Nat.strongRecOn generalizing t with
      | _ i ih =>
        by_cases hq : ∃ (j : Nat) (u : ByteArray), j < i ∧ l[j]? = some u ∧ 16 < u.size
        · obtain ⟨j, u, x, y, z⟩ := hq
          exact ih j x u y z
        · exact ⟨i, t, a, b, fun j u hj hu hz => hq ⟨j, u, hj, hu, hz⟩⟩
    have hi0 := (List.getElem?_eq_some_iff.1 h1).1
    refine ⟨i0, ?_, by simp only [Int.natCast_nonneg, true_iff]; exact List.any_eq_true.2 ⟨t0, List.mem_of_getElem? h1, by simpa using h2⟩⟩
    intro s
    refine enterA ⟨[]⟩ (Try.f245.body.getD .skip) [.tmp 4] Try.func245 fun hwf hbel => ?_; simp only [strs_len,Try.f245, push_cast, ↓EPM, ↓reduceIte, seval, reduceCtorEq]
    refine ALoop_inv (ι := Nat) (fun i => i ≤ i0) (fun i => envL [(0, .sl 1 (strs l) .none), (1, .fn 223 [] []), (7, i64 l.length), (8, i64 i)]) (fun _ => { s with base := ⟨s.next, []⟩ }) (fun i => i0 - i) 0 (Nat.zero_le _) (ent rfl ?_) (fun i hi => ?_)
    · simp only [strs_len, push_cast, ↓EPM, ↓reduceIte, seval, reduceCtorEq]
    · obtain ⟨x, hx⟩ : ∃ x, l[i]? = some x := ⟨_, List.getElem?_eq_getElem (by omega)⟩
      have gx := strs_get hx
      have hc : ((i : Int) < (l.length : Int)) := by omega
      have h0 : (0 : Int) ≤ (i : Int) := by omega
      have hw : IntKind.i64.wrap ((i : Int) + 1) = (i : Int) + 1 := wrap_in (by omega) (by omega)
      by_cases hlt : i < i0
      · have hn := h3 i x hlt hx
        simp only [hc, h0, gx, strs_len, push_cast, ↓EPM, ↓reduceIte, seval, reduceCtorEq]
        refine (long_spec x).use ?_
        simp only [hn, hw, push_cast, ↓EPM, ↓reduceIte, seval, reduceCtorEq]
        refine round_next (i + 1) (by omega) (by omega) (ent rfl ?_)
        simp only [push_cast, ↓EPM, ↓reduceIte, seval, reduceCtorEq]
      · obtain rfl : i = i0 := by omega
        rw [h1] at hx
        cases hx
        simp only [hc, h0, gx, strs_len, push_cast, ↓EPM, ↓reduceIte, seval, reduceCtorEq]
        refine (long_spec t0).use ?_
        simp only [h2, push_cast, ↓EPM, ↓reduceIte, seval, reduceCtorEq]
        exact RetP [i64 i]
  · refine ⟨-1, ?_, ?_⟩
    · intro s
      refine enterA ⟨[]⟩ (Try.f245.body.getD .skip) [.tmp 4] Try.func245 fun hwf hbel => ?_; simp only [strs_len,Try.f245, push_cast, ↓EPM, ↓reduceIte, seval, reduceCtorEq]
      refine ALoop_inv (ι := Nat) (fun i => i ≤ l.length) (fun i => envL [(0, .sl 1 (strs l) .none), (1, .fn 223 [] []), (7, i64 l.length), (8, i64 i)]) (fun _ => { s with base := ⟨s.next, []⟩ }) (fun i => l.length - i) 0 (Nat.zero_le _) (ent rfl ?_) (fun i hi => ?_)
      · simp only [strs_len, push_cast, ↓EPM, ↓reduceIte, seval, reduceCtorEq]
      · by_cases hlt : i < l.length
        · obtain ⟨x, hx⟩ : ∃ x, l[i]? = some x := ⟨_, List.getElem?_eq_getElem hlt⟩
          have gx := strs_get hx
          have hc : ((i : Int) < (l.length : Int)) := by omega
          have h0 : (0 : Int) ≤ (i : Int) := by omega
          have hw : IntKind.i64.wrap ((i : Int) + 1) = (i : Int) + 1 := wrap_in (by omega) (by omega)
          have hn : ¬ 16 < x.size := fun h => hex ⟨i, x, hx, h⟩
          simp only [hc, h0, gx, strs_len, push_cast, ↓EPM, ↓reduceIte, seval, reduceCtorEq]
          refine (long_spec x).use ?_
          simp only [hn, hw, push_cast, ↓EPM, ↓reduceIte, seval, reduceCtorEq]
          refine round_next (i + 1) (by omega) (by omega) (ent rfl ?_)
          simp only [push_cast, ↓EPM, ↓reduceIte, seval, reduceCtorEq]
        · have hc : ¬ ((i : Int) < (l.length : Int)) := by omega
          simp only [hc, push_cast, ↓EPM, ↓reduceIte, seval, reduceCtorEq]
          exact RetP [i64 (-1)]
    · refine ⟨fun h => absurd h (by decide), fun h => ?_⟩
      obtain ⟨t, ht, hb⟩ := List.any_eq_true.1 h
      obtain ⟨i, hi, e⟩ := List.getElem_of_mem ht
      exact absurd ⟨i, t, by rw [List.getElem?_eq_getElem hi, e], by simpa using hb⟩ hex

theorem containsS_spec (l : List ByteArray) (hl : l.length ≤ 1000000) : APure Try.prog 154 [.sl 1 (strs l) .none, .fn 223 [] []] (boo (l.any fun t : ByteArray => decide (16 < t.size))) := by
  intro s
  obtain ⟨r, h1, h2⟩ := indexS_spec l hl
  refine enterA ⟨[]⟩ (Try.f154.body.getD .skip) [.tmp 4] Try.func154 fun hwf hbel => ?_; simp only [Try.f154, push_cast, ↓EPM, ↓reduceIte, seval, reduceCtorEq]
  refine h1.use ?_
  simp only [push_cast, ↓EPM, ↓reduceIte, seval, reduceCtorEq]
  rw [show (l.any fun t : ByteArray => decide (16 < t.size)) = decide (0 ≤ r) by rw [Bool.eq_iff_iff, decide_eq_true_eq]; exact h2.symm]
  exact RetP [boo (decide (0 ≤ r))]

theorem named_spec (k : Key) : APure Try.prog 140 [.agg k.av] (boo k.named) := by
  intro s
  have hC := containsS_spec [k.a, k.b, k.c, k.d] (by simp)
  have hf : ([k.a, k.b, k.c, k.d].any fun t : ByteArray => decide (16 < t.size)) = !k.fits 16 := by
    simp only [List.any_cons, List.any_nil, Bool.or_false, Key.fits]
    have e : ∀ t : ByteArray, decide (16 < t.size) = !decide (t.size ≤ 16) := fun t => by by_cases h : t.size ≤ 16 <;> simp [h] <;> omega
    rw [e, e, e, e]
    cases decide (k.a.size ≤ 16) <;> cases decide (k.b.size ≤ 16) <;> cases decide (k.c.size ≤ 16) <;> cases decide (k.d.size ≤ 16) <;> rfl
  rw [hf] at hC
  by_cases g1 : 0 ≤ k.h.toInt
  · by_cases g2 : k.h.toInt ≤ 16777216
    · rw [show k.named = k.fits 16 by simp [Key.named, g1, g2]]
      refine enterA ⟨[1]⟩ (Try.f140.body.getD .skip) [.tmp 2] Try.func140 fun hwf hbel => ?_; simp only [g1, g2,Try.f140, push_cast, ↓EPM, ↓reduceIte, seval, reduceCtorEq]
      refine hC.use ?_
      simp only [Bool.not_not, push_cast, ↓EPM, ↓reduceIte, seval, reduceCtorEq]
      exact RetP [boo (k.fits 16)]
    · rw [show k.named = false by simp [Key.named, g2]]
      refine enterA ⟨[1]⟩ (Try.f140.body.getD .skip) [.tmp 2] Try.func140 fun hwf hbel => ?_; simp only [g1, g2,Try.f140, push_cast, ↓EPM, ↓reduceIte, seval, reduceCtorEq]
      exact RetP [boo false]
  · rw [show k.named = false by simp [Key.named, g1]]
    refine enterA ⟨[1]⟩ (Try.f140.body.getD .skip) [.tmp 2] Try.func140 fun hwf hbel => ?_; simp only [g1,Try.f140, push_cast, ↓EPM, ↓reduceIte, seval, reduceCtorEq]
    exact RetP [boo false]

end Go.Proofs

namespace Go.Proofs
open Go Go.Av
set_option linter.unusedSimpArgs false
set_option linter.unusedVariables false
set_option maxRecDepth 30000
set_option maxHeartbeats 2000000

def chgs (l : List Chg) : Bool := (l.all fun c => c.k.fits 40) && decide (l.length ≤ 60)

theorem changes_spec (l : List Chg) (hl : l.length ≤ 9223372036854775807) : APure Try.prog 17 [.sl 13 (chA l) .none] (boo (chgs l)) := by
  intro s
  refine enterA ⟨[]⟩ (Try.f17.body.getD .skip) [.tmp 2] Try.func17 fun hwf hbel => ?_; simp only [Try.f17, push_cast, ↓EPM, ↓reduceIte, seval, reduceCtorEq]
  refine ALoop_inv (ι := Nat) (fun i => i ≤ l.length ∧ ∀ c ∈ l.take i, c.k.fits 40 = true) (fun i => envL [(0, .sl 13 (chA l) .none), (3, i64 i)]) (fun _ => { s with base := ⟨s.next, []⟩ }) (fun i => l.length - i) 0 ⟨Nat.zero_le _, by simp⟩ (ent rfl ?_) (fun i hi => ?_)
  · simp only [push_cast, ↓EPM, ↓reduceIte, seval, reduceCtorEq]
  · obtain ⟨hi, hs⟩ := hi
    by_cases hlt : i < l.length
    · obtain ⟨x, hx⟩ : ∃ x, l[i]? = some x := ⟨_, List.getElem?_eq_getElem hlt⟩
      have gx := chA_get hx
      have hc : ((i : Int) < (l.length : Int)) := by omega
      have h0 : (0 : Int) ≤ (i : Int) := by omega
      have hw : IntKind.i64.wrap ((i : Int) + 1) = (i : Int) + 1 := wrap_in (by omega) (by omega)
      simp only [hc, h0, gx, push_cast, ↓EPM, ↓reduceIte, seval, reduceCtorEq]
      refine (short_spec x.k).use ?_
      cases hf : x.k.fits 40 with
      | false =>
        have e : chgs l = false := by
          have : (l.all fun c => c.k.fits 40) = false := by
            rw [List.all_eq_false]
            exact ⟨x, List.mem_of_getElem? hx, by simp [hf]⟩
          simp [chgs, this]
        rw [e]
        simp only [push_cast, ↓EPM, ↓reduceIte, seval, reduceCtorEq]
        exact RetP [boo false]
      | true =>
        simp only [hw, push_cast, ↓EPM, ↓reduceIte, seval, reduceCtorEq]
        refine round_next (i + 1) ⟨by omega, fun c hc => ?_⟩ (by omega) (ent rfl ?_)
        · rw [take_get hx] at hc
          rcases List.mem_append.1 hc with h | h
          · exact hs c h
          · rw [List.mem_singleton.1 h]; exact hf
        · simp only [push_cast, ↓EPM, ↓reduceIte, seval, reduceCtorEq]
    · have hc : ¬ ((i : Int) < (l.length : Int)) := by omega
      rw [List.take_of_length_le (by omega)] at hs
      have e : chgs l = decide ((l.length : Int) ≤ 60) := by
        have h1 : (l.all fun c => c.k.fits 40) = true := List.all_eq_true.2 hs
        simp only [chgs, h1, Bool.true_and]
        rw [decide_eq_decide]; omega
      rw [e]
      simp only [hc, push_cast, ↓EPM, ↓reduceIte, seval, reduceCtorEq]
      exact RetP [boo (decide ((l.length : Int) ≤ 60))]

theorem own_spec (l : List Chg) (hl : l.length ≤ 1000000) : APure Try.prog 20 [.sl 13 (chA l) .none] (.sl 13 (chA l) .none) := by
  intro s
  refine enterA ⟨[]⟩ (Try.f20.body.getD .skip) [.tmp 2] Try.func20 fun hwf hbel => ?_; simp only [Try.f20, push_cast, ↓EPM, ↓reduceIte, seval, reduceCtorEq]
  refine ALoop_inv (ι := Nat) (fun i => i ≤ l.length) (fun i => envL [(0, .sl 13 (chA l) .none), (3, .sl 13 (chA (l.take i)) (.row s.next i)), (4, i64 i)]) (fun i => AState.new { s with base := ⟨s.next, []⟩ } (.row i)) (fun i => l.length - i) 0 (Nat.zero_le _)
    (AEnt.trans (AEnt_reserve _ _) (ent rfl ?_)) (fun i hi => ?_)
  · simp only [Wv_row, List.take_zero, push_cast, ↓EPM, ↓reduceIte, seval, reduceCtorEq]
  · by_cases hlt : i < l.length
    · have hc : ((i : Int) < (l.length : Int)) := by omega
      have h0 : (0 : Int) ≤ (i : Int) := by omega
      have hw : IntKind.i64.wrap ((i : Int) + 1) = (i : Int) + 1 := wrap_in (by omega) (by omega)
      obtain ⟨x, hx⟩ : ∃ x, l[i]? = some x := ⟨_, List.getElem?_eq_getElem hlt⟩
      have gx := chA_get hx
      have ht := len_take hi
      have htt := chA_take hx
      simp only [hc, push_cast, ↓EPM, ↓reduceIte, seval, reduceCtorEq]
      refine chainA [(AState.new { s with base := ⟨s.next, []⟩ } (.row i)), AState.set (AState.new { s with base := ⟨s.next, []⟩ } (.row i)) s.next (.row (i + 1))] [some 9, some 9, some 9, some 9, some 9, some 9, some 9, some 9, some 9, some 9, some 9, some 9, some 9, some 9, some 9, some 9, some 9, some 9, none, some 9] mixed ?_; simp only [hc, h0, gx, ht, hw,  ↓EX, EY, ↓EH, push_cast, ↓EPM, ↓reduceIte, seval, reduceCtorEq]
      refine ⟨by omega, ?_⟩
      refine round_next (i + 1) (by omega) (by omega) (AEnt_drop rfl rfl (Nat.le_succ _) ⟨by simp only [EO]; omega, fun id hid => by simp only [EO] at hid ⊢; (repeat' split) <;> first | rfl | omega | (subst_vars; simp_all)⟩ ((hwf.base _).new trivial) (EntB_all ?_))
      simp only [htt, hw, push_cast, ↓EPM, ↓reduceIte, seval, reduceCtorEq]
      (try first | omega | ((repeat' apply And.intro) <;> first | omega | (simp only [push_cast, ↓EPM, ↓reduceIte, seval, reduceCtorEq, List.mem_cons, List.not_mem_nil, or_false, forall_eq_or_imp, forall_eq, and_self, true_and, and_true, zeroR]; done) | (simp only [push_cast, ↓EPM, ↓reduceIte, seval, reduceCtorEq, List.mem_cons, List.not_mem_nil, or_false, forall_eq_or_imp, forall_eq, and_self, true_and, and_true, zeroR]; omega)))
    · have hc : ¬ ((i : Int) < (l.length : Int)) := by omega
      simp only [hc, push_cast, ↓EPM, ↓reduceIte, seval, reduceCtorEq]
      rw [show l.take i = l from List.take_of_length_le (by omega)]
      exact RetW [.sl 13 (chA l) (.row s.next i)] [.sl 13 (chA l) .none]

theorem back_spec (l : List Chg) (hl : l.length ≤ 1000000) : APure Try.prog 23 [.sl 13 (chA l) .none] (.sl 13 (chA l) .none) := by
  intro s
  refine enterA ⟨[]⟩ (Try.f23.body.getD .skip) [.tmp 2] Try.func23 fun hwf hbel => ?_; simp only [Try.f23, push_cast, ↓EPM, ↓reduceIte, seval, reduceCtorEq]
  refine ALoop_inv (ι := Nat) (fun i => i ≤ l.length) (fun i => envL [(0, .sl 13 (chA l) .none), (3, .sl 13 (chA (l.take i)) (.row s.next i)), (4, i64 i)]) (fun i => AState.new { s with base := ⟨s.next, []⟩ } (.row i)) (fun i => l.length - i) 0 (Nat.zero_le _)
    (AEnt.trans (AEnt_reserve _ _) (ent rfl ?_)) (fun i hi => ?_)
  · simp only [Wv_row, List.take_zero, push_cast, ↓EPM, ↓reduceIte, seval, reduceCtorEq]
  · by_cases hlt : i < l.length
    · have hc : ((i : Int) < (l.length : Int)) := by omega
      have h0 : (0 : Int) ≤ (i : Int) := by omega
      have hw : IntKind.i64.wrap ((i : Int) + 1) = (i : Int) + 1 := wrap_in (by omega) (by omega)
      obtain ⟨x, hx⟩ : ∃ x, l[i]? = some x := ⟨_, List.getElem?_eq_getElem hlt⟩
      have gx := chA_get hx
      have ht := len_take hi
      have htt := chA_take hx
      simp only [hc, push_cast, ↓EPM, ↓reduceIte, seval, reduceCtorEq]
      refine chainA [(AState.new { s with base := ⟨s.next, []⟩ } (.row i)), AState.set (AState.new { s with base := ⟨s.next, []⟩ } (.row i)) s.next (.row (i + 1))] [some 9, some 9, some 9, some 9, some 9, some 9, some 9, some 9, some 9, some 9, some 9, some 9, some 9, some 9, some 9, some 9, some 9, some 9, none, some 9] mixed ?_; simp only [hc, h0, gx, ht, hw,  ↓EX, EY, ↓EH, push_cast, ↓EPM, ↓reduceIte, seval, reduceCtorEq]
      refine ⟨by omega, ?_⟩
      refine round_next (i + 1) (by omega) (by omega) (AEnt_drop rfl rfl (Nat.le_succ _) ⟨by simp only [EO]; omega, fun id hid => by simp only [EO] at hid ⊢; (repeat' split) <;> first | rfl | omega | (subst_vars; simp_all)⟩ ((hwf.base _).new trivial) (EntB_all ?_))
      simp only [htt, hw, push_cast, ↓EPM, ↓reduceIte, seval, reduceCtorEq]
      (try first | omega | ((repeat' apply And.intro) <;> first | omega | (simp only [push_cast, ↓EPM, ↓reduceIte, seval, reduceCtorEq, List.mem_cons, List.not_mem_nil, or_false, forall_eq_or_imp, forall_eq, and_self, true_and, and_true, zeroR]; done) | (simp only [push_cast, ↓EPM, ↓reduceIte, seval, reduceCtorEq, List.mem_cons, List.not_mem_nil, or_false, forall_eq_or_imp, forall_eq, and_self, true_and, and_true, zeroR]; omega)))
    · have hc : ¬ ((i : Int) < (l.length : Int)) := by omega
      simp only [hc, push_cast, ↓EPM, ↓reduceIte, seval, reduceCtorEq]
      rw [show l.take i = l from List.take_of_length_le (by omega)]
      exact RetW [.sl 13 (chA l) (.row s.next i)] [.sl 13 (chA l) .none]

theorem chg_beq (c d : Chg) : (((c.k.h.toInt == d.k.h.toInt) && (((c.k.a.toList == d.k.a.toList) && ((c.k.b.toList == d.k.b.toList) && ((c.k.c.toList == d.k.c.toList) && ((c.k.d.toList == d.k.d.toList) && true)))) && true)) && (((c.w.n.toInt == d.w.n.toInt) && ((c.w.s.toInt == d.w.s.toInt) && ((c.w.lo.toInt == d.w.lo.toInt) && ((c.w.hi.toInt == d.w.hi.toInt) && true)))) && (((c.n.n.toInt == d.n.n.toInt) && ((c.n.s.toInt == d.n.s.toInt) && ((c.n.lo.toInt == d.n.lo.toInt) && ((c.n.hi.toInt == d.n.hi.toInt) && true)))) && true))) = decide (c = d) := by
  obtain ⟨⟨a1, a2, a3, a4, a5⟩, ⟨a6, a7, a8, a9⟩, ⟨e6, e7, e8, e9⟩⟩ := c
  obtain ⟨⟨b1, b2, b3, b4, b5⟩, ⟨b6, b7, b8, b9⟩, ⟨f6, f7, f8, f9⟩⟩ := d
  simp only [i64_beq, str_beq, Bool.and_true, Chg.mk.injEq, Key.mk.injEq, Cell.mk.injEq]
  rw [Bool.eq_iff_iff]; simp
theorem aeq_chg149 (c d : Chg) : AEq Try.prog 149 (.agg c.av) (.agg d.av) (decide (c = d)) := by
  rw [← chg_beq]
  exact AEq_agg (by kernel_rfl) (by kernel_rfl)

theorem same22_spec (l m : List Chg) (hl : l.length ≤ 1000000) : APure Try.prog 22 [.sl 13 (chA l) .none, .sl 13 (chA m) .none] (boo (decide (l = m))) := by
  intro s
  by_cases hlen : l.length = m.length
  · have hc0 : ((l.length : Int) = (m.length : Int)) := by omega
    refine enterA ⟨[]⟩ (Try.f22.body.getD .skip) [.tmp 4] Try.func22 fun hwf hbel => ?_; simp only [hc0,Try.f22, push_cast, ↓EPM, ↓reduceIte, seval, reduceCtorEq]
    refine ALoop_inv (ι := Nat) (fun i => i ≤ l.length ∧ l.take i = m.take i) (fun i => envL [(0, .sl 13 (chA l) .none), (1, .sl 13 (chA m) .none), (5, i64 i)]) (fun _ => { s with base := ⟨s.next, []⟩ }) (fun i => l.length - i) 0 ⟨Nat.zero_le _, rfl⟩ (ent rfl ?_) (fun i hi => ?_)
    · simp only [push_cast, ↓EPM, ↓reduceIte, seval, reduceCtorEq]
    · obtain ⟨hi, hs⟩ := hi
      have h0 : (0 : Int) ≤ (i : Int) := by omega
      by_cases hlt : i < l.length
      · have hc : ((i : Int) < (l.length : Int)) := by omega
        have hc' : ((i : Int) < (m.length : Int)) := by omega
        have hw : IntKind.i64.wrap ((i : Int) + 1) = (i : Int) + 1 := wrap_in (by omega) (by omega)
        obtain ⟨x, hx⟩ : ∃ x, l[i]? = some x := ⟨_, List.getElem?_eq_getElem hlt⟩
        obtain ⟨y, hy⟩ : ∃ x, m[i]? = some x := ⟨_, List.getElem?_eq_getElem (hlen ▸ hlt)⟩
        have gx := chA_get hx
        have gy := chA_get hy
        simp only [hc0, hc, hc', push_cast, ↓EPM, ↓reduceIte, seval, reduceCtorEq]
        refine drawA mixed ?_; simp only [h0, hc, hc', hc0, gx, gy, push_cast, ↓EPM, ↓reduceIte, seval, reduceCtorEq]
        refine eqK_use (aeq_chg149 x y) ?_
        by_cases hq : x = y
        · subst hq
          simp only [decide_true]
          simp only [hw, push_cast, ↓EPM, ↓reduceIte, seval, reduceCtorEq]
          refine round_next (i + 1) ⟨by omega, by rw [take_get hx, take_get hy, hs]⟩ (by omega) (ent rfl ?_)
          simp only [push_cast, ↓EPM, ↓reduceIte, seval, reduceCtorEq]
        · have hne : ¬ l = m := fun e => hq (by subst e; rw [hx] at hy; exact Option.some.inj hy)
          simp only [hq, decide_false]
          rw [show decide (l = m) = false by simp [hne]]
          simp only [push_cast, ↓EPM, ↓reduceIte, seval, reduceCtorEq]
          exact RetP [boo false]
      · have hc : ¬ ((i : Int) < (l.length : Int)) := by omega
        have hc' : ¬ ((i : Int) < (m.length : Int)) := by omega
        rw [List.take_of_length_le (by omega), List.take_of_length_le (by omega)] at hs
        rw [show decide (l = m) = true by simp [hs]]
        simp only [hc, hc', hc0, push_cast, ↓EPM, ↓reduceIte, seval, reduceCtorEq]
        exact RetP [boo true]
  · have hc0 : ¬ ((l.length : Int) = (m.length : Int)) := by omega
    rw [show decide (l = m) = false by simp; intro e; exact hlen (by rw [e])]
    refine enterA ⟨[]⟩ (Try.f22.body.getD .skip) [.tmp 4] Try.func22 fun hwf hbel => ?_; simp only [hc0,Try.f22, push_cast, ↓EPM, ↓reduceIte, seval, reduceCtorEq]
    exact RetP [boo false]

theorem chA_take' (pre rest : List Chg) : (chA (pre ++ rest)).take pre.length = chA pre := by
  rw [← chA_app, ← chA_len pre, List.take_left]
theorem chA_drop' (pre rest : List Chg) : ((chA (pre ++ rest)).take (pre.length + rest.length)).drop pre.length = chA rest := by
  rw [← List.length_append, ← chA_len (pre ++ rest), List.take_length, ← chA_app, ← chA_len pre, List.drop_left]
theorem chA_cons (x : Chg) (l : List Chg) : chA (x :: l) = x.av :: chA l := rfl
theorem chA_append (l m : List Chg) : chA (l ++ m) = chA l ++ chA m := (chA_app l m).symm
theorem chA_self (l : List Chg) : (chA l).take l.length = chA l := by rw [← chA_len l, List.take_length]
theorem chA_none (l : List Chg) : (chA l).drop l.length = [] := by rw [← chA_len l, List.drop_length]
theorem chA_isnil {l : List Chg} (h : chA l = []) : l = [] := by cases l with | nil => rfl | cons x l => simp [chA] at h
theorem chA_nn {l : List Chg} (h : ¬ l = []) : (chA l = []) = False := eq_false fun e => h (chA_isnil e)

def zeroX : Chg := ⟨⟨0, .empty, .empty, .empty, .empty⟩, ⟨0, 0, 0, 0⟩, ⟨0, 0, 0, 0⟩⟩
def findC (l : List Chg) (k : Key) : Option Chg := l.find? fun c => decide (c.k = k)
def resX (o : Option Chg) : AV := .tup [.agg (o.getD zeroX).av, boo o.isSome]

theorem find_spec (l : List Chg) (k : Key) (hl : l.length ≤ 1000000) : APure Try.prog 75 [.sl 13 (chA l) .none, .agg k.av] (resX (findC l k)) := by
  intro s
  refine enterA ⟨[3]⟩ (Try.f75.body.getD .skip) [.cell 4 149, .tmp 5] Try.func75 fun hwf hbel => ?_; simp only [Try.f75, push_cast, ↓EPM, ↓reduceIte, seval, reduceCtorEq]
  refine ALoop_inv (ι := Nat) (fun i => i ≤ l.length ∧ ∀ c ∈ l.take i, ¬ c.k = k) (fun i => envL [(0, .sl 13 (chA l) .none), (3, .ep k.av 0), (4, .ptr s.next 0), (6, i64 i)]) (fun _ => AState.new { s with base := ⟨s.next, []⟩ } (.cells zeroX.av)) (fun i => l.length - i) 0 ⟨Nat.zero_le _, by simp⟩ (ent rfl ?_) (fun i hi => ?_)
  · simp only [push_cast, ↓EPM, ↓reduceIte, seval, reduceCtorEq]
  · obtain ⟨hi, hs⟩ := hi
    by_cases hlt : i < l.length
    · obtain ⟨x, hx⟩ : ∃ x, l[i]? = some x := ⟨_, List.getElem?_eq_getElem hlt⟩
      have gx := chA_get hx
      have hc : ((i : Int) < (l.length : Int)) := by omega
      have h0 : (0 : Int) ≤ (i : Int) := by omega
      have hw : IntKind.i64.wrap ((i : Int) + 1) = (i : Int) + 1 := wrap_in (by omega) (by omega)
      simp only [hc, push_cast, ↓EPM, ↓reduceIte, seval, reduceCtorEq]
      refine drawA mixed ?_; simp only [h0, hc, gx, push_cast, ↓EPM, ↓reduceIte, seval, reduceCtorEq]
      refine eqK_use (aeq_key x.k k) ?_
      by_cases hq : x.k = k
      · have e : findC l k = some x := by
          rw [findC, List.find?_eq_some_iff_getElem]
          obtain ⟨hi1, he⟩ := List.getElem?_eq_some_iff.1 hx
          refine ⟨by simpa using hq, i, hi1, he, fun j hj => ?_⟩
          have hm : l[j]'(by omega) ∈ l.take i := by
            rw [List.mem_take_iff_getElem]
            exact ⟨j, by omega, rfl⟩
          simpa using hs _ hm
        simp only [hq, decide_true, e, resX, Option.getD_some, Option.isSome_some]
        simp only [h0, hc, gx, push_cast, ↓EPM, ↓reduceIte, seval, reduceCtorEq]
        exact RetP [.agg x.av, boo true]
      · simp only [hq, decide_false]
        simp only [hw, push_cast, ↓EPM, ↓reduceIte, seval, reduceCtorEq]
        refine round_next (i + 1) ⟨by omega, fun c hc => ?_⟩ (by omega) (ent rfl ?_)
        · rw [take_get hx] at hc
          rcases List.mem_append.1 hc with h | h
          · exact hs c h
          · rw [List.mem_singleton.1 h]; exact hq
        · simp only [push_cast, ↓EPM, ↓reduceIte, seval, reduceCtorEq]
    · have hc : ¬ ((i : Int) < (l.length : Int)) := by omega
      rw [List.take_of_length_le (by omega)] at hs
      have e : findC l k = none := by
        rw [findC, List.find?_eq_none]
        intro c hc
        simpa using hs c hc
      simp only [e, resX, Option.getD_none, Option.isSome_none]
      simp only [hc, push_cast, ↓EPM, ↓reduceIte, seval, reduceCtorEq]
      exact RetP [.agg zeroX.av, boo false]

/-- A change put into others, by its key, if it is not there. -/
def putC (pre rest : List Chg) (x : Chg) : List Chg :=
  match rest with
  | [] => pre ++ [x]
  | y :: t => if y.k = x.k then pre ++ y :: t else pre ++ x :: y :: t

theorem putC_pr (pre rest : List Chg) (x : Chg) (h1 : ∀ r ∈ pre, cmpK r.k x.k < 0) (h2 : ∀ y t, rest = y :: t → ¬ cmpK y.k x.k < 0) (hl : (pre ++ rest).length ≤ 1000000) :
    APure Try.prog 76 [.sl 13 (chA (pre ++ rest)) .none, .agg x.av] (.sl 13 (chA (putC pre rest x)) .none) := by
  intro s
  have hlen : (pre ++ rest).length = pre.length + rest.length := List.length_append
  refine enterA ⟨[3]⟩ (Try.f76.body.getD .skip) [.tmp 4] Try.func76 fun hwf hbel => ?_; simp only [Try.f76, push_cast, ↓EPM, ↓reduceIte, seval, reduceCtorEq]
  refine ALoop_inv (ι := Nat) (fun i => i ≤ pre.length) (fun i => envL [(0, .sl 13 (chA (pre ++ rest)) .none), (3, .ep x.av 0), (5, i64 i)]) (fun _ => { s with base := ⟨s.next, []⟩ }) (fun i => pre.length - i) 0 (Nat.zero_le _) (ent rfl ?_) (fun i hi => ?_)
  · simp only [push_cast, ↓EPM, ↓reduceIte, seval, reduceCtorEq]
  · have h0 : (0 : Int) ≤ (i : Int) := by omega
    by_cases hlt : i < pre.length
    · have hc : ((i : Int) < (pre.length : Int) + (rest.length : Int)) := by omega
      have hw : IntKind.i64.wrap ((i : Int) + 1) = (i : Int) + 1 := wrap_in (by omega) (by omega)
      obtain ⟨y, hy⟩ : ∃ y, pre[i]? = some y := ⟨_, List.getElem?_eq_getElem hlt⟩
      have gy := chA_get (l := pre ++ rest) (i := i) (x := y) (by rw [List.getElem?_append_left hlt, hy])
      have hp : cmpK y.k x.k < 0 := h1 y (List.mem_of_getElem? hy)
      simp only [push_cast, ↓EPM, ↓reduceIte, seval, reduceCtorEq]
      refine drawA mixed ?_; simp only [hc, h0, gy, push_cast, ↓EPM, ↓reduceIte, seval, reduceCtorEq]
      refine qcall (rcmp_spec y.k x.k) rfl (by simp only [push_cast, ↓EPM, ↓reduceIte, seval, reduceCtorEq] <;> rfl) ?_; simp only [push_cast, ↓EPM, ↓reduceIte, seval, reduceCtorEq]
      simp only [hp, hw, push_cast, ↓EPM, ↓reduceIte, seval, reduceCtorEq]
      refine round_next (i + 1) (by omega) (by omega) (ent rfl ?_)
      simp only [push_cast, ↓EPM, ↓reduceIte, seval, reduceCtorEq]
    · have hi' : i = pre.length := by omega
      subst hi'
      have fin : ∀ (hne : ∀ y t, rest = y :: t → ¬ y.k = x.k), putC pre rest x = pre ++ [x] ++ rest := by
        intro hne
        cases rest with
        | nil => simp [putC]
        | cons y t => simp [putC, hne y t rfl]
      cases rest with
      | nil =>
        have hc : ¬ ((pre.length : Int) < (pre.length : Int)) := by omega
        have e1 := chA_self pre
        have e2 := chA_none pre
        have hle : (pre.length : Int) ≤ (pre.length : Int) := by omega
        simp only [push_cast, ↓EPM, ↓reduceIte, seval, reduceCtorEq]
        refine drawA mixed ?_; simp only [hc, h0, push_cast, ↓EPM, ↓reduceIte, seval, reduceCtorEq]
        refine drawA mixed ?_; simp only [hc, h0, push_cast, ↓EPM, ↓reduceIte, seval, reduceCtorEq]
        by_cases hp0 : pre = []
        · subst hp0
          simp only [List.nil_append, List.length_nil, chA_nil] at *
          refine chainA [({ s with base := ⟨s.next, []⟩ }), ({ s with base := ⟨s.next, []⟩ }), AState.new { s with base := ⟨s.next, []⟩ } (.row 1), AState.set (AState.new { s with base := ⟨s.next, []⟩ } (.row 1)) s.next (.row (1 + 0))] [some 9, some 9, some 9, some 9, none, some 9, some 9, none, some 9, some 9, some 9, none, some 9] mixed ?_; simp only [h0, hle, e1, e2, List.append_nil,  ↓EX, EY, ↓EH, push_cast, ↓EPM, ↓reduceIte, seval, reduceCtorEq]
          exact RetW [.sl 13 [x.av] (.row s.next 1)] [.sl 13 (chA (putC [] [] x)) .none] (hw := by simp only [WvL, putC, chA_cons, List.nil_append, push_cast, ↓EPM, ↓reduceIte, seval, reduceCtorEq])
        · have hn := chA_nn hp0
          refine chainA [({ s with base := ⟨s.next, []⟩ }), AState.new { s with base := ⟨s.next, []⟩ } (.row pre.length), AState.set (AState.new { s with base := ⟨s.next, []⟩ } (.row pre.length)) s.next (.row (pre.length + 1)), AState.set (AState.set (AState.new { s with base := ⟨s.next, []⟩ } (.row pre.length)) s.next (.row (pre.length + 1))) s.next (.row (pre.length + 1 + 0))] [some 9, some 9, some 9, some 9, none, some 9, some 9, none, some 9, some 9, some 9, none, some 9] mixed ?_; simp only [h0, hle, e1, e2, List.append_nil, hn,  ↓EX, EY, ↓EH, push_cast, ↓EPM, ↓reduceIte, seval, reduceCtorEq]
          refine ⟨by omega, by omega, by omega, ?_⟩
          exact RetW [.sl 13 (chA pre ++ [x.av]) (.row s.next (pre.length + 1))] [.sl 13 (chA (putC pre [] x)) .none] (hw := by simp only [WvL, putC, chA_cons, chA_append, push_cast, ↓EPM, ↓reduceIte, seval, reduceCtorEq])
      | cons y t =>
        have hy2 : ¬ cmpK y.k x.k < 0 := h2 y t rfl
        simp only [List.length_cons] at hlen
        have hc : ((pre.length : Int) < (pre.length : Int) + ((t.length : Int) + 1)) := by omega
        have gy := chA_get (l := pre ++ y :: t) (i := pre.length) (x := y) (by simp)
        have e1 := chA_take' pre (y :: t)
        have hT : ((pre.length : Int) + ((t.length : Int) + 1)).toNat = pre.length + (t.length + 1) := by omega
        have hD : List.drop pre.length (List.take (pre.length + (t.length + 1)) (chA (pre ++ y :: t))) = chA (y :: t) := chA_drop' pre (y :: t)
        have hle : (pre.length : Int) ≤ (pre.length : Int) + ((t.length : Int) + 1) := by omega
        have hcn : (chA (y :: t) = []) = False := chA_nn (by simp)
        simp only [push_cast, ↓EPM, ↓reduceIte, seval, reduceCtorEq]
        refine drawA mixed ?_; simp only [hc, h0, gy, push_cast, ↓EPM, ↓reduceIte, seval, reduceCtorEq]
        refine qcall (rcmp_spec y.k x.k) rfl (by simp only [push_cast, ↓EPM, ↓reduceIte, seval, reduceCtorEq] <;> rfl) ?_; simp only [push_cast, ↓EPM, ↓reduceIte, seval, reduceCtorEq]
        simp only [hy2, push_cast, ↓EPM, ↓reduceIte, seval, reduceCtorEq]
        refine drawA mixed ?_; simp only [hc, h0, gy, push_cast, ↓EPM, ↓reduceIte, seval, reduceCtorEq]
        refine eqK_use (aeq_key y.k x.k) ?_
        by_cases hk : y.k = x.k
        · rw [show putC pre (y :: t) x = pre ++ y :: t by simp [putC, hk]]
          simp only [hk, decide_true]
          simp only [push_cast, ↓EPM, ↓reduceIte, seval, reduceCtorEq]
          exact RetP [.sl 13 (chA (pre ++ y :: t)) .none]
        · rw [show putC pre (y :: t) x = pre ++ x :: y :: t by simp [putC, hk]]
          simp only [hk, decide_false]
          simp only [push_cast, ↓EPM, ↓reduceIte, seval, reduceCtorEq]
          by_cases hp0 : pre = []
          · subst hp0
            simp only [List.nil_append, List.length_nil, chA_nil] at *
            have h3 : (0 : Int) ≤ (t.length : Int) + 1 := by omega
            have hT4 : ((t.length : Int) + 1).toNat = t.length + 1 := by omega
            have hself : List.take (t.length + 1) (chA (y :: t)) = chA (y :: t) := chA_self (y :: t)
            refine chainA [({ s with base := ⟨s.next, []⟩ }), ({ s with base := ⟨s.next, []⟩ }), AState.new { s with base := ⟨s.next, []⟩ } (.row 1), AState.set (AState.new { s with base := ⟨s.next, []⟩ } (.row 1)) s.next (.row (1 + (t.length + 1)))] [some 9, some 9, some 9, some 9, none, some 9, some 9, none, some 9, some 9, some 9, none, some 9] mixed ?_; simp only [h3, hT4, hself, List.length_cons, hcn,  ↓EX, EY, ↓EH, push_cast, ↓EPM, ↓reduceIte, seval, reduceCtorEq]
            refine ⟨by omega, ?_⟩
            exact RetW [.sl 13 ([x.av] ++ chA (y :: t)) (.row s.next (1 + (t.length + 1)))] [.sl 13 (chA (x :: y :: t)) .none] (hw := by simp only [WvL, chA_cons, push_cast, ↓EPM, ↓reduceIte, seval, reduceCtorEq])
          · have hn := chA_nn hp0
            refine chainA [({ s with base := ⟨s.next, []⟩ }), AState.new { s with base := ⟨s.next, []⟩ } (.row pre.length), AState.set (AState.new { s with base := ⟨s.next, []⟩ } (.row pre.length)) s.next (.row (pre.length + 1)), AState.set (AState.set (AState.new { s with base := ⟨s.next, []⟩ } (.row pre.length)) s.next (.row (pre.length + 1))) s.next (.row (pre.length + 1 + (t.length + 1)))] [some 9, some 9, some 9, some 9, none, some 9, some 9, none, some 9, some 9, some 9, none, some 9] mixed ?_; simp only [h0, hle, e1, hT, hD, hcn, hn,  ↓EX, EY, ↓EH, push_cast, ↓EPM, ↓reduceIte, seval, reduceCtorEq]
            refine ⟨by omega, by omega, by omega, ?_⟩
            exact RetW [.sl 13 (chA pre ++ [x.av] ++ chA (y :: t)) (.row s.next (pre.length + 1 + (t.length + 1)))] [.sl 13 (chA (pre ++ x :: y :: t)) .none] (hw := by simp only [WvL, chA_cons, chA_append, List.append_assoc, push_cast, ↓EPM, ↓reduceIte, seval, reduceCtorEq])

def putX (l : List Chg) (x : Chg) : List Chg := putC (l.takeWhile fun r => decide (cmpK r.k x.k < 0)) (l.dropWhile fun r => decide (cmpK r.k x.k < 0)) x
theorem putX_spec (l : List Chg) (x : Chg) (hl : l.length ≤ 1000000) : APure Try.prog 76 [.sl 13 (chA l) .none, .agg x.av] (.sl 13 (chA (putX l x)) .none) := by
  have h := putC_pr (l.takeWhile fun r => decide (cmpK r.k x.k < 0)) (l.dropWhile fun r => decide (cmpK r.k x.k < 0)) x
    (fun r hr => by simpa using mem_takeWhile hr) (fun y t e => by simpa using head_dropWhile e)
  rw [List.takeWhile_append_dropWhile] at h
  exact h hl

end Go.Proofs

namespace Go.Proofs
open Go Go.Av
set_option linter.unusedSimpArgs false
set_option linter.unusedVariables false
set_option maxRecDepth 30000
set_option maxHeartbeats 4000000

def okC (p : Option Key) (x : Chg) : Bool := (match p with | some k => decide (cmpK k x.k < 0) | none => true) && (x.k.named && (decide (¬ x.w = x.n) && (x.w.right && x.n.right)))
def rightC : Option Key → List Chg → Bool
  | _, [] => true
  | p, x :: l => okC p x && rightC (some x.k) l
def prevC (l : List Chg) : Nat → Option Key
  | 0 => none
  | i + 1 => (l[i]?).map (·.k)
theorem okC_c {k : Key} {x : Chg} (h : 0 ≤ cmpK k x.k) : okC (some k) x = false := by
  have : ¬ cmpK k x.k < 0 := by omega
  simp [okC, this]
theorem okC_n {p : Option Key} {x : Chg} (h : x.k.named = false) : okC p x = false := by simp [okC, h]
theorem okC_e {p : Option Key} {x : Chg} (h : x.w = x.n) : okC p x = false := by simp [okC, h]
theorem okC_w {p : Option Key} {x : Chg} (h : x.w.right = false) : okC p x = false := by simp [okC, h]
theorem okC_r {p : Option Key} {x : Chg} (h : x.n.right = false) : okC p x = false := by simp [okC, h]
theorem okC_0 {x : Chg} (h1 : x.k.named = true) (h2 : ¬ x.w = x.n) (h3 : x.w.right = true) (h4 : x.n.right = true) : okC none x = true := by simp [okC, h1, h2, h3, h4]
theorem okC_s {k : Key} {x : Chg} (h0 : ¬ 0 ≤ cmpK k x.k) (h1 : x.k.named = true) (h2 : ¬ x.w = x.n) (h3 : x.w.right = true) (h4 : x.n.right = true) : okC (some k) x = true := by
  have : cmpK k x.k < 0 := by omega
  simp [okC, this, h1, h2, h3, h4]
theorem dright_spec (l : List Chg) (hl : l.length ≤ 1000000) : APure Try.prog 70 [.sl 13 (chA l) .none] (boo (rightC none l)) := by
  intro s
  generalize hr : rightC none l = r
  refine enterA ⟨[]⟩ (Try.f70.body.getD .skip) [.tmp 2] Try.func70 fun hwf hbel => ?_; simp only [Try.f70, push_cast, ↓EPM, ↓reduceIte, seval, reduceCtorEq]
  refine ALoop_inv (ι := Nat) (fun i => i ≤ l.length ∧ r = rightC (prevC l i) (l.drop i)) (fun i => envL [(0, .sl 13 (chA l) .none), (5, .sl 13 (chA l) .none), (6, i64 l.length), (7, i64 i)]) (fun _ => { s with base := ⟨s.next, []⟩ }) (fun i => l.length - i) 0 ⟨Nat.zero_le _, by rw [← hr]; rfl⟩ (ent rfl ?_) (fun i hi => ?_)
  · simp only [push_cast, ↓EPM, ↓reduceIte, seval, reduceCtorEq]
  · obtain ⟨hi, hs⟩ := hi
    by_cases hlt : i < l.length
    · obtain ⟨x, hx⟩ : ∃ x, l[i]? = some x := ⟨_, List.getElem?_eq_getElem hlt⟩
      have gx := chA_get hx
      rw [drop_get hx, rightC] at hs
      have next : okC (prevC l i) x = true → i + 1 ≤ l.length ∧ r = rightC (prevC l (i + 1)) (l.drop (i + 1)) := fun ho => ⟨by omega, by rw [hs, ho]; simp [prevC, hx]⟩
      have stop : okC (prevC l i) x = false → r = false := fun ho => by rw [hs, ho]; rfl
      cases i with
      | zero =>
        have hc : ((0 : Int) < (l.length : Int)) := by omega
        have h0 : (0 : Int) ≤ (0 : Int) := by omega
        have hw : IntKind.i64.wrap 1 = 1 := wrap_in (by omega) (by omega)
        simp only [hc, h0, gx, push_cast, ↓EPM, ↓reduceIte, seval, reduceCtorEq]
        refine drawA mixed ?_; simp only [hc, h0, gx, push_cast, ↓EPM, ↓reduceIte, seval, reduceCtorEq]
        refine (named_spec x.k).use ?_
        cases hn : x.k.named with
        | false =>
          simp only [hc, h0, gx, push_cast, ↓EPM, ↓reduceIte, seval, reduceCtorEq]
          rw [stop (okC_n hn)]
          exact RetP [boo false]
        | true =>
          simp only [hc, h0, gx, push_cast, ↓EPM, ↓reduceIte, seval, reduceCtorEq]
          refine eqK_use (aeq_cell x.w x.n) ?_
          by_cases he : x.w = x.n
          · rw [decide_eq_true he]
            simp only [hc, h0, gx, push_cast, ↓EPM, ↓reduceIte, seval, reduceCtorEq]
            rw [stop (okC_e he)]
            exact RetP [boo false]
          · rw [decide_eq_false he]
            simp only [hc, h0, gx, push_cast, ↓EPM, ↓reduceIte, seval, reduceCtorEq]
            refine (right_spec x.w).use ?_
            cases hw_ : x.w.right with
            | false =>
              simp only [hc, h0, gx, push_cast, ↓EPM, ↓reduceIte, seval, reduceCtorEq]
              rw [stop (okC_w hw_)]
              exact RetP [boo false]
            | true =>
              simp only [hc, h0, gx, push_cast, ↓EPM, ↓reduceIte, seval, reduceCtorEq]
              refine (right_spec x.n).use ?_
              cases hr_ : x.n.right with
              | false =>
                simp only [hc, h0, gx, push_cast, ↓EPM, ↓reduceIte, seval, reduceCtorEq]
                rw [stop (okC_r hr_)]
                exact RetP [boo false]
              | true =>
                simp only [hc, h0, gx, hw, push_cast, ↓EPM, ↓reduceIte, seval, reduceCtorEq]
                refine round_next (1) (next (okC_0 hn he hw_ hr_)) (by omega) (AEnt_drop rfl rfl (Nat.le_refl _) ⟨by simp only [EO]; omega, fun id hid => by simp only [EO] at hid ⊢; (repeat' split) <;> first | rfl | omega | (subst_vars; simp_all)⟩ (hwf.base _) (EntB_all ?_))
                simp only [push_cast, ↓EPM, ↓reduceIte, seval, reduceCtorEq]
                (try first | omega | ((repeat' apply And.intro) <;> first | omega | (simp only [push_cast, ↓EPM, ↓reduceIte, seval, reduceCtorEq, List.mem_cons, List.not_mem_nil, or_false, forall_eq_or_imp, forall_eq, and_self, true_and, and_true, zeroR]; done) | (simp only [push_cast, ↓EPM, ↓reduceIte, seval, reduceCtorEq, List.mem_cons, List.not_mem_nil, or_false, forall_eq_or_imp, forall_eq, and_self, true_and, and_true, zeroR]; omega)))
      | succ j =>
        obtain ⟨y, hy⟩ : ∃ y, l[j]? = some y := ⟨_, List.getElem?_eq_getElem (by omega)⟩
        have gy := chA_get hy
        have hp : prevC l (j + 1) = some y.k := by simp [prevC, hy]
        rw [hp] at stop next
        have hc : ((j : Int) + 1 < (l.length : Int)) := by omega
        have hc' : ((j : Int) < (l.length : Int)) := by omega
        have h0 : (0 : Int) < (j : Int) + 1 := by omega
        have h0' : (0 : Int) ≤ (j : Int) + 1 := by omega
        have h0'' : (0 : Int) ≤ (j : Int) := by omega
        have hw' : IntKind.i64.wrap ((j : Int) + 1 - 1) = (j : Int) := by rw [wrap_in (by omega) (by omega)]; omega
        have ht : ((j : Int) + 1).toNat = j + 1 := by omega
        have hw : IntKind.i64.wrap ((j : Int) + 1 + 1) = (j : Int) + 1 + 1 := wrap_in (by omega) (by omega)
        simp only [hc, hc', h0, h0', h0'', hw', ht, gx, gy, push_cast, ↓EPM, ↓reduceIte, seval, reduceCtorEq]
        refine drawA mixed ?_; simp only [hc, hc', h0, h0', h0'', hw', ht, gx, gy, push_cast, ↓EPM, ↓reduceIte, seval, reduceCtorEq]
        refine qcall (fcmp_spec y.k x.k) rfl (by simp only [push_cast, ↓EPM, ↓reduceIte, seval, reduceCtorEq] <;> rfl) ?_; simp only [push_cast, ↓EPM, ↓reduceIte, seval, reduceCtorEq]
        by_cases hA : 0 ≤ cmpK y.k x.k
        · simp only [hA, push_cast, ↓EPM, ↓reduceIte, seval, reduceCtorEq]
          rw [stop (okC_c hA)]
          exact RetP [boo false]
        · simp only [hA, hc, hc', h0, h0', h0'', hw', ht, gx, gy, push_cast, ↓EPM, ↓reduceIte, seval, reduceCtorEq]
          refine (named_spec x.k).use ?_
          cases hn : x.k.named with
          | false =>
            simp only [hc, hc', h0, h0', h0'', hw', ht, gx, gy, push_cast, ↓EPM, ↓reduceIte, seval, reduceCtorEq]
            rw [stop (okC_n hn)]
            exact RetP [boo false]
          | true =>
            simp only [hc, hc', h0, h0', h0'', hw', ht, gx, gy, push_cast, ↓EPM, ↓reduceIte, seval, reduceCtorEq]
            refine eqK_use (aeq_cell x.w x.n) ?_
            by_cases he : x.w = x.n
            · rw [decide_eq_true he]
              simp only [hc, hc', h0, h0', h0'', hw', ht, gx, gy, push_cast, ↓EPM, ↓reduceIte, seval, reduceCtorEq]
              rw [stop (okC_e he)]
              exact RetP [boo false]
            · rw [decide_eq_false he]
              simp only [hc, hc', h0, h0', h0'', hw', ht, gx, gy, push_cast, ↓EPM, ↓reduceIte, seval, reduceCtorEq]
              refine (right_spec x.w).use ?_
              cases hw_ : x.w.right with
              | false =>
                simp only [hc, hc', h0, h0', h0'', hw', ht, gx, gy, push_cast, ↓EPM, ↓reduceIte, seval, reduceCtorEq]
                rw [stop (okC_w hw_)]
                exact RetP [boo false]
              | true =>
                simp only [hc, hc', h0, h0', h0'', hw', ht, gx, gy, push_cast, ↓EPM, ↓reduceIte, seval, reduceCtorEq]
                refine (right_spec x.n).use ?_
                cases hr_ : x.n.right with
                | false =>
                  simp only [hc, hc', h0, h0', h0'', hw', ht, gx, gy, push_cast, ↓EPM, ↓reduceIte, seval, reduceCtorEq]
                  rw [stop (okC_r hr_)]
                  exact RetP [boo false]
                | true =>
                  simp only [hc, hc', h0, h0', h0'', hw', ht, gx, gy, hw, push_cast, ↓EPM, ↓reduceIte, seval, reduceCtorEq]
                  refine round_next (j + 1 + 1) (next (okC_s hA hn he hw_ hr_)) (by omega) (AEnt_drop rfl rfl (Nat.le_refl _) ⟨by simp only [EO]; omega, fun id hid => by simp only [EO] at hid ⊢; (repeat' split) <;> first | rfl | omega | (subst_vars; simp_all)⟩ (hwf.base _) (EntB_all ?_))
                  simp only [push_cast, ↓EPM, ↓reduceIte, seval, reduceCtorEq]
                  (try first | omega | ((repeat' apply And.intro) <;> first | omega | (simp only [push_cast, ↓EPM, ↓reduceIte, seval, reduceCtorEq, List.mem_cons, List.not_mem_nil, or_false, forall_eq_or_imp, forall_eq, and_self, true_and, and_true, zeroR]; done) | (simp only [push_cast, ↓EPM, ↓reduceIte, seval, reduceCtorEq, List.mem_cons, List.not_mem_nil, or_false, forall_eq_or_imp, forall_eq, and_self, true_and, and_true, zeroR]; omega)))
    · have hc : ¬ ((i : Int) < (l.length : Int)) := by omega
      rw [List.drop_eq_nil_of_le (by omega), rightC] at hs
      rw [hs]
      simp only [hc, push_cast, ↓EPM, ↓reduceIte, seval, reduceCtorEq]
      exact RetP [boo true]

theorem drright_spec (l : List Chg) (hl : l.length ≤ 1000000) : APure Try.prog 74 [.sl 13 (chA l) .none] (boo (rightC none l)) := by
  intro s
  generalize hr : rightC none l = r
  refine enterA ⟨[]⟩ (Try.f74.body.getD .skip) [.tmp 2] Try.func74 fun hwf hbel => ?_; simp only [Try.f74, push_cast, ↓EPM, ↓reduceIte, seval, reduceCtorEq]
  refine ALoop_inv (ι := Nat) (fun i => i ≤ l.length ∧ r = rightC (prevC l i) (l.drop i)) (fun i => envL [(0, .sl 13 (chA l) .none), (3, i64 i)]) (fun _ => { s with base := ⟨s.next, []⟩ }) (fun i => l.length - i) 0 ⟨Nat.zero_le _, by rw [← hr]; rfl⟩ (ent rfl ?_) (fun i hi => ?_)
  · simp only [push_cast, ↓EPM, ↓reduceIte, seval, reduceCtorEq]
  · obtain ⟨hi, hs⟩ := hi
    by_cases hlt : i < l.length
    · obtain ⟨x, hx⟩ : ∃ x, l[i]? = some x := ⟨_, List.getElem?_eq_getElem hlt⟩
      have gx := chA_get hx
      rw [drop_get hx, rightC] at hs
      have next : okC (prevC l i) x = true → i + 1 ≤ l.length ∧ r = rightC (prevC l (i + 1)) (l.drop (i + 1)) := fun ho => ⟨by omega, by rw [hs, ho]; simp [prevC, hx]⟩
      have stop : okC (prevC l i) x = false → r = false := fun ho => by rw [hs, ho]; rfl
      cases i with
      | zero =>
        have hc : ((0 : Int) < (l.length : Int)) := by omega
        have h0 : (0 : Int) ≤ (0 : Int) := by omega
        have hw : IntKind.i64.wrap 1 = 1 := wrap_in (by omega) (by omega)
        simp only [hc, h0, gx, push_cast, ↓EPM, ↓reduceIte, seval, reduceCtorEq]
        refine drawA mixed ?_; simp only [hc, h0, gx, push_cast, ↓EPM, ↓reduceIte, seval, reduceCtorEq]
        refine qcall (rnamed_spec x.k) rfl (by simp only [push_cast, ↓EPM, ↓reduceIte, seval, reduceCtorEq] <;> rfl) ?_; simp only [push_cast, ↓EPM, ↓reduceIte, seval, reduceCtorEq]
        cases hn : x.k.named with
        | false =>
          simp only [hc, h0, gx, push_cast, ↓EPM, ↓reduceIte, seval, reduceCtorEq]
          rw [stop (okC_n hn)]
          exact RetP [boo false]
        | true =>
          simp only [hc, h0, gx, push_cast, ↓EPM, ↓reduceIte, seval, reduceCtorEq]
          refine qcall (rright_spec x.w) rfl (by simp only [push_cast, ↓EPM, ↓reduceIte, seval, reduceCtorEq] <;> rfl) ?_; simp only [push_cast, ↓EPM, ↓reduceIte, seval, reduceCtorEq]
          cases hw_ : x.w.right with
          | false =>
            simp only [hc, h0, gx, push_cast, ↓EPM, ↓reduceIte, seval, reduceCtorEq]
            rw [stop (okC_w hw_)]
            exact RetP [boo false]
          | true =>
            simp only [hc, h0, gx, push_cast, ↓EPM, ↓reduceIte, seval, reduceCtorEq]
            refine qcall (rright_spec x.n) rfl (by simp only [push_cast, ↓EPM, ↓reduceIte, seval, reduceCtorEq] <;> rfl) ?_; simp only [push_cast, ↓EPM, ↓reduceIte, seval, reduceCtorEq]
            cases hr_ : x.n.right with
            | false =>
              simp only [hc, h0, gx, push_cast, ↓EPM, ↓reduceIte, seval, reduceCtorEq]
              rw [stop (okC_r hr_)]
              exact RetP [boo false]
            | true =>
              simp only [hc, h0, gx, push_cast, ↓EPM, ↓reduceIte, seval, reduceCtorEq]
              refine eqK_use (aeq_cell x.w x.n) ?_
              by_cases he : x.w = x.n
              · rw [decide_eq_true he]
                simp only [hc, h0, gx, push_cast, ↓EPM, ↓reduceIte, seval, reduceCtorEq]
                rw [stop (okC_e he)]
                exact RetP [boo false]
              · rw [decide_eq_false he]
                simp only [hc, h0, gx, hw, push_cast, ↓EPM, ↓reduceIte, seval, reduceCtorEq]
                refine round_next (1) (next (okC_0 hn he hw_ hr_)) (by omega) (ent rfl ?_)
                simp only [push_cast, ↓EPM, ↓reduceIte, seval, reduceCtorEq]
      | succ j =>
        obtain ⟨y, hy⟩ : ∃ y, l[j]? = some y := ⟨_, List.getElem?_eq_getElem (by omega)⟩
        have gy := chA_get hy
        have hp : prevC l (j + 1) = some y.k := by simp [prevC, hy]
        rw [hp] at stop next
        have hc : ((j : Int) + 1 < (l.length : Int)) := by omega
        have hc' : ((j : Int) < (l.length : Int)) := by omega
        have h0 : (0 : Int) < (j : Int) + 1 := by omega
        have h0' : (0 : Int) ≤ (j : Int) + 1 := by omega
        have h0'' : (0 : Int) ≤ (j : Int) := by omega
        have hw' : IntKind.i64.wrap ((j : Int) + 1 - 1) = (j : Int) := by rw [wrap_in (by omega) (by omega)]; omega
        have ht : ((j : Int) + 1).toNat = j + 1 := by omega
        have hw : IntKind.i64.wrap ((j : Int) + 1 + 1) = (j : Int) + 1 + 1 := wrap_in (by omega) (by omega)
        simp only [hc, hc', h0, h0', h0'', hw', ht, gx, gy, push_cast, ↓EPM, ↓reduceIte, seval, reduceCtorEq]
        refine drawA mixed ?_; simp only [hc, hc', h0, h0', h0'', hw', ht, gx, gy, push_cast, ↓EPM, ↓reduceIte, seval, reduceCtorEq]
        refine qcall (rcmp_spec y.k x.k) rfl (by simp only [push_cast, ↓EPM, ↓reduceIte, seval, reduceCtorEq] <;> rfl) ?_; simp only [push_cast, ↓EPM, ↓reduceIte, seval, reduceCtorEq]
        by_cases hA : 0 ≤ cmpK y.k x.k
        · simp only [hA, push_cast, ↓EPM, ↓reduceIte, seval, reduceCtorEq]
          rw [stop (okC_c hA)]
          exact RetP [boo false]
        · simp only [hA, hc, hc', h0, h0', h0'', hw', ht, gx, gy, push_cast, ↓EPM, ↓reduceIte, seval, reduceCtorEq]
          refine qcall (rnamed_spec x.k) rfl (by simp only [push_cast, ↓EPM, ↓reduceIte, seval, reduceCtorEq] <;> rfl) ?_; simp only [push_cast, ↓EPM, ↓reduceIte, seval, reduceCtorEq]
          cases hn : x.k.named with
          | false =>
            simp only [hc, hc', h0, h0', h0'', hw', ht, gx, gy, push_cast, ↓EPM, ↓reduceIte, seval, reduceCtorEq]
            rw [stop (okC_n hn)]
            exact RetP [boo false]
          | true =>
            simp only [hc, hc', h0, h0', h0'', hw', ht, gx, gy, push_cast, ↓EPM, ↓reduceIte, seval, reduceCtorEq]
            refine qcall (rright_spec x.w) rfl (by simp only [push_cast, ↓EPM, ↓reduceIte, seval, reduceCtorEq] <;> rfl) ?_; simp only [push_cast, ↓EPM, ↓reduceIte, seval, reduceCtorEq]
            cases hw_ : x.w.right with
            | false =>
              simp only [hc, hc', h0, h0', h0'', hw', ht, gx, gy, push_cast, ↓EPM, ↓reduceIte, seval, reduceCtorEq]
              rw [stop (okC_w hw_)]
              exact RetP [boo false]
            | true =>
              simp only [hc, hc', h0, h0', h0'', hw', ht, gx, gy, push_cast, ↓EPM, ↓reduceIte, seval, reduceCtorEq]
              refine qcall (rright_spec x.n) rfl (by simp only [push_cast, ↓EPM, ↓reduceIte, seval, reduceCtorEq] <;> rfl) ?_; simp only [push_cast, ↓EPM, ↓reduceIte, seval, reduceCtorEq]
              cases hr_ : x.n.right with
              | false =>
                simp only [hc, hc', h0, h0', h0'', hw', ht, gx, gy, push_cast, ↓EPM, ↓reduceIte, seval, reduceCtorEq]
                rw [stop (okC_r hr_)]
                exact RetP [boo false]
              | true =>
                simp only [hc, hc', h0, h0', h0'', hw', ht, gx, gy, push_cast, ↓EPM, ↓reduceIte, seval, reduceCtorEq]
                refine eqK_use (aeq_cell x.w x.n) ?_
                by_cases he : x.w = x.n
                · rw [decide_eq_true he]
                  simp only [hc, hc', h0, h0', h0'', hw', ht, gx, gy, push_cast, ↓EPM, ↓reduceIte, seval, reduceCtorEq]
                  rw [stop (okC_e he)]
                  exact RetP [boo false]
                · rw [decide_eq_false he]
                  simp only [hc, hc', h0, h0', h0'', hw', ht, gx, gy, hw, push_cast, ↓EPM, ↓reduceIte, seval, reduceCtorEq]
                  refine round_next (j + 1 + 1) (next (okC_s hA hn he hw_ hr_)) (by omega) (ent rfl ?_)
                  simp only [push_cast, ↓EPM, ↓reduceIte, seval, reduceCtorEq]
    · have hc : ¬ ((i : Int) < (l.length : Int)) := by omega
      rw [List.drop_eq_nil_of_le (by omega), rightC] at hs
      rw [hs]
      simp only [hc, push_cast, ↓EPM, ↓reduceIte, seval, reduceCtorEq]
      exact RetP [boo true]

end Go.Proofs

namespace Go.Proofs
open Go Go.Av
set_option linter.unusedSimpArgs false
set_option linter.unusedVariables false
set_option maxRecDepth 30000
set_option maxHeartbeats 2000000

def keysA (l : List Key) : List (List AV) := l.map Key.av
theorem keysA_len (l : List Key) : (keysA l).length = l.length := by simp [keysA]
theorem keysA_app (l m : List Key) : keysA (l ++ m) = keysA l ++ keysA m := by simp [keysA]
theorem keysA_get {l : List Key} {i : Nat} {x : Key} (h : l[i]? = some x) : (keysA l).getD i [] = x.av := by simp [keysA, List.getD_eq_getElem?_getD, h]
theorem keysA_bel (n : Nat) (l : List Key) : (∀ x ∈ keysA l, ∀ c ∈ x, Bel n c) = True := eq_true (by
  intro x hx c hc
  simp only [keysA, List.mem_map] at hx
  obtain ⟨k, _, rfl⟩ := hx
  simp only [Key.av, List.mem_cons, List.not_mem_nil, or_false] at hc
  rcases hc with rfl | rfl | rfl | rfl | rfl <;> exact .v _)
attribute [push_cast] keysA_len keysA_bel
def entA (l : List (Key × Cell)) : List (AV × AV) := l.map fun p => (.agg p.1.av, .agg p.2.av)
theorem entA_len (l : List (Key × Cell)) : (entA l).length = l.length := by simp [entA]

theorem keysOf_spec (m : Nat) : APure Try.prog 102 [.mp m] (.fn 180 [] [.ep [.mp m] 0]) := by
  intro s
  refine enterA ⟨[1]⟩ (Try.f102.body.getD .skip) [.tmp 2] Try.func102 fun hwf hbel => ?_; simp only [Try.f102, push_cast, ↓EPM, ↓reduceIte, seval, reduceCtorEq]
  exact Ret_pure (l := [.fn 180 [] [.ep [.mp m] 0]]) (.inr rfl) rfl (by simp only [push_cast, ↓EPM, ↓reduceIte, seval, reduceCtorEq] <;> rfl) rfl (by first | exact Keeps.base _ _ | (repeat (first | exact Keeps.base _ _ | refine Keeps.new ?_ _ | refine Keeps.set ?_ (by first | (simp; done) | omega | (simp only [EO]; omega)) _))) (by
    have := hbel (.mp m) (by simp)
    simp only [packAV, Bel_fn, List.not_mem_nil, false_implies, implies_true, List.mem_cons, or_false, forall_eq, Bel_ep, true_and]
    exact this)

/-- The box holds the keys that have come. -/
def upd (s : AState) (bx rid : Nat) (l : List Key) : AState := (s.set bx (.cells [.sl 5 (keysA l) (.row rid l.length)])).set rid (.row l.length)

/-- The keys at places. -/
def keysAt (l : List (Key × Cell)) (is : List Nat) : List Key := is.map fun i => ((l[i]?).map (·.1)).getD ⟨0, .empty, .empty, .empty, .empty⟩

theorem keysAt_all {l : List (Key × Cell)} {is : List Nat} (hn : is.Nodup) (hlt : ∀ i ∈ is, i < l.length) (hall : ∀ i, i < l.length → i ∈ is) : (keysAt l is).Perm (l.map (·.1)) := by
  have hp : is.Perm (List.range l.length) := (List.perm_ext_iff_of_nodup hn List.nodup_range).2 fun i => ⟨fun h => List.mem_range.2 (hlt i h), fun h => hall i (List.mem_range.1 h)⟩
  refine (hp.map _).trans (List.Perm.of_eq ?_)
  apply List.ext_getElem (by simp)
  intro i h1 h2
  simp at h2
  simp [h2]

theorem nodup_le {n : Nat} {is : List Nat} (hn : is.Nodup) (hlt : ∀ i ∈ is, i < n) : is.length ≤ n := by
  have hp : is.Perm ((List.range n).filter fun i => decide (i ∈ is)) := (List.perm_ext_iff_of_nodup hn (List.nodup_range.filter _)).2 fun i => by
    simp only [List.mem_filter, List.mem_range, decide_eq_true_eq]
    exact ⟨fun h => ⟨hlt i h, h⟩, fun h => h.2⟩
  have := List.length_filter_le (fun i => decide (i ∈ is)) (List.range n)
  rw [hp.length_eq]
  simpa using this

theorem upd_len {s : AState} {bx rid : Nat} {l : List Key} : (upd s bx rid l).next = s.next ∧ (upd s bx rid l).base = s.base := ⟨rfl, rfl⟩
theorem upd_bx {s : AState} {bx rid : Nat} {l : List Key} (h : bx ≠ rid) : (upd s bx rid l).obj bx = some (.cells [.sl 5 (keysA l) (.row rid l.length)]) := by simp [upd, AState.set, h]
theorem upd_rid {s : AState} {bx rid : Nat} {l : List Key} : (upd s bx rid l).obj rid = some (.row l.length) := by simp [upd, AState.set]
theorem upd_ne {s : AState} {bx rid i : Nat} {l : List Key} (h1 : i ≠ bx) (h2 : i ≠ rid) : (upd s bx rid l).obj i = s.obj i := by simp [upd, AState.set, h1, h2]

theorem Wf_upd {s : AState} {bx rid : Nat} {l : List Key} (h : s.Wf) (h1 : bx < s.next) (h2 : rid < s.next) : (upd s bx rid l).Wf := by
  intro id o ho
  simp only [upd, AState.set] at ho ⊢
  split at ho
  · rename_i e; subst e; cases ho; exact ⟨h2, trivial⟩
  · split at ho
    · rename_i e; subst e; cases ho
      refine ⟨h1, ?_⟩
      intro c hc
      simp only [List.mem_cons, List.not_mem_nil, or_false] at hc
      subst hc
      exact Bel_sl.2 ⟨of_eq_true (keysA_bel _ _), h2⟩
    · exact h id o ho
theorem upd_nil {s : AState} {bx rid : Nat} (h1 : s.obj bx = some (.cells [.sl 5 [] (.row rid 0)])) (h2 : s.obj rid = some (.row 0)) : upd s bx rid [] = s := by
  refine AState.ext' (fun i => ?_) rfl rfl
  simp only [upd, AState.set]
  split
  · rename_i e; subst e; exact h2.symm
  · split
    · rename_i e; subst e; exact h1.symm
    · rfl

theorem u85 : Try.prog.underlying 204 = some (.map 82 79) := by simp only [unders]
theorem u39 : Try.prog.underlying 82 = some (Try.prog.underlying 82).get! := by simp only [unders]; rfl

theorem entA_get {l : List (Key × Cell)} {i : Nat} {q : AV × AV} (h : (entA l)[i]? = some q) : ∃ p, l[i]? = some p ∧ q = (.agg p.1.av, .agg p.2.av) := by
  simp only [entA, List.getElem?_map, Option.map_eq_some_iff] at h
  obtain ⟨p, hp, rfl⟩ := h
  exact ⟨p, hp, rfl⟩
theorem keysAt_len (l : List (Key × Cell)) (is : List Nat) : (keysAt l is).length = is.length := by simp [keysAt]
theorem keysAt_snoc {l : List (Key × Cell)} {is : List Nat} {i : Nat} {p : Key × Cell} (h : l[i]? = some p) : keysAt l (is ++ [i]) = keysAt l is ++ [p.1] := by simp [keysAt, h]

theorem keyIter_spec (l : List (Key × Cell)) (s : AState) (L bx rid m : Nat) (eL : Env) (ps : List Nat) (nt : Nat) (asg body : Code) (D : Nat) (hL : s.obj L = some (.loop eL ps nt asg body .ready none D))
    (hbx : s.obj bx = some (.cells [.sl 5 [] (.row rid 0)])) (hrid : s.obj rid = some (.row 0)) (hm : s.obj m = some (.map (entA l))) (hlen : l.length ≤ 1000000)
    (hy : ∀ (s' : AState) (acc : List Key) (x : Key), s'.obj L = some (.loop eL ps nt asg body .ready none D) → s'.obj bx = some (.cells [.sl 5 (keysA acc) (.row rid acc.length)]) → s'.obj rid = some (.row acc.length) → acc.length < l.length →
      AYield Try.prog L [.agg x.av] s' (fun d s'' => d = boo true ∧ s'' = upd s' bx rid (acc ++ [x]))) :
    ACalls Try.prog 180 [.yl L, .ep [.mp m] 0] s (fun d s' => d = .tup [] ∧ ∃ ks : List Key, ks.Perm (l.map (·.1)) ∧ s' = upd s bx rid ks) := by
  have n1 : L ≠ bx := by rintro rfl; rw [hL] at hbx; cases hbx
  have n2 : L ≠ rid := by rintro rfl; rw [hL] at hrid; cases hrid
  have n3 : bx ≠ rid := by rintro rfl; rw [hbx] at hrid; cases hrid
  have n4 : m ≠ bx := by rintro rfl; rw [hm] at hbx; cases hbx
  have n5 : m ≠ rid := by rintro rfl; rw [hm] at hrid; cases hrid
  refine enterA ⟨[]⟩ (Try.f180.body.getD .skip) [] Try.func180 fun hwf hbel => ?_; simp only [Try.f180, push_cast, ↓EPM, ↓reduceIte, seval, reduceCtorEq]
  have k1 := (hwf _ _ hL).1
  have k2 := (hwf _ _ hbx).1
  have k3 := (hwf _ _ hrid).1
  have k4 := (hwf _ _ hm).1
  refine range_law (id := m) (es := entA l) u85 rfl hm ?_
  rw [entA_len]
  simp only [push_cast, ↓EPM, ↓reduceIte, seval, reduceCtorEq]
  refine ALoop_inv (ι := List Nat) (fun is => is.Nodup ∧ ∀ i ∈ is, i < l.length) (fun is => envL [(0, .yl L), (1, .ep [.mp m] 0), (5, .ptr s.next 0)]) (fun is => upd (AState.new { s with base := ⟨s.next, []⟩ } (.iter m l.length is)) bx rid (keysAt l is)) (fun is => l.length - is.length) [] ⟨List.nodup_nil, fun _ h => by cases h⟩ ?_ (fun is hi => ?_)
  · rw [show keysAt l [] = [] from rfl, upd_nil (by simp only [AState.new]; rw [if_neg (by omega)]; exact hbx) (by simp only [AState.new]; rw [if_neg (by omega)]; exact hrid)]
    refine ent rfl ?_
    simp only [push_cast, ↓EPM, ↓reduceIte, seval, reduceCtorEq]
  · obtain ⟨hn, hlt⟩ := hi
    have hit : (upd (AState.new { s with base := ⟨s.next, []⟩ } (.iter m l.length is)) bx rid (keysAt l is)).obj s.next = some (.iter m l.length is) := by (simp only [upd, AState.set, AState.new]; (repeat (first | rw [if_neg (by omega)] | rw [if_pos (by omega)] | (simp only [↓reduceIte]; done) | simp only [↓reduceIte])); try rfl)
    have hmm : (upd (AState.new { s with base := ⟨s.next, []⟩ } (.iter m l.length is)) bx rid (keysAt l is)).obj m = some (.map (entA l)) := by (simp only [upd, AState.set, AState.new]; (repeat (first | rw [if_neg (by omega)] | rw [if_pos (by omega)] | (simp only [↓reduceIte]; done) | simp only [↓reduceIte])); try rfl); exact hm
    simp only [push_cast, ↓EPM, ↓reduceIte, seval, reduceCtorEq]
    refine next_law (id := s.next) (m := m) (n := l.length) (seen := is) (es := entA l) rfl hit hmm (entA_len l) (fun hall => ?_) (fun i q hq hni => ?_)
    · simp only [push_cast, ↓EPM, ↓reduceIte, seval, reduceCtorEq]
      refine Ret_drop (S := upd s bx rid (keysAt l is)) (l := []) (m := []) (.inl rfl) rfl rfl trivial rfl rfl (Nat.le_succ _) ?_ (by simp only [packAV, Bel_tup]; simp) ⟨rfl, _, keysAt_all hn hlt hall, rfl⟩
      intro i o ho
      obtain ⟨h1, h2⟩ := Wf_upd hwf k2 k3 i o ho
      refine ⟨h1, h2, ?_⟩
      rw [← ho]
      simp only [upd, AState.set, AState.new] at h1 ⊢
      (repeat' split) <;> first | rfl | omega
    · obtain ⟨p, hp, rfl⟩ := entA_get hq
      simp only [push_cast, ↓EPM, ↓reduceIte, seval, reduceCtorEq]
      refine entry_law (id := s.next) (m := m) (n := l.length) (i := i) (seen := is) (es := entA l) rfl ?_ ?_ (entA_len l) hq ?_
      · (simp only [upd, AState.set, AState.new]; (repeat (first | rw [if_neg (by omega)] | rw [if_pos (by omega)] | (simp only [↓reduceIte]; done) | simp only [↓reduceIte])); try rfl)
      · (simp only [upd, AState.set, AState.new]; (repeat (first | rw [if_neg (by omega)] | rw [if_pos (by omega)] | (simp only [↓reduceIte]; done) | simp only [↓reduceIte])); try rfl); exact hm
      simp only [push_cast, ↓EPM, ↓reduceIte, seval, reduceCtorEq]
      simp only [EZ, EZ0, push_cast, ↓EPM, ↓reduceIte, seval, reduceCtorEq]
      have hil : i < l.length := (List.getElem?_eq_some_iff.1 hp).1
      have hn2 : (is ++ [i]).Nodup := by
        rw [List.nodup_append]; exact ⟨hn, by simp, by intro a ha b hb; simp at hb; subst hb; intro e; subst e; exact hni ha⟩
      have hlt2 : ∀ j ∈ is ++ [i], j < l.length := by
        intro j hj
        rcases List.mem_append.1 hj with hj | hj
        · exact hlt j hj
        · simp at hj; omega
      have hle2 := nodup_le hn2 hlt2
      simp only [List.length_append, List.length_cons, List.length_nil] at hle2
      refine AYield_use (hy _ (keysAt l is) p.1 ?_ ?_ ?_ (by rw [keysAt_len]; omega)) ?_
      · (simp only [upd, AState.set, AState.new]; (repeat (first | rw [if_neg (by omega)] | rw [if_pos (by omega)] | (simp only [↓reduceIte]; done) | simp only [↓reduceIte])); try rfl); exact hL
      · (simp only [upd, AState.set, AState.new]; (repeat (first | rw [if_neg (by omega)] | rw [if_pos (by omega)] | (simp only [↓reduceIte]; done) | simp only [↓reduceIte])); try rfl)
      · (simp only [upd, AState.set, AState.new]; (repeat (first | rw [if_neg (by omega)] | rw [if_pos (by omega)] | (simp only [↓reduceIte]; done) | simp only [↓reduceIte])); try rfl)
      simp only [push_cast, ↓EPM, ↓reduceIte, seval, reduceCtorEq]
      refine round_next (is ++ [i]) ⟨hn2, hlt2⟩ (by simp only [List.length_append, List.length_cons, List.length_nil]; omega) (AEnt_drop rfl rfl (Nat.le_succ _) ?_ (Wf_upd ((hwf.base _).new ?_) (by simp only [AState.new]; omega) (by simp only [AState.new]; omega)) (EntB_all ?_))
      · rw [keysAt_snoc hp]
        refine ⟨by simp only [upd, EO]; omega, fun id hid => ?_⟩
        simp only [upd, AState.set, AState.new] at hid ⊢
        (repeat' split) <;> first | rfl | omega
      · show m < s.next + 1; omega
      simp only [push_cast, ↓EPM, ↓reduceIte, seval, reduceCtorEq]
      try simp only [List.mem_cons, List.not_mem_nil, or_false, forall_eq, upd, EO]
      (try first | omega | ((repeat' apply And.intro) <;> first | omega | (simp only [push_cast, ↓EPM, ↓reduceIte, seval, reduceCtorEq, List.mem_cons, List.not_mem_nil, or_false, forall_eq_or_imp, forall_eq, and_self, true_and, and_true, zeroR]; done) | (simp only [push_cast, ↓EPM, ↓reduceIte, seval, reduceCtorEq, List.mem_cons, List.not_mem_nil, or_false, forall_eq_or_imp, forall_eq, and_self, true_and, and_true, zeroR]; omega)))

end Go.Proofs

/-
  DERIVED: THE SHELF's CONTRACTS AT THIS DUMP, IN PLAIN WORDS (tools/lay-plain.mjs out of 'TryShelf.lean', which tools/lay-shelf.mjs wrote): THE SAME DECLARATIONS UNDER THE SAME NAMES: 'import', 'namespace', 'open', 'def', 'theorem' AND NOTHING ELSE: no command of the shelf's: FOR A HAND-IN. Each laying: the table of numbers ('.._ren') and one theorem, a field a fact of the dump's own or the kernel's comparison; each contract: ONE APPLICATION.
-/
namespace Go.Proofs
open Go.Shelf
def Try.sortX_ren : Go.Shelf.Ren := ⟨fun | 6 => 71 | 15 => 143 | 14 => 142 | 28 => 233 | 29 => 234 | 20 => 225 | 21 => 226 | 22 => 227 | 23 => 228 | 24 => 229 | 25 => 230 | 26 => 231 | 27 => 232 | 46 => 273 | 47 => 274 | 48 => 275 | 49 => 276 | 50 => 277 | 57 => 300 | n => n, fun | 22 => 44 | 24 => 151 | 25 => 157 | 3 => 3 | 39 => 274 | 0 => 0 | 53 => 349 | 55 => 176 | 4 => 4 | 46 => 343 | 45 => 342 | 50 => 261 | 5 => 5 | 9 => 9 | 66 => 382 | 70 => 385 | 76 => 400 | 77 => 401 | n => n, fun | n => n⟩
theorem Try.sortX : Go.Proofs.SlLaysF0.n6 Try.prog Try.sortX_ren := {
  mixed := by kernel_rfl
  f6 := ⟨Try.f71.name, by decide, Try.func71.trans (congrArg some (by kernel_rfl))⟩
  f14 := ⟨Try.f142.name, by decide, Try.func142.trans (congrArg some (by kernel_rfl))⟩
  f15 := Try.func143.trans (congrArg some (by kernel_rfl))
  f20 := ⟨Try.f225.name, by decide, Try.func225.trans (congrArg some (by kernel_rfl))⟩
  f21 := ⟨Try.f226.name, by decide, Try.func226.trans (congrArg some (by kernel_rfl))⟩
  f22 := ⟨Try.f227.name, by decide, Try.func227.trans (congrArg some (by kernel_rfl))⟩
  f23 := ⟨Try.f228.name, by decide, Try.func228.trans (congrArg some (by kernel_rfl))⟩
  f24 := ⟨Try.f229.name, by decide, Try.func229.trans (congrArg some (by kernel_rfl))⟩
  f25 := ⟨Try.f230.name, by decide, Try.func230.trans (congrArg some (by kernel_rfl))⟩
  f26 := ⟨Try.f231.name, by decide, Try.func231.trans (congrArg some (by kernel_rfl))⟩
  f27 := ⟨Try.f232.name, by decide, Try.func232.trans (congrArg some (by kernel_rfl))⟩
  f28 := Try.func233.trans (congrArg some (by kernel_rfl))
  f29 := Try.func234.trans (congrArg some (by kernel_rfl))
  f46 := ⟨Try.f273.name, by decide, Try.func273.trans (congrArg some (by kernel_rfl))⟩
  f47 := Try.func274.trans (congrArg some (by kernel_rfl))
  f48 := Try.func275.trans (congrArg some (by kernel_rfl))
  f49 := ⟨Try.f276.name, by decide, Try.func276.trans (congrArg some (by kernel_rfl))⟩
  f50 := ⟨Try.f277.name, by decide, Try.func277.trans (congrArg some (by kernel_rfl))⟩
  f57 := ⟨Try.f300.name, by decide, Try.func300.trans (congrArg some (by kernel_rfl))⟩
  t0 := Try.underlying0
  a0 := Try.isAgg0
  z0 := Try.sizeOf0
  v0 := Try.zeroValue0
  t3 := Try.underlying3
  a3 := Try.isAgg3
  z3 := Try.sizeOf3
  v3 := Try.zeroValue3
  t4 := Try.underlying4
  a4 := Try.isAgg4
  z4 := Try.sizeOf4
  v4 := Try.zeroValue4
  t5 := Try.underlying5
  a5 := Try.isAgg5
  z5 := Try.sizeOf5
  v5 := Try.zeroValue5
  t9 := Try.underlying9
  a9 := Try.isAgg9
  z9 := Try.sizeOf9
  v9 := Try.zeroValue9
  t22 := Try.underlying44
  a22 := Try.isAgg44
  z22 := Try.sizeOf44
  v22 := Try.zeroValue44
  t25 := Try.underlying157
  a25 := Try.isAgg157
  z25 := Try.sizeOf157
  v25 := Try.zeroValue157
  t39 := Try.underlying274
  a39 := Try.isAgg274
  z39 := Try.sizeOf274
  v39 := Try.zeroValue274
  t45 := Try.underlying342
  a45 := Try.isAgg342
  z45 := Try.sizeOf342
  v45 := Try.zeroValue342
  t46 := Try.underlying343
  a46 := Try.isAgg343
  z46 := Try.sizeOf343
  v46 := Try.zeroValue343
  t50 := Try.underlying261
  a50 := Try.isAgg261
  z50 := Try.sizeOf261
  v50 := Try.zeroValue261
  t53 := Try.underlying349
  a53 := Try.isAgg349
  z53 := Try.sizeOf349
  v53 := Try.zeroValue349
  t55 := Try.underlying176
  a55 := Try.isAgg176
  z55 := Try.sizeOf176
  v55 := Try.zeroValue176
  t66 := Try.underlying382
  a66 := Try.isAgg382
  z66 := Try.sizeOf382
  v66 := Try.zeroValue382
  t70 := Try.underlying385
  a70 := Try.isAgg385
  z70 := Try.sizeOf385
  v70 := Try.zeroValue385
  t76 := Try.underlying400
  a76 := Try.isAgg400
  z76 := Try.sizeOf400
  v76 := Try.zeroValue400
  t77 := Try.underlying401
  a77 := Try.isAgg401
  z77 := Try.sizeOf401
  v77 := Try.zeroValue401 }
def Try.sortL_ren : Go.Shelf.Ren := ⟨fun | 6 => 179 | 15 => 143 | 14 => 258 | 28 => 233 | 29 => 234 | 20 => 287 | 21 => 288 | 22 => 289 | 23 => 290 | 24 => 291 | 25 => 292 | 26 => 293 | 27 => 294 | 46 => 307 | 47 => 274 | 48 => 275 | 49 => 308 | 50 => 309 | 57 => 315 | n => n, fun | 22 => 209 | 24 => 82 | 25 => 156 | 3 => 3 | 39 => 274 | 0 => 0 | 53 => 349 | 55 => 176 | 4 => 4 | 46 => 343 | 45 => 342 | 50 => 261 | 5 => 5 | 9 => 9 | 66 => 382 | 70 => 385 | 76 => 400 | 77 => 401 | n => n, fun | n => n⟩
theorem Try.sortL : Go.Proofs.SlLaysF0.n6 Try.prog Try.sortL_ren := {
  mixed := by kernel_rfl
  f6 := ⟨Try.f179.name, by decide, Try.func179.trans (congrArg some (by kernel_rfl))⟩
  f14 := ⟨Try.f258.name, by decide, Try.func258.trans (congrArg some (by kernel_rfl))⟩
  f15 := Try.func143.trans (congrArg some (by kernel_rfl))
  f20 := ⟨Try.f287.name, by decide, Try.func287.trans (congrArg some (by kernel_rfl))⟩
  f21 := ⟨Try.f288.name, by decide, Try.func288.trans (congrArg some (by kernel_rfl))⟩
  f22 := ⟨Try.f289.name, by decide, Try.func289.trans (congrArg some (by kernel_rfl))⟩
  f23 := ⟨Try.f290.name, by decide, Try.func290.trans (congrArg some (by kernel_rfl))⟩
  f24 := ⟨Try.f291.name, by decide, Try.func291.trans (congrArg some (by kernel_rfl))⟩
  f25 := ⟨Try.f292.name, by decide, Try.func292.trans (congrArg some (by kernel_rfl))⟩
  f26 := ⟨Try.f293.name, by decide, Try.func293.trans (congrArg some (by kernel_rfl))⟩
  f27 := ⟨Try.f294.name, by decide, Try.func294.trans (congrArg some (by kernel_rfl))⟩
  f28 := Try.func233.trans (congrArg some (by kernel_rfl))
  f29 := Try.func234.trans (congrArg some (by kernel_rfl))
  f46 := ⟨Try.f307.name, by decide, Try.func307.trans (congrArg some (by kernel_rfl))⟩
  f47 := Try.func274.trans (congrArg some (by kernel_rfl))
  f48 := Try.func275.trans (congrArg some (by kernel_rfl))
  f49 := ⟨Try.f308.name, by decide, Try.func308.trans (congrArg some (by kernel_rfl))⟩
  f50 := ⟨Try.f309.name, by decide, Try.func309.trans (congrArg some (by kernel_rfl))⟩
  f57 := ⟨Try.f315.name, by decide, Try.func315.trans (congrArg some (by kernel_rfl))⟩
  t0 := Try.underlying0
  a0 := Try.isAgg0
  z0 := Try.sizeOf0
  v0 := Try.zeroValue0
  t3 := Try.underlying3
  a3 := Try.isAgg3
  z3 := Try.sizeOf3
  v3 := Try.zeroValue3
  t4 := Try.underlying4
  a4 := Try.isAgg4
  z4 := Try.sizeOf4
  v4 := Try.zeroValue4
  t5 := Try.underlying5
  a5 := Try.isAgg5
  z5 := Try.sizeOf5
  v5 := Try.zeroValue5
  t9 := Try.underlying9
  a9 := Try.isAgg9
  z9 := Try.sizeOf9
  v9 := Try.zeroValue9
  t22 := Try.underlying209
  a22 := Try.isAgg209
  z22 := Try.sizeOf209
  v22 := Try.zeroValue209
  t25 := Try.underlying156
  a25 := Try.isAgg156
  z25 := Try.sizeOf156
  v25 := Try.zeroValue156
  t39 := Try.underlying274
  a39 := Try.isAgg274
  z39 := Try.sizeOf274
  v39 := Try.zeroValue274
  t45 := Try.underlying342
  a45 := Try.isAgg342
  z45 := Try.sizeOf342
  v45 := Try.zeroValue342
  t46 := Try.underlying343
  a46 := Try.isAgg343
  z46 := Try.sizeOf343
  v46 := Try.zeroValue343
  t50 := Try.underlying261
  a50 := Try.isAgg261
  z50 := Try.sizeOf261
  v50 := Try.zeroValue261
  t53 := Try.underlying349
  a53 := Try.isAgg349
  z53 := Try.sizeOf349
  v53 := Try.zeroValue349
  t55 := Try.underlying176
  a55 := Try.isAgg176
  z55 := Try.sizeOf176
  v55 := Try.zeroValue176
  t66 := Try.underlying382
  a66 := Try.isAgg382
  z66 := Try.sizeOf382
  v66 := Try.zeroValue382
  t70 := Try.underlying385
  a70 := Try.isAgg385
  z70 := Try.sizeOf385
  v70 := Try.zeroValue385
  t76 := Try.underlying400
  a76 := Try.isAgg400
  z76 := Try.sizeOf400
  v76 := Try.zeroValue400
  t77 := Try.underlying401
  a77 := Try.isAgg401
  z77 := Try.sizeOf401
  v77 := Try.zeroValue401 }
end Go.Proofs

namespace Go.Proofs
open Go Go.Av
set_option linter.unusedSimpArgs false
set_option linter.unusedVariables false
set_option maxRecDepth 30000
set_option maxHeartbeats 2000000

theorem nx0 : (∀ n : Nat, (n + 3 = n) = False) ∧ (∀ n : Nat, (n = n + 3) = False) ∧ (∀ n : Nat, (n + 3 = n + 1) = False) ∧ (∀ n : Nat, (n + 1 = n + 3) = False) := by refine ⟨?_, ?_, ?_, ?_⟩ <;> (intro n; apply eq_false; omega)

theorem appendSeq_spec (l : List (Key × Cell)) (s : AState) (m : Nat) (hm : s.obj m = some (.map (entA l))) (hlen : l.length ≤ 1000000) :
    ACalls Try.prog 257 [.v (.slice none 0 0), .fn 180 [] [.ep [.mp m] 0]] s (fun d s' => ∃ ks : List Key, ks.Perm (l.map (·.1)) ∧ d = .sl 5 (keysA ks) (.row (s.next + 1) ks.length) ∧
      s' = { s with obj := fun i => if i = s.next + 1 then some (.row ks.length) else s.obj i, next := s.next + 2 }) := by
  refine ACalls_bodyM (C := ⟨[]⟩) (c := Try.f257.body.getD .skip) (rs := [.tmp 4]) Try.func257 (by kernel_rfl) (by kernel_rfl) (by kernel_rfl) (Nat.le_of_ble_eq_true rfl) (by kernel_rfl) fun hwf hbel => ?_
  simp only [Try.f257, push_cast, ↓EPM, ↓reduceIte, seval, reduceCtorEq]
  have k4 := (hwf _ _ hm).1
  show ACode _ _ _ _ _
  refine ACode_ent ((AEnt_reserve _ _).trans (AEnt_obj (id := s.next) (cs := [.v (.slice none 0 0)]) (cs' := [.sl 5 [] (.row (s.next + 1) 0)]) ?_ ⟨?_, trivial⟩ rfl)) ?_
  · simp [AState.new]
  · exact .inr (.inr ⟨rfl, 5, _, rfl, by decide, .inr (.inr ⟨s.next + 1, rfl, by simp [AState.new]⟩)⟩)
  refine rangeFunc_law (gf := 180) (first := []) (cap := [.ep [.mp m] 0]) rfl fun n hb => ?_
  simp only [codeBel, Bool.and_eq_true] at hb
  obtain ⟨⟨hb1, hb2⟩, hb3⟩ := hb
  refine ACalls_mono ?post (keyIter_spec l _ (s.next + 3) s.next (s.next + 1) m ?eL [7] n ?asg ?body (s.next + 2) ?hL ?hbx ?hrid ?hm hlen ?hy)
  case hL => exact new_self _ _
  case hbx => (simp only [upd, AState.set, AState.new]; (repeat (first | rw [if_neg (by omega)] | rw [if_pos (by omega)] | (simp only [↓reduceIte]; done) | simp only [↓reduceIte])); try rfl)
  case hrid => (simp only [upd, AState.set, AState.new]; (repeat (first | rw [if_neg (by omega)] | rw [if_pos (by omega)] | (simp only [↓reduceIte]; done) | simp only [↓reduceIte])); try rfl)
  case hm => (simp only [upd, AState.set, AState.new]; (repeat (first | rw [if_neg (by omega)] | rw [if_pos (by omega)] | (simp only [↓reduceIte]; done) | simp only [↓reduceIte])); try rfl); exact hm
  case hy =>
    intro s' acc x hL hbx hrid hacc
    refine AYield_body (C := ⟨[]⟩) hL rfl hb1 hb2 hb3 rfl rfl fun hwf' hbel' => ?_
    have q1 := (hwf' _ _ hL).1
    have q2 := (hwf' _ _ hbx).1
    have q3 := (hwf' _ _ hrid).1
    have c1 : ¬ (s.next + 3 = s'.next) := by omega
    have c2 : ¬ (s.next = s'.next) := by omega
    have c3 : ¬ (s.next + 1 = s'.next) := by omega
    have c4 : (((acc.length : Int) + 1) * 72 ≤ 140737488355328) := by omega
    have c5 : ¬ (s'.next = s.next + 3) := by omega
    have c6 : ¬ (s'.next = s.next) := by omega
    have c7 : ¬ (s'.next = s.next + 1) := by omega
    simp only [EZ, EZ0, c1, c2, c3, c5, c6, c7, hL, hbx, hrid, nx0, push_cast, ↓EPM, ↓reduceIte, seval, reduceCtorEq]
    refine ⟨by omega, by (simp only [upd, AState.set, AState.new]; (repeat (first | rw [if_neg (by omega)] | rw [if_pos (by omega)] | (simp only [↓reduceIte]; done) | simp only [↓reduceIte])); try rfl), upd s' s.next (s.next + 1) (acc ++ [x]), AFin_drop rfl rfl (Nat.le_succ _) (fun i o ho => ?_) (.v _), rfl, rfl⟩
    obtain ⟨h1, h2⟩ := Wf_upd hwf' q2 q3 i o ho
    refine ⟨h1, h2, ?_⟩
    rw [← ho]
    simp only [upd, AState.set, AState.new, keysA_app, List.length_append, List.length_cons, List.length_nil] at h1 ⊢
    (repeat' split) <;> first | rfl | omega | (have e : i = s.next + 3 := (by omega); rw [e]; exact hL.symm)
  case post =>
    rintro d s3 ⟨rfl, ks, hp, rfl⟩
    refine ⟨.ready, none, by decide, ?_, ?_⟩
    · (simp only [upd, AState.set, AState.new]; (repeat (first | rw [if_neg (by omega)] | rw [if_pos (by omega)] | (simp only [↓reduceIte]; done) | simp only [↓reduceIte])); try rfl)
    have d1 : ¬ (s.next = s.next + 2) := by omega
    have d2 : ¬ (s.next + 2 = s.next) := by omega
    have d3 : ¬ (s.next + 2 = s.next + 1) := by omega
    have d4 : ¬ (s.next + 1 = s.next + 2) := by omega
    have d5 : ¬ (s.next + 2 = s.next + 3) := by omega
    have d6 : ¬ (s.next = s.next + 1) := by omega
    simp only [jumpQ, upd, AState.mark, AState.del, nx0, d1, d2, d3, d4, d5, d6, push_cast, ↓EPM, ↓reduceIte, seval, reduceCtorEq]
    refine RetM_more (l := [.sl 5 (keysA ks) (.row (s.next + 1) ks.length)]) (m := [.sl 5 (keysA ks) (.row (s.next + 1) ks.length)]) (S := { s with obj := fun i => if i = s.next + 1 then some (.row ks.length) else s.obj i, next := s.next + 2 }) (.inr rfl) (leaveS_one (D := s.next + 1 + 1) rfl (by (simp only [upd, AState.set, AState.new]; (repeat (first | rw [if_neg (by omega)] | rw [if_pos (by omega)] | (simp only [↓reduceIte]; done) | simp only [↓reduceIte])); try rfl))) (by simp only [push_cast, ↓EPM, ↓reduceIte, seval, reduceCtorEq]) ⟨.inl rfl, trivial⟩ (Nat.le_add_right _ _) rfl (by simp only [AState.del]; omega) ?_ ?_ ⟨ks, hp, rfl, rfl⟩
    · intro i o ho
      simp only at ho
      split at ho
      · rename_i e
        subst e
        cases ho
        refine ⟨by show s.next + 1 < s.next + 2; omega, trivial, ?_⟩
        simp only [AState.del]
        ((repeat (first | rw [if_neg (by omega)] | rw [if_pos (by omega)] | (simp only [↓reduceIte]; done) | simp only [↓reduceIte])); try rfl)
      · obtain ⟨h1, h2⟩ := hwf i o ho
        refine ⟨Nat.lt_of_lt_of_le h1 (Nat.le_add_right _ _), h2.mono (Nat.le_add_right _ _), ?_⟩
        simp only [AState.del]
        ((repeat (first | rw [if_neg (by omega)] | rw [if_pos (by omega)] | (simp only [↓reduceIte]; done) | simp only [↓reduceIte])); try rfl)
        exact ho
    · simp only [packAV, Bel_sl, keysA_bel, tokBel, true_and]
      show s.next + 1 < s.next + 2
      omega

end Go.Proofs

namespace Go.Proofs
open Go Go.Av Go.Sort
set_option linter.unusedSimpArgs false
set_option linter.unusedVariables false
set_option maxRecDepth 30000
set_option maxHeartbeats 2000000

/-! The order of keys -/
structure Good {α : Type} (c : α → α → Int) : Prop where
  zero : ∀ x y, c x y = 0 ↔ x = y
  anti : ∀ x y, c x y < 0 ↔ 0 < c y x
  trans : ∀ x y z, c x y < 0 → c y z < 0 → c x z < 0

theorem good_int : Good cmpI := by
  refine ⟨fun x y => ?_, fun x y => ?_, fun x y z => ?_⟩ <;> simp only [cmpI] <;> (repeat' split) <;> omega

theorem bl_iff (a b : UInt8) (x y : List UInt8) : Op.bytesLess (a :: x) (b :: y) = true ↔ a.toNat < b.toNat ∨ (a = b ∧ Op.bytesLess x y = true) := by
  simp only [Op.bytesLess, Bool.or_eq_true, decide_eq_true_eq, Bool.and_eq_true, beq_iff_eq]
  rw [UInt8.lt_iff_toNat_lt]
theorem bl_irrefl : ∀ x : List UInt8, ¬ Op.bytesLess x x = true := fun x => by rw [less_irrefl]; simp
theorem bl_trans : ∀ x y z : List UInt8, Op.bytesLess x y = true → Op.bytesLess y z = true → Op.bytesLess x z = true
  | _, [], _, h, _ => by cases ‹List UInt8› <;> simp [Op.bytesLess] at h
  | _, _ :: _, [], _, h => by simp [Op.bytesLess] at h
  | [], _ :: _, _ :: _, _, _ => rfl
  | a :: x, b :: y, c :: z, h1, h2 => by
    rw [bl_iff] at h1 h2 ⊢
    rcases h1 with h1 | ⟨rfl, h1⟩ <;> rcases h2 with h2 | ⟨rfl, h2⟩
    · exact .inl (by omega)
    · exact .inl h1
    · exact .inl h2
    · exact .inr ⟨rfl, bl_trans x y z h1 h2⟩
theorem bl_total : ∀ x y : List UInt8, ¬ Op.bytesLess x y = true → ¬ Op.bytesLess y x = true → x = y
  | [], [], _, _ => rfl
  | [], _ :: _, h, _ => by simp [Op.bytesLess] at h
  | _ :: _, [], _, h => by simp [Op.bytesLess] at h
  | a :: x, b :: y, h1, h2 => by
    rw [bl_iff] at h1 h2
    have e : a = b := by
      apply UInt8.toNat_inj.1
      rcases Nat.lt_trichotomy a.toNat b.toNat with h | h | h
      · exact absurd (.inl h) h1
      · exact h
      · exact absurd (.inl h) h2
    subst e
    rw [bl_total x y (fun h => h1 (.inr ⟨rfl, h⟩)) (fun h => h2 (.inr ⟨rfl, h⟩))]

theorem good_bytes : Good cmpB := by
  have eqv : ∀ x y : ByteArray, (x.toList == y.toList) = decide (x = y) := str_beq
  have z : ∀ x y, cmpB x y = 0 ↔ x = y := by
    intro x y
    simp only [cmpB, eqv]
    split
    · rename_i h; refine ⟨fun h => by omega, fun e => ?_⟩; subst e; exact absurd h (bl_irrefl _)
    · split
      · rename_i h; simpa using h
      · rename_i h; simp at h; simp [h]
  have n : ∀ x y, cmpB x y < 0 ↔ Op.bytesLess x.toList y.toList = true := by
    intro x y
    simp only [cmpB]
    split
    · rename_i h; simp [h]
    · rename_i h; split <;> simp [h]
  have p : ∀ x y, 0 < cmpB x y ↔ Op.bytesLess y.toList x.toList = true := by
    intro x y
    simp only [cmpB, eqv]
    split
    · rename_i h; refine ⟨fun h => by omega, fun h2 => absurd (bl_trans _ _ _ h h2) (bl_irrefl _)⟩
    · rename_i h
      split
      · rename_i e; simp at e; subst e; simp [less_irrefl]
      · rename_i e
        refine ⟨fun _ => ?_, fun _ => by decide⟩
        by_cases h2 : Op.bytesLess y.toList x.toList = true
        · exact h2
        · have := bl_total _ _ h h2
          have e2 := eqv x y
          rw [this] at e2
          simp at e2 e
          exact absurd e2 e
  exact ⟨z, fun x y => by rw [n, p], fun x y w => by rw [n, n, n]; exact bl_trans _ _ _⟩

theorem good_list : ∀ n, (∀ x y, x.length = n → y.length = n → (cmpL x y = 0 ↔ x = y) ∧ (cmpL x y < 0 ↔ 0 < cmpL y x)) ∧ (∀ x y z, x.length = n → y.length = n → z.length = n → cmpL x y < 0 → cmpL y z < 0 → cmpL x z < 0)
  | 0 => by
    refine ⟨fun x y hx hy => ?_, fun x y z hx hy hz => ?_⟩
    · rw [List.eq_nil_of_length_eq_zero hx, List.eq_nil_of_length_eq_zero hy]; simp [cmpL]
    · rw [List.eq_nil_of_length_eq_zero hx, List.eq_nil_of_length_eq_zero hy]; simp [cmpL]
  | n + 1 => by
    obtain ⟨ih1, ih2⟩ := good_list n
    have g := good_bytes
    refine ⟨fun x y hx hy => ?_, fun x y z hx hy hz => ?_⟩
    · match x, y, hx, hy with
      | a :: x, b :: y, hx, hy =>
        obtain ⟨i1, i2⟩ := ih1 x y (by simpa using hx) (by simpa using hy)
        have z1 := g.zero a b
        have z2 := g.zero b a
        have a1 := g.anti a b
        simp only [cmpL, List.cons.injEq]
        by_cases e : a = b
        · subst e
          simp only [(g.zero a a).2 rfl, if_true, true_and]
          exact ⟨i1, i2⟩
        · have n1 : cmpB a b ≠ 0 := fun h => e (z1.1 h)
          have n2 : cmpB b a ≠ 0 := fun h => e (z2.1 h).symm
          simp only [n1, n2, if_false, e, false_and, iff_false]
          exact ⟨(by first | exact n1 | trivial), a1⟩
    · match x, y, z, hx, hy, hz with
      | a :: x, b :: y, c :: z, hx, hy, hz =>
        have i2 := ih2 x y z (by simpa using hx) (by simpa using hy) (by simpa using hz)
        simp only [cmpL]
        intro h1 h2
        by_cases e1 : a = b
        · subst e1
          simp only [(g.zero a a).2 rfl, if_true] at h1
          by_cases e2 : a = c
          · subst e2
            simp only [(g.zero a a).2 rfl, if_true] at h2 ⊢
            exact i2 h1 h2
          · have n1 : cmpB a c ≠ 0 := fun h => e2 ((g.zero a c).1 h)
            simp only [n1, if_false] at h2 ⊢
            exact h2
        · have n1 : cmpB a b ≠ 0 := fun h => e1 ((g.zero a b).1 h)
          simp only [n1, if_false] at h1
          by_cases e2 : b = c
          · subst e2
            simp only [n1, if_false]
            exact h1
          · have n2 : cmpB b c ≠ 0 := fun h => e2 ((g.zero b c).1 h)
            simp only [n2, if_false] at h2
            have h3 := g.trans a b c h1 h2
            have n3 : cmpB a c ≠ 0 := by omega
            simp only [n3, if_false]
            exact h3

theorem good_key : Good cmpK := by
  have g := good_int
  have gl := good_list 4
  refine ⟨fun x y => ?_, fun x y => ?_, fun x y z h1 h2 => ?_⟩
  · obtain ⟨i1, i2⟩ := gl.1 x.dims y.dims rfl rfl
    simp only [cmpK]
    by_cases e : x.h.toInt = y.h.toInt
    · rw [if_pos ((g.zero _ _).2 e), i1]
      cases x; cases y
      simp only [Key.dims, List.cons.injEq, Key.mk.injEq] at *
      rw [Int64.toInt_inj] at e
      simp [e]
    · rw [if_neg (fun h => e ((g.zero _ _).1 h))]
      refine ⟨fun h => absurd ((g.zero _ _).1 h) e, fun h => absurd (by rw [h]) e⟩
  · obtain ⟨i1, i2⟩ := gl.1 x.dims y.dims rfl rfl
    simp only [cmpK]
    by_cases e : x.h.toInt = y.h.toInt
    · rw [if_pos ((g.zero _ _).2 e), if_pos ((g.zero _ _).2 e.symm), i2]
    · rw [if_neg (fun h => e ((g.zero _ _).1 h)), if_neg (fun h => e ((g.zero _ _).1 h).symm), g.anti]
  · have i2 := gl.2 x.dims y.dims z.dims rfl rfl rfl
    simp only [cmpK] at *
    by_cases e1 : x.h.toInt = y.h.toInt
    · rw [if_pos ((g.zero _ _).2 e1)] at h1
      rw [e1]
      by_cases e2 : y.h.toInt = z.h.toInt
      · rw [if_pos ((g.zero _ _).2 e2)] at h2 ⊢
        exact i2 h1 h2
      · rw [if_neg (fun h => e2 ((g.zero _ _).1 h))] at h2 ⊢
        exact h2
    · rw [if_neg (fun h => e1 ((g.zero _ _).1 h))] at h1
      by_cases e2 : y.h.toInt = z.h.toInt
      · rw [← e2, if_neg (fun h => e1 ((g.zero _ _).1 h))]
        exact h1
      · rw [if_neg (fun h => e2 ((g.zero _ _).1 h))] at h2
        have h3 := g.trans _ _ _ h1 h2
        rw [if_neg (by omega)]
        exact h3

theorem Good.swo {α : Type} {c : α → α → Int} (g : Good c) : SWO (ltOf c) where
  irrefl x := by have := (g.zero x x).2 rfl; simp [ltOf, this]
  trans x y z h1 h2 := by simp only [ltOf, decide_eq_true_eq] at *; exact g.trans x y z h1 h2
  ntrans x y z h1 h2 := by
    simp only [ltOf, decide_eq_false_iff_not] at *
    intro h3
    by_cases e : c y z = 0
    · rw [(g.zero _ _).1 e] at h1; exact h1 h3
    · have h4 : 0 < c y z := by omega
      exact h1 (g.trans x z y h3 ((g.anti z y).2 h4))
theorem Good.total {α : Type} {c : α → α → Int} (g : Good c) (x y : α) (h1 : ltOf c x y = false) (h2 : ltOf c y x = false) : x = y := by
  simp only [ltOf, decide_eq_false_iff_not] at *
  refine (g.zero x y).1 ?_
  have := g.anti y x
  omega

def sortK (l : List Key) : List Key := l.mergeSort fun x y => !(ltOf cmpK) y x

theorem sortK_perm (l : List Key) : (sortK l).Perm l := List.mergeSort_perm _ _
theorem sortK_sorted (l : List Key) : (sortK l).Pairwise fun x y => ¬ cmpK y x < 0 := by
  have h := List.pairwise_mergeSort (le := fun x y : Key => !(ltOf cmpK) y x) (fun a b c h1 h2 => by
    simp only [Bool.not_eq_true'] at *
    exact good_key.swo.ntrans c b a h2 h1) (fun a b => by
    simp only [Bool.or_eq_true, Bool.not_eq_true', ltOf, decide_eq_false_iff_not]
    have := good_key.anti a b
    omega) l
  exact h.imp fun h => by simpa [ltOf] using h
theorem sortK_eq {l m : List Key} (h : l.Perm m) : sortK l = sortK m := by
  refine List.Perm.eq_of_pairwise (le := fun x y => ¬ cmpK y x < 0) ?_ (sortK_sorted l) (sortK_sorted m) ((sortK_perm l).trans (h.trans (sortK_perm m).symm))
  intro a b _ _ h1 h2
  exact good_key.total a b (by simpa [ltOf] using h2) (by simpa [ltOf] using h1)

end Go.Proofs

namespace Go.Proofs
open Go Go.Av Go.Sort
set_option linter.unusedSimpArgs false
set_option linter.unusedVariables false
set_option maxRecDepth 30000
set_option maxHeartbeats 2000000

instance : Inhabited Key := ⟨⟨0, .empty, .empty, .empty, .empty⟩⟩
def encK (k : Key) : List Value := [.int .i64 k.h.toInt, .string k.a, .string k.b, .string k.c, .string k.d]

theorem keysE (l : List Key) : rowsE encK l = keysA l := rfl

theorem agg39 (w : World) : (isAgg 82).run Try.prog w = .ok true w := by
  have h : Try.prog.underlying 82 = some (TypeDesc.struct #[{ name := "Hour", type := 2, offset := 0, embedded := false, tag := "", pkgPath := "", byteOffset := 0 }, { name := "Dims", type := 80, offset := 1, embedded := false, tag := "", pkgPath := "", byteOffset := 8 }]) := by simp only [unders]
  simp [isAgg, run_underlying h, Result.andThen]
theorem size39 (w : World) : (Go.sizeOf 82).run Try.prog w = .ok 5 w := by
  have h : szOf Try.prog 82 = some 5 := by simp only [szOf, tys, Option.map_some]
  exact Go.Av.run_sizeOf h w
theorem sorts : Sorts Try.prog 179 73 encK 5 sortK :=
  sorts_of (ρ := Try.sortL_ren) Try.sortL 5 (by decide) agg39 size39 encK (fun _ => rfl) (fun x v hv => by
    simp only [encK, List.mem_cons, List.not_mem_nil, or_false] at hv
    rcases hv with rfl | rfl | rfl | rfl | rfl <;> exact ⟨rfl, rfl⟩) cmpK good_key.swo good_key.total 73 ((fcmp_spec default default) ⟨fun _ => none, 0, ⟨0, []⟩⟩).1 (fun x y => fcmp_spec x y) (Try.sortL.f6.enters rfl)

theorem collect_spec (l : List (Key × Cell)) (s : AState) (m : Nat) (hm : s.obj m = some (.map (entA l))) (hlen : l.length ≤ 1000000) :
    ACalls Try.prog 178 [.fn 180 [] [.ep [.mp m] 0]] s (fun d s' => ∃ ks : List Key, ks.Perm (l.map (·.1)) ∧ d = .sl 5 (keysA ks) (.row (s.next + 1) ks.length) ∧
      s' = { s with obj := fun i => if i = s.next + 1 then some (.row ks.length) else s.obj i, next := s.next + 2 }) := by
  refine ACalls_bodyM (C := ⟨[]⟩) (c := Try.f178.body.getD .skip) (rs := [.tmp 2]) Try.func178 (by kernel_rfl) (by kernel_rfl) (by kernel_rfl) (Nat.le_of_ble_eq_true rfl) (by kernel_rfl) fun hwf hbel => ?_
  simp only [Try.f178, push_cast, ↓EPM, ↓reduceIte, seval, reduceCtorEq]
  refine ACalls_mono ?_ (appendSeq_spec l _ m hm hlen)
  rintro d s' ⟨ks, hp, rfl, rfl⟩
  simp only [push_cast, ↓EPM, ↓reduceIte, seval, reduceCtorEq]
  refine RetM_more (l := [.sl 5 (keysA ks) (.row (s.next + 1) ks.length)]) (m := [.sl 5 (keysA ks) (.row (s.next + 1) ks.length)]) (S := { s with obj := fun i => if i = s.next + 1 then some (.row ks.length) else s.obj i, next := s.next + 2 }) (.inr rfl) rfl (by simp only [push_cast, ↓EPM, ↓reduceIte, seval, reduceCtorEq]) ⟨.inl rfl, trivial⟩ (Nat.le_add_right _ _) rfl (Nat.le_refl _) ?_ ?_ ⟨ks, hp, rfl, rfl⟩
  · intro i o ho
    refine ⟨?_, ?_, ho⟩ <;> simp only at ho
    · split at ho
      · rename_i e; subst e; show s.next + 1 < s.next + 2; omega
      · exact Nat.lt_of_lt_of_le (hwf i o ho).1 (Nat.le_add_right _ _)
    · split at ho
      · cases ho; trivial
      · exact (hwf i o ho).2.mono (Nat.le_add_right _ _)
  · simp only [packAV, Bel_sl, keysA_bel, tokBel, true_and]
    show s.next + 1 < s.next + 2
    omega

theorem sortedFunc_spec (l : List (Key × Cell)) (s : AState) (m : Nat) (hm : s.obj m = some (.map (entA l))) (hlen : l.length ≤ 1000000) :
    ACalls Try.prog 101 [.fn 180 [] [.ep [.mp m] 0], .fn 73 [] []] s (fun d s' => d = .sl 5 (keysA (sortK (l.map (·.1)))) .none ∧ s' = s) := by
  refine ACalls_frame (fun i => i == m) (k0 := fun d s' => d = .sl 5 (keysA (sortK (l.map (·.1)))) .none ∧ s' = s.keep (fun i => i == m)) ?_ (fun hwf0 d s' hle h => ⟨h.1, ?_⟩)
  · generalize hs0 : s.keep (fun i => i == m) = s0
    have hm0 : s0.obj m = some (.map (entA l)) := by subst hs0; simp [AState.keep, hm]
    have ho0 : ∀ i o, s0.obj i = some o → i = m := by subst hs0; intro i o h; simp [AState.keep] at h; exact h.1
    refine ACalls_code (c := Try.f101.body.getD .skip) (rs := [.tmp 4]) Try.func101 (by kernel_rfl) (by kernel_rfl) (by kernel_rfl) (Nat.le_of_ble_eq_true rfl) (by kernel_rfl) fun hwf hbel => ?_
    simp only [Try.f101, Option.getD_some]
    refine ACode_seq (ACode_of (C := ⟨[]⟩) ?_)
    simp only [push_cast, ↓EPM, ↓reduceIte, seval, reduceCtorEq]
    refine ACode_seq (ACode_of (C := ⟨[]⟩) ?_)
    simp only [push_cast, ↓EPM, ↓reduceIte, seval, reduceCtorEq]
    refine ACalls_mono ?_ (collect_spec l _ m hm0 hlen)
    rintro d s' ⟨ks, hp, rfl, rfl⟩
    simp only [push_cast, ↓EPM, ↓reduceIte, seval, reduceCtorEq]
    refine ACode_seq (sort_code sorts (l := ks) (rid := s0.next + 1) (s' := { s0 with base := ⟨s0.next, []⟩, next := s0.next + 2 }) ?_ ?_ ?_ ?_ (by decide) (by decide) (by decide) (by decide) (by decide) ?_ ?_ rfl rfl ?_)
    · rw [keysE]; simp only [push_cast, ↓EPM, ↓reduceIte, seval, reduceCtorEq]
    · simp only [push_cast, ↓EPM, ↓reduceIte, seval, reduceCtorEq]
    · ((repeat (first | rw [if_neg (by omega)] | rw [if_pos (by omega)] | (simp only [↓reduceIte]; done) | simp only [↓reduceIte])); try rfl)
    · show s0.next ≤ s0.next + 1; omega
    · have := hp.length_eq
      simp only [List.length_map] at this
      omega
    · intro i o ho
      have e := ho0 i o ho
      subst e
      refine ⟨?_, ?_⟩
      · have := (hwf _ _ ho).1
        ((repeat (first | rw [if_neg (by omega)] | rw [if_pos (by omega)] | (simp only [↓reduceIte]; done) | simp only [↓reduceIte])); try rfl)
        exact ho
      · have e2 := hm0.symm.trans ho
        cases e2
        intro p hp
        simp only [entA, List.mem_map] at hp
        obtain ⟨q, _, rfl⟩ := hp
        refine ⟨WF_agg fun c hc => ?_, WF_agg fun c hc => ?_⟩
        · simp only [Key.av, List.mem_cons, List.not_mem_nil, or_false] at hc
          rcases hc with rfl | rfl | rfl | rfl | rfl <;> exact WF_v _
        · simp only [Cell.av, List.mem_cons, List.not_mem_nil, or_false] at hc
          rcases hc with rfl | rfl | rfl | rfl <;> exact WF_v _
    · rw [keysE, sortK_eq hp]
      simp only [EK, ↓reduceIte]
      refine ACode_seq (ACode_of (C := ⟨[]⟩) ?_)
      simp only [push_cast, ↓EPM, ↓reduceIte, seval, reduceCtorEq]
      refine ACode_of (C := ⟨[]⟩) ?_
      simp only [push_cast, ↓EPM, ↓reduceIte, seval, reduceCtorEq]
      refine RetM_more (l := [.sl 5 (keysA (sortK (l.map (·.1)))) .none]) (m := [.sl 5 (keysA (sortK (l.map (·.1)))) .none]) (S := s0) (.inr rfl) rfl (by simp only [push_cast, ↓EPM, ↓reduceIte, seval, reduceCtorEq]) ⟨.inl rfl, trivial⟩ (Nat.le_refl _) rfl (Nat.le_add_right _ _) (fun i o ho => ⟨(hwf i o ho).1, (hwf i o ho).2, ho⟩) ?_ ⟨rfl, hs0.symm ▸ rfl⟩
      simp only [packAV, Bel_sl, keysA_bel, tokBel, true_and]
  · obtain ⟨rfl, rfl⟩ := h
    refine AState.ext' (fun i => ?_) rfl rfl
    simp only [AState.join, AState.keep, Bool.and_eq_true, decide_eq_true_eq, Bool.not_eq_true', beq_eq_false_iff_ne, beq_iff_eq]
    split
    · rfl
    · split
      · rename_i e; rw [e]
      · rename_i h1 h2
        cases e : s.obj i with
        | none => rfl
        | some o => exact absurd ⟨(hwf0 i o e).1, h2⟩ h1

end Go.Proofs

namespace Go.Proofs
open Go Go.Av Go.Sort
set_option linter.unusedSimpArgs false
set_option linter.unusedVariables false
set_option maxRecDepth 30000
set_option maxHeartbeats 2000000

theorem keysA_nil : keysA [] = [] := rfl
attribute [push_cast] keysA_nil

/-! A map by keys, as a list -/
abbrev KM := List (Key × Cell)
def KM.find (m : KM) (k : Key) : Option Nat := m.findIdx? fun p => decide (p.1 = k)
def KM.get (m : KM) (k : Key) : Cell := match m.find k with | some i => ((m[i]?).map (·.2)).getD zeroC | none => zeroC
def KM.put (m : KM) (k : Key) (c : Cell) : KM := match m.find k with | some i => m.set i (k, c) | none => m ++ [(k, c)]

theorem eqAV_key (c d : Key) : eqAV Try.prog 20 82 (.agg c.av) (.agg d.av) = some (decide (c = d)) := by
  rw [← key_beq]
  kernel_rfl
theorem ck_key (c : Key) : ckAV Try.prog 20 82 (.agg c.av) = true := by kernel_rfl
theorem bits_key (c : Key) : bitsAV (.agg c.av) = true := rfl

theorem KM.find_some {m : KM} {k : Key} {i : Nat} (h : m.find k = some i) : ∃ c, m[i]? = some (k, c) ∧ ∀ j q, j < i → m[j]? = some q → q.1 ≠ k := by
  obtain ⟨hlt, h1, h2⟩ := List.findIdx?_eq_some_iff_getElem.1 h
  simp only [decide_eq_true_eq] at h1 h2
  refine ⟨m[i].2, by rw [List.getElem?_eq_getElem hlt, ← h1], fun j q hj hq => ?_⟩
  have := h2 j hj
  obtain ⟨hjl, rfl⟩ := List.getElem?_eq_some_iff.1 hq
  simpa using this
theorem KM.find_none {m : KM} {k : Key} (h : m.find k = none) : ∀ q ∈ m, q.1 ≠ k := by
  intro q hq
  have := List.findIdx?_eq_none_iff.1 h q hq
  simpa using this

theorem mfind (m : KM) (k : Key) : MFind Try.prog 82 (.agg k.av) (entA m) (m.find k) := by
  cases h : m.find k with
  | some i =>
    obtain ⟨c, h1, h2⟩ := KM.find_some h
    refine ⟨(.agg k.av, .agg c.av), by simp [entA, h1], by rw [eqAV_key]; simp, fun j q hj hq => ?_⟩
    obtain ⟨p, hp, rfl⟩ := entA_get hq
    rw [eqAV_key]
    have := h2 j p hj hp
    simp [Ne.symm this]
  | none =>
    intro j q hq
    obtain ⟨p, hp, rfl⟩ := entA_get hq
    rw [eqAV_key]
    have := KM.find_none h p (List.mem_of_getElem? hp)
    simp [Ne.symm this]

theorem zero44 : zeroAV Try.prog 79 = some (.agg zeroC.av) := by simp only [zeroAV, tys, Option.bind_some]; rfl

theorem mval (m : KM) (k : Key) : mGet Try.prog 79 (entA m) (m.find k) = some (.agg (m.get k).av) := by
  simp only [KM.get]
  cases h : m.find k with
  | some i =>
    obtain ⟨c, h1, _⟩ := KM.find_some h
    simp [mGet, entA, h1]
  | none => exact zero44

theorem mput (m : KM) (k : Key) (c : Cell) : mPut (entA m) (.agg k.av) (.agg c.av) (m.find k) = entA (m.put k c) := by
  simp only [KM.put]
  cases h : m.find k with
  | some i => simp [mPut, entA, List.map_set]
  | none => simp [mPut, entA]
theorem msame (m : KM) (k : Key) : ∀ i, m.find k = some i → ((entA m)[i]?).map (·.1) = some (.agg k.av) := by
  intro i h
  obtain ⟨c, h1, _⟩ := KM.find_some h
  simp [entA, h1]

theorem KM.put_len (m : KM) (k : Key) (c : Cell) : (m.put k c).length ≤ m.length + 1 := by
  simp only [KM.put]; split <;> simp
theorem KM.put_keys (m : KM) (k : Key) (c : Cell) : (m.put k c).map (·.1) = if m.find k = none then m.map (·.1) ++ [k] else m.map (·.1) := by
  simp only [KM.put]
  cases h : m.find k with
  | some i =>
    obtain ⟨c', h1, _⟩ := KM.find_some h
    simp only [List.map_set, reduceCtorEq, if_false]
    apply List.ext_getElem? 
    intro j
    by_cases e : i = j
    · subst e
      have hl := (List.getElem?_eq_some_iff.1 h1).1
      rw [List.getElem?_set_self (by simpa using hl)]
      simp [h1]
    · rw [List.getElem?_set_ne e]
  | none => simp

/-- Facts, one by one. -/
def mAll : KM → List Fact → Option KM
  | m, [] => some m
  | m, f :: l => (mergeC (m.get f.k) ⟨1, f.v, f.v, f.v⟩).bind fun c => mAll (m.put f.k c) l

def mRows (m : KM) : List Row := (sortK (m.map (·.1))).map fun k => ⟨k, m.get k⟩

def resO : Option (List Row) → AV
  | some l => resS (some l) 0
  | none => resS none 6

def zeroF : Fact := ⟨⟨0, .empty, .empty, .empty, .empty⟩, 0⟩

def zeroK : Key := ⟨0, .empty, .empty, .empty, .empty⟩
/-- The first rows. -/
def KR (m : KM) (j : Nat) : List Row := ((sortK (m.map (·.1))).take j).map fun k => ⟨k, m.get k⟩
theorem sortK_len (m : KM) : (sortK (m.map (·.1))).length = m.length := by rw [(sortK_perm _).length_eq, List.length_map]

theorem KR_len {m : KM} {j : Nat} (h : j ≤ m.length) : (KR m j).length = j := by simp [KR, sortK_len]; omega
theorem KR_succ {m : KM} {j : Nat} {x : Key} (h : (sortK (m.map (·.1)))[j]? = some x) : KR m (j + 1) = KR m j ++ [⟨x, m.get x⟩] := by simp [KR, take_get h]
theorem KR_all (m : KM) : KR m m.length = mRows m := by
  rw [KR, mRows, List.take_of_length_le (by rw [sortK_len]; exact Nat.le_refl _)]
theorem entA_bel (n : Nat) (m : KM) : OBel n (.map (entA m)) := by
  intro p hp
  simp only [entA, List.mem_map] at hp
  obtain ⟨q, _, rfl⟩ := hp
  refine ⟨Bel_agg.2 fun c hc => ?_, Bel_agg.2 fun c hc => ?_⟩
  · simp only [Key.av, List.mem_cons, List.not_mem_nil, or_false] at hc
    rcases hc with rfl | rfl | rfl | rfl | rfl <;> exact .v _
  · simp only [Cell.av, List.mem_cons, List.not_mem_nil, or_false] at hc
    rcases hc with rfl | rfl | rfl | rfl <;> exact .v _

theorem wfS {s : AState} (hwf : s.Wf) (m : KM) (l : List Row) (n : Nat) : AState.Wf (AState.new (AState.new (AState.new { s with base := ⟨s.next, []⟩ } (.map (entA m))) (.cells [.sl 9 (rowsA l) (.row (s.next + 2) n)])) (.row n)) := by
  intro id o ho
  simp only [AState.new] at ho
  split at ho
  · rename_i e; subst e; cases ho; exact ⟨by show s.next + 1 + 1 < s.next + 3; omega, trivial⟩
  · split at ho
    · rename_i e; subst e; cases ho
      refine ⟨by show s.next + 1 < s.next + 3; omega, ?_⟩
      intro c hc
      simp only [List.mem_cons, List.not_mem_nil, or_false] at hc
      subst hc
      exact Bel_sl.2 ⟨of_eq_true (rowsA_bel _ _), (by show s.next + 2 < s.next + 3; omega)⟩
    · split at ho
      · rename_i e; subst e; cases ho; exact ⟨by show s.next < s.next + 3; omega, entA_bel _ _⟩
      · obtain ⟨h1, h2⟩ := hwf id o ho
        exact ⟨Nat.lt_of_lt_of_le h1 (Nat.le_add_right _ 3), h2.mono (Nat.le_add_right _ 3)⟩

end Go.Proofs

namespace Go.Proofs
open Go Go.Av Go.Sort
set_option linter.unusedSimpArgs false
set_option linter.unusedVariables false
set_option maxRecDepth 30000
set_option maxHeartbeats 4000000

theorem nx6 : (∀ n : Nat, (n = n + 1 + 1 + 1 + 1) = False) ∧ (∀ n : Nat, (n + 1 + 1 + 1 + 1 = n) = False) ∧ (∀ n : Nat, (n = n + 1 + 1 + 1 + 1 + 1) = False) ∧ (∀ n : Nat, (n + 1 + 1 + 1 + 1 + 1 = n) = False) ∧ (∀ n : Nat, (n = n + 1 + 1 + 1 + 1 + 1 + 1) = False) ∧ (∀ n : Nat, (n + 1 + 1 + 1 + 1 + 1 + 1 = n) = False) ∧ (∀ n : Nat, (n = n + 1 + 1 + 1 + 1 + 1 + 1 + 1) = False) ∧ (∀ n : Nat, (n + 1 + 1 + 1 + 1 + 1 + 1 + 1 = n) = False) ∧ (∀ n : Nat, (n = n + 1 + 1 + 1 + 1 + 1 + 1 + 1 + 1) = False) ∧ (∀ n : Nat, (n + 1 + 1 + 1 + 1 + 1 + 1 + 1 + 1 = n) = False) := by
  refine ⟨?_, ?_, ?_, ?_, ?_, ?_, ?_, ?_, ?_, ?_⟩ <;> (intro n; apply eq_false; omega)
attribute [push_cast] nx6

theorem cmp_irr' (x : Key) : ¬ cmpK x x < 0 := by have := (good_key.zero x x).2 rfl; omega
def encX (c : Chg) : List Value := [.int .i64 c.k.h.toInt, .string c.k.a, .string c.k.b, .string c.k.c, .string c.k.d, .int .i64 c.w.n.toInt, .int .i64 c.w.s.toInt, .int .i64 c.w.lo.toInt, .int .i64 c.w.hi.toInt, .int .i64 c.n.n.toInt, .int .i64 c.n.s.toInt, .int .i64 c.n.lo.toInt, .int .i64 c.n.hi.toInt]

theorem agg151 (w : World) : (isAgg 151).run Try.prog w = .ok true w := by
  have h : Try.prog.underlying 151 = some (Try.prog.underlying 151).get! := by simp only [unders]; rfl
  have h2 : ∃ fs, (Try.prog.underlying 151).get! = TypeDesc.struct fs := by simp only [unders]; exact ⟨_, rfl⟩
  obtain ⟨fs, h2⟩ := h2
  rw [h2] at h
  simp [isAgg, run_underlying h, Result.andThen]
theorem size151 (w : World) : (Go.sizeOf 151).run Try.prog w = .ok 13 w := by
  have h : szOf Try.prog 151 = some 13 := by simp only [szOf, tys, Option.map_some]
  exact Go.Av.run_sizeOf h w

theorem cmp72_spec (x y : Chg) : APure Try.prog 72 [.agg x.av, .agg y.av] (i64 (cmpK x.k y.k)) := by
  intro s
  refine enterA ⟨[2,3]⟩ (Try.f72.body.getD .skip) [.tmp 4] Try.func72 fun hwf hbel => ?_; simp only [Try.f72, push_cast, ↓EPM, ↓reduceIte, seval, reduceCtorEq]
  refine (fcmp_spec x.k y.k).use ?_
  simp only [push_cast, ↓EPM, ↓reduceIte, seval, reduceCtorEq]
  exact RetP [i64 (cmpK x.k y.k)]
instance : Inhabited Chg := ⟨zeroX⟩
theorem sortsX (val : Key → Chg) (hv : ∀ k, (val k).k = k) : Sorts Try.prog 71 72 (fun k => encX (val k)) 13 sortK :=
  sorts_of (ρ := Try.sortX_ren) Try.sortX 13 (by decide) agg151 size151 (fun k => encX (val k)) (fun _ => rfl) (fun x v hv => by
    simp only [encX, List.mem_cons, List.not_mem_nil, or_false] at hv
    rcases hv with rfl | rfl | rfl | rfl | rfl | rfl | rfl | rfl | rfl | rfl | rfl | rfl | rfl <;> exact ⟨rfl, rfl⟩) cmpK good_key.swo good_key.total 72 ((cmp72_spec default default) ⟨fun _ => none, 0, ⟨0, []⟩⟩).1 (fun x y => by
      have h := cmp72_spec (val x) (val y)
      rw [hv x, hv y] at h
      exact h) (Try.sortX.f6.enters rfl)

/-! A map of changes, as a list -/
def entX (m : List Chg) : List (AV × AV) := m.map fun c => (.agg c.k.av, .agg c.av)
theorem entX_len (m : List Chg) : (entX m).length = m.length := by simp [entX]
theorem entX_get {l : List Chg} {i : Nat} {q : AV × AV} (h : (entX l)[i]? = some q) : ∃ p, l[i]? = some p ∧ q = (.agg p.k.av, .agg p.av) := by
  simp only [entX, List.getElem?_map, Option.map_eq_some_iff] at h
  obtain ⟨p, hp, rfl⟩ := h
  exact ⟨p, hp, rfl⟩
def xfind (m : List Chg) (k : Key) : Option Nat := m.findIdx? fun c => decide (c.k = k)
def xget (m : List Chg) (k : Key) : Chg := match xfind m k with | some i => (m[i]?).getD zeroX | none => zeroX
def xput (m : List Chg) (c : Chg) : List Chg := match xfind m c.k with | some i => m.set i c | none => m ++ [c]
theorem xfind_some {m : List Chg} {k : Key} {i : Nat} (h : xfind m k = some i) : ∃ c, m[i]? = some c ∧ c.k = k ∧ ∀ j q, j < i → m[j]? = some q → q.k ≠ k := by
  obtain ⟨hlt, h1, h2⟩ := List.findIdx?_eq_some_iff_getElem.1 h
  simp only [decide_eq_true_eq] at h1 h2
  refine ⟨m[i], List.getElem?_eq_getElem hlt, h1, fun j q hj hq => ?_⟩
  have := h2 j hj
  obtain ⟨hjl, rfl⟩ := List.getElem?_eq_some_iff.1 hq
  simpa using this
theorem xfind_none {m : List Chg} {k : Key} (h : xfind m k = none) : ∀ q ∈ m, q.k ≠ k := by
  intro q hq
  have := List.findIdx?_eq_none_iff.1 h q hq
  simpa using this
theorem xfind_no {m : List Chg} {k : Key} (h : ∀ q ∈ m, q.k ≠ k) : xfind m k = none := by
  refine List.findIdx?_eq_none_iff.2 fun q hq => ?_
  simpa using h q hq
theorem xMfind (m : List Chg) (k : Key) : MFind Try.prog 82 (.agg k.av) (entX m) (xfind m k) := by
  cases h : xfind m k with
  | some i =>
    obtain ⟨c, h1, h3, h2⟩ := xfind_some h
    refine ⟨(.agg c.k.av, .agg c.av), by simp [entX, h1], by rw [eqAV_key]; simp [h3], fun j q hj hq => ?_⟩
    obtain ⟨p, hp, rfl⟩ := entX_get hq
    rw [eqAV_key]
    have := h2 j p hj hp
    simp [Ne.symm this]
  | none =>
    intro j q hq
    obtain ⟨p, hp, rfl⟩ := entX_get hq
    rw [eqAV_key]
    have := xfind_none h p (List.mem_of_getElem? hp)
    simp [Ne.symm this]
theorem zero151 : zeroAV Try.prog 151 = some (.agg zeroX.av) := by simp only [zeroAV, tys, Option.bind_some]; rfl
theorem xval (m : List Chg) (k : Key) : mGet Try.prog 151 (entX m) (xfind m k) = some (.agg (xget m k).av) := by
  simp only [xget]
  cases h : xfind m k with
  | some i =>
    obtain ⟨c, h1, _⟩ := xfind_some h
    simp [mGet, entX, h1]
  | none => exact zero151
theorem xmput (m : List Chg) (c : Chg) : mPut (entX m) (.agg c.k.av) (.agg c.av) (xfind m c.k) = entX (xput m c) := by
  simp only [xput]
  cases h : xfind m c.k with
  | some i => simp [mPut, entX, List.map_set]
  | none => simp [mPut, entX]
theorem xsame (m : List Chg) (k : Key) : ∀ i, xfind m k = some i → ((entX m)[i]?).map (·.1) = some (.agg k.av) := by
  intro i h
  obtain ⟨c, h1, h2, _⟩ := xfind_some h
  simp [entX, h1, h2]
theorem xput_len (m : List Chg) (c : Chg) : (xput m c).length ≤ m.length + 1 := by
  simp only [xput]; split <;> simp
theorem xput_nodup {m : List Chg} (h : (m.map (·.k)).Nodup) (c : Chg) : ((xput m c).map (·.k)).Nodup := by
  simp only [xput]
  cases hf : xfind m c.k with
  | some i =>
    obtain ⟨c', h1, h2, _⟩ := xfind_some hf
    have : (m.set i c).map (·.k) = m.map (·.k) := by
      apply List.ext_getElem?
      intro j
      rw [List.map_set]
      by_cases e : i = j
      · subst e
        have hl := (List.getElem?_eq_some_iff.1 h1).1
        rw [List.getElem?_set_self (by simpa using hl)]
        simp [h1, h2]
      · rw [List.getElem?_set_ne e]
    show ((m.set i c).map (·.k)).Nodup
    rw [this]
    exact h
  | none =>
    show ((m ++ [c]).map (·.k)).Nodup
    rw [List.map_append, List.nodup_append]
    refine ⟨h, by simp, fun a ha b hb => ?_⟩
    simp only [List.map_cons, List.map_nil, List.mem_cons, List.not_mem_nil, or_false] at hb
    subst hb
    obtain ⟨q, hq, rfl⟩ := List.mem_map.1 ha
    exact xfind_none hf q hq
theorem xget_mem {m : List Chg} (h : (m.map (·.k)).Nodup) {c : Chg} (hc : c ∈ m) : xget m c.k = c := by
  cases hf : xfind m c.k with
  | none => exact absurd rfl (xfind_none hf c hc)
  | some i =>
    obtain ⟨c', h1, h2, _⟩ := xfind_some hf
    obtain ⟨j, hj, hcj⟩ := List.getElem_of_mem hc
    obtain ⟨hi, hci⟩ := List.getElem?_eq_some_iff.1 h1
    have e : i = j := by
      have e2 : (m.map (·.k))[i]'(by simpa using hi) = (m.map (·.k))[j]'(by simpa using hj) := by
        rw [List.getElem_map, List.getElem_map, hci, hcj, h2]
      have hp := List.nodup_iff_pairwise_ne.1 h
      rcases Nat.lt_trichotomy i j with hh | hh | hh
      · exact absurd e2 (List.pairwise_iff_getElem.1 hp i j (by simpa using hi) (by simpa using hj) hh)
      · exact hh
      · exact absurd e2.symm (List.pairwise_iff_getElem.1 hp j i (by simpa using hj) (by simpa using hi) hh)
    subst e
    rw [hci] at hcj
    simp [xget, hf, h1, hcj]
theorem u153 : Try.prog.underlying 153 = some (.map 82 151) := by simp only [unders]
theorem entX_bel (n : Nat) (m : List Chg) : OBel n (.map (entX m)) := by
  intro p hp
  simp only [entX, List.mem_map] at hp
  obtain ⟨q, _, rfl⟩ := hp
  exact ⟨by simp only [push_cast, List.mem_cons, List.not_mem_nil, or_false, forall_eq_or_imp, forall_eq, and_self], by simp only [push_cast, List.mem_cons, List.not_mem_nil, or_false, forall_eq_or_imp, forall_eq, and_self]⟩

/-! Two lists of changes together -/
def stepM (M : List Chg) (c : Chg) : Option (List Chg) :=
  match xfind M c.k with
  | none => some (xput M c)
  | some _ => if (xget M c.k).n = c.w then some (xput M ⟨(xget M c.k).k, (xget M c.k).w, c.n⟩) else none
def allM : List Chg → List Chg → Option (List Chg)
  | M, [] => some M
  | M, c :: m => (stepM M c).bind fun M' => allM M' m
def moved (c : Chg) : Bool := decide (¬ c.w = c.n)
def valX (M : List Chg) (k : Key) : Chg := ⟨k, (xget M k).w, (xget M k).n⟩
def outM (M : List Chg) : List Chg := (sortK ((M.filter moved).map (·.k))).map (valX M)
theorem valX_mem {m : List Chg} (h : (m.map (·.k)).Nodup) {c : Chg} (hc : c ∈ m) : valX m c.k = c := by rw [valX, xget_mem h hc]
/-- What has been put out, by the places gone through. -/
def outA (M : List Chg) (is : List Nat) : List Chg := (is.map fun i => (M[i]?).getD zeroX).filter moved
theorem outA_snoc {M : List Chg} {is : List Nat} {i : Nat} {c : Chg} (h : M[i]? = some c) : outA M (is ++ [i]) = if moved c then outA M is ++ [c] else outA M is := by
  simp only [outA, List.map_append, List.map_cons, List.map_nil, List.filter_append, h, Option.getD_some]
  split <;> rename_i e <;> simp [e]
theorem outA_all {M : List Chg} {is : List Nat} (hn : is.Nodup) (hlt : ∀ i ∈ is, i < M.length) (hall : ∀ i, i < M.length → i ∈ is) : (outA M is).Perm (M.filter moved) := by
  have hp : is.Perm (List.range M.length) := (List.perm_ext_iff_of_nodup hn List.nodup_range).2 fun i => ⟨fun h => List.mem_range.2 (hlt i h), fun h => hall i (List.mem_range.1 h)⟩
  refine ((hp.map _).filter _).trans (List.Perm.of_eq ?_)
  congr 1
  apply List.ext_getElem (by simp)
  intro i h1 h2
  simp [h2]
theorem outA_len (M : List Chg) (is : List Nat) : (outA M is).length ≤ is.length := Nat.le_trans (List.length_filter_le _ _) (by simp)
theorem rowsX {M : List Chg} (h : (M.map (·.k)).Nodup) {o : List Chg} (ho : ∀ c ∈ o, c ∈ M) : rowsE (fun k => encX (valX M k)) (o.map (·.k)) = chA o := by
  simp only [rowsE, chA, List.map_map]
  refine List.map_congr_left fun c hc => ?_
  show (encX (valX M c.k)).map AV.v = c.av
  rw [valX_mem h (ho c hc)]
  rfl
theorem rowsX_val (M : List Chg) (ks : List Key) : rowsE (fun k => encX (valX M k)) ks = chA (ks.map (valX M)) := by
  simp only [rowsE, chA, List.map_map]
  rfl
def resQ : Option (List Chg) → AV
  | some q => .tup [.sl 13 (chA q) .none, i64 0]
  | none => .tup [.sl 13 [] .none, i64 11]
def resJ (l m : List Chg) (o : Option (List Chg)) : AV :=
  if rightC none l && rightC none m then resQ o else .tup [.sl 13 [] .none, i64 4]

theorem right_srtC : ∀ (l : List Chg) (p : Option Key), rightC p l = true → l.Pairwise (fun a b => cmpK a.k b.k < 0) ∧ ∀ k, p = some k → ∀ r ∈ l, cmpK k r.k < 0
  | [], p, _ => ⟨.nil, fun _ _ _ h => by cases h⟩
  | x :: l, p, h => by
    simp only [rightC, Bool.and_eq_true] at h
    obtain ⟨h1, h2⟩ := h
    obtain ⟨i1, i2⟩ := right_srtC l (some x.k) h2
    refine ⟨List.pairwise_cons.2 ⟨fun r hr => i2 x.k rfl r hr, i1⟩, fun k hk r hr => ?_⟩
    subst hk
    have hx : cmpK k x.k < 0 := by
      simp only [okC, Bool.and_eq_true, decide_eq_true_eq] at h1
      exact h1.1
    rcases List.mem_cons.1 hr with rfl | hr
    · exact hx
    · exact good_key.trans _ _ _ hx (i2 x.k rfl r hr)
theorem xget_key {M : List Chg} {k : Key} {i : Nat} (h : xfind M k = some i) : (xget M k).k = k := by
  obtain ⟨c, h1, h2, _⟩ := xfind_some h
  simp [xget, h, h1, h2]
theorem take_put {l : List Chg} (h : l.Pairwise fun a b => cmpK a.k b.k < 0) {i : Nat} {x : Chg} (hx : l[i]? = some x) : xput (l.take i) x = l.take (i + 1) := by
  have hn : xfind (l.take i) x.k = none := xfind_no fun q hq e => by
    obtain ⟨j, hj, hqj⟩ := List.getElem_of_mem hq
    rw [List.length_take] at hj
    rw [List.getElem_take] at hqj
    obtain ⟨hi, hxi⟩ := List.getElem?_eq_some_iff.1 hx
    have := List.pairwise_iff_getElem.1 h j i (by omega) hi (by omega)
    rw [hqj, hxi, e] at this
    exact cmp_irr' _ this
  rw [xput, hn, take_get hx]

theorem RetMP {P : Program} {rs : List ResultVar} {s s' : AState} {ex : Exit} {e : Env} {r : AV} (l m : List AV) (hl : resAll P e s' rs = some l := by simp only [push_cast, ↓EPM, ↓reduceIte, seval, reduceCtorEq] <;> rfl)
    (hw : WvL s' l m := by simp only [WvL, push_cast, ↓EPM, ↓reduceIte, seval, reduceCtorEq])
    (hk : Keeps s s' := by first | exact Keeps.base _ _ | (repeat (first | exact Keeps.base _ _ | refine Keeps.new ?_ _ | refine Keeps.set ?_ (by first | (simp; done) | omega | (simp only [EO]; omega)) _)))
    (hb : Bel s.next (packAV m) := by first | exact .v _ | (simp only [push_cast, List.forall_mem_map, List.map_nil, false_implies, List.mem_cons, List.not_mem_nil, or_false, forall_eq_or_imp, forall_eq, and_self, true_and, and_true]))
    (hex : ex = .normal ∨ ex = .ret := by exact .inr rfl) (hm : s'.base.marks = [] := by rfl) (hr : packAV m = r := by rfl) : RetM P rs s (fun d s2 => d = r ∧ s2 = s) ex e s' := by
  refine ⟨hex, ?_⟩
  rw [hm]
  show opt (resAll P e s' rs) _
  rw [hl]
  exact ⟨r, s, by rw [← hr]; exact AFin.weak hw (AFin.pure hk hb), rfl, rfl⟩

end Go.Proofs

namespace Go.Proofs
open Go Go.Av Go.Sort
set_option linter.unusedSimpArgs false
set_option linter.unusedVariables false
set_option maxRecDepth 30000
set_option maxHeartbeats 4000000

theorem join_spec (l m : List Chg) (hl : l.length ≤ 1000) (hm : m.length ≤ 1000) : APure Try.prog 19 [.sl 13 (chA l) .none, .sl 13 (chA m) .none] (resJ l m ((allM l m).map outM)) := by
  intro s
  have hRl := dright_spec l (by omega)
  have hRm := dright_spec m (by omega)
  refine ACalls_frame (fun _ => false) (k0 := fun d s' => d = resJ l m ((allM l m).map outM) ∧ s' = s.keep (fun _ => false)) ?_ (fun hwf0 d s' hle h => ⟨h.1, ?_⟩)
  · generalize hs0 : s.keep (fun _ => false) = s0
    have ho0 : ∀ i, s0.obj i = none := by subst hs0; intro i; simp [AState.keep]
    refine ACalls_code (c := Try.f19.body.getD .skip) (rs := [.tmp 4, .tmp 5]) Try.func19 (by kernel_rfl) (by kernel_rfl) (by kernel_rfl) (Nat.le_of_ble_eq_true rfl) (by kernel_rfl) fun hwf hbel => ?_
    simp only [Try.f19, Option.getD_some]
    refine ACode_seq (ACode_of (C := ⟨[]⟩) ?_)
    simp only [push_cast, ↓EPM, ↓reduceIte, seval, reduceCtorEq]
    refine ACode_seq (ACode_of (C := ⟨[]⟩) ?_)
    simp only [push_cast, ↓EPM, ↓reduceIte, seval, reduceCtorEq]
    refine hRl.use ?_
    cases h1 : rightC none l with
    | false =>
      rw [show resJ l m ((allM l m).map outM) = .tup [.sl 13 [] .none, i64 4] by simp [resJ, h1]]
      simp only [push_cast, ↓EPM, ↓reduceIte, seval, reduceCtorEq]
      exact RetMP [.v (.slice none 0 0), i64 4] [.sl 13 [] .none, i64 4]
    | true =>
    simp only [push_cast, ↓EPM, ↓reduceIte, seval, reduceCtorEq]
    refine hRm.use ?_
    cases h2 : rightC none m with
    | false =>
      rw [show resJ l m ((allM l m).map outM) = .tup [.sl 13 [] .none, i64 4] by simp [resJ, h2]]
      simp only [push_cast, ↓EPM, ↓reduceIte, seval, reduceCtorEq]
      exact RetMP [.v (.slice none 0 0), i64 4] [.sl 13 [] .none, i64 4]
    | true =>
    have hsl := (right_srtC l none h1).1
    have hnl : (l.map (·.k)).Nodup := by
      rw [List.nodup_iff_pairwise_ne, List.pairwise_map]
      exact hsl.imp fun {a b} h (e : a.k = b.k) => cmp_irr' b.k (by rw [e] at h; exact h)
    rw [show resJ l m ((allM l m).map outM) = resQ ((allM l m).map outM) by simp [resJ, h1, h2]]
    generalize hr : allM l m = r
    simp only [push_cast, ↓EPM, ↓reduceIte, seval, reduceCtorEq]
    refine ACode_seq (ACode_of (C := ⟨[]⟩) ?_)
    simp only [push_cast, ↓EPM, ↓reduceIte, seval, reduceCtorEq]
    refine makeMap_law ?_
    simp only [push_cast, ↓EPM, ↓reduceIte, seval, reduceCtorEq]
    refine ACode_seq (ACode_of (C := ⟨[]⟩) ?_)
    simp only [push_cast, ↓EPM, ↓reduceIte, seval, reduceCtorEq]
    refine ALoop_inv (ι := Nat) (fun i => i ≤ l.length) (fun i => envL [(1, .sl 13 (chA m) .none), (4, .v (.slice none 0 0)), (6, .mp s0.next), (24, .sl 13 (chA l) .none), (25, i64 l.length), (26, i64 i)]) (fun i => AState.new { s0 with base := ⟨s0.next, []⟩ } (.map (entX (l.take i)))) (fun i => l.length - i) 0 (Nat.zero_le _) (ent rfl ?_) (fun i hi => ?_)
    · simp only [push_cast, ↓EPM, ↓reduceIte, seval, reduceCtorEq]
    · by_cases hlt : i < l.length
      · obtain ⟨x, hx⟩ : ∃ x, l[i]? = some x := ⟨_, List.getElem?_eq_getElem hlt⟩
        have gx := chA_get hx
        have hc : ((i : Int) < (l.length : Int)) := by omega
        have h0 : (0 : Int) ≤ (i : Int) := by omega
        have hw : IntKind.i64.wrap ((i : Int) + 1) = (i : Int) + 1 := wrap_in (by omega) (by omega)
        simp only [hc, h0, gx, push_cast, ↓EPM, ↓reduceIte, seval, reduceCtorEq]
        refine mapUpdate_law (id := s0.next) (es := entX (l.take i)) (key := .agg x.k.av) (val := .agg x.av) (xfind (l.take i) x.k) u153 u39 rfl rfl rfl ?_ (ck_key x.k) (xMfind (l.take i) x.k) (bits_key x.k) (xsame (l.take i) x.k) ?_
        · (simp only [upd, AState.set, AState.new]; (repeat (first | rw [if_neg (by omega)] | rw [if_pos (by omega)] | (simp only [↓reduceIte]; done) | simp only [↓reduceIte])); try rfl)
        rw [xmput, take_put hsl hx]
        simp only [hw, push_cast, ↓EPM, ↓reduceIte, seval, reduceCtorEq]
        refine round_next (i + 1) (by omega) (by omega) (AEnt_drop rfl rfl (Nat.le_succ _) ?_ ((hwf.base _).new (entX_bel _ _)) (EntB_all ?_))
        · refine ⟨by simp only [EO]; omega, fun id hid => ?_⟩
          simp only [AState.set, AState.new] at hid ⊢
          (repeat' split) <;> first | rfl | omega
        · simp only [push_cast, ↓EPM, ↓reduceIte, seval, reduceCtorEq]
          (try first | omega | ((repeat' apply And.intro) <;> first | omega | (simp only [push_cast, ↓EPM, ↓reduceIte, seval, reduceCtorEq, List.mem_cons, List.not_mem_nil, or_false, forall_eq_or_imp, forall_eq, and_self, true_and, and_true, zeroR]; done) | (simp only [push_cast, ↓EPM, ↓reduceIte, seval, reduceCtorEq, List.mem_cons, List.not_mem_nil, or_false, forall_eq_or_imp, forall_eq, and_self, true_and, and_true, zeroR]; omega)))
      · have hc : ¬ ((i : Int) < (l.length : Int)) := by omega
        rw [List.take_of_length_le (by omega)]
        simp only [hc, push_cast, ↓EPM, ↓reduceIte, seval, reduceCtorEq]
        refine ACode_seq (ACode_of (C := ⟨[]⟩) ?_)
        simp only [push_cast, ↓EPM, ↓reduceIte, seval, reduceCtorEq]
        refine ALoop_inv (ι := Nat × List Chg) (fun i => i.1 ≤ m.length ∧ i.2.length ≤ 1000 + i.1 ∧ (i.2.map (·.k)).Nodup ∧ r = allM i.2 (m.drop i.1)) (fun i => envL [(4, .v (.slice none 0 0)), (6, .mp s0.next), (35, .sl 13 (chA m) .none), (36, i64 m.length), (37, i64 i.1)]) (fun i => AState.new { s0 with base := ⟨s0.next, []⟩ } (.map (entX i.2))) (fun i => m.length - i.1) (0, l) ⟨Nat.zero_le _, hl, hnl, by rw [← hr]; rfl⟩ (ent rfl ?_) (fun j hj => ?_)
        · simp only [push_cast, ↓EPM, ↓reduceIte, seval, reduceCtorEq]
        · obtain ⟨j, M⟩ := j
          obtain ⟨hj, hML, hnd, hs⟩ := hj
          simp only at hj hML hnd hs
          by_cases hjl : j < m.length
          · obtain ⟨x, hx⟩ : ∃ x, m[j]? = some x := ⟨_, List.getElem?_eq_getElem hjl⟩
            have gx := chA_get hx
            have hc : ((j : Int) < (m.length : Int)) := by omega
            have h0 : (0 : Int) ≤ (j : Int) := by omega
            have hw : IntKind.i64.wrap ((j : Int) + 1) = (j : Int) + 1 := wrap_in (by omega) (by omega)
            rw [drop_get hx, allM] at hs
            simp only [hc, h0, gx, push_cast, ↓EPM, ↓reduceIte, seval, reduceCtorEq]
            refine lookup_law (id := s0.next) (es := entX M) (v := .agg (xget M x.k).av) (xfind M x.k) u153 u39 rfl rfl ?_ (ck_key x.k) (xMfind M x.k) (xval M x.k) ?_
            · (simp only [upd, AState.set, AState.new]; (repeat (first | rw [if_neg (by omega)] | rw [if_pos (by omega)] | (simp only [↓reduceIte]; done) | simp only [↓reduceIte])); try rfl)
            have hkey := @xget_key M x.k
            generalize hxx : xget M x.k = xx at hkey
            cases hf : xfind M x.k with
            | none =>
              rw [show stepM M x = some (xput M x) by simp [stepM, hf]] at hs
              simp only [nx0, Option.isSome_none, Bool.not_false, push_cast, ↓EPM, ↓reduceIte, seval, reduceCtorEq]
              refine mapUpdate_law (id := s0.next) (es := entX M) (key := .agg x.k.av) (val := .agg x.av) (xfind M x.k) u153 u39 rfl rfl rfl ?_ (ck_key x.k) (xMfind M x.k) (bits_key x.k) (xsame M x.k) ?_
              · (simp only [upd, AState.set, AState.new]; (repeat (first | rw [if_neg (by omega)] | rw [if_pos (by omega)] | (simp only [↓reduceIte]; done) | simp only [↓reduceIte])); try rfl)
              rw [xmput]
              simp only [hw, push_cast, ↓EPM, ↓reduceIte, seval, reduceCtorEq]
              refine round_next (j + 1, xput M x) ⟨by simp only; omega, by have := xput_len M x; simp only; omega, xput_nodup hnd x, hs⟩ (by simp only; omega) (AEnt_drop rfl rfl (Nat.le_succ _) ?_ ((hwf.base _).new (entX_bel _ _)) (EntB_all ?_))
              · refine ⟨by simp only [EO]; omega, fun id hid => ?_⟩
                simp only [AState.set, AState.new] at hid ⊢
                (repeat' split) <;> first | rfl | omega
              · simp only [push_cast, ↓EPM, ↓reduceIte, seval, reduceCtorEq]
                (try first | omega | ((repeat' apply And.intro) <;> first | omega | (simp only [push_cast, ↓EPM, ↓reduceIte, seval, reduceCtorEq, List.mem_cons, List.not_mem_nil, or_false, forall_eq_or_imp, forall_eq, and_self, true_and, and_true, zeroR]; done) | (simp only [push_cast, ↓EPM, ↓reduceIte, seval, reduceCtorEq, List.mem_cons, List.not_mem_nil, or_false, forall_eq_or_imp, forall_eq, and_self, true_and, and_true, zeroR]; omega)))
            | some q =>
              have hkk := hkey hf
              simp only [nx0, push_cast, ↓EPM, ↓reduceIte, seval, reduceCtorEq]
              refine eqK_use (aeq_cell xx.n x.w) ?_
              by_cases hq : xx.n = x.w
              · rw [show stepM M x = some (xput M ⟨xx.k, xx.w, x.n⟩) by simp [stepM, hf, hxx, hq]] at hs
                rw [decide_eq_true hq]
                have hmp : mPut (entX M) (.agg x.k.av) (.agg (Chg.av ⟨xx.k, xx.w, x.n⟩)) (xfind M x.k) = entX (xput M ⟨xx.k, xx.w, x.n⟩) := by rw [← hkk]; exact xmput M ⟨xx.k, xx.w, x.n⟩
                simp only [nx0, push_cast, ↓EPM, ↓reduceIte, seval, reduceCtorEq]
                refine mapUpdate_law (id := s0.next) (es := entX M) (key := .agg x.k.av) (val := .agg (Chg.av ⟨xx.k, xx.w, x.n⟩)) (xfind M x.k) u153 u39 rfl rfl rfl ?_ (ck_key x.k) (xMfind M x.k) (bits_key x.k) (xsame M x.k) ?_
                · (simp only [upd, AState.set, AState.new]; (repeat (first | rw [if_neg (by omega)] | rw [if_pos (by omega)] | (simp only [↓reduceIte]; done) | simp only [↓reduceIte])); try rfl)
                rw [hmp]
                simp only [hw, push_cast, ↓EPM, ↓reduceIte, seval, reduceCtorEq]
                refine round_next (j + 1, xput M ⟨xx.k, xx.w, x.n⟩) ⟨by simp only; omega, by have := xput_len M ⟨xx.k, xx.w, x.n⟩; simp only; omega, xput_nodup hnd _, hs⟩ (by simp only; omega) (AEnt_drop rfl rfl (Nat.le_succ _) ?_ ((hwf.base _).new (entX_bel _ _)) (EntB_all ?_))
                · refine ⟨by simp only [EO]; omega, fun id hid => ?_⟩
                  simp only [AState.set, AState.new] at hid ⊢
                  (repeat' split) <;> first | rfl | omega
                · simp only [push_cast, ↓EPM, ↓reduceIte, seval, reduceCtorEq]
                  (try first | omega | ((repeat' apply And.intro) <;> first | omega | (simp only [push_cast, ↓EPM, ↓reduceIte, seval, reduceCtorEq, List.mem_cons, List.not_mem_nil, or_false, forall_eq_or_imp, forall_eq, and_self, true_and, and_true, zeroR]; done) | (simp only [push_cast, ↓EPM, ↓reduceIte, seval, reduceCtorEq, List.mem_cons, List.not_mem_nil, or_false, forall_eq_or_imp, forall_eq, and_self, true_and, and_true, zeroR]; omega)))
              · rw [show stepM M x = none by simp [stepM, hf, hxx, hq]] at hs
                rw [decide_eq_false hq]
                rw [show r = none from hs]
                simp only [push_cast, ↓EPM, ↓reduceIte, seval, reduceCtorEq]
                exact RetMP [.v (.slice none 0 0), i64 11] [.sl 13 [] .none, i64 11]
          · have hc : ¬ ((j : Int) < (m.length : Int)) := by omega
            rw [show r = some M by rw [hs, List.drop_eq_nil_of_le (by omega)]; rfl]
            simp only [hc, push_cast, ↓EPM, ↓reduceIte, seval, reduceCtorEq]
            refine ACode_seq (ACode_of (C := ⟨[]⟩) ?_)
            simp only [push_cast, ↓EPM, ↓reduceIte, seval, reduceCtorEq]
            refine range_law (id := s0.next) (es := entX M) u153 rfl (by (simp only [upd, AState.set, AState.new]; (repeat (first | rw [if_neg (by omega)] | rw [if_pos (by omega)] | (simp only [↓reduceIte]; done) | simp only [↓reduceIte])); try rfl)) ?_
            rw [entX_len]
            simp only [push_cast, ↓EPM, ↓reduceIte, seval, reduceCtorEq]
            refine ALoop_inv (ι := List Nat) (fun is => is.Nodup ∧ ∀ i ∈ is, i < M.length) (fun is => envL [(4, .sl 13 (chA (outA M is)) (.row (s0.next + 2) (outA M is).length)), (67, .ptr (s0.next + 1) 0)]) (fun is => AState.new (AState.new (AState.new { s0 with base := ⟨s0.next, []⟩ } (.map (entX M))) (.iter s0.next M.length is)) (.row (outA M is).length)) (fun is => M.length - is.length) [] ⟨List.nodup_nil, fun _ h => by cases h⟩ (AEnt.trans (AEnt_reserve _ _) (ent rfl ?_)) (fun is hi => ?_)
            · rw [show outA M [] = [] from rfl]
              simp only [Wv_row, push_cast, ↓EPM, ↓reduceIte, seval, reduceCtorEq]
            · obtain ⟨hn, hlt⟩ := hi
              simp only [push_cast, ↓EPM, ↓reduceIte, seval, reduceCtorEq]
              refine next_law (id := s0.next + 1) (m := s0.next) (n := M.length) (seen := is) (es := entX M) rfl (by (simp only [upd, AState.set, AState.new]; (repeat (first | rw [if_neg (by omega)] | rw [if_pos (by omega)] | (simp only [↓reduceIte]; done) | simp only [↓reduceIte])); try rfl)) (by (simp only [upd, AState.set, AState.new]; (repeat (first | rw [if_neg (by omega)] | rw [if_pos (by omega)] | (simp only [↓reduceIte]; done) | simp only [↓reduceIte])); try rfl)) (entX_len M) (fun hall => ?_) (fun i q hq hni => ?_)
              · simp only [push_cast, ↓EPM, ↓reduceIte, seval, reduceCtorEq]
                have hp := outA_all hn hlt hall
                have hin : ∀ c ∈ outA M is, c ∈ M := fun c hc => (List.mem_filter.1 (hp.mem_iff.1 hc)).1
                have hol := outA_len M is
                have hle := nodup_le hn hlt
                refine ACode_seq (sort_code2 (sortsX (valX M) (fun _ => rfl)) (l := (outA M is).map (·.k)) (rid := s0.next + 2) (s' := { s0 with base := ⟨s0.next, []⟩, next := s0.next + 3 }) ?_ ?_ ?_ (by decide) (by decide) ?_ ?_ rfl rfl ?_)
                · rw [rowsX hnd hin, List.length_map]; simp only [push_cast, ↓EPM, ↓reduceIte, seval, reduceCtorEq]
                · rw [List.length_map]; (simp only [upd, AState.set, AState.new]; (repeat (first | rw [if_neg (by omega)] | rw [if_pos (by omega)] | (simp only [↓reduceIte]; done) | simp only [↓reduceIte])); try rfl)
                · show s0.next ≤ s0.next + 2; omega
                · rw [List.length_map]; omega
                · intro i o ho
                  have : s0.obj i = some o := ho
                  rw [ho0] at this; cases this
                · rw [rowsX_val, show (sortK ((outA M is).map (·.k))).map (valX M) = outM M by rw [outM, sortK_eq (hp.map _)]]
                  simp only [EK, ↓reduceIte]
                  refine ACode_of (C := ⟨[]⟩) ?_
                  simp only [Option.map_some, resQ, push_cast, ↓EPM, ↓reduceIte, seval, reduceCtorEq]
                  refine RetM_more (l := [.sl 13 (chA (outM M)) .none, i64 0]) (m := [.sl 13 (chA (outM M)) .none, i64 0]) (S := s0) (.inr rfl) rfl (by simp only [push_cast, ↓EPM, ↓reduceIte, seval, reduceCtorEq]) ⟨.inl rfl, .inl rfl, trivial⟩ (Nat.le_refl _) rfl (Nat.le_add_right _ _) (fun i o ho => by rw [ho0] at ho; cases ho) ?_ ⟨rfl, rfl⟩
                  simp only [packAV, push_cast, List.mem_cons, List.not_mem_nil, or_false, forall_eq_or_imp, forall_eq, and_self]
              · obtain ⟨p, hp, rfl⟩ := entX_get hq
                simp only [push_cast, ↓EPM, ↓reduceIte, seval, reduceCtorEq]
                refine entry_law (id := s0.next + 1) (m := s0.next) (n := M.length) (i := i) (seen := is) (es := entX M) rfl ?_ ?_ (entX_len M) hq ?_
                · (simp only [upd, AState.set, AState.new]; (repeat (first | rw [if_neg (by omega)] | rw [if_pos (by omega)] | (simp only [↓reduceIte]; done) | simp only [↓reduceIte])); try rfl)
                · (simp only [upd, AState.set, AState.new]; (repeat (first | rw [if_neg (by omega)] | rw [if_pos (by omega)] | (simp only [↓reduceIte]; done) | simp only [↓reduceIte])); try rfl)
                have hil : i < M.length := (List.getElem?_eq_some_iff.1 hp).1
                have hn2 : (is ++ [i]).Nodup := by
                  rw [List.nodup_append]; exact ⟨hn, by simp, by intro a ha b hb; simp at hb; subst hb; intro e; subst e; exact hni ha⟩
                have hlt2 : ∀ j ∈ is ++ [i], j < M.length := by
                  intro j hj
                  rcases List.mem_append.1 hj with hj | hj
                  · exact hlt j hj
                  · simp at hj; omega
                have hle2 := nodup_le hn2 hlt2
                have hol := outA_len M is
                have hsn := outA_snoc (is := is) hp
                simp only [List.length_append, List.length_cons, List.length_nil] at hle2
                simp only [nx0, push_cast, ↓EPM, ↓reduceIte, seval, reduceCtorEq]
                refine eqK_use (aeq_cell p.w p.n) ?_
                by_cases hq : p.w = p.n
                · rw [show moved p = false by simp [moved, hq]] at hsn
                  simp only [Bool.false_eq_true, if_false] at hsn
                  rw [decide_eq_true hq]
                  simp only [nx0, push_cast, ↓EPM, ↓reduceIte, seval, reduceCtorEq]
                  refine round_next (is ++ [i]) ⟨hn2, hlt2⟩ (by simp only [List.length_append, List.length_cons, List.length_nil]; omega) ?_
                  simp only [hsn]
                  refine AEnt_drop rfl rfl (by show s0.next ≤ s0.next + 3; omega) ⟨by show s0.next + 3 ≤ s0.next + 4; omega, fun id hid => ?_⟩ ((((hwf.base _).new (entX_bel _ _)).new (o := .iter s0.next M.length (is ++ [i])) (by show s0.next < s0.next + 2; omega)).new trivial) (EntB_all ?_)
                  · replace hid : id < s0.next + 3 := hid
                    simp only [AState.set, AState.new]
                    (repeat' split) <;> first | rfl | omega
                  · simp only [push_cast, ↓EPM, ↓reduceIte, seval, reduceCtorEq]
                    (try first | omega | ((repeat' apply And.intro) <;> first | omega | (simp only [push_cast, ↓EPM, ↓reduceIte, seval, reduceCtorEq, List.mem_cons, List.not_mem_nil, or_false, forall_eq_or_imp, forall_eq, and_self, true_and, and_true, zeroR]; done) | (simp only [push_cast, ↓EPM, ↓reduceIte, seval, reduceCtorEq, List.mem_cons, List.not_mem_nil, or_false, forall_eq_or_imp, forall_eq, and_self, true_and, and_true, zeroR]; omega)))
                · rw [show moved p = true by simp [moved, hq]] at hsn
                  simp only [if_true] at hsn
                  rw [decide_eq_false hq]
                  simp only [nx0, push_cast, ↓EPM, ↓reduceIte, seval, reduceCtorEq]
                  refine ⟨by omega, ?_⟩
                  refine round_next (is ++ [i]) ⟨hn2, hlt2⟩ (by simp only [List.length_append, List.length_cons, List.length_nil]; omega) ?_
                  simp only [hsn, List.length_append, List.length_cons, List.length_nil, chA_append, chA_cons, chA_nil]
                  refine AEnt_drop rfl rfl (by show s0.next ≤ s0.next + 3; omega) ⟨by show s0.next + 3 ≤ s0.next + 4; omega, fun id hid => ?_⟩ ((((hwf.base _).new (entX_bel _ _)).new (o := .iter s0.next M.length (is ++ [i])) (by show s0.next < s0.next + 2; omega)).new trivial) (EntB_all ?_)
                  · replace hid : id < s0.next + 3 := hid
                    simp only [AState.set, AState.new]
                    (repeat' split) <;> first | rfl | omega
                  · simp only [push_cast, ↓EPM, ↓reduceIte, seval, reduceCtorEq]
                    (try first | omega | ((repeat' apply And.intro) <;> first | omega | (simp only [push_cast, ↓EPM, ↓reduceIte, seval, reduceCtorEq, List.mem_cons, List.not_mem_nil, or_false, forall_eq_or_imp, forall_eq, and_self, true_and, and_true, zeroR]; done) | (simp only [push_cast, ↓EPM, ↓reduceIte, seval, reduceCtorEq, List.mem_cons, List.not_mem_nil, or_false, forall_eq_or_imp, forall_eq, and_self, true_and, and_true, zeroR]; omega)))
  · obtain ⟨rfl, rfl⟩ := h
    refine AState.ext' (fun i => ?_) rfl rfl
    simp only [AState.join, AState.keep, Bool.and_true, Bool.not_false, decide_eq_true_eq, Bool.false_eq_true, if_false]
    split
    · rfl
    · rename_i h1
      cases e : s.obj i with
      | none => rfl
      | some o => exact absurd (hwf0 i o e).1 h1

end Go.Proofs

namespace Go.Proofs
open Go Go.Av Go.Sort
set_option linter.unusedSimpArgs false
set_option linter.unusedVariables false
set_option maxRecDepth 30000
set_option maxHeartbeats 4000000

def stepA (m : List Chg) (c : Chg) : Option Chg :=
  match findC m c.k with
  | some x => if x.w = c.n then some ⟨c.k, c.w, x.n⟩ else none
  | none => some c
def refA (m : List Chg) : List Chg → List Chg → Option (List Chg)
  | out, [] => some out
  | out, c :: l => (stepA m c).bind fun d => refA m (if d.w = d.n then out else putX out d) l
def refB (l : List Chg) : List Chg → List Chg → List Chg
  | out, [] => out
  | out, c :: m => refB l (if (findC l c.k).isSome then out else putX out c) m
def refJ (l m : List Chg) : Option (List Chg) := (refA m [] l).map fun o => refB l o m
theorem putC_len (pre rest : List Chg) (x : Chg) : (putC pre rest x).length ≤ pre.length + rest.length + 1 := by
  cases rest with
  | nil => simp [putC]
  | cons y t =>
    simp only [putC]
    split
    · simp only [List.length_append, List.length_cons]; omega
    · simp only [List.length_append, List.length_cons]; omega
theorem putX_len (l : List Chg) (x : Chg) : (putX l x).length ≤ l.length + 1 := by
  have h := putC_len (l.takeWhile fun r => decide (cmpK r.k x.k < 0)) (l.dropWhile fun r => decide (cmpK r.k x.k < 0)) x
  rw [← List.length_append, List.takeWhile_append_dropWhile] at h
  exact h

theorem rjoin_spec (l m : List Chg) (hl : l.length ≤ 1000) (hm : m.length ≤ 1000) : APure Try.prog 21 [.sl 13 (chA l) .none, .sl 13 (chA m) .none] (resJ l m (refJ l m)) := by
  intro s
  have hRl := drright_spec l (by omega)
  have hRm := drright_spec m (by omega)
  cases h1 : rightC none l with
  | false =>
    rw [h1] at hRl
    rw [show resJ l m (refJ l m) = .tup [.sl 13 [] .none, i64 4] by simp [resJ, h1]]
    refine enterA ⟨[]⟩ (Try.f21.body.getD .skip) [.tmp 4, .tmp 5] Try.func21 fun hwf hbel => ?_; simp only [Try.f21, push_cast, ↓EPM, ↓reduceIte, seval, reduceCtorEq]
    refine hRl.use ?_
    simp only [push_cast, ↓EPM, ↓reduceIte, seval, reduceCtorEq]
    exact RetW [.v (.slice none 0 0), i64 4] [.sl 13 [] .none, i64 4]
  | true =>
  cases h2 : rightC none m with
  | false =>
    rw [h1] at hRl
    rw [h2] at hRm
    rw [show resJ l m (refJ l m) = .tup [.sl 13 [] .none, i64 4] by simp [resJ, h2]]
    refine enterA ⟨[]⟩ (Try.f21.body.getD .skip) [.tmp 4, .tmp 5] Try.func21 fun hwf hbel => ?_; simp only [Try.f21, push_cast, ↓EPM, ↓reduceIte, seval, reduceCtorEq]
    refine hRl.use ?_
    simp only [push_cast, ↓EPM, ↓reduceIte, seval, reduceCtorEq]
    refine hRm.use ?_
    simp only [push_cast, ↓EPM, ↓reduceIte, seval, reduceCtorEq]
    exact RetW [.v (.slice none 0 0), i64 4] [.sl 13 [] .none, i64 4]
  | true =>
  rw [h1] at hRl
  rw [h2] at hRm
  rw [show resJ l m (refJ l m) = resQ (refJ l m) by simp [resJ, h1, h2]]
  generalize hr : refA m [] l = r
  rw [show refJ l m = r.map fun o => refB l o m by rw [refJ, hr]]
  refine enterA ⟨[]⟩ (Try.f21.body.getD .skip) [.tmp 4, .tmp 5] Try.func21 fun hwf hbel => ?_; simp only [Try.f21, push_cast, ↓EPM, ↓reduceIte, seval, reduceCtorEq]
  refine hRl.use ?_
  simp only [push_cast, ↓EPM, ↓reduceIte, seval, reduceCtorEq]
  refine hRm.use ?_
  simp only [push_cast, ↓EPM, ↓reduceIte, seval, reduceCtorEq]
  refine ALoop_inv (ι := Nat × List Chg) (fun i => i.1 ≤ l.length ∧ i.2.length ≤ i.1 ∧ r = refA m i.2 (l.drop i.1)) (fun i => envL [(0, .sl 13 (chA l) .none), (1, .sl 13 (chA m) .none), (6, .sl 13 (chA i.2) .none), (7, i64 i.1)]) (fun _ => { s with base := ⟨s.next, []⟩ }) (fun i => l.length - i.1) (0, []) ⟨Nat.zero_le _, Nat.le_refl _, by rw [← hr]; rfl⟩ (ent rfl ?_) (fun i hi => ?_)
  · simp only [push_cast, ↓EPM, ↓reduceIte, seval, reduceCtorEq]
  · obtain ⟨i, out⟩ := i
    obtain ⟨hi, hol, hs⟩ := hi
    simp only at hi hol hs
    by_cases hlt : i < l.length
    · obtain ⟨x, hx⟩ : ∃ x, l[i]? = some x := ⟨_, List.getElem?_eq_getElem hlt⟩
      have gx := chA_get hx
      have hc : ((i : Int) < (l.length : Int)) := by omega
      have h0 : (0 : Int) ≤ (i : Int) := by omega
      have hw : IntKind.i64.wrap ((i : Int) + 1) = (i : Int) + 1 := wrap_in (by omega) (by omega)
      have hf := find_spec m x.k (by omega)
      have pl := fun d => putX_len out d
      rw [drop_get hx, refA] at hs
      have fin : ∀ d : Chg, stepA m x = some d → r = refA m (if d.w = d.n then out else putX out d) (l.drop (i + 1)) := fun d hd => by rw [hs, hd]; rfl
      simp only [hc, h0, gx, push_cast, ↓EPM, ↓reduceIte, seval, reduceCtorEq]
      refine hf.use ?_
      cases hq : findC m x.k with
      | none =>
        replace fin := fin x (by simp [stepA, hq])
        simp only [nx0, resX, Option.isSome_none, Option.getD_none, push_cast, ↓EPM, ↓reduceIte, seval, reduceCtorEq]
        refine eqK_use (aeq_cell x.w x.n) ?_
        by_cases he : x.w = x.n
        · rw [if_pos he] at fin
          rw [decide_eq_true he]
          simp only [nx0, hw, push_cast, ↓EPM, ↓reduceIte, seval, reduceCtorEq]
          refine round_next (i + 1, out) ⟨by simp only; omega, by simp only; omega, fin⟩ (by simp only; omega) (AEnt_drop rfl rfl (Nat.le_refl _) ⟨by simp only [EO]; omega, fun id hid => ?_⟩ (hwf.base _) (EntB_all ?_))
          · simp only [AState.set, AState.new] at hid ⊢
            (repeat' split) <;> first | rfl | omega
          · simp only [push_cast, ↓EPM, ↓reduceIte, seval, reduceCtorEq]
            (try first | omega | ((repeat' apply And.intro) <;> first | omega | (simp only [push_cast, ↓EPM, ↓reduceIte, seval, reduceCtorEq, List.mem_cons, List.not_mem_nil, or_false, forall_eq_or_imp, forall_eq, and_self, true_and, and_true, zeroR]; done) | (simp only [push_cast, ↓EPM, ↓reduceIte, seval, reduceCtorEq, List.mem_cons, List.not_mem_nil, or_false, forall_eq_or_imp, forall_eq, and_self, true_and, and_true, zeroR]; omega)))
        · rw [if_neg he] at fin
          rw [decide_eq_false he]
          simp only [nx0, push_cast, ↓EPM, ↓reduceIte, seval, reduceCtorEq]
          refine (putX_spec out x (by omega)).use ?_
          simp only [nx0, hw, push_cast, ↓EPM, ↓reduceIte, seval, reduceCtorEq]
          refine round_next (i + 1, putX out x) ⟨by simp only; omega, by have := pl x; simp only; omega, fin⟩ (by simp only; omega) (AEnt_drop rfl rfl (Nat.le_refl _) ⟨by simp only [EO]; omega, fun id hid => ?_⟩ (hwf.base _) (EntB_all ?_))
          · simp only [AState.set, AState.new] at hid ⊢
            (repeat' split) <;> first | rfl | omega
          · simp only [push_cast, ↓EPM, ↓reduceIte, seval, reduceCtorEq]
            (try first | omega | ((repeat' apply And.intro) <;> first | omega | (simp only [push_cast, ↓EPM, ↓reduceIte, seval, reduceCtorEq, List.mem_cons, List.not_mem_nil, or_false, forall_eq_or_imp, forall_eq, and_self, true_and, and_true, zeroR]; done) | (simp only [push_cast, ↓EPM, ↓reduceIte, seval, reduceCtorEq, List.mem_cons, List.not_mem_nil, or_false, forall_eq_or_imp, forall_eq, and_self, true_and, and_true, zeroR]; omega)))
      | some y =>
        simp only [nx0, resX, Option.isSome_some, Option.getD_some, push_cast, ↓EPM, ↓reduceIte, seval, reduceCtorEq]
        refine eqK_use (aeq_cell y.w x.n) ?_
        by_cases hy : y.w = x.n
        · replace fin := fin ⟨x.k, x.w, y.n⟩ (by simp [stepA, hq, hy])
          simp only at fin
          rw [decide_eq_true hy]
          simp only [nx0, push_cast, ↓EPM, ↓reduceIte, seval, reduceCtorEq]
          refine eqK_use (aeq_cell x.w y.n) ?_
          by_cases he : x.w = y.n
          · rw [if_pos he] at fin
            rw [decide_eq_true he]
            simp only [nx0, hw, push_cast, ↓EPM, ↓reduceIte, seval, reduceCtorEq]
            refine round_next (i + 1, out) ⟨by simp only; omega, by simp only; omega, fin⟩ (by simp only; omega) (AEnt_drop rfl rfl (Nat.le_refl _) ⟨by simp only [EO]; omega, fun id hid => ?_⟩ (hwf.base _) (EntB_all ?_))
            · simp only [AState.set, AState.new] at hid ⊢
              (repeat' split) <;> first | rfl | omega
            · simp only [push_cast, ↓EPM, ↓reduceIte, seval, reduceCtorEq]
              (try first | omega | ((repeat' apply And.intro) <;> first | omega | (simp only [push_cast, ↓EPM, ↓reduceIte, seval, reduceCtorEq, List.mem_cons, List.not_mem_nil, or_false, forall_eq_or_imp, forall_eq, and_self, true_and, and_true, zeroR]; done) | (simp only [push_cast, ↓EPM, ↓reduceIte, seval, reduceCtorEq, List.mem_cons, List.not_mem_nil, or_false, forall_eq_or_imp, forall_eq, and_self, true_and, and_true, zeroR]; omega)))
          · rw [if_neg he] at fin
            rw [decide_eq_false he]
            simp only [nx0, push_cast, ↓EPM, ↓reduceIte, seval, reduceCtorEq]
            refine (putX_spec out ⟨x.k, x.w, y.n⟩ (by omega)).use ?_
            simp only [nx0, hw, push_cast, ↓EPM, ↓reduceIte, seval, reduceCtorEq]
            refine round_next (i + 1, putX out ⟨x.k, x.w, y.n⟩) ⟨by simp only; omega, by have := pl ⟨x.k, x.w, y.n⟩; simp only; omega, fin⟩ (by simp only; omega) (AEnt_drop rfl rfl (Nat.le_refl _) ⟨by simp only [EO]; omega, fun id hid => ?_⟩ (hwf.base _) (EntB_all ?_))
            · simp only [AState.set, AState.new] at hid ⊢
              (repeat' split) <;> first | rfl | omega
            · simp only [push_cast, ↓EPM, ↓reduceIte, seval, reduceCtorEq]
              (try first | omega | ((repeat' apply And.intro) <;> first | omega | (simp only [push_cast, ↓EPM, ↓reduceIte, seval, reduceCtorEq, List.mem_cons, List.not_mem_nil, or_false, forall_eq_or_imp, forall_eq, and_self, true_and, and_true, zeroR]; done) | (simp only [push_cast, ↓EPM, ↓reduceIte, seval, reduceCtorEq, List.mem_cons, List.not_mem_nil, or_false, forall_eq_or_imp, forall_eq, and_self, true_and, and_true, zeroR]; omega)))
        · rw [show r = none by rw [hs]; simp [stepA, hq, hy]]
          rw [decide_eq_false hy]
          simp only [nx0, push_cast, ↓EPM, ↓reduceIte, seval, reduceCtorEq]
          exact RetW [.v (.slice none 0 0), i64 11] [.sl 13 [] .none, i64 11]
    · have hc : ¬ ((i : Int) < (l.length : Int)) := by omega
      rw [show r = some out by rw [hs, List.drop_eq_nil_of_le (by omega)]; rfl]
      simp only [Option.map_some]
      generalize hr2 : refB l out m = r2
      simp only [hc, push_cast, ↓EPM, ↓reduceIte, seval, reduceCtorEq]
      refine ALoop_inv (ι := Nat × List Chg) (fun j => j.1 ≤ m.length ∧ j.2.length ≤ l.length + j.1 ∧ r2 = refB l j.2 (m.drop j.1)) (fun j => envL [(0, .sl 13 (chA l) .none), (1, .sl 13 (chA m) .none), (6, .sl 13 (chA j.2) .none), (11, i64 j.1)]) (fun _ => { s with base := ⟨s.next, []⟩ }) (fun j => m.length - j.1) (0, out) ⟨Nat.zero_le _, by simp only; omega, by rw [← hr2]; rfl⟩ (ent rfl ?_) (fun j hj => ?_)
      · simp only [push_cast, ↓EPM, ↓reduceIte, seval, reduceCtorEq]
      · obtain ⟨j, out⟩ := j
        obtain ⟨hj, hol, hs⟩ := hj
        simp only at hj hol hs
        by_cases hjl : j < m.length
        · obtain ⟨x, hx⟩ : ∃ x, m[j]? = some x := ⟨_, List.getElem?_eq_getElem hjl⟩
          have gx := chA_get hx
          have hc : ((j : Int) < (m.length : Int)) := by omega
          have h0 : (0 : Int) ≤ (j : Int) := by omega
          have hw : IntKind.i64.wrap ((j : Int) + 1) = (j : Int) + 1 := wrap_in (by omega) (by omega)
          have hf := find_spec l x.k (by omega)
          have pl := putX_len out x
          rw [drop_get hx, refB] at hs
          simp only [hc, h0, gx, push_cast, ↓EPM, ↓reduceIte, seval, reduceCtorEq]
          refine hf.use ?_
          cases hq : findC l x.k with
          | none =>
            rw [hq] at hs
            simp only [Option.isSome_none, Bool.false_eq_true, if_false] at hs
            simp only [nx0, resX, Option.isSome_none, Option.getD_none, Bool.not_false, push_cast, ↓EPM, ↓reduceIte, seval, reduceCtorEq]
            simp only [hc, h0, gx, push_cast, ↓EPM, ↓reduceIte, seval, reduceCtorEq]
            refine (putX_spec out x (by omega)).use ?_
            simp only [nx0, hw, push_cast, ↓EPM, ↓reduceIte, seval, reduceCtorEq]
            refine round_next (j + 1, putX out x) ⟨by simp only; omega, by simp only; omega, hs⟩ (by simp only; omega) (AEnt_drop rfl rfl (Nat.le_refl _) ⟨by simp only [EO]; omega, fun id hid => ?_⟩ (hwf.base _) (EntB_all ?_))
            · simp only [AState.set, AState.new] at hid ⊢
              (repeat' split) <;> first | rfl | omega
            · simp only [push_cast, ↓EPM, ↓reduceIte, seval, reduceCtorEq]
              (try first | omega | ((repeat' apply And.intro) <;> first | omega | (simp only [push_cast, ↓EPM, ↓reduceIte, seval, reduceCtorEq, List.mem_cons, List.not_mem_nil, or_false, forall_eq_or_imp, forall_eq, and_self, true_and, and_true, zeroR]; done) | (simp only [push_cast, ↓EPM, ↓reduceIte, seval, reduceCtorEq, List.mem_cons, List.not_mem_nil, or_false, forall_eq_or_imp, forall_eq, and_self, true_and, and_true, zeroR]; omega)))
          | some y =>
            rw [hq] at hs
            simp only [Option.isSome_some, if_true] at hs
            simp only [nx0, resX, Option.isSome_some, Option.getD_some, Bool.not_true, hw, push_cast, ↓EPM, ↓reduceIte, seval, reduceCtorEq]
            refine round_next (j + 1, out) ⟨by simp only; omega, by simp only; omega, hs⟩ (by simp only; omega) (AEnt_drop rfl rfl (Nat.le_refl _) ⟨by simp only [EO]; omega, fun id hid => ?_⟩ (hwf.base _) (EntB_all ?_))
            · simp only [AState.set, AState.new] at hid ⊢
              (repeat' split) <;> first | rfl | omega
            · simp only [push_cast, ↓EPM, ↓reduceIte, seval, reduceCtorEq]
              (try first | omega | ((repeat' apply And.intro) <;> first | omega | (simp only [push_cast, ↓EPM, ↓reduceIte, seval, reduceCtorEq, List.mem_cons, List.not_mem_nil, or_false, forall_eq_or_imp, forall_eq, and_self, true_and, and_true, zeroR]; done) | (simp only [push_cast, ↓EPM, ↓reduceIte, seval, reduceCtorEq, List.mem_cons, List.not_mem_nil, or_false, forall_eq_or_imp, forall_eq, and_self, true_and, and_true, zeroR]; omega)))
        · have hc : ¬ ((j : Int) < (m.length : Int)) := by omega
          rw [show r2 = out by rw [hs, List.drop_eq_nil_of_le (by omega)]; rfl]
          simp only [hc, push_cast, ↓EPM, ↓reduceIte, seval, reduceCtorEq]
          simp only [resQ]
          exact RetP [.sl 13 (chA out) .none, i64 0]

end Go.Proofs

namespace Go.Proofs
open Go Go.Av Go.Sort
set_option linter.unusedSimpArgs false
set_option linter.unusedVariables false

/-! Plain: what the program joins is what the document says -/
def SrtC (l : List Chg) : Prop := l.Pairwise fun a b => cmpK a.k b.k < 0
theorem cmp_asym' {x y : Key} (h : cmpK x y < 0) : ¬ cmpK y x < 0 := by have := (good_key.anti x y).1 h; omega
theorem SrtC.nodup {l : List Chg} (h : SrtC l) : (l.map (·.k)).Nodup := by
  have h' : l.Pairwise fun a b => cmpK a.k b.k < 0 := h
  rw [List.nodup_iff_pairwise_ne, List.pairwise_map]
  refine h'.imp fun {a b} h (e : a.k = b.k) => ?_
  rw [e] at h
  exact cmp_irr' b.k h
def rltC (a b : Chg) : Prop := cmpK a.k b.k < 0
theorem rltC_asym (a b : Chg) (h1 : rltC a b) (h2 : rltC b a) : a = b := absurd h2 (cmp_asym' (x := a.k) (y := b.k) h1)
theorem rltC_ne (a b : Chg) (h : rltC a b) : a ≠ b := by
  intro e
  subst e
  exact cmp_irr' _ h
theorem srtC_nodup {l : List Chg} (h : l.Pairwise rltC) : l.Nodup := h.imp (fun {a b} h => rltC_ne a b h)
theorem SrtC.ext {l m : List Chg} (hl : SrtC l) (hm : SrtC m) (h : ∀ r, r ∈ l ↔ r ∈ m) : l = m := by
  have hp : l.Perm m := (List.perm_ext_iff_of_nodup (srtC_nodup hl) (srtC_nodup hm)).2 h
  exact List.Perm.eq_of_pairwise (fun a b _ _ h1 h2 => rltC_asym a b h1 h2) (show l.Pairwise rltC from hl) (show m.Pairwise rltC from hm) hp

theorem findC_cons (c : Chg) (l : List Chg) (k : Key) : findC (c :: l) k = if c.k = k then some c else findC l k := by
  simp only [findC, List.find?_cons]
  by_cases h : c.k = k <;> simp [h]
theorem findC_some {l : List Chg} {k : Key} {c : Chg} (h : findC l k = some c) : c ∈ l ∧ c.k = k :=
  ⟨List.mem_of_find?_eq_some h, by simpa using List.find?_some h⟩
theorem findC_none {l : List Chg} {k : Key} : findC l k = none ↔ ∀ c ∈ l, ¬ c.k = k := by
  simp [findC, List.find?_eq_none]
theorem findC_mem : ∀ {l : List Chg}, (l.map (·.k)).Nodup → ∀ {c : Chg}, c ∈ l → findC l c.k = some c
  | [], _, c, hc => by cases hc
  | a :: l, h, c, hc => by
    rw [List.map_cons, List.nodup_cons] at h
    rw [findC_cons]
    rcases List.mem_cons.1 hc with rfl | hc
    · rw [if_pos rfl]
    · have : ¬ a.k = c.k := fun e => h.1 (by rw [e]; exact List.mem_map.2 ⟨c, hc, rfl⟩)
      rw [if_neg this, findC_mem h.2 hc]
theorem findC_app (l m : List Chg) (k : Key) : findC (l ++ m) k = (findC l k).or (findC m k) := by simp [findC, List.find?_append]
theorem findC_x {M : List Chg} {k : Key} {i : Nat} (h : xfind M k = some i) : findC M k = some (xget M k) := by
  obtain ⟨c, h1, h2, h3⟩ := xfind_some h
  have e : xget M k = c := by simp [xget, h, h1]
  rw [e, findC, List.find?_eq_some_iff_getElem]
  obtain ⟨hi, hc⟩ := List.getElem?_eq_some_iff.1 h1
  refine ⟨by simpa using h2, i, hi, hc, fun j hj => ?_⟩
  have := h3 j _ hj (List.getElem?_eq_getElem (by omega))
  simpa using this
theorem findC_xn {M : List Chg} {k : Key} (h : xfind M k = none) : findC M k = none := findC_none.2 fun c hc => xfind_none h c hc
theorem findC_put {M : List Chg} (hn : (M.map (·.k)).Nodup) (d : Chg) (k : Key) : findC (xput M d) k = if d.k = k then some d else findC M k := by
  cases hf : xfind M d.k with
  | none =>
    have e : xput M d = M ++ [d] := by simp [xput, hf]
    rw [e, findC_app]
    by_cases hk : d.k = k
    · rw [if_pos hk, ← hk, findC_xn hf]
      simp [findC_cons]
    · rw [if_neg hk]
      simp [findC_cons, hk, findC]
  | some i =>
    have e : xput M d = M.set i d := by simp [xput, hf]
    have hn2 := xput_nodup hn d
    rw [e] at hn2 ⊢
    obtain ⟨c, h1, h2, _⟩ := xfind_some hf
    obtain ⟨hi, hc⟩ := List.getElem?_eq_some_iff.1 h1
    by_cases hk : d.k = k
    · rw [if_pos hk, ← hk]
      exact findC_mem hn2 (List.mem_set hi d)
    · rw [if_neg hk]
      cases hq : findC M k with
      | none =>
        rw [findC_none] at hq ⊢
        intro x hx
        rcases List.mem_or_eq_of_mem_set hx with h | rfl
        · exact hq x h
        · exact hk
      | some x =>
        obtain ⟨hx, rfl⟩ := findC_some hq
        refine findC_mem hn2 ?_
        obtain ⟨j, hj, hxj⟩ := List.getElem_of_mem hx
        have hij : i ≠ j := by
          rintro rfl
          rw [hc] at hxj
          exact hk (by rw [← hxj, h2])
        rw [← hxj]
        refine List.mem_iff_getElem.2 ⟨j, by simpa using hj, ?_⟩
        rw [List.getElem_set_ne hij]

def joined : Option Chg → Option Chg → Option Chg
  | none, o => o
  | some x, none => some x
  | some x, some c => some ⟨x.k, x.w, c.n⟩

theorem allM_spec : ∀ (m : List Chg), (m.map (·.k)).Nodup → ∀ M : List Chg, (M.map (·.k)).Nodup →
    (∃ M', allM M m = some M' ∧ (∀ c ∈ m, ∀ x, findC M c.k = some x → x.n = c.w) ∧ (M'.map (·.k)).Nodup ∧ ∀ k, findC M' k = joined (findC M k) (findC m k)) ∨
    (allM M m = none ∧ ∃ c ∈ m, ∃ x, findC M c.k = some x ∧ ¬ x.n = c.w)
  | [], _, M, hM => .inl ⟨M, rfl, fun c hc => (by cases hc), hM, fun k => by cases findC M k <;> rfl⟩
  | c :: m, hm, M, hM => by
    rw [List.map_cons, List.nodup_cons] at hm
    have hne : ∀ d ∈ m, ¬ c.k = d.k := fun d hd e => hm.1 (by rw [e]; exact List.mem_map.2 ⟨d, hd, rfl⟩)
    have hmn : findC m c.k = none := findC_none.2 fun d hd e => hne d hd e.symm
    have go : ∀ d : Chg, d.k = c.k → joined (findC M c.k) (some c) = some d → stepM M c = some (xput M d) → (∀ x, findC M c.k = some x → x.n = c.w) →
        (∃ M', allM M (c :: m) = some M' ∧ (∀ e ∈ c :: m, ∀ x, findC M e.k = some x → x.n = e.w) ∧ (M'.map (·.k)).Nodup ∧ ∀ k, findC M' k = joined (findC M k) (findC (c :: m) k)) ∨
        (allM M (c :: m) = none ∧ ∃ e ∈ c :: m, ∃ x, findC M e.k = some x ∧ ¬ x.n = e.w) := by
      intro d hd hj hst hc
      have hold : ∀ e ∈ m, findC (xput M d) e.k = findC M e.k := fun e he => by rw [findC_put hM, if_neg (by rw [hd]; exact hne e he)]
      rcases allM_spec m hm.2 (xput M d) (xput_nodup hM d) with ⟨M', h1, h2, h3, h4⟩ | ⟨h1, e, he, x, hx, hxn⟩
      · refine .inl ⟨M', by rw [allM, hst]; exact h1, fun e he x hx => ?_, h3, fun k => ?_⟩
        · rcases List.mem_cons.1 he with rfl | he
          · exact hc x hx
          · exact h2 e he x (by rw [hold e he]; exact hx)
        · rw [h4 k, findC_put hM, findC_cons]
          by_cases hk : c.k = k
          · rw [if_pos (by rw [hd]; exact hk), if_pos hk, ← hk, hmn, hj]
            rfl
          · rw [if_neg (by rw [hd]; exact hk), if_neg hk]
      · refine .inr ⟨by rw [allM, hst]; exact h1, e, by simp [he], x, by rw [← hold e he]; exact hx, hxn⟩
    cases hf : xfind M c.k with
    | none =>
      have h0 := findC_xn hf
      exact go c rfl (by rw [h0]; rfl) (by simp [stepM, hf]) (fun x hx => by rw [h0] at hx; cases hx)
    | some i =>
      have h0 := findC_x hf
      by_cases hq : (xget M c.k).n = c.w
      · exact go ⟨(xget M c.k).k, (xget M c.k).w, c.n⟩ (xget_key hf) (by rw [h0]; rfl) (by simp [stepM, hf, hq]) (fun x hx => by rw [h0] at hx; cases hx; exact hq)
      · exact .inr ⟨by rw [allM]; simp [stepM, hf, hq], c, by simp, _, h0, hq⟩

/-! Putting in order -/
theorem putX_law {out : List Chg} (hs : SrtC out) {x : Chg} (hx : ∀ c ∈ out, ¬ c.k = x.k) : SrtC (putX out x) ∧ ∀ d, d ∈ putX out x ↔ d ∈ out ∨ d = x := by
  obtain ⟨pre, hpre⟩ : ∃ p, p = out.takeWhile fun r => decide (cmpK r.k x.k < 0) := ⟨_, rfl⟩
  obtain ⟨rest, hrest⟩ : ∃ p, p = out.dropWhile fun r => decide (cmpK r.k x.k < 0) := ⟨_, rfl⟩
  have happ : pre ++ rest = out := by rw [hpre, hrest]; exact List.takeWhile_append_dropWhile
  have h1 : ∀ r ∈ pre, cmpK r.k x.k < 0 := fun r hr => by rw [hpre] at hr; simpa using mem_takeWhile hr
  have h2 : ∀ y t, rest = y :: t → ¬ cmpK y.k x.k < 0 := fun y t e => by rw [hrest] at e; simpa using head_dropWhile e
  have hput : putX out x = pre ++ x :: rest := by
    rw [putX, ← hpre, ← hrest]
    cases rest with
    | nil => rfl
    | cons y t =>
      have hy : ¬ y.k = x.k := hx y (by rw [← happ]; simp)
      simp [putC, hy]
  rw [hput]
  rw [← happ] at hs hx
  unfold SrtC at hs ⊢
  rw [List.pairwise_append] at hs ⊢
  obtain ⟨s1, s2, s3⟩ := hs
  have h3 : ∀ r ∈ rest, cmpK x.k r.k < 0 := by
    cases rest with
    | nil => intro r hr; cases hr
    | cons y t =>
      have hy : ¬ y.k = x.k := hx y (by simp)
      have h0 := h2 y t rfl
      have h4 : cmpK y.k x.k ≠ 0 := fun e => hy ((good_key.zero _ _).1 e)
      have h5 := good_key.anti x.k y.k
      have h6 : cmpK x.k y.k < 0 := h5.2 (by omega)
      intro r hr
      rcases List.mem_cons.1 hr with rfl | hr
      · exact h6
      · exact good_key.trans _ _ _ h6 ((List.pairwise_cons.1 s2).1 r hr)
  refine ⟨⟨s1, List.pairwise_cons.2 ⟨h3, s2⟩, fun a ha b hb => ?_⟩, fun d => ?_⟩
  · rcases List.mem_cons.1 hb with rfl | hb
    · exact h1 a ha
    · exact s3 a ha b hb
  · rw [← happ]
    simp only [List.mem_append, List.mem_cons]
    constructor
    · rintro (h | h | h)
      · exact .inl (.inl h)
      · exact .inr h
      · exact .inl (.inr h)
    · rintro ((h | h) | h)
      · exact .inl h
      · exact .inr (.inr h)
      · exact .inr (.inl h)

theorem stepA_key {m : List Chg} {c d : Chg} (h : stepA m c = some d) : d.k = c.k := by
  unfold stepA at h
  split at h
  · split at h
    · cases h; rfl
    · cases h
  · cases h; rfl

theorem refA_spec (m : List Chg) : ∀ (l out : List Chg), (l.map (·.k)).Nodup → SrtC out → (∀ c ∈ l, ∀ d ∈ out, ¬ d.k = c.k) →
    (∃ o, refA m out l = some o ∧ (∀ c ∈ l, ∀ x, findC m c.k = some x → x.w = c.n) ∧ SrtC o ∧ ∀ d, d ∈ o ↔ d ∈ out ∨ (∃ c ∈ l, stepA m c = some d ∧ ¬ d.w = d.n)) ∨
    (refA m out l = none ∧ ∃ c ∈ l, ∃ x, findC m c.k = some x ∧ ¬ x.w = c.n)
  | [], out, _, ho, _ => .inl ⟨out, rfl, fun c hc => (by cases hc), ho, fun d => by simp⟩
  | c :: l, out, hl, ho, hd => by
    rw [List.map_cons, List.nodup_cons] at hl
    have hne : ∀ d ∈ l, ¬ c.k = d.k := fun d hd e => hl.1 (by rw [e]; exact List.mem_map.2 ⟨d, hd, rfl⟩)
    cases hst : stepA m c with
    | none =>
      have : ∃ x, findC m c.k = some x ∧ ¬ x.w = c.n := by
        unfold stepA at hst
        split at hst
        · rename_i x hx
          split at hst
          · cases hst
          · rename_i h
            exact ⟨x, hx, h⟩
        · cases hst
      obtain ⟨x, h1, h2⟩ := this
      exact .inr ⟨by rw [refA, hst]; rfl, c, by simp, x, h1, h2⟩
    | some d =>
      have hdk := stepA_key hst
      have hc : ∀ x, findC m c.k = some x → x.w = c.n := fun x hx => by
        unfold stepA at hst
        rw [hx] at hst
        simp only at hst
        split at hst
        · rename_i h; exact h
        · cases hst
      have hput := putX_law ho (x := d) (fun e he => by rw [hdk]; exact hd c (by simp) e he)
      obtain ⟨out', hout⟩ : ∃ o, o = if d.w = d.n then out else putX out d := ⟨_, rfl⟩
      have hs' : SrtC out' := by rw [hout]; split; exact ho; exact hput.1
      have hm' : ∀ e, e ∈ out' ↔ e ∈ out ∨ (e = d ∧ ¬ d.w = d.n) := fun e => by
        rw [hout]
        split
        · rename_i h; simp [h]
        · rename_i h
          rw [hput.2]
          simp [h]
      have hd' : ∀ e ∈ l, ∀ f ∈ out', ¬ f.k = e.k := fun e he f hf => by
        rcases (hm' f).1 hf with h | ⟨rfl, _⟩
        · exact hd e (by simp [he]) f h
        · rw [hdk]; exact hne e he
      have hstep : refA m out (c :: l) = refA m out' l := by rw [refA, hst, hout]; rfl
      rcases refA_spec m l out' hl.2 hs' hd' with ⟨o, h1, h2, h3, h4⟩ | ⟨h1, e, he, x, hx, hxn⟩
      · refine .inl ⟨o, by rw [hstep]; exact h1, fun e he x hx => ?_, h3, fun e => ?_⟩
        · rcases List.mem_cons.1 he with rfl | he
          · exact hc x hx
          · exact h2 e he x hx
        · rw [h4 e, hm' e]
          constructor
          · rintro ((h | ⟨rfl, h⟩) | ⟨f, hf, h5, h6⟩)
            · exact .inl h
            · exact .inr ⟨c, by simp, hst, h⟩
            · exact .inr ⟨f, by simp [hf], h5, h6⟩
          · rintro (h | ⟨f, hf, h5, h6⟩)
            · exact .inl (.inl h)
            · rcases List.mem_cons.1 hf with rfl | hf
              · rw [hst] at h5; cases h5
                exact .inl (.inr ⟨rfl, h6⟩)
              · exact .inr ⟨f, hf, h5, h6⟩
      · exact .inr ⟨by rw [hstep]; exact h1, e, by simp [he], x, hx, hxn⟩

theorem refB_spec (l : List Chg) : ∀ (m out : List Chg), (m.map (·.k)).Nodup → SrtC out → (∀ c ∈ m, findC l c.k = none → ∀ d ∈ out, ¬ d.k = c.k) →
    SrtC (refB l out m) ∧ ∀ d, d ∈ refB l out m ↔ d ∈ out ∨ (d ∈ m ∧ findC l d.k = none)
  | [], out, _, ho, _ => ⟨ho, fun d => by simp [refB]⟩
  | c :: m, out, hm, ho, hd => by
    rw [List.map_cons, List.nodup_cons] at hm
    have hne : ∀ d ∈ m, ¬ c.k = d.k := fun d hd e => hm.1 (by rw [e]; exact List.mem_map.2 ⟨d, hd, rfl⟩)
    rw [refB]
    cases hf : findC l c.k with
    | some x =>
      simp only [Option.isSome_some, if_true]
      obtain ⟨h1, h2⟩ := refB_spec l m out hm.2 ho (fun e he => hd e (by simp [he]))
      refine ⟨h1, fun d => ?_⟩
      rw [h2 d]
      constructor
      · rintro (h | ⟨h, h'⟩)
        · exact .inl h
        · exact .inr ⟨by simp [h], h'⟩
      · rintro (h | ⟨h, h'⟩)
        · exact .inl h
        · rcases List.mem_cons.1 h with rfl | h
          · rw [hf] at h'; cases h'
          · exact .inr ⟨h, h'⟩
    | none =>
      simp only [Option.isSome_none, Bool.false_eq_true, if_false]
      have hput := putX_law ho (x := c) (fun e he => hd c (by simp) hf e he)
      obtain ⟨h1, h2⟩ := refB_spec l m (putX out c) hm.2 hput.1 (fun e he hn f hf' => by
        rcases (hput.2 f).1 hf' with h | rfl
        · exact hd e (by simp [he]) hn f h
        · exact hne e he)
      refine ⟨h1, fun d => ?_⟩
      rw [h2 d, hput.2 d]
      constructor
      · rintro ((h | rfl) | ⟨h, h'⟩)
        · exact .inl h
        · exact .inr ⟨by simp, hf⟩
        · exact .inr ⟨by simp [h], h'⟩
      · rintro (h | ⟨h, h'⟩)
        · exact .inl (.inl h)
        · rcases List.mem_cons.1 h with rfl | h
          · exact .inl (.inr rfl)
          · exact .inr ⟨h, h'⟩

theorem outM_law {M : List Chg} (hn : (M.map (·.k)).Nodup) : SrtC (outM M) ∧ ∀ d, d ∈ outM M ↔ d ∈ M ∧ ¬ d.w = d.n := by
  have hnf : ((M.filter moved).map (·.k)).Nodup := hn.sublist ((List.filter_sublist (l := M)).map _)
  constructor
  · unfold SrtC outM
    rw [List.pairwise_map]
    have h1 := sortK_sorted ((M.filter moved).map (·.k))
    have h2 : (sortK ((M.filter moved).map (·.k))).Nodup := (sortK_perm _).nodup_iff.2 hnf
    refine (h1.and h2).imp fun {a b} h => ?_
    obtain ⟨h3, h4⟩ := h
    have h5 : cmpK a b ≠ 0 := fun e => h4 ((good_key.zero a b).1 e)
    have h6 := good_key.anti b a
    show cmpK a b < 0
    omega
  · intro d
    simp only [outM, List.mem_map]
    constructor
    · rintro ⟨k, hk, rfl⟩
      obtain ⟨c, hc, rfl⟩ := List.mem_map.1 ((sortK_perm _).mem_iff.1 hk)
      obtain ⟨h1, h2⟩ := List.mem_filter.1 hc
      rw [valX_mem hn h1]
      exact ⟨h1, by simpa [moved] using h2⟩
    · rintro ⟨h1, h2⟩
      exact ⟨d.k, (sortK_perm _).mem_iff.2 (List.mem_map.2 ⟨d, List.mem_filter.2 ⟨h1, by simpa [moved] using h2⟩, rfl⟩), valX_mem hn h1⟩

theorem right_moved : ∀ (l : List Chg) (p : Option Key), rightC p l = true → ∀ c ∈ l, ¬ c.w = c.n
  | [], p, _, c, hc => by cases hc
  | x :: l, p, h, c, hc => by
    simp only [rightC, Bool.and_eq_true] at h
    rcases List.mem_cons.1 hc with rfl | hc
    · have := h.1
      simp only [okC, Bool.and_eq_true, decide_eq_true_eq] at this
      exact this.2.2.1
    · exact right_moved l _ h.2 c hc

theorem join_law {l m : List Chg} (h1 : rightC none l = true) (h2 : rightC none m = true) : (allM l m).map outM = refJ l m := by
  have sl : SrtC l := (right_srtC l none h1).1
  have sm : SrtC m := (right_srtC m none h2).1
  have nl := sl.nodup
  have nm := sm.nodup
  rcases allM_spec m nm l nl with ⟨M, a1, a2, a3, a4⟩ | ⟨a1, c, hc, x, hx, hxn⟩
  · rcases refA_spec m l [] nl .nil (fun c _ d hd => by cases hd) with ⟨o, b1, b2, b3, b4⟩ | ⟨b1, c, hc, x, hx, hxn⟩
    · rw [refJ, a1, b1]
      show some (outM M) = some (refB l o m)
      congr 1
      have hdis : ∀ c ∈ m, findC l c.k = none → ∀ d ∈ o, ¬ d.k = c.k := fun c _ hn d hd => by
        rcases (b4 d).1 hd with h | ⟨e, he, hst, _⟩
        · cases h
        · rw [stepA_key hst]
          exact findC_none.1 hn e he
      obtain ⟨c1, c2⟩ := refB_spec l m o nm b3 hdis
      obtain ⟨d1, d2⟩ := outM_law a3
      refine SrtC.ext d1 c1 fun d => ?_
      rw [d2 d, c2 d, b4 d]
      simp only [List.not_mem_nil, false_or]
      constructor
      · rintro ⟨hd, hmv⟩
        have hk := a4 d.k
        rw [findC_mem a3 hd] at hk
        cases hL : findC l d.k with
        | none =>
          rw [hL] at hk
          have hk : findC m d.k = some d := hk.symm
          exact .inr ⟨(findC_some hk).1, rfl⟩
        | some x =>
          obtain ⟨hx1, hx2⟩ := findC_some hL
          rw [hL] at hk
          cases hM : findC m d.k with
          | none =>
            rw [hM] at hk
            cases hk
            exact .inl ⟨d, hx1, by simp [stepA, hM], hmv⟩
          | some c =>
            rw [hM] at hk
            have hk : d = ⟨x.k, x.w, c.n⟩ := Option.some.inj hk
            obtain ⟨hc1, hc2⟩ := findC_some hM
            have hw := b2 x hx1 c (by rw [hx2]; exact hM)
            exact .inl ⟨x, hx1, by rw [stepA, hx2, hM]; simp only [hw, if_true]; rw [hk], hmv⟩
      · rintro (⟨x, hx, hst, hmv⟩ | ⟨hd, hn⟩)
        · refine ⟨?_, hmv⟩
          have hdk := stepA_key hst
          have hk := a4 d.k
          rw [hdk, findC_mem nl hx] at hk
          have : findC M x.k = some d := by
            rw [hk]
            unfold stepA at hst
            cases hM : findC m x.k with
            | none => rw [hM] at hst; cases hst; rfl
            | some c =>
              rw [hM] at hst
              simp only at hst
              split at hst
              · cases hst; rfl
              · cases hst
          exact (findC_some this).1
        · refine ⟨?_, right_moved m none h2 d hd⟩
          have hk := a4 d.k
          rw [hn, findC_mem nm hd] at hk
          exact (findC_some hk).1
    · obtain ⟨hx1, hx2⟩ := findC_some hx
      exact absurd (a2 x hx1 c (by rw [hx2]; exact findC_mem nl hc)).symm hxn
  · rcases refA_spec m l [] nl .nil (fun c _ d hd => by cases hd) with ⟨o, b1, b2, b3, b4⟩ | ⟨b1, _⟩
    · obtain ⟨hx1, hx2⟩ := findC_some hx
      exact absurd (b2 x hx1 c (by rw [hx2]; exact findC_mem nm hc)).symm hxn
    · rw [refJ, a1, b1]; rfl

end Go.Proofs
