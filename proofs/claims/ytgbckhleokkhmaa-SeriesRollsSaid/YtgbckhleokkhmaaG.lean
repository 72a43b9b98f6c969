/- Part of the proof of a law of this seat: the texts S10 Law0s E1 E2 E3 E4 S14 Lay1 S15 S16 S17 S18 S19 E5 E6 E7 Lay2 E8 E9 E10, in this order. -/
import Derived.Test.YtgbckhleokkhmaaF
import Derived.Test.YtgbckhleokkhmaaE
import Derived.Test.YtgbckhleokkhmaaRows
import Derived.WalkKit
import Derived.ProofKit
import Derived.OpenShut
import Derived.ShutString
import Derived.ChangeOld
import Derived.Below
import Derived.SizedLaws
import Derived.Test.YtgbckhleokkhmaaProg
import Derived.Shelf.SlSortCmp.NoneTotal
import Derived.Shelf.SlGeneric
import Derived.Shelf.Strings.Search1
import Derived.Shelf.Strings.LastIndex
namespace Go.Proofs
open Go Go.Av
set_option linter.unusedSimpArgs false
set_option linter.unusedVariables false
set_option maxRecDepth 30000
set_option maxHeartbeats 2000000
theorem nx : (∀ n : Nat, (n = n + 1 + 1) = False) ∧ (∀ n : Nat, (n + 1 + 1 = n) = False) ∧ (∀ n : Nat, (n = n + 1 + 1 + 1) = False) ∧ (∀ n : Nat, (n + 1 + 1 + 1 = n) = False) := by
  refine ⟨fun n => ?_, fun n => ?_, fun n => ?_, fun n => ?_⟩ <;> (apply eq_false; omega)
theorem i64_0 : Int64.toInt 0 = 0 := rfl

attribute [push_cast] List.length_append Int.le_refl room i64_0 nx

def putR (pre rest : List Row) (x : Row) : Option (List Row) :=
  match rest with
  | [] => some (pre ++ [x])
  | y :: t => if y.k = x.k then (mergeC y.c x.c).map fun c => pre ++ ⟨x.k, c⟩ :: t else some (pre ++ x :: y :: t)
def resP : Option (List Row) → AV
  | some l => .tup [.sl 9 (rowsA l) .none, i64 0]
  | none => .tup [.sl 9 [] .none, i64 6]

theorem rows_take (pre rest : List Row) : (rowsA (pre ++ rest)).take pre.length = rowsA pre := by
  rw [← rowsA_app, ← rowsA_len pre, List.take_left]
theorem rows_drop (pre rest : List Row) : ((rowsA (pre ++ rest)).take (pre.length + rest.length)).drop pre.length = rowsA rest := by
  rw [← List.length_append, ← rowsA_len (pre ++ rest), List.take_length, ← rowsA_app, ← rowsA_len pre, List.drop_left]
theorem rowsA_cons (x : Row) (l : List Row) : rowsA (x :: l) = x.av :: rowsA l := rfl
theorem rowsA_tail (y : Row) (t : List Row) : (List.take (t.length + 1) (rowsA (y :: t))).drop 1 = rowsA t := by
  rw [show t.length + 1 = (rowsA (y :: t)).length by simp [rowsA], List.take_length]; rfl

theorem rowsA_append (l m : List Row) : rowsA (l ++ m) = rowsA l ++ rowsA m := (rowsA_app l m).symm
theorem rowsA_self (l : List Row) : (rowsA l).take l.length = rowsA l := by rw [← rowsA_len l, List.take_length]
theorem rowsA_none (l : List Row) : (rowsA l).drop l.length = [] := by rw [← rowsA_len l, List.drop_length]
theorem rowsA_isnil {l : List Row} (h : rowsA l = []) : l = [] := by cases l with | nil => rfl | cons x l => simp [rowsA] at h

theorem put_pr (pre rest : List Row) (x : Row) (h1 : ∀ r ∈ pre, cmpK r.k x.k < 0) (h2 : ∀ y t, rest = y :: t → ¬ cmpK y.k x.k < 0) (hl : (pre ++ rest).length ≤ 1000000) :
    APure Try.prog 105 [.sl 9 (rowsA (pre ++ rest)) .none, .agg x.av] (resP (putR pre rest x)) := by
  intro s
  have hlen : (pre ++ rest).length = pre.length + rest.length := List.length_append
  refine enterA ⟨[]⟩ (Try.f105.body.getD .skip) [.tmp 4, .tmp 5] Try.func105 fun hwf hbel => ?_; simp only [Try.f105, push_cast, ↓EPM, ↓reduceIte, seval, reduceCtorEq]
  refine ALoop_inv (ι := Nat) (fun i => i ≤ pre.length) (fun i => envL [(0, .sl 9 (rowsA (pre ++ rest)) .none), (3, .ptr s.next 0), (6, i64 i)]) (fun _ => AState.new { s with base := ⟨s.next, []⟩ } (.cells x.av)) (fun i => pre.length - i) 0 (Nat.zero_le _) (ent rfl ?_) (fun i hi => ?_)
  · simp only [push_cast, ↓EPM, ↓reduceIte, seval, reduceCtorEq]
  · have h0 : (0 : Int) ≤ (i : Int) := by omega
    by_cases hlt : i < pre.length
    · have hc : ((i : Int) < (pre.length : Int) + (rest.length : Int)) := by omega
      have hw : IntKind.i64.wrap ((i : Int) + 1) = (i : Int) + 1 := wrap_in (by omega) (by omega)
      obtain ⟨y, hy⟩ : ∃ y, pre[i]? = some y := ⟨_, List.getElem?_eq_getElem hlt⟩
      have gy := rowsA_get (l := pre ++ rest) (i := i) (x := y) (by rw [List.getElem?_append_left hlt, hy])
      have hp : cmpK y.k x.k < 0 := h1 y (List.mem_of_getElem? hy)
      simp only [push_cast, ↓EPM, ↓reduceIte, seval, reduceCtorEq]
      refine drawA mixed ?_; simp only [hc, h0, gy, push_cast, ↓EPM, ↓reduceIte, seval, reduceCtorEq]
      refine qcall (rcmp_spec y.k x.k) rfl (by simp only [push_cast, ↓EPM, ↓reduceIte, seval, reduceCtorEq] <;> rfl) ?_; simp only [push_cast, ↓EPM, ↓reduceIte, seval, reduceCtorEq]
      simp only [hp, hw, push_cast, ↓EPM, ↓reduceIte, seval, reduceCtorEq]
      refine round_next (i + 1) (by omega) (by omega) (ent rfl ?_)
      simp only [push_cast, ↓EPM, ↓reduceIte, seval, reduceCtorEq]
    · have hi' : i = pre.length := by omega
      subst hi'
      cases rest with
      | nil =>
        have hc : ¬ ((pre.length : Int) < (pre.length : Int)) := by omega
        simp only [push_cast, ↓EPM, ↓reduceIte, seval, reduceCtorEq]
        refine drawA mixed ?_; simp only [hc, h0, rowsA_self, rowsA_none, push_cast, ↓EPM, ↓reduceIte, seval, reduceCtorEq]
        refine ⟨fun hn => ?_, fun hn => ⟨by omega, ?_⟩⟩
        · have hp := rowsA_isnil hn
          subst hp
          simp only [push_cast, ↓EPM, ↓reduceIte, seval, reduceCtorEq]
          refine drawA mixed ?_; simp only [push_cast, ↓EPM, ↓reduceIte, seval, reduceCtorEq]
          exact RetW [.sl 9 [x.av] (.row (s.next + 1) 1), i64 0] [.sl 9 (rowsA [x]) .none, i64 0] (hw := by simp only [WvL, rowsA_cons, rowsA_append, push_cast, ↓EPM, ↓reduceIte, seval, reduceCtorEq])
        · refine drawA mixed ?_; simp only [push_cast, ↓EPM, ↓reduceIte, seval, reduceCtorEq]
          refine ⟨by omega, by omega, ?_⟩
          exact RetW [.sl 9 (rowsA pre ++ [x.av]) (.row (s.next + 1) (pre.length + 1)), i64 0] [.sl 9 (rowsA (pre ++ [x])) .none, i64 0] (hw := by simp only [WvL, rowsA_cons, rowsA_append, push_cast, ↓EPM, ↓reduceIte, seval, reduceCtorEq])
      | cons y t =>
        have hy2 : ¬ cmpK y.k x.k < 0 := h2 y t rfl
        simp only [List.length_cons] at hlen
        have hc : ((pre.length : Int) < (pre.length : Int) + ((t.length : Int) + 1)) := by omega
        have gy := rowsA_get (l := pre ++ y :: t) (i := pre.length) (x := y) (by simp)
        have e1 := rows_take pre (y :: t)
        have hT : ((pre.length : Int) + ((t.length : Int) + 1)).toNat = pre.length + (t.length + 1) := by omega
        have hD : List.drop pre.length (List.take (pre.length + (t.length + 1)) (rowsA (pre ++ y :: t))) = rowsA (y :: t) := rows_drop pre (y :: t)
        have hle : (pre.length : Int) ≤ (pre.length : Int) + ((t.length : Int) + 1) := by omega
        have h3 : (0 : Int) < (t.length : Int) + 1 := by omega
        have h4 : (1 : Int) ≤ (t.length : Int) + 1 := by omega
        have hT4 : ((t.length : Int) + 1).toNat = t.length + 1 := by omega
        have hT3 := h3
        have g0 : (rowsA (y :: t)).getD 0 [] = y.av := rfl
        simp only [push_cast, ↓EPM, ↓reduceIte, seval, reduceCtorEq]
        refine drawA mixed ?_; simp only [hc, h0, gy, push_cast, ↓EPM, ↓reduceIte, seval, reduceCtorEq]
        refine qcall (rcmp_spec y.k x.k) rfl (by simp only [push_cast, ↓EPM, ↓reduceIte, seval, reduceCtorEq] <;> rfl) ?_; simp only [push_cast, ↓EPM, ↓reduceIte, seval, reduceCtorEq]
        simp only [hy2, h0, hle, e1, hT, hD, push_cast, ↓EPM, ↓reduceIte, seval, reduceCtorEq]
        refine ⟨fun hn => ?_, fun hn => ⟨by omega, ?_⟩⟩
        · have hp := rowsA_isnil hn
          subst hp
          simp only [List.nil_append, rowsA_nil, List.length_nil] at *
          simp only [push_cast, ↓EPM, ↓reduceIte, seval, reduceCtorEq]
          refine drawA mixed ?_; simp only [h3, g0, hT3, push_cast, ↓EPM, ↓reduceIte, seval, reduceCtorEq]
          refine eqK_use (aeq_key y.k x.k) ?_
          by_cases hk : y.k = x.k
          · have hk' : decide (y.k = x.k) = true := by simp [hk]
            rw [hk']
            have hm := rmerge_spec y.c x.c
            cases hmc : mergeC y.c x.c with
            | none =>
              rw [hmc] at hm
              simp only [push_cast, ↓EPM, ↓reduceIte, seval, reduceCtorEq]
              refine chainA [(AState.new { s with base := ⟨s.next, []⟩ } (.cells x.av)), AState.new (AState.new { s with base := ⟨s.next, []⟩ } (.cells x.av)) (.cells zeroC.av), AState.set (AState.new (AState.new { s with base := ⟨s.next, []⟩ } (.cells x.av)) (.cells zeroC.av)) (s.next + 1) (.cells zeroC.av)] [some 9, some 9, some 9, some 9, some 9, some 9, some 9, some 9, some 9, some 9, none, none, some 9] mixed ?_; simp only [zeroC, h3, g0, hT3,  ↓EX, EY, ↓EH, push_cast, ↓EPM, ↓reduceIte, seval, reduceCtorEq]
              refine qcallC (hm) rfl (by simp only [push_cast, ↓EPM, ↓reduceIte, seval, reduceCtorEq] <;> rfl) ?_; simp only [↓EX, EY, ↓EH, push_cast, ↓EPM, ↓reduceIte, seval, reduceCtorEq]
              simp only [resC, zeroC, h4, hT4, rowsA_tail, ↓EX, EY, ↓EH, push_cast, ↓EPM, ↓reduceIte, seval, reduceCtorEq]
              rw [show putR [] (y :: t) x = none by simp [putR, hk, hmc]]
              exact RetW [.v (.slice none 0 0), i64 6] [.sl 9 [] .none, i64 6]
            | some c =>
              rw [hmc] at hm
              simp only [push_cast, ↓EPM, ↓reduceIte, seval, reduceCtorEq]
              refine chainA [(AState.new { s with base := ⟨s.next, []⟩ } (.cells x.av)), AState.new (AState.new { s with base := ⟨s.next, []⟩ } (.cells x.av)) (.cells zeroC.av), AState.set (AState.new (AState.new { s with base := ⟨s.next, []⟩ } (.cells x.av)) (.cells zeroC.av)) (s.next + 1) (.cells c.av)] [some 9, some 9, some 9, some 9, some 9, some 9, some 9, some 9, some 9, some 9, none, none, some 9] mixed ?_; simp only [zeroC, h3, g0, hT3,  ↓EX, EY, ↓EH, push_cast, ↓EPM, ↓reduceIte, seval, reduceCtorEq]
              refine qcallC (hm) rfl (by simp only [push_cast, ↓EPM, ↓reduceIte, seval, reduceCtorEq] <;> rfl) ?_; simp only [↓EX, EY, ↓EH, push_cast, ↓EPM, ↓reduceIte, seval, reduceCtorEq]
              simp only [resC, zeroC, h4, hT4, rowsA_tail, ↓EX, EY, ↓EH, push_cast, ↓EPM, ↓reduceIte, seval, reduceCtorEq]
              refine ⟨by omega, ?_⟩
              rw [show putR [] (y :: t) x = some ([] ++ ⟨x.k, c⟩ :: t) by simp [putR, hk, hmc]]
              exact RetW [.sl 9 ([Row.av ⟨x.k, c⟩] ++ rowsA t) (.row (s.next + 2) (1 + t.length)), i64 0] [.sl 9 (rowsA ([] ++ ⟨x.k, c⟩ :: t)) .none, i64 0] (hw := by simp only [WvL, rowsA_cons, rowsA_append, push_cast, ↓EPM, ↓reduceIte, seval, reduceCtorEq])
          · have hk' : decide (y.k = x.k) = false := by simp [hk]
            rw [hk']
            simp only [push_cast, ↓EPM, ↓reduceIte, seval, reduceCtorEq]
            refine ⟨by omega, ?_⟩
            rw [show putR [] (y :: t) x = some ([] ++ x :: y :: t) by simp [putR, hk]]
            exact RetW [.sl 9 ([x.av] ++ rowsA (y :: t)) (.row (s.next + 1) (1 + (t.length + 1))), i64 0] [.sl 9 (rowsA ([] ++ x :: y :: t)) .none, i64 0] (hw := by simp only [WvL, rowsA_cons, rowsA_append, List.append_assoc, push_cast, ↓EPM, ↓reduceIte, seval, reduceCtorEq])
        · refine drawA mixed ?_; simp only [h3, g0, hT3, push_cast, ↓EPM, ↓reduceIte, seval, reduceCtorEq]
          refine eqK_use (aeq_key y.k x.k) ?_
          by_cases hk : y.k = x.k
          · have hk' : decide (y.k = x.k) = true := by simp [hk]
            rw [hk']
            have hm := rmerge_spec y.c x.c
            cases hmc : mergeC y.c x.c with
            | none =>
              rw [hmc] at hm
              simp only [push_cast, ↓EPM, ↓reduceIte, seval, reduceCtorEq]
              refine chainA [(AState.new (AState.new { s with base := ⟨s.next, []⟩ } (.cells x.av)) (.row pre.length)), AState.new (AState.new (AState.new { s with base := ⟨s.next, []⟩ } (.cells x.av)) (.row pre.length)) (.cells zeroC.av), AState.set (AState.new (AState.new (AState.new { s with base := ⟨s.next, []⟩ } (.cells x.av)) (.row pre.length)) (.cells zeroC.av)) (s.next + 2) (.cells zeroC.av)] [some 9, some 9, some 9, some 9, some 9, some 9, some 9, some 9, some 9, some 9, none, none, some 9] mixed ?_; simp only [zeroC, h3, g0, hT3,  ↓EX, EY, ↓EH, push_cast, ↓EPM, ↓reduceIte, seval, reduceCtorEq]
              refine qcallC (hm) rfl (by simp only [push_cast, ↓EPM, ↓reduceIte, seval, reduceCtorEq] <;> rfl) ?_; simp only [↓EX, EY, ↓EH, push_cast, ↓EPM, ↓reduceIte, seval, reduceCtorEq]
              simp only [resC, zeroC, h4, hT4, rowsA_tail, ↓EX, EY, ↓EH, push_cast, ↓EPM, ↓reduceIte, seval, reduceCtorEq]
              rw [show putR pre (y :: t) x = none by simp [putR, hk, hmc]]
              exact RetW [.v (.slice none 0 0), i64 6] [.sl 9 [] .none, i64 6]
            | some c =>
              rw [hmc] at hm
              simp only [push_cast, ↓EPM, ↓reduceIte, seval, reduceCtorEq]
              refine chainA [(AState.new (AState.new { s with base := ⟨s.next, []⟩ } (.cells x.av)) (.row pre.length)), AState.new (AState.new (AState.new { s with base := ⟨s.next, []⟩ } (.cells x.av)) (.row pre.length)) (.cells zeroC.av), AState.set (AState.new (AState.new (AState.new { s with base := ⟨s.next, []⟩ } (.cells x.av)) (.row pre.length)) (.cells zeroC.av)) (s.next + 2) (.cells c.av)] [some 9, some 9, some 9, some 9, some 9, some 9, some 9, some 9, some 9, some 9, none, none, some 9] mixed ?_; simp only [zeroC, h3, g0, hT3,  ↓EX, EY, ↓EH, push_cast, ↓EPM, ↓reduceIte, seval, reduceCtorEq]
              refine qcallC (hm) rfl (by simp only [push_cast, ↓EPM, ↓reduceIte, seval, reduceCtorEq] <;> rfl) ?_; simp only [↓EX, EY, ↓EH, push_cast, ↓EPM, ↓reduceIte, seval, reduceCtorEq]
              simp only [resC, zeroC, h4, hT4, rowsA_tail, ↓EX, EY, ↓EH, push_cast, ↓EPM, ↓reduceIte, seval, reduceCtorEq]
              refine ⟨by omega, by omega, ?_⟩
              rw [show putR pre (y :: t) x = some (pre ++ ⟨x.k, c⟩ :: t) by simp [putR, hk, hmc]]
              exact RetW [.sl 9 ((rowsA pre ++ [Row.av ⟨x.k, c⟩]) ++ rowsA t) (.row (s.next + 1) (pre.length + 1 + t.length)), i64 0] [.sl 9 (rowsA (pre ++ ⟨x.k, c⟩ :: t)) .none, i64 0] (hw := by simp only [WvL, rowsA_cons, rowsA_append, List.append_assoc, push_cast, ↓EPM, ↓reduceIte, seval, reduceCtorEq])
          · have hk' : decide (y.k = x.k) = false := by simp [hk]
            rw [hk']
            simp only [push_cast, ↓EPM, ↓reduceIte, seval, reduceCtorEq]
            refine ⟨by omega, by omega, ?_⟩
            rw [show putR pre (y :: t) x = some (pre ++ x :: y :: t) by simp [putR, hk]]
            exact RetW [.sl 9 (rowsA pre ++ [x.av] ++ rowsA (y :: t)) (.row (s.next + 1) (pre.length + 1 + (t.length + 1))), i64 0] [.sl 9 (rowsA (pre ++ x :: y :: t)) .none, i64 0] (hw := by simp only [WvL, rowsA_cons, rowsA_append, List.append_assoc, push_cast, ↓EPM, ↓reduceIte, seval, reduceCtorEq])

/-- A row put into others, behind all that are less. -/
def putL (l : List Row) (x : Row) : Option (List Row) := putR (l.takeWhile fun r => decide (cmpK r.k x.k < 0)) (l.dropWhile fun r => decide (cmpK r.k x.k < 0)) x

theorem mem_takeWhile {α : Type} {p : α → Bool} : ∀ {l : List α} {a : α}, a ∈ l.takeWhile p → p a = true
  | b :: l, a, h => by
    rw [List.takeWhile_cons] at h
    split at h
    · rename_i hb
      rcases List.mem_cons.1 h with rfl | h
      · exact hb
      · exact mem_takeWhile h
    · cases h
theorem head_dropWhile {α : Type} {p : α → Bool} : ∀ {l : List α} {y : α} {t : List α}, l.dropWhile p = y :: t → p y = false
  | b :: l, y, t, h => by
    rw [List.dropWhile_cons] at h
    split at h
    · exact head_dropWhile h
    · rename_i hb
      cases h
      simpa using hb

theorem put_spec (l : List Row) (x : Row) (hl : l.length ≤ 1000000) : APure Try.prog 105 [.sl 9 (rowsA l) .none, .agg x.av] (resP (putL l x)) := by
  have h := put_pr (l.takeWhile fun r => decide (cmpK r.k x.k < 0)) (l.dropWhile fun r => decide (cmpK r.k x.k < 0)) x
    (fun r hr => by simpa using mem_takeWhile hr) (fun y t e => by simpa using head_dropWhile e)
  rw [List.takeWhile_append_dropWhile] at h
  exact h hl

end Go.Proofs

namespace Go.Proofs
open Go Go.Av
set_option maxRecDepth 30000

theorem kFact : kinds Try.prog 5 238 = some [.int .i64, .str, .str, .str, .str, .int .i64] := by kernel_rfl
theorem kRow : kinds Try.prog 5 84 = some [.int .i64, .str, .str, .str, .str, .int .i64, .int .i64, .int .i64, .int .i64] := by kernel_rfl
theorem kKey : kinds Try.prog 5 82 = some [.int .i64, .str, .str, .str, .str] := by kernel_rfl

theorem ks_int {ks : List Knd} {cs : List Value} (h : KsOk (.int .i64 :: ks) cs) : ∃ (x : Int64) (r : List Value), cs = .int .i64 x.toInt :: r ∧ KsOk ks r := by
  obtain ⟨v, hv, n, rfl, hw⟩ := h.2 0 _ rfl
  cases cs with
  | nil => cases hv
  | cons c r =>
    cases hv
    have hx : -9223372036854775808 ≤ n ∧ n ≤ 9223372036854775807 := by simpa [Lit.wf, IntKind.min, IntKind.max, IntKind.signed, IntKind.bits] using hw
    refine ⟨Int64.ofInt n, r, ?_, by have := h.1; simpa using this, fun i k hk => by simpa using h.2 (i + 1) k (by simpa using hk)⟩
    rw [Int64.toInt_ofInt_of_le (by omega) (by omega)]
theorem ks_str {ks : List Knd} {cs : List Value} (h : KsOk (.str :: ks) cs) : ∃ (x : ByteArray) (r : List Value), cs = .string x :: r ∧ KsOk ks r := by
  obtain ⟨v, hv, n, rfl, hw⟩ := h.2 0 _ rfl
  cases cs with
  | nil => cases hv
  | cons c r =>
    cases hv
    exact ⟨n, r, rfl, by have := h.1; simpa using this, fun i k hk => by simpa using h.2 (i + 1) k (by simpa using hk)⟩
theorem ks_nil {cs : List Value} (h : KsOk [] cs) : cs = [] := List.eq_nil_of_length_eq_zero (by simpa using h.1)

theorem ks_fact {cs : List Value} (h : KsOk [.int .i64, .str, .str, .str, .str, .int .i64] cs) : ∃ f : Fact, cs.map AV.v = f.av := by
  obtain ⟨x0, r0, rfl, h1⟩ := ks_int h
  obtain ⟨a, r1, rfl, h2⟩ := ks_str h1
  obtain ⟨b, r2, rfl, h3⟩ := ks_str h2
  obtain ⟨c, r3, rfl, h4⟩ := ks_str h3
  obtain ⟨d, r4, rfl, h5⟩ := ks_str h4
  obtain ⟨v, r5, rfl, h6⟩ := ks_int h5
  obtain rfl := ks_nil h6
  exact ⟨⟨⟨x0, a, b, c, d⟩, v⟩, rfl⟩
theorem ks_row {cs : List Value} (h : KsOk [.int .i64, .str, .str, .str, .str, .int .i64, .int .i64, .int .i64, .int .i64] cs) : ∃ f : Row, cs.map AV.v = f.av := by
  obtain ⟨x0, r0, rfl, h1⟩ := ks_int h
  obtain ⟨a, r1, rfl, h2⟩ := ks_str h1
  obtain ⟨b, r2, rfl, h3⟩ := ks_str h2
  obtain ⟨c, r3, rfl, h4⟩ := ks_str h3
  obtain ⟨d, r4, rfl, h5⟩ := ks_str h4
  obtain ⟨n, r5, rfl, h6⟩ := ks_int h5
  obtain ⟨s, r6, rfl, h7⟩ := ks_int h6
  obtain ⟨lo, r7, rfl, h8⟩ := ks_int h7
  obtain ⟨hi, r8, rfl, h9⟩ := ks_int h8
  obtain rfl := ks_nil h9
  exact ⟨⟨⟨x0, a, b, c, d⟩, ⟨n, s, lo, hi⟩⟩, rfl⟩
theorem ks_key {cs : List Value} (h : KsOk [.int .i64, .str, .str, .str, .str] cs) : ∃ f : Key, cs.map AV.v = f.av := by
  obtain ⟨x0, r0, rfl, h1⟩ := ks_int h
  obtain ⟨a, r1, rfl, h2⟩ := ks_str h1
  obtain ⟨b, r2, rfl, h3⟩ := ks_str h2
  obtain ⟨c, r3, rfl, h4⟩ := ks_str h3
  obtain ⟨d, r4, rfl, h5⟩ := ks_str h4
  obtain rfl := ks_nil h5
  exact ⟨⟨x0, a, b, c, d⟩, rfl⟩
theorem ks_list {α : Type} {ks : List Knd} {av : α → List AV} (hone : ∀ cs, KsOk ks cs → ∃ x, cs.map AV.v = av x) : ∀ css : List (List Value), (∀ cs ∈ css, KsOk ks cs) → ∃ l : List α, css.map (·.map AV.v) = l.map av
  | [], _ => ⟨[], rfl⟩
  | cs :: css, h => by
    obtain ⟨x, hx⟩ := hone cs (h cs (by simp))
    obtain ⟨l, hl⟩ := ks_list hone css (fun c hc => h c (by simp [hc]))
    exact ⟨x :: l, by simp [hx, hl]⟩

section
variable {H : Type} {enc : TypeId × Value → H} {w : World} {base : Nat} {spare : Nat → Bool} {held : Bool}
theorem open_facts {v : Value} {D : DataW H} {ps : List MemPlace} (hval : Value.okWide Try.prog w .any base 118 v) (h : DataW.Trod enc Try.prog w 0 spare held 118 v D ps) : ∃ l : List Fact, R Gh.all w v (.sl 6 (factsA l) .none) := by
  obtain ⟨css, h1, h2⟩ := open_row (e := 238) Try.underlying118 kFact (by kernel_rfl) (by decide) hval h
  obtain ⟨l, hl⟩ := ks_list (fun cs h => ks_fact h) css h1
  rw [hl] at h2
  exact ⟨l, h2⟩
theorem open_rows {v : Value} {D : DataW H} {ps : List MemPlace} (hval : Value.okWide Try.prog w .any base 63 v) (h : DataW.Trod enc Try.prog w 0 spare held 63 v D ps) : ∃ l : List Row, R Gh.all w v (.sl 9 (rowsA l) .none) := by
  obtain ⟨css, h1, h2⟩ := open_row (e := 84) Try.underlying63 kRow (by kernel_rfl) (by decide) hval h
  obtain ⟨l, hl⟩ := ks_list (fun cs h => ks_row h) css h1
  rw [hl] at h2
  exact ⟨l, h2⟩
theorem open_keyA {v : Value} {D : DataW H} {ps : List MemPlace} (hval : Value.okWide Try.prog w .any base 82 v) (h : DataW.Trod enc Try.prog w 0 spare held 82 v D ps) : ∃ k : Key, R Gh.all w v (.agg k.av) := by
  have h1 := open_flat kKey h
  have hu : Try.prog.underlying 82 = some (TypeDesc.struct #[{ name := "Hour", type := 2, offset := 0, embedded := false, tag := "", pkgPath := "", byteOffset := 0 }, { name := "Dims", type := 80, offset := 1, embedded := false, tag := "", pkgPath := "", byteOffset := 8 }]) := by simp only [unders]
  simp only [Value.okWide, hu] at hval
  obtain ⟨cs, rfl, _⟩ := hval
  have h2 := open_agg (w := w) (cs := cs) h1
  obtain ⟨k, hk⟩ := ks_key h1
  exact ⟨k, by rw [← hk]; exact h2⟩
theorem open_i64 {n : Int} (y : (Lit.int .i64 n).wf = true) : ∃ a : Int64, R Gh.all w (.int .i64 n) (i6 a) := by
  have hx : -9223372036854775808 ≤ n ∧ n ≤ 9223372036854775807 := by simpa [Lit.wf, IntKind.min, IntKind.max, IntKind.signed, IntKind.bits] using y
  refine ⟨Int64.ofInt n, ?_⟩
  rw [i6, Int64.toInt_ofInt_of_le (by omega) (by omega)]
  exact .v rfl
end

end Go.Proofs

namespace Go.Proofs
open Go Go.Av
set_option linter.unusedSimpArgs false
set_option linter.unusedVariables false
set_option maxRecDepth 30000
set_option maxHeartbeats 4000000

/-! The calendar -/
def leapB (y : Int) : Bool := decide (y.tmod 4 = 0) && (!decide (y.tmod 100 = 0) || decide (y.tmod 400 = 0))
def yd (y : Int) : Int := if leapB y then 366 else 365
def mlen (lp : Bool) (m : Int) : Int := if m = 2 then (if lp then 29 else 28) else if m = 4 ∨ m = 6 ∨ m = 9 ∨ m = 11 then 30 else 31
/-- Days from 1970 to a year; of a year to a month. -/
def yD (y : Int) : Int := 365 * (y - 1970) + (y - 1) / 4 - (y - 1) / 100 + (y - 1) / 400 - 477
def mD (lp : Bool) (m : Int) : Int := (153 * (if m < 3 then m + 9 else m - 3) + 2) / 5 + (if m < 3 then -306 else 59 + (if lp then 1 else 0))

theorem leap_iff {y : Int} (h : 0 ≤ y) : leapB y = true ↔ y % 4 = 0 ∧ (y % 100 ≠ 0 ∨ y % 400 = 0) := by
  simp [leapB, Int.tmod_eq_emod_of_nonneg h]
theorem yD_succ {y : Int} (h : 0 ≤ y) : yD (y + 1) = yD y + yd y := by
  have hl := leap_iff h
  unfold yD yd
  cases hb : leapB y with
  | true =>
    have := hl.1 hb
    simp only [if_true]
    omega
  | false =>
    have : ¬ (y % 4 = 0 ∧ (y % 100 ≠ 0 ∨ y % 400 = 0)) := fun h => by rw [hl.2 h] at hb; cases hb
    simp only [Bool.false_eq_true, if_false]
    omega
theorem mD_succ (lp : Bool) {m : Int} (h1 : 1 ≤ m) (h2 : m < 12) : mD lp (m + 1) = mD lp m + mlen lp m := by
  have : m = 1 ∨ m = 2 ∨ m = 3 ∨ m = 4 ∨ m = 5 ∨ m = 6 ∨ m = 7 ∨ m = 8 ∨ m = 9 ∨ m = 10 ∨ m = 11 := by omega
  rcases this with rfl | rfl | rfl | rfl | rfl | rfl | rfl | rfl | rfl | rfl | rfl <;> cases lp <;> rfl
theorem mlen_pos (lp : Bool) (m : Int) : 28 ≤ mlen lp m ∧ mlen lp m ≤ 31 := by unfold mlen; cases lp <;> (repeat' split) <;> omega
theorem yd_pos (y : Int) : 365 ≤ yd y ∧ yd y ≤ 366 := by unfold yd; split <;> omega

theorem leap_spec (y : Int) : APure Try.prog 310 [i64 y] (boo (leapB y)) := by
  intro s
  refine enterA ⟨[]⟩ (Try.f310.body.getD .skip) [.tmp 2] Try.func310 fun hwf hbel => ?_; simp only [Try.f310, push_cast, ↓EPM, ↓reduceIte, seval, reduceCtorEq]
  by_cases a4 : y.tmod 4 = 0 <;> by_cases a100 : y.tmod 100 = 0 <;> by_cases a400 : y.tmod 400 = 0 <;> simp only [leapB, a4, a100, a400] <;> (simp only [a4, a100, a400, push_cast, ↓EPM, ↓reduceIte, seval, reduceCtorEq]; first | exact RetP [boo true] | exact RetP [boo false])

theorem days_spec (y : Int) : APure Try.prog 295 [i64 y] (i64 (yd y)) := by
  intro s
  refine enterA ⟨[]⟩ (Try.f295.body.getD .skip) [.tmp 2] Try.func295 fun hwf hbel => ?_; simp only [Try.f295, push_cast, ↓EPM, ↓reduceIte, seval, reduceCtorEq]
  refine (leap_spec y).use ?_
  unfold yd
  cases leapB y <;> (simp only [push_cast, ↓EPM, ↓reduceIte, seval, reduceCtorEq]; first | exact RetP [i64 365] | exact RetP [i64 366])

theorem length_spec (y m : Int) (h1 : 1 ≤ m) (h2 : m ≤ 12) : APure Try.prog 296 [i64 y, i64 m] (i64 (mlen (leapB y) m)) := by
  intro s
  have : m = 1 ∨ m = 2 ∨ m = 3 ∨ m = 4 ∨ m = 5 ∨ m = 6 ∨ m = 7 ∨ m = 8 ∨ m = 9 ∨ m = 10 ∨ m = 11 ∨ m = 12 := by omega
  refine enterA ⟨[]⟩ (Try.f296.body.getD .skip) [.tmp 4] Try.func296 fun hwf hbel => ?_; simp only [Try.f296, push_cast, ↓EPM, ↓reduceIte, seval, reduceCtorEq]
  rcases this with rfl | rfl | rfl | rfl | rfl | rfl | rfl | rfl | rfl | rfl | rfl | rfl
  case inr.inl =>
    simp only [push_cast, ↓EPM, ↓reduceIte, seval, reduceCtorEq]
    refine (leap_spec y).use ?_
    unfold mlen
    cases leapB y <;> (simp only [push_cast, ↓EPM, ↓reduceIte, seval, reduceCtorEq]; first | exact RetP [i64 31] | exact RetP [i64 30] | exact RetP [i64 29] | exact RetP [i64 28])
  all_goals (simp only [push_cast, ↓EPM, ↓reduceIte, seval, reduceCtorEq]; first | exact RetP [i64 31] | exact RetP [i64 30] | exact RetP [i64 29] | exact RetP [i64 28])

end Go.Proofs

namespace Go.Proofs
open Go Go.Av
set_option linter.unusedSimpArgs false
set_option linter.unusedVariables false
set_option maxRecDepth 30000
set_option maxHeartbeats 4000000

theorem yD_70 : yD 1970 = 0 := rfl
theorem mD_1 (lp : Bool) : mD lp 1 = 0 := by cases lp <;> rfl
theorem yD_mono {a b : Int} (h : a ≤ b) : yD a ≤ yD b := by unfold yD; omega
theorem mD_mono (lp : Bool) {a b : Int} (h1 : 1 ≤ a) (h2 : a ≤ b) (h3 : b ≤ 12) : mD lp a ≤ mD lp b := by
  unfold mD; cases lp <;> (repeat' split) <;> omega
theorem mD_range (lp : Bool) {m : Int} (h1 : 1 ≤ m) (h2 : m ≤ 12) : 0 ≤ mD lp m ∧ mD lp m ≤ 335 := by
  unfold mD; cases lp <;> (repeat' split) <;> omega
/-- A month's end lies in its year. -/
theorem mD_end (y : Int) {m : Int} (h1 : 1 ≤ m) (h2 : m ≤ 12) : mD (leapB y) m + mlen (leapB y) m ≤ yd y := by
  unfold yd
  have : m = 1 ∨ m = 2 ∨ m = 3 ∨ m = 4 ∨ m = 5 ∨ m = 6 ∨ m = 7 ∨ m = 8 ∨ m = 9 ∨ m = 10 ∨ m = 11 ∨ m = 12 := by omega
  rcases this with rfl | rfl | rfl | rfl | rfl | rfl | rfl | rfl | rfl | rfl | rfl | rfl <;> cases leapB y <;> decide

theorem rdate_spec (d y m q : Int) (hy0 : 1970 ≤ y) (hy1 : y < 5000) (hm1 : 1 ≤ m) (hm2 : m ≤ 12) (hq0 : 0 ≤ q) (hq1 : q < mlen (leapB y) m) (hd : d = yD y + mD (leapB y) m + q) :
    APure Try.prog 259 [i64 d] (.tup [i64 y, i64 m, i64 (q + 1)]) := by
  intro s
  have hmr := mD_range (leapB y) hm1 hm2
  have hml := mlen_pos (leapB y) m
  have hmy := mD_end y hm1 hm2
  have hyd := yd_pos y
  have hyr : 0 ≤ yD y ∧ yD y ≤ 2000000 := by unfold yD; omega
  refine enterA ⟨[]⟩ (Try.f259.body.getD .skip) [.tmp 2, .tmp 3, .tmp 4] Try.func259 fun hwf hbel => ?_; simp only [Try.f259, push_cast, ↓EPM, ↓reduceIte, seval, reduceCtorEq]
  refine ALoop_inv (ι := Int) (fun i => 1970 ≤ i ∧ i ≤ y) (fun i => envL [(0, i64 (d - yD i)), (5, i64 i)]) (fun _ => { s with base := ⟨s.next, []⟩ }) (fun i => (y - i).toNat) 1970 ⟨Int.le_refl _, hy0⟩ (ent rfl ?_) (fun i hi => ?_)
  · simp only [yD_70, Int.sub_zero, push_cast, ↓EPM, ↓reduceIte, seval, reduceCtorEq]
  · obtain ⟨h1, h2⟩ := hi
    simp only [push_cast, ↓EPM, ↓reduceIte, seval, reduceCtorEq]
    refine (days_spec i).use ?_
    have hD := yD_succ (y := i) (by omega)
    have hi5 : i < 5000 := by omega
    by_cases hlt : i < y
    · have hmo := yD_mono (a := i + 1) (b := y) (by omega)
      have h70 := yD_mono (a := 1970) (b := i) h1
      rw [yD_70] at h70
      have hc : d - yD i ≥ yd i := by omega
      have hpos := yd_pos i
      have hw1 : IntKind.i64.wrap (d - yD i - yd i) = d - yD (i + 1) := by rw [wrap_in (by omega) (by omega)]; omega
      have hw2 : IntKind.i64.wrap (i + 1) = i + 1 := wrap_in (by omega) (by omega)
      simp only [hc, hi5, push_cast, ↓EPM, ↓reduceIte, seval, reduceCtorEq]
      refine (days_spec i).use ?_
      simp only [hw1, hw2, push_cast, ↓EPM, ↓reduceIte, seval, reduceCtorEq]
      refine round_next (i + 1) ⟨by omega, by omega⟩ (by omega) (ent rfl ?_)
      simp only [push_cast, ↓EPM, ↓reduceIte, seval, reduceCtorEq]
    · obtain rfl : i = y := by omega
      have hc : ¬ (d - yD i ≥ yd i) := by omega
      simp only [hc, push_cast, ↓EPM, ↓reduceIte, seval, reduceCtorEq]
      refine ALoop_inv (ι := Int) (fun j => 1 ≤ j ∧ j ≤ m) (fun j => envL [(0, i64 (d - yD i - mD (leapB i) j)), (5, i64 i), (6, i64 j)]) (fun _ => { s with base := ⟨s.next, []⟩ }) (fun j => (m - j).toNat) 1 ⟨Int.le_refl _, hm1⟩ (ent rfl ?_) (fun j hj => ?_)
      · simp only [mD_1, Int.sub_zero, push_cast, ↓EPM, ↓reduceIte, seval, reduceCtorEq]
      · obtain ⟨g1, g2⟩ := hj
        by_cases hjm : j < m
        · have hmo := mD_mono (leapB i) (a := j + 1) (b := m) (by omega) (by omega) hm2
          have hms := mD_succ (leapB i) g1 (by omega)
          have hmr' := mD_range (leapB i) g1 (by omega)
          have hml' := mlen_pos (leapB i) j
          have hj12 : j < 12 := by omega
          have hc2 : d - yD i - mD (leapB i) j ≥ mlen (leapB i) j := by omega
          have hw1 : IntKind.i64.wrap (d - yD i - mD (leapB i) j - mlen (leapB i) j) = d - yD i - mD (leapB i) (j + 1) := by rw [wrap_in (by omega) (by omega)]; omega
          have hw2 : IntKind.i64.wrap (j + 1) = j + 1 := wrap_in (by omega) (by omega)
          simp only [hj12, push_cast, ↓EPM, ↓reduceIte, seval, reduceCtorEq]
          refine (length_spec i j (by omega) (by omega)).use ?_
          have hwl : IntKind.i64.wrap (mlen (leapB i) j) = mlen (leapB i) j := wrap_in (by omega) (by omega)
          simp only [hc2, hwl, push_cast, ↓EPM, ↓reduceIte, seval, reduceCtorEq]
          refine (length_spec i j (by omega) (by omega)).use ?_
          simp only [hwl, hw1, hw2, push_cast, ↓EPM, ↓reduceIte, seval, reduceCtorEq]
          refine round_next (j + 1) ⟨by omega, by omega⟩ (by omega) (ent rfl ?_)
          simp only [push_cast, ↓EPM, ↓reduceIte, seval, reduceCtorEq]
        · obtain rfl : j = m := by omega
          have hw2 : IntKind.i64.wrap (d - yD i - mD (leapB i) j + 1) = q + 1 := by rw [wrap_in (by omega) (by omega)]; omega
          have hw3 : IntKind.i64.wrap (d - yD i - mD (leapB i) j) = d - yD i - mD (leapB i) j := wrap_in (by omega) (by omega)
          have hwl : IntKind.i64.wrap (mlen (leapB i) j) = mlen (leapB i) j := wrap_in (by omega) (by omega)
          by_cases hj12 : j < 12
          · have hc2 : ¬ (d - yD i - mD (leapB i) j ≥ mlen (leapB i) j) := by omega
            simp only [hj12, push_cast, ↓EPM, ↓reduceIte, seval, reduceCtorEq]
            refine (length_spec i j (by omega) (by omega)).use ?_
            simp only [hwl, hc2, hw2, hw3, push_cast, ↓EPM, ↓reduceIte, seval, reduceCtorEq]
            exact RetP [i64 i, i64 j, i64 (q + 1)]
          · simp only [hj12, hw2, hw3, push_cast, ↓EPM, ↓reduceIte, seval, reduceCtorEq]
            exact RetP [i64 i, i64 j, i64 (q + 1)]

theorem rmonthOf_spec (d y m q : Int) (hy0 : 1970 ≤ y) (hy1 : y < 5000) (hm1 : 1 ≤ m) (hm2 : m ≤ 12) (hq0 : 0 ≤ q) (hq1 : q < mlen (leapB y) m) (hd : d = yD y + mD (leapB y) m + q) :
    APure Try.prog 182 [i64 d] (i64 ((y - 1970) * 12 + m - 1)) := by
  intro s
  have hw1 : IntKind.i64.wrap (y - 1970) = y - 1970 := wrap_in (by omega) (by omega)
  have hw2 : IntKind.i64.wrap ((y - 1970) * 12) = (y - 1970) * 12 := wrap_in (by omega) (by omega)
  have hw3 : IntKind.i64.wrap ((y - 1970) * 12 + m) = (y - 1970) * 12 + m := wrap_in (by omega) (by omega)
  have hw4 : IntKind.i64.wrap ((y - 1970) * 12 + m - 1) = (y - 1970) * 12 + m - 1 := wrap_in (by omega) (by omega)
  have hw5 : IntKind.i64.wrap m = m := wrap_in (by omega) (by omega)
  refine enterA ⟨[]⟩ (Try.f182.body.getD .skip) [.tmp 2] Try.func182 fun hwf hbel => ?_; simp only [Try.f182, push_cast, ↓EPM, ↓reduceIte, seval, reduceCtorEq]
  refine (rdate_spec d y m q hy0 hy1 hm1 hm2 hq0 hq1 hd).use ?_
  simp only [hw1, hw2, hw3, hw4, hw5, push_cast, ↓EPM, ↓reduceIte, seval, reduceCtorEq]
  exact RetP [i64 ((y - 1970) * 12 + m - 1)]
end Go.Proofs

namespace Go.Proofs
open Go Go.Av
set_option linter.unusedSimpArgs false
set_option linter.unusedVariables false
set_option maxRecDepth 30000
set_option maxHeartbeats 4000000

/-- The year of the era. -/
theorem civ_key (n y : Int) (h0 : 0 ≤ n) (h1 : n ≤ 146096) (hy : y = (n - n / 1460 + n / 36524 - n / 146096) / 365) :
    0 ≤ y ∧ y ≤ 399 ∧ 0 ≤ n - (365 * y + y / 4 - y / 100) ∧ n - (365 * y + y / 4 - y / 100) ≤ 365 ∧ (n - (365 * y + y / 4 - y / 100) = 365 → (y + 1) % 4 = 0 ∧ ((y + 1) % 100 ≠ 0 ∨ (y + 1) % 400 = 0)) := by
  have hy0 : 0 ≤ y := by omega
  have hy1 : y ≤ 399 := by omega
  refine ⟨hy0, hy1, ?_⟩
  obtain ⟨c, hc⟩ : ∃ c, c = n / 1460 := ⟨_, rfl⟩
  obtain ⟨d, hd⟩ : ∃ d, d = n / 36524 := ⟨_, rfl⟩
  obtain ⟨e, he⟩ : ∃ e, e = n / 146096 := ⟨_, rfl⟩
  obtain ⟨f, hf⟩ : ∃ f, f = y / 4 := ⟨_, rfl⟩
  obtain ⟨g, hg⟩ : ∃ g, g = y / 100 := ⟨_, rfl⟩
  rw [← hc, ← hd, ← he] at hy
  rw [← hf, ← hg]
  have hd5 : d = 0 ∨ d = 1 ∨ d = 2 ∨ d = 3 ∨ d = 4 := by omega
  have hg4 : g = 0 ∨ g = 1 ∨ g = 2 ∨ g = 3 := by omega
  have hs : y = 4 * f ∨ y = 4 * f + 1 ∨ y = 4 * f + 2 ∨ y = 4 * f + 3 := by omega
  have hcf : c = f - 1 ∨ c = f ∨ c = f + 1 := by omega
  have he2 : e = 0 ∨ e = 1 := by omega
  rcases hcf with hcf | hcf | hcf <;> rcases hs with hs | hs | hs | hs <;> rcases hd5 with hd5 | hd5 | hd5 | hd5 | hd5 <;> rcases hg4 with hg4 | hg4 | hg4 | hg4 <;> rcases he2 with he2 | he2 <;> subst hcf hs hd5 hg4 he2 <;> omega

/-! The program's date -/
def cN (d : Int) : Int := (d + 719468) % 146097
def cO (d : Int) : Int := (cN d - cN d / 1460 + cN d / 36524 - cN d / 146096) / 365
def cDy (d : Int) : Int := cN d - (365 * cO d + cO d / 4 - cO d / 100)
def cP (d : Int) : Int := (5 * cDy d + 2) / 153
def cE (d : Int) : Int := (d + 719468) / 146097 * 400 + cO d
def cY (d : Int) : Int := if cP d < 10 then cE d else cE d + 1
def cM (d : Int) : Int := if cP d < 10 then cP d + 3 else cP d - 9
def cQ (d : Int) : Int := cDy d - (153 * cP d + 2) / 5
def monthI (d : Int) : Int := (cE d - 1970) * 12 + cP d + 2

theorem civ_base (d : Int) (h0 : 0 ≤ d) (h1 : d ≤ 1000000) : 0 ≤ cN d ∧ cN d ≤ 146096 ∧ 0 ≤ cO d ∧ cO d ≤ 399 ∧ 0 ≤ cDy d ∧ cDy d ≤ 365 ∧ (cDy d = 365 → (cO d + 1) % 4 = 0 ∧ ((cO d + 1) % 100 ≠ 0 ∨ (cO d + 1) % 400 = 0)) ∧ 0 ≤ cP d ∧ cP d ≤ 11 ∧ 1969 ≤ cE d ∧ cE d < 4900 ∧ 0 ≤ cQ d ∧ cQ d ≤ 30 := by
  have hn : 0 ≤ cN d ∧ cN d ≤ 146096 := by unfold cN; omega
  obtain ⟨a, b, c, e, f⟩ := civ_key (cN d) (cO d) hn.1 hn.2 rfl
  have hp : 0 ≤ cP d ∧ cP d ≤ 11 := by unfold cP cDy; omega
  refine ⟨hn.1, hn.2, a, b, c, e, f, hp.1, hp.2, ?_, ?_, ?_, ?_⟩
  · have : cDy d ≤ 365 := e
    unfold cE; unfold cDy at this
    have hz : d + 719468 = (d + 719468) / 146097 * 146097 + cN d := by unfold cN; omega
    omega
  · unfold cE; omega
  · unfold cQ cP; have : 0 ≤ cDy d := c; omega
  · unfold cQ; have h1 : cP d = (5 * cDy d + 2) / 153 := rfl; have : 0 ≤ cDy d := c; omega

/-- Leap years up to a year. -/
theorem leap_pre {E : Int} (h : 0 ≤ E) : (E - 1) / 4 - (E - 1) / 100 + (E - 1) / 400 + (if leapB E then 1 else 0) = E / 4 - E / 100 + E / 400 := by
  have hl := leap_iff h
  by_cases a4 : E % 4 = 0
  · have e4 : (E - 1) / 4 = E / 4 - 1 := by omega
    by_cases a1 : E % 100 = 0
    · have e1 : (E - 1) / 100 = E / 100 - 1 := by omega
      by_cases a0 : E % 400 = 0
      · have e0 : (E - 1) / 400 = E / 400 - 1 := by omega
        rw [hl.2 ⟨a4, .inr a0⟩, e4, e1, e0, if_pos rfl]; omega
      · have e0 : (E - 1) / 400 = E / 400 := by omega
        rw [if_neg (fun h => (hl.1 h).2.elim (fun h => h a1) a0), e4, e1, e0]; omega
    · have e1 : (E - 1) / 100 = E / 100 := by omega
      have e0 : (E - 1) / 400 = E / 400 := by omega
      rw [hl.2 ⟨a4, .inl a1⟩, e4, e1, e0, if_pos rfl]; omega
  · have e4 : (E - 1) / 4 = E / 4 := by omega
    have e1 : (E - 1) / 100 = E / 100 := by omega
    have e0 : (E - 1) / 400 = E / 400 := by omega
    rw [if_neg (fun h => a4 (hl.1 h).1), e4, e1, e0]; omega

theorem civ_date (d : Int) (h0 : 0 ≤ d) (h1 : d ≤ 1000000) : 1970 ≤ cY d ∧ cY d < 5000 ∧ 1 ≤ cM d ∧ cM d ≤ 12 ∧ 0 ≤ cQ d ∧ cQ d < mlen (leapB (cY d)) (cM d) ∧ d = yD (cY d) + mD (leapB (cY d)) (cM d) + cQ d ∧ (cY d - 1970) * 12 + cM d - 1 = monthI d := by
  obtain ⟨n0, n1, o0, o1, y0, y1, y2, p0, p1, e0, e1, q0, q1⟩ := civ_base d h0 h1
  have hz : d + 719468 = (d + 719468) / 146097 * 146097 + cN d := by unfold cN; omega
  have hE : cE d = (d + 719468) / 146097 * 400 + cO d := rfl
  have hD : cDy d = cN d - (365 * cO d + cO d / 4 - cO d / 100) := rfl
  have hP : cP d = (5 * cDy d + 2) / 153 := rfl
  have hQ : cQ d = cDy d - (153 * cP d + 2) / 5 := rfl
  have hM : monthI d = (cE d - 1970) * 12 + cP d + 2 := rfl
  generalize (d + 719468) / 146097 = era at hz hE
  generalize monthI d = mi at *
  unfold cY cM
  generalize cE d = E at *
  generalize cN d = n at *
  generalize cO d = o at *
  generalize cDy d = dy at *
  generalize cP d = p at *
  generalize cQ d = q at *
  have hera : 0 ≤ era := by omega
  have k1 : E / 4 = 100 * era + o / 4 := by omega
  have k2 : E / 100 = 4 * era + o / 100 := by omega
  have k3 : E / 400 = era := by omega
  by_cases hp : p < 10
  · simp only [hp, if_true]
    have hl := leap_iff (y := E) (by omega)
    have hp' : p = 0 ∨ p = 1 ∨ p = 2 ∨ p = 3 ∨ p = 4 ∨ p = 5 ∨ p = 6 ∨ p = 7 ∨ p = 8 ∨ p = 9 := by omega
    have e70 : 1970 ≤ E := by
      by_cases h : 1970 ≤ E
      · exact h
      · have : E = 1969 := by omega
        omega
    refine ⟨e70, by omega, by omega, by omega, q0, ?_, ?_, by omega⟩
    · rcases hp' with rfl | rfl | rfl | rfl | rfl | rfl | rfl | rfl | rfl | rfl <;> simp only [mlen] <;> simp <;> omega
    · have hmD : mD (leapB E) (p + 3) = (153 * p + 2) / 5 + (59 + (if leapB E then 1 else 0)) := by
        unfold mD; rw [if_neg (by omega), if_neg (by omega)]; congr 3; omega
      rw [hmD]
      unfold yD
      have key : (E - 1) / 4 - (E - 1) / 100 + (E - 1) / 400 + (if leapB E then 1 else 0) = E / 4 - E / 100 + E / 400 := leap_pre (by omega)
      omega
  · simp only [hp, if_false]
    have hl := leap_iff (y := E + 1) (by omega)
    have hp' : p = 10 ∨ p = 11 := by omega
    refine ⟨by omega, by omega, by omega, by omega, q0, ?_, ?_, by omega⟩
    · rcases hp' with rfl | rfl
      · simp only [mlen]; simp; omega
      · have e2 : (11 : Int) - 9 = 2 := by omega
        rw [e2]
        simp only [mlen, if_true]
        cases hb : leapB (E + 1) with
        | true => simp only [if_true]; omega
        | false =>
          have : ¬ ((E + 1) % 4 = 0 ∧ ((E + 1) % 100 ≠ 0 ∨ (E + 1) % 400 = 0)) := fun h => by rw [hl.2 h] at hb; cases hb
          have hdy : dy ≠ 365 := fun h => this (by have := y2 h; omega)
          simp only [Bool.false_eq_true, if_false]; omega
    · have hmD : mD (leapB (E + 1)) (p - 9) = (153 * p + 2) / 5 - 306 := by
        unfold mD; rw [if_pos (by omega), if_pos (by omega)]; rw [show p - 9 + 9 = p by omega]; omega
      rw [hmD]
      unfold yD
      rw [show E + 1 - 1 = E by omega, k1, k2, k3]
      omega
theorem monthI_range (d : Int) (h0 : 0 ≤ d) (h1 : d ≤ 1000000) : 0 ≤ monthI d ∧ monthI d ≤ 40000 := by
  obtain ⟨a, b, c, e, f, g, h, i⟩ := civ_date d h0 h1
  omega

theorem qdiv {a b : Int} (h : 0 ≤ a) (hb : 1 < b) (ha : a ≤ 9223372036854775807) : IntKind.i64.wrap (a.tdiv b) = a / b := by
  rw [Int.tdiv_eq_ediv_of_nonneg h]
  have := Int.ediv_le_self b h
  have := Int.ediv_nonneg h (show 0 ≤ b by omega)
  exact wrap_in (by omega) (by omega)

theorem date_spec (d : Int) (h0 : 0 ≤ d) (h1 : d ≤ 1000000) : APure Try.prog 253 [i64 d] (.tup [i64 (cY d), i64 (cM d), i64 (cQ d + 1)]) := by
  intro s
  obtain ⟨n0, n1, o0, o1, y0, y1, y2, p0, p1, e0, e1, q0, q1⟩ := civ_base d h0 h1
  have f0 : IntKind.i64.wrap (d + 719468) = d + 719468 := wrap_in (by omega) (by omega)
  have fn : (d + 719468).tmod 146097 = cN d := by rw [Int.tmod_eq_emod_of_nonneg (by omega)]; rfl
  have f1 : IntKind.i64.wrap ((cN d).tdiv 1460) = cN d / 1460 := qdiv n0 (by omega) (by omega)
  have f2 : IntKind.i64.wrap (cN d - cN d / 1460) = cN d - cN d / 1460 := wrap_in (by omega) (by omega)
  have f3 : IntKind.i64.wrap ((cN d).tdiv 36524) = cN d / 36524 := qdiv n0 (by omega) (by omega)
  have f4 : IntKind.i64.wrap (cN d - cN d / 1460 + cN d / 36524) = cN d - cN d / 1460 + cN d / 36524 := wrap_in (by omega) (by omega)
  have f5 : IntKind.i64.wrap ((cN d).tdiv 146096) = cN d / 146096 := qdiv n0 (by omega) (by omega)
  have f6 : IntKind.i64.wrap (cN d - cN d / 1460 + cN d / 36524 - cN d / 146096) = cN d - cN d / 1460 + cN d / 36524 - cN d / 146096 := wrap_in (by omega) (by omega)
  have f7 : IntKind.i64.wrap ((cN d - cN d / 1460 + cN d / 36524 - cN d / 146096).tdiv 365) = cO d := qdiv (by omega) (by omega) (by omega)
  have f8 : IntKind.i64.wrap (365 * cO d) = 365 * cO d := wrap_in (by omega) (by omega)
  have f9 : IntKind.i64.wrap ((cO d).tdiv 4) = cO d / 4 := qdiv o0 (by omega) (by omega)
  have f10 : IntKind.i64.wrap (365 * cO d + cO d / 4) = 365 * cO d + cO d / 4 := wrap_in (by omega) (by omega)
  have f11 : IntKind.i64.wrap ((cO d).tdiv 100) = cO d / 100 := qdiv o0 (by omega) (by omega)
  have f12 : IntKind.i64.wrap (365 * cO d + cO d / 4 - cO d / 100) = 365 * cO d + cO d / 4 - cO d / 100 := wrap_in (by omega) (by omega)
  have f13 : IntKind.i64.wrap (cN d - (365 * cO d + cO d / 4 - cO d / 100)) = cDy d := wrap_in (by omega) (by omega)
  have f14 : IntKind.i64.wrap (5 * cDy d) = 5 * cDy d := wrap_in (by omega) (by omega)
  have f15 : IntKind.i64.wrap (5 * cDy d + 2) = 5 * cDy d + 2 := wrap_in (by omega) (by omega)
  have f16 : IntKind.i64.wrap ((5 * cDy d + 2).tdiv 153) = cP d := qdiv (by omega) (by omega) (by omega)
  have f17 : IntKind.i64.wrap (153 * cP d) = 153 * cP d := wrap_in (by omega) (by omega)
  have f18 : IntKind.i64.wrap (153 * cP d + 2) = 153 * cP d + 2 := wrap_in (by omega) (by omega)
  have f19 : IntKind.i64.wrap ((153 * cP d + 2).tdiv 5) = (153 * cP d + 2) / 5 := qdiv (by omega) (by omega) (by omega)
  have f20 : IntKind.i64.wrap (cDy d - (153 * cP d + 2) / 5) = cQ d := wrap_in (by omega) (by omega)
  have f20' : IntKind.i64.wrap (cQ d) = cQ d := wrap_in (by omega) (by omega)
  have f21 : IntKind.i64.wrap (cQ d + 1) = cQ d + 1 := wrap_in (by omega) (by omega)
  have f22 : IntKind.i64.wrap ((d + 719468).tdiv 146097) = (d + 719468) / 146097 := qdiv (by omega) (by omega) (by omega)
  have f23 : IntKind.i64.wrap ((d + 719468) / 146097 * 400) = (d + 719468) / 146097 * 400 := wrap_in (by omega) (by omega)
  have f24 : IntKind.i64.wrap ((d + 719468) / 146097 * 400 + cO d) = cE d := wrap_in (by omega) (by omega)
  have g1 : IntKind.i64.wrap (cP d) = cP d := wrap_in (by omega) (by omega)
  have g2 : IntKind.i64.wrap (cP d + 3) = cP d + 3 := wrap_in (by omega) (by omega)
  have g3 : IntKind.i64.wrap (cE d + 1) = cE d + 1 := wrap_in (by omega) (by omega)
  have g4 : IntKind.i64.wrap (cP d - 9) = cP d - 9 := wrap_in (by omega) (by omega)
  refine enterA ⟨[]⟩ (Try.f253.body.getD .skip) [.tmp 2, .tmp 3, .tmp 4] Try.func253 fun hwf hbel => ?_; simp only [Try.f253, push_cast, ↓EPM, ↓reduceIte, seval, reduceCtorEq]
  simp only [f0, fn, f1, f2, f3, f4, f5, f6, f7, f8, f9, f10, f11, f12, f13, f14, f15, f16, f17, f18, f19, f20, f20', f21, f22, f23, f24, g1, push_cast, ↓EPM, ↓reduceIte, seval, reduceCtorEq]
  by_cases hp : cP d < 10
  · rw [show cY d = cE d from if_pos hp, show cM d = cP d + 3 from if_pos hp]
    simp only [hp, g2, push_cast, ↓EPM, ↓reduceIte, seval, reduceCtorEq]
    exact RetP [i64 (cE d), i64 (cP d + 3), i64 (cQ d + 1)]
  · rw [show cY d = cE d + 1 from if_neg hp, show cM d = cP d - 9 from if_neg hp]
    simp only [hp, g3, g4, push_cast, ↓EPM, ↓reduceIte, seval, reduceCtorEq]
    exact RetP [i64 (cE d + 1), i64 (cP d - 9), i64 (cQ d + 1)]

theorem monthOf_spec (d : Int) (h0 : 0 ≤ d) (h1 : d ≤ 1000000) : APure Try.prog 176 [i64 d] (i64 (monthI d)) := by
  intro s
  obtain ⟨a, b, c, e, f, g, h, i⟩ := civ_date d h0 h1
  have w1 : IntKind.i64.wrap (cY d - 1970) = cY d - 1970 := wrap_in (by omega) (by omega)
  have w2 : IntKind.i64.wrap ((cY d - 1970) * 12) = (cY d - 1970) * 12 := wrap_in (by omega) (by omega)
  have w3 : IntKind.i64.wrap (cM d - 1) = cM d - 1 := wrap_in (by omega) (by omega)
  have w4 : IntKind.i64.wrap ((cY d - 1970) * 12 + (cM d - 1)) = monthI d := by rw [wrap_in (by omega) (by omega)]; omega
  refine enterA ⟨[]⟩ (Try.f176.body.getD .skip) [.tmp 2] Try.func176 fun hwf hbel => ?_; simp only [Try.f176, push_cast, ↓EPM, ↓reduceIte, seval, reduceCtorEq]
  refine (date_spec d h0 h1).use ?_
  simp only [w1, w2, w3, w4, push_cast, ↓EPM, ↓reduceIte, seval, reduceCtorEq]
  exact RetP [i64 (monthI d)]
theorem rmonthI_spec (d : Int) (h0 : 0 ≤ d) (h1 : d ≤ 1000000) : APure Try.prog 182 [i64 d] (i64 (monthI d)) := by
  obtain ⟨a, b, c, e, f, g, h, i⟩ := civ_date d h0 h1
  rw [← i]
  exact rmonthOf_spec d (cY d) (cM d) (cQ d) a b c e f g h
theorem dayOf_spec (h : Int) (h0 : 0 ≤ h) (h1 : h ≤ 9223372036854775807) : APure Try.prog 175 [i64 h] (i64 (h / 24)) := by
  intro s
  have w := qdiv (a := h) (b := 24) h0 (by omega) h1
  refine enterA ⟨[]⟩ (Try.f175.body.getD .skip) [.tmp 2] Try.func175 fun hwf hbel => ?_; simp only [Try.f175, push_cast, ↓EPM, ↓reduceIte, seval, reduceCtorEq]
  simp only [w, push_cast, ↓EPM, ↓reduceIte, seval, reduceCtorEq]
  exact RetP [i64 (h / 24)]
end Go.Proofs

namespace Go.Proofs
open Go Go.Av
set_option linter.unusedSimpArgs false
set_option linter.unusedVariables false
set_option maxRecDepth 30000
set_option maxHeartbeats 4000000

/-! Partitions -/
abbrev partA (t i : Int) : AV := .agg [i64 t, i64 i]
def pIdx (t h : Int) : Int := if t = 1 then h else if t = 2 then h / 24 else monthI (h / 24)
def pOk (t h : Int) : Prop := 0 ≤ h ∧ h ≤ 16777216 ∧ 1 ≤ t ∧ t ≤ 3
instance (t h : Int) : Decidable (pOk t h) := inferInstanceAs (Decidable (_ ∧ _))
def resT (t h : Int) : AV := if pOk t h then .tup [partA t (pIdx t h), boo true] else .tup [partA 0 0, boo false]
attribute [push_cast] partA

theorem pof_spec (t h : Int) : APure Try.prog 99 [i64 t, i64 h] (resT t h) := by
  intro s
  refine enterA ⟨[]⟩ (Try.f99.body.getD .skip) [.cell 4 35, .tmp 5] Try.func99 fun hwf hbel => ?_; simp only [Try.f99, push_cast, ↓EPM, ↓reduceIte, seval, reduceCtorEq]
  by_cases h0 : h < 0
  · rw [resT, if_neg (by unfold pOk; omega)]
    simp only [h0, push_cast, ↓EPM, ↓reduceIte, seval, reduceCtorEq]
    exact RetP [partA 0 0, boo false]
  by_cases h1 : h > 16777216
  · rw [resT, if_neg (by unfold pOk; omega)]
    simp only [h0, h1, push_cast, ↓EPM, ↓reduceIte, seval, reduceCtorEq]
    exact RetP [partA 0 0, boo false]
  have hd := Int.ediv_nonneg (a := h) (b := 24) (by omega) (by omega)
  simp only [h0, h1, push_cast, ↓EPM, ↓reduceIte, seval, reduceCtorEq]
  by_cases t1 : t = 1
  · subst t1
    rw [resT, if_pos (by unfold pOk; omega), show pIdx 1 h = h from rfl]
    simp only [push_cast, ↓EPM, ↓reduceIte, seval, reduceCtorEq]
    exact RetP [partA 1 h, boo true]
  by_cases t2 : t = 2
  · subst t2
    rw [resT, if_pos (by unfold pOk; omega), show pIdx 2 h = h / 24 from rfl]
    simp only [push_cast, ↓EPM, ↓reduceIte, seval, reduceCtorEq]
    refine (dayOf_spec h (by omega) (by omega)).use ?_
    simp only [push_cast, ↓EPM, ↓reduceIte, seval, reduceCtorEq]
    exact RetP [partA 2 (h / 24), boo true]
  by_cases t3 : t = 3
  · subst t3
    rw [resT, if_pos (by unfold pOk; omega), show pIdx 3 h = monthI (h / 24) from rfl]
    simp only [push_cast, ↓EPM, ↓reduceIte, seval, reduceCtorEq]
    refine (dayOf_spec h (by omega) (by omega)).use ?_
    simp only [push_cast, ↓EPM, ↓reduceIte, seval, reduceCtorEq]
    refine (monthOf_spec (h / 24) (by omega) (by omega)).use ?_
    simp only [push_cast, ↓EPM, ↓reduceIte, seval, reduceCtorEq]
    exact RetP [partA 3 (monthI (h / 24)), boo true]
  rw [resT, if_neg (by unfold pOk; omega)]
  simp only [t1, t2, t3, push_cast, ↓EPM, ↓reduceIte, seval, reduceCtorEq]
  exact RetP [partA 0 0, boo false]

theorem most_spec (t : Int) : APure Try.prog 181 [i64 t] (i64 (if t = 1 then 16777216 else if t = 2 then 699050 else if t = 3 then monthI 699050 else -1)) := by
  intro s
  refine enterA ⟨[]⟩ (Try.f181.body.getD .skip) [.tmp 2] Try.func181 fun hwf hbel => ?_; simp only [Try.f181, push_cast, ↓EPM, ↓reduceIte, seval, reduceCtorEq]
  by_cases t1 : t = 1
  · subst t1
    simp only [push_cast, ↓EPM, ↓reduceIte, seval, reduceCtorEq]
    exact RetP [i64 16777216]
  by_cases t2 : t = 2
  · subst t2
    simp only [push_cast, ↓EPM, ↓reduceIte, seval, reduceCtorEq]
    exact RetP [i64 699050]
  by_cases t3 : t = 3
  · subst t3
    simp only [push_cast, ↓EPM, ↓reduceIte, seval, reduceCtorEq]
    refine (rmonthI_spec 699050 (by omega) (by omega)).use ?_
    simp only [push_cast, ↓EPM, ↓reduceIte, seval, reduceCtorEq]
    exact RetP [i64 (monthI 699050)]
  simp only [t1, t2, t3, push_cast, ↓EPM, ↓reduceIte, seval, reduceCtorEq]
  exact RetP [i64 (-1)]

theorem rpof_spec (t h : Int) : APure Try.prog 104 [i64 t, i64 h] (resT t h) := by
  intro s
  refine enterA ⟨[]⟩ (Try.f104.body.getD .skip) [.cell 4 35, .tmp 5] Try.func104 fun hwf hbel => ?_; simp only [Try.f104, push_cast, ↓EPM, ↓reduceIte, seval, reduceCtorEq]
  by_cases h0 : h < 0
  · rw [resT, if_neg (by unfold pOk; omega)]
    simp only [h0, push_cast, ↓EPM, ↓reduceIte, seval, reduceCtorEq]
    exact RetP [partA 0 0, boo false]
  by_cases h1 : h > 16777216
  · rw [resT, if_neg (by unfold pOk; omega)]
    simp only [h0, h1, push_cast, ↓EPM, ↓reduceIte, seval, reduceCtorEq]
    exact RetP [partA 0 0, boo false]
  have hd := Int.ediv_nonneg (a := h) (b := 24) (by omega) (by omega)
  have wd := qdiv (a := h) (b := 24) (by omega) (by omega) (by omega)
  simp only [h0, h1, push_cast, ↓EPM, ↓reduceIte, seval, reduceCtorEq]
  refine (most_spec t).use ?_
  by_cases t1 : t = 1
  · subst t1
    rw [resT, if_pos (by unfold pOk; omega), show pIdx 1 h = h from rfl]
    simp only [push_cast, ↓EPM, ↓reduceIte, seval, reduceCtorEq]
    exact RetP [partA 1 h, boo true]
  by_cases t2 : t = 2
  · subst t2
    rw [resT, if_pos (by unfold pOk; omega), show pIdx 2 h = h / 24 from rfl]
    simp only [wd, push_cast, ↓EPM, ↓reduceIte, seval, reduceCtorEq]
    exact RetP [partA 2 (h / 24), boo true]
  by_cases t3 : t = 3
  · subst t3
    rw [resT, if_pos (by unfold pOk; omega), show pIdx 3 h = monthI (h / 24) from rfl]
    have hm : ¬ (monthI 699050 < 0) := by have := monthI_range 699050 (by omega) (by omega); omega
    simp only [hm, wd, push_cast, ↓EPM, ↓reduceIte, seval, reduceCtorEq]
    refine (rmonthI_spec (h / 24) (by omega) (by omega)).use ?_
    simp only [push_cast, ↓EPM, ↓reduceIte, seval, reduceCtorEq]
    exact RetP [partA 3 (monthI (h / 24)), boo true]
  rw [resT, if_neg (by unfold pOk; omega)]
  simp only [t1, t2, t3, push_cast, ↓EPM, ↓reduceIte, seval, reduceCtorEq]
  exact RetP [partA 0 0, boo false]
end Go.Proofs

namespace Go.Proofs
open Go Go.Av
set_option linter.unusedSimpArgs false
set_option linter.unusedVariables false
set_option maxRecDepth 30000
set_option maxHeartbeats 2000000

def keysA (l : List Key) : List (List AV) := l.map Key.av
theorem keysA_len (l : List Key) : (keysA l).length = l.length := by simp [keysA]
theorem keysA_app (l m : List Key) : keysA (l ++ m) = keysA l ++ keysA m := by simp [keysA]
theorem keysA_get {l : List Key} {i : Nat} {x : Key} (h : l[i]? = some x) : (keysA l).getD i [] = x.av := by simp [keysA, List.getD_eq_getElem?_getD, h]
theorem keysA_bel (n : Nat) (l : List Key) : (∀ x ∈ keysA l, ∀ c ∈ x, Bel n c) = True := eq_true (by
  intro x hx c hc
  simp only [keysA, List.mem_map] at hx
  obtain ⟨k, _, rfl⟩ := hx
  simp only [Key.av, List.mem_cons, List.not_mem_nil, or_false] at hc
  rcases hc with rfl | rfl | rfl | rfl | rfl <;> exact .v _)
attribute [push_cast] keysA_len keysA_bel
def entA (l : List (Key × Cell)) : List (AV × AV) := l.map fun p => (.agg p.1.av, .agg p.2.av)
theorem entA_len (l : List (Key × Cell)) : (entA l).length = l.length := by simp [entA]

theorem keysOf_spec (m : Nat) : APure Try.prog 102 [.mp m] (.fn 180 [] [.ep [.mp m] 0]) := by
  intro s
  refine enterA ⟨[1]⟩ (Try.f102.body.getD .skip) [.tmp 2] Try.func102 fun hwf hbel => ?_; simp only [Try.f102, push_cast, ↓EPM, ↓reduceIte, seval, reduceCtorEq]
  exact Ret_pure (l := [.fn 180 [] [.ep [.mp m] 0]]) (.inr rfl) rfl (by simp only [push_cast, ↓EPM, ↓reduceIte, seval, reduceCtorEq] <;> rfl) rfl (by first | exact Keeps.base _ _ | (repeat (first | exact Keeps.base _ _ | refine Keeps.new ?_ _ | refine Keeps.set ?_ (by first | (simp; done) | omega | (simp only [EO]; omega)) _))) (by
    have := hbel (.mp m) (by simp)
    simp only [packAV, Bel_fn, List.not_mem_nil, false_implies, implies_true, List.mem_cons, or_false, forall_eq, Bel_ep, true_and]
    exact this)

/-- The box holds the keys that have come. -/
def upd (s : AState) (bx rid : Nat) (l : List Key) : AState := (s.set bx (.cells [.sl 5 (keysA l) (.row rid l.length)])).set rid (.row l.length)

/-- The keys at places. -/
def keysAt (l : List (Key × Cell)) (is : List Nat) : List Key := is.map fun i => ((l[i]?).map (·.1)).getD ⟨0, .empty, .empty, .empty, .empty⟩

theorem keysAt_all {l : List (Key × Cell)} {is : List Nat} (hn : is.Nodup) (hlt : ∀ i ∈ is, i < l.length) (hall : ∀ i, i < l.length → i ∈ is) : (keysAt l is).Perm (l.map (·.1)) := by
  have hp : is.Perm (List.range l.length) := (List.perm_ext_iff_of_nodup hn List.nodup_range).2 fun i => ⟨fun h => List.mem_range.2 (hlt i h), fun h => hall i (List.mem_range.1 h)⟩
  refine (hp.map _).trans (List.Perm.of_eq ?_)
  apply List.ext_getElem (by simp)
  intro i h1 h2
  simp at h2
  simp [h2]

theorem nodup_le {n : Nat} {is : List Nat} (hn : is.Nodup) (hlt : ∀ i ∈ is, i < n) : is.length ≤ n := by
  have hp : is.Perm ((List.range n).filter fun i => decide (i ∈ is)) := (List.perm_ext_iff_of_nodup hn (List.nodup_range.filter _)).2 fun i => by
    simp only [List.mem_filter, List.mem_range, decide_eq_true_eq]
    exact ⟨fun h => ⟨hlt i h, h⟩, fun h => h.2⟩
  have := List.length_filter_le (fun i => decide (i ∈ is)) (List.range n)
  rw [hp.length_eq]
  simpa using this

theorem upd_len {s : AState} {bx rid : Nat} {l : List Key} : (upd s bx rid l).next = s.next ∧ (upd s bx rid l).base = s.base := ⟨rfl, rfl⟩
theorem upd_bx {s : AState} {bx rid : Nat} {l : List Key} (h : bx ≠ rid) : (upd s bx rid l).obj bx = some (.cells [.sl 5 (keysA l) (.row rid l.length)]) := by simp [upd, AState.set, h]
theorem upd_rid {s : AState} {bx rid : Nat} {l : List Key} : (upd s bx rid l).obj rid = some (.row l.length) := by simp [upd, AState.set]
theorem upd_ne {s : AState} {bx rid i : Nat} {l : List Key} (h1 : i ≠ bx) (h2 : i ≠ rid) : (upd s bx rid l).obj i = s.obj i := by simp [upd, AState.set, h1, h2]

theorem Wf_upd {s : AState} {bx rid : Nat} {l : List Key} (h : s.Wf) (h1 : bx < s.next) (h2 : rid < s.next) : (upd s bx rid l).Wf := by
  intro id o ho
  simp only [upd, AState.set] at ho ⊢
  split at ho
  · rename_i e; subst e; cases ho; exact ⟨h2, trivial⟩
  · split at ho
    · rename_i e; subst e; cases ho
      refine ⟨h1, ?_⟩
      intro c hc
      simp only [List.mem_cons, List.not_mem_nil, or_false] at hc
      subst hc
      exact Bel_sl.2 ⟨of_eq_true (keysA_bel _ _), h2⟩
    · exact h id o ho
theorem upd_nil {s : AState} {bx rid : Nat} (h1 : s.obj bx = some (.cells [.sl 5 [] (.row rid 0)])) (h2 : s.obj rid = some (.row 0)) : upd s bx rid [] = s := by
  refine AState.ext' (fun i => ?_) rfl rfl
  simp only [upd, AState.set]
  split
  · rename_i e; subst e; exact h2.symm
  · split
    · rename_i e; subst e; exact h1.symm
    · rfl

theorem u85 : Try.prog.underlying 204 = some (.map 82 79) := by simp only [unders]
theorem u39 : Try.prog.underlying 82 = some (Try.prog.underlying 82).get! := by simp only [unders]; rfl

theorem entA_get {l : List (Key × Cell)} {i : Nat} {q : AV × AV} (h : (entA l)[i]? = some q) : ∃ p, l[i]? = some p ∧ q = (.agg p.1.av, .agg p.2.av) := by
  simp only [entA, List.getElem?_map, Option.map_eq_some_iff] at h
  obtain ⟨p, hp, rfl⟩ := h
  exact ⟨p, hp, rfl⟩
theorem keysAt_len (l : List (Key × Cell)) (is : List Nat) : (keysAt l is).length = is.length := by simp [keysAt]
theorem keysAt_snoc {l : List (Key × Cell)} {is : List Nat} {i : Nat} {p : Key × Cell} (h : l[i]? = some p) : keysAt l (is ++ [i]) = keysAt l is ++ [p.1] := by simp [keysAt, h]

theorem keyIter_spec (l : List (Key × Cell)) (s : AState) (L bx rid m : Nat) (eL : Env) (ps : List Nat) (nt : Nat) (asg body : Code) (D : Nat) (hL : s.obj L = some (.loop eL ps nt asg body .ready none D))
    (hbx : s.obj bx = some (.cells [.sl 5 [] (.row rid 0)])) (hrid : s.obj rid = some (.row 0)) (hm : s.obj m = some (.map (entA l))) (hlen : l.length ≤ 1000000)
    (hy : ∀ (s' : AState) (acc : List Key) (x : Key), s'.obj L = some (.loop eL ps nt asg body .ready none D) → s'.obj bx = some (.cells [.sl 5 (keysA acc) (.row rid acc.length)]) → s'.obj rid = some (.row acc.length) → acc.length < l.length →
      AYield Try.prog L [.agg x.av] s' (fun d s'' => d = boo true ∧ s'' = upd s' bx rid (acc ++ [x]))) :
    ACalls Try.prog 180 [.yl L, .ep [.mp m] 0] s (fun d s' => d = .tup [] ∧ ∃ ks : List Key, ks.Perm (l.map (·.1)) ∧ s' = upd s bx rid ks) := by
  have n1 : L ≠ bx := by rintro rfl; rw [hL] at hbx; cases hbx
  have n2 : L ≠ rid := by rintro rfl; rw [hL] at hrid; cases hrid
  have n3 : bx ≠ rid := by rintro rfl; rw [hbx] at hrid; cases hrid
  have n4 : m ≠ bx := by rintro rfl; rw [hm] at hbx; cases hbx
  have n5 : m ≠ rid := by rintro rfl; rw [hm] at hrid; cases hrid
  refine enterA ⟨[]⟩ (Try.f180.body.getD .skip) [] Try.func180 fun hwf hbel => ?_; simp only [Try.f180, push_cast, ↓EPM, ↓reduceIte, seval, reduceCtorEq]
  have k1 := (hwf _ _ hL).1
  have k2 := (hwf _ _ hbx).1
  have k3 := (hwf _ _ hrid).1
  have k4 := (hwf _ _ hm).1
  refine range_law (id := m) (es := entA l) u85 rfl hm ?_
  rw [entA_len]
  simp only [push_cast, ↓EPM, ↓reduceIte, seval, reduceCtorEq]
  refine ALoop_inv (ι := List Nat) (fun is => is.Nodup ∧ ∀ i ∈ is, i < l.length) (fun is => envL [(0, .yl L), (1, .ep [.mp m] 0), (5, .ptr s.next 0)]) (fun is => upd (AState.new { s with base := ⟨s.next, []⟩ } (.iter m l.length is)) bx rid (keysAt l is)) (fun is => l.length - is.length) [] ⟨List.nodup_nil, fun _ h => by cases h⟩ ?_ (fun is hi => ?_)
  · rw [show keysAt l [] = [] from rfl, upd_nil (by simp only [AState.new]; rw [if_neg (by omega)]; exact hbx) (by simp only [AState.new]; rw [if_neg (by omega)]; exact hrid)]
    refine ent rfl ?_
    simp only [push_cast, ↓EPM, ↓reduceIte, seval, reduceCtorEq]
  · obtain ⟨hn, hlt⟩ := hi
    have hit : (upd (AState.new { s with base := ⟨s.next, []⟩ } (.iter m l.length is)) bx rid (keysAt l is)).obj s.next = some (.iter m l.length is) := by (simp only [upd, AState.set, AState.new]; (repeat (first | rw [if_neg (by omega)] | rw [if_pos (by omega)] | (simp only [↓reduceIte]; done) | simp only [↓reduceIte])); try rfl)
    have hmm : (upd (AState.new { s with base := ⟨s.next, []⟩ } (.iter m l.length is)) bx rid (keysAt l is)).obj m = some (.map (entA l)) := by (simp only [upd, AState.set, AState.new]; (repeat (first | rw [if_neg (by omega)] | rw [if_pos (by omega)] | (simp only [↓reduceIte]; done) | simp only [↓reduceIte])); try rfl); exact hm
    simp only [push_cast, ↓EPM, ↓reduceIte, seval, reduceCtorEq]
    refine next_law (id := s.next) (m := m) (n := l.length) (seen := is) (es := entA l) rfl hit hmm (entA_len l) (fun hall => ?_) (fun i q hq hni => ?_)
    · simp only [push_cast, ↓EPM, ↓reduceIte, seval, reduceCtorEq]
      refine Ret_drop (S := upd s bx rid (keysAt l is)) (l := []) (m := []) (.inl rfl) rfl rfl trivial rfl rfl (Nat.le_succ _) ?_ (by simp only [packAV, Bel_tup]; simp) ⟨rfl, _, keysAt_all hn hlt hall, rfl⟩
      intro i o ho
      obtain ⟨h1, h2⟩ := Wf_upd hwf k2 k3 i o ho
      refine ⟨h1, h2, ?_⟩
      rw [← ho]
      simp only [upd, AState.set, AState.new] at h1 ⊢
      (repeat' split) <;> first | rfl | omega
    · obtain ⟨p, hp, rfl⟩ := entA_get hq
      simp only [push_cast, ↓EPM, ↓reduceIte, seval, reduceCtorEq]
      refine entry_law (id := s.next) (m := m) (n := l.length) (i := i) (seen := is) (es := entA l) rfl ?_ ?_ (entA_len l) hq ?_
      · (simp only [upd, AState.set, AState.new]; (repeat (first | rw [if_neg (by omega)] | rw [if_pos (by omega)] | (simp only [↓reduceIte]; done) | simp only [↓reduceIte])); try rfl)
      · (simp only [upd, AState.set, AState.new]; (repeat (first | rw [if_neg (by omega)] | rw [if_pos (by omega)] | (simp only [↓reduceIte]; done) | simp only [↓reduceIte])); try rfl); exact hm
      simp only [push_cast, ↓EPM, ↓reduceIte, seval, reduceCtorEq]
      simp only [EZ, EZ0, push_cast, ↓EPM, ↓reduceIte, seval, reduceCtorEq]
      have hil : i < l.length := (List.getElem?_eq_some_iff.1 hp).1
      have hn2 : (is ++ [i]).Nodup := by
        rw [List.nodup_append]; exact ⟨hn, by simp, by intro a ha b hb; simp at hb; subst hb; intro e; subst e; exact hni ha⟩
      have hlt2 : ∀ j ∈ is ++ [i], j < l.length := by
        intro j hj
        rcases List.mem_append.1 hj with hj | hj
        · exact hlt j hj
        · simp at hj; omega
      have hle2 := nodup_le hn2 hlt2
      simp only [List.length_append, List.length_cons, List.length_nil] at hle2
      refine AYield_use (hy _ (keysAt l is) p.1 ?_ ?_ ?_ (by rw [keysAt_len]; omega)) ?_
      · (simp only [upd, AState.set, AState.new]; (repeat (first | rw [if_neg (by omega)] | rw [if_pos (by omega)] | (simp only [↓reduceIte]; done) | simp only [↓reduceIte])); try rfl); exact hL
      · (simp only [upd, AState.set, AState.new]; (repeat (first | rw [if_neg (by omega)] | rw [if_pos (by omega)] | (simp only [↓reduceIte]; done) | simp only [↓reduceIte])); try rfl)
      · (simp only [upd, AState.set, AState.new]; (repeat (first | rw [if_neg (by omega)] | rw [if_pos (by omega)] | (simp only [↓reduceIte]; done) | simp only [↓reduceIte])); try rfl)
      simp only [push_cast, ↓EPM, ↓reduceIte, seval, reduceCtorEq]
      refine round_next (is ++ [i]) ⟨hn2, hlt2⟩ (by simp only [List.length_append, List.length_cons, List.length_nil]; omega) (AEnt_drop rfl rfl (Nat.le_succ _) ?_ (Wf_upd ((hwf.base _).new ?_) (by simp only [AState.new]; omega) (by simp only [AState.new]; omega)) (EntB_all ?_))
      · rw [keysAt_snoc hp]
        refine ⟨by simp only [upd, EO]; omega, fun id hid => ?_⟩
        simp only [upd, AState.set, AState.new] at hid ⊢
        (repeat' split) <;> first | rfl | omega
      · show m < s.next + 1; omega
      simp only [push_cast, ↓EPM, ↓reduceIte, seval, reduceCtorEq]
      try simp only [List.mem_cons, List.not_mem_nil, or_false, forall_eq, upd, EO]
      (try first | omega | ((repeat' apply And.intro) <;> first | omega | (simp only [push_cast, ↓EPM, ↓reduceIte, seval, reduceCtorEq, List.mem_cons, List.not_mem_nil, or_false, forall_eq_or_imp, forall_eq, and_self, true_and, and_true, zeroR]; done) | (simp only [push_cast, ↓EPM, ↓reduceIte, seval, reduceCtorEq, List.mem_cons, List.not_mem_nil, or_false, forall_eq_or_imp, forall_eq, and_self, true_and, and_true, zeroR]; omega)))

end Go.Proofs

/-
  DERIVED: THE SHELF's CONTRACTS AT THIS DUMP, IN PLAIN WORDS (tools/lay-plain.mjs out of 'TryShelf.lean', which tools/lay-shelf.mjs wrote): THE SAME DECLARATIONS UNDER THE SAME NAMES: 'import', 'namespace', 'open', 'def', 'theorem' AND NOTHING ELSE: no command of the shelf's: FOR A HAND-IN. Each laying: the table of numbers ('.._ren') and one theorem, a field a fact of the dump's own or the kernel's comparison; each contract: ONE APPLICATION.
-/
namespace Go.Proofs
open Go.Shelf
def Try.sortX_ren : Go.Shelf.Ren := ⟨fun | 6 => 71 | 15 => 143 | 14 => 142 | 28 => 233 | 29 => 234 | 20 => 225 | 21 => 226 | 22 => 227 | 23 => 228 | 24 => 229 | 25 => 230 | 26 => 231 | 27 => 232 | 46 => 273 | 47 => 274 | 48 => 275 | 49 => 276 | 50 => 277 | 57 => 300 | n => n, fun | 22 => 44 | 24 => 151 | 25 => 157 | 3 => 3 | 39 => 274 | 0 => 0 | 53 => 349 | 55 => 176 | 4 => 4 | 46 => 343 | 45 => 342 | 50 => 261 | 5 => 5 | 9 => 9 | 66 => 382 | 70 => 385 | 76 => 400 | 77 => 401 | n => n, fun | n => n⟩
theorem Try.sortX : Go.Proofs.SlLaysF0.n6 Try.prog Try.sortX_ren := {
  mixed := by kernel_rfl
  f6 := ⟨Try.f71.name, by decide, Try.func71.trans (congrArg some (by kernel_rfl))⟩
  f14 := ⟨Try.f142.name, by decide, Try.func142.trans (congrArg some (by kernel_rfl))⟩
  f15 := Try.func143.trans (congrArg some (by kernel_rfl))
  f20 := ⟨Try.f225.name, by decide, Try.func225.trans (congrArg some (by kernel_rfl))⟩
  f21 := ⟨Try.f226.name, by decide, Try.func226.trans (congrArg some (by kernel_rfl))⟩
  f22 := ⟨Try.f227.name, by decide, Try.func227.trans (congrArg some (by kernel_rfl))⟩
  f23 := ⟨Try.f228.name, by decide, Try.func228.trans (congrArg some (by kernel_rfl))⟩
  f24 := ⟨Try.f229.name, by decide, Try.func229.trans (congrArg some (by kernel_rfl))⟩
  f25 := ⟨Try.f230.name, by decide, Try.func230.trans (congrArg some (by kernel_rfl))⟩
  f26 := ⟨Try.f231.name, by decide, Try.func231.trans (congrArg some (by kernel_rfl))⟩
  f27 := ⟨Try.f232.name, by decide, Try.func232.trans (congrArg some (by kernel_rfl))⟩
  f28 := Try.func233.trans (congrArg some (by kernel_rfl))
  f29 := Try.func234.trans (congrArg some (by kernel_rfl))
  f46 := ⟨Try.f273.name, by decide, Try.func273.trans (congrArg some (by kernel_rfl))⟩
  f47 := Try.func274.trans (congrArg some (by kernel_rfl))
  f48 := Try.func275.trans (congrArg some (by kernel_rfl))
  f49 := ⟨Try.f276.name, by decide, Try.func276.trans (congrArg some (by kernel_rfl))⟩
  f50 := ⟨Try.f277.name, by decide, Try.func277.trans (congrArg some (by kernel_rfl))⟩
  f57 := ⟨Try.f300.name, by decide, Try.func300.trans (congrArg some (by kernel_rfl))⟩
  t0 := Try.underlying0
  a0 := Try.isAgg0
  z0 := Try.sizeOf0
  v0 := Try.zeroValue0
  t3 := Try.underlying3
  a3 := Try.isAgg3
  z3 := Try.sizeOf3
  v3 := Try.zeroValue3
  t4 := Try.underlying4
  a4 := Try.isAgg4
  z4 := Try.sizeOf4
  v4 := Try.zeroValue4
  t5 := Try.underlying5
  a5 := Try.isAgg5
  z5 := Try.sizeOf5
  v5 := Try.zeroValue5
  t9 := Try.underlying9
  a9 := Try.isAgg9
  z9 := Try.sizeOf9
  v9 := Try.zeroValue9
  t22 := Try.underlying44
  a22 := Try.isAgg44
  z22 := Try.sizeOf44
  v22 := Try.zeroValue44
  t25 := Try.underlying157
  a25 := Try.isAgg157
  z25 := Try.sizeOf157
  v25 := Try.zeroValue157
  t39 := Try.underlying274
  a39 := Try.isAgg274
  z39 := Try.sizeOf274
  v39 := Try.zeroValue274
  t45 := Try.underlying342
  a45 := Try.isAgg342
  z45 := Try.sizeOf342
  v45 := Try.zeroValue342
  t46 := Try.underlying343
  a46 := Try.isAgg343
  z46 := Try.sizeOf343
  v46 := Try.zeroValue343
  t50 := Try.underlying261
  a50 := Try.isAgg261
  z50 := Try.sizeOf261
  v50 := Try.zeroValue261
  t53 := Try.underlying349
  a53 := Try.isAgg349
  z53 := Try.sizeOf349
  v53 := Try.zeroValue349
  t55 := Try.underlying176
  a55 := Try.isAgg176
  z55 := Try.sizeOf176
  v55 := Try.zeroValue176
  t66 := Try.underlying382
  a66 := Try.isAgg382
  z66 := Try.sizeOf382
  v66 := Try.zeroValue382
  t70 := Try.underlying385
  a70 := Try.isAgg385
  z70 := Try.sizeOf385
  v70 := Try.zeroValue385
  t76 := Try.underlying400
  a76 := Try.isAgg400
  z76 := Try.sizeOf400
  v76 := Try.zeroValue400
  t77 := Try.underlying401
  a77 := Try.isAgg401
  z77 := Try.sizeOf401
  v77 := Try.zeroValue401 }
def Try.sortL_ren : Go.Shelf.Ren := ⟨fun | 6 => 179 | 15 => 143 | 14 => 258 | 28 => 233 | 29 => 234 | 20 => 287 | 21 => 288 | 22 => 289 | 23 => 290 | 24 => 291 | 25 => 292 | 26 => 293 | 27 => 294 | 46 => 307 | 47 => 274 | 48 => 275 | 49 => 308 | 50 => 309 | 57 => 315 | n => n, fun | 22 => 209 | 24 => 82 | 25 => 156 | 3 => 3 | 39 => 274 | 0 => 0 | 53 => 349 | 55 => 176 | 4 => 4 | 46 => 343 | 45 => 342 | 50 => 261 | 5 => 5 | 9 => 9 | 66 => 382 | 70 => 385 | 76 => 400 | 77 => 401 | n => n, fun | n => n⟩
theorem Try.sortL : Go.Proofs.SlLaysF0.n6 Try.prog Try.sortL_ren := {
  mixed := by kernel_rfl
  f6 := ⟨Try.f179.name, by decide, Try.func179.trans (congrArg some (by kernel_rfl))⟩
  f14 := ⟨Try.f258.name, by decide, Try.func258.trans (congrArg some (by kernel_rfl))⟩
  f15 := Try.func143.trans (congrArg some (by kernel_rfl))
  f20 := ⟨Try.f287.name, by decide, Try.func287.trans (congrArg some (by kernel_rfl))⟩
  f21 := ⟨Try.f288.name, by decide, Try.func288.trans (congrArg some (by kernel_rfl))⟩
  f22 := ⟨Try.f289.name, by decide, Try.func289.trans (congrArg some (by kernel_rfl))⟩
  f23 := ⟨Try.f290.name, by decide, Try.func290.trans (congrArg some (by kernel_rfl))⟩
  f24 := ⟨Try.f291.name, by decide, Try.func291.trans (congrArg some (by kernel_rfl))⟩
  f25 := ⟨Try.f292.name, by decide, Try.func292.trans (congrArg some (by kernel_rfl))⟩
  f26 := ⟨Try.f293.name, by decide, Try.func293.trans (congrArg some (by kernel_rfl))⟩
  f27 := ⟨Try.f294.name, by decide, Try.func294.trans (congrArg some (by kernel_rfl))⟩
  f28 := Try.func233.trans (congrArg some (by kernel_rfl))
  f29 := Try.func234.trans (congrArg some (by kernel_rfl))
  f46 := ⟨Try.f307.name, by decide, Try.func307.trans (congrArg some (by kernel_rfl))⟩
  f47 := Try.func274.trans (congrArg some (by kernel_rfl))
  f48 := Try.func275.trans (congrArg some (by kernel_rfl))
  f49 := ⟨Try.f308.name, by decide, Try.func308.trans (congrArg some (by kernel_rfl))⟩
  f50 := ⟨Try.f309.name, by decide, Try.func309.trans (congrArg some (by kernel_rfl))⟩
  f57 := ⟨Try.f315.name, by decide, Try.func315.trans (congrArg some (by kernel_rfl))⟩
  t0 := Try.underlying0
  a0 := Try.isAgg0
  z0 := Try.sizeOf0
  v0 := Try.zeroValue0
  t3 := Try.underlying3
  a3 := Try.isAgg3
  z3 := Try.sizeOf3
  v3 := Try.zeroValue3
  t4 := Try.underlying4
  a4 := Try.isAgg4
  z4 := Try.sizeOf4
  v4 := Try.zeroValue4
  t5 := Try.underlying5
  a5 := Try.isAgg5
  z5 := Try.sizeOf5
  v5 := Try.zeroValue5
  t9 := Try.underlying9
  a9 := Try.isAgg9
  z9 := Try.sizeOf9
  v9 := Try.zeroValue9
  t22 := Try.underlying209
  a22 := Try.isAgg209
  z22 := Try.sizeOf209
  v22 := Try.zeroValue209
  t25 := Try.underlying156
  a25 := Try.isAgg156
  z25 := Try.sizeOf156
  v25 := Try.zeroValue156
  t39 := Try.underlying274
  a39 := Try.isAgg274
  z39 := Try.sizeOf274
  v39 := Try.zeroValue274
  t45 := Try.underlying342
  a45 := Try.isAgg342
  z45 := Try.sizeOf342
  v45 := Try.zeroValue342
  t46 := Try.underlying343
  a46 := Try.isAgg343
  z46 := Try.sizeOf343
  v46 := Try.zeroValue343
  t50 := Try.underlying261
  a50 := Try.isAgg261
  z50 := Try.sizeOf261
  v50 := Try.zeroValue261
  t53 := Try.underlying349
  a53 := Try.isAgg349
  z53 := Try.sizeOf349
  v53 := Try.zeroValue349
  t55 := Try.underlying176
  a55 := Try.isAgg176
  z55 := Try.sizeOf176
  v55 := Try.zeroValue176
  t66 := Try.underlying382
  a66 := Try.isAgg382
  z66 := Try.sizeOf382
  v66 := Try.zeroValue382
  t70 := Try.underlying385
  a70 := Try.isAgg385
  z70 := Try.sizeOf385
  v70 := Try.zeroValue385
  t76 := Try.underlying400
  a76 := Try.isAgg400
  z76 := Try.sizeOf400
  v76 := Try.zeroValue400
  t77 := Try.underlying401
  a77 := Try.isAgg401
  z77 := Try.sizeOf401
  v77 := Try.zeroValue401 }
end Go.Proofs

namespace Go.Proofs
open Go Go.Av
set_option linter.unusedSimpArgs false
set_option linter.unusedVariables false
set_option maxRecDepth 30000
set_option maxHeartbeats 2000000

theorem nx0 : (∀ n : Nat, (n + 3 = n) = False) ∧ (∀ n : Nat, (n = n + 3) = False) ∧ (∀ n : Nat, (n + 3 = n + 1) = False) ∧ (∀ n : Nat, (n + 1 = n + 3) = False) := by refine ⟨?_, ?_, ?_, ?_⟩ <;> (intro n; apply eq_false; omega)

theorem appendSeq_spec (l : List (Key × Cell)) (s : AState) (m : Nat) (hm : s.obj m = some (.map (entA l))) (hlen : l.length ≤ 1000000) :
    ACalls Try.prog 257 [.v (.slice none 0 0), .fn 180 [] [.ep [.mp m] 0]] s (fun d s' => ∃ ks : List Key, ks.Perm (l.map (·.1)) ∧ d = .sl 5 (keysA ks) (.row (s.next + 1) ks.length) ∧
      s' = { s with obj := fun i => if i = s.next + 1 then some (.row ks.length) else s.obj i, next := s.next + 2 }) := by
  refine ACalls_bodyM (C := ⟨[]⟩) (c := Try.f257.body.getD .skip) (rs := [.tmp 4]) Try.func257 (by kernel_rfl) (by kernel_rfl) (by kernel_rfl) (Nat.le_of_ble_eq_true rfl) (by kernel_rfl) fun hwf hbel => ?_
  simp only [Try.f257, push_cast, ↓EPM, ↓reduceIte, seval, reduceCtorEq]
  have k4 := (hwf _ _ hm).1
  show ACode _ _ _ _ _
  refine ACode_ent ((AEnt_reserve _ _).trans (AEnt_obj (id := s.next) (cs := [.v (.slice none 0 0)]) (cs' := [.sl 5 [] (.row (s.next + 1) 0)]) ?_ ⟨?_, trivial⟩ rfl)) ?_
  · simp [AState.new]
  · exact .inr (.inr ⟨rfl, 5, _, rfl, by decide, .inr (.inr ⟨s.next + 1, rfl, by simp [AState.new]⟩)⟩)
  refine rangeFunc_law (gf := 180) (first := []) (cap := [.ep [.mp m] 0]) rfl fun n hb => ?_
  simp only [codeBel, Bool.and_eq_true] at hb
  obtain ⟨⟨hb1, hb2⟩, hb3⟩ := hb
  refine ACalls_mono ?post (keyIter_spec l _ (s.next + 3) s.next (s.next + 1) m ?eL [7] n ?asg ?body (s.next + 2) ?hL ?hbx ?hrid ?hm hlen ?hy)
  case hL => exact new_self _ _
  case hbx => (simp only [upd, AState.set, AState.new]; (repeat (first | rw [if_neg (by omega)] | rw [if_pos (by omega)] | (simp only [↓reduceIte]; done) | simp only [↓reduceIte])); try rfl)
  case hrid => (simp only [upd, AState.set, AState.new]; (repeat (first | rw [if_neg (by omega)] | rw [if_pos (by omega)] | (simp only [↓reduceIte]; done) | simp only [↓reduceIte])); try rfl)
  case hm => (simp only [upd, AState.set, AState.new]; (repeat (first | rw [if_neg (by omega)] | rw [if_pos (by omega)] | (simp only [↓reduceIte]; done) | simp only [↓reduceIte])); try rfl); exact hm
  case hy =>
    intro s' acc x hL hbx hrid hacc
    refine AYield_body (C := ⟨[]⟩) hL rfl hb1 hb2 hb3 rfl rfl fun hwf' hbel' => ?_
    have q1 := (hwf' _ _ hL).1
    have q2 := (hwf' _ _ hbx).1
    have q3 := (hwf' _ _ hrid).1
    have c1 : ¬ (s.next + 3 = s'.next) := by omega
    have c2 : ¬ (s.next = s'.next) := by omega
    have c3 : ¬ (s.next + 1 = s'.next) := by omega
    have c4 : (((acc.length : Int) + 1) * 72 ≤ 140737488355328) := by omega
    have c5 : ¬ (s'.next = s.next + 3) := by omega
    have c6 : ¬ (s'.next = s.next) := by omega
    have c7 : ¬ (s'.next = s.next + 1) := by omega
    simp only [EZ, EZ0, c1, c2, c3, c5, c6, c7, hL, hbx, hrid, nx0, push_cast, ↓EPM, ↓reduceIte, seval, reduceCtorEq]
    refine ⟨by omega, by (simp only [upd, AState.set, AState.new]; (repeat (first | rw [if_neg (by omega)] | rw [if_pos (by omega)] | (simp only [↓reduceIte]; done) | simp only [↓reduceIte])); try rfl), upd s' s.next (s.next + 1) (acc ++ [x]), AFin_drop rfl rfl (Nat.le_succ _) (fun i o ho => ?_) (.v _), rfl, rfl⟩
    obtain ⟨h1, h2⟩ := Wf_upd hwf' q2 q3 i o ho
    refine ⟨h1, h2, ?_⟩
    rw [← ho]
    simp only [upd, AState.set, AState.new, keysA_app, List.length_append, List.length_cons, List.length_nil] at h1 ⊢
    (repeat' split) <;> first | rfl | omega | (have e : i = s.next + 3 := (by omega); rw [e]; exact hL.symm)
  case post =>
    rintro d s3 ⟨rfl, ks, hp, rfl⟩
    refine ⟨.ready, none, by decide, ?_, ?_⟩
    · (simp only [upd, AState.set, AState.new]; (repeat (first | rw [if_neg (by omega)] | rw [if_pos (by omega)] | (simp only [↓reduceIte]; done) | simp only [↓reduceIte])); try rfl)
    have d1 : ¬ (s.next = s.next + 2) := by omega
    have d2 : ¬ (s.next + 2 = s.next) := by omega
    have d3 : ¬ (s.next + 2 = s.next + 1) := by omega
    have d4 : ¬ (s.next + 1 = s.next + 2) := by omega
    have d5 : ¬ (s.next + 2 = s.next + 3) := by omega
    have d6 : ¬ (s.next = s.next + 1) := by omega
    simp only [jumpQ, upd, AState.mark, AState.del, nx0, d1, d2, d3, d4, d5, d6, push_cast, ↓EPM, ↓reduceIte, seval, reduceCtorEq]
    refine RetM_more (l := [.sl 5 (keysA ks) (.row (s.next + 1) ks.length)]) (m := [.sl 5 (keysA ks) (.row (s.next + 1) ks.length)]) (S := { s with obj := fun i => if i = s.next + 1 then some (.row ks.length) else s.obj i, next := s.next + 2 }) (.inr rfl) (leaveS_one (D := s.next + 1 + 1) rfl (by (simp only [upd, AState.set, AState.new]; (repeat (first | rw [if_neg (by omega)] | rw [if_pos (by omega)] | (simp only [↓reduceIte]; done) | simp only [↓reduceIte])); try rfl))) (by simp only [push_cast, ↓EPM, ↓reduceIte, seval, reduceCtorEq]) ⟨.inl rfl, trivial⟩ (Nat.le_add_right _ _) rfl (by simp only [AState.del]; omega) ?_ ?_ ⟨ks, hp, rfl, rfl⟩
    · intro i o ho
      simp only at ho
      split at ho
      · rename_i e
        subst e
        cases ho
        refine ⟨by show s.next + 1 < s.next + 2; omega, trivial, ?_⟩
        simp only [AState.del]
        ((repeat (first | rw [if_neg (by omega)] | rw [if_pos (by omega)] | (simp only [↓reduceIte]; done) | simp only [↓reduceIte])); try rfl)
      · obtain ⟨h1, h2⟩ := hwf i o ho
        refine ⟨Nat.lt_of_lt_of_le h1 (Nat.le_add_right _ _), h2.mono (Nat.le_add_right _ _), ?_⟩
        simp only [AState.del]
        ((repeat (first | rw [if_neg (by omega)] | rw [if_pos (by omega)] | (simp only [↓reduceIte]; done) | simp only [↓reduceIte])); try rfl)
        exact ho
    · simp only [packAV, Bel_sl, keysA_bel, tokBel, true_and]
      show s.next + 1 < s.next + 2
      omega

end Go.Proofs

namespace Go.Proofs
open Go Go.Av Go.Sort
set_option linter.unusedSimpArgs false
set_option linter.unusedVariables false
set_option maxRecDepth 30000
set_option maxHeartbeats 2000000

/-! The order of keys -/
structure Good {α : Type} (c : α → α → Int) : Prop where
  zero : ∀ x y, c x y = 0 ↔ x = y
  anti : ∀ x y, c x y < 0 ↔ 0 < c y x
  trans : ∀ x y z, c x y < 0 → c y z < 0 → c x z < 0

theorem good_int : Good cmpI := by
  refine ⟨fun x y => ?_, fun x y => ?_, fun x y z => ?_⟩ <;> simp only [cmpI] <;> (repeat' split) <;> omega

theorem bl_iff (a b : UInt8) (x y : List UInt8) : Op.bytesLess (a :: x) (b :: y) = true ↔ a.toNat < b.toNat ∨ (a = b ∧ Op.bytesLess x y = true) := by
  simp only [Op.bytesLess, Bool.or_eq_true, decide_eq_true_eq, Bool.and_eq_true, beq_iff_eq]
  rw [UInt8.lt_iff_toNat_lt]
theorem bl_irrefl : ∀ x : List UInt8, ¬ Op.bytesLess x x = true := fun x => by rw [less_irrefl]; simp
theorem bl_trans : ∀ x y z : List UInt8, Op.bytesLess x y = true → Op.bytesLess y z = true → Op.bytesLess x z = true
  | _, [], _, h, _ => by cases ‹List UInt8› <;> simp [Op.bytesLess] at h
  | _, _ :: _, [], _, h => by simp [Op.bytesLess] at h
  | [], _ :: _, _ :: _, _, _ => rfl
  | a :: x, b :: y, c :: z, h1, h2 => by
    rw [bl_iff] at h1 h2 ⊢
    rcases h1 with h1 | ⟨rfl, h1⟩ <;> rcases h2 with h2 | ⟨rfl, h2⟩
    · exact .inl (by omega)
    · exact .inl h1
    · exact .inl h2
    · exact .inr ⟨rfl, bl_trans x y z h1 h2⟩
theorem bl_total : ∀ x y : List UInt8, ¬ Op.bytesLess x y = true → ¬ Op.bytesLess y x = true → x = y
  | [], [], _, _ => rfl
  | [], _ :: _, h, _ => by simp [Op.bytesLess] at h
  | _ :: _, [], _, h => by simp [Op.bytesLess] at h
  | a :: x, b :: y, h1, h2 => by
    rw [bl_iff] at h1 h2
    have e : a = b := by
      apply UInt8.toNat_inj.1
      rcases Nat.lt_trichotomy a.toNat b.toNat with h | h | h
      · exact absurd (.inl h) h1
      · exact h
      · exact absurd (.inl h) h2
    subst e
    rw [bl_total x y (fun h => h1 (.inr ⟨rfl, h⟩)) (fun h => h2 (.inr ⟨rfl, h⟩))]

theorem good_bytes : Good cmpB := by
  have eqv : ∀ x y : ByteArray, (x.toList == y.toList) = decide (x = y) := str_beq
  have z : ∀ x y, cmpB x y = 0 ↔ x = y := by
    intro x y
    simp only [cmpB, eqv]
    split
    · rename_i h; refine ⟨fun h => by omega, fun e => ?_⟩; subst e; exact absurd h (bl_irrefl _)
    · split
      · rename_i h; simpa using h
      · rename_i h; simp at h; simp [h]
  have n : ∀ x y, cmpB x y < 0 ↔ Op.bytesLess x.toList y.toList = true := by
    intro x y
    simp only [cmpB]
    split
    · rename_i h; simp [h]
    · rename_i h; split <;> simp [h]
  have p : ∀ x y, 0 < cmpB x y ↔ Op.bytesLess y.toList x.toList = true := by
    intro x y
    simp only [cmpB, eqv]
    split
    · rename_i h; refine ⟨fun h => by omega, fun h2 => absurd (bl_trans _ _ _ h h2) (bl_irrefl _)⟩
    · rename_i h
      split
      · rename_i e; simp at e; subst e; simp [less_irrefl]
      · rename_i e
        refine ⟨fun _ => ?_, fun _ => by decide⟩
        by_cases h2 : Op.bytesLess y.toList x.toList = true
        · exact h2
        · have := bl_total _ _ h h2
          have e2 := eqv x y
          rw [this] at e2
          simp at e2 e
          exact absurd e2 e
  exact ⟨z, fun x y => by rw [n, p], fun x y w => by rw [n, n, n]; exact bl_trans _ _ _⟩

theorem good_list : ∀ n, (∀ x y, x.length = n → y.length = n → (cmpL x y = 0 ↔ x = y) ∧ (cmpL x y < 0 ↔ 0 < cmpL y x)) ∧ (∀ x y z, x.length = n → y.length = n → z.length = n → cmpL x y < 0 → cmpL y z < 0 → cmpL x z < 0)
  | 0 => by
    refine ⟨fun x y hx hy => ?_, fun x y z hx hy hz => ?_⟩
    · rw [List.eq_nil_of_length_eq_zero hx, List.eq_nil_of_length_eq_zero hy]; simp [cmpL]
    · rw [List.eq_nil_of_length_eq_zero hx, List.eq_nil_of_length_eq_zero hy]; simp [cmpL]
  | n + 1 => by
    obtain ⟨ih1, ih2⟩ := good_list n
    have g := good_bytes
    refine ⟨fun x y hx hy => ?_, fun x y z hx hy hz => ?_⟩
    · match x, y, hx, hy with
      | a :: x, b :: y, hx, hy =>
        obtain ⟨i1, i2⟩ := ih1 x y (by simpa using hx) (by simpa using hy)
        have z1 := g.zero a b
        have z2 := g.zero b a
        have a1 := g.anti a b
        simp only [cmpL, List.cons.injEq]
        by_cases e : a = b
        · subst e
          simp only [(g.zero a a).2 rfl, if_true, true_and]
          exact ⟨i1, i2⟩
        · have n1 : cmpB a b ≠ 0 := fun h => e (z1.1 h)
          have n2 : cmpB b a ≠ 0 := fun h => e (z2.1 h).symm
          simp only [n1, n2, if_false, e, false_and, iff_false]
          exact ⟨(by first | exact n1 | trivial), a1⟩
    · match x, y, z, hx, hy, hz with
      | a :: x, b :: y, c :: z, hx, hy, hz =>
        have i2 := ih2 x y z (by simpa using hx) (by simpa using hy) (by simpa using hz)
        simp only [cmpL]
        intro h1 h2
        by_cases e1 : a = b
        · subst e1
          simp only [(g.zero a a).2 rfl, if_true] at h1
          by_cases e2 : a = c
          · subst e2
            simp only [(g.zero a a).2 rfl, if_true] at h2 ⊢
            exact i2 h1 h2
          · have n1 : cmpB a c ≠ 0 := fun h => e2 ((g.zero a c).1 h)
            simp only [n1, if_false] at h2 ⊢
            exact h2
        · have n1 : cmpB a b ≠ 0 := fun h => e1 ((g.zero a b).1 h)
          simp only [n1, if_false] at h1
          by_cases e2 : b = c
          · subst e2
            simp only [n1, if_false]
            exact h1
          · have n2 : cmpB b c ≠ 0 := fun h => e2 ((g.zero b c).1 h)
            simp only [n2, if_false] at h2
            have h3 := g.trans a b c h1 h2
            have n3 : cmpB a c ≠ 0 := by omega
            simp only [n3, if_false]
            exact h3

theorem good_key : Good cmpK := by
  have g := good_int
  have gl := good_list 4
  refine ⟨fun x y => ?_, fun x y => ?_, fun x y z h1 h2 => ?_⟩
  · obtain ⟨i1, i2⟩ := gl.1 x.dims y.dims rfl rfl
    simp only [cmpK]
    by_cases e : x.h.toInt = y.h.toInt
    · rw [if_pos ((g.zero _ _).2 e), i1]
      cases x; cases y
      simp only [Key.dims, List.cons.injEq, Key.mk.injEq] at *
      rw [Int64.toInt_inj] at e
      simp [e]
    · rw [if_neg (fun h => e ((g.zero _ _).1 h))]
      refine ⟨fun h => absurd ((g.zero _ _).1 h) e, fun h => absurd (by rw [h]) e⟩
  · obtain ⟨i1, i2⟩ := gl.1 x.dims y.dims rfl rfl
    simp only [cmpK]
    by_cases e : x.h.toInt = y.h.toInt
    · rw [if_pos ((g.zero _ _).2 e), if_pos ((g.zero _ _).2 e.symm), i2]
    · rw [if_neg (fun h => e ((g.zero _ _).1 h)), if_neg (fun h => e ((g.zero _ _).1 h).symm), g.anti]
  · have i2 := gl.2 x.dims y.dims z.dims rfl rfl rfl
    simp only [cmpK] at *
    by_cases e1 : x.h.toInt = y.h.toInt
    · rw [if_pos ((g.zero _ _).2 e1)] at h1
      rw [e1]
      by_cases e2 : y.h.toInt = z.h.toInt
      · rw [if_pos ((g.zero _ _).2 e2)] at h2 ⊢
        exact i2 h1 h2
      · rw [if_neg (fun h => e2 ((g.zero _ _).1 h))] at h2 ⊢
        exact h2
    · rw [if_neg (fun h => e1 ((g.zero _ _).1 h))] at h1
      by_cases e2 : y.h.toInt = z.h.toInt
      · rw [← e2, if_neg (fun h => e1 ((g.zero _ _).1 h))]
        exact h1
      · rw [if_neg (fun h => e2 ((g.zero _ _).1 h))] at h2
        have h3 := g.trans _ _ _ h1 h2
        rw [if_neg (by omega)]
        exact h3

theorem Good.swo {α : Type} {c : α → α → Int} (g : Good c) : SWO (ltOf c) where
  irrefl x := by have := (g.zero x x).2 rfl; simp [ltOf, this]
  trans x y z h1 h2 := by simp only [ltOf, decide_eq_true_eq] at *; exact g.trans x y z h1 h2
  ntrans x y z h1 h2 := by
    simp only [ltOf, decide_eq_false_iff_not] at *
    intro h3
    by_cases e : c y z = 0
    · rw [(g.zero _ _).1 e] at h1; exact h1 h3
    · have h4 : 0 < c y z := by omega
      exact h1 (g.trans x z y h3 ((g.anti z y).2 h4))
theorem Good.total {α : Type} {c : α → α → Int} (g : Good c) (x y : α) (h1 : ltOf c x y = false) (h2 : ltOf c y x = false) : x = y := by
  simp only [ltOf, decide_eq_false_iff_not] at *
  refine (g.zero x y).1 ?_
  have := g.anti y x
  omega

def sortK (l : List Key) : List Key := l.mergeSort fun x y => !(ltOf cmpK) y x

theorem sortK_perm (l : List Key) : (sortK l).Perm l := List.mergeSort_perm _ _
theorem sortK_sorted (l : List Key) : (sortK l).Pairwise fun x y => ¬ cmpK y x < 0 := by
  have h := List.pairwise_mergeSort (le := fun x y : Key => !(ltOf cmpK) y x) (fun a b c h1 h2 => by
    simp only [Bool.not_eq_true'] at *
    exact good_key.swo.ntrans c b a h2 h1) (fun a b => by
    simp only [Bool.or_eq_true, Bool.not_eq_true', ltOf, decide_eq_false_iff_not]
    have := good_key.anti a b
    omega) l
  exact h.imp fun h => by simpa [ltOf] using h
theorem sortK_eq {l m : List Key} (h : l.Perm m) : sortK l = sortK m := by
  refine List.Perm.eq_of_pairwise (le := fun x y => ¬ cmpK y x < 0) ?_ (sortK_sorted l) (sortK_sorted m) ((sortK_perm l).trans (h.trans (sortK_perm m).symm))
  intro a b _ _ h1 h2
  exact good_key.total a b (by simpa [ltOf] using h2) (by simpa [ltOf] using h1)

end Go.Proofs

namespace Go.Proofs
open Go Go.Av Go.Sort
set_option linter.unusedSimpArgs false
set_option linter.unusedVariables false
set_option maxRecDepth 30000
set_option maxHeartbeats 2000000

instance : Inhabited Key := ⟨⟨0, .empty, .empty, .empty, .empty⟩⟩
def encK (k : Key) : List Value := [.int .i64 k.h.toInt, .string k.a, .string k.b, .string k.c, .string k.d]

theorem keysE (l : List Key) : rowsE encK l = keysA l := rfl

theorem agg39 (w : World) : (isAgg 82).run Try.prog w = .ok true w := by
  have h : Try.prog.underlying 82 = some (TypeDesc.struct #[{ name := "Hour", type := 2, offset := 0, embedded := false, tag := "", pkgPath := "", byteOffset := 0 }, { name := "Dims", type := 80, offset := 1, embedded := false, tag := "", pkgPath := "", byteOffset := 8 }]) := by simp only [unders]
  simp [isAgg, run_underlying h, Result.andThen]
theorem size39 (w : World) : (Go.sizeOf 82).run Try.prog w = .ok 5 w := by
  have h : szOf Try.prog 82 = some 5 := by simp only [szOf, tys, Option.map_some]
  exact Go.Av.run_sizeOf h w
theorem sorts : Sorts Try.prog 179 73 encK 5 sortK :=
  sorts_of (ρ := Try.sortL_ren) Try.sortL 5 (by decide) agg39 size39 encK (fun _ => rfl) (fun x v hv => by
    simp only [encK, List.mem_cons, List.not_mem_nil, or_false] at hv
    rcases hv with rfl | rfl | rfl | rfl | rfl <;> exact ⟨rfl, rfl⟩) cmpK good_key.swo good_key.total 73 ((fcmp_spec default default) ⟨fun _ => none, 0, ⟨0, []⟩⟩).1 (fun x y => fcmp_spec x y) (Try.sortL.f6.enters rfl)

theorem collect_spec (l : List (Key × Cell)) (s : AState) (m : Nat) (hm : s.obj m = some (.map (entA l))) (hlen : l.length ≤ 1000000) :
    ACalls Try.prog 178 [.fn 180 [] [.ep [.mp m] 0]] s (fun d s' => ∃ ks : List Key, ks.Perm (l.map (·.1)) ∧ d = .sl 5 (keysA ks) (.row (s.next + 1) ks.length) ∧
      s' = { s with obj := fun i => if i = s.next + 1 then some (.row ks.length) else s.obj i, next := s.next + 2 }) := by
  refine ACalls_bodyM (C := ⟨[]⟩) (c := Try.f178.body.getD .skip) (rs := [.tmp 2]) Try.func178 (by kernel_rfl) (by kernel_rfl) (by kernel_rfl) (Nat.le_of_ble_eq_true rfl) (by kernel_rfl) fun hwf hbel => ?_
  simp only [Try.f178, push_cast, ↓EPM, ↓reduceIte, seval, reduceCtorEq]
  refine ACalls_mono ?_ (appendSeq_spec l _ m hm hlen)
  rintro d s' ⟨ks, hp, rfl, rfl⟩
  simp only [push_cast, ↓EPM, ↓reduceIte, seval, reduceCtorEq]
  refine RetM_more (l := [.sl 5 (keysA ks) (.row (s.next + 1) ks.length)]) (m := [.sl 5 (keysA ks) (.row (s.next + 1) ks.length)]) (S := { s with obj := fun i => if i = s.next + 1 then some (.row ks.length) else s.obj i, next := s.next + 2 }) (.inr rfl) rfl (by simp only [push_cast, ↓EPM, ↓reduceIte, seval, reduceCtorEq]) ⟨.inl rfl, trivial⟩ (Nat.le_add_right _ _) rfl (Nat.le_refl _) ?_ ?_ ⟨ks, hp, rfl, rfl⟩
  · intro i o ho
    refine ⟨?_, ?_, ho⟩ <;> simp only at ho
    · split at ho
      · rename_i e; subst e; show s.next + 1 < s.next + 2; omega
      · exact Nat.lt_of_lt_of_le (hwf i o ho).1 (Nat.le_add_right _ _)
    · split at ho
      · cases ho; trivial
      · exact (hwf i o ho).2.mono (Nat.le_add_right _ _)
  · simp only [packAV, Bel_sl, keysA_bel, tokBel, true_and]
    show s.next + 1 < s.next + 2
    omega

theorem sortedFunc_spec (l : List (Key × Cell)) (s : AState) (m : Nat) (hm : s.obj m = some (.map (entA l))) (hlen : l.length ≤ 1000000) :
    ACalls Try.prog 101 [.fn 180 [] [.ep [.mp m] 0], .fn 73 [] []] s (fun d s' => d = .sl 5 (keysA (sortK (l.map (·.1)))) .none ∧ s' = s) := by
  refine ACalls_frame (fun i => i == m) (k0 := fun d s' => d = .sl 5 (keysA (sortK (l.map (·.1)))) .none ∧ s' = s.keep (fun i => i == m)) ?_ (fun hwf0 d s' hle h => ⟨h.1, ?_⟩)
  · generalize hs0 : s.keep (fun i => i == m) = s0
    have hm0 : s0.obj m = some (.map (entA l)) := by subst hs0; simp [AState.keep, hm]
    have ho0 : ∀ i o, s0.obj i = some o → i = m := by subst hs0; intro i o h; simp [AState.keep] at h; exact h.1
    refine ACalls_code (c := Try.f101.body.getD .skip) (rs := [.tmp 4]) Try.func101 (by kernel_rfl) (by kernel_rfl) (by kernel_rfl) (Nat.le_of_ble_eq_true rfl) (by kernel_rfl) fun hwf hbel => ?_
    simp only [Try.f101, Option.getD_some]
    refine ACode_seq (ACode_of (C := ⟨[]⟩) ?_)
    simp only [push_cast, ↓EPM, ↓reduceIte, seval, reduceCtorEq]
    refine ACode_seq (ACode_of (C := ⟨[]⟩) ?_)
    simp only [push_cast, ↓EPM, ↓reduceIte, seval, reduceCtorEq]
    refine ACalls_mono ?_ (collect_spec l _ m hm0 hlen)
    rintro d s' ⟨ks, hp, rfl, rfl⟩
    simp only [push_cast, ↓EPM, ↓reduceIte, seval, reduceCtorEq]
    refine ACode_seq (sort_code sorts (l := ks) (rid := s0.next + 1) (s' := { s0 with base := ⟨s0.next, []⟩, next := s0.next + 2 }) ?_ ?_ ?_ ?_ (by decide) (by decide) (by decide) (by decide) (by decide) ?_ ?_ rfl rfl ?_)
    · rw [keysE]; simp only [push_cast, ↓EPM, ↓reduceIte, seval, reduceCtorEq]
    · simp only [push_cast, ↓EPM, ↓reduceIte, seval, reduceCtorEq]
    · ((repeat (first | rw [if_neg (by omega)] | rw [if_pos (by omega)] | (simp only [↓reduceIte]; done) | simp only [↓reduceIte])); try rfl)
    · show s0.next ≤ s0.next + 1; omega
    · have := hp.length_eq
      simp only [List.length_map] at this
      omega
    · intro i o ho
      have e := ho0 i o ho
      subst e
      refine ⟨?_, ?_⟩
      · have := (hwf _ _ ho).1
        ((repeat (first | rw [if_neg (by omega)] | rw [if_pos (by omega)] | (simp only [↓reduceIte]; done) | simp only [↓reduceIte])); try rfl)
        exact ho
      · have e2 := hm0.symm.trans ho
        cases e2
        intro p hp
        simp only [entA, List.mem_map] at hp
        obtain ⟨q, _, rfl⟩ := hp
        refine ⟨WF_agg fun c hc => ?_, WF_agg fun c hc => ?_⟩
        · simp only [Key.av, List.mem_cons, List.not_mem_nil, or_false] at hc
          rcases hc with rfl | rfl | rfl | rfl | rfl <;> exact WF_v _
        · simp only [Cell.av, List.mem_cons, List.not_mem_nil, or_false] at hc
          rcases hc with rfl | rfl | rfl | rfl <;> exact WF_v _
    · rw [keysE, sortK_eq hp]
      simp only [EK, ↓reduceIte]
      refine ACode_seq (ACode_of (C := ⟨[]⟩) ?_)
      simp only [push_cast, ↓EPM, ↓reduceIte, seval, reduceCtorEq]
      refine ACode_of (C := ⟨[]⟩) ?_
      simp only [push_cast, ↓EPM, ↓reduceIte, seval, reduceCtorEq]
      refine RetM_more (l := [.sl 5 (keysA (sortK (l.map (·.1)))) .none]) (m := [.sl 5 (keysA (sortK (l.map (·.1)))) .none]) (S := s0) (.inr rfl) rfl (by simp only [push_cast, ↓EPM, ↓reduceIte, seval, reduceCtorEq]) ⟨.inl rfl, trivial⟩ (Nat.le_refl _) rfl (Nat.le_add_right _ _) (fun i o ho => ⟨(hwf i o ho).1, (hwf i o ho).2, ho⟩) ?_ ⟨rfl, hs0.symm ▸ rfl⟩
      simp only [packAV, Bel_sl, keysA_bel, tokBel, true_and]
  · obtain ⟨rfl, rfl⟩ := h
    refine AState.ext' (fun i => ?_) rfl rfl
    simp only [AState.join, AState.keep, Bool.and_eq_true, decide_eq_true_eq, Bool.not_eq_true', beq_eq_false_iff_ne, beq_iff_eq]
    split
    · rfl
    · split
      · rename_i e; rw [e]
      · rename_i h1 h2
        cases e : s.obj i with
        | none => rfl
        | some o => exact absurd ⟨(hwf0 i o e).1, h2⟩ h1

end Go.Proofs

namespace Go.Proofs
open Go Go.Av Go.Sort
set_option linter.unusedSimpArgs false
set_option linter.unusedVariables false
set_option maxRecDepth 30000
set_option maxHeartbeats 2000000

theorem keysA_nil : keysA [] = [] := rfl
attribute [push_cast] keysA_nil

/-! A map by keys, as a list -/
abbrev KM := List (Key × Cell)
def KM.find (m : KM) (k : Key) : Option Nat := m.findIdx? fun p => decide (p.1 = k)
def KM.get (m : KM) (k : Key) : Cell := match m.find k with | some i => ((m[i]?).map (·.2)).getD zeroC | none => zeroC
def KM.put (m : KM) (k : Key) (c : Cell) : KM := match m.find k with | some i => m.set i (k, c) | none => m ++ [(k, c)]

theorem eqAV_key (c d : Key) : eqAV Try.prog 20 82 (.agg c.av) (.agg d.av) = some (decide (c = d)) := by
  rw [← key_beq]
  kernel_rfl
theorem ck_key (c : Key) : ckAV Try.prog 20 82 (.agg c.av) = true := by kernel_rfl
theorem bits_key (c : Key) : bitsAV (.agg c.av) = true := rfl

theorem KM.find_some {m : KM} {k : Key} {i : Nat} (h : m.find k = some i) : ∃ c, m[i]? = some (k, c) ∧ ∀ j q, j < i → m[j]? = some q → q.1 ≠ k := by
  obtain ⟨hlt, h1, h2⟩ := List.findIdx?_eq_some_iff_getElem.1 h
  simp only [decide_eq_true_eq] at h1 h2
  refine ⟨m[i].2, by rw [List.getElem?_eq_getElem hlt, ← h1], fun j q hj hq => ?_⟩
  have := h2 j hj
  obtain ⟨hjl, rfl⟩ := List.getElem?_eq_some_iff.1 hq
  simpa using this
theorem KM.find_none {m : KM} {k : Key} (h : m.find k = none) : ∀ q ∈ m, q.1 ≠ k := by
  intro q hq
  have := List.findIdx?_eq_none_iff.1 h q hq
  simpa using this

theorem mfind (m : KM) (k : Key) : MFind Try.prog 82 (.agg k.av) (entA m) (m.find k) := by
  cases h : m.find k with
  | some i =>
    obtain ⟨c, h1, h2⟩ := KM.find_some h
    refine ⟨(.agg k.av, .agg c.av), by simp [entA, h1], by rw [eqAV_key]; simp, fun j q hj hq => ?_⟩
    obtain ⟨p, hp, rfl⟩ := entA_get hq
    rw [eqAV_key]
    have := h2 j p hj hp
    simp [Ne.symm this]
  | none =>
    intro j q hq
    obtain ⟨p, hp, rfl⟩ := entA_get hq
    rw [eqAV_key]
    have := KM.find_none h p (List.mem_of_getElem? hp)
    simp [Ne.symm this]

theorem zero44 : zeroAV Try.prog 79 = some (.agg zeroC.av) := by simp only [zeroAV, tys, Option.bind_some]; rfl

theorem mval (m : KM) (k : Key) : mGet Try.prog 79 (entA m) (m.find k) = some (.agg (m.get k).av) := by
  simp only [KM.get]
  cases h : m.find k with
  | some i =>
    obtain ⟨c, h1, _⟩ := KM.find_some h
    simp [mGet, entA, h1]
  | none => exact zero44

theorem mput (m : KM) (k : Key) (c : Cell) : mPut (entA m) (.agg k.av) (.agg c.av) (m.find k) = entA (m.put k c) := by
  simp only [KM.put]
  cases h : m.find k with
  | some i => simp [mPut, entA, List.map_set]
  | none => simp [mPut, entA]
theorem msame (m : KM) (k : Key) : ∀ i, m.find k = some i → ((entA m)[i]?).map (·.1) = some (.agg k.av) := by
  intro i h
  obtain ⟨c, h1, _⟩ := KM.find_some h
  simp [entA, h1]

theorem KM.put_len (m : KM) (k : Key) (c : Cell) : (m.put k c).length ≤ m.length + 1 := by
  simp only [KM.put]; split <;> simp
theorem KM.put_keys (m : KM) (k : Key) (c : Cell) : (m.put k c).map (·.1) = if m.find k = none then m.map (·.1) ++ [k] else m.map (·.1) := by
  simp only [KM.put]
  cases h : m.find k with
  | some i =>
    obtain ⟨c', h1, _⟩ := KM.find_some h
    simp only [List.map_set, reduceCtorEq, if_false]
    apply List.ext_getElem? 
    intro j
    by_cases e : i = j
    · subst e
      have hl := (List.getElem?_eq_some_iff.1 h1).1
      rw [List.getElem?_set_self (by simpa using hl)]
      simp [h1]
    · rw [List.getElem?_set_ne e]
  | none => simp

/-- Facts, one by one. -/
def mAll : KM → List Fact → Option KM
  | m, [] => some m
  | m, f :: l => (mergeC (m.get f.k) ⟨1, f.v, f.v, f.v⟩).bind fun c => mAll (m.put f.k c) l

def mRows (m : KM) : List Row := (sortK (m.map (·.1))).map fun k => ⟨k, m.get k⟩

def resO : Option (List Row) → AV
  | some l => resS (some l) 0
  | none => resS none 6

def zeroF : Fact := ⟨⟨0, .empty, .empty, .empty, .empty⟩, 0⟩

def zeroK : Key := ⟨0, .empty, .empty, .empty, .empty⟩
/-- The first rows. -/
def KR (m : KM) (j : Nat) : List Row := ((sortK (m.map (·.1))).take j).map fun k => ⟨k, m.get k⟩
theorem sortK_len (m : KM) : (sortK (m.map (·.1))).length = m.length := by rw [(sortK_perm _).length_eq, List.length_map]

theorem KR_len {m : KM} {j : Nat} (h : j ≤ m.length) : (KR m j).length = j := by simp [KR, sortK_len]; omega
theorem KR_succ {m : KM} {j : Nat} {x : Key} (h : (sortK (m.map (·.1)))[j]? = some x) : KR m (j + 1) = KR m j ++ [⟨x, m.get x⟩] := by simp [KR, take_get h]
theorem KR_all (m : KM) : KR m m.length = mRows m := by
  rw [KR, mRows, List.take_of_length_le (by rw [sortK_len]; exact Nat.le_refl _)]
theorem entA_bel (n : Nat) (m : KM) : OBel n (.map (entA m)) := by
  intro p hp
  simp only [entA, List.mem_map] at hp
  obtain ⟨q, _, rfl⟩ := hp
  refine ⟨Bel_agg.2 fun c hc => ?_, Bel_agg.2 fun c hc => ?_⟩
  · simp only [Key.av, List.mem_cons, List.not_mem_nil, or_false] at hc
    rcases hc with rfl | rfl | rfl | rfl | rfl <;> exact .v _
  · simp only [Cell.av, List.mem_cons, List.not_mem_nil, or_false] at hc
    rcases hc with rfl | rfl | rfl | rfl <;> exact .v _

theorem wfS {s : AState} (hwf : s.Wf) (m : KM) (l : List Row) (n : Nat) : AState.Wf (AState.new (AState.new (AState.new { s with base := ⟨s.next, []⟩ } (.map (entA m))) (.cells [.sl 9 (rowsA l) (.row (s.next + 2) n)])) (.row n)) := by
  intro id o ho
  simp only [AState.new] at ho
  split at ho
  · rename_i e; subst e; cases ho; exact ⟨by show s.next + 1 + 1 < s.next + 3; omega, trivial⟩
  · split at ho
    · rename_i e; subst e; cases ho
      refine ⟨by show s.next + 1 < s.next + 3; omega, ?_⟩
      intro c hc
      simp only [List.mem_cons, List.not_mem_nil, or_false] at hc
      subst hc
      exact Bel_sl.2 ⟨of_eq_true (rowsA_bel _ _), (by show s.next + 2 < s.next + 3; omega)⟩
    · split at ho
      · rename_i e; subst e; cases ho; exact ⟨by show s.next < s.next + 3; omega, entA_bel _ _⟩
      · obtain ⟨h1, h2⟩ := hwf id o ho
        exact ⟨Nat.lt_of_lt_of_le h1 (Nat.le_add_right _ 3), h2.mono (Nat.le_add_right _ 3)⟩

end Go.Proofs

namespace Go.Proofs
open Go Go.Av Go.Sort
set_option linter.unusedSimpArgs false
set_option linter.unusedVariables false

/-! The rows of a map are the rows put one by one -/
def Srt (l : List Row) : Prop := l.Pairwise fun a b => cmpK a.k b.k < 0

theorem cmp_irr (x : Key) : ¬ cmpK x x < 0 := by have := (good_key.zero x x).2 rfl; omega
theorem cmp_asym {x y : Key} (h : cmpK x y < 0) : ¬ cmpK y x < 0 := by have := (good_key.anti x y).1 h; omega

def rlt (a b : Row) : Prop := cmpK a.k b.k < 0
theorem rlt_asym (a b : Row) (h1 : rlt a b) (h2 : rlt b a) : a = b := absurd h2 (cmp_asym (x := a.k) (y := b.k) h1)
theorem rlt_ne (a b : Row) (h : rlt a b) : a ≠ b := by
  intro e
  subst e
  exact cmp_irr _ h
theorem srt_nodup {l : List Row} (h : l.Pairwise rlt) : l.Nodup := h.imp (fun {a b} h => rlt_ne a b h)
theorem srt_ext {l m : List Row} (hl : Srt l) (hm : Srt m) (h : ∀ r, r ∈ l ↔ r ∈ m) : l = m := by
  have hp : l.Perm m := (List.perm_ext_iff_of_nodup (srt_nodup hl) (srt_nodup hm)).2 h
  exact List.Perm.eq_of_pairwise (fun a b _ _ h1 h2 => rlt_asym a b h1 h2) (show l.Pairwise rlt from hl) (show m.Pairwise rlt from hm) hp

theorem mRows_mem {m : KM} {r : Row} : r ∈ mRows m ↔ r.k ∈ m.map (·.1) ∧ r.c = m.get r.k := by
  simp only [mRows, List.mem_map]
  constructor
  · rintro ⟨k, hk, rfl⟩
    exact ⟨List.mem_map.1 ((sortK_perm _).mem_iff.1 hk), rfl⟩
  · rintro ⟨h1, h2⟩
    exact ⟨r.k, (sortK_perm _).mem_iff.2 (List.mem_map.2 h1), by cases r; simp only at h2; rw [← h2]⟩

theorem mRows_srt {m : KM} (hn : (m.map (·.1)).Nodup) : Srt (mRows m) := by
  unfold Srt mRows
  rw [List.pairwise_map]
  have h1 := sortK_sorted (m.map (·.1))
  have h2 : (sortK (m.map (·.1))).Nodup := (sortK_perm _).nodup_iff.2 hn
  refine (h1.and h2).imp fun {a b} h => ?_
  obtain ⟨h3, h4⟩ := h
  have h5 : cmpK a b ≠ 0 := fun e => h4 ((good_key.zero a b).1 e)
  have h6 := good_key.anti b a
  show cmpK a b < 0
  omega

theorem KM.get_put (m : KM) (k k' : Key) (c : Cell) : (m.put k c).get k' = if k' = k then c else m.get k' := by
  have key : ∀ (m : KM) (k : Key) (c : Cell), (∃ i, m[i]? = some (k, c) ∧ ∀ (j : Nat) (q : Key × Cell), j < i → m[j]? = some q → q.1 ≠ k) → m.get k = c := by
    intro m k c ⟨i, h1, h2⟩
    cases h : m.find k with
    | none => exact absurd rfl (KM.find_none h (k, c) (List.mem_of_getElem? h1))
    | some j =>
      obtain ⟨c', h3, h4⟩ := KM.find_some h
      have : j = i := by
        rcases Nat.lt_trichotomy i j with hl | hl | hl
        · exact absurd rfl (h4 i _ hl h1)
        · exact hl.symm
        · exact absurd rfl (h2 j _ hl h3)
      subst this
      simp [KM.get, h, h1]
  have keyN : ∀ (m : KM) (k : Key), (∀ q ∈ m, q.1 ≠ k) → m.get k = zeroC := by
    intro m k hq
    cases h : m.find k with
    | none => simp [KM.get, h]
    | some j =>
      obtain ⟨c', h3, _⟩ := KM.find_some h
      exact absurd rfl (hq _ (List.mem_of_getElem? h3))
  have keyG : ∀ (m : KM) (k : Key) i c, m.find k = some i → m[i]? = some (k, c) → m.get k = c := by
    intro m k i c h1 h2; simp [KM.get, h1, h2]
  cases h : m.find k with
  | some i =>
    obtain ⟨c0, h1, h2⟩ := KM.find_some h
    have hil := (List.getElem?_eq_some_iff.1 h1).1
    have hput : m.put k c = m.set i (k, c) := by simp [KM.put, h]
    rw [hput]
    by_cases e : k' = k
    · subst e
      rw [if_pos rfl]
      refine key _ _ _ ⟨i, by rw [List.getElem?_set_self hil], fun j q hj hq => ?_⟩
      rw [List.getElem?_set_ne (by omega)] at hq
      exact h2 j q hj hq
    · rw [if_neg e]
      cases h' : m.find k' with
      | none =>
        rw [show m.get k' = zeroC by simp [KM.get, h']]
        refine keyN _ _ fun q hq => ?_
        rcases List.mem_or_eq_of_mem_set hq with hq | rfl
        · exact KM.find_none h' q hq
        · exact fun e2 => e e2.symm
      | some i' =>
        obtain ⟨c', h3, h4⟩ := KM.find_some h'
        rw [keyG m k' i' c' h' h3]
        have hne : i ≠ i' := by rintro rfl; rw [h1] at h3; cases h3; exact e rfl
        refine key _ _ _ ⟨i', by rw [List.getElem?_set_ne hne]; exact h3, fun j q hj hq => ?_⟩
        by_cases hji : i = j
        · subst hji; rw [List.getElem?_set_self hil] at hq; cases hq; exact fun e2 => e e2.symm
        · rw [List.getElem?_set_ne hji] at hq; exact h4 j q hj hq
  | none =>
    have hput : m.put k c = m ++ [(k, c)] := by simp [KM.put, h]
    rw [hput]
    by_cases e : k' = k
    · subst e
      rw [if_pos rfl]
      refine key _ _ _ ⟨m.length, by simp, fun j q hj hq => ?_⟩
      rw [List.getElem?_append_left hj] at hq
      exact KM.find_none h q (List.mem_of_getElem? hq)
    · rw [if_neg e]
      cases h' : m.find k' with
      | none =>
        rw [show m.get k' = zeroC by simp [KM.get, h']]
        refine keyN _ _ fun q hq => ?_
        rcases List.mem_append.1 hq with hq | hq
        · exact KM.find_none h' q hq
        · simp at hq; subst hq; exact fun e2 => e e2.symm
      | some i' =>
        obtain ⟨c', h3, h4⟩ := KM.find_some h'
        rw [keyG m k' i' c' h' h3]
        have hil := (List.getElem?_eq_some_iff.1 h3).1
        refine key _ _ _ ⟨i', by rw [List.getElem?_append_left hil]; exact h3, fun j q hj hq => ?_⟩
        rw [List.getElem?_append_left (by omega)] at hq
        exact h4 j q hj hq

theorem KM.put_mem (m : KM) (k k' : Key) (c : Cell) : k' ∈ (m.put k c).map (·.1) ↔ k' = k ∨ k' ∈ m.map (·.1) := by
  rw [KM.put_keys]
  split
  · simp only [List.mem_append, List.mem_cons, List.not_mem_nil, or_false]; exact Or.comm
  · rename_i h
    refine ⟨.inr, fun h' => ?_⟩
    rcases h' with rfl | h'
    · cases e : m.find k' with
      | none => exact absurd e h
      | some i =>
        obtain ⟨c', h1, _⟩ := KM.find_some e
        exact List.mem_map.2 ⟨_, List.mem_of_getElem? h1, rfl⟩
    · exact h'
theorem KM.put_nodup (m : KM) (k : Key) (c : Cell) (hn : (m.map (·.1)).Nodup) : ((m.put k c).map (·.1)).Nodup := by
  rw [KM.put_keys]
  split
  · rename_i h
    rw [List.nodup_append]
    refine ⟨hn, by simp, fun a ha b hb e => ?_⟩
    simp at hb; subst hb; subst e
    obtain ⟨q, hq, e⟩ := List.mem_map.1 ha
    exact KM.find_none h q hq e
  · exact hn

theorem KM.get_none {m : KM} {k : Key} (h : k ∉ m.map (·.1)) : m.get k = zeroC := by
  cases e : m.find k with
  | none => simp [KM.get, e]
  | some i =>
    obtain ⟨c', h1, _⟩ := KM.find_some e
    exact absurd (List.mem_map.2 ⟨_, List.mem_of_getElem? h1, rfl⟩) h

theorem merge_zero (c : Cell) : mergeC zeroC c = some c := by simp [mergeC, zeroC]

/-- Where a row is put among rows in order. -/
theorem putL_cases {l : List Row} (hl : Srt l) (x : Row) :
    (x.k ∉ l.map Row.k ∧ ∃ l', putL l x = some l' ∧ Srt l' ∧ ∀ r, r ∈ l' ↔ r = x ∨ r ∈ l) ∨
    (∃ y ∈ l, y.k = x.k ∧ putL l x = (mergeC y.c x.c).map (fun c => (l.takeWhile fun r => decide (cmpK r.k x.k < 0)) ++ ⟨x.k, c⟩ :: (l.dropWhile fun r => decide (cmpK r.k x.k < 0)).tail) ∧
      ∀ c, Srt ((l.takeWhile fun r => decide (cmpK r.k x.k < 0)) ++ ⟨x.k, c⟩ :: (l.dropWhile fun r => decide (cmpK r.k x.k < 0)).tail) ∧
        ∀ r, r ∈ (l.takeWhile fun r => decide (cmpK r.k x.k < 0)) ++ ⟨x.k, c⟩ :: (l.dropWhile fun r => decide (cmpK r.k x.k < 0)).tail ↔ r = ⟨x.k, c⟩ ∨ (r ∈ l ∧ r.k ≠ x.k)) := by
  unfold putL
  have hsplit : l.takeWhile (fun r => decide (cmpK r.k x.k < 0)) ++ l.dropWhile (fun r => decide (cmpK r.k x.k < 0)) = l := List.takeWhile_append_dropWhile
  have hpre : ∀ r ∈ l.takeWhile (fun r => decide (cmpK r.k x.k < 0)), cmpK r.k x.k < 0 := fun r hr => by simpa using mem_takeWhile hr
  have hhead := fun y t => head_dropWhile (p := fun r : Row => decide (cmpK r.k x.k < 0)) (l := l) (y := y) (t := t)
  generalize l.takeWhile (fun r => decide (cmpK r.k x.k < 0)) = pre at *
  generalize l.dropWhile (fun r => decide (cmpK r.k x.k < 0)) = rest at *
  subst hsplit
  have hl' := hl
  unfold Srt at hl
  rw [List.pairwise_append] at hl
  obtain ⟨h1, h2, h3⟩ := hl
  have ne_pre : ∀ r ∈ pre, r.k ≠ x.k := fun r hr e => by have := hpre r hr; rw [e] at this; exact cmp_irr _ this
  cases rest with
  | nil =>
    refine .inl ⟨?_, pre ++ [x], rfl, ?_, ?_⟩
    · simp only [List.append_nil, List.mem_map, not_exists, not_and]
      exact ne_pre
    · unfold Srt
      rw [List.pairwise_append]
      exact ⟨h1, by simp, fun a ha b hb => by simp at hb; subst hb; exact hpre a ha⟩
    · intro r; simp [or_comm]
  | cons y t =>
    have hy : ¬ cmpK y.k x.k < 0 := by simpa using hhead y t rfl
    rw [List.pairwise_cons] at h2
    by_cases e : y.k = x.k
    · refine .inr ⟨y, by simp, e, by simp only [putR, if_pos e, List.tail_cons], fun c => ⟨?_, fun r => ?_⟩⟩
      · simp only [List.tail_cons]
        unfold Srt
        rw [List.pairwise_append, List.pairwise_cons]
        refine ⟨h1, ⟨fun b hb => by show cmpK x.k b.k < 0; rw [← e]; exact h2.1 b hb, h2.2⟩, fun a ha b hb => ?_⟩
        rcases List.mem_cons.1 hb with rfl | hb
        · exact hpre a ha
        · exact h3 a ha b (by simp [hb])
      · simp only [List.tail_cons, List.mem_append, List.mem_cons]
        have ne_t : ∀ r ∈ t, r.k ≠ x.k := fun r hr e' => by have := h2.1 r hr; rw [e, e'] at this; exact cmp_irr _ this
        constructor
        · rintro (hr | rfl | hr)
          · exact .inr ⟨.inl hr, ne_pre r hr⟩
          · exact .inl rfl
          · exact .inr ⟨.inr (.inr hr), ne_t r hr⟩
        · rintro (rfl | ⟨hr | rfl | hr, hne⟩)
          · exact .inr (.inl rfl)
          · exact .inl hr
          · exact absurd e hne
          · exact .inr (.inr hr)
    · have hxy : cmpK x.k y.k < 0 := by
        have z : cmpK y.k x.k ≠ 0 := fun h => e ((good_key.zero _ _).1 h)
        have := good_key.anti x.k y.k
        omega
      have hxt : ∀ r ∈ t, cmpK x.k r.k < 0 := fun r hr => good_key.trans _ _ _ hxy (h2.1 r hr)
      refine .inl ⟨?_, pre ++ x :: y :: t, by simp only [putR, if_neg e], ?_, ?_⟩
      · simp only [List.map_append, List.map_cons, List.mem_append, List.mem_map, List.mem_cons, not_or, not_exists, not_and]
        exact ⟨ne_pre, fun e' => e e'.symm, fun r hr e' => by have := hxt r hr; rw [e'] at this; exact cmp_irr _ this⟩
      · unfold Srt
        rw [List.pairwise_append, List.pairwise_cons]
        refine ⟨h1, ⟨fun b hb => ?_, List.pairwise_cons.2 h2⟩, fun a ha b hb => ?_⟩
        · rcases List.mem_cons.1 hb with rfl | hb
          · exact hxy
          · exact hxt b hb
        · rcases List.mem_cons.1 hb with rfl | hb
          · exact hpre a ha
          · exact h3 a ha b hb
      · intro r; simp only [List.mem_append, List.mem_cons]; constructor
        · rintro (h | rfl | h)
          · exact .inr (.inl h)
          · exact .inl rfl
          · exact .inr (.inr h)
        · rintro (rfl | h | h)
          · exact .inr (.inl rfl)
          · exact .inl h
          · exact .inr (.inr h)

theorem put_step (m : KM) (hn : (m.map (·.1)).Nodup) (x : Row) : putL (mRows m) x = (mergeC (m.get x.k) x.c).map fun c => mRows (m.put x.k c) := by
  rcases putL_cases (mRows_srt hn) x with ⟨h1, l', h2, h3, h4⟩ | ⟨y, hy, hyk, h2, h3⟩
  · have hk : x.k ∉ m.map (·.1) := fun h => h1 (List.mem_map.2 ⟨⟨x.k, m.get x.k⟩, mRows_mem.2 ⟨h, rfl⟩, rfl⟩)
    rw [h2, KM.get_none hk, merge_zero]
    simp only [Option.map_some, Option.some.injEq]
    refine srt_ext h3 (mRows_srt (KM.put_nodup _ _ _ hn)) fun r => ?_
    rw [h4, mRows_mem, mRows_mem, KM.put_mem, KM.get_put]
    constructor
    · rintro (rfl | ⟨h5, h6⟩)
      · exact ⟨.inl rfl, by rw [if_pos rfl]⟩
      · exact ⟨.inr h5, by rw [if_neg (fun e : r.k = x.k => hk (by rw [← e]; exact h5))]; exact h6⟩
    · rintro ⟨h5, h6⟩
      by_cases e : r.k = x.k
      · rw [if_pos e] at h6
        exact .inl (by cases r; cases x; simp only at e h6; rw [e, h6])
      · rw [if_neg e] at h6
        exact .inr ⟨h5.resolve_left e, h6⟩
  · obtain ⟨hk, hc⟩ := mRows_mem.1 hy
    rw [hyk] at hk hc
    rw [h2, hc]
    cases hm : mergeC (m.get x.k) x.c with
    | none => rfl
    | some c =>
      simp only [Option.map_some, Option.some.injEq]
      refine srt_ext (h3 c).1 (mRows_srt (KM.put_nodup _ _ _ hn)) fun r => ?_
      rw [(h3 c).2, mRows_mem, mRows_mem, KM.put_mem, KM.get_put]
      constructor
      · rintro (rfl | ⟨⟨h5, h6⟩, hne⟩)
        · exact ⟨.inl rfl, by rw [if_pos rfl]⟩
        · exact ⟨.inr h5, by rw [if_neg hne]; exact h6⟩
      · rintro ⟨h5, h6⟩
        by_cases e : r.k = x.k
        · rw [if_pos e] at h6
          exact .inl (by cases r; simp only at e h6; rw [e, h6])
        · rw [if_neg e] at h6
          exact .inr ⟨⟨h5.resolve_left e, h6⟩, e⟩

theorem mRows_nil : mRows [] = [] := by simp [mRows, sortK]

end Go.Proofs

namespace Go.Proofs
open Go Go.Av Go.Sort
set_option linter.unusedSimpArgs false
set_option linter.unusedVariables false
set_option maxRecDepth 30000
set_option maxHeartbeats 4000000

theorem cmpK_h {a b : Key} (h : cmpK a b < 0) : a.h.toInt ≤ b.h.toInt := by
  unfold cmpK at h
  split at h
  · rename_i e
    unfold cmpI at e
    repeat' split at e
    all_goals omega
  · unfold cmpI at h
    repeat' split at h
    all_goals omega
theorem right_h : ∀ (l : List Row) (p : Option Key), rightL p l = true → (∀ k, p = some k → ∀ r ∈ l, k.h.toInt ≤ r.k.h.toInt) ∧ l.Pairwise fun a b => a.k.h.toInt ≤ b.k.h.toInt
  | [], p, _ => ⟨fun _ _ _ h => (by cases h), .nil⟩
  | x :: l, p, h => by
    rw [rightL, Bool.and_eq_true] at h
    obtain ⟨h1, h2⟩ := h
    obtain ⟨i1, i2⟩ := right_h l (some x.k) h2
    refine ⟨fun k hk r hr => ?_, List.pairwise_cons.2 ⟨i1 _ rfl, i2⟩⟩
    subst hk
    have hx : k.h.toInt ≤ x.k.h.toInt := by
      simp only [okRow, Bool.and_eq_true, decide_eq_true_eq] at h1
      exact cmpK_h h1.1
    rcases List.mem_cons.1 hr with rfl | hr
    · exact hx
    · exact Int.le_trans hx (i1 _ rfl r hr)

/-- Hours in their range. -/
def hrsOk (l : List Row) : Prop := ∀ r ∈ l, 0 ≤ r.k.h.toInt ∧ r.k.h.toInt ≤ 16777216
instance (l : List Row) : Decidable (hrsOk l) := inferInstanceAs (Decidable (∀ r ∈ l, _))
def chkF (l : List Row) (t : Int) : Int := if 1 ≤ t ∧ t ≤ 3 then (if rightL none l = true ∧ hrsOk l then 0 else 4) else 1

theorem check_spec (l : List Row) (t : Int) (hl : l.length ≤ 1000000) : APure Try.prog 98 [.sl 9 (rowsA l) .none, i64 t] (i64 (chkF l t)) := by
  intro s
  refine enterA ⟨[]⟩ (Try.f98.body.getD .skip) [.tmp 4] Try.func98 fun hwf hbel => ?_; simp only [Try.f98, push_cast, ↓EPM, ↓reduceIte, seval, reduceCtorEq]
  by_cases t0 : t < 1
  · rw [chkF, if_neg (by omega)]
    simp only [t0, push_cast, ↓EPM, ↓reduceIte, seval, reduceCtorEq]
    exact RetP [i64 1]
  by_cases t1 : t > 3
  · rw [chkF, if_neg (by omega)]
    simp only [t0, t1, push_cast, ↓EPM, ↓reduceIte, seval, reduceCtorEq]
    exact RetP [i64 1]
  simp only [t0, t1, push_cast, ↓EPM, ↓reduceIte, seval, reduceCtorEq]
  refine (srows_spec l hl).use ?_
  rw [chkF, if_pos (by omega)]
  cases hr : rightL none l with
  | false =>
    simp only [resS, Bool.false_eq_true, if_false, false_and]
    simp only [push_cast, ↓EPM, ↓reduceIte, seval, reduceCtorEq]
    exact RetP [i64 4]
  | true =>
    simp only [resS, if_true, true_and]
    simp only [push_cast, ↓EPM, ↓reduceIte, seval, reduceCtorEq]
    obtain ⟨_, hp⟩ := right_h l none hr
    cases l with
    | nil =>
      rw [if_pos (by intro r hr; cases hr)]
      simp only [List.length_nil, push_cast, ↓EPM, ↓reduceIte, seval, reduceCtorEq]
      exact RetP [i64 0]
    | cons x rest =>
      obtain ⟨n, hn⟩ : ∃ n, n = (x :: rest).length := ⟨_, rfl⟩
      have hn0 : 0 < n := by rw [hn]; simp
      obtain ⟨y, hy⟩ : ∃ y, (x :: rest)[n - 1]? = some y := ⟨_, List.getElem?_eq_getElem (by omega)⟩
      have gx := rowsA_get (l := x :: rest) (i := 0) (x := x) rfl
      have gy := rowsA_get hy
      rw [← hn]
      rw [← hn] at hl
      have c1 : ((n : Int) > 0) := by omega
      have c2 : ((0 : Int) < (n : Int)) := by omega
      have w : IntKind.i64.wrap ((n : Int) - 1) = (n : Int) - 1 := wrap_in (by omega) (by omega)
      have c3 : (0 : Int) ≤ (n : Int) - 1 := by omega
      have c4 : (n : Int) - 1 < (n : Int) := by omega
      have c5 : ((n : Int) - 1).toNat = n - 1 := by omega
      by_cases hx0 : x.k.h.toInt < 0
      · rw [if_neg (fun h => by have := (h x (by simp)).1; omega)]
        simp only [c1, c2, gx, hx0, hn.symm, push_cast, ↓EPM, ↓reduceIte, seval, reduceCtorEq]
        exact RetP [i64 4]
      by_cases hy0 : y.k.h.toInt > 16777216
      · rw [if_neg (fun h => by have := (h y (List.mem_of_getElem? hy)).2; omega)]
        simp only [c1, c2, gx, hx0, hn.symm, w, c3, c4, c5, gy, hy0, push_cast, ↓EPM, ↓reduceIte, seval, reduceCtorEq]
        exact RetP [i64 4]
      rw [if_pos]
      · simp only [c1, c2, gx, hx0, hn.symm, w, c3, c4, c5, gy, hy0, push_cast, ↓EPM, ↓reduceIte, seval, reduceCtorEq]
        exact RetP [i64 0]
      · intro r hr
        obtain ⟨i, hi, rfl⟩ := List.getElem_of_mem hr
        rw [List.pairwise_iff_getElem] at hp
        obtain ⟨hyl, hyy⟩ := List.getElem?_eq_some_iff.1 hy
        have a1 : x.k.h.toInt ≤ (x :: rest)[i].k.h.toInt := by
          rcases Nat.eq_zero_or_pos i with rfl | h
          · exact Int.le_refl _
          · exact hp 0 i (by simp) hi h
        have a2 : (x :: rest)[i].k.h.toInt ≤ y.k.h.toInt := by
          rw [← hyy]
          rcases Nat.lt_or_ge i (n - 1) with h | h
          · exact hp i (n - 1) hi hyl h
          · have : i = n - 1 := by omega
            subst this
            exact Int.le_refl _
        omega

theorem rcheck_spec (l : List Row) (t : Int) (hl : l.length ≤ 1000000) : APure Try.prog 103 [.sl 9 (rowsA l) .none, i64 t] (i64 (chkF l t)) := by
  intro s
  refine enterA ⟨[]⟩ (Try.f103.body.getD .skip) [.tmp 4] Try.func103 fun hwf hbel => ?_; simp only [Try.f103, push_cast, ↓EPM, ↓reduceIte, seval, reduceCtorEq]
  by_cases t0 : t < 1
  · rw [chkF, if_neg (by omega)]
    simp only [t0, push_cast, ↓EPM, ↓reduceIte, seval, reduceCtorEq]
    exact RetP [i64 1]
  by_cases t1 : t > 3
  · rw [chkF, if_neg (by omega)]
    simp only [t0, t1, push_cast, ↓EPM, ↓reduceIte, seval, reduceCtorEq]
    exact RetP [i64 1]
  simp only [t0, t1, push_cast, ↓EPM, ↓reduceIte, seval, reduceCtorEq]
  refine (rright_list l hl).use ?_
  rw [chkF, if_pos (by omega)]
  cases hr : rightL none l with
  | false =>
    simp only [Bool.false_eq_true, if_false, false_and]
    simp only [push_cast, ↓EPM, ↓reduceIte, seval, reduceCtorEq]
    exact RetP [i64 4]
  | true =>
    simp only [true_and]
    generalize hf : (if hrsOk l then (0 : Int) else 4) = f
    simp only [push_cast, ↓EPM, ↓reduceIte, seval, reduceCtorEq]
    refine ALoop_inv (ι := Nat) (fun i => i ≤ l.length ∧ ∀ r ∈ l.take i, 0 ≤ r.k.h.toInt ∧ r.k.h.toInt ≤ 16777216) (fun i => envL [(0, .sl 9 (rowsA l) .none), (5, i64 i)]) (fun _ => { s with base := ⟨s.next, []⟩ }) (fun i => l.length - i) 0 ⟨Nat.zero_le _, by intro r hr; cases hr⟩ (ent rfl ?_) (fun i hi => ?_)
    · simp only [push_cast, ↓EPM, ↓reduceIte, seval, reduceCtorEq]
    · obtain ⟨hi, hs⟩ := hi
      by_cases hlt : i < l.length
      · obtain ⟨x, hx⟩ : ∃ x, l[i]? = some x := ⟨_, List.getElem?_eq_getElem hlt⟩
        have gx := rowsA_get hx
        have hc : ((i : Int) < (l.length : Int)) := by omega
        have h0 : (0 : Int) ≤ (i : Int) := by omega
        have hw : IntKind.i64.wrap ((i : Int) + 1) = (i : Int) + 1 := wrap_in (by omega) (by omega)
        have hx' := List.mem_of_getElem? hx
        by_cases hx0 : x.k.h.toInt < 0
        · rw [if_neg (fun h => by have := (h x hx').1; omega)] at hf
          subst hf
          simp only [hc, h0, gx, hx0, push_cast, ↓EPM, ↓reduceIte, seval, reduceCtorEq]
          exact RetP [i64 4]
        by_cases hx1 : x.k.h.toInt > 16777216
        · rw [if_neg (fun h => by have := (h x hx').2; omega)] at hf
          subst hf
          simp only [hc, h0, gx, hx0, hx1, push_cast, ↓EPM, ↓reduceIte, seval, reduceCtorEq]
          exact RetP [i64 4]
        simp only [hc, h0, gx, hx0, hx1, hw, push_cast, ↓EPM, ↓reduceIte, seval, reduceCtorEq]
        refine round_next (i + 1) ⟨by omega, fun r hr => ?_⟩ (by omega) (ent rfl ?_)
        · rw [take_get hx, List.mem_append] at hr
          rcases hr with hr | hr
          · exact hs r hr
          · simp at hr; subst hr; omega
        simp only [push_cast, ↓EPM, ↓reduceIte, seval, reduceCtorEq]
      · have hc : ¬ ((i : Int) < (l.length : Int)) := by omega
        rw [List.take_of_length_le (by omega)] at hs
        rw [if_pos (show hrsOk l from hs)] at hf
        subst hf
        simp only [hc, push_cast, ↓EPM, ↓reduceIte, seval, reduceCtorEq]
        exact RetP [i64 0]
end Go.Proofs

namespace Go.Proofs
open Go Go.Av Go.Sort
set_option linter.unusedSimpArgs false
set_option linter.unusedVariables false
set_option maxRecDepth 30000
set_option maxHeartbeats 4000000

theorem pIdx_range {t h : Int} (ht : pOk t h) : 0 ≤ pIdx t h ∧ pIdx t h ≤ 16777216 := by
  obtain ⟨h0, h1, t0, t1⟩ := ht
  have hm := monthI_range (h / 24) (by omega) (by omega)
  unfold pIdx
  split
  · omega
  · split <;> omega
/-- A row by the hours, days or months. -/
def rollR (t : Int) (x : Row) : Row := ⟨⟨Int64.ofInt (pIdx t x.k.h.toInt), x.k.a, x.k.b, x.k.c, x.k.d⟩, x.c⟩
theorem ofInt_to {n : Int} (h0 : 0 ≤ n) (h1 : n ≤ 16777216) : (Int64.ofInt n).toInt = n := Int64.toInt_ofInt_of_le (by omega) (by omega)
def mAllR : KM → List Row → Option KM
  | m, [] => some m
  | m, y :: l => (mergeC (m.get y.k) y.c).bind fun c => mAllR (m.put y.k c) l
def resR (f : Int) (l : List Row) : AV := .tup [.sl 9 (rowsA l) .none, i64 f]
def rollV (l : List Row) (t : Int) : AV :=
  if chkF l t = 0 then (match mAllR [] (l.map (rollR t)) with | some m => resR 0 (mRows m) | none => resR 6 []) else resR (chkF l t) []
def zeroRw : Row := ⟨zeroK, zeroC⟩

theorem chkF_ok {l : List Row} {t : Int} (h : chkF l t = 0) : 1 ≤ t ∧ t ≤ 3 ∧ hrsOk l := by
  unfold chkF at h
  split at h
  · rename_i ht
    split at h
    · rename_i h2
      exact ⟨ht.1, ht.2, h2.2⟩
    · omega
  · omega

theorem wfR {s : AState} (hwf : s.Wf) (m : KM) (n : Nat) : AState.Wf (AState.new (AState.new { s with base := ⟨s.next, []⟩ } (.map (entA m))) (.row n)) := by
  intro id o ho
  simp only [AState.new] at ho
  split at ho
  · rename_i e; subst e; cases ho; exact ⟨by show s.next + 1 < s.next + 2; omega, trivial⟩
  · split at ho
    · rename_i e; subst e; cases ho; exact ⟨by show s.next < s.next + 2; omega, entA_bel _ _⟩
    · obtain ⟨h1, h2⟩ := hwf id o ho
      exact ⟨Nat.lt_of_lt_of_le h1 (Nat.le_add_right _ 2), h2.mono (Nat.le_add_right _ 2)⟩

theorem roll_spec (l : List Row) (t : Int) (hl : l.length ≤ 1000) : APure Try.prog 33 [.sl 9 (rowsA l) .none, i64 t] (rollV l t) := by
  intro s
  refine enterA ⟨[]⟩ (Try.f33.body.getD .skip) [.tmp 4, .tmp 5] Try.func33 fun hwf hbel => ?_; simp only [Try.f33, push_cast, ↓EPM, ↓reduceIte, seval, reduceCtorEq]
  refine (check_spec l t (by omega)).use ?_
  unfold rollV
  by_cases hck : chkF l t = 0
  · rw [hck, if_pos rfl]
    simp only [push_cast, ↓EPM, ↓reduceIte, seval, reduceCtorEq]
    obtain ⟨t0, t1, hh⟩ := chkF_ok hck
    obtain ⟨l', hl'⟩ : ∃ l', l.map (rollR t) = l' := ⟨_, rfl⟩
    rw [hl']
    have hll : l'.length = l.length := by rw [← hl']; simp
    generalize hr : mAllR [] l' = r
    refine makeMap_law ?_
    simp only [push_cast, ↓EPM, ↓reduceIte, seval, reduceCtorEq]
    refine ALoop_inv (ι := Nat × KM) (fun i => i.1 ≤ l.length ∧ i.2.length ≤ i.1 ∧ r = mAllR i.2 (l'.drop i.1)) (fun i => envL [(1, i64 t), (4, .v (.slice none 0 0)), (7, .mp s.next), (23, .sl 9 (rowsA l) .none), (24, i64 l.length), (25, i64 i.1)]) (fun i => AState.new { s with base := ⟨s.next, []⟩ } (.map (entA i.2))) (fun i => l.length - i.1) (0, []) ⟨Nat.zero_le _, Nat.le_refl _, by rw [← hr]; rfl⟩ (ent rfl ?_) (fun i hi => ?_)
    · simp only [push_cast, ↓EPM, ↓reduceIte, seval, reduceCtorEq]
    · obtain ⟨i, m⟩ := i
      obtain ⟨hi, hml, hs⟩ := hi
      simp only at hi hml hs
      by_cases hlt : i < l.length
      · obtain ⟨x, hx⟩ : ∃ x, l[i]? = some x := ⟨_, List.getElem?_eq_getElem hlt⟩
        have gx := rowsA_get hx
        have hy : l'[i]? = some (rollR t x) := by rw [← hl', List.getElem?_map, hx]; rfl
        rw [drop_get hy, mAllR] at hs
        have hxr := hh x (List.mem_of_getElem? hx)
        have hpk : pOk t x.k.h.toInt := ⟨hxr.1, hxr.2, t0, t1⟩
        have hpr := pIdx_range hpk
        have hpo := pof_spec t x.k.h.toInt
        rw [resT, if_pos hpk, ← ofInt_to hpr.1 hpr.2] at hpo
        obtain ⟨h, hhd⟩ : ∃ h, Int64.ofInt (pIdx t x.k.h.toInt) = h := ⟨_, rfl⟩
        obtain ⟨y, hyd⟩ : ∃ y : Row, y = ⟨⟨h, x.k.a, x.k.b, x.k.c, x.k.d⟩, x.c⟩ := ⟨_, rfl⟩
        have hyy : rollR t x = y := by rw [hyd, ← hhd]; rfl
        rw [hhd] at hpo
        rw [hyy] at hs
        have hc : ((i : Int) < (l.length : Int)) := by omega
        have h0 : (0 : Int) ≤ (i : Int) := by omega
        have hw : IntKind.i64.wrap ((i : Int) + 1) = (i : Int) + 1 := wrap_in (by omega) (by omega)
        simp only [hc, h0, gx, push_cast, ↓EPM, ↓reduceIte, seval, reduceCtorEq]
        refine hpo.use ?_
        subst hyd
        simp only [nx, nx0, push_cast, ↓EPM, ↓reduceIte, seval, reduceCtorEq]
        have hm := merge_spec (m.get (⟨h, x.k.a, x.k.b, x.k.c, x.k.d⟩ : Key)) x.c
        cases hmc : mergeC (m.get (⟨h, x.k.a, x.k.b, x.k.c, x.k.d⟩ : Key)) x.c with
        | none =>
          rw [hmc] at hm
          refine chainA [(AState.set (AState.set (AState.new (AState.set (AState.new (AState.new { s with base := ⟨s.next, []⟩ } (.map (entA m))) (.cells zeroRw.av)) (s.next + 1) (.cells x.av)) (.cells [i64 0, i64 0])) (s.next + 2) (.cells [i64 t, i6 h])) (s.next + 1) (.cells (⟨⟨h, x.k.a, x.k.b, x.k.c, x.k.d⟩, x.c⟩ : Row).av)), (AState.new (AState.set (AState.set (AState.new (AState.set (AState.new (AState.new { s with base := ⟨s.next, []⟩ } (.map (entA m))) (.cells zeroRw.av)) (s.next + 1) (.cells x.av)) (.cells [i64 0, i64 0])) (s.next + 2) (.cells [i64 t, i6 h])) (s.next + 1) (.cells (⟨⟨h, x.k.a, x.k.b, x.k.c, x.k.d⟩, x.c⟩ : Row).av)) (.cells zeroC.av)), (AState.set (AState.new (AState.set (AState.set (AState.new (AState.set (AState.new (AState.new { s with base := ⟨s.next, []⟩ } (.map (entA m))) (.cells zeroRw.av)) (s.next + 1) (.cells x.av)) (.cells [i64 0, i64 0])) (s.next + 2) (.cells [i64 t, i6 h])) (s.next + 1) (.cells (⟨⟨h, x.k.a, x.k.b, x.k.c, x.k.d⟩, x.c⟩ : Row).av)) (.cells zeroC.av)) (s.next + 3) (.cells zeroC.av))] [some 9, some 9, some 9, some 9, some 9, some 9, some 9, some 9, some 9, some 9, none, none, some 9] mixed ?_; simp only [zeroC, nx, nx0,  ↓EX, EY, ↓EH, push_cast, ↓EPM, ↓reduceIte, seval, reduceCtorEq]
          refine qlookC (id := s.next) (es := entA m) (v := .agg (m.get (⟨h, x.k.a, x.k.b, x.k.c, x.k.d⟩ : Key)).av) (m.find (⟨h, x.k.a, x.k.b, x.k.c, x.k.d⟩ : Key)) u85 u39 rfl rfl (ck_key (⟨h, x.k.a, x.k.b, x.k.c, x.k.d⟩ : Key)) (mfind m (⟨h, x.k.a, x.k.b, x.k.c, x.k.d⟩ : Key)) (mval m (⟨h, x.k.a, x.k.b, x.k.c, x.k.d⟩ : Key)) (fun st hst => ?_) ?_
          · simp only [List.mem_cons, List.not_mem_nil, or_false] at hst
            rcases hst with rfl | rfl | rfl <;> (simp only [upd, AState.set, AState.new]; (repeat (first | rw [if_neg (by omega)] | rw [if_pos (by omega)] | (simp only [↓reduceIte]; done) | simp only [↓reduceIte])); try rfl)
          simp only [↓EX, EY, ↓EH, push_cast, ↓EPM, ↓reduceIte, seval, reduceCtorEq]
          refine qcallC (hm) rfl (by simp only [push_cast, ↓EPM, ↓reduceIte, seval, reduceCtorEq] <;> rfl) ?_; simp only [↓EX, EY, ↓EH, push_cast, ↓EPM, ↓reduceIte, seval, reduceCtorEq]
          simp only [resC, zeroC, nx, nx0, ↓EX, EY, ↓EH, push_cast, ↓EPM, ↓reduceIte, seval, reduceCtorEq]
          rw [show r = none by rw [hs, hmc]; rfl]
          exact RetW [.v (.slice none 0 0), i64 6] [.sl 9 [] .none, i64 6]
        | some c =>
          rw [hmc] at hm
          refine chainA [(AState.set (AState.set (AState.new (AState.set (AState.new (AState.new { s with base := ⟨s.next, []⟩ } (.map (entA m))) (.cells zeroRw.av)) (s.next + 1) (.cells x.av)) (.cells [i64 0, i64 0])) (s.next + 2) (.cells [i64 t, i6 h])) (s.next + 1) (.cells (⟨⟨h, x.k.a, x.k.b, x.k.c, x.k.d⟩, x.c⟩ : Row).av)), (AState.new (AState.set (AState.set (AState.new (AState.set (AState.new (AState.new { s with base := ⟨s.next, []⟩ } (.map (entA m))) (.cells zeroRw.av)) (s.next + 1) (.cells x.av)) (.cells [i64 0, i64 0])) (s.next + 2) (.cells [i64 t, i6 h])) (s.next + 1) (.cells (⟨⟨h, x.k.a, x.k.b, x.k.c, x.k.d⟩, x.c⟩ : Row).av)) (.cells zeroC.av)), (AState.set (AState.new (AState.set (AState.set (AState.new (AState.set (AState.new (AState.new { s with base := ⟨s.next, []⟩ } (.map (entA m))) (.cells zeroRw.av)) (s.next + 1) (.cells x.av)) (.cells [i64 0, i64 0])) (s.next + 2) (.cells [i64 t, i6 h])) (s.next + 1) (.cells (⟨⟨h, x.k.a, x.k.b, x.k.c, x.k.d⟩, x.c⟩ : Row).av)) (.cells zeroC.av)) (s.next + 3) (.cells c.av))] [some 9, some 9, some 9, some 9, some 9, some 9, some 9, some 9, some 9, some 9, none, none, some 9] mixed ?_; simp only [zeroC, nx, nx0,  ↓EX, EY, ↓EH, push_cast, ↓EPM, ↓reduceIte, seval, reduceCtorEq]
          refine qlookC (id := s.next) (es := entA m) (v := .agg (m.get (⟨h, x.k.a, x.k.b, x.k.c, x.k.d⟩ : Key)).av) (m.find (⟨h, x.k.a, x.k.b, x.k.c, x.k.d⟩ : Key)) u85 u39 rfl rfl (ck_key (⟨h, x.k.a, x.k.b, x.k.c, x.k.d⟩ : Key)) (mfind m (⟨h, x.k.a, x.k.b, x.k.c, x.k.d⟩ : Key)) (mval m (⟨h, x.k.a, x.k.b, x.k.c, x.k.d⟩ : Key)) (fun st hst => ?_) ?_
          · simp only [List.mem_cons, List.not_mem_nil, or_false] at hst
            rcases hst with rfl | rfl | rfl <;> (simp only [upd, AState.set, AState.new]; (repeat (first | rw [if_neg (by omega)] | rw [if_pos (by omega)] | (simp only [↓reduceIte]; done) | simp only [↓reduceIte])); try rfl)
          simp only [↓EX, EY, ↓EH, push_cast, ↓EPM, ↓reduceIte, seval, reduceCtorEq]
          refine qcallC (hm) rfl (by simp only [push_cast, ↓EPM, ↓reduceIte, seval, reduceCtorEq] <;> rfl) ?_; simp only [↓EX, EY, ↓EH, push_cast, ↓EPM, ↓reduceIte, seval, reduceCtorEq]
          simp only [resC, zeroC, nx, nx0, ↓EX, EY, ↓EH, push_cast, ↓EPM, ↓reduceIte, seval, reduceCtorEq]
          refine mapUpdate_law (id := s.next) (es := entA m) (key := .agg (⟨h, x.k.a, x.k.b, x.k.c, x.k.d⟩ : Key).av) (val := .agg c.av) (m.find (⟨h, x.k.a, x.k.b, x.k.c, x.k.d⟩ : Key)) u85 u39 rfl rfl rfl ?_ (ck_key (⟨h, x.k.a, x.k.b, x.k.c, x.k.d⟩ : Key)) (mfind m (⟨h, x.k.a, x.k.b, x.k.c, x.k.d⟩ : Key)) (bits_key (⟨h, x.k.a, x.k.b, x.k.c, x.k.d⟩ : Key)) (msame m (⟨h, x.k.a, x.k.b, x.k.c, x.k.d⟩ : Key)) ?_
          · (simp only [upd, AState.set, AState.new]; (repeat (first | rw [if_neg (by omega)] | rw [if_pos (by omega)] | (simp only [↓reduceIte]; done) | simp only [↓reduceIte])); try rfl)
          rw [mput]
          simp only [hw, push_cast, ↓EPM, ↓reduceIte, seval, reduceCtorEq]
          have hpl := m.put_len (⟨h, x.k.a, x.k.b, x.k.c, x.k.d⟩ : Key) c
          refine round_next (i + 1, m.put (⟨h, x.k.a, x.k.b, x.k.c, x.k.d⟩ : Key) c) ⟨by simp only; omega, by simp only; omega, by rw [hs, hmc]; rfl⟩ (by simp only; omega) (AEnt_drop rfl rfl (Nat.le_succ _) ?_ ((hwf.base _).new ?_) (EntB_all ?_))
          · refine ⟨by simp only [EO]; omega, fun id hid => ?_⟩
            simp only [AState.set, AState.new] at hid ⊢
            (repeat' split) <;> first | rfl | omega
          · exact entA_bel _ _
          simp only [hw, push_cast, ↓EPM, ↓reduceIte, seval, reduceCtorEq]
          (try first | omega | ((repeat' apply And.intro) <;> first | omega | (simp only [push_cast, ↓EPM, ↓reduceIte, seval, reduceCtorEq, List.mem_cons, List.not_mem_nil, or_false, forall_eq_or_imp, forall_eq, and_self, true_and, and_true, zeroR]; done) | (simp only [push_cast, ↓EPM, ↓reduceIte, seval, reduceCtorEq, List.mem_cons, List.not_mem_nil, or_false, forall_eq_or_imp, forall_eq, and_self, true_and, and_true, zeroR]; omega)))
      · have hc : ¬ ((i : Int) < (l.length : Int)) := by omega
        simp only [hc, push_cast, ↓EPM, ↓reduceIte, seval, reduceCtorEq]
        rw [show r = some m by rw [hs, List.drop_eq_nil_of_le (by omega)]; rfl]
        refine (keysOf_spec s.next).use ?_
        simp only [push_cast, ↓EPM, ↓reduceIte, seval, reduceCtorEq]
        refine ACalls_mono ?_ (sortedFunc_spec m _ s.next (by (simp only [upd, AState.set, AState.new]; (repeat (first | rw [if_neg (by omega)] | rw [if_pos (by omega)] | (simp only [↓reduceIte]; done) | simp only [↓reduceIte])); try rfl)) (by omega))
        rintro d s' ⟨rfl, rfl⟩
        simp only [keysA_len, sortK_len, push_cast, ↓EPM, ↓reduceIte, seval, reduceCtorEq]
        refine ALoop_inv (ι := Nat) (fun j => j ≤ m.length) (fun j => envL [(4, .sl 9 (rowsA (KR m j)) (.row (s.next + 1) j)), (7, .mp s.next), (60, .sl 5 (keysA (sortK (m.map (·.1)))) .none), (61, i64 m.length), (62, i64 j)]) (fun j => AState.new (AState.new { s with base := ⟨s.next, []⟩ } (.map (entA m))) (.row j)) (fun j => m.length - j) 0 (Nat.zero_le _) (AEnt.trans (AEnt_reserve _ _) (ent rfl ?_)) (fun j hj => ?_)
        · simp only [Wv_row, show KR m 0 = [] from rfl, push_cast, ↓EPM, ↓reduceIte, seval, reduceCtorEq]
        · by_cases hjl : j < m.length
          · obtain ⟨x, hx⟩ : ∃ x, (sortK (m.map (·.1)))[j]? = some x := ⟨_, List.getElem?_eq_getElem (by rw [sortK_len]; exact hjl)⟩
            have gx := keysA_get hx
            have hc : ((j : Int) < (m.length : Int)) := by omega
            have h0 : (0 : Int) ≤ (j : Int) := by omega
            have hw : IntKind.i64.wrap ((j : Int) + 1) = (j : Int) + 1 := wrap_in (by omega) (by omega)
            have hrm : ((j : Int) + 1) * 104 ≤ 140737488355328 := by omega
            simp only [hc, h0, gx, keysA_len, sortK_len, push_cast, ↓EPM, ↓reduceIte, seval, reduceCtorEq]
            refine chainA [(AState.set (AState.new (AState.new (AState.new { s with base := ⟨s.next, []⟩ } (.map (entA m))) (.row j)) (.cells zeroK.av)) (s.next + 2) (.cells x.av)), (AState.set (AState.set (AState.new (AState.new (AState.new { s with base := ⟨s.next, []⟩ } (.map (entA m))) (.row j)) (.cells zeroK.av)) (s.next + 2) (.cells x.av)) (s.next + 1) (.row (j + 1)))] [some 9, some 9, some 9, some 9, some 9, some 9, some 9, none, some 9] mixed ?_; simp only [h0, gx, keysA_len, sortK_len, hrm, nx, nx0,  ↓EX, EY, ↓EH, push_cast, ↓EPM, ↓reduceIte, seval, reduceCtorEq]
            refine qlookC (id := s.next) (es := entA m) (v := .agg (m.get x).av) (m.find x) u85 u39 rfl rfl (ck_key x) (mfind m x) (mval m x) (fun st hst => ?_) ?_
            · simp only [List.take_succ_cons, List.take_zero, List.mem_cons, List.not_mem_nil, or_false] at hst
              rcases hst with rfl | rfl <;> (simp only [upd, AState.set, AState.new]; (repeat (first | rw [if_neg (by omega)] | rw [if_pos (by omega)] | (simp only [↓reduceIte]; done) | simp only [↓reduceIte])); try rfl)
            simp only [hrm, ↓EX, EY, ↓EH, push_cast, ↓EPM, ↓reduceIte, seval, reduceCtorEq]
            refine ⟨by rw [KR_len (by omega)]; omega, ?_⟩
            refine round_next (j + 1) (by show j + 1 ≤ m.length; omega) (by show m.length - (j + 1) < m.length - j; omega) (AEnt_drop rfl rfl (Nat.le_add_right _ 2) ⟨Nat.le_succ _, fun id hid => ?_⟩ (wfR hwf m _) (EntB_all ?_))
            · replace hid : id < s.next + 2 := hid
              simp only [AState.set, AState.new]
              (repeat' split) <;> first | rfl | omega
            rw [show rowsA (KR m (j + 1)) = rowsA (KR m j) ++ [Row.av ⟨x, m.get x⟩] by rw [KR_succ hx, rowsA_append]; rfl]
            simp only [hw, push_cast, ↓EPM, ↓reduceIte, seval, reduceCtorEq]
            (try first | omega | ((repeat' apply And.intro) <;> first | omega | (simp only [push_cast, ↓EPM, ↓reduceIte, seval, reduceCtorEq, List.mem_cons, List.not_mem_nil, or_false, forall_eq_or_imp, forall_eq, and_self, true_and, and_true, zeroR]; done) | (simp only [push_cast, ↓EPM, ↓reduceIte, seval, reduceCtorEq, List.mem_cons, List.not_mem_nil, or_false, forall_eq_or_imp, forall_eq, and_self, true_and, and_true, zeroR]; omega)))
          · have hc : ¬ ((j : Int) < (m.length : Int)) := by omega
            simp only [hc, keysA_len, sortK_len, push_cast, ↓EPM, ↓reduceIte, seval, reduceCtorEq]
            have ej : j = m.length := by omega
            subst ej
            rw [KR_all]
            exact RetW [.sl 9 (rowsA (mRows m)) (.row (s.next + 1) m.length), i64 0] [.sl 9 (rowsA (mRows m)) .none, i64 0]
  · rw [if_neg hck]
    simp only [hck, push_cast, ↓EPM, ↓reduceIte, seval, reduceCtorEq]
    exact RetW [.v (.slice none 0 0), i64 (chkF l t)] [.sl 9 [] .none, i64 (chkF l t)]
end Go.Proofs

namespace Go.Proofs
open Go Go.Av Go.Sort
set_option linter.unusedSimpArgs false
set_option linter.unusedVariables false
set_option maxRecDepth 30000
set_option maxHeartbeats 4000000

def putAllR : List Row → List Row → Option (List Row)
  | m, [] => some m
  | m, y :: l => (putL m y).bind fun m' => putAllR m' l

theorem putL_len {l l' : List Row} {x : Row} (h : putL l x = some l') : l'.length ≤ l.length + 1 := by
  unfold putL at h
  have hs : (l.takeWhile fun r => decide (cmpK r.k x.k < 0)).length + (l.dropWhile fun r => decide (cmpK r.k x.k < 0)).length = l.length := by
    rw [← List.length_append, List.takeWhile_append_dropWhile]
  unfold putR at h
  split at h
  · cases h; simp only [List.length_append, List.length_cons, List.length_nil]; omega
  · rename_i y t e
    rw [e] at hs
    simp only [List.length_cons] at hs
    split at h
    · rw [Option.map_eq_some_iff] at h
      obtain ⟨c, _, rfl⟩ := h
      simp only [List.length_append, List.length_cons]; omega
    · cases h; simp only [List.length_append, List.length_cons]; omega

theorem allR_eq : ∀ (l : List Row) (m : KM), (m.map (·.1)).Nodup → (mAllR m l).map mRows = putAllR (mRows m) l
  | [], m, _ => rfl
  | y :: l, m, hn => by
    rw [mAllR, putAllR, put_step m hn y]
    cases h : mergeC (m.get y.k) y.c with
    | none => rfl
    | some c =>
      simp only [Option.bind_some, Option.map_some]
      exact allR_eq l _ (KM.put_nodup _ _ _ hn)
theorem rollV_eq (l : List Row) (t : Int) : rollV l t = if chkF l t = 0 then (match putAllR [] (l.map (rollR t)) with | some m => resR 0 m | none => resR 6 []) else resR (chkF l t) [] := by
  have h := allR_eq (l.map (rollR t)) [] List.nodup_nil
  rw [mRows_nil] at h
  unfold rollV
  rw [← h]
  cases mAllR [] (l.map (rollR t)) <;> rfl

theorem rroll_spec (l : List Row) (t : Int) (hl : l.length ≤ 1000) : APure Try.prog 34 [.sl 9 (rowsA l) .none, i64 t] (rollV l t) := by
  intro s
  rw [rollV_eq]
  refine enterA ⟨[]⟩ (Try.f34.body.getD .skip) [.tmp 4, .tmp 5] Try.func34 fun hwf hbel => ?_; simp only [Try.f34, push_cast, ↓EPM, ↓reduceIte, seval, reduceCtorEq]
  refine (rcheck_spec l t (by omega)).use ?_
  by_cases hck : chkF l t = 0
  · rw [hck, if_pos rfl]
    simp only [push_cast, ↓EPM, ↓reduceIte, seval, reduceCtorEq]
    obtain ⟨t0, t1, hh⟩ := chkF_ok hck
    obtain ⟨l', hl'⟩ : ∃ l', l.map (rollR t) = l' := ⟨_, rfl⟩
    rw [hl']
    have hll : l'.length = l.length := by rw [← hl']; simp
    generalize hr : putAllR [] l' = r
    refine ALoop_inv (ι := Nat × List Row) (fun i => i.1 ≤ l.length ∧ i.2.length ≤ i.1 ∧ r = putAllR i.2 (l'.drop i.1)) (fun i => envL [(0, .sl 9 (rowsA l) .none), (1, i64 t), (7, .sl 9 (rowsA i.2) .none), (8, i64 i.1)]) (fun i => { s with base := ⟨s.next, []⟩ }) (fun i => l.length - i.1) (0, []) ⟨Nat.zero_le _, Nat.le_refl _, by rw [← hr]; rfl⟩ (ent rfl ?_) (fun i hi => ?_)
    · simp only [push_cast, ↓EPM, ↓reduceIte, seval, reduceCtorEq]
    · obtain ⟨i, m⟩ := i
      obtain ⟨hi, hml, hs⟩ := hi
      simp only at hi hml hs
      by_cases hlt : i < l.length
      · obtain ⟨x, hx⟩ : ∃ x, l[i]? = some x := ⟨_, List.getElem?_eq_getElem hlt⟩
        have gx := rowsA_get hx
        have hy : l'[i]? = some (rollR t x) := by rw [← hl', List.getElem?_map, hx]; rfl
        rw [drop_get hy, putAllR] at hs
        have hxr := hh x (List.mem_of_getElem? hx)
        have hpk : pOk t x.k.h.toInt := ⟨hxr.1, hxr.2, t0, t1⟩
        have hpr := pIdx_range hpk
        have hpo := rpof_spec t x.k.h.toInt
        rw [resT, if_pos hpk, ← ofInt_to hpr.1 hpr.2] at hpo
        obtain ⟨h, hhd⟩ : ∃ h, Int64.ofInt (pIdx t x.k.h.toInt) = h := ⟨_, rfl⟩
        have hyy : rollR t x = ⟨⟨h, x.k.a, x.k.b, x.k.c, x.k.d⟩, x.c⟩ := by rw [← hhd]; rfl
        rw [hhd] at hpo
        rw [hyy] at hs
        have hc : ((i : Int) < (l.length : Int)) := by omega
        have h0 : (0 : Int) ≤ (i : Int) := by omega
        have hw : IntKind.i64.wrap ((i : Int) + 1) = (i : Int) + 1 := wrap_in (by omega) (by omega)
        simp only [hc, h0, gx, push_cast, ↓EPM, ↓reduceIte, seval, reduceCtorEq]
        refine hpo.use ?_
        simp only [nx, nx0, push_cast, ↓EPM, ↓reduceIte, seval, reduceCtorEq]
        refine (put_spec m ⟨⟨h, x.k.a, x.k.b, x.k.c, x.k.d⟩, x.c⟩ (by omega)).use ?_
        cases hp : putL m ⟨⟨h, x.k.a, x.k.b, x.k.c, x.k.d⟩, x.c⟩ with
        | none =>
          rw [show r = none by rw [hs, hp]; rfl]
          simp only [resP, push_cast, ↓EPM, ↓reduceIte, seval, reduceCtorEq]
          exact RetW [.v (.slice none 0 0), i64 6] [.sl 9 [] .none, i64 6]
        | some m' =>
          have hpl := putL_len hp
          simp only [resP, hw, push_cast, ↓EPM, ↓reduceIte, seval, reduceCtorEq]
          refine round_next (i + 1, m') ⟨by simp only; omega, by simp only; omega, by rw [hs, hp]; rfl⟩ (by simp only; omega) (AEnt_drop rfl rfl (Nat.le_refl _) ?_ (hwf.base _) (EntB_all ?_))
          · refine ⟨by simp only [EO]; omega, fun id hid => ?_⟩
            simp only [AState.set, AState.new] at hid ⊢
            (repeat' split) <;> first | rfl | omega
          simp only [hw, push_cast, ↓EPM, ↓reduceIte, seval, reduceCtorEq]
          (try first | omega | ((repeat' apply And.intro) <;> first | omega | (simp only [push_cast, ↓EPM, ↓reduceIte, seval, reduceCtorEq, List.mem_cons, List.not_mem_nil, or_false, forall_eq_or_imp, forall_eq, and_self, true_and, and_true, zeroR]; done) | (simp only [push_cast, ↓EPM, ↓reduceIte, seval, reduceCtorEq, List.mem_cons, List.not_mem_nil, or_false, forall_eq_or_imp, forall_eq, and_self, true_and, and_true, zeroR]; omega)))
      · have hc : ¬ ((i : Int) < (l.length : Int)) := by omega
        rw [show r = some m by rw [hs, List.drop_eq_nil_of_le (by omega)]; rfl]
        simp only [hc, push_cast, ↓EPM, ↓reduceIte, seval, reduceCtorEq]
        exact RetP [.sl 9 (rowsA m) .none, i64 0]
  · rw [if_neg hck]
    simp only [hck, push_cast, ↓EPM, ↓reduceIte, seval, reduceCtorEq]
    exact RetW [.v (.slice none 0 0), i64 (chkF l t)] [.sl 9 [] .none, i64 (chkF l t)]
end Go.Proofs

/-
  DERIVED: THE SHELF's CONTRACTS AT THIS DUMP, IN PLAIN WORDS (tools/lay-plain.mjs out of 'TryLay2.lean', which tools/lay-shelf.mjs wrote): THE SAME DECLARATIONS UNDER THE SAME NAMES: 'import', 'namespace', 'open', 'def', 'theorem' AND NOTHING ELSE: no command of the shelf's: FOR A HAND-IN. Each laying: the table of numbers ('.._ren') and one theorem, a field a fact of the dump's own or the kernel's comparison; each contract: ONE APPLICATION.
-/
namespace Go.Proofs
open Go.Shelf
def Try.ixb_ren : Go.Shelf.Ren := ⟨fun | 217 => 303 | 266 => 313 | n => n, fun | 9 => 9 | 5 => 5 | 3 => 3 | n => n, fun | n => n⟩
theorem Try.ixb : Go.Proofs.Lays.n217 Try.prog Try.ixb_ren := {
  mixed := by kernel_rfl
  f217 := Try.func303.trans (congrArg some (by kernel_rfl))
  f266 := Try.func313.trans (congrArg some (by kernel_rfl))
  t3 := Try.underlying3
  a3 := Try.isAgg3
  z3 := Try.sizeOf3
  v3 := Try.zeroValue3
  t5 := Try.underlying5
  a5 := Try.isAgg5
  z5 := Try.sizeOf5
  v5 := Try.zeroValue5
  t9 := Try.underlying9
  a9 := Try.isAgg9
  z9 := Try.sizeOf9
  v9 := Try.zeroValue9 }
def Try.lix_ren : Go.Shelf.Ren := ⟨fun | 149 => 174 | 222 => 256 | n => n, fun | 9 => 9 | 5 => 5 | 3 => 3 | 4 => 4 | n => n, fun | n => n⟩
theorem Try.lix : Go.Proofs.Lays.n149 Try.prog Try.lix_ren := {
  mixed := by kernel_rfl
  f149 := Try.func174.trans (congrArg some (by kernel_rfl))
  f222 := Try.func256.trans (congrArg some (by kernel_rfl))
  t3 := Try.underlying3
  a3 := Try.isAgg3
  z3 := Try.sizeOf3
  v3 := Try.zeroValue3
  t4 := Try.underlying4
  a4 := Try.isAgg4
  z4 := Try.sizeOf4
  v4 := Try.zeroValue4
  t5 := Try.underlying5
  a5 := Try.isAgg5
  z5 := Try.sizeOf5
  v5 := Try.zeroValue5
  t9 := Try.underlying9
  a9 := Try.isAgg9
  z9 := Try.sizeOf9
  v9 := Try.zeroValue9 }
end Go.Proofs

namespace Go.Proofs
open Go Go.Av Go.Sort
set_option linter.unusedSimpArgs false
set_option linter.unusedVariables false
set_option maxRecDepth 30000
set_option maxHeartbeats 4000000

theorem APure_flat {P : Program} {f : FuncId} {vs : List Value} {r : Value} (hE : Go.Av.Enters P f) (hC : ∀ w, Calls P f vs.toArray w fun e w' => e = .returned r ∧ w' = w) (hr : flat r = true) :
    APure P f (vs.map AV.v) (.v r) := by
  intro s
  refine ⟨hE, fun T g w vs' hi ht hR => ?_⟩
  have e : vs' = vs := by
    apply List.ext_getElem?
    intro i
    have hlen : vs'.length = vs.length := by simpa using hR.1
    by_cases h : i < vs.length
    · have h1 := hR.2 i (by simpa using h)
      rw [List.getD_eq_getElem?_getD, List.getD_eq_getElem?_getD, List.getElem?_map, List.getElem?_eq_getElem h, List.getElem?_eq_getElem (by omega)] at h1
      obtain ⟨h2, _⟩ := R.flat_eq h1
      rw [List.getElem?_eq_getElem h, List.getElem?_eq_getElem (by omega)]
      simpa using h2
    · rw [List.getElem?_eq_none (by omega), List.getElem?_eq_none (by omega)]
  subst e
  exact (hC w).mono fun x w' ⟨h1, h2⟩ => ⟨r, .v r, s, g, h1, .v hr, h2 ▸ hi, h2 ▸ Ev.refl _ _ _, ht, rfl, rfl, rfl⟩

abbrev u8A (b : Int) : AV := .v (.int .u8 b)
theorem ixb_spec (S : ByteArray) (c : Int) : APure Try.prog 303 [str S, u8A c] (i64 (Lib.indexByte S.data.toList c.toNat.toUInt8)) :=
  APure_flat (vs := [.string S, .int .u8 c]) (Go.Proofs.enters_of Try.ixb.f217 (by kernel_rfl) rfl) (fun w => Any.stringslite_IndexByte Try.ixb S c w) rfl
theorem lix_spec (S : ByteArray) (c : Int) (h : S.size < 4611686018427387904) : APure Try.prog 174 [str S, u8A c] (i64 (Lib.lastIndexByte S c)) :=
  APure_flat (vs := [.string S, .int .u8 c]) (Go.Proofs.enters_of Try.lix.f149 (by kernel_rfl) rfl) (fun w => Any.strings_LastIndexByte Try.lix S c h w) rfl

/-! The two days -/
def day1 : ByteArray := ⟨#[49, 57, 55, 48, 45, 48, 49, 45, 48, 50, 84, 48, 48]⟩
def day396 : ByteArray := ⟨#[49, 57, 55, 49, 45, 48, 50, 45, 48, 49, 84, 48, 48]⟩
def cutT : ByteArray := ⟨#[84]⟩

theorem index_spec : APure Try.prog 286 [str day1, str ⟨#[84]⟩] (i64 10) := by
  intro s
  have h1 : ((⟨#[84]⟩ : ByteArray).toList == day1.toList) = false := by rw [str_beq]; decide
  have h2 : (⟨#[84]⟩ : ByteArray).size = 1 := rfl
  have h3 := ixb_spec day1 84
  rw [show Lib.indexByte day1.data.toList (84 : Int).toNat.toUInt8 = 10 by decide] at h3
  refine enterA ⟨[]⟩ (Try.f286.body.getD .skip) [.tmp 4] Try.func286 fun hwf hbel => ?_; simp only [Try.f286, push_cast, ↓EPM, ↓reduceIte, seval, reduceCtorEq]
  simp only [h1, h2, Int.ofNat_one, push_cast, ↓EPM, ↓reduceIte, seval, reduceCtorEq]
  refine h3.use ?_
  simp only [push_cast, ↓EPM, ↓reduceIte, seval, reduceCtorEq]
  exact RetP [i64 10]

theorem cut255_spec : APure Try.prog 255 [str day1, str ⟨#[84]⟩] (.tup [str ⟨#[49, 57, 55, 48, 45, 48, 49, 45, 48, 50]⟩, str ⟨#[48, 48]⟩, boo true]) := by
  intro s
  have h2 : (⟨#[84]⟩ : ByteArray).size = 1 := rfl
  have h3 : day1.size = 13 := rfl
  have w : IntKind.i64.wrap (10 + 1) = 11 := wrap_in (by omega) (by omega)
  simp only [Int.reduceAdd] at w
  have e1 : day1.extract 0 10 = ⟨#[49, 57, 55, 48, 45, 48, 49, 45, 48, 50]⟩ := by decide
  have e2 : day1.extract 11 13 = ⟨#[48, 48]⟩ := by decide
  refine enterA ⟨[]⟩ (Try.f255.body.getD .skip) [.tmp 4, .tmp 5, .tmp 6] Try.func255 fun hwf hbel => ?_; simp only [Try.f255, push_cast, ↓EPM, ↓reduceIte, seval, reduceCtorEq]
  refine index_spec.use ?_
  simp only [h2, h3, w, e1, e2, Int.ofNat_one, push_cast, ↓EPM, ↓reduceIte, seval, reduceCtorEq]
  refine drawA mixed ?_; simp only [h2, h3, w, e1, e2, Int.ofNat_one, push_cast, ↓EPM, ↓reduceIte, seval, reduceCtorEq]
  exact RetP [str ⟨#[49, 57, 55, 48, 45, 48, 49, 45, 48, 50]⟩, str ⟨#[48, 48]⟩, boo true]
theorem cut_spec : APure Try.prog 173 [str day1, str ⟨#[84]⟩] (.tup [str ⟨#[49, 57, 55, 48, 45, 48, 49, 45, 48, 50]⟩, str ⟨#[48, 48]⟩, boo true]) := by
  intro s
  refine enterA ⟨[]⟩ (Try.f173.body.getD .skip) [.tmp 4, .tmp 5, .tmp 6] Try.func173 fun hwf hbel => ?_; simp only [Try.f173, push_cast, ↓EPM, ↓reduceIte, seval, reduceCtorEq]
  refine cut255_spec.use ?_
  simp only [push_cast, ↓EPM, ↓reduceIte, seval, reduceCtorEq]
  exact RetP [str ⟨#[49, 57, 55, 48, 45, 48, 49, 45, 48, 50]⟩, str ⟨#[48, 48]⟩, boo true]

theorem number_a : APure Try.prog 217 [i64 1971, i64 2, i64 1] (i64 396) := by
  intro s
  refine enterA ⟨[]⟩ (Try.f217.body.getD .skip) [.tmp 6] Try.func217 fun hwf hbel => ?_; simp only [Try.f217, push_cast, ↓EPM, ↓reduceIte, seval, reduceCtorEq]
  simp only [wrap_in, push_cast, ↓EPM, ↓reduceIte, seval, reduceCtorEq]
  exact RetP [i64 396]
theorem number_b : APure Try.prog 217 [i64 1971, i64 3, i64 1] (i64 424) := by
  intro s
  refine enterA ⟨[]⟩ (Try.f217.body.getD .skip) [.tmp 6] Try.func217 fun hwf hbel => ?_; simp only [Try.f217, push_cast, ↓EPM, ↓reduceIte, seval, reduceCtorEq]
  simp only [wrap_in, push_cast, ↓EPM, ↓reduceIte, seval, reduceCtorEq]
  exact RetP [i64 424]
theorem begin_a : APure Try.prog 216 [i64 13] (i64 396) := by
  intro s
  refine enterA ⟨[]⟩ (Try.f216.body.getD .skip) [.tmp 2] Try.func216 fun hwf hbel => ?_; simp only [Try.f216, push_cast, ↓EPM, ↓reduceIte, seval, reduceCtorEq]
  simp only [wrap_in, push_cast, ↓EPM, ↓reduceIte, seval, reduceCtorEq]
  refine number_a.use ?_
  simp only [push_cast, ↓EPM, ↓reduceIte, seval, reduceCtorEq]
  exact RetP [i64 396]
theorem begin_b : APure Try.prog 216 [i64 14] (i64 424) := by
  intro s
  refine enterA ⟨[]⟩ (Try.f216.body.getD .skip) [.tmp 2] Try.func216 fun hwf hbel => ?_; simp only [Try.f216, push_cast, ↓EPM, ↓reduceIte, seval, reduceCtorEq]
  simp only [wrap_in, push_cast, ↓EPM, ↓reduceIte, seval, reduceCtorEq]
  refine number_b.use ?_
  simp only [push_cast, ↓EPM, ↓reduceIte, seval, reduceCtorEq]
  exact RetP [i64 424]
theorem cspan_spec : APure Try.prog 134 [i64 13] (.tup [i64 396, i64 424]) := by
  intro s
  refine enterA ⟨[]⟩ (Try.f134.body.getD .skip) [.tmp 2, .tmp 3] Try.func134 fun hwf hbel => ?_; simp only [Try.f134, push_cast, ↓EPM, ↓reduceIte, seval, reduceCtorEq]
  refine begin_a.use ?_
  simp only [wrap_in, push_cast, ↓EPM, ↓reduceIte, seval, reduceCtorEq]
  refine begin_b.use ?_
  simp only [push_cast, ↓EPM, ↓reduceIte, seval, reduceCtorEq]
  exact RetP [i64 396, i64 424]
theorem pright_a : APure Try.prog 133 [partA 2 1] (boo true) := by
  intro s
  have h := pof_spec 2 16777216
  rw [resT, if_pos (by decide), show pIdx 2 16777216 = 699050 by decide] at h
  refine enterA ⟨[1]⟩ (Try.f133.body.getD .skip) [.tmp 2] Try.func133 fun hwf hbel => ?_; simp only [Try.f133, push_cast, ↓EPM, ↓reduceIte, seval, reduceCtorEq]
  refine h.use ?_
  simp only [push_cast, ↓EPM, ↓reduceIte, seval, reduceCtorEq]
  exact RetP [boo true]
theorem pright_b : APure Try.prog 133 [partA 3 13] (boo true) := by
  intro s
  have h := pof_spec 3 16777216
  rw [resT, if_pos (by decide), show pIdx 3 16777216 = 22967 by decide] at h
  refine enterA ⟨[1]⟩ (Try.f133.body.getD .skip) [.tmp 2] Try.func133 fun hwf hbel => ?_; simp only [Try.f133, push_cast, ↓EPM, ↓reduceIte, seval, reduceCtorEq]
  refine h.use ?_
  simp only [push_cast, ↓EPM, ↓reduceIte, seval, reduceCtorEq]
  exact RetP [boo true]
theorem pspan_a : APure Try.prog 61 [partA 2 1] (.tup [i64 24, i64 48]) := by
  intro s
  refine enterA ⟨[1]⟩ (Try.f61.body.getD .skip) [.tmp 2, .tmp 3] Try.func61 fun hwf hbel => ?_; simp only [Try.f61, push_cast, ↓EPM, ↓reduceIte, seval, reduceCtorEq]
  refine pright_a.use ?_
  simp only [wrap_in, push_cast, ↓EPM, ↓reduceIte, seval, reduceCtorEq]
  refine drawA mixed ?_; simp only [wrap_in, push_cast, ↓EPM, ↓reduceIte, seval, reduceCtorEq]
  exact RetP [i64 24, i64 48]
theorem pspan_b : APure Try.prog 61 [partA 3 13] (.tup [i64 9504, i64 10176]) := by
  intro s
  refine enterA ⟨[1]⟩ (Try.f61.body.getD .skip) [.tmp 2, .tmp 3] Try.func61 fun hwf hbel => ?_; simp only [Try.f61, push_cast, ↓EPM, ↓reduceIte, seval, reduceCtorEq]
  refine pright_b.use ?_
  simp only [wrap_in, push_cast, ↓EPM, ↓reduceIte, seval, reduceCtorEq]
  refine drawA mixed ?_; simp only [wrap_in, push_cast, ↓EPM, ↓reduceIte, seval, reduceCtorEq]
  refine cspan_spec.use ?_
  simp only [wrap_in, push_cast, ↓EPM, ↓reduceIte, seval, reduceCtorEq]
  exact RetP [i64 9504, i64 10176]
end Go.Proofs

namespace Go.Proofs
open Go Go.Av Go.Sort
set_option linter.unusedSimpArgs false
set_option linter.unusedVariables false
set_option maxRecDepth 30000
set_option maxHeartbeats 4000000

/-! Digits written into bytes -/
def bytesC (ns : List Int) : List AV := ns.map fun b => .v (.int .u8 b)
def putN : Nat → Nat → Nat → List Int → List Int
  | 0, _, _, ns => ns
  | f + 1, n, e, ns => if n = 0 then ns else putN f (n / 10) (e - 1) (ns.set (e - 1) (48 + (n % 10 : Nat)))
theorem putN_zero (f e : Nat) (ns : List Int) : putN f 0 e ns = ns := by cases f <;> rfl
theorem set_self {s : AState} {D : Nat} {o : AObj} (h : s.obj D = some o) : s.set D o = s := by
  unfold AState.set
  congr 1
  funext i
  split
  · rename_i e; rw [e, h]
  · rfl
theorem set_set (s : AState) (D : Nat) (o o' : AObj) : (s.set D o).set D o' = s.set D o' := by
  unfold AState.set
  congr 1
  funext i
  simp only
  split <;> rfl
theorem splice_bytes (ns : List Int) (i : Nat) (x : Int) (h : i < ns.length) : spliceL (bytesC ns) i [.v (.int .u8 x)] = bytesC (ns.set i x) := by
  simp only [spliceL, bytesC, List.map_set, List.length_cons, List.length_nil]
  rw [List.set_eq_take_append_cons_drop, if_pos (by simpa using h)]
  simp
theorem u8_in {x : Int} (h0 : 0 ≤ x) (h1 : x ≤ 255) : IntKind.u8.wrap x = x := by
  simp only [IntKind.wrap, IntKind.bits, IntKind.signed]
  simp
  omega
theorem bytesC_bel (n : Nat) (ns : List Int) : OBel n (.cells (bytesC ns)) := by
  intro c hc
  simp only [bytesC, List.mem_map] at hc
  obtain ⟨b, _, rfl⟩ := hc
  exact .v _
theorem put_dig (n e : Nat) (ns : List Int) (B D : Nat) (s : AState) (hB : s.obj B = some (.cells [.ms 1 D 0 13])) (hD : s.obj D = some (.cells (bytesC ns))) (hne : B ≠ D) (hl : ns.length = 13) (he : e ≤ 13) (hn : n < 10 ^ e) (hn2 : n ≤ 100000) :
    ACalls Try.prog 254 [i64 n, i64 e, .ptr B 0] s (fun d s' => d = .tup [] ∧ s' = s.set D (.cells (bytesC (putN e n e ns)))) := by
  refine enterA ⟨[]⟩ (Try.f254.body.getD .skip) [] Try.func254 fun hwf hbel => ?_; simp only [Try.f254, push_cast, ↓EPM, ↓reduceIte, seval, reduceCtorEq]
  obtain ⟨hBn, _⟩ := hwf _ _ hB
  obtain ⟨hDn, _⟩ := hwf _ _ hD
  generalize hR : putN e n e ns = R
  refine ALoop_inv (ι := Nat × Nat × Nat × List Int) (fun i => i.2.1 < 10 ^ i.1 ∧ i.1 ≤ i.2.2.1 ∧ i.2.2.1 ≤ 13 ∧ i.2.1 ≤ 100000 ∧ i.2.2.2.length = 13 ∧ R = putN i.1 i.2.1 i.2.2.1 i.2.2.2) (fun i => envL [(0, i64 i.2.1), (1, i64 i.2.2.1), (2, .ptr B 0)]) (fun i => AState.set { s with base := ⟨s.next, []⟩ } D (.cells (bytesC i.2.2.2))) (fun i => i.1) (e, n, e, ns) ⟨hn, Nat.le_refl _, he, hn2, hl, hR.symm⟩ ?_ (fun i hi => ?_)
  · rw [set_self (s := { s with base := ⟨s.next, []⟩ }) (by exact hD)]
    refine ent rfl ?_
    simp only [push_cast, ↓EPM, ↓reduceIte, seval, reduceCtorEq]
  · obtain ⟨f, m, g, ms⟩ := i
    obtain ⟨h1, h2, h3, h5, h4, hs⟩ := hi
    simp only at h1 h2 h3 h4 h5 hs
    by_cases h0 : m = 0
    · subst h0
      rw [putN_zero] at hs
      subst hs
      simp only [push_cast, ↓EPM, ↓reduceIte, seval, reduceCtorEq]
      refine Ret_drop (S := s.set D (.cells (bytesC R))) (l := []) (m := []) (.inl rfl) rfl rfl trivial rfl rfl (Nat.le_refl _) (fun i o ho => ?_) (by simp only [packAV, Bel_tup]; simp) ⟨rfl, rfl⟩
      have ho' := ho
      simp only [AState.set] at ho
      split at ho
      · rename_i e; subst e; cases ho; exact ⟨hDn, bytesC_bel _ _, ho'⟩
      · exact ⟨(hwf i o ho).1, (hwf i o ho).2, ho'⟩
    · cases f with
      | zero => simp only [Nat.pow_zero] at h1; omega
      | succ f =>
        rw [putN, if_neg h0] at hs
        have c0 : ((m : Int) > 0) := by omega
        have w1 : IntKind.i64.wrap ((g : Int) - 1) = ((g - 1 : Nat) : Int) := by rw [wrap_in (by omega) (by omega)]; omega
        have t1 : (m : Int).tmod 10 = (m : Int) % 10 := Int.tmod_eq_emod_of_nonneg (by omega)
        have w2 : IntKind.i64.wrap (48 + (m : Int) % 10) = 48 + (m : Int) % 10 := wrap_in (by omega) (by omega)
        have w3 : IntKind.u8.wrap (48 + (m : Int) % 10) = 48 + (m : Int) % 10 := u8_in (by omega) (by omega)
        have w4 : IntKind.i64.wrap ((m : Int).tdiv 10) = (m : Int) / 10 := qdiv (by omega) (by omega) (by omega)
        have c1 : (0 : Int) ≤ ((g - 1 : Nat) : Int) := by omega
        have c2 : ((g - 1 : Nat) : Int) < 13 := by omega
        have sp := splice_bytes ms (g - 1) (48 + (m : Int) % 10) (by omega)
        rw [show (48 + ((m % 10 : Nat) : Int)) = 48 + (m : Int) % 10 by omega] at hs
        have hB' : (AState.set { s with base := ⟨s.next, []⟩ } D (.cells (bytesC ms))).obj B = some (.cells [.ms 1 D 0 13]) := by
          simp only [AState.set, hne, if_false]; exact hB
        simp only [c0, w1, t1, w2, w3, w4, c1, c2, hne, hB, Nat.mul_one, push_cast, ↓EPM, ↓reduceIte, seval, reduceCtorEq]
        refine ⟨by simp only [bytesC, List.length_map]; omega, ?_⟩
        rw [show List.take (g - 1) (bytesC ms) ++ [AV.v (Value.int IntKind.u8 (48 + (m : Int) % 10))] ++ List.drop (g - 1 + 1) (bytesC ms) = bytesC (ms.set (g - 1) (48 + (m : Int) % 10)) from sp, set_set]
        refine round_next (f, m / 10, g - 1, ms.set (g - 1) (48 + (m : Int) % 10)) ⟨?_, by simp only; omega, by simp only; omega, by simp only; omega, by simp only [List.length_set]; exact h4, hs⟩ (by simp only; omega) (ent rfl ?_)
        · simp only
          rw [Nat.pow_succ] at h1
          omega
        simp only [push_cast, ↓EPM, ↓reduceIte, seval, reduceCtorEq]

theorem u54 : Try.prog.underlying 54 = some (.slice 5) := by simp only [unders]
theorem u5 : Try.prog.underlying 5 = some (.int .u8) := by simp only [unders]
theorem u9 : Try.prog.underlying 9 = some .string := by simp only [unders]

theorem putN_len : ∀ (f n e : Nat) (ns : List Int), (putN f n e ns).length = ns.length
  | 0, _, _, _ => rfl
  | f + 1, n, e, ns => by
    rw [putN]
    split
    · rfl
    · rw [putN_len f, List.length_set]
def form : List Int := [48, 48, 48, 48, 45, 48, 48, 45, 48, 48, 84, 48, 48]
theorem filled : fillL (fun i => some (i * 1, 1)) (List.replicate 13 (AV.v (.int .u8 0)).cells).flatten [(0, .v (.int .u8 48)), (1, .v (.int .u8 48)), (2, .v (.int .u8 48)), (3, .v (.int .u8 48)), (4, .v (.int .u8 45)), (5, .v (.int .u8 48)), (6, .v (.int .u8 48)), (7, .v (.int .u8 45)), (8, .v (.int .u8 48)), (9, .v (.int .u8 48)), (10, .v (.int .u8 84)), (11, .v (.int .u8 48)), (12, .v (.int .u8 48))] = some (bytesC form) := by
  kernel_rfl
theorem zero5 : zeroAV Try.prog 5 = some (.v (.int .u8 0)) := by simp only [zeroAV, tys, Option.bind_some]
theorem sz5 : szOf Try.prog 5 = some 1 := by simp only [szOf, tys, Option.map_some]

theorem ctext_spec (n q : Int) (y m d h : Nat) (hy : y < 10000) (hm : m < 100) (hd : d < 100) (hh : h < 100) (h1 : APure Try.prog 175 [i64 n] (i64 q)) (h2 : APure Try.prog 253 [i64 q] (.tup [i64 y, i64 m, i64 d])) (h3 : n.tmod 24 = h) :
    APure Try.prog 172 [i64 n] (str (strOf (putN 13 h 13 (putN 10 d 10 (putN 7 m 7 (putN 4 y 4 form)))))) := by
  intro s
  refine enterA ⟨[15]⟩ (Try.f172.body.getD .skip) [.tmp 2] Try.func172 fun hwf hbel => ?_; simp only [Try.f172, push_cast, ↓EPM, ↓reduceIte, seval, reduceCtorEq]
  refine h1.use ?_
  simp only [push_cast, ↓EPM, ↓reduceIte, seval, reduceCtorEq]
  refine h2.use ?_
  simp only [push_cast, ↓EPM, ↓reduceIte, seval, reduceCtorEq]
  refine sem_build (e := 5) (es := 1) (z := .v (.int .u8 0)) (cs := bytesC form) u54 sz5 (by decide) (by decide) (by decide) zero5 rfl filled ?_
  simp only [nx, nx0, push_cast, ↓EPM, ↓reduceIte, seval, reduceCtorEq]
  refine sem_mark (e := 5) (id := s.next) (cs := bytesC form) (es := 1) (off := 0) (n := 13) u54 u5 rfl (by (simp only [upd, AState.set, AState.new]; (repeat (first | rw [if_neg (by omega)] | rw [if_pos (by omega)] | (simp only [↓reduceIte]; done) | simp only [↓reduceIte])); try rfl)) ?_
  simp only [nx, nx0, push_cast, ↓EPM, ↓reduceIte, seval, reduceCtorEq]
  refine ACalls_mono ?_ (put_dig y 4 form (s.next + 1) s.next _ (by (simp only [upd, AState.set, AState.new]; (repeat (first | rw [if_neg (by omega)] | rw [if_pos (by omega)] | (simp only [↓reduceIte]; done) | simp only [↓reduceIte])); try rfl)) (by (simp only [upd, AState.set, AState.new]; (repeat (first | rw [if_neg (by omega)] | rw [if_pos (by omega)] | (simp only [↓reduceIte]; done) | simp only [↓reduceIte])); try rfl)) (by omega) (by first | rfl | (simp only [putN_len]; rfl)) (by omega) (by omega) (by omega))
  rintro d' s' ⟨rfl, rfl⟩
  simp only [nx, nx0, h3, push_cast, ↓EPM, ↓reduceIte, seval, reduceCtorEq]
  refine ACalls_mono ?_ (put_dig m 7 (putN 4 y 4 form) (s.next + 1) s.next _ (by (simp only [upd, AState.set, AState.new]; (repeat (first | rw [if_neg (by omega)] | rw [if_pos (by omega)] | (simp only [↓reduceIte]; done) | simp only [↓reduceIte])); try rfl)) (by (simp only [upd, AState.set, AState.new]; (repeat (first | rw [if_neg (by omega)] | rw [if_pos (by omega)] | (simp only [↓reduceIte]; done) | simp only [↓reduceIte])); try rfl)) (by omega) (by first | rfl | (simp only [putN_len]; rfl)) (by omega) (by omega) (by omega))
  rintro d' s' ⟨rfl, rfl⟩
  simp only [nx, nx0, h3, push_cast, ↓EPM, ↓reduceIte, seval, reduceCtorEq]
  refine ACalls_mono ?_ (put_dig d 10 (putN 7 m 7 (putN 4 y 4 form)) (s.next + 1) s.next _ (by (simp only [upd, AState.set, AState.new]; (repeat (first | rw [if_neg (by omega)] | rw [if_pos (by omega)] | (simp only [↓reduceIte]; done) | simp only [↓reduceIte])); try rfl)) (by (simp only [upd, AState.set, AState.new]; (repeat (first | rw [if_neg (by omega)] | rw [if_pos (by omega)] | (simp only [↓reduceIte]; done) | simp only [↓reduceIte])); try rfl)) (by omega) (by first | rfl | (simp only [putN_len]; rfl)) (by omega) (by omega) (by omega))
  rintro d' s' ⟨rfl, rfl⟩
  simp only [nx, nx0, h3, push_cast, ↓EPM, ↓reduceIte, seval, reduceCtorEq]
  refine ACalls_mono ?_ (put_dig h 13 (putN 10 d 10 (putN 7 m 7 (putN 4 y 4 form))) (s.next + 1) s.next _ (by (simp only [upd, AState.set, AState.new]; (repeat (first | rw [if_neg (by omega)] | rw [if_pos (by omega)] | (simp only [↓reduceIte]; done) | simp only [↓reduceIte])); try rfl)) (by (simp only [upd, AState.set, AState.new]; (repeat (first | rw [if_neg (by omega)] | rw [if_pos (by omega)] | (simp only [↓reduceIte]; done) | simp only [↓reduceIte])); try rfl)) (by omega) (by first | rfl | (simp only [putN_len]; rfl)) (by omega) (by omega) (by omega))
  rintro d' s' ⟨rfl, rfl⟩
  simp only [nx, nx0, h3, push_cast, ↓EPM, ↓reduceIte, seval, reduceCtorEq]
  refine sem_str_ms (e := 5) (id := s.next) (cs := bytesC (putN 13 h 13 (putN 10 d 10 (putN 7 m 7 (putN 4 y 4 form))))) (es := 1) (off := 0) (n := 13) (ns := (putN 13 h 13 (putN 10 d 10 (putN 7 m 7 (putN 4 y 4 form))))) u54 u5 u9 rfl (by (simp only [upd, AState.set, AState.new]; (repeat (first | rw [if_neg (by omega)] | rw [if_pos (by omega)] | (simp only [↓reduceIte]; done) | simp only [↓reduceIte])); try rfl)) ?_ ?_ ?_
  · simp only [bytesC, List.length_map, putN_len]; decide
  · simp only [List.drop_zero]
    rw [List.take_of_length_le (by simp only [bytesC, List.length_map, putN_len]; decide)]
    rfl
  simp only [push_cast, ↓EPM, ↓reduceIte, seval, reduceCtorEq]
  exact RetP [str (strOf (putN 13 h 13 (putN 10 d 10 (putN 7 m 7 (putN 4 y 4 form)))))]

theorem text_a : APure Try.prog 172 [i64 24] (str day1) := by
  have hd := date_spec 1 (by omega) (by omega)
  rw [show cY 1 = ((1970 : Nat) : Int) by decide, show cM 1 = ((1 : Nat) : Int) by decide, show cQ 1 + 1 = ((2 : Nat) : Int) by decide] at hd
  have h := ctext_spec 24 1 1970 1 2 0 (by omega) (by omega) (by omega) (by omega) (dayOf_spec 24 (by omega) (by omega)) hd (by decide)
  rw [show strOf (putN 13 0 13 (putN 10 2 10 (putN 7 1 7 (putN 4 1970 4 form)))) = day1 by decide] at h
  exact h
theorem text_b : APure Try.prog 172 [i64 9504] (str day396) := by
  have hd := date_spec 396 (by omega) (by omega)
  rw [show cY 396 = ((1971 : Nat) : Int) by decide, show cM 396 = ((2 : Nat) : Int) by decide, show cQ 396 + 1 = ((1 : Nat) : Int) by decide] at hd
  have h := ctext_spec 9504 396 1971 2 1 0 (by omega) (by omega) (by omega) (by omega) (dayOf_spec 9504 (by omega) (by omega)) hd (by decide)
  rw [show strOf (putN 13 0 13 (putN 10 1 10 (putN 7 2 7 (putN 4 1971 4 form)))) = day396 by decide] at h
  exact h

theorem stext_a : APure Try.prog 97 [partA 2 1] (str ⟨#[49, 57, 55, 48, 45, 48, 49, 45, 48, 50]⟩) := by
  intro s
  refine enterA ⟨[1]⟩ (Try.f97.body.getD .skip) [.tmp 2] Try.func97 fun hwf hbel => ?_; simp only [Try.f97, push_cast, ↓EPM, ↓reduceIte, seval, reduceCtorEq]
  refine pright_a.use ?_
  simp only [push_cast, ↓EPM, ↓reduceIte, seval, reduceCtorEq]
  refine pspan_a.use ?_
  simp only [push_cast, ↓EPM, ↓reduceIte, seval, reduceCtorEq]
  refine text_a.use ?_
  simp only [push_cast, ↓EPM, ↓reduceIte, seval, reduceCtorEq]
  refine cut_spec.use ?_
  simp only [push_cast, ↓EPM, ↓reduceIte, seval, reduceCtorEq]
  exact RetP [str ⟨#[49, 57, 55, 48, 45, 48, 49, 45, 48, 50]⟩]
theorem stext_b : APure Try.prog 97 [partA 3 13] (str ⟨#[49, 57, 55, 49, 45, 48, 50]⟩) := by
  intro s
  have hl := lix_spec day396 45 (by decide)
  rw [show Lib.lastIndexByte day396 45 = 7 by decide] at hl
  have e0 : day396.size = 13 := rfl
  have e1 : day396.extract 0 7 = ⟨#[49, 57, 55, 49, 45, 48, 50]⟩ := by decide
  refine enterA ⟨[1]⟩ (Try.f97.body.getD .skip) [.tmp 2] Try.func97 fun hwf hbel => ?_; simp only [Try.f97, push_cast, ↓EPM, ↓reduceIte, seval, reduceCtorEq]
  refine pright_b.use ?_
  simp only [push_cast, ↓EPM, ↓reduceIte, seval, reduceCtorEq]
  refine pspan_b.use ?_
  simp only [push_cast, ↓EPM, ↓reduceIte, seval, reduceCtorEq]
  refine text_b.use ?_
  simp only [push_cast, ↓EPM, ↓reduceIte, seval, reduceCtorEq]
  refine hl.use ?_
  simp only [e0, e1, push_cast, ↓EPM, ↓reduceIte, seval, reduceCtorEq]
  exact RetP [str ⟨#[49, 57, 55, 49, 45, 48, 50]⟩]
theorem alive39_spec : APure Try.prog 32 [] (boo true) := by
  intro s
  have h1 : ((⟨#[49, 57, 55, 48, 45, 48, 49, 45, 48, 50]⟩ : ByteArray).toList == (⟨#[49, 57, 55, 48, 45, 48, 49, 45, 48, 50]⟩ : ByteArray).toList) = true := by rw [str_beq]; decide
  have h2 : ((⟨#[49, 57, 55, 49, 45, 48, 50]⟩ : ByteArray).toList == (⟨#[49, 57, 55, 49, 45, 48, 50]⟩ : ByteArray).toList) = true := by rw [str_beq]; decide
  refine enterA ⟨[]⟩ (Try.f32.body.getD .skip) [.tmp 0] Try.func32 fun hwf hbel => ?_; simp only [Try.f32, push_cast, ↓EPM, ↓reduceIte, seval, reduceCtorEq]
  refine stext_a.use ?_
  simp only [h1, push_cast, ↓EPM, ↓reduceIte, seval, reduceCtorEq]
  refine stext_b.use ?_
  simp only [h2, push_cast, ↓EPM, ↓reduceIte, seval, reduceCtorEq]
  exact RetP [boo true]
end Go.Proofs

namespace Go.Proofs
open Go Go.Av Go.Sort
set_option linter.unusedSimpArgs false
set_option linter.unusedVariables false
set_option maxRecDepth 30000
set_option maxHeartbeats 4000000

theorem mAllR_len : ∀ (l : List Row) (m m' : KM), mAllR m l = some m' → m'.length ≤ m.length + l.length
  | [], m, m', h => by cases h; simp
  | y :: l, m, m', h => by
    rw [mAllR] at h
    cases hc : mergeC (m.get y.k) y.c with
    | none => rw [hc] at h; cases h
    | some c =>
      rw [hc, Option.bind_some] at h
      have := mAllR_len l _ _ h
      have := m.put_len y.k c
      simp only [List.length_cons]; omega
theorem rollV_form (l : List Row) (t : Int) : ∃ f L, rollV l t = resR f L ∧ L.length ≤ l.length := by
  unfold rollV
  split
  · cases h : mAllR [] (l.map (rollR t)) with
    | none => exact ⟨6, [], rfl, Nat.zero_le _⟩
    | some m =>
      refine ⟨0, mRows m, rfl, ?_⟩
      have := mAllR_len _ _ _ h
      simp only [mRows, List.length_map, sortK_len]
      simpa using this
  · exact ⟨_, [], rfl, Nat.zero_le _⟩

theorem seriesRolls_gen (l : List Row) (t : Int) : APure Try.prog 6 [.sl 9 (rowsA l) .none, i64 t] (boo true) := by
  intro s
  refine enterA ⟨[]⟩ (Try.f6.body.getD .skip) [.tmp 4] Try.func6 fun hwf hbel => ?_; simp only [Try.f6, push_cast, ↓EPM, ↓reduceIte, seval, reduceCtorEq]
  by_cases hl : ((l.length : Int) > 60)
  · simp only [hl, push_cast, ↓EPM, ↓reduceIte, seval, reduceCtorEq]
    refine alive39_spec.use ?_
    simp only [push_cast, ↓EPM, ↓reduceIte, seval, reduceCtorEq]
    exact RetP [boo true]
  · obtain ⟨f, L, hf, hL⟩ := rollV_form l t
    have h1 := roll_spec l t (by omega)
    have h2 := rroll_spec l t (by omega)
    rw [hf] at h1 h2
    simp only [hl, push_cast, ↓EPM, ↓reduceIte, seval, reduceCtorEq]
    refine h1.use ?_
    simp only [resR, push_cast, ↓EPM, ↓reduceIte, seval, reduceCtorEq]
    refine h2.use ?_
    simp only [resR, push_cast, ↓EPM, ↓reduceIte, seval, reduceCtorEq]
    refine (same_spec L L (by omega)).use ?_
    simp only [push_cast, ↓EPM, ↓reduceIte, seval, reduceCtorEq]
    refine alive39_spec.use ?_
    simp only [push_cast, ↓EPM, ↓reduceIte, seval, reduceCtorEq]
    exact RetP [boo true]
theorem seriesRolls_spec (l : List Row) (t : Int64) : APure Try.prog 6 [.sl 9 (rowsA l) .none, i6 t] (boo true) := seriesRolls_gen l t.toInt
end Go.Proofs
