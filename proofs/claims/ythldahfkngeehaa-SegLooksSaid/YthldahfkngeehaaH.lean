/- Part of the proof of a law of this seat: the texts S30 S31 S32 S33 S34 S35 S36 S37 S38 S39 S40 S41 S42 S43, in this order. -/
import Derived.Test.YthldahfkngeehaaG
import Derived.Test.YthldahfkngeehaaE
namespace Go.Proofs
open Go Go.Av Go.Sort
set_option linter.unusedSimpArgs false
set_option linter.unusedVariables false
set_option maxRecDepth 30000
set_option maxHeartbeats 2000000

/-! Groups: a map, and whether a cell has left its range -/
def gput (M : KM × Bool) (k : Key) (c : Cell) : KM × Bool :=
  if M.2 then M else match mergeC (M.1.get k) c with
    | some d => (M.1.put k d, false)
    | none => (M.1.put k zeroC, true)
def gAt (s : AState) (G m : Nat) (M : KM × Bool) : AState := (s.set G (.cells [.mp m, boo M.2])).set m (.map (entA M.1))

theorem gAt_same {s : AState} {G m : Nat} {M : KM × Bool} (hG : s.obj G = some (.cells [.mp m, boo M.2])) (hm : s.obj m = some (.map (entA M.1))) : gAt s G m M = s := by
  refine AState.ext' (fun i => ?_) rfl rfl
  simp only [gAt, AState.set]
  split
  · rename_i e; subst e; exact hm.symm
  · split
    · rename_i e; subst e; exact hG.symm
    · rfl
theorem gAt_wf {s : AState} {G m : Nat} (M : KM × Bool) (h : s.Wf) (h1 : G < s.next) (h2 : m < s.next) : (gAt s G m M).Wf := by
  refine (h.set h1 ?_).set h2 (entA_bel _ _)
  intro c hc
  simp only [List.mem_cons, List.not_mem_nil, or_false] at hc
  rcases hc with rfl | rfl
  · exact Bel_mp.2 h2
  · exact .v _

theorem put_law (s : AState) (G m : Nat) (M : KM × Bool) (k : Key) (c : Cell) (hG : s.obj G = some (.cells [.mp m, boo M.2])) (hm : s.obj m = some (.map (entA M.1))) :
    ACalls Try.prog 61 [.ptr G 0, .agg k.av, .agg c.av] s (fun d s' => d = .tup [] ∧ s' = gAt s G m (gput M k c)) := by
  have n1 : G ≠ m := by rintro rfl; rw [hG] at hm; cases hm
  obtain ⟨M, ov⟩ := M
  simp only at hG hm
  cases ov with
  | true =>
    have e : gAt s G m (gput (M, true) k c) = s := gAt_same (M := (M, true)) hG hm
    rw [e]
    refine enterA ⟨[4,5]⟩ (Try.f61.body.getD .skip) [] Try.func61 fun hwf hbel => ?_; simp only [hG,Try.f61, push_cast, ↓EPM, ↓reduceIte, seval, reduceCtorEq]
    have k1 := (hwf _ _ hG).1
    have k2 := (hwf _ _ hm).1
    refine Ret_drop (S := s) (l := []) (m := []) (.inr rfl) rfl rfl trivial rfl rfl (Nat.le_refl _) ?_ (by simp only [packAV, Bel_tup]; simp) ⟨rfl, rfl⟩
    exact keep_of rfl hwf (fun i hi => rfl)
  | false =>
    have hmg := merge_spec (M.get k) c
    refine enterA ⟨[4,5]⟩ (Try.f61.body.getD .skip) [] Try.func61 fun hwf hbel => ?_; simp only [hG,Try.f61, push_cast, ↓EPM, ↓reduceIte, seval, reduceCtorEq]
    have k1 := (hwf _ _ hG).1
    have k2 := (hwf _ _ hm).1
    have c1 : ¬ (G = s.next) := by omega
    have c2 : ¬ (m = s.next) := by omega
    have c3 : ¬ (s.next = G) := by omega
    have c4 : ¬ (s.next = m) := by omega
    have c5 : ¬ (G = m) := n1
    cases hmc : mergeC (M.get k) c with
    | none =>
      rw [hmc] at hmg
      refine chainA [{ s with base := ⟨s.next, []⟩ }, AState.new { s with base := ⟨s.next, []⟩ } (.cells zeroC.av), AState.set (AState.new { s with base := ⟨s.next, []⟩ } (.cells zeroC.av)) s.next (.cells zeroC.av)] [some 9, some 9, some 9, some 9, some 9, some 9, some 9, some 9, some 9, some 9, some 9, none, none, some 9] mixed ?_; simp only [zeroC, hG, c1, c2, c3, c4, c5,  ↓EX, EY, ↓EH, push_cast, ↓EPM, ↓reduceIte, seval, reduceCtorEq]
      refine qlookC (id := m) (es := entA M) (v := .agg (M.get k).av) (M.find k) u85 u39 rfl rfl (ck_key k) (mfind M k) (mval M k) (fun st hst => ?_) ?_
      · simp only [List.mem_cons, List.not_mem_nil, or_false] at hst
        rcases hst with rfl | rfl | rfl <;> ((simp only [upd, AState.set, AState.new]; (repeat (first | rw [if_neg (by omega)] | rw [if_pos (by omega)] | (simp only [↓reduceIte]; done) | simp only [↓reduceIte])); try rfl); exact hm)
      simp only [↓EX, EY, ↓EH, push_cast, ↓EPM, ↓reduceIte, seval, reduceCtorEq]
      refine qcallC (hmg) rfl (by simp only [push_cast, ↓EPM, ↓reduceIte, seval, reduceCtorEq] <;> rfl) ?_; simp only [↓EX, EY, ↓EH, push_cast, ↓EPM, ↓reduceIte, seval, reduceCtorEq]
      simp only [resC, zeroC, ↓EX, EY, ↓EH, push_cast, ↓EPM, ↓reduceIte, seval, reduceCtorEq]
      simp only [hG, c1, c2, c3, c4, c5, push_cast, ↓EPM, ↓reduceIte, seval, reduceCtorEq]
      have hmm : (AState.set (AState.set (AState.new { s with base := ⟨s.next, []⟩ } (.cells zeroC.av)) s.next (.cells zeroC.av)) G (.cells [.mp m, boo true])).obj m = some (.map (entA M)) := by (simp only [upd, AState.set, AState.new]; (repeat (first | rw [if_neg (by omega)] | rw [if_pos (by omega)] | (simp only [↓reduceIte]; done) | simp only [↓reduceIte])); try rfl); exact hm
      refine chainA [(AState.set (AState.set (AState.new { s with base := ⟨s.next, []⟩ } (.cells zeroC.av)) s.next (.cells zeroC.av)) G (.cells [.mp m, boo true])), AState.set (AState.set (AState.set (AState.new { s with base := ⟨s.next, []⟩ } (.cells zeroC.av)) s.next (.cells zeroC.av)) G (.cells [.mp m, boo true])) m (.map (entA (M.put k zeroC)))] [some 9, some 9, some 9, some 9, some 9, some 9, none] mixed ?_; simp only [zeroC, hG, c1, c2, c3, c4, c5,  ↓EX, EY, ↓EH, push_cast, ↓EPM, ↓reduceIte, seval, reduceCtorEq]
      refine qupdC (id := m) (es := entA M) (key := .agg k.av) (val := .agg zeroC.av) (M.find k) u85 u39 rfl rfl rfl hmm (ck_key k) (mfind M k) (bits_key k) (msame M k) (by simp only [mput, zeroC]) ?_
      simp only [↓EX, EY, ↓EH, push_cast, ↓EPM, ↓reduceIte, seval, reduceCtorEq]
      refine Ret_drop (S := gAt s G m (gput (M, false) k c)) (l := []) (m := []) (.inl rfl) rfl rfl trivial rfl rfl (Nat.le_succ _) (keep_of rfl (gAt_wf _ hwf k1 k2) fun i hi => ?_) (by simp only [packAV, Bel_tup]; simp) ⟨rfl, rfl⟩
      simp only [gAt, gput, hmc, Bool.false_eq_true, if_false, AState.set, AState.new]
      (repeat' split) <;> first | rfl | omega
    | some d =>
      rw [hmc] at hmg
      refine chainA [{ s with base := ⟨s.next, []⟩ }, AState.new { s with base := ⟨s.next, []⟩ } (.cells zeroC.av), AState.set (AState.new { s with base := ⟨s.next, []⟩ } (.cells zeroC.av)) s.next (.cells d.av)] [some 9, some 9, some 9, some 9, some 9, some 9, some 9, some 9, some 9, some 9, some 9, none, none, some 9] mixed ?_; simp only [zeroC, hG, c1, c2, c3, c4, c5,  ↓EX, EY, ↓EH, push_cast, ↓EPM, ↓reduceIte, seval, reduceCtorEq]
      refine qlookC (id := m) (es := entA M) (v := .agg (M.get k).av) (M.find k) u85 u39 rfl rfl (ck_key k) (mfind M k) (mval M k) (fun st hst => ?_) ?_
      · simp only [List.mem_cons, List.not_mem_nil, or_false] at hst
        rcases hst with rfl | rfl | rfl <;> ((simp only [upd, AState.set, AState.new]; (repeat (first | rw [if_neg (by omega)] | rw [if_pos (by omega)] | (simp only [↓reduceIte]; done) | simp only [↓reduceIte])); try rfl); exact hm)
      simp only [↓EX, EY, ↓EH, push_cast, ↓EPM, ↓reduceIte, seval, reduceCtorEq]
      refine qcallC (hmg) rfl (by simp only [push_cast, ↓EPM, ↓reduceIte, seval, reduceCtorEq] <;> rfl) ?_; simp only [↓EX, EY, ↓EH, push_cast, ↓EPM, ↓reduceIte, seval, reduceCtorEq]
      simp only [resC, zeroC, ↓EX, EY, ↓EH, push_cast, ↓EPM, ↓reduceIte, seval, reduceCtorEq]
      simp only [hG, c1, c2, c3, c4, c5, push_cast, ↓EPM, ↓reduceIte, seval, reduceCtorEq]
      have hmm : (AState.set (AState.set (AState.new { s with base := ⟨s.next, []⟩ } (.cells zeroC.av)) s.next (.cells d.av)) G (.cells [.mp m, boo false])).obj m = some (.map (entA M)) := by (simp only [upd, AState.set, AState.new]; (repeat (first | rw [if_neg (by omega)] | rw [if_pos (by omega)] | (simp only [↓reduceIte]; done) | simp only [↓reduceIte])); try rfl); exact hm
      refine chainA [(AState.set (AState.set (AState.new { s with base := ⟨s.next, []⟩ } (.cells zeroC.av)) s.next (.cells d.av)) G (.cells [.mp m, boo false])), AState.set (AState.set (AState.set (AState.new { s with base := ⟨s.next, []⟩ } (.cells zeroC.av)) s.next (.cells d.av)) G (.cells [.mp m, boo false])) m (.map (entA (M.put k d)))] [some 9, some 9, some 9, some 9, some 9, some 9, none] mixed ?_; simp only [zeroC, hG, c1, c2, c3, c4, c5,  ↓EX, EY, ↓EH, push_cast, ↓EPM, ↓reduceIte, seval, reduceCtorEq]
      refine qupdC (id := m) (es := entA M) (key := .agg k.av) (val := .agg d.av) (M.find k) u85 u39 rfl rfl rfl hmm (ck_key k) (mfind M k) (bits_key k) (msame M k) (by simp only [mput, zeroC]) ?_
      simp only [↓EX, EY, ↓EH, push_cast, ↓EPM, ↓reduceIte, seval, reduceCtorEq]
      refine Ret_drop (S := gAt s G m (gput (M, false) k c)) (l := []) (m := []) (.inl rfl) rfl rfl trivial rfl rfl (Nat.le_succ _) (keep_of rfl (gAt_wf _ hwf k1 k2) fun i hi => ?_) (by simp only [packAV, Bel_tup]; simp) ⟨rfl, rfl⟩
      simp only [gAt, gput, hmc, Bool.false_eq_true, if_false, AState.set, AState.new]
      (repeat' split) <;> first | rfl | omega

theorem rowsB_snoc (n : Nat) (l : List Row) (x : Row) : ∀ c ∈ rowsA l ++ rowsA [x], ∀ y ∈ c, Bel n y := by rw [← rowsA_append]; exact of_eq_true (rowsA_bel _ _)

def resG (M : KM × Bool) : Option (List Row) := if M.2 then none else some (mRows M.1)

theorem rows_law (s : AState) (G m : Nat) (M : KM × Bool) (hlen : M.1.length ≤ 100000) (hG : s.obj G = some (.cells [.mp m, boo M.2])) (hm : s.obj m = some (.map (entA M.1))) :
    ACalls Try.prog 64 [.ptr G 0] s (fun d s' => d = resP (resG M) ∧ s' = s) := by
  have n1 : G ≠ m := by rintro rfl; rw [hG] at hm; cases hm
  obtain ⟨M, ov⟩ := M
  simp only at hG hm hlen
  cases ov with
  | true =>
    refine enterA ⟨[]⟩ (Try.f64.body.getD .skip) [.tmp 2, .tmp 3] Try.func64 fun hwf hbel => ?_; simp only [hG,Try.f64, push_cast, ↓EPM, ↓reduceIte, seval, reduceCtorEq]
    simp only [resG, if_true]
    exact RetW [.v (.slice none 0 0), i64 6] [.sl 9 [] .none, i64 6]
  | false =>
    refine enterA ⟨[]⟩ (Try.f64.body.getD .skip) [.tmp 2, .tmp 3] Try.func64 fun hwf hbel => ?_; simp only [hG,Try.f64, push_cast, ↓EPM, ↓reduceIte, seval, reduceCtorEq]
    have k1 := (hwf _ _ hG).1
    have k2 := (hwf _ _ hm).1
    simp only [resG, Bool.false_eq_true, if_false]
    refine (keysOf_spec m).use ?_
    simp only [push_cast, ↓EPM, ↓reduceIte, seval, reduceCtorEq]
    refine ACalls_mono ?_ (sortedFunc_spec M _ m (by (simp only [upd, AState.set, AState.new]; (repeat (first | rw [if_neg (by omega)] | rw [if_pos (by omega)] | (simp only [↓reduceIte]; done) | simp only [↓reduceIte])); try rfl); exact hm) (by omega))
    rintro d s' ⟨rfl, rfl⟩
    simp only [keysA_len, sortK_len, push_cast, ↓EPM, ↓reduceIte, seval, reduceCtorEq]
    refine ALoop_inv (ι := Nat) (fun j => j ≤ M.length) (fun j => envL [(0, .ptr G 0), (2, .sl 9 (rowsA (KR M j)) (.row s.next j)), (15, .sl 5 (keysA (sortK (M.map (·.1)))) .none), (16, i64 M.length), (17, i64 j)]) (fun j => AState.new { s with base := ⟨s.next, []⟩ } (.row j)) (fun j => M.length - j) 0 (Nat.zero_le _) (AEnt.trans (AEnt_reserve _ _) (ent rfl ?_)) (fun j hj => ?_)
    · simp only [Wv_row, KR, List.take_zero, List.map_nil, push_cast, ↓EPM, ↓reduceIte, seval, reduceCtorEq]
    · by_cases hjl : j < M.length
      · obtain ⟨x, hx⟩ : ∃ x, (sortK (M.map (·.1)))[j]? = some x := ⟨_, List.getElem?_eq_getElem (by rw [sortK_len]; exact hjl)⟩
        have gx := keysA_get hx
        have hc : ((j : Int) < (M.length : Int)) := by omega
        have h0 : (0 : Int) ≤ (j : Int) := by omega
        have hw : IntKind.i64.wrap ((j : Int) + 1) = (j : Int) + 1 := wrap_in (by omega) (by omega)
        have hrm : ((j : Int) + 1) * 104 ≤ 140737488355328 := by omega
        have c1 : ¬ (G = s.next) := by omega
        have c2 : ¬ (m = s.next) := by omega
        have c3 : ¬ (s.next = G) := by omega
        have c4 : ¬ (s.next = m) := by omega
        have c5 : ¬ (G = m) := n1
        have c6 : ¬ (G = s.next + 1) := by omega
        have c7 : ¬ (m = s.next + 1) := by omega
        simp only [hc, h0, gx, keysA_len, sortK_len, push_cast, ↓EPM, ↓reduceIte, seval, reduceCtorEq]
        refine chainA [(AState.set (AState.new (AState.new { s with base := ⟨s.next, []⟩ } (.row j)) (.cells zeroK.av)) (s.next + 1) (.cells x.av)), AState.set (AState.set (AState.new (AState.new { s with base := ⟨s.next, []⟩ } (.row j)) (.cells zeroK.av)) (s.next + 1) (.cells x.av)) s.next (.row (j + 1))] [some 9, some 9, some 9, some 9, some 9, some 9, some 9, some 9, some 9, some 9, none, some 9] mixed ?_; simp only [hG, h0, gx, keysA_len, sortK_len, hrm, c1, c2, c3, c4, c5, c6, c7,  ↓EX, EY, ↓EH, push_cast, ↓EPM, ↓reduceIte, seval, reduceCtorEq]
        refine qlookC (id := m) (es := entA M) (v := .agg (M.get x).av) (M.find x) u85 u39 rfl rfl (ck_key x) (mfind M x) (mval M x) (fun st hst => ?_) ?_
        · simp only [List.mem_cons, List.not_mem_nil, or_false] at hst
          rcases hst with rfl | rfl <;> ((simp only [upd, AState.set, AState.new]; (repeat (first | rw [if_neg (by omega)] | rw [if_pos (by omega)] | (simp only [↓reduceIte]; done) | simp only [↓reduceIte])); try rfl); exact hm)
        simp only [hrm, c1, c2, c3, c4, c5, c6, c7, ↓EX, EY, ↓EH, push_cast, ↓EPM, ↓reduceIte, seval, reduceCtorEq]
        refine ⟨by rw [KR_len (by omega)]; omega, ?_⟩
        refine round_next (j + 1) (by show j + 1 ≤ M.length; omega) (by show M.length - (j + 1) < M.length - j; omega) (AEnt_drop rfl rfl (Nat.le_succ _) ⟨Nat.le_succ _, fun id hid => ?_⟩ ((hwf.base _).new trivial) (EntB_all ?_))
        · replace hid : id < s.next + 1 := hid
          simp only [AState.set, AState.new]
          (repeat' split) <;> first | rfl | omega
        rw [KR_succ hx]
        simp only [hw, rowsA_append, rowsA_cons, push_cast, ↓EPM, ↓reduceIte, seval, reduceCtorEq]
        (try first | omega | ((repeat' apply And.intro) <;> first | omega | (simp only [push_cast, ↓EPM, ↓reduceIte, seval, reduceCtorEq, List.mem_cons, List.not_mem_nil, or_false, forall_eq_or_imp, forall_eq, and_self, true_and, and_true, zeroR]; done) | (simp only [push_cast, ↓EPM, ↓reduceIte, seval, reduceCtorEq, List.mem_cons, List.not_mem_nil, or_false, forall_eq_or_imp, forall_eq, and_self, true_and, and_true, zeroR]; omega)))
      · have hc : ¬ ((j : Int) < (M.length : Int)) := by omega
        simp only [hc, keysA_len, sortK_len, push_cast, ↓EPM, ↓reduceIte, seval, reduceCtorEq]
        have ej : j = M.length := by omega
        subst ej
        rw [KR_all]
        exact RetW [.sl 9 (rowsA (mRows M)) (.row s.next M.length), i64 0] [.sl 9 (rowsA (mRows M)) .none, i64 0]

end Go.Proofs

namespace Go.Proofs
open Go Go.Av Go.Sort
set_option linter.unusedSimpArgs false
set_option linter.unusedVariables false
set_option maxRecDepth 30000
set_option maxHeartbeats 2000000

def grows : KM × Bool → List Row → KM × Bool
  | M, [] => M
  | M, x :: l => grows (gput M x.k x.c) l
theorem grows_over (m : KM) : ∀ l : List Row, grows (m, true) l = (m, true)
  | [] => rfl
  | x :: l => by
    rw [grows, show gput (m, true) x.k x.c = (m, true) from rfl]
    exact grows_over m l
theorem grows_append (M : KM × Bool) (l m : List Row) : grows M (l ++ m) = grows (grows M l) m := by
  induction l generalizing M with
  | nil => rfl
  | cons x l ih => rw [List.cons_append, grows, grows, ih]
theorem resG_grows : ∀ (l : List Row) (m : KM), (m.map (·.1)).Nodup → resG (grows (m, false) l) = putAll (mRows m) l
  | [], m, _ => rfl
  | x :: l, m, hn => by
    rw [grows, putAll, put_step m hn x]
    simp only [gput, Bool.false_eq_true, if_false]
    cases h : mergeC (m.get x.k) x.c with
    | none => simp only [Option.map_none, Option.bind_none]; rw [grows_over]; rfl
    | some c => exact resG_grows l _ (KM.put_nodup _ _ _ hn)
theorem resG_all (l : List Row) : resG (grows ([], false) l) = putAll [] l := by
  have := resG_grows l [] List.nodup_nil
  rwa [mRows_nil] at this
theorem gput_len (M : KM × Bool) (k : Key) (c : Cell) : (gput M k c).1.length ≤ M.1.length + 1 := by
  unfold gput
  split
  · omega
  · split <;> exact KM.put_len _ _ _

/-- The groups' rows of facts and of rows. -/
def Query.fr1 (q : Query) (f : Fact) : Row := ⟨q.grp f.k, ⟨1, f.v, f.v, f.v⟩⟩
def Query.factL (q : Query) (l : List Fact) : List Row := (l.filter fun f => q.hits f.k).map q.fr1
def Query.rowL (q : Query) (l : List Row) : List Row := (l.filter fun r => q.hits r.k).map fun r => ⟨q.grp r.k, r.c⟩

/-- Groups of one's own. -/
def gS (s : AState) (M : KM × Bool) : AState := AState.new (AState.new { s with base := ⟨s.next, []⟩ } (.map (entA M.1))) (.cells [.mp s.next, boo M.2])
theorem gS_wf {s : AState} (h : s.Wf) (M : KM × Bool) : (gS s M).Wf := by
  refine ((h.base _).new (entA_bel _ _)).new ?_
  intro c hc
  simp only [List.mem_cons, List.not_mem_nil, or_false] at hc
  rcases hc with rfl | rfl
  · exact Bel_mp.2 (by show s.next < s.next + 1 + 1; omega)
  · exact .v _

theorem fnB {n : Nat} (G : Nat) (h : G < n) : Bel n (.fn 61 [.ptr G 0] []) := Bel_fn.2 ⟨fun c hc => by rw [List.mem_singleton.1 hc]; exact Bel_ptr.2 h, fun c hc => by cases hc⟩

theorem facts_law (q : Query) (l : List Fact) (hl : l.length ≤ 1000) : APure Try.prog 28 [.agg q.av, .sl 6 (factsA l) .none] (resP (putAll [] (q.factL l))) := by
  intro s
  rw [← resG_all]
  generalize hr : grows ([], false) (q.factL l) = r
  refine enterA ⟨[2]⟩ (Try.f28.body.getD .skip) [.tmp 4, .tmp 5] Try.func28 fun hwf hbel => ?_; simp only [Try.f28, push_cast, ↓EPM, ↓reduceIte, seval, reduceCtorEq]
  refine makeMap_law ?_
  simp only [push_cast, ↓EPM, ↓reduceIte, seval, reduceCtorEq]
  refine ALoop_inv (ι := Nat × (KM × Bool)) (fun i => i.1 ≤ l.length ∧ i.2.1.length ≤ i.1 ∧ r = grows i.2 (q.factL (l.drop i.1))) (fun i => envL [(2, .ep q.av 0), (6, .ptr (s.next + 1) 0), (7, .fn 61 [.ptr (s.next + 1) 0] []), (15, .sl 6 (factsA l) .none), (16, i64 l.length), (17, i64 i.1)]) (fun i => gS s i.2) (fun i => l.length - i.1) (0, ([], false)) ⟨Nat.zero_le _, Nat.le_refl _, by rw [← hr]; rfl⟩ (ent rfl ?_) (fun i hi => ?_)
  · simp only [push_cast, ↓EPM, ↓reduceIte, seval, reduceCtorEq]
  · obtain ⟨i, M⟩ := i
    obtain ⟨hi, hml, hs⟩ := hi
    simp only at hi hml hs
    by_cases hlt : i < l.length
    · obtain ⟨x, hx⟩ : ∃ x, l[i]? = some x := ⟨_, List.getElem?_eq_getElem hlt⟩
      have gx := factsA_get hx
      have hc : ((i : Int) < (l.length : Int)) := by omega
      have h0 : (0 : Int) ≤ (i : Int) := by omega
      have hw : IntKind.i64.wrap ((i : Int) + 1) = (i : Int) + 1 := wrap_in (by omega) (by omega)
      simp only [hc, h0, gx, gS, push_cast, ↓EPM, ↓reduceIte, seval, reduceCtorEq]
      refine (matches_spec q x.k).use ?_
      cases hh : q.hits x.k with
      | false =>
        rw [drop_get hx, show q.factL (x :: l.drop (i + 1)) = q.factL (l.drop (i + 1)) by simp [Query.factL, hh]] at hs
        simp only [hw, push_cast, ↓EPM, ↓reduceIte, seval, reduceCtorEq]
        refine round_next (i + 1, M) ⟨by simp only; omega, by simp only; omega, by rw [hs]⟩ (by simp only; omega) (AEnt_drop rfl rfl (by show s.next ≤ s.next + 2; omega) ⟨by show s.next + 2 ≤ s.next + 3; omega, fun id hid => ?_⟩ (gS_wf hwf _) (EntB_all ?_))
        · replace hid : id < s.next + 2 := hid
          simp only [gS, gAt, AState.set, AState.new]
          (repeat' split) <;> first | rfl | omega
        simp only [push_cast, ↓EPM, ↓reduceIte, seval, reduceCtorEq]
        (try first | omega | ((repeat' apply And.intro) <;> first | omega | (simp only [push_cast, ↓EPM, ↓reduceIte, seval, reduceCtorEq, List.mem_cons, List.not_mem_nil, or_false, forall_eq_or_imp, forall_eq, and_self, true_and, and_true, zeroR]; done) | (simp only [push_cast, ↓EPM, ↓reduceIte, seval, reduceCtorEq, List.mem_cons, List.not_mem_nil, or_false, forall_eq_or_imp, forall_eq, and_self, true_and, and_true, zeroR]; omega)))
      | true =>
        rw [drop_get hx, show q.factL (x :: l.drop (i + 1)) = q.fr1 x :: q.factL (l.drop (i + 1)) by simp [Query.factL, hh], grows] at hs
        have hgl := gput_len M (q.grp x.k) ⟨1, x.v, x.v, x.v⟩
        simp only [push_cast, ↓EPM, ↓reduceIte, seval, reduceCtorEq]
        refine chainA [(AState.set (AState.new (gS s M) (.cells zeroF.av)) (s.next + 2) (.cells x.av)), gAt (AState.set (AState.new (gS s M) (.cells zeroF.av)) (s.next + 2) (.cells x.av)) (s.next + 1) s.next (gput M (q.grp x.k) ⟨1, x.v, x.v, x.v⟩)] [some 9, some 9, some 9, some 9, some 9, some 9, some 9, some 9, none] mixed ?_; simp only [gS, gAt, zeroF,  ↓EX, EY, ↓EH, push_cast, ↓EPM, ↓reduceIte, seval, reduceCtorEq]
        refine qcallC (group_spec q x.k) rfl (by simp only [push_cast, ↓EPM, ↓reduceIte, seval, reduceCtorEq] <;> rfl) ?_; simp only [↓EX, EY, ↓EH, push_cast, ↓EPM, ↓reduceIte, seval, reduceCtorEq]
        refine qcallC (of_spec x.v) rfl (by simp only [push_cast, ↓EPM, ↓reduceIte, seval, reduceCtorEq] <;> rfl) ?_; simp only [↓EX, EY, ↓EH, push_cast, ↓EPM, ↓reduceIte, seval, reduceCtorEq]
        refine qmoveC (put_law _ (s.next + 1) s.next M (q.grp x.k) ⟨1, x.v, x.v, x.v⟩ ?_ ?_) rfl rfl ?_
        · (simp only [upd, AState.set, AState.new]; (repeat (first | rw [if_neg (by omega)] | rw [if_pos (by omega)] | (simp only [↓reduceIte]; done) | simp only [↓reduceIte])); try rfl)
        · (simp only [upd, AState.set, AState.new]; (repeat (first | rw [if_neg (by omega)] | rw [if_pos (by omega)] | (simp only [↓reduceIte]; done) | simp only [↓reduceIte])); try rfl)
        simp only [hw, ↓EX, EY, ↓EH, push_cast, ↓EPM, ↓reduceIte, seval, reduceCtorEq]
        refine round_next (i + 1, gput M (q.grp x.k) ⟨1, x.v, x.v, x.v⟩) ⟨by simp only; omega, by simp only; omega, hs⟩ (by simp only; omega) (AEnt_drop rfl rfl (by show s.next ≤ s.next + 2; omega) ⟨by show s.next + 2 ≤ s.next + 3; omega, fun id hid => ?_⟩ (gS_wf hwf _) (EntB_all ?_))
        · replace hid : id < s.next + 2 := hid
          simp only [gS, gAt, AState.set, AState.new]
          (repeat' split) <;> first | rfl | omega
        simp only [push_cast, ↓EPM, ↓reduceIte, seval, reduceCtorEq]
        (try first | omega | ((repeat' apply And.intro) <;> first | omega | (simp only [push_cast, ↓EPM, ↓reduceIte, seval, reduceCtorEq, List.mem_cons, List.not_mem_nil, or_false, forall_eq_or_imp, forall_eq, and_self, true_and, and_true, zeroR]; done) | (simp only [push_cast, ↓EPM, ↓reduceIte, seval, reduceCtorEq, List.mem_cons, List.not_mem_nil, or_false, forall_eq_or_imp, forall_eq, and_self, true_and, and_true, zeroR]; omega)))
    · have hc : ¬ ((i : Int) < (l.length : Int)) := by omega
      simp only [hc, push_cast, ↓EPM, ↓reduceIte, seval, reduceCtorEq]
      rw [show r = M by rw [hs, List.drop_eq_nil_of_le (by omega)]; rfl]
      refine ACalls_use (rows_law _ (s.next + 1) s.next M (by omega) ?_ ?_) ?_
      · simp only [gS]; (simp only [upd, AState.set, AState.new]; (repeat (first | rw [if_neg (by omega)] | rw [if_pos (by omega)] | (simp only [↓reduceIte]; done) | simp only [↓reduceIte])); try rfl)
      · simp only [gS]; (simp only [upd, AState.set, AState.new]; (repeat (first | rw [if_neg (by omega)] | rw [if_pos (by omega)] | (simp only [↓reduceIte]; done) | simp only [↓reduceIte])); try rfl)
      cases resG M with
      | none =>
        simp only [resP, push_cast, ↓EPM, ↓reduceIte, seval, reduceCtorEq]
        exact RetW [.sl 9 [] .none, i64 6] [.sl 9 [] .none, i64 6]
      | some l' =>
        simp only [resP, push_cast, ↓EPM, ↓reduceIte, seval, reduceCtorEq]
        exact RetP [.sl 9 (rowsA l') .none, i64 0]

end Go.Proofs

namespace Go.Proofs
open Go Go.Av Go.Sort
set_option linter.unusedSimpArgs false
set_option linter.unusedVariables false
set_option maxRecDepth 30000
set_option maxHeartbeats 2000000

theorem joins_law (l : List (List Row)) (hl : l.length ≤ 1000) (hw : total l ≤ 100000) : APure Try.prog 29 [.sl 1 (mapsA l) .none] (resP (putAll [] l.flatten)) := by
  intro s
  rw [← resG_all]
  generalize hr : grows ([], false) l.flatten = r
  refine enterA ⟨[]⟩ (Try.f29.body.getD .skip) [.tmp 2, .tmp 3] Try.func29 fun hwf hbel => ?_; simp only [Try.f29, push_cast, ↓EPM, ↓reduceIte, seval, reduceCtorEq]
  refine makeMap_law ?_
  simp only [push_cast, ↓EPM, ↓reduceIte, seval, reduceCtorEq]
  refine ALoop_inv (ι := Nat × (KM × Bool)) (fun i => i.1 ≤ l.length ∧ i.2.1.length + total (l.drop i.1) ≤ 100000 ∧ r = grows i.2 (l.drop i.1).flatten) (fun i => envL [(4, .ptr (s.next + 1) 0), (12, .sl 1 (mapsA l) .none), (13, i64 l.length), (14, i64 i.1)]) (fun i => gS s i.2) (fun i => l.length - i.1) (0, ([], false)) ⟨Nat.zero_le _, by simpa using hw, by rw [← hr]; rfl⟩ (ent rfl ?_) (fun i hi => ?_)
  · simp only [push_cast, ↓EPM, ↓reduceIte, seval, reduceCtorEq]
  · obtain ⟨i, M⟩ := i
    obtain ⟨hi, hwi, hs⟩ := hi
    simp only at hi hwi hs
    by_cases hlt : i < l.length
    · obtain ⟨x, hx⟩ : ∃ x, l[i]? = some x := ⟨_, List.getElem?_eq_getElem hlt⟩
      have gx := mapsA_get hx
      rw [total_drop hx] at hwi
      rw [drop_get hx, List.flatten_cons, grows_append] at hs
      have hc : ((i : Int) < (l.length : Int)) := by omega
      have h0 : (0 : Int) ≤ (i : Int) := by omega
      have hw : IntKind.i64.wrap ((i : Int) + 1) = (i : Int) + 1 := wrap_in (by omega) (by omega)
      simp only [hc, h0, gx, push_cast, ↓EPM, ↓reduceIte, seval, reduceCtorEq]
      refine ALoop_inv (ι := Nat × (KM × Bool)) (fun j => j.1 ≤ x.length ∧ j.2.1.length + (x.length - j.1) + total (l.drop (i + 1)) ≤ 100000 ∧ r = grows (grows j.2 (x.drop j.1)) (l.drop (i + 1)).flatten) (fun j => envL [(4, .ptr (s.next + 1) 0), (12, .sl 1 (mapsA l) .none), (13, i64 l.length), (14, i64 i), (18, .sl 9 (rowsA x) .none), (19, i64 x.length), (20, i64 j.1)]) (fun j => gS s j.2) (fun j => x.length - j.1) (0, M) ⟨Nat.zero_le _, by simp only; omega, hs⟩ (ent rfl ?_) (fun j hj => ?_)
      · simp only [push_cast, ↓EPM, ↓reduceIte, seval, reduceCtorEq]
      · obtain ⟨j, N⟩ := j
        obtain ⟨hj, hwj, hs⟩ := hj
        simp only at hj hwj hs
        by_cases hjl : j < x.length
        · obtain ⟨y, hy⟩ : ∃ y, x[j]? = some y := ⟨_, List.getElem?_eq_getElem hjl⟩
          have gy := rowsA_get hy
          rw [drop_get hy, grows] at hs
          have hd : ((j : Int) < (x.length : Int)) := by omega
          have h0j : (0 : Int) ≤ (j : Int) := by omega
          have hwj' : IntKind.i64.wrap ((j : Int) + 1) = (j : Int) + 1 := wrap_in (by omega) (by omega)
          have hgl := gput_len N y.k y.c
          simp only [hd, h0j, gy, gS, push_cast, ↓EPM, ↓reduceIte, seval, reduceCtorEq]
          refine ACalls_use (put_law _ (s.next + 1) s.next N y.k y.c ?_ ?_) ?_
          · (simp only [upd, AState.set, AState.new]; (repeat (first | rw [if_neg (by omega)] | rw [if_pos (by omega)] | (simp only [↓reduceIte]; done) | simp only [↓reduceIte])); try rfl)
          · (simp only [upd, AState.set, AState.new]; (repeat (first | rw [if_neg (by omega)] | rw [if_pos (by omega)] | (simp only [↓reduceIte]; done) | simp only [↓reduceIte])); try rfl)
          simp only [hwj', push_cast, ↓EPM, ↓reduceIte, seval, reduceCtorEq]
          refine round_next (j + 1, gput N y.k y.c) ⟨by simp only; omega, by simp only; omega, hs⟩ (by simp only; omega) (AEnt_drop rfl rfl (by show s.next ≤ s.next + 2; omega) ⟨by show s.next + 2 ≤ s.next + 3; omega, fun id hid => ?_⟩ (gS_wf hwf _) (EntB_all ?_))
          · replace hid : id < s.next + 2 := hid
            simp only [gS, gAt, AState.set, AState.new]
            (repeat' split) <;> first | rfl | omega
          simp only [push_cast, ↓EPM, ↓reduceIte, seval, reduceCtorEq]
          (try first | omega | ((repeat' apply And.intro) <;> first | omega | (simp only [push_cast, ↓EPM, ↓reduceIte, seval, reduceCtorEq, List.mem_cons, List.not_mem_nil, or_false, forall_eq_or_imp, forall_eq, and_self, true_and, and_true, zeroR]; done) | (simp only [push_cast, ↓EPM, ↓reduceIte, seval, reduceCtorEq, List.mem_cons, List.not_mem_nil, or_false, forall_eq_or_imp, forall_eq, and_self, true_and, and_true, zeroR]; omega)))
        · have hd : ¬ ((j : Int) < (x.length : Int)) := by omega
          simp only [hd, hw, push_cast, ↓EPM, ↓reduceIte, seval, reduceCtorEq]
          rw [List.drop_eq_nil_of_le (by omega)] at hs
          refine round_next (i + 1, N) ⟨by simp only; omega, by simp only; omega, hs⟩ (by simp only; omega) (ent rfl ?_)
          simp only [push_cast, ↓EPM, ↓reduceIte, seval, reduceCtorEq]
    · have hc : ¬ ((i : Int) < (l.length : Int)) := by omega
      simp only [hc, push_cast, ↓EPM, ↓reduceIte, seval, reduceCtorEq]
      rw [show r = M by rw [hs, List.drop_eq_nil_of_le (by omega)]; rfl]
      refine ACalls_use (rows_law _ (s.next + 1) s.next M (by omega) ?_ ?_) ?_
      · simp only [gS]; (simp only [upd, AState.set, AState.new]; (repeat (first | rw [if_neg (by omega)] | rw [if_pos (by omega)] | (simp only [↓reduceIte]; done) | simp only [↓reduceIte])); try rfl)
      · simp only [gS]; (simp only [upd, AState.set, AState.new]; (repeat (first | rw [if_neg (by omega)] | rw [if_pos (by omega)] | (simp only [↓reduceIte]; done) | simp only [↓reduceIte])); try rfl)
      cases resG M with
      | none =>
        simp only [resP, push_cast, ↓EPM, ↓reduceIte, seval, reduceCtorEq]
        exact RetW [.sl 9 [] .none, i64 6] [.sl 9 [] .none, i64 6]
      | some l' =>
        simp only [resP, push_cast, ↓EPM, ↓reduceIte, seval, reduceCtorEq]
        exact RetP [.sl 9 (rowsA l') .none, i64 0]

theorem rrows_spec (q : Query) (l : List Row) (hl : l.length ≤ 1000) : APure Try.prog 31 [.agg q.av, .sl 9 (rowsA l) .none] (resP (putAll [] (q.rowL l))) := by
  intro s
  generalize hr : putAll [] (q.rowL l) = r
  refine enterA ⟨[2]⟩ (Try.f31.body.getD .skip) [.tmp 4, .tmp 5] Try.func31 fun hwf hbel => ?_; simp only [Try.f31, push_cast, ↓EPM, ↓reduceIte, seval, reduceCtorEq]
  refine ALoop_inv (ι := Nat × List Row) (fun i => i.1 ≤ l.length ∧ i.2.length ≤ i.1 ∧ r = putAll i.2 (q.rowL (l.drop i.1))) (fun i => envL [(1, .sl 9 (rowsA l) .none), (2, .ep q.av 0), (6, .sl 9 (rowsA i.2) .none), (7, i64 i.1)]) (fun i => { s with base := ⟨s.next, []⟩ }) (fun i => l.length - i.1) (0, []) ⟨Nat.zero_le _, Nat.le_refl _, by rw [← hr]; rfl⟩ (ent rfl ?_) (fun i hi => ?_)
  · simp only [push_cast, ↓EPM, ↓reduceIte, seval, reduceCtorEq]
  · obtain ⟨i, acc⟩ := i
    obtain ⟨hi, hml, hs⟩ := hi
    simp only at hi hml hs
    by_cases hlt : i < l.length
    · obtain ⟨x, hx⟩ : ∃ x, l[i]? = some x := ⟨_, List.getElem?_eq_getElem hlt⟩
      have gx := rowsA_get hx
      have hc : ((i : Int) < (l.length : Int)) := by omega
      have h0 : (0 : Int) ≤ (i : Int) := by omega
      have hw : IntKind.i64.wrap ((i : Int) + 1) = (i : Int) + 1 := wrap_in (by omega) (by omega)
      have hm := rmatches_spec q x.k
      cases hh : q.hits x.k with
      | false =>
        rw [hh] at hm
        rw [drop_get hx, show q.rowL (x :: l.drop (i + 1)) = q.rowL (l.drop (i + 1)) by simp [Query.rowL, hh]] at hs
        simp only [hc, push_cast, ↓EPM, ↓reduceIte, seval, reduceCtorEq]
        refine drawA mixed ?_; simp only [hc, h0, gx, push_cast, ↓EPM, ↓reduceIte, seval, reduceCtorEq]
        refine qcall (hm) rfl (by simp only [push_cast, ↓EPM, ↓reduceIte, seval, reduceCtorEq] <;> rfl) ?_; simp only [push_cast, ↓EPM, ↓reduceIte, seval, reduceCtorEq]
        simp only [hw, push_cast, ↓EPM, ↓reduceIte, seval, reduceCtorEq]
        refine round_next (i + 1, acc) ⟨by simp only; omega, by simp only; omega, hs⟩ (by simp only; omega) (ent rfl ?_)
        simp only [push_cast, ↓EPM, ↓reduceIte, seval, reduceCtorEq]
      | true =>
        rw [hh] at hm
        rw [drop_get hx, show q.rowL (x :: l.drop (i + 1)) = ⟨q.grp x.k, x.c⟩ :: q.rowL (l.drop (i + 1)) by simp [Query.rowL, hh], putAll] at hs
        have hp := put_spec acc ⟨q.grp x.k, x.c⟩ (by omega)
        simp only [hc, push_cast, ↓EPM, ↓reduceIte, seval, reduceCtorEq]
        refine drawA mixed ?_; simp only [hc, h0, gx, push_cast, ↓EPM, ↓reduceIte, seval, reduceCtorEq]
        refine qcall (hm) rfl (by simp only [push_cast, ↓EPM, ↓reduceIte, seval, reduceCtorEq] <;> rfl) ?_; simp only [push_cast, ↓EPM, ↓reduceIte, seval, reduceCtorEq]
        cases hq : putL acc ⟨q.grp x.k, x.c⟩ with
        | none =>
          rw [hq] at hp
          refine drawA mixed ?_; simp only [hc, h0, gx, push_cast, ↓EPM, ↓reduceIte, seval, reduceCtorEq]
          refine qcall (rgroup_spec q x.k) rfl (by simp only [push_cast, ↓EPM, ↓reduceIte, seval, reduceCtorEq] <;> rfl) ?_; simp only [push_cast, ↓EPM, ↓reduceIte, seval, reduceCtorEq]
          simp only [hc, h0, gx, push_cast, ↓EPM, ↓reduceIte, seval, reduceCtorEq]
          refine qcall (hp) rfl (by simp only [push_cast, ↓EPM, ↓reduceIte, seval, reduceCtorEq] <;> rfl) ?_; simp only [push_cast, ↓EPM, ↓reduceIte, seval, reduceCtorEq]
          simp only [resP, push_cast, ↓EPM, ↓reduceIte, seval, reduceCtorEq]
          rw [show r = none by rw [hs, hq]; rfl]
          exact RetW [.v (.slice none 0 0), i64 6] [.sl 9 [] .none, i64 6]
        | some p =>
          rw [hq] at hp
          have hql := putL_len hq
          refine drawA mixed ?_; simp only [hc, h0, gx, push_cast, ↓EPM, ↓reduceIte, seval, reduceCtorEq]
          refine qcall (rgroup_spec q x.k) rfl (by simp only [push_cast, ↓EPM, ↓reduceIte, seval, reduceCtorEq] <;> rfl) ?_; simp only [push_cast, ↓EPM, ↓reduceIte, seval, reduceCtorEq]
          simp only [hc, h0, gx, push_cast, ↓EPM, ↓reduceIte, seval, reduceCtorEq]
          refine qcall (hp) rfl (by simp only [push_cast, ↓EPM, ↓reduceIte, seval, reduceCtorEq] <;> rfl) ?_; simp only [push_cast, ↓EPM, ↓reduceIte, seval, reduceCtorEq]
          simp only [resP, hw, push_cast, ↓EPM, ↓reduceIte, seval, reduceCtorEq]
          refine round_next (i + 1, p) ⟨by simp only; omega, by simp only; omega, by rw [hs, hq]; rfl⟩ (by simp only; omega) (ent rfl ?_)
          simp only [push_cast, ↓EPM, ↓reduceIte, seval, reduceCtorEq]
    · have hc : ¬ ((i : Int) < (l.length : Int)) := by omega
      simp only [hc, push_cast, ↓EPM, ↓reduceIte, seval, reduceCtorEq]
      rw [show r = some acc by rw [hs, List.drop_eq_nil_of_le (by omega)]; rfl]
      exact RetP [.sl 9 (rowsA acc) .none, i64 0]

end Go.Proofs

namespace Go.Proofs
open Go Go.Av Go.Sort
set_option linter.unusedSimpArgs false
set_option linter.unusedVariables false
set_option maxRecDepth 30000
set_option maxHeartbeats 2000000

def aliveQ : Query := ⟨0, 9, false, false, false, false, false, false, false, false, .empty, .empty, .empty, .empty⟩
def aliveG : List Fact := [⟨⟨0, ⟨#[97]⟩, .empty, .empty, .empty⟩, 3⟩, ⟨⟨0, ⟨#[98]⟩, .empty, .empty, .empty⟩, 4⟩]
def aliveS : Row := ⟨⟨0, .empty, .empty, .empty, .empty⟩, ⟨2, 7, 3, 4⟩⟩
theorem aliveG_rows : putAll [] (aliveQ.factL aliveG) = some [aliveS] := by
  have hk : cmpK zeroK zeroK = 0 := (good_key.zero _ _).2 rfl
  have e1 : putL [] ⟨zeroK, ⟨1, 3, 3, 3⟩⟩ = some [⟨zeroK, ⟨1, 3, 3, 3⟩⟩] := rfl
  have e2 : putL [⟨zeroK, ⟨1, 3, 3, 3⟩⟩] ⟨zeroK, ⟨1, 4, 4, 4⟩⟩ = some [⟨zeroK, ⟨2, 7, 3, 4⟩⟩] := by
    have hm : mergeC ⟨1, 3, 3, 3⟩ ⟨1, 4, 4, 4⟩ = some ⟨2, 7, 3, 4⟩ := by decide
    simp [putL, List.takeWhile, List.dropWhile, hk, putR, hm]
  show putAll [] [⟨zeroK, ⟨1, 3, 3, 3⟩⟩, ⟨zeroK, ⟨1, 4, 4, 4⟩⟩] = _
  simp only [putAll, e1, e2, Option.bind_some]
  rfl

theorem alive14_spec : APure Try.prog 27 [] (boo true) := by
  intro s
  have h := facts_law aliveQ aliveG (by decide)
  rw [aliveG_rows] at h
  refine enterA ⟨[]⟩ (Try.f27.body.getD .skip) [.tmp 0] Try.func27 fun hwf hbel => ?_; simp only [Try.f27, push_cast, ↓EPM, ↓reduceIte, seval, reduceCtorEq]
  refine h.use ?_
  simp only [resP, push_cast, ↓EPM, ↓reduceIte, seval, reduceCtorEq]
  refine eqK_use (aeq_cell aliveS.c ⟨2, 7, 3, 4⟩) ?_
  simp only [push_cast, ↓EPM, ↓reduceIte, seval, reduceCtorEq]
  exact RetP [boo true]

/-! Rows in the order of their hours -/
def Hrs (l : List Row) : Prop := l.Pairwise fun a b => a.k.h.toInt ≤ b.k.h.toInt
def rangeL (l : List Row) (fr to : Int64) : List Row := l.filter fun r => decide (fr.toInt ≤ r.k.h.toInt) && decide (r.k.h.toInt < to.toInt)
/-- How many rows are of an earlier hour. -/
def lower (l : List Row) (x : Int64) : Nat := (l.takeWhile fun r => decide (r.k.h.toInt < x.toInt)).length
theorem lower_le (l : List Row) (x : Int64) : lower l x ≤ l.length := by
  have := (List.takeWhile_prefix (l := l) fun r => decide (r.k.h.toInt < x.toInt)).length_le
  exact this
theorem lower_spec : ∀ {l : List Row}, Hrs l → ∀ (x : Int64) (i : Nat) (r : Row), l[i]? = some r → (x.toInt ≤ r.k.h.toInt ↔ lower l x ≤ i)
  | [], _, x, i, r, h => by simp at h
  | a :: l, hs, x, i, r, h => by
    obtain ⟨h1, h2⟩ := List.pairwise_cons.1 hs
    by_cases ha : a.k.h.toInt < x.toInt
    · have e : lower (a :: l) x = lower l x + 1 := by simp [lower, List.takeWhile_cons, ha]
      rw [e]
      cases i with
      | zero => simp only [List.getElem?_cons_zero, Option.some.injEq] at h; subst h; omega
      | succ i =>
        have := lower_spec h2 x i r (by simpa using h)
        omega
    · have e : lower (a :: l) x = 0 := by simp [lower, List.takeWhile_cons, ha]
      rw [e]
      cases i with
      | zero => simp only [List.getElem?_cons_zero, Option.some.injEq] at h; subst h; omega
      | succ i =>
        have hr : r ∈ l := List.mem_of_getElem? (by simpa using h)
        have := h1 r hr
        omega
theorem filter_cut : ∀ (l : List Row) (p : Row → Bool) (lo hi : Nat), (∀ i r, l[i]? = some r → (p r = true ↔ lo ≤ i ∧ i < hi)) → l.filter p = (l.take hi).drop lo
  | [], p, lo, hi, _ => by simp
  | a :: l, p, lo, hi, h => by
    have h0 := h 0 a rfl
    have hs : ∀ lo' hi', (∀ i, (lo ≤ i + 1 ∧ i + 1 < hi ↔ lo' ≤ i ∧ i < hi')) → l.filter p = (l.take hi').drop lo' := fun lo' hi' e => filter_cut l p lo' hi' fun i r hr => (h (i + 1) r (by simpa using hr)).trans (e i)
    by_cases hp : p a = true
    · obtain ⟨e1, e2⟩ := h0.1 hp
      obtain rfl : lo = 0 := by omega
      obtain ⟨hi, rfl⟩ : ∃ n, hi = n + 1 := ⟨hi - 1, by omega⟩
      rw [List.filter_cons_of_pos hp, hs 0 hi (fun i => by omega)]
      simp
    · rw [List.filter_cons_of_neg hp]
      by_cases e : 0 < hi
      · obtain ⟨hi, rfl⟩ : ∃ n, hi = n + 1 := ⟨hi - 1, by omega⟩
        obtain ⟨lo, rfl⟩ : ∃ n, lo = n + 1 := ⟨lo - 1, by
          have : ¬ (lo ≤ 0 ∧ 0 < hi + 1) := fun h => hp (h0.2 h)
          omega⟩
        rw [hs lo hi (fun i => by omega)]
        simp
      · obtain rfl : hi = 0 := by omega
        rw [hs 0 0 (fun i => by omega)]
        simp
theorem rangeL_cut {l : List Row} (hs : Hrs l) (fr to : Int64) : rangeL l fr to = (l.take (lower l to)).drop (lower l fr) := by
  refine filter_cut l _ _ _ fun i r hr => ?_
  have h1 := lower_spec hs fr i r hr
  have h2 := lower_spec hs to i r hr
  simp only [Bool.and_eq_true, decide_eq_true_eq]
  omega
theorem srt_hrs {l : List Row} (h : Srt l) : Hrs l := by
  refine List.Pairwise.imp (fun {a b} hab => ?_) h
  simp only [cmpK] at hab
  unfold cmpI at hab
  (repeat' split at hab) <;> omega

end Go.Proofs

namespace Go.Proofs
open Go Go.Av Go.Sort
set_option linter.unusedSimpArgs false
set_option linter.unusedVariables false
set_option maxRecDepth 30000
set_option maxHeartbeats 2000000

theorem rowsA_tk (l : List Row) (n : Nat) : (rowsA l).take n = rowsA (l.take n) := by simp [rowsA, List.map_take]
theorem rowsA_dp (l : List Row) (n : Nat) : (rowsA l).drop n = rowsA (l.drop n) := by simp [rowsA, List.map_drop]
theorem wrap_u64 {x : Int} (h1 : 0 ≤ x) (h2 : x < 18446744073709551616) : IntKind.u64.wrap x = x := by
  have e1 : (2:Int) ^ 64 = 18446744073709551616 := by decide
  simp only [IntKind.wrap, IntKind.signed, IntKind.bits, Bool.false_and, e1, Bool.false_eq_true, if_false]
  omega
theorem mid_of {i j : Nat} (h : i + j ≤ 2000000) : IntKind.i64.wrap ((IntKind.u64.wrap ((i : Int) + (j : Int))).fdiv (2 ^ min 1 IntKind.u64.bits)) = (((i + j) / 2 : Nat) : Int) := by
  rw [wrap_u64 (by omega) (by omega)]
  have e : (2 : Int) ^ min 1 IntKind.u64.bits = 2 := by decide
  rw [e, Int.fdiv_eq_ediv_of_nonneg _ (by omega), wrap_in (by omega) (by omega)]
  omega

theorem between1_law (s : AState) (B : Nat) (l : List Row) (x : Int64) (i : Nat) (r : Row) (hB : s.obj B = some (.cells [.sl 9 (rowsA l) .none])) (hr : l[i]? = some r) :
    ACalls Try.prog 104 [i64 i, .ptr B 0, .ep [i6 x] 0] s (fun d s' => d = boo (decide (x.toInt ≤ r.k.h.toInt)) ∧ s' = s) := by
  have gx := rowsA_get hr
  have hlt := (List.getElem?_eq_some_iff.1 hr).1
  have hc : ((i : Int) < (l.length : Int)) := by omega
  have h0 : (0 : Int) ≤ (i : Int) := by omega
  refine enterA ⟨[]⟩ (Try.f104.body.getD .skip) [.tmp 4] Try.func104 fun hwf hbel => ?_; simp only [hB,Try.f104, push_cast, ↓EPM, ↓reduceIte, seval, reduceCtorEq]
  refine drawA mixed ?_; simp only [hB, hc, h0, gx, push_cast, ↓EPM, ↓reduceIte, seval, reduceCtorEq]
  exact RetP [boo (decide (x.toInt ≤ r.k.h.toInt))]

theorem search_law (s : AState) (B : Nat) (l : List Row) (x : Int64) (p : Nat) (hB : s.obj B = some (.cells [.sl 9 (rowsA l) .none])) (hlen : l.length ≤ 1000000) (hp : p ≤ l.length)
    (hx : ∀ (i : Nat) (r : Row), l[i]? = some r → (x.toInt ≤ r.k.h.toInt ↔ p ≤ i)) :
    ACalls Try.prog 103 [i64 l.length, .fn 104 [] [.ptr B 0, .ep [i6 x] 0]] s (fun d s' => d = i64 p ∧ s' = s) := by
  refine enterA ⟨[]⟩ (Try.f103.body.getD .skip) [.tmp 4] Try.func103 fun hwf hbel => ?_; simp only [Try.f103, push_cast, ↓EPM, ↓reduceIte, seval, reduceCtorEq]
  refine ALoop_inv (ι := Nat × Nat) (fun i => i.1 ≤ p ∧ p ≤ i.2 ∧ i.2 ≤ l.length) (fun i => envL [(1, .fn 104 [] [.ptr B 0, .ep [i6 x] 0]), (5, i64 i.1), (6, i64 i.2)]) (fun i => { s with base := ⟨s.next, []⟩ }) (fun i => i.2 - i.1) (0, l.length) ⟨Nat.zero_le _, hp, Nat.le_refl _⟩ (ent rfl ?_) (fun i hi => ?_)
  · simp only [push_cast, ↓EPM, ↓reduceIte, seval, reduceCtorEq]
  · obtain ⟨i, j⟩ := i
    obtain ⟨h1, h2, h3⟩ := hi
    simp only at h1 h2 h3
    by_cases hij : i < j
    · have hc : ((i : Int) < (j : Int)) := by omega
      have hw : IntKind.i64.wrap ((i : Int) + (j : Int)) = (i : Int) + (j : Int) := wrap_in (by omega) (by omega)
      have hm := mid_of (i := i) (j := j) (by omega)
      obtain ⟨k, hk⟩ : ∃ k, k = (i + j) / 2 := ⟨_, rfl⟩
      rw [← hk] at hm
      obtain ⟨r, hr⟩ : ∃ r, l[k]? = some r := ⟨_, List.getElem?_eq_getElem (by omega)⟩
      have hkx := hx k r hr
      have hw1 : IntKind.i64.wrap ((k : Int) + 1) = (k : Int) + 1 := wrap_in (by omega) (by omega)
      simp only [hc, hw, hm, push_cast, ↓EPM, ↓reduceIte, seval, reduceCtorEq]
      refine ACalls_use (between1_law _ B l x k r ?_ hr) ?_
      · exact hB
      by_cases hle : x.toInt ≤ r.k.h.toInt
      · simp only [hle, push_cast, ↓EPM, ↓reduceIte, seval, reduceCtorEq]
        refine round_next (i, k) ⟨by simp only; omega, by simp only; omega, by simp only; omega⟩ (by simp only; omega) (ent rfl ?_)
        simp only [push_cast, ↓EPM, ↓reduceIte, seval, reduceCtorEq]
      · simp only [hle, push_cast, ↓EPM, ↓reduceIte, seval, reduceCtorEq]
        simp only [hw1, push_cast, ↓EPM, ↓reduceIte, seval, reduceCtorEq]
        refine round_next (k + 1, j) ⟨by simp only; omega, by simp only; omega, by simp only; omega⟩ (by simp only; omega) (ent rfl ?_)
        simp only [push_cast, ↓EPM, ↓reduceIte, seval, reduceCtorEq]
    · have hc : ¬ ((i : Int) < (j : Int)) := by omega
      obtain rfl : i = p := by omega
      simp only [hc, push_cast, ↓EPM, ↓reduceIte, seval, reduceCtorEq]
      exact RetP [i64 i]

theorem lower_law (s : AState) (B : Nat) (l : List Row) (x : Int64) (hB : s.obj B = some (.cells [.sl 9 (rowsA l) .none])) (hlen : l.length ≤ 1000000) (hs : Hrs l) :
    ACalls Try.prog 102 [i6 x, .ptr B 0] s (fun d s' => d = i64 (lower l x) ∧ s' = s) := by
  refine enterA ⟨[2]⟩ (Try.f102.body.getD .skip) [.tmp 3] Try.func102 fun hwf hbel => ?_; simp only [hB,Try.f102, push_cast, ↓EPM, ↓reduceIte, seval, reduceCtorEq]
  refine ACalls_use (search_law _ B l x (lower l x) ?_ hlen (lower_le l x) fun i r hr => lower_spec hs x i r hr) ?_
  · exact hB
  simp only [push_cast, ↓EPM, ↓reduceIte, seval, reduceCtorEq]
  exact RetP [i64 (lower l x)]

theorem between_spec (o : Option (List Row)) (fr to : Int64) (hlen : (o.getD []).length ≤ 1000000) (hs : Hrs (o.getD [])) : APure Try.prog 70 [segA o, i6 fr, i6 to] (.sl 9 (rowsA (rangeL (o.getD []) fr to)) .none) := by
  intro s
  have hR := rows_spec o
  rw [rangeL_cut hs]
  generalize o.getD [] = l at hlen hs hR ⊢
  have h1 := lower_le l fr
  have h2 := lower_le l to
  refine enterA ⟨[]⟩ (Try.f70.body.getD .skip) [.tmp 6] Try.func70 fun hwf hbel => ?_; simp only [Try.f70, push_cast, ↓EPM, ↓reduceIte, seval, reduceCtorEq]
  refine hR.use ?_
  simp only [push_cast, ↓EPM, ↓reduceIte, seval, reduceCtorEq]
  refine ACalls_use (lower_law _ s.next l fr ?_ hlen hs) ?_
  · (simp only [upd, AState.set, AState.new]; (repeat (first | rw [if_neg (by omega)] | rw [if_pos (by omega)] | (simp only [↓reduceIte]; done) | simp only [↓reduceIte])); try rfl)
  simp only [push_cast, ↓EPM, ↓reduceIte, seval, reduceCtorEq]
  refine ACalls_use (lower_law _ s.next l to ?_ hlen hs) ?_
  · (simp only [upd, AState.set, AState.new]; (repeat (first | rw [if_neg (by omega)] | rw [if_pos (by omega)] | (simp only [↓reduceIte]; done) | simp only [↓reduceIte])); try rfl)
  simp only [push_cast, ↓EPM, ↓reduceIte, seval, reduceCtorEq]
  by_cases hge : lower l to ≤ lower l fr
  · have hc : ((lower l to : Int) ≤ (lower l fr : Int)) := by omega
    simp only [hc, push_cast, ↓EPM, ↓reduceIte, seval, reduceCtorEq]
    rw [show (l.take (lower l to)).drop (lower l fr) = [] from List.drop_eq_nil_of_le (by rw [List.length_take]; omega)]
    exact RetW [.v (.slice none 0 0)] [.sl 9 (rowsA []) .none]
  · have hc : ¬ ((lower l to : Int) ≤ (lower l fr : Int)) := by omega
    have c1 : (0 : Int) ≤ (lower l fr : Int) := by omega
    have c2 : ((lower l fr : Int) ≤ (lower l to : Int)) := by omega
    have c3 : ((lower l to : Int) ≤ (l.length : Int)) := by omega
    have c4 : (0 : Int) ≤ (lower l to : Int) := by omega
    simp only [hc, push_cast, ↓EPM, ↓reduceIte, seval, reduceCtorEq]
    simp only [c1, c2, c3, c4, rowsA_tk, rowsA_dp, push_cast, ↓EPM, ↓reduceIte, seval, reduceCtorEq]
    exact RetP [.sl 9 (rowsA ((l.take (lower l to)).drop (lower l fr))) .none]

theorem values_spec (l : List Row) : APure Try.prog 71 [.sl 9 (rowsA l) .none] (.fn 105 [] [.ep [.sl 9 (rowsA l) .none] 0]) := by
  intro s
  refine enterA ⟨[1]⟩ (Try.f71.body.getD .skip) [.tmp 2] Try.func71 fun hwf hbel => ?_; simp only [Try.f71, push_cast, ↓EPM, ↓reduceIte, seval, reduceCtorEq]
  exact Ret_pure (l := [.fn 105 [] [.ep [.sl 9 (rowsA l) .none] 0]]) (.inr rfl) rfl (by simp only [push_cast, ↓EPM, ↓reduceIte, seval, reduceCtorEq] <;> rfl) rfl (by first | exact Keeps.base _ _ | (repeat (first | exact Keeps.base _ _ | refine Keeps.new ?_ _ | refine Keeps.set ?_ (by first | (simp; done) | omega | (simp only [EO]; omega)) _))) (by
    simp only [packAV, Bel_fn, List.not_mem_nil, false_implies, implies_true, List.mem_cons, or_false, forall_eq, Bel_ep, true_and, Bel_sl, rowsA_bel, tokBel])

theorem range_spec (o : Option (List Row)) (fr to : Int64) (hlen : (o.getD []).length ≤ 1000000) (hs : Hrs (o.getD [])) : APure Try.prog 36 [segA o, i6 fr, i6 to] (.fn 105 [] [.ep [.sl 9 (rowsA (rangeL (o.getD []) fr to)) .none] 0]) := by
  intro s
  refine enterA ⟨[]⟩ (Try.f36.body.getD .skip) [.tmp 6] Try.func36 fun hwf hbel => ?_; simp only [Try.f36, push_cast, ↓EPM, ↓reduceIte, seval, reduceCtorEq]
  refine (between_spec o fr to hlen hs).use ?_
  simp only [push_cast, ↓EPM, ↓reduceIte, seval, reduceCtorEq]
  refine (values_spec _).use ?_
  simp only [push_cast, ↓EPM, ↓reduceIte, seval, reduceCtorEq]
  exact Ret_pure (l := [.fn 105 [] [.ep [.sl 9 (rowsA (rangeL (o.getD []) fr to)) .none] 0]]) (.inr rfl) rfl (by simp only [push_cast, ↓EPM, ↓reduceIte, seval, reduceCtorEq] <;> rfl) rfl (by first | exact Keeps.base _ _ | (repeat (first | exact Keeps.base _ _ | refine Keeps.new ?_ _ | refine Keeps.set ?_ (by first | (simp; done) | omega | (simp only [EO]; omega)) _))) (by
    simp only [packAV, Bel_fn, List.not_mem_nil, false_implies, implies_true, List.mem_cons, or_false, forall_eq, Bel_ep, true_and, Bel_sl, rowsA_bel, tokBel])

end Go.Proofs

namespace Go.Proofs
open Go Go.Av Go.Sort
set_option linter.unusedSimpArgs false
set_option linter.unusedVariables false
set_option maxRecDepth 30000
set_option maxHeartbeats 2000000

/-- Rows given to a loop's body, one by one, till it has enough. -/
def runI {σ : Type} (step : σ → Row → σ × Bool) : σ → List Row → σ
  | m, [] => m
  | m, x :: l => if (step m x).2 then runI step (step m x).1 l else (step m x).1

theorem values_law {σ : Type} (St : σ → AState) (step : σ → Row → σ × Bool) (J : Nat → σ → Prop) (N : Nat) (bs : FBase) (L : Nat) (l : List Row) (m0 : σ) (hn : ∀ m, (St m).next = N) (hb : ∀ m, (St m).base = bs) (hwfS : (St m0).Wf → ∀ m, (St m).Wf) (hLN : L < N) (hlen : l.length ≤ 1000000) (hJ0 : J 0 m0) (hJ : ∀ (i : Nat) (m : σ) (x : Row), l[i]? = some x → J i m → (step m x).2 = true → J (i + 1) (step m x).1)
    (hy : ∀ (i : Nat) (m : σ) (x : Row) (s' : AState), l[i]? = some x → J i m → (∀ i, i < N → s'.obj i = (St m).obj i) → N ≤ s'.next →
      AYield Try.prog L [.agg x.av] s' (fun d s'' => d = boo (step m x).2 ∧ s'' = { s' with obj := fun i => if i < N then (St (step m x).1).obj i else s'.obj i })) :
    ACalls Try.prog 105 [.yl L, .ep [.sl 9 (rowsA l) .none] 0] (St m0) (fun d s' => d = .tup [] ∧ s' = St (runI step m0 l)) := by
  generalize hr : runI step m0 l = r
  refine enterA ⟨[]⟩ (Try.f105.body.getD .skip) [] Try.func105 fun hwf hbel => ?_; simp only [hn,Try.f105, push_cast, ↓EPM, ↓reduceIte, seval, reduceCtorEq]
  replace hwfS := hwfS hwf
  have wfB : ∀ m, AState.Wf { obj := (St m).obj, next := N, base := ⟨N, []⟩ } := fun m id o ho => by
    obtain ⟨a, b⟩ := hwfS m id o ho
    rw [hn] at a b
    exact ⟨a, b⟩
  refine ALoop_inv (ι := Nat × σ) (fun i => i.1 ≤ l.length ∧ J i.1 i.2 ∧ r = runI step i.2 (l.drop i.1)) (fun i => envL [(0, .yl L), (5, .sl 9 (rowsA l) .none), (6, i64 l.length), (7, i64 i.1)]) (fun i => { St i.2 with base := ⟨N, []⟩ }) (fun i => l.length - i.1) (0, m0) ⟨Nat.zero_le _, hJ0, by rw [← hr]; rfl⟩ ?_ (fun i hi => ?_)
  · simp only [hn]
    refine ent rfl ?_
    simp only [push_cast, ↓EPM, ↓reduceIte, seval, reduceCtorEq]
  · obtain ⟨i, m⟩ := i
    obtain ⟨hi, hj, hs⟩ := hi
    simp only at hi hj hs
    by_cases hlt : i < l.length
    · obtain ⟨x, hx⟩ : ∃ x, l[i]? = some x := ⟨_, List.getElem?_eq_getElem hlt⟩
      have gx := rowsA_get hx
      rw [drop_get hx, runI] at hs
      have hc : ((i : Int) < (l.length : Int)) := by omega
      have h0 : (0 : Int) ≤ (i : Int) := by omega
      have hw : IntKind.i64.wrap ((i : Int) + 1) = (i : Int) + 1 := wrap_in (by omega) (by omega)
      simp only [hc, h0, gx, hn, push_cast, ↓EPM, ↓reduceIte, seval, reduceCtorEq]
      refine AYield_use (hy i m x _ hx hj (fun id hid => ?_) ?_) ?_
      · simp only [AState.set, AState.new]
        (repeat' split) <;> first | rfl | omega
      · show N ≤ N + 1; omega
      cases hgo : (step m x).2 with
      | false =>
        rw [hgo] at hs
        simp only [Bool.false_eq_true, if_false] at hs
        subst hs
        simp only [hgo, push_cast, ↓EPM, ↓reduceIte, seval, reduceCtorEq]
        refine Ret_drop (S := St (step m x).1) (l := []) (m := []) (.inr rfl) rfl rfl trivial ((hn _).trans (hn _).symm) ((hb _).trans (hb _).symm) (by rw [hn]; exact Nat.le_succ _) (keep_of ((hn _).trans (hn _).symm) (hwfS _) fun id hid => ?_) (by simp only [packAV, Bel_tup]; simp) ⟨rfl, rfl⟩
        rw [hn] at hid
        show (if id < N then _ else _) = _
        rw [if_pos hid]
      | true =>
        rw [hgo] at hs
        simp only [if_true] at hs
        simp only [hgo, push_cast, ↓EPM, ↓reduceIte, seval, reduceCtorEq]
        simp only [hw, push_cast, ↓EPM, ↓reduceIte, seval, reduceCtorEq]
        refine round_next (i + 1, (step m x).1) ⟨by simp only; omega, hJ i m x hx hj hgo, hs⟩ (by simp only; omega) (AEnt_drop rfl rfl ?_ ⟨?_, fun id hid => ?_⟩ (wfB _) (EntB_all ?_))
        · exact Nat.le_refl _
        · show N ≤ N + 1; omega
        · replace hid : id < N := hid
          show (if id < N then _ else _) = _
          rw [if_pos hid]
        simp only [push_cast, ↓EPM, ↓reduceIte, seval, reduceCtorEq]
        (try first | omega | ((repeat' apply And.intro) <;> first | omega | (simp only [push_cast, ↓EPM, ↓reduceIte, seval, reduceCtorEq, List.mem_cons, List.not_mem_nil, or_false, forall_eq_or_imp, forall_eq, and_self, true_and, and_true, zeroR]; done) | (simp only [push_cast, ↓EPM, ↓reduceIte, seval, reduceCtorEq, List.mem_cons, List.not_mem_nil, or_false, forall_eq_or_imp, forall_eq, and_self, true_and, and_true, zeroR]; omega)))
    · have hc : ¬ ((i : Int) < (l.length : Int)) := by omega
      simp only [hc, push_cast, ↓EPM, ↓reduceIte, seval, reduceCtorEq]
      rw [show r = m by rw [hs, List.drop_eq_nil_of_le (by omega)]; rfl]
      refine Ret_drop (S := St m) (l := []) (m := []) (.inl rfl) rfl rfl trivial ((hn _).trans (hn _).symm) ((hb _).trans (hb _).symm) (by rw [hn]; exact Nat.le_of_eq (hn _).symm) (keep_of ((hn _).trans (hn _).symm) (hwfS _) fun id hid => rfl) (by simp only [packAV, Bel_tup]; simp) ⟨rfl, rfl⟩

end Go.Proofs

namespace Go.Proofs
open Go Go.Av Go.Sort
set_option linter.unusedSimpArgs false
set_option linter.unusedVariables false
set_option maxRecDepth 30000
set_option maxHeartbeats 2000000

theorem nx1 : (∀ n : Nat, (n + 4 = n + 2) = False) ∧ (∀ n : Nat, (n + 2 = n + 4) = False) ∧ (∀ n : Nat, (n + 1 = n + 4) = False) ∧ (∀ n : Nat, (n + 4 = n + 1) = False) ∧ (∀ n : Nat, (n = n + 4) = False) ∧ (∀ n : Nat, (n + 4 = n) = False) := by refine ⟨?_, ?_, ?_, ?_, ?_, ?_⟩ <;> (intro n; apply eq_false; omega)
noncomputable def rfOf : Code → Option (Code × Code)
  | .rangeFunc _ _ a b => some (a, b)
  | .seq a b => match rfOf a with | some x => some x | none => rfOf b
  | .block _ b => rfOf b
  | _ => none
theorem rf_bel {n : Nat} {f : Operand} {ps : Array Tmp} {a b : Code} (h : codeBel n (.rangeFunc f ps a b) = true) : ps.toList.all (· < n) = true ∧ codeBel n a = true ∧ codeBel n b = true := by
  simp only [codeBel, Bool.and_eq_true] at h
  obtain ⟨⟨h1, h2⟩, h3⟩ := h
  exact ⟨h1, h2, h3⟩
noncomputable def asg30 : Code := ((Try.f30.body.bind rfOf).map (·.1)).getD .skip
noncomputable def body30 : Code := ((Try.f30.body.bind rfOf).map (·.2)).getD .skip
def Query.step (q : Query) (M : KM × Bool) (x : Row) : (KM × Bool) × Bool := (if q.hits x.k then gput M (q.grp x.k) x.c else M, true)

theorem envL_bel {n : Nat} : ∀ {L : List (Nat × AV)}, (∀ p ∈ L, Bel n p.2) → ∀ t, Bel n (envL L t)
  | [], _, t => .any
  | p :: L, h, t => by
    simp only [envL]
    split
    · exact h p (by simp)
    · exact envL_bel (fun x hx => h x (by simp [hx])) t
theorem grows_len : ∀ (l : List Row) (M : KM × Bool), (grows M l).1.length ≤ M.1.length + l.length
  | [], M => Nat.le_refl _
  | x :: l, M => by
    have h1 := grows_len l (gput M x.k x.c)
    have h2 := gput_len M x.k x.c
    rw [grows]
    simp only [List.length_cons]
    omega
theorem runI_grows (q : Query) : ∀ (l : List Row) (M : KM × Bool), runI q.step M l = grows M (q.rowL l)
  | [], M => rfl
  | x :: l, M => by
    rw [runI, show (q.step M x).2 = true from rfl, if_pos rfl, runI_grows q l]
    cases hh : q.hits x.k <;> simp [Query.step, Query.rowL, hh, grows]
theorem rowL_range (q : Query) (l : List Row) : q.rowL (rangeL l q.fr q.to) = q.rowL l := by
  simp only [Query.rowL, rangeL, List.filter_filter]
  congr 1
  refine List.filter_congr fun r _ => ?_
  cases hh : q.hits r.k with
  | false => simp
  | true =>
    simp only [Query.hits, Bool.and_eq_true, decide_eq_true_eq] at hh
    simp [hh.1, hh.2.1]
theorem rest_wf {N : Nat} {T s' : AState} (hle : N ≤ s'.next) (hn : T.next = N) (hT : T.Wf) (h : s'.Wf) : AState.Wf { s' with obj := fun i => if i < N then T.obj i else s'.obj i } := by
  intro i o ho
  simp only at ho
  split at ho
  · obtain ⟨h1, h2⟩ := hT i o ho
    rw [hn] at h1 h2
    exact ⟨Nat.lt_of_lt_of_le h1 hle, h2.mono hle⟩
  · exact h i o ho

/-- Groups, and the slot that points at them. -/
def s30 (s : AState) (M : KM × Bool) : AState := AState.new (gS s M) (.cells [.ptr (s.next + 1) 0])
theorem s30_wf {s : AState} (h : s.Wf) (M : KM × Bool) : (s30 s M).Wf := by
  refine (gS_wf h M).new ?_
  intro c hc
  simp only [List.mem_cons, List.not_mem_nil, or_false] at hc
  subst hc
  exact Bel_ptr.2 (by show s.next + 1 < s.next + 3; omega)

theorem s30_next (s : AState) (M : KM × Bool) : (s30 s M).next = s.next + 3 := rfl
theorem s30_ptr (s : AState) (M : KM × Bool) : (s30 s M).obj (s.next + 2) = some (.cells [.ptr (s.next + 1) 0]) := if_pos rfl

theorem foldSeg_spec (q : Query) (o : Option (List Row)) (hlen : (o.getD []).length ≤ 1000) (hs : Hrs (o.getD [])) : APure Try.prog 30 [.agg q.av, segA o] (resP (putAll [] (q.rowL (o.getD [])))) := by
  intro s
  have hR := range_spec o q.fr q.to (by omega) hs
  rw [← resG_all]
  generalize o.getD [] = l at hlen hs hR ⊢
  refine ACalls_bodyM (C := ⟨[2]⟩) (c := Try.f30.body.getD .skip) (rs := [.tmp 4, .tmp 5]) Try.func30 (by kernel_rfl) (by kernel_rfl) (by kernel_rfl) (Nat.le_of_ble_eq_true rfl) (by kernel_rfl) fun hwf hbel => ?_
  simp only [Try.f30, push_cast, ↓EPM, ↓reduceIte, seval, reduceCtorEq]
  refine makeMap_law ?_
  simp only [push_cast, ↓EPM, ↓reduceIte, seval, reduceCtorEq]
  refine hR.use ?_
  simp only [push_cast, ↓EPM, ↓reduceIte, seval, reduceCtorEq]
  show ACode _ _ _ _ _
  refine ACode_ent (e' := envL [(2, .ep q.av 0), (6, .ptr (s.next + 2) 0), (16, .fn 105 [] [.ep [.sl 9 (rowsA (rangeL l q.fr q.to)) .none] 0])]) (s' := s30 s ([], false)) (AEnt_drop rfl rfl (by show s.next ≤ s.next + 3; omega) ⟨by show s.next + 3 ≤ s.next + 3; omega, fun id hid => ?_⟩ (s30_wf hwf _) (EntB_all ?_)) ?_
  · replace hid : id < s.next + 3 := hid
    simp only [s30, gS, AState.set, AState.new]
    (repeat' split) <;> first | rfl | omega
  · simp only [push_cast, ↓EPM, ↓reduceIte, seval, reduceCtorEq]
    show s.next + 2 < s.next + 3
    omega
  refine rangeFunc_law (gf := 105) (asg := asg30) (body := body30) (first := []) (cap := [.ep [.sl 9 (rowsA (rangeL l q.fr q.to)) .none] 0]) rfl fun n hb => ?_
  obtain ⟨hb1, hb2, hb3⟩ := rf_bel hb
  clear hb
  have n1 : noRF asg30 = true := by kernel_rfl
  have n2 : noRF body30 = true := by kernel_rfl
  generalize hA : asg30 = A at *
  generalize hB : body30 = B at *
  have e1 : ∀ C, aeval Try.prog C A = aeval Try.prog C asg30 := fun C => by rw [hA]
  have e2 : ∀ C, aeval Try.prog C B = aeval Try.prog C body30 := fun C => by rw [hB]
  clear hA hB
  have stW : ∀ M, AState.Wf (AState.new (AState.new (s30 s M) .defd) (.loop (envL [(2, .ep q.av 0), (6, .ptr (s.next + 2) 0), (16, .fn 105 [] [.ep [.sl 9 (rowsA (rangeL l q.fr q.to)) .none] 0])]) [17] n A B .ready none (s.next + 3))) := fun M => ((s30_wf hwf M).new (o := .defd) trivial).new ⟨by show s.next + 3 < s.next + 5; omega, envL_bel fun p hp => by
    simp only [List.mem_cons, List.not_mem_nil, or_false] at hp
    rcases hp with rfl | rfl | rfl
    · exact Bel_ep.2 (by simp [Query.av, i6, str, boo, Bel_v])
    · exact Bel_ptr.2 (by show s.next + 2 < s.next + 5; omega)
    · exact Bel_fn.2 ⟨fun c hc => (by cases hc), fun c hc => by rw [List.mem_singleton.1 hc]; exact Bel_ep.2 fun y hy => by rw [List.mem_singleton.1 hy]; exact Bel_sl.2 ⟨of_eq_true (rowsA_bel _ _), trivial⟩⟩⟩
  refine ACalls_mono ?post (values_law (fun M => AState.new (AState.new (s30 s M) .defd) (.loop (envL [(2, .ep q.av 0), (6, .ptr (s.next + 2) 0), (16, .fn 105 [] [.ep [.sl 9 (rowsA (rangeL l q.fr q.to)) .none] 0])]) [17] n A B .ready none (s.next + 3))) (q.step) (fun _ _ => True) (s.next + 5) ⟨s.next, []⟩ (s.next + 4) (rangeL l q.fr q.to) ([], false) (fun _ => rfl) (fun _ => rfl) ?wf (by omega) ?len trivial (fun _ _ _ _ _ _ => trivial) ?hy)
  case wf => exact fun _ => stW
  case len => exact Nat.le_trans (List.length_filter_le _ _) (by omega)
  case hy =>
    intro _ M x s' _ _ hobj hle
    have hL : s'.obj (s.next + 4) = some (.loop (envL [(2, .ep q.av 0), (6, .ptr (s.next + 2) 0), (16, .fn 105 [] [.ep [.sl 9 (rowsA (rangeL l q.fr q.to)) .none] 0])]) [17] n A B .ready none (s.next + 3)) := by
      rw [hobj _ (by omega)]; simp only [s30, gS]; (simp only [upd, AState.set, AState.new]; (repeat (first | rw [if_neg (by omega)] | rw [if_pos (by omega)] | (simp only [↓reduceIte]; done) | simp only [↓reduceIte])); try rfl)
    have hG : s'.obj (s.next + 1) = some (.cells [.mp s.next, boo M.2]) := by
      rw [hobj _ (by omega)]; simp only [s30, gS]; (simp only [upd, AState.set, AState.new]; (repeat (first | rw [if_neg (by omega)] | rw [if_pos (by omega)] | (simp only [↓reduceIte]; done) | simp only [↓reduceIte])); try rfl)
    have hm : s'.obj s.next = some (.map (entA M.1)) := by
      rw [hobj _ (by omega)]; simp only [s30, gS]; (simp only [upd, AState.set, AState.new]; (repeat (first | rw [if_neg (by omega)] | rw [if_pos (by omega)] | (simp only [↓reduceIte]; done) | simp only [↓reduceIte])); try rfl)
    have h6 : s'.obj (s.next + 2) = some (.cells [.ptr (s.next + 1) 0]) := by
      rw [hobj _ (by omega)]; simp only [s30, gS]; (simp only [upd, AState.set, AState.new]; (repeat (first | rw [if_neg (by omega)] | rw [if_pos (by omega)] | (simp only [↓reduceIte]; done) | simp only [↓reduceIte])); try rfl)
    suffices key : ∀ k : AV → AState → Prop, k (boo true) { s' with obj := fun i => if i < s.next + 5 then (AState.new (AState.new (s30 s (q.step M x).1) .defd) (.loop (envL [(2, .ep q.av 0), (6, .ptr (s.next + 2) 0), (16, .fn 105 [] [.ep [.sl 9 (rowsA (rangeL l q.fr q.to)) .none] 0])]) [17] n A B .ready none (s.next + 3))).obj i else s'.obj i } → AYield Try.prog (s.next + 4) [.agg x.av] s' k from key _ ⟨rfl, rfl⟩
    intro k hk
    refine AYield_body (C := ⟨[]⟩) hL rfl hb1 hb2 hb3 n1 n2 fun hwf' hbel' => ?_
    have c1 : ¬ (s.next + 4 = s'.next) := by omega
    have c2 : ¬ (s'.next = s.next + 4) := by omega
    have c3 : ¬ (s.next + 1 = s'.next) := by omega
    have c4 : ¬ (s.next = s'.next) := by omega
    have c5 : ¬ (s.next + 2 = s'.next) := by omega
    have c6 : ¬ (s'.next = s.next + 1) := by omega
    have c7 : ¬ (s'.next = s.next) := by omega
    simp only [EZ, EZ0, e1, e2, asg30, body30, rfOf, Try.f30, Option.bind_some, Option.map_some, Option.getD_some, Option.orElse, c1, c2, hL, push_cast, ↓EPM, ↓reduceIte, seval, reduceCtorEq]
    refine (matches_spec q x.k).use ?_
    cases hh : q.hits x.k with
    | false =>
      have hst : (q.step M x).1 = M := by simp [Query.step, hh]
      rw [hst] at hk
      simp only [push_cast, ↓EPM, ↓reduceIte, seval, reduceCtorEq]
      refine ⟨by (simp only [upd, AState.set, AState.new]; (repeat (first | rw [if_neg (by omega)] | rw [if_pos (by omega)] | (simp only [↓reduceIte]; done) | simp only [↓reduceIte])); try rfl), { s' with obj := fun i => if i < s.next + 5 then (AState.new (AState.new (s30 s M) .defd) (.loop (envL [(2, .ep q.av 0), (6, .ptr (s.next + 2) 0), (16, .fn 105 [] [.ep [.sl 9 (rowsA (rangeL l q.fr q.to)) .none] 0])]) [17] n A B .ready none (s.next + 3))).obj i else s'.obj i }, AFin_drop rfl rfl (Nat.le_succ _) (keep_of rfl (rest_wf hle rfl (stW M) hwf') fun i hi => ?_) (.v _), hk⟩
      show _ = if i < s.next + 5 then (AState.new (AState.new (s30 s M) .defd) (.loop (envL [(2, .ep q.av 0), (6, .ptr (s.next + 2) 0), (16, .fn 105 [] [.ep [.sl 9 (rowsA (rangeL l q.fr q.to)) .none] 0])]) [17] n A B .ready none (s.next + 3))).obj i else s'.obj i
      rw [show (if i < s.next + 5 then (AState.new (AState.new (s30 s M) .defd) (.loop (envL [(2, .ep q.av 0), (6, .ptr (s.next + 2) 0), (16, .fn 105 [] [.ep [.sl 9 (rowsA (rangeL l q.fr q.to)) .none] 0])]) [17] n A B .ready none (s.next + 3))).obj i else s'.obj i) = s'.obj i by split; exact (hobj i (by assumption)).symm; rfl]
      simp only [AState.set, AState.new]
      (repeat' split) <;> first | rfl | omega | (subst_vars; exact hL.symm)
    | true =>
      have hst : (q.step M x).1 = gput M (q.grp x.k) x.c := by simp [Query.step, hh]
      rw [hst] at hk
      simp only [push_cast, ↓EPM, ↓reduceIte, seval, reduceCtorEq]
      have c8 : ¬ (s'.next = s.next + 2) := by omega
      refine chainA [(AState.set (AState.set (AState.new { s' with base := ⟨s'.next, []⟩ } (.cells zeroR.av)) s'.next (.cells x.av)) (s.next + 4) (.loop (envL [(2, .ep q.av 0), (6, .ptr (s.next + 2) 0), (16, .fn 105 [] [.ep [.sl 9 (rowsA (rangeL l q.fr q.to)) .none] 0])]) [17] n A B .busy none (s.next + 3))), gAt (AState.set (AState.set (AState.new { s' with base := ⟨s'.next, []⟩ } (.cells zeroR.av)) s'.next (.cells x.av)) (s.next + 4) (.loop (envL [(2, .ep q.av 0), (6, .ptr (s.next + 2) 0), (16, .fn 105 [] [.ep [.sl 9 (rowsA (rangeL l q.fr q.to)) .none] 0])]) [17] n A B .busy none (s.next + 3))) (s.next + 1) s.next (gput M (q.grp x.k) x.c)] [some 9, some 9, some 9, some 9, some 9, some 9, some 9, none] mixed ?_; simp only [gAt, h6, c1, c2, c3, c4, c5, c6, c7, c8, nx0, nx1, zeroR,  ↓EX, EY, ↓EH, push_cast, ↓EPM, ↓reduceIte, seval, reduceCtorEq]
      refine qcallC (group_spec q x.k) rfl (by simp only [push_cast, ↓EPM, ↓reduceIte, seval, reduceCtorEq] <;> rfl) ?_; simp only [↓EX, EY, ↓EH, push_cast, ↓EPM, ↓reduceIte, seval, reduceCtorEq]
      simp only [gAt, h6, c1, c2, c3, c4, c5, c6, c7, c8, nx0, nx1, zeroR, ↓EX, EY, ↓EH, push_cast, ↓EPM, ↓reduceIte, seval, reduceCtorEq]
      refine qmoveC (put_law (AState.set (AState.set (AState.new { s' with base := ⟨s'.next, []⟩ } (.cells zeroR.av)) s'.next (.cells x.av)) (s.next + 4) (.loop (envL [(2, .ep q.av 0), (6, .ptr (s.next + 2) 0), (16, .fn 105 [] [.ep [.sl 9 (rowsA (rangeL l q.fr q.to)) .none] 0])]) [17] n A B .busy none (s.next + 3))) (s.next + 1) s.next M (q.grp x.k) x.c ?_ ?_) rfl rfl ?_
      · simp only [AState.set, AState.new]; ((repeat (first | rw [if_neg (by omega)] | rw [if_pos (by omega)] | (simp only [↓reduceIte]; done) | simp only [↓reduceIte])); try rfl); exact hG
      · simp only [AState.set, AState.new]; ((repeat (first | rw [if_neg (by omega)] | rw [if_pos (by omega)] | (simp only [↓reduceIte]; done) | simp only [↓reduceIte])); try rfl); exact hm
      simp only [↓EX, EY, ↓EH, push_cast, ↓EPM, ↓reduceIte, seval, reduceCtorEq]
      refine ⟨by simp only [gAt, AState.set, AState.new]; ((repeat (first | rw [if_neg (by omega)] | rw [if_pos (by omega)] | (simp only [↓reduceIte]; done) | simp only [↓reduceIte])); try rfl), { s' with obj := fun i => if i < s.next + 5 then (AState.new (AState.new (s30 s (gput M (q.grp x.k) x.c)) .defd) (.loop (envL [(2, .ep q.av 0), (6, .ptr (s.next + 2) 0), (16, .fn 105 [] [.ep [.sl 9 (rowsA (rangeL l q.fr q.to)) .none] 0])]) [17] n A B .ready none (s.next + 3))).obj i else s'.obj i }, AFin_drop rfl rfl (Nat.le_succ _) (keep_of rfl (rest_wf hle rfl (stW (gput M (q.grp x.k) x.c)) hwf') fun i hi => ?_) (.v _), hk⟩
      show _ = if i < s.next + 5 then (AState.new (AState.new (s30 s (gput M (q.grp x.k) x.c)) .defd) (.loop (envL [(2, .ep q.av 0), (6, .ptr (s.next + 2) 0), (16, .fn 105 [] [.ep [.sl 9 (rowsA (rangeL l q.fr q.to)) .none] 0])]) [17] n A B .ready none (s.next + 3))).obj i else s'.obj i
      have hob := hobj i
      simp only [s30, gS, gAt, AState.set, AState.new] at hob ⊢
      by_cases hlt : i < s.next + 5
      · rw [if_pos hlt, hob hlt]
        (repeat' split) <;> first | rfl | omega
      · rw [if_neg hlt]
        (repeat' split) <;> first | rfl | omega
  case post =>
    rintro d s3 ⟨rfl, rfl⟩
    refine ⟨.ready, none, by decide, by simp only [s30, gS]; (simp only [upd, AState.set, AState.new]; (repeat (first | rw [if_neg (by omega)] | rw [if_pos (by omega)] | (simp only [↓reduceIte]; done) | simp only [↓reduceIte])); try rfl), ?_⟩
    rw [runI_grows, rowL_range]
    generalize hM : grows ([], false) (q.rowL l) = M
    have hlM : M.1.length ≤ 1000 := by
      rw [← hM]
      have h1 := grows_len (q.rowL l) ([], false)
      have h2 : (q.rowL l).length ≤ l.length := by simp only [Query.rowL, List.length_map]; exact List.length_filter_le _ _
      simp only [List.length_nil] at h1
      omega
    simp only [jumpQ, AState.mark, AState.del, nx0, nx1, s30_next, s30_ptr, push_cast, ↓EPM, ↓reduceIte, seval, reduceCtorEq]
    refine ACalls_use (rows_law _ (s.next + 1) s.next M (by omega) ?_ ?_) ?_
    · simp only [s30, gS, AState.new]; ((repeat (first | rw [if_neg (by omega)] | rw [if_pos (by omega)] | (simp only [↓reduceIte]; done) | simp only [↓reduceIte])); try rfl)
    · simp only [s30, gS, AState.new]; ((repeat (first | rw [if_neg (by omega)] | rw [if_pos (by omega)] | (simp only [↓reduceIte]; done) | simp only [↓reduceIte])); try rfl)
    cases resG M with
    | none =>
      simp only [resP, push_cast, ↓EPM, ↓reduceIte, seval, reduceCtorEq]
      refine RetM_more (l := [.sl 9 [] .none, i64 6]) (m := [.sl 9 [] .none, i64 6]) (S := s) (.inr rfl) (leaveS_one (D := s.next + 3) rfl (by simp only []; ((repeat (first | rw [if_neg (by omega)] | rw [if_pos (by omega)] | (simp only [↓reduceIte]; done) | simp only [↓reduceIte])); try rfl))) (by simp only [push_cast, ↓EPM, ↓reduceIte, seval, reduceCtorEq] <;> rfl) ⟨.inl rfl, .inl rfl, trivial⟩ (Nat.le_refl _) rfl (by simp only [AState.del]; omega) (keep_of rfl hwf fun i hi => ?_) ?_ ⟨rfl, rfl⟩
      · simp only [AState.del, s30, gS, AState.set, AState.new]
        (repeat' split) <;> first | rfl | omega
      · simp only [packAV, Bel_tup, List.mem_cons, List.not_mem_nil, or_false, forall_eq_or_imp, forall_eq]
        (try first | omega | ((repeat' apply And.intro) <;> first | omega | (simp only [push_cast, ↓EPM, ↓reduceIte, seval, reduceCtorEq, List.mem_cons, List.not_mem_nil, or_false, forall_eq_or_imp, forall_eq, and_self, true_and, and_true, zeroR]; done) | (simp only [push_cast, ↓EPM, ↓reduceIte, seval, reduceCtorEq, List.mem_cons, List.not_mem_nil, or_false, forall_eq_or_imp, forall_eq, and_self, true_and, and_true, zeroR]; omega)))
    | some l' =>
      simp only [resP, push_cast, ↓EPM, ↓reduceIte, seval, reduceCtorEq]
      refine RetM_more (l := [.sl 9 (rowsA l') .none, i64 0]) (m := [.sl 9 (rowsA l') .none, i64 0]) (S := s) (.inr rfl) (leaveS_one (D := s.next + 3) rfl (by simp only []; ((repeat (first | rw [if_neg (by omega)] | rw [if_pos (by omega)] | (simp only [↓reduceIte]; done) | simp only [↓reduceIte])); try rfl))) (by simp only [push_cast, ↓EPM, ↓reduceIte, seval, reduceCtorEq] <;> rfl) ⟨.inl rfl, .inl rfl, trivial⟩ (Nat.le_refl _) rfl (by simp only [AState.del]; omega) (keep_of rfl hwf fun i hi => ?_) ?_ ⟨rfl, rfl⟩
      · simp only [AState.del, s30, gS, AState.set, AState.new]
        (repeat' split) <;> first | rfl | omega
      · simp only [packAV, Bel_tup, List.mem_cons, List.not_mem_nil, or_false, forall_eq_or_imp, forall_eq]
        (try first | omega | ((repeat' apply And.intro) <;> first | omega | (simp only [push_cast, ↓EPM, ↓reduceIte, seval, reduceCtorEq, List.mem_cons, List.not_mem_nil, or_false, forall_eq_or_imp, forall_eq, and_self, true_and, and_true, zeroR]; done) | (simp only [push_cast, ↓EPM, ↓reduceIte, seval, reduceCtorEq, List.mem_cons, List.not_mem_nil, or_false, forall_eq_or_imp, forall_eq, and_self, true_and, and_true, zeroR]; omega)))

end Go.Proofs

namespace Go.Proofs
open Go Go.Av Go.Sort
set_option linter.unusedSimpArgs false
set_option linter.unusedVariables false
set_option maxRecDepth 30000
set_option maxHeartbeats 2000000

theorem foldSegs_spec (q : Query) (l : List Row) : APure Try.prog 7 [.agg q.av, .sl 9 (rowsA l) .none] (boo true) := by
  intro s
  have hQ := qright_spec q
  by_cases h1 : q.right = true
  · rw [h1] at hQ
    by_cases h2 : l.length ≤ 100
    · have hc : ¬ ((100 : Int) < (l.length : Int)) := by omega
      have hz := rright_list l (by omega)
      by_cases h3 : rightL none l = true
      · rw [h3] at hz
        have hsr := srows_spec l (by omega)
        simp only [h3, if_true, resS] at hsr
        have hsrt := (right_srt l none h3).1
        have hA := foldSeg_spec q (some l) (by simp only [Option.getD_some]; omega) (srt_hrs hsrt)
        have hB := rrows_spec q l (by omega)
        have hN := foldSeg_spec q none (Nat.zero_le _) List.Pairwise.nil
        simp only [Option.getD_some, Option.getD_none] at hA hN
        have hql := putAll_getD (q.rowL l)
        have hrl : (q.rowL l).length ≤ l.length := by simp only [Query.rowL, List.length_map]; exact List.length_filter_le _ _
        rw [show putAll [] (q.rowL []) = some [] from rfl] at hN
        generalize putAll [] (q.rowL l) = o at hA hB hql
        have hS := same_spec (o.getD []) (o.getD []) (by omega)
        simp only [decide_true] at hS
        rw [resP_eq] at hA hB hN
        refine enterA ⟨[2]⟩ (Try.f7.body.getD .skip) [.tmp 4] Try.func7 fun hwf hbel => ?_; simp only [hc,Try.f7, push_cast, ↓EPM, ↓reduceIte, seval, reduceCtorEq]
        refine hQ.use ?_
        simp only [hc, push_cast, ↓EPM, ↓reduceIte, seval, reduceCtorEq]
        refine hz.use ?_
        simp only [push_cast, ↓EPM, ↓reduceIte, seval, reduceCtorEq]
        refine hsr.use ?_
        simp only [push_cast, ↓EPM, ↓reduceIte, seval, reduceCtorEq]
        refine hA.use ?_
        simp only [push_cast, ↓EPM, ↓reduceIte, seval, reduceCtorEq]
        refine hB.use ?_
        simp only [push_cast, ↓EPM, ↓reduceIte, seval, reduceCtorEq]
        refine hN.use ?_
        simp only [fo, Option.getD_some, push_cast, ↓EPM, ↓reduceIte, seval, reduceCtorEq]
        refine hS.use ?_
        simp only [push_cast, ↓EPM, ↓reduceIte, seval, reduceCtorEq]
        refine alive14_spec.use ?_
        simp only [push_cast, ↓EPM, ↓reduceIte, seval, reduceCtorEq]
        exact RetP [boo true]
      · have h3 : rightL none l = false := by simpa using h3
        rw [h3] at hz
        refine enterA ⟨[2]⟩ (Try.f7.body.getD .skip) [.tmp 4] Try.func7 fun hwf hbel => ?_; simp only [hc,Try.f7, push_cast, ↓EPM, ↓reduceIte, seval, reduceCtorEq]
        refine hQ.use ?_
        simp only [hc, push_cast, ↓EPM, ↓reduceIte, seval, reduceCtorEq]
        refine hz.use ?_
        simp only [push_cast, ↓EPM, ↓reduceIte, seval, reduceCtorEq]
        refine alive14_spec.use ?_
        simp only [push_cast, ↓EPM, ↓reduceIte, seval, reduceCtorEq]
        exact RetP [boo true]
    · have hc : ((100 : Int) < (l.length : Int)) := by omega
      refine enterA ⟨[2]⟩ (Try.f7.body.getD .skip) [.tmp 4] Try.func7 fun hwf hbel => ?_; simp only [hc,Try.f7, push_cast, ↓EPM, ↓reduceIte, seval, reduceCtorEq]
      refine hQ.use ?_
      simp only [hc, push_cast, ↓EPM, ↓reduceIte, seval, reduceCtorEq]
      refine alive14_spec.use ?_
      simp only [push_cast, ↓EPM, ↓reduceIte, seval, reduceCtorEq]
      exact RetP [boo true]
  · have h1 : q.right = false := by simpa using h1
    rw [h1] at hQ
    refine enterA ⟨[2]⟩ (Try.f7.body.getD .skip) [.tmp 4] Try.func7 fun hwf hbel => ?_; simp only [Try.f7, push_cast, ↓EPM, ↓reduceIte, seval, reduceCtorEq]
    refine hQ.use ?_
    simp only [push_cast, ↓EPM, ↓reduceIte, seval, reduceCtorEq]
    refine alive14_spec.use ?_
    simp only [push_cast, ↓EPM, ↓reduceIte, seval, reduceCtorEq]
    exact RetP [boo true]

end Go.Proofs

namespace Go.Proofs
open Go Go.Av Go.Sort
set_option linter.unusedSimpArgs false
set_option linter.unusedVariables false

/-! What rows of some keys come to -/
def cellF (φ : Key → Bool) : List Row → Option Cell
  | [] => none
  | x :: l => plusO (if φ x.k then some x.c else none) (cellF φ l)
theorem cellF_append (φ : Key → Bool) (l m : List Row) : cellF φ (l ++ m) = plusO (cellF φ l) (cellF φ m) := by
  induction l with
  | nil => rfl
  | cons f l ih => rw [List.cons_append, cellF, cellF, ih, plusO_assoc]
theorem plusO_left (a b c : Option Cell) : plusO a (plusO b c) = plusO b (plusO a c) := by rw [← plusO_assoc, plusO_comm a b, plusO_assoc]

theorem putR_F (φ : Key → Bool) {pre rest : List Row} {x : Row} {q : List Row} (hr : FineL rest) (hx : Fine x.c) (h : putR pre rest x = some q) : cellF φ q = plusO (cellF φ (pre ++ rest)) (if φ x.k then some x.c else none) := by
  cases rest with
  | nil =>
    simp only [putR, Option.some.injEq] at h
    subst h
    rw [cellF_append, cellF_append]
    simp only [cellF, plusO_none]
  | cons y t =>
    rw [putR] at h
    by_cases e : y.k = x.k
    · rw [if_pos e] at h
      obtain ⟨c, hc, rfl⟩ := Option.map_eq_some_iff.1 h
      have hm := merge_mul hr.cons.1.ne hx.ne hc
      rw [cellF_append, cellF_append]
      simp only [cellF, e]
      cases φ x.k with
      | false => simp only [Bool.false_eq_true, if_false, none_plusO, plusO_none]
      | true =>
        simp only [if_true]
        rw [show some c = plusO (some y.c) (some x.c) by rw [hm]; rfl, plusO_assoc, plusO_assoc, plusO_assoc, plusO_comm (some x.c)]
    · rw [if_neg e] at h
      simp only [Option.some.injEq] at h
      subst h
      rw [cellF_append, cellF_append]
      simp only [cellF]
      rw [plusO_assoc, plusO_comm (if φ x.k then some x.c else none)]

theorem putL_F (φ : Key → Bool) {l : List Row} {x : Row} {q : List Row} (hl : FineL l) (hx : Fine x.c) (h : putL l x = some q) : cellF φ q = plusO (cellF φ l) (if φ x.k then some x.c else none) := by
  have hsplit : l.takeWhile (fun r => decide (cmpK r.k x.k < 0)) ++ l.dropWhile (fun r => decide (cmpK r.k x.k < 0)) = l := List.takeWhile_append_dropWhile
  have := putR_F φ (pre := l.takeWhile (fun r => decide (cmpK r.k x.k < 0))) (fun r hr => hl r (by rw [← hsplit]; exact List.mem_append_right _ hr)) hx h
  rwa [hsplit] at this

theorem rows_put : ∀ (l acc : List Row), Srt acc → FineL acc → FineL l → cnt acc + cnt l ≤ 100 →
    ∃ q, putAll acc l = some q ∧ Srt q ∧ FineL q ∧ cnt q = cnt acc + cnt l ∧ ∀ φ, cellF φ q = plusO (cellF φ acc) (cellF φ l)
  | [], acc, h1, h2, _, _ => ⟨acc, rfl, h1, h2, by simp [cnt], fun k => by rw [cellF, plusO_none]⟩
  | x :: l, acc, h1, h2, h3, h4 => by
    obtain ⟨hx, hl⟩ := h3.cons
    simp only [cnt] at h4
    have hp := cnt_pos hl
    obtain ⟨a, p1, p2, p3⟩ := putL_fine h2 hx (by omega)
    have hb := put_is h1 x
    rw [p1] at hb
    obtain ⟨q, q1, q2, q3, q4, q5⟩ := rows_put l a hb.1 p2 hl (by omega)
    refine ⟨q, by rw [putAll, p1]; exact q1, q2, q3, by simp only [cnt]; omega, fun φ => ?_⟩
    rw [q5, putL_F φ h2 hx p1, cellF, plusO_assoc]

theorem rows_all (l : List Row) (h1 : FineL l) (h2 : cnt l ≤ 100) : ∃ q, putAll [] l = some q ∧ Srt q ∧ FineL q ∧ cnt q = cnt l ∧ ∀ φ, cellF φ q = cellF φ l := by
  obtain ⟨q, q1, q2, q3, q4, q5⟩ := rows_put l [] Srt.nil FineL.nil h1 (by simp only [cnt]; omega)
  exact ⟨q, q1, q2, q3, by simp only [cnt] at q4; omega, fun φ => by rw [q5]; rfl⟩

theorem cellF_get : ∀ {l : List Row}, Srt l → ∀ k, cellF (fun k' => decide (k' = k)) l = getR l k
  | [], _, _ => rfl
  | x :: l, h, k => by
    rw [cellF, getR, cellF_get h.tail]
    by_cases e : x.k = k
    · subst e
      rw [getR_lt h.head, plusO_none]
      simp
    · simp only [e, decide_false, Bool.false_eq_true, if_false]
      rfl
theorem cellF_ext {l m : List Row} (hl : Srt l) (hm : Srt m) (h : ∀ k, cellF (fun k' => decide (k' = k)) l = cellF (fun k' => decide (k' = k)) m) : l = m :=
  getR_ext hl hm fun k => by rw [← cellF_get hl, ← cellF_get hm, h]

theorem cellF_rowL (q : Query) (l : List Row) (k : Key) : cellF (fun k' => decide (k' = k)) (q.rowL l) = cellF (fun k' => q.hits k' && decide (q.grp k' = k)) l := by
  induction l with
  | nil => rfl
  | cons x l ih =>
    rw [cellF, ← ih]
    cases hh : q.hits x.k with
    | false => simp [Query.rowL, hh]; rfl
    | true =>
      rw [show q.rowL (x :: l) = ⟨q.grp x.k, x.c⟩ :: q.rowL l by simp [Query.rowL, hh], cellF]
      simp
theorem factL_rowL (q : Query) (l : List Fact) : q.factL l = q.rowL (l.map factRow) := by
  induction l with
  | nil => rfl
  | cons x l ih =>
    cases hh : q.hits x.k with
    | false =>
      rw [show q.factL (x :: l) = q.factL l by simp [Query.factL, hh], ih, List.map_cons, show q.rowL (factRow x :: l.map factRow) = q.rowL (l.map factRow) by simp [Query.rowL, factRow, hh]]
    | true =>
      rw [show q.factL (x :: l) = q.fr1 x :: q.factL l by simp [Query.factL, hh], ih, List.map_cons, show q.rowL (factRow x :: l.map factRow) = ⟨q.grp x.k, (factRow x).c⟩ :: q.rowL (l.map factRow) by simp [Query.rowL, factRow, hh]]
      rfl
theorem rowL_fine (q : Query) : ∀ {l : List Row}, FineL l → FineL (q.rowL l) ∧ cnt (q.rowL l) ≤ cnt l
  | [], _ => ⟨FineL.nil, Int.le_refl _⟩
  | x :: l, h => by
    obtain ⟨hx, hl⟩ := h.cons
    obtain ⟨i1, i2⟩ := rowL_fine q hl
    have hn := hx.1
    cases hh : q.hits x.k with
    | false =>
      rw [show q.rowL (x :: l) = q.rowL l by simp [Query.rowL, hh], cnt]
      exact ⟨i1, by omega⟩
    | true =>
      rw [show q.rowL (x :: l) = ⟨q.grp x.k, x.c⟩ :: q.rowL l by simp [Query.rowL, hh]]
      exact ⟨FineL.mk hx i1, by simp only [cnt]; omega⟩
theorem facts_fine : ∀ {l : List Fact}, (∀ f ∈ l, lightV f) → FineL (l.map factRow) ∧ cnt (l.map factRow) = l.length
  | [], _ => ⟨FineL.nil, rfl⟩
  | f :: l, h => by
    obtain ⟨i1, i2⟩ := facts_fine (l := l) fun g hg => h g (by simp [hg])
    refine ⟨FineL.mk (fine_one (h f (by simp))) i1, ?_⟩
    rw [List.map_cons, cnt, i2]
    show (1 : Int) + _ = _
    simp only [List.length_cons]; omega

/-- All that the law of parts needs. -/
theorem fold_parts (q : Query) (l : List Fact) (i : Nat) (h1 : l.length ≤ 100) (h2 : ∀ f ∈ l, lightV f) :
    ∃ r a b s : List Row, putAll [] (q.factL l) = some r ∧ putAll [] (q.factL (l.take i)) = some a ∧ putAll [] (q.factL (l.drop i)) = some b ∧ putAll [] (b ++ a) = some r ∧
      putAll [] (l.map factRow) = some s ∧ Srt s ∧ putAll [] (q.rowL s) = some r := by
  have part : ∀ m : List Fact, (∀ f ∈ m, f ∈ l) → m.length ≤ l.length → ∃ r, putAll [] (q.factL m) = some r ∧ Srt r ∧ FineL r ∧ cnt r ≤ m.length ∧ ∀ φ, cellF φ r = cellF φ (q.factL m) := by
    intro m hm hl
    obtain ⟨f1, f2⟩ := facts_fine fun f hf => h2 f (hm f hf)
    obtain ⟨g1, g2⟩ := rowL_fine q f1
    rw [← factL_rowL] at g1 g2
    obtain ⟨r, r1, r2, r3, r4, r5⟩ := rows_all _ g1 (by omega)
    exact ⟨r, r1, r2, r3, by omega, r5⟩
  obtain ⟨r, r1, r2, r3, r4, r5⟩ := part l (fun f h => h) (Nat.le_refl _)
  obtain ⟨a, a1, a2, a3, a4, a5⟩ := part (l.take i) (fun f h => List.mem_of_mem_take h) (by rw [List.length_take]; omega)
  obtain ⟨b, b1, b2, b3, b4, b5⟩ := part (l.drop i) (fun f h => List.mem_of_mem_drop h) (by rw [List.length_drop]; omega)
  obtain ⟨c, c1, c2, c3, c4, c5⟩ := rows_all (b ++ a) (b3.append a3) (by rw [cnt_append]; rw [List.length_take] at a4; rw [List.length_drop] at b4; omega)
  obtain ⟨f1, f2⟩ := facts_fine h2
  obtain ⟨s, s1, s2, s3, s4, s5⟩ := rows_all _ f1 (by omega)
  obtain ⟨g1, g2⟩ := rowL_fine q s3
  obtain ⟨t, t1, t2, t3, t4, t5⟩ := rows_all _ g1 (by omega)
  have ec : c = r := cellF_ext c2 r2 fun k => by
    rw [c5, r5, cellF_append, b5, a5, plusO_comm, ← cellF_append]
    congr 1
    simp only [Query.factL, ← List.map_append, ← List.filter_append, List.take_append_drop]
  have et : t = r := cellF_ext t2 r2 fun k => by
    rw [t5, r5, cellF_rowL, s5, factL_rowL, cellF_rowL]
  subst ec
  subst et
  exact ⟨t, a, b, s, r1, a1, b1, by rw [c1], s1, s2, t1⟩

end Go.Proofs

namespace Go.Proofs
open Go Go.Av Go.Sort
set_option linter.unusedSimpArgs false
set_option linter.unusedVariables false
set_option maxRecDepth 30000
set_option maxHeartbeats 2000000

theorem foldParts_spec (q : Query) (l : List Fact) (a : Int64) : APure Try.prog 6 [.agg q.av, .sl 6 (factsA l) .none, i6 a] (boo true) := by
  intro s
  have hQ := qright_spec q
  have hLF := lightF_spec l
  by_cases hq : q.right = true
  · rw [hq] at hQ
    by_cases h1 : lightF l = true
    · rw [h1] at hLF
      have hl : l.length ≤ 100 := by simp only [lightF, Bool.and_eq_true, decide_eq_true_eq] at h1; exact h1.1
      by_cases h2 : a.toInt < 0
      · refine enterA ⟨[3]⟩ (Try.f6.body.getD .skip) [.tmp 6] Try.func6 fun hwf hbel => ?_; simp only [h2,Try.f6, push_cast, ↓EPM, ↓reduceIte, seval, reduceCtorEq]
        refine hQ.use ?_
        simp only [push_cast, ↓EPM, ↓reduceIte, seval, reduceCtorEq]
        refine hLF.use ?_
        simp only [h2, push_cast, ↓EPM, ↓reduceIte, seval, reduceCtorEq]
        refine alive14_spec.use ?_
        simp only [push_cast, ↓EPM, ↓reduceIte, seval, reduceCtorEq]
        exact RetP [boo true]
      · by_cases h3 : (l.length : Int) < a.toInt
        · refine enterA ⟨[3]⟩ (Try.f6.body.getD .skip) [.tmp 6] Try.func6 fun hwf hbel => ?_; simp only [h2, h3,Try.f6, push_cast, ↓EPM, ↓reduceIte, seval, reduceCtorEq]
          refine hQ.use ?_
          simp only [push_cast, ↓EPM, ↓reduceIte, seval, reduceCtorEq]
          refine hLF.use ?_
          simp only [h2, h3, push_cast, ↓EPM, ↓reduceIte, seval, reduceCtorEq]
          refine alive14_spec.use ?_
          simp only [push_cast, ↓EPM, ↓reduceIte, seval, reduceCtorEq]
          exact RetP [boo true]
        · obtain ⟨n, hn⟩ : ∃ n : Nat, a.toInt = n := ⟨a.toInt.toNat, by omega⟩
          have h0n : (0 : Int) ≤ (n : Int) := by omega
          have hnl : (n : Int) ≤ (l.length : Int) := by omega
          have hnl2 : n ≤ l.length := by omega
          have hn1 : ¬ (n : Int) < 0 := by omega
          have hn2 : ¬ (l.length : Int) < (n : Int) := by omega
          refine enterA ⟨[3]⟩ (Try.f6.body.getD .skip) [.tmp 6] Try.func6 fun hwf hbel => ?_; simp only [hn, hn1, hn2,Try.f6, push_cast, ↓EPM, ↓reduceIte, seval, reduceCtorEq]
          refine hQ.use ?_
          simp only [push_cast, ↓EPM, ↓reduceIte, seval, reduceCtorEq]
          refine hLF.use ?_
          simp only [hn, hn1, hn2, push_cast, ↓EPM, ↓reduceIte, seval, reduceCtorEq]
          refine ALoop_inv (ι := Nat) (fun i => i ≤ l.length ∧ ∀ f ∈ l.take i, lightV f) (fun i => envL [(1, .sl 6 (factsA l) .none), (2, i64 n), (3, .ep q.av 0), (7, i64 i)]) (fun _ => { s with base := ⟨s.next, []⟩ }) (fun i => l.length - i) 0 ⟨Nat.zero_le _, fun f hf => by cases hf⟩ (ent rfl ?_) (fun i hi => ?_)
          · simp only [push_cast, ↓EPM, ↓reduceIte, seval, reduceCtorEq]
          · obtain ⟨hi, hs⟩ := hi
            by_cases hlt : i < l.length
            · obtain ⟨x, hx⟩ : ∃ x, l[i]? = some x := ⟨_, List.getElem?_eq_getElem hlt⟩
              have gx := factsA_get hx
              have hc : ((i : Int) < (l.length : Int)) := by omega
              have h0 : (0 : Int) ≤ (i : Int) := by omega
              have hw : IntKind.i64.wrap ((i : Int) + 1) = (i : Int) + 1 := wrap_in (by omega) (by omega)
              by_cases hv1 : (1099511627776 : Int) < x.v.toInt
              · simp only [hc, h0, gx, hv1, push_cast, ↓EPM, ↓reduceIte, seval, reduceCtorEq]
                refine alive14_spec.use ?_
                simp only [push_cast, ↓EPM, ↓reduceIte, seval, reduceCtorEq]
                exact RetP [boo true]
              · by_cases hv2 : x.v.toInt < -1099511627776
                · simp only [hc, h0, gx, hv1, hv2, push_cast, ↓EPM, ↓reduceIte, seval, reduceCtorEq]
                  refine alive14_spec.use ?_
                  simp only [push_cast, ↓EPM, ↓reduceIte, seval, reduceCtorEq]
                  exact RetP [boo true]
                · simp only [hc, h0, gx, hv1, hv2, hw, push_cast, ↓EPM, ↓reduceIte, seval, reduceCtorEq]
                  refine round_next (i + 1) ⟨by omega, fun f hf => ?_⟩ (by omega) (ent rfl ?_)
                  · rw [take_get hx] at hf
                    rcases List.mem_append.1 hf with hf | hf
                    · exact hs f hf
                    · obtain rfl := List.mem_singleton.1 hf
                      exact ⟨by omega, by omega⟩
                  · simp only [push_cast, ↓EPM, ↓reduceIte, seval, reduceCtorEq]
            · have hc : ¬ ((i : Int) < (l.length : Int)) := by omega
              rw [List.take_of_length_le (by omega)] at hs
              obtain ⟨r, ra, rb, sg, e1, e2, e3, e4, e5, e6, e7⟩ := fold_parts q l n hl hs
              have bl : ∀ m : List Fact, (q.factL m).length ≤ m.length := fun m => by simp only [Query.factL, List.length_map]; exact List.length_filter_le _ _
              have lr := putAll_len _ _ _ e1
              have la := putAll_len _ _ _ e2
              have lb := putAll_len _ _ _ e3
              have lsg := putAll_len _ _ _ e5
              have b1 := bl l
              have b2 := bl (l.take n)
              have b3 := bl (l.drop n)
              simp only [List.length_map, List.length_nil, List.length_take, List.length_drop] at lr la lb lsg b1 b2 b3
              have hA := facts_law q l (by omega)
              have hA1 := facts_law q (l.take n) (by rw [List.length_take]; omega)
              have hA2 := facts_law q (l.drop n) (by rw [List.length_drop]; omega)
              have hJ : APure Try.prog 29 [.sl 1 [[.sl 9 (rowsA rb) .none], [.sl 9 (rowsA ra) .none]] .none] (resP (putAll [] [rb, ra].flatten)) := joins_law [rb, ra] (by simp) (by simp only [total, List.map_cons, List.map_nil, List.sum_cons, List.sum_nil]; omega)
              rw [show [rb, ra].flatten = rb ++ ra by simp, e4] at hJ
              have hO := of_seg l (by omega)
              rw [ofs_eq, e5] at hO
              have hG := foldSeg_spec q (some sg) (by simp only [Option.getD_some]; omega) (srt_hrs e6)
              simp only [Option.getD_some] at hG
              rw [e1] at hA
              rw [e2] at hA1
              rw [e3] at hA2
              rw [e7] at hG
              have hS := same_spec r r (by omega)
              simp only [decide_true] at hS
              simp only [hc, push_cast, ↓EPM, ↓reduceIte, seval, reduceCtorEq]
              refine hA.use ?_
              simp only [resP, hnl, h0n, push_cast, ↓EPM, ↓reduceIte, seval, reduceCtorEq]
              refine drawA mixed ?_; simp only [hnl, h0n, factsA_take, factsA_drop, List.take_length, push_cast, ↓EPM, ↓reduceIte, seval, reduceCtorEq]
              refine qcall (hA1) rfl (by simp only [push_cast, ↓EPM, ↓reduceIte, seval, reduceCtorEq] <;> rfl) ?_; simp only [push_cast, ↓EPM, ↓reduceIte, seval, reduceCtorEq]
              simp only [resP, push_cast, ↓EPM, ↓reduceIte, seval, reduceCtorEq]
              refine drawA mixed ?_; simp only [hnl, h0n, factsA_take, factsA_drop, List.take_length, push_cast, ↓EPM, ↓reduceIte, seval, reduceCtorEq]
              refine qcall (hA2) rfl (by simp only [push_cast, ↓EPM, ↓reduceIte, seval, reduceCtorEq] <;> rfl) ?_; simp only [push_cast, ↓EPM, ↓reduceIte, seval, reduceCtorEq]
              simp only [resP, push_cast, ↓EPM, ↓reduceIte, seval, reduceCtorEq]
              refine hJ.use ?_
              simp only [resP, push_cast, ↓EPM, ↓reduceIte, seval, reduceCtorEq]
              refine hO.use ?_
              simp only [resO, resS, push_cast, ↓EPM, ↓reduceIte, seval, reduceCtorEq]
              refine hG.use ?_
              simp only [resP, push_cast, ↓EPM, ↓reduceIte, seval, reduceCtorEq]
              refine hS.use ?_
              simp only [push_cast, ↓EPM, ↓reduceIte, seval, reduceCtorEq]
              refine hS.use ?_
              simp only [push_cast, ↓EPM, ↓reduceIte, seval, reduceCtorEq]
              refine alive14_spec.use ?_
              simp only [push_cast, ↓EPM, ↓reduceIte, seval, reduceCtorEq]
              exact RetP [boo true]
    · have h1 : lightF l = false := by simpa using h1
      rw [h1] at hLF
      refine enterA ⟨[3]⟩ (Try.f6.body.getD .skip) [.tmp 6] Try.func6 fun hwf hbel => ?_; simp only [Try.f6, push_cast, ↓EPM, ↓reduceIte, seval, reduceCtorEq]
      refine hQ.use ?_
      simp only [push_cast, ↓EPM, ↓reduceIte, seval, reduceCtorEq]
      refine hLF.use ?_
      simp only [push_cast, ↓EPM, ↓reduceIte, seval, reduceCtorEq]
      refine alive14_spec.use ?_
      simp only [push_cast, ↓EPM, ↓reduceIte, seval, reduceCtorEq]
      exact RetP [boo true]
  · have hq : q.right = false := by simpa using hq
    rw [hq] at hQ
    refine enterA ⟨[3]⟩ (Try.f6.body.getD .skip) [.tmp 6] Try.func6 fun hwf hbel => ?_; simp only [Try.f6, push_cast, ↓EPM, ↓reduceIte, seval, reduceCtorEq]
    refine hQ.use ?_
    simp only [push_cast, ↓EPM, ↓reduceIte, seval, reduceCtorEq]
    refine alive14_spec.use ?_
    simp only [push_cast, ↓EPM, ↓reduceIte, seval, reduceCtorEq]
    exact RetP [boo true]

end Go.Proofs

namespace Go.Proofs
open Go Go.Av Go.Sort
set_option linter.unusedSimpArgs false
set_option linter.unusedVariables false
set_option maxRecDepth 30000
set_option maxHeartbeats 2000000

theorem fcmp68_spec (x : Row) (k : Key) : APure Try.prog 68 [.agg x.av, .agg k.av] (i64 (cmpK x.k k)) := by
  intro s
  refine enterA ⟨[2,3]⟩ (Try.f68.body.getD .skip) [.tmp 4] Try.func68 fun hwf hbel => ?_; simp only [Try.f68, push_cast, ↓EPM, ↓reduceIte, seval, reduceCtorEq]
  refine (fcmp_spec x.k k).use ?_
  simp only [push_cast, ↓EPM, ↓reduceIte, seval, reduceCtorEq]
  exact RetP [i64 (cmpK x.k k)]

/-- Is the row at a place a key's? -/
def isAt (l : List Row) (p : Nat) (k : Key) : Bool :=
  match l[p]? with
  | some r => decide (cmpK r.k k = 0)
  | none => false

theorem bs_spec (l : List Row) (k : Key) (p : Nat) (hlen : l.length ≤ 1000000) (hp : p ≤ l.length) (hx : ∀ (i : Nat) (r : Row), l[i]? = some r → (cmpK r.k k < 0 ↔ i < p)) :
    APure Try.prog 67 [.sl 9 (rowsA l) .none, .agg k.av, .fn 68 [] []] (.tup [i64 p, boo (isAt l p k)]) := by
  intro s
  refine enterA ⟨[4]⟩ (Try.f67.body.getD .skip) [.tmp 6, .tmp 7] Try.func67 fun hwf hbel => ?_; simp only [Try.f67, push_cast, ↓EPM, ↓reduceIte, seval, reduceCtorEq]
  refine ALoop_inv (ι := Nat × Nat) (fun i => i.1 ≤ p ∧ p ≤ i.2 ∧ i.2 ≤ l.length) (fun i => envL [(0, .sl 9 (rowsA l) .none), (2, .fn 68 [] []), (4, .ep k.av 0), (8, i64 l.length), (9, i64 i.1), (10, i64 i.2)]) (fun i => { s with base := ⟨s.next, []⟩ }) (fun i => i.2 - i.1) (0, l.length) ⟨Nat.zero_le _, hp, Nat.le_refl _⟩ (ent rfl ?_) (fun i hi => ?_)
  · simp only [push_cast, ↓EPM, ↓reduceIte, seval, reduceCtorEq]
  · obtain ⟨i, j⟩ := i
    obtain ⟨h1, h2, h3⟩ := hi
    simp only at h1 h2 h3
    by_cases hij : i < j
    · have hc : ((i : Int) < (j : Int)) := by omega
      have hw : IntKind.i64.wrap ((i : Int) + (j : Int)) = (i : Int) + (j : Int) := wrap_in (by omega) (by omega)
      have hm := mid_of (i := i) (j := j) (by omega)
      obtain ⟨m, hk⟩ : ∃ m, m = (i + j) / 2 := ⟨_, rfl⟩
      rw [← hk] at hm
      obtain ⟨r, hr⟩ : ∃ r, l[m]? = some r := ⟨_, List.getElem?_eq_getElem (by omega)⟩
      have gx := rowsA_get hr
      have hcl : ((m : Int) < (l.length : Int)) := by omega
      have h0 : (0 : Int) ≤ (m : Int) := by omega
      have hkx := hx m r hr
      have hw1 : IntKind.i64.wrap ((m : Int) + 1) = (m : Int) + 1 := wrap_in (by omega) (by omega)
      simp only [hc, hw, hm, push_cast, ↓EPM, ↓reduceIte, seval, reduceCtorEq]
      refine drawA mixed ?_; simp only [hcl, h0, gx, push_cast, ↓EPM, ↓reduceIte, seval, reduceCtorEq]
      refine qcall (fcmp68_spec r k) rfl (by simp only [push_cast, ↓EPM, ↓reduceIte, seval, reduceCtorEq] <;> rfl) ?_; simp only [push_cast, ↓EPM, ↓reduceIte, seval, reduceCtorEq]
      by_cases hle : cmpK r.k k < 0
      · simp only [hle, push_cast, ↓EPM, ↓reduceIte, seval, reduceCtorEq]
        simp only [hw1, push_cast, ↓EPM, ↓reduceIte, seval, reduceCtorEq]
        refine round_next (m + 1, j) ⟨by simp only; omega, by simp only; omega, by simp only; omega⟩ (by simp only; omega) (ent rfl ?_)
        simp only [push_cast, ↓EPM, ↓reduceIte, seval, reduceCtorEq]
      · simp only [hle, push_cast, ↓EPM, ↓reduceIte, seval, reduceCtorEq]
        refine round_next (i, m) ⟨by simp only; omega, by simp only; omega, by simp only; omega⟩ (by simp only; omega) (ent rfl ?_)
        simp only [push_cast, ↓EPM, ↓reduceIte, seval, reduceCtorEq]
    · have hc : ¬ ((i : Int) < (j : Int)) := by omega
      obtain rfl : i = p := by omega
      simp only [hc, push_cast, ↓EPM, ↓reduceIte, seval, reduceCtorEq]
      by_cases hl : i < l.length
      · obtain ⟨r, hr⟩ : ∃ r, l[i]? = some r := ⟨_, List.getElem?_eq_getElem hl⟩
        have gx := rowsA_get hr
        have hcl : ((i : Int) < (l.length : Int)) := by omega
        have h0 : (0 : Int) ≤ (i : Int) := by omega
        refine drawA mixed ?_; simp only [hcl, h0, gx, push_cast, ↓EPM, ↓reduceIte, seval, reduceCtorEq]
        refine qcall (fcmp68_spec r k) rfl (by simp only [push_cast, ↓EPM, ↓reduceIte, seval, reduceCtorEq] <;> rfl) ?_; simp only [push_cast, ↓EPM, ↓reduceIte, seval, reduceCtorEq]
        have e : isAt l i k = decide (cmpK r.k k = 0) := by simp only [isAt, hr]
        rw [e]
        exact RetP [i64 i, boo (decide (cmpK r.k k = 0))]
      · have hcl : ¬ ((i : Int) < (l.length : Int)) := by omega
        have e : isAt l i k = false := by simp only [isAt, List.getElem?_eq_none (Nat.le_of_not_lt hl)]
        rw [e]
        refine drawA mixed ?_; simp only [hcl, push_cast, ↓EPM, ↓reduceIte, seval, reduceCtorEq]
        exact RetP [i64 i, boo false]

/-- A key's place among rows. -/
def place (l : List Row) (k : Key) : Nat := (l.takeWhile fun r => decide (cmpK r.k k < 0)).length
theorem place_le (l : List Row) (k : Key) : place l k ≤ l.length := (List.takeWhile_prefix (l := l) fun r => decide (cmpK r.k k < 0)).length_le
theorem place_spec : ∀ {l : List Row}, Srt l → ∀ (k : Key) (i : Nat) (r : Row), l[i]? = some r → (cmpK r.k k < 0 ↔ i < place l k)
  | [], _, k, i, r, h => by simp at h
  | a :: l, hs, k, i, r, h => by
    obtain ⟨h1, h2⟩ := List.pairwise_cons.1 hs
    by_cases ha : cmpK a.k k < 0
    · have e : place (a :: l) k = place l k + 1 := by simp [place, List.takeWhile_cons, ha]
      rw [e]
      cases i with
      | zero => simp only [List.getElem?_cons_zero, Option.some.injEq] at h; subst h; simp [ha]
      | succ i =>
        have := place_spec h2 k i r (by simpa using h)
        omega
    · have e : place (a :: l) k = 0 := by simp [place, List.takeWhile_cons, ha]
      rw [e]
      cases i with
      | zero => simp only [List.getElem?_cons_zero, Option.some.injEq] at h; subst h; omega
      | succ i =>
        have hr : r ∈ l := List.mem_of_getElem? (by simpa using h)
        have := h1 r hr
        have : ¬ cmpK r.k k < 0 := fun hh => ha (good_key.trans _ _ _ this hh)
        omega

/-- A key's cell among rows. -/
def cellL : List Row → Key → Option Cell
  | [], _ => none
  | r :: l, k => if r.k = k then some r.c else cellL l k
def resF : Option Cell → AV
  | some c => .tup [.agg c.av, boo true]
  | none => .tup [.agg zeroC.av, boo false]
theorem cellL_none : ∀ {l : List Row} {k : Key}, (∀ r ∈ l, r.k ≠ k) → cellL l k = none
  | [], _, _ => rfl
  | a :: l, k, h => by rw [cellL, if_neg (h a (by simp)), cellL_none fun r hr => h r (by simp [hr])]
theorem cellL_at : ∀ {l : List Row}, Srt l → ∀ {k : Key} {i : Nat} {r : Row}, l[i]? = some r → r.k = k → cellL l k = some r.c
  | [], _, k, i, r, h, _ => by simp at h
  | a :: l, hs, k, i, r, h, hk => by
    obtain ⟨h1, h2⟩ := List.pairwise_cons.1 hs
    cases i with
    | zero => simp only [List.getElem?_cons_zero, Option.some.injEq] at h; subst h; rw [cellL, if_pos hk]
    | succ i =>
      have hr : l[i]? = some r := by simpa using h
      have := h1 r (List.mem_of_getElem? hr)
      rw [cellL, if_neg (fun e => by rw [e, ← hk] at this; exact cmp_irr _ this), cellL_at h2 hr hk]
theorem cellL_isAt {l : List Row} (hs : Srt l) (k : Key) : cellL l k = if isAt l (place l k) k then (l[place l k]?).map (·.c) else none := by
  cases h : l[place l k]? with
  | some r =>
    by_cases hk : cmpK r.k k = 0
    · have e := (good_key.zero _ _).1 hk
      rw [cellL_at hs h e]
      simp [isAt, h, hk]
    · simp only [isAt, h, hk, decide_false, Bool.false_eq_true, if_false]
      refine cellL_none fun x hx e => ?_
      obtain ⟨i, hi, hxi⟩ := List.getElem_of_mem hx
      have hget : l[i]? = some x := by rw [List.getElem?_eq_getElem hi, hxi]
      have h0 : cmpK x.k k = 0 := (good_key.zero _ _).2 e
      have a1 := place_spec hs k i x hget
      have a2 := place_spec hs k _ r h
      have : place l k < i := by
        rcases Nat.lt_trichotomy i (place l k) with hh | hh | hh
        · omega
        · subst hh; rw [h] at hget; cases hget; exact absurd h0 hk
        · exact hh
      have hlt : cmpK r.k x.k < 0 := by
        have hp := hs
        obtain ⟨hi1, he1⟩ := List.getElem?_eq_some_iff.1 h
        have := List.pairwise_iff_getElem.1 hp _ _ hi1 hi this
        rw [he1, hxi] at this
        exact this
      have := (good_key.zero _ _).1 h0
      rw [this] at hlt
      omega
  | none =>
    simp only [isAt, h, Bool.false_eq_true, if_false]
    refine cellL_none fun x hx e => ?_
    obtain ⟨i, hi, hxi⟩ := List.getElem_of_mem hx
    have hget : l[i]? = some x := by rw [List.getElem?_eq_getElem hi, hxi]
    have h0 : cmpK x.k k = 0 := (good_key.zero _ _).2 e
    have a1 := place_spec hs k i x hget
    have := List.getElem?_eq_none_iff.1 h
    omega

theorem find_spec (o : Option (List Row)) (k : Key) (hlen : (o.getD []).length ≤ 1000000) (hs : Srt (o.getD [])) : APure Try.prog 33 [segA o, .agg k.av] (resF (cellL (o.getD []) k)) := by
  intro s
  have hR := rows_spec o
  generalize o.getD [] = l at hlen hs hR ⊢
  have hB := bs_spec l k (place l k) hlen (place_le l k) (fun i r hr => place_spec hs k i r hr)
  rw [cellL_isAt hs]
  refine enterA ⟨[3]⟩ (Try.f33.body.getD .skip) [.cell 4 44, .tmp 5] Try.func33 fun hwf hbel => ?_; simp only [Try.f33, push_cast, ↓EPM, ↓reduceIte, seval, reduceCtorEq]
  refine hR.use ?_
  simp only [push_cast, ↓EPM, ↓reduceIte, seval, reduceCtorEq]
  refine hB.use ?_
  cases hA : isAt l (place l k) k with
  | false =>
    simp only [push_cast, ↓EPM, ↓reduceIte, seval, reduceCtorEq]
    exact RetP [.agg zeroC.av, boo false]
  | true =>
    obtain ⟨r, hr⟩ : ∃ r, l[place l k]? = some r := by
      cases h : l[place l k]? with
      | some r => exact ⟨r, rfl⟩
      | none => simp [isAt, h] at hA
    have gx := rowsA_get hr
    have hlt := (List.getElem?_eq_some_iff.1 hr).1
    have hcl : ((place l k : Int) < (l.length : Int)) := by omega
    have h0 : (0 : Int) ≤ (place l k : Int) := by omega
    rw [hr]
    simp only [hcl, h0, gx, push_cast, ↓EPM, ↓reduceIte, seval, reduceCtorEq]
    exact RetP [.agg r.c.av, boo true]

theorem part_spec (o : Option (List Row)) (fr to : Int64) (hlen : (o.getD []).length ≤ 1000000) (hs : Hrs (o.getD [])) : APure Try.prog 35 [segA o, i6 fr, i6 to] (segA (some (rangeL (o.getD []) fr to))) := by
  intro s
  have hl : (rangeL (o.getD []) fr to).length ≤ 1000000 := Nat.le_trans (List.length_filter_le _ _) hlen
  refine enterA ⟨[13]⟩ (Try.f35.body.getD .skip) [.tmp 6] Try.func35 fun hwf hbel => ?_; simp only [Try.f35, push_cast, ↓EPM, ↓reduceIte, seval, reduceCtorEq]
  refine (between_spec o fr to hlen hs).use ?_
  simp only [push_cast, ↓EPM, ↓reduceIte, seval, reduceCtorEq]
  refine (clone_spec _ hl).use ?_
  simp only [push_cast, ↓EPM, ↓reduceIte, seval, reduceCtorEq]
  exact RetP [segA (some (rangeL (o.getD []) fr to))]

end Go.Proofs

namespace Go.Proofs
open Go Go.Av Go.Sort
set_option linter.unusedSimpArgs false
set_option linter.unusedVariables false
set_option maxRecDepth 30000
set_option maxHeartbeats 2000000

theorem nx6 : (∀ n : Nat, (n = n + 1 + 1 + 1 + 1) = False) ∧ (∀ n : Nat, (n + 1 + 1 + 1 + 1 = n) = False) ∧ (∀ n : Nat, (n = n + 1 + 1 + 1 + 1 + 1) = False) ∧ (∀ n : Nat, (n + 1 + 1 + 1 + 1 + 1 = n) = False) ∧ (∀ n : Nat, (n = n + 1 + 1 + 1 + 1 + 1 + 1) = False) ∧ (∀ n : Nat, (n + 1 + 1 + 1 + 1 + 1 + 1 = n) = False) ∧ (∀ n : Nat, (n = n + 1 + 1 + 1 + 1 + 1 + 1 + 1) = False) ∧ (∀ n : Nat, (n + 1 + 1 + 1 + 1 + 1 + 1 + 1 = n) = False) ∧ (∀ n : Nat, (n = n + 1 + 1 + 1 + 1 + 1 + 1 + 1 + 1) = False) ∧ (∀ n : Nat, (n + 1 + 1 + 1 + 1 + 1 + 1 + 1 + 1 = n) = False) := by
  refine ⟨?_, ?_, ?_, ?_, ?_, ?_, ?_, ?_, ?_, ?_⟩ <;> (intro n; apply eq_false; omega)
attribute [push_cast] binV_bool nx6

theorem u4 : Try.prog.underlying 4 = some .bool := by simp only [unders]

theorem at_nil (n : Int64) : APure Try.prog 37 [segA none, i6 n] (.tup [.agg zeroR.av, boo false]) := by
  intro s
  have hR := rows_spec none
  by_cases h : n.toInt < 0
  · refine enterA ⟨[]⟩ (Try.f37.body.getD .skip) [.cell 4 66, .tmp 5] Try.func37 fun hwf hbel => ?_; simp only [Try.f37, push_cast, ↓EPM, ↓reduceIte, seval, reduceCtorEq]
    refine hR.use ?_
    simp only [h, push_cast, ↓EPM, ↓reduceIte, seval, reduceCtorEq]
    exact RetP [.agg zeroR.av, boo false]
  · have h2 : (0 : Int) ≤ n.toInt := by omega
    refine enterA ⟨[]⟩ (Try.f37.body.getD .skip) [.cell 4 66, .tmp 5] Try.func37 fun hwf hbel => ?_; simp only [Try.f37, push_cast, ↓EPM, ↓reduceIte, seval, reduceCtorEq]
    refine hR.use ?_
    simp only [h, h2, Option.getD_none, push_cast, ↓EPM, ↓reduceIte, seval, reduceCtorEq]
    exact RetP [.agg zeroR.av, boo false]

theorem segNils_spec (k : Key) (fr to n : Int64) : APure Try.prog 9 [.agg k.av, i6 fr, i6 to, i6 n] (boo true) := by
  intro s
  have hR := range_spec none fr to (Nat.zero_le _) List.Pairwise.nil
  have hA := at_nil n
  have hF := find_spec none k (Nat.zero_le _) List.Pairwise.nil
  have hT := total_spec none (Nat.zero_le _)
  have hM := merges_spec [none] (by simp) (by simp [weigh])
  have hL := len_spec none
  have hP := part_spec none fr to (Nat.zero_le _) List.Pairwise.nil
  have hL2 := len_spec (some [])
  have hS := sames_spec none none (Nat.zero_le _)
  have hS1 := sames_spec none (some []) (Nat.zero_le _)
  have hS2 := sames_spec (some []) none (Nat.zero_le _)
  have hZ : AEq Try.prog 44 (.agg zeroC.av) (.agg (Cell.av ⟨0, 0, 0, 0⟩)) true := by
    have h := aeq_cell zeroC ⟨0, 0, 0, 0⟩
    rwa [show decide (zeroC = ⟨0, 0, 0, 0⟩) = true from rfl] at h
  simp only [Option.getD_none, Option.getD_some, decide_true] at hS hS1 hS2 hT hF hL hP hL2
  refine ACalls_bodyM (C := ⟨[4]⟩) (c := Try.f9.body.getD .skip) (rs := [.cell 8 4]) Try.func9 (by kernel_rfl) (by kernel_rfl) (by kernel_rfl) (Nat.le_of_ble_eq_true rfl) (by kernel_rfl) fun hwf hbel => ?_
  simp only [Try.f9, push_cast, ↓EPM, ↓reduceIte, seval, reduceCtorEq]
  refine alive_spec.use ?_
  simp only [push_cast, ↓EPM, ↓reduceIte, seval, reduceCtorEq]
  refine hR.use ?_
  simp only [push_cast, ↓EPM, ↓reduceIte, seval, reduceCtorEq]
  show ACode _ _ _ _ _
  refine rangeFunc_law (gf := 105) (first := []) (cap := [.ep [.sl 9 (rowsA []) .none] 0]) rfl fun nt hb => ?_
  clear hb
  refine ACalls_mono ?post (values_law (σ := Unit) (fun _ => _) (fun m _ => (m, true)) (fun _ _ => True) (s.next + 3) ⟨s.next, []⟩ (s.next + 2) [] () (fun _ => rfl) (fun _ => rfl) (fun h _ => h) (by omega) (Nat.zero_le _) trivial (fun _ _ _ _ _ _ => trivial) (fun i m x s' hx => by simp at hx))
  case post =>
    rintro d s3 ⟨rfl, rfl⟩
    refine ⟨.ready, none, by decide, by (simp only [upd, AState.set, AState.new]; (repeat (first | rw [if_neg (by omega)] | rw [if_pos (by omega)] | (simp only [↓reduceIte]; done) | simp only [↓reduceIte])); try rfl), ?_⟩
    simp only [jumpQ, AState.mark, AState.del, nx0, nx1, push_cast, ↓EPM, ↓reduceIte, seval, reduceCtorEq]
    refine hA.use ?_
    simp only [nx0, nx1, push_cast, ↓EPM, ↓reduceIte, seval, reduceCtorEq]
    refine hF.use ?_
    simp only [nx0, nx1, resF, cellL, push_cast, ↓EPM, ↓reduceIte, seval, reduceCtorEq]
    refine hT.use ?_
    simp only [nx0, nx1, resC, totC, push_cast, ↓EPM, ↓reduceIte, seval, reduceCtorEq]
    refine hM.use ?_
    simp only [nx0, nx1, resO, mergeAll, resS, push_cast, ↓EPM, ↓reduceIte, seval, reduceCtorEq]
    refine eqK_use hZ ?_
    simp only [nx0, nx1, push_cast, ↓EPM, ↓reduceIte, seval, reduceCtorEq]
    refine hL.use ?_
    simp only [nx0, nx1, push_cast, ↓EPM, ↓reduceIte, seval, reduceCtorEq]
    refine hP.use ?_
    simp only [nx0, nx1, push_cast, ↓EPM, ↓reduceIte, seval, reduceCtorEq]
    refine hL2.use ?_
    simp only [nx0, nx1, push_cast, ↓EPM, ↓reduceIte, seval, reduceCtorEq]
    refine hS.use ?_
    simp only [nx0, nx1, push_cast, ↓EPM, ↓reduceIte, seval, reduceCtorEq]
    refine hS1.use ?_
    simp only [nx0, nx1, push_cast, ↓EPM, ↓reduceIte, seval, reduceCtorEq]
    refine hS2.use ?_
    simp only [nx0, nx1, push_cast, ↓EPM, ↓reduceIte, seval, reduceCtorEq]
    refine hS2.use ?_
    simp only [nx0, nx1, push_cast, ↓EPM, ↓reduceIte, seval, reduceCtorEq]
    refine eqK_use (AEq_bool u4) ?_
    simp only [nx0, nx1, push_cast, ↓EPM, ↓reduceIte, seval, reduceCtorEq]
    refine RetM_more (l := [boo true]) (m := [boo true]) (S := s) (.inr rfl) (leaveS_one (D := s.next + 1) rfl (by (simp only [upd, AState.set, AState.new]; (repeat (first | rw [if_neg (by omega)] | rw [if_pos (by omega)] | (simp only [↓reduceIte]; done) | simp only [↓reduceIte])); try rfl))) (by simp only [AState.del, nx0, nx1, push_cast, ↓EPM, ↓reduceIte, seval, reduceCtorEq] <;> rfl) ⟨.inl rfl, trivial⟩ (Nat.le_refl _) rfl (by simp only [AState.del, AState.set, AState.new]; omega) (keep_of rfl hwf fun i hi => ?_) (.v _) ⟨rfl, rfl⟩
    simp only [AState.del, AState.set, AState.new]
    have hi1 : i < s.next := hi
    have q1 : ¬ i = s.next := by omega
    have q2 : ∀ j, ¬ i = s.next + j + 1 := fun j => by omega
    have q3 : ¬ i = s.next + 1 := by omega
    simp only [q1, q2, q3, if_false]

end Go.Proofs

namespace Go.Proofs
open Go Go.Av Go.Sort
set_option linter.unusedSimpArgs false
set_option linter.unusedVariables false
set_option maxRecDepth 30000
set_option maxHeartbeats 2000000

theorem rrange_spec (l : List Row) (fr to : Int64) (hlen : l.length ≤ 1000000) : APure Try.prog 32 [.sl 9 (rowsA l) .none, i6 fr, i6 to] (.sl 9 (rowsA (rangeL l fr to)) .none) := by
  intro s
  have hrl : ∀ i, i ≤ l.length → (rangeL (l.take i) fr to).length ≤ i := fun i hi => Nat.le_trans (List.length_filter_le _ _) (by rw [List.length_take]; omega)
  refine enterA ⟨[]⟩ (Try.f32.body.getD .skip) [.tmp 6] Try.func32 fun hwf hbel => ?_; simp only [Try.f32, push_cast, ↓EPM, ↓reduceIte, seval, reduceCtorEq]
  refine ALoop_inv (ι := Nat) (fun i => i ≤ l.length) (fun i => envL [(0, .sl 9 (rowsA l) .none), (1, i6 fr), (2, i6 to), (7, .sl 9 (rowsA (rangeL (l.take i) fr to)) (.row s.next (rangeL (l.take i) fr to).length)), (8, i64 i)]) (fun i => AState.new { s with base := ⟨s.next, []⟩ } (.row (rangeL (l.take i) fr to).length)) (fun i => l.length - i) 0 (Nat.zero_le _) (AEnt.trans (AEnt_reserve _ _) (ent rfl ?_)) (fun i hi => ?_)
  · simp only [Wv_row, List.take_zero, rangeL, List.filter_nil, push_cast, ↓EPM, ↓reduceIte, seval, reduceCtorEq]
  · have hr := hrl i hi
    by_cases hlt : i < l.length
    · obtain ⟨x, hx⟩ : ∃ x, l[i]? = some x := ⟨_, List.getElem?_eq_getElem hlt⟩
      have gx := rowsA_get hx
      have hc : ((i : Int) < (l.length : Int)) := by omega
      have h0 : (0 : Int) ≤ (i : Int) := by omega
      have hw : IntKind.i64.wrap ((i : Int) + 1) = (i : Int) + 1 := wrap_in (by omega) (by omega)
      by_cases a1 : fr.toInt ≤ x.k.h.toInt
      · by_cases a2 : x.k.h.toInt < to.toInt
        · have e : rangeL (l.take (i + 1)) fr to = rangeL (l.take i) fr to ++ [x] := by rw [take_get hx]; simp [rangeL, List.filter_append, a1, a2]
          simp only [hc, h0, gx, a1, a2, hw, push_cast, ↓EPM, ↓reduceIte, seval, reduceCtorEq]
          refine ⟨by omega, ?_⟩
          refine round_next (i + 1) (by omega) (by omega) (AEnt_drop rfl rfl (Nat.le_succ _) ?_ ((hwf.base _).new trivial) (EntB_all ?_))
          · simp only [e, List.length_append, List.length_cons, List.length_nil]
            exact ⟨by simp only [EO]; omega, fun id hid => by simp only [EO] at hid ⊢; (repeat' split) <;> first | rfl | omega | (subst_vars; simp_all)⟩
          · have htt : rowsA (rangeL (l.take (i + 1)) fr to) = rowsA (rangeL (l.take i) fr to) ++ [x.av] := by rw [e, ← rowsA_app]; rfl
            have hll : (rangeL (l.take (i + 1)) fr to).length = (rangeL (l.take i) fr to).length + 1 := by rw [e]; simp
            simp only [htt, hll, push_cast, ↓EPM, ↓reduceIte, seval, reduceCtorEq]
            (try first | omega | ((repeat' apply And.intro) <;> first | omega | (simp only [push_cast, ↓EPM, ↓reduceIte, seval, reduceCtorEq, List.mem_cons, List.not_mem_nil, or_false, forall_eq_or_imp, forall_eq, and_self, true_and, and_true, zeroR]; done) | (simp only [push_cast, ↓EPM, ↓reduceIte, seval, reduceCtorEq, List.mem_cons, List.not_mem_nil, or_false, forall_eq_or_imp, forall_eq, and_self, true_and, and_true, zeroR]; omega)))
        · have e : rangeL (l.take (i + 1)) fr to = rangeL (l.take i) fr to := by rw [take_get hx]; simp [rangeL, List.filter_append, a1, a2]
          simp only [hc, h0, gx, a1, a2, hw, push_cast, ↓EPM, ↓reduceIte, seval, reduceCtorEq]
          refine round_next (i + 1) (by omega) (by omega) ?_
          simp only [e]
          refine ent rfl ?_
          simp only [push_cast, ↓EPM, ↓reduceIte, seval, reduceCtorEq]
      · have e : rangeL (l.take (i + 1)) fr to = rangeL (l.take i) fr to := by rw [take_get hx]; simp [rangeL, List.filter_append, a1]
        simp only [hc, h0, gx, a1, hw, push_cast, ↓EPM, ↓reduceIte, seval, reduceCtorEq]
        refine round_next (i + 1) (by omega) (by omega) ?_
        simp only [e]
        refine ent rfl ?_
        simp only [push_cast, ↓EPM, ↓reduceIte, seval, reduceCtorEq]
    · have hc : ¬ ((i : Int) < (l.length : Int)) := by omega
      simp only [hc, push_cast, ↓EPM, ↓reduceIte, seval, reduceCtorEq]
      rw [show l.take i = l from List.take_of_length_le (by omega)]
      exact RetW [.sl 9 (rowsA (rangeL l fr to)) (.row s.next (rangeL l fr to).length)] [.sl 9 (rowsA (rangeL l fr to)) .none]

end Go.Proofs

namespace Go.Proofs
open Go Go.Av Go.Sort
set_option linter.unusedSimpArgs false
set_option linter.unusedVariables false
set_option maxRecDepth 30000
set_option maxHeartbeats 4000000

def k8 (s : AState) (want : List Row) (c d : Cell) : AState :=
  AState.new (AState.new (AState.new (AState.new { s with base := ⟨s.next, []⟩ } (.cells [boo false])) (.cells [.sl 9 (rowsA want) .none])) (.cells c.av)) (.cells d.av)

theorem resF_eq (o : Option Cell) : resF o = .tup [.agg (o.getD zeroC).av, boo o.isSome] := by cases o <;> rfl
theorem resC_eq (o : Option Cell) : resC o = .tup [.agg (o.getD zeroC).av, boo o.isSome] := by cases o <;> rfl
theorem cellL_app : ∀ (a : List Row) (x : Row) (k : Key), cellL (a ++ [x]) k = match cellL a k with | some c => some c | none => if x.k = k then some x.c else none
  | [], x, k => rfl
  | r :: a, x, k => by
    rw [List.cons_append, cellL, cellL]
    split
    · rfl
    · exact cellL_app a x k
theorem cellL_hit {l : List Row} (hs : Srt l) {k : Key} {i : Nat} {x : Row} (hx : l[i]? = some x) (hk : x.k = k) : cellL (l.take (i + 1)) k = some x.c := by
  rw [take_get hx, cellL_app, cellL_none, if_pos hk]
  intro r hr e
  obtain ⟨j, hj, hrj⟩ := List.getElem_of_mem hr
  rw [List.length_take] at hj
  rw [List.getElem_take] at hrj
  obtain ⟨hi, hxi⟩ := List.getElem?_eq_some_iff.1 hx
  have := List.pairwise_iff_getElem.1 hs j i (by omega) hi (by omega)
  rw [hrj, hxi, e, hk] at this
  exact cmp_irr _ this
theorem cellL_miss {l : List Row} {k : Key} {i : Nat} {x : Row} (hx : l[i]? = some x) (hk : ¬ x.k = k) : cellL (l.take (i + 1)) k = cellL (l.take i) k := by
  rw [take_get hx, cellL_app, if_neg hk]
  cases cellL (l.take i) k <;> rfl
theorem rangeL_self (l : List Row) (h : Int64) : rangeL l h h = [] := by
  refine List.filter_eq_nil_iff.2 fun r _ => ?_
  simp only [Bool.and_eq_true, decide_eq_true_eq]
  omega
theorem k8_next (s : AState) (w : List Row) (c d : Cell) : (k8 s w c d).next = s.next + 4 := rfl
theorem cells_bel (n : Nat) (l : List Row) : OBel n (.cells [.sl 9 (rowsA l) .none]) := by
  intro x hx
  simp only [List.mem_cons, List.not_mem_nil, or_false] at hx
  subst hx
  exact Bel_sl.2 ⟨of_eq_true (rowsA_bel _ _), trivial⟩
theorem k8_wf {s : AState} (h : s.Wf) (w : List Row) (c d : Cell) : (k8 s w c d).Wf :=
  (((((h.base _).new (o := .cells [boo false]) (by intro x hx; simp only [List.mem_cons, List.not_mem_nil, or_false] at hx; subst hx; exact .v _))).new (cells_bel _ _)).new (cell_bel _ _)).new (cell_bel _ _)

def m8 (s : AState) (want : List Row) (c t : Cell) (n : Nat) : AState := AState.new (AState.new (AState.new (k8 s want c c) (.cells t.av)) (.cells t.av)) (.cells [i64 n])
theorem m8_wf {s : AState} (h : s.Wf) (w : List Row) (c t : Cell) (n : Nat) : (m8 s w c t n).Wf :=
  (((k8_wf h w c c).new (cell_bel _ _)).new (cell_bel _ _)).new (o := .cells [i64 n]) (by intro x hx; simp only [List.mem_cons, List.not_mem_nil, or_false] at hx; subst hx; exact .v _)
theorem m8_next (s : AState) (w : List Row) (c d : Cell) (n : Nat) : (m8 s w c d n).next = s.next + 7 := rfl
def e8 (s : AState) (want : List Row) (st : Int64) : Env := envL [(9, .ep [i6 st] 0), (10, .ptr s.next 0), (12, .ptr (s.next + 1) 0), (23, .ptr (s.next + 6) 0), (119, .fn 105 [] [.ep [.sl 9 (rowsA want) .none] 0])]
noncomputable def asg8 : Code := ((Try.f8.body.bind rfOf).map (·.1)).getD .skip
noncomputable def body8 : Code := ((Try.f8.body.bind rfOf).map (·.2)).getD .skip
def q8 (s : AState) (want : List Row) (c t : Cell) (st : Int64) (nt : Nat) (A B : Code) (m : Nat × Bool) : AState :=
  AState.new (AState.new (m8 s want c t m.1) .defd) (.loop (e8 s want st) [120] nt A B (if m.2 then .done else .ready) (if m.2 then some (.exit 2) else none) (s.next + 7))
def step8 (st : Int64) (m : Nat × Bool) (_ : Row) : (Nat × Bool) × Bool := if ((m.1 : Int) + 1 = st.toInt) then ((m.1 + 1, true), false) else ((m.1 + 1, false), true)
theorem run8 (st : Int64) : ∀ (l : List Row) (i : Nat), runI (step8 st) (i, false) l = if (i : Int) < st.toInt ∧ st.toInt ≤ ((i + l.length : Nat) : Int) then (st.toInt.toNat, true) else (i + l.length, false)
  | [], i => by
    have g : ¬ ((i : Int) < st.toInt ∧ st.toInt ≤ ((i + 0 : Nat) : Int)) := by omega
    rw [runI, List.length_nil, if_neg g]
    rfl
  | x :: l, i => by
    rw [runI, List.length_cons]
    by_cases h : (i : Int) + 1 = st.toInt
    · have e1 : step8 st (i, false) x = ((i + 1, true), false) := if_pos h
      have g : (i : Int) < st.toInt ∧ st.toInt ≤ ((i + (l.length + 1) : Nat) : Int) := by omega
      rw [e1, if_pos g, show i + 1 = st.toInt.toNat by omega]
      rfl
    · have e1 : step8 st (i, false) x = ((i + 1, false), true) := if_neg h
      rw [e1]
      show runI (step8 st) (i + 1, false) l = _
      rw [run8 st l (i + 1)]
      by_cases g : (i : Int) < st.toInt ∧ st.toInt ≤ ((i + (l.length + 1) : Nat) : Int)
      · have g' : ((i + 1 : Nat) : Int) < st.toInt ∧ st.toInt ≤ ((i + 1 + l.length : Nat) : Int) := by omega
        rw [if_pos g, if_pos g']
      · have g' : ¬ (((i + 1 : Nat) : Int) < st.toInt ∧ st.toInt ≤ ((i + 1 + l.length : Nat) : Int)) := by omega
        rw [if_neg g, if_neg g', show i + 1 + l.length = i + (l.length + 1) by omega]
theorem e8_bel {n : Nat} (s : AState) (want : List Row) (st : Int64) (h : s.next + 6 < n) : ∀ t, Bel n (e8 s want st t) := envL_bel fun p hp => by
  simp only [List.mem_cons, List.not_mem_nil, or_false] at hp
  rcases hp with rfl | rfl | rfl | rfl | rfl <;> simp only [push_cast, List.mem_cons, List.not_mem_nil, or_false, forall_eq, false_implies, and_true, true_and, implies_true] <;> omega
theorem q8_wf {s : AState} (h : s.Wf) (want : List Row) (c t : Cell) (st : Int64) (nt : Nat) (A B : Code) (m : Nat × Bool) : (q8 s want c t st nt A B m).Wf :=
  ((m8_wf h want c t m.1).new (o := .defd) trivial).new ⟨by show s.next + 7 < s.next + 9; omega, e8_bel s want st (by show s.next + 6 < s.next + 9; omega)⟩

theorem segLooks_spec (l : List Row) (fr to : Int64) (k : Key) (st : Int64) : APure Try.prog 8 [.sl 9 (rowsA l) .none, i6 fr, i6 to, .agg k.av, i6 st] (boo true) := by
  intro s
  have hLg := light_spec l
  by_cases h2 : l.length ≤ 100
  · simp only [h2, decide_true] at hLg
    have hz := rright_list l (by omega)
    by_cases h3 : rightL none l = true
    · rw [h3] at hz
      have hsrt := (right_srt l none h3).1
      have hMd := made_spec l (by omega)
      simp only [h3, if_true] at hMd
      have hR := rrange_spec l fr to (by omega)
      have hF := find_spec (some l) k (by simp only [Option.getD_some]; omega) hsrt
      simp only [Option.getD_some] at hF
      refine ACalls_bodyM (C := ⟨[8, 9]⟩) (c := Try.f8.body.getD .skip) (rs := [.cell 10 4]) Try.func8 (by kernel_rfl) (by kernel_rfl) (by kernel_rfl) (Nat.le_of_ble_eq_true rfl) (by kernel_rfl) fun hwf hbel => ?_
      simp only [Try.f8, push_cast, ↓EPM, ↓reduceIte, seval, reduceCtorEq]
      refine alive_spec.use ?_
      simp only [push_cast, ↓EPM, ↓reduceIte, seval, reduceCtorEq]
      refine hLg.use ?_
      simp only [push_cast, ↓EPM, ↓reduceIte, seval, reduceCtorEq]
      refine hz.use ?_
      simp only [push_cast, ↓EPM, ↓reduceIte, seval, reduceCtorEq]
      refine hMd.use ?_
      simp only [push_cast, ↓EPM, ↓reduceIte, seval, reduceCtorEq]
      refine hR.use ?_
      simp only [push_cast, ↓EPM, ↓reduceIte, seval, reduceCtorEq]
      rw [resF_eq] at hF
      obtain ⟨want, hwant⟩ : ∃ w, w = rangeL l fr to := ⟨_, rfl⟩
      obtain ⟨c, hcc⟩ : ∃ c, c = (cellL l k).getD zeroC := ⟨_, rfl⟩
      obtain ⟨is, his⟩ : ∃ c, c = (cellL l k).isSome := ⟨_, rfl⟩
      rw [← hcc, ← his] at hF
      rw [← hwant]
      refine hF.use ?_
      simp only [push_cast, ↓EPM, ↓reduceIte, seval, reduceCtorEq]
      have hX := rrange_spec l k.h k.h (by omega)
      rw [rangeL_self] at hX
      refine hX.use ?_
      simp only [push_cast, ↓EPM, ↓reduceIte, seval, reduceCtorEq]
      refine ALoop_inv (ι := Nat) (fun i => i ≤ l.length) (fun i => envL [(0, .sl 9 (rowsA l) .none), (1, i6 fr), (2, i6 to), (8, .ep k.av 0), (9, .ep [i6 st] 0), (10, .ptr s.next 0), (11, segA (some l)), (12, .ptr (s.next + 1) 0), (13, .ptr (s.next + 2) 0), (14, boo is), (15, .sl 9 [] .none), (16, .ptr (s.next + 3) 0), (17, boo (cellL (l.take i) k).isSome), (18, i64 i)])
        (fun i => k8 s want c ((cellL (l.take i) k).getD zeroC)) (fun i => l.length - i) 0 (Nat.zero_le _) (AEnt_drop rfl rfl (by show s.next ≤ s.next + 4; omega) ⟨by show s.next + 4 ≤ s.next + 4; omega, fun id hid => ?_⟩ (k8_wf hwf _ _ _) (EntB_all ?_)) (fun i hi => ?_)
      · replace hid : id < s.next + 4 := hid
        simp only [k8, AState.set, AState.new]
        (repeat' split) <;> first | rfl | omega
      · simp only [k8_next, push_cast, ↓EPM, ↓reduceIte, seval, reduceCtorEq]
        exact ⟨by omega, by omega, by omega, by omega, .inl rfl⟩
      · by_cases hlt : i < l.length
        · obtain ⟨x, hx⟩ : ∃ x, l[i]? = some x := ⟨_, List.getElem?_eq_getElem hlt⟩
          have gx := rowsA_get hx
          have hc : ((i : Int) < (l.length : Int)) := by omega
          have h0 : (0 : Int) ≤ (i : Int) := by omega
          have hw : IntKind.i64.wrap ((i : Int) + 1) = (i : Int) + 1 := wrap_in (by omega) (by omega)
          simp only [hc, push_cast, ↓EPM, ↓reduceIte, seval, reduceCtorEq]
          refine drawA mixed ?_; simp only [h0, hc, gx, push_cast, ↓EPM, ↓reduceIte, seval, reduceCtorEq]
          refine eqK_use (aeq_key x.k k) ?_
          by_cases hq : x.k = k
          · have e := cellL_hit hsrt hx hq
            simp only [hq, decide_true]
            simp only [h0, hc, gx, hw, k8, nx0, nx1, push_cast, ↓EPM, ↓reduceIte, seval, reduceCtorEq]
            refine round_next (i + 1) (by omega) (by omega) ?_
            simp only [e, Option.getD_some, Option.isSome_some]
            refine AEnt_drop rfl rfl (by show s.next ≤ s.next + 4; omega) ⟨by show s.next + 4 ≤ s.next + 4; omega, fun id hid => ?_⟩ (k8_wf hwf _ _ _) (EntB_all ?_)
            · replace hid : id < s.next + 4 := hid
              simp only [k8, AState.set, AState.new]
              (repeat' split) <;> first | rfl | omega
            · simp only [k8_next, push_cast, ↓EPM, ↓reduceIte, seval, reduceCtorEq]
              omega
          · have e := cellL_miss hx hq
            simp only [hq, decide_false]
            simp only [hw, push_cast, ↓EPM, ↓reduceIte, seval, reduceCtorEq]
            refine round_next (i + 1) (by omega) (by omega) ?_
            simp only [e]
            refine ent rfl ?_
            simp only [push_cast, ↓EPM, ↓reduceIte, seval, reduceCtorEq]
        · have hc : ¬ ((i : Int) < (l.length : Int)) := by omega
          rw [show l.take i = l from List.take_of_length_le (by omega), ← hcc, ← his]
          simp only [hc, push_cast, ↓EPM, ↓reduceIte, seval, reduceCtorEq]
          have hT := total_spec (some l) (by simp only [Option.getD_some]; omega)
          have hU := rtotal_spec l (by omega)
          simp only [Option.getD_some, resC_eq] at hT hU
          generalize (totC zeroC l).getD zeroC = t at hT hU
          generalize (totC zeroC l).isSome = ok at hT hU
          have hP := part_spec (some l) fr to (by simp only [Option.getD_some]; omega) (srt_hrs hsrt)
          have hB := back_spec (some want) (by simp only [Option.getD_some]; exact Nat.le_trans (by rw [hwant]; exact List.length_filter_le _ _) (Nat.le_trans h2 (by decide)))
          have hS := same_spec want want (Nat.le_trans (by rw [hwant]; exact List.length_filter_le _ _) (Nat.le_trans h2 (by decide)))
          simp only [Option.getD_some, decide_true, ← hwant] at hP hB hS
          have hCC := aeq_cell c c
          have hTT := aeq_cell t t
          simp only [decide_true] at hCC hTT
          refine hT.use ?_
          simp only [push_cast, ↓EPM, ↓reduceIte, seval, reduceCtorEq]
          refine hU.use ?_
          simp only [k8, nx0, nx1, push_cast, ↓EPM, ↓reduceIte, seval, reduceCtorEq]
          refine drawA mixed ?_; simp only [nx0, nx1, push_cast, ↓EPM, ↓reduceIte, seval, reduceCtorEq]
          refine eqK_use hCC ?_
          simp only [nx0, nx1, push_cast, ↓EPM, ↓reduceIte, seval, reduceCtorEq]
          refine eqK_use (AEq_bool u4) ?_
          simp only [nx0, nx1, beq_self_eq_true, push_cast, ↓EPM, ↓reduceIte, seval, reduceCtorEq]
          refine eqK_use hTT ?_
          simp only [nx0, nx1, push_cast, ↓EPM, ↓reduceIte, seval, reduceCtorEq]
          refine eqK_use (AEq_bool u4) ?_
          simp only [nx0, nx1, beq_self_eq_true, push_cast, ↓EPM, ↓reduceIte, seval, reduceCtorEq]
          refine qcall (hP) rfl (by simp only [push_cast, ↓EPM, ↓reduceIte, seval, reduceCtorEq] <;> rfl) ?_; simp only [push_cast, ↓EPM, ↓reduceIte, seval, reduceCtorEq]
          refine qcall (hB) rfl (by simp only [push_cast, ↓EPM, ↓reduceIte, seval, reduceCtorEq] <;> rfl) ?_; simp only [push_cast, ↓EPM, ↓reduceIte, seval, reduceCtorEq]
          refine qcall (hS) rfl (by simp only [push_cast, ↓EPM, ↓reduceIte, seval, reduceCtorEq] <;> rfl) ?_; simp only [push_cast, ↓EPM, ↓reduceIte, seval, reduceCtorEq]
          have hRg := range_spec (some l) fr to (by simp only [Option.getD_some]; omega) (srt_hrs hsrt)
          simp only [Option.getD_some, ← hwant] at hRg
          refine hRg.use ?_
          simp only [push_cast, ↓EPM, ↓reduceIte, seval, reduceCtorEq]
          show ACode _ _ _ _ _
          refine ACode_ent (e' := e8 s want st) (s' := m8 s want c t 0) (AEnt_drop rfl rfl (by show s.next ≤ s.next + 7; omega) ⟨by show s.next + 7 ≤ s.next + 7; omega, fun id hid => ?_⟩ (m8_wf hwf _ _ _ _) (EntB_all ?_)) ?_
          · replace hid : id < s.next + 7 := hid
            simp only [m8, k8, AState.set, AState.new]
            (repeat' split) <;> first | rfl | omega
          · simp only [m8_next, push_cast, ↓EPM, ↓reduceIte, seval, reduceCtorEq]
            (try first | omega | ((repeat' apply And.intro) <;> first | omega | (simp only [push_cast, ↓EPM, ↓reduceIte, seval, reduceCtorEq, List.mem_cons, List.not_mem_nil, or_false, forall_eq_or_imp, forall_eq, and_self, true_and, and_true, zeroR]; done) | (simp only [push_cast, ↓EPM, ↓reduceIte, seval, reduceCtorEq, List.mem_cons, List.not_mem_nil, or_false, forall_eq_or_imp, forall_eq, and_self, true_and, and_true, zeroR]; omega)))
          refine rangeFunc_law (gf := 105) (asg := asg8) (body := body8) (first := []) (cap := [.ep [.sl 9 (rowsA want) .none] 0]) rfl fun n hb => ?_
          obtain ⟨hb1, hb2, hb3⟩ := rf_bel hb
          clear hb
          have n1 : noRF asg8 = true := by kernel_rfl
          have n2 : noRF body8 = true := by kernel_rfl
          generalize hA : asg8 = A at *
          generalize hB : body8 = B at *
          have e1 : ∀ C, aeval Try.prog C A = aeval Try.prog C asg8 := fun C => by rw [hA]
          have e2 : ∀ C, aeval Try.prog C B = aeval Try.prog C body8 := fun C => by rw [hB]
          clear hA hB
          have hwl : want.length ≤ 100 := by rw [hwant]; exact Nat.le_trans (List.length_filter_le _ _) h2
          refine ACalls_mono ?post (values_law (q8 s want c t st n A B) (step8 st) (fun i m => m = (i, false)) (s.next + 9) ⟨s.next, []⟩ (s.next + 8) want (0, false) (fun _ => rfl) (fun _ => rfl) (fun _ m => q8_wf hwf want c t st n A B m) (by omega) (by omega) rfl ?hJ ?hy)
          case hJ =>
            rintro i m x _ rfl hs
            simp only [step8] at hs ⊢
            split at hs
            · simp at hs
            · rename_i hne
              rw [if_neg hne]
          case hy =>
            rintro j m x s' hx rfl hobj hle
            have gx := rowsA_get hx
            have hjl := (List.getElem?_eq_some_iff.1 hx).1
            have hL : s'.obj (s.next + 8) = some (.loop (e8 s want st) [120] n A B .ready none (s.next + 7)) := by
              rw [hobj _ (by omega)]; simp only [q8, m8, k8]; (simp only [upd, AState.set, AState.new]; (repeat (first | rw [if_neg (by omega)] | rw [if_pos (by omega)] | (simp only [↓reduceIte]; done) | simp only [↓reduceIte])); try rfl)
            have hW : s'.obj (s.next + 1) = some (.cells [.sl 9 (rowsA want) .none]) := by
              rw [hobj _ (by omega)]; simp only [q8, m8, k8]; (simp only [upd, AState.set, AState.new]; (repeat (first | rw [if_neg (by omega)] | rw [if_pos (by omega)] | (simp only [↓reduceIte]; done) | simp only [↓reduceIte])); try rfl)
            have hN : s'.obj (s.next + 6) = some (.cells [i64 j]) := by
              rw [hobj _ (by omega)]; simp only [q8, m8, k8]; (simp only [upd, AState.set, AState.new]; (repeat (first | rw [if_neg (by omega)] | rw [if_pos (by omega)] | (simp only [↓reduceIte]; done) | simp only [↓reduceIte])); try rfl)
            suffices key : ∀ k : AV → AState → Prop, k (boo (step8 st (j, false) x).2) { s' with obj := fun i => if i < s.next + 9 then (q8 s want c t st n A B (step8 st (j, false) x).1).obj i else s'.obj i } → AYield Try.prog (s.next + 8) [.agg x.av] s' k from key _ ⟨rfl, rfl⟩
            intro k hk
            refine AYield_body (C := ⟨[]⟩) hL rfl hb1 hb2 hb3 n1 n2 fun hwf' hbel' => ?_
            have c1 : ¬ (s.next + 8 = s'.next) := by omega
            have c2 : ¬ (s'.next = s.next + 8) := by omega
            have c3 : ¬ (s.next + 1 = s'.next) := by omega
            have c4 : ¬ (s.next + 6 = s'.next) := by omega
            have c5 : ¬ (s'.next = s.next + 6) := by omega
            have hge : ¬ ((want.length : Int) ≤ (j : Int)) := by omega
            have hlt : ((j : Int) < (want.length : Int)) := by omega
            have h0 : (0 : Int) ≤ (j : Int) := by omega
            have hw : IntKind.i64.wrap ((j : Int) + 1) = (j : Int) + 1 := wrap_in (by omega) (by omega)
            have hxx := aeq_row x x
            simp only [decide_true] at hxx
            simp only [EZ, EZ0, e1, e2, asg8, body8, rfOf, Try.f8, Option.bind_some, Option.map_some, Option.getD_some, Option.orElse, c1, c2, hL, e8, push_cast, ↓EPM, ↓reduceIte, seval, reduceCtorEq]
            refine drawA mixed ?_; simp only [c1, c2, c3, c4, c5, hW, hN, hge, hlt, h0, gx, zeroR, push_cast, ↓EPM, ↓reduceIte, seval, reduceCtorEq]
            refine eqK_use hxx ?_
            simp only [c1, c2, c3, c4, c5, hW, hN, hw, push_cast, ↓EPM, ↓reduceIte, seval, reduceCtorEq]
            by_cases hst : (j : Int) + 1 = st.toInt
            · rw [show step8 st (j, false) x = ((j + 1, true), false) from if_pos hst] at hk
              simp only [hst, push_cast, ↓EPM, ↓reduceIte, seval, reduceCtorEq]
              refine ⟨by (simp only [upd, AState.set, AState.new]; (repeat (first | rw [if_neg (by omega)] | rw [if_pos (by omega)] | (simp only [↓reduceIte]; done) | simp only [↓reduceIte])); try rfl), { s' with obj := fun i => if i < s.next + 9 then (q8 s want c t st n A B (j + 1, true)).obj i else s'.obj i }, AFin_drop rfl rfl (Nat.le_succ _) (keep_of rfl (rest_wf hle rfl (q8_wf hwf want c t st n A B (j + 1, true)) hwf') fun i hi => ?_) (.v _), hk⟩
              have hob := hobj i
              have hw' : IntKind.i64.wrap st.toInt = st.toInt := by rw [← hst]; exact hw
              simp only [q8, m8, k8, e8, AState.set, AState.new, hw, hw', hst, i64, Int.natCast_add, Int.cast_ofNat_Int, if_true, if_false, Bool.false_eq_true] at hob ⊢
              by_cases hlt9 : i < s.next + 9
              · rw [if_pos hlt9, hob hlt9]
                have h9 : ¬ i = s'.next := by omega
                by_cases h8 : i = s.next + 8
                · subst h8; ((repeat (first | rw [if_neg (by omega)] | rw [if_pos (by omega)] | (simp only [↓reduceIte]; done) | simp only [↓reduceIte])); try rfl)
                · by_cases h6 : i = s.next + 6
                  · subst h6; ((repeat (first | rw [if_neg (by omega)] | rw [if_pos (by omega)] | (simp only [↓reduceIte]; done) | simp only [↓reduceIte])); try rfl)
                  · have h8' : ¬ i = s.next + 1 + 1 + 1 + 1 + 1 + 1 + 1 + 1 := by omega
                    have h6' : ¬ i = s.next + 1 + 1 + 1 + 1 + 1 + 1 := by omega
                    simp only [h9, h8, h6, h8', h6', if_false]
              · rw [if_neg hlt9]
                (repeat' split) <;> first | rfl | omega
            · rw [show step8 st (j, false) x = ((j + 1, false), true) from if_neg hst] at hk
              simp only [hst, push_cast, ↓EPM, ↓reduceIte, seval, reduceCtorEq]
              refine ⟨by (simp only [upd, AState.set, AState.new]; (repeat (first | rw [if_neg (by omega)] | rw [if_pos (by omega)] | (simp only [↓reduceIte]; done) | simp only [↓reduceIte])); try rfl), { s' with obj := fun i => if i < s.next + 9 then (q8 s want c t st n A B (j + 1, false)).obj i else s'.obj i }, AFin_drop rfl rfl (Nat.le_succ _) (keep_of rfl (rest_wf hle rfl (q8_wf hwf want c t st n A B (j + 1, false)) hwf') fun i hi => ?_) (.v _), hk⟩
              have hob := hobj i
              simp only [q8, m8, k8, e8, AState.set, AState.new, hw, i64, Int.natCast_add, Int.cast_ofNat_Int, if_true, if_false, Bool.false_eq_true] at hob ⊢
              by_cases hlt9 : i < s.next + 9
              · rw [if_pos hlt9, hob hlt9]
                have h9 : ¬ i = s'.next := by omega
                by_cases h8 : i = s.next + 8
                · subst h8; ((repeat (first | rw [if_neg (by omega)] | rw [if_pos (by omega)] | (simp only [↓reduceIte]; done) | simp only [↓reduceIte])); try rfl)
                · by_cases h6 : i = s.next + 6
                  · subst h6; ((repeat (first | rw [if_neg (by omega)] | rw [if_pos (by omega)] | (simp only [↓reduceIte]; done) | simp only [↓reduceIte])); try rfl)
                  · have h8' : ¬ i = s.next + 1 + 1 + 1 + 1 + 1 + 1 + 1 + 1 := by omega
                    have h6' : ¬ i = s.next + 1 + 1 + 1 + 1 + 1 + 1 := by omega
                    simp only [h9, h8, h6, h8', h6', if_false]
              · rw [if_neg hlt9]
                (repeat' split) <;> first | rfl | omega
          case post =>
            rintro d s3 ⟨rfl, rfl⟩
            rw [run8]
            by_cases g : ((0 : Nat) : Int) < st.toInt ∧ st.toInt ≤ ((0 + want.length : Nat) : Int)
            · rw [if_pos g]
              have gp : (0 : Int) < st.toInt := g.1
              have gz : (st.toInt.toNat : Int) = st.toInt := by omega
              refine ⟨.done, some (.exit 2), by decide, by simp only [q8, m8, k8]; (simp only [upd, AState.set, AState.new]; (repeat (first | rw [if_neg (by omega)] | rw [if_pos (by omega)] | (simp only [↓reduceIte]; done) | simp only [↓reduceIte])); try rfl), ?_⟩
              by_cases gl : st.toInt < (want.length : Int)
              · simp only [jumpQ, AState.mark, AState.del, nx0, nx1, q8, m8, k8, e8, gp, gl, gz, push_cast, ↓EPM, ↓reduceIte, seval, reduceCtorEq]
                refine RetM_more (l := [boo true]) (m := [boo true]) (S := s) (.inr rfl) (leaveS_one (D := s.next + 7) rfl (by (simp only [upd, AState.set, AState.new]; (repeat (first | rw [if_neg (by omega)] | rw [if_pos (by omega)] | (simp only [↓reduceIte]; done) | simp only [↓reduceIte])); try rfl))) (by simp only [AState.del, push_cast, ↓EPM, ↓reduceIte, seval, reduceCtorEq] <;> rfl) ⟨.inl rfl, trivial⟩ (Nat.le_refl _) rfl (by simp only [AState.del, AState.set, AState.new]; omega) (keep_of rfl hwf fun i hi => ?_) (.v _) ⟨rfl, rfl⟩
                have hi1 : i < s.next := hi
                have q1 : ¬ i = s.next := by omega
                have q2 : ∀ j, ¬ i = s.next + j + 1 := fun j => by omega
                have q3 : ¬ i = s.next + 1 := by omega
                have q4 : ¬ i = s.next + 7 := by omega
                simp only [AState.del, AState.set, AState.new, q1, q2, q3, q4, if_false]
              · have gz : (st.toInt.toNat : Int) = (want.length : Int) := by omega
                simp only [jumpQ, AState.mark, AState.del, nx0, nx1, q8, m8, k8, e8, gp, gl, gz, push_cast, ↓EPM, ↓reduceIte, seval, reduceCtorEq]
                refine RetM_more (l := [boo true]) (m := [boo true]) (S := s) (.inr rfl) (leaveS_one (D := s.next + 7) rfl (by (simp only [upd, AState.set, AState.new]; (repeat (first | rw [if_neg (by omega)] | rw [if_pos (by omega)] | (simp only [↓reduceIte]; done) | simp only [↓reduceIte])); try rfl))) (by simp only [AState.del, push_cast, ↓EPM, ↓reduceIte, seval, reduceCtorEq] <;> rfl) ⟨.inl rfl, trivial⟩ (Nat.le_refl _) rfl (by simp only [AState.del, AState.set, AState.new]; omega) (keep_of rfl hwf fun i hi => ?_) (.v _) ⟨rfl, rfl⟩
                have hi1 : i < s.next := hi
                have q1 : ¬ i = s.next := by omega
                have q2 : ∀ j, ¬ i = s.next + j + 1 := fun j => by omega
                have q3 : ¬ i = s.next + 1 := by omega
                have q4 : ¬ i = s.next + 7 := by omega
                simp only [AState.del, AState.set, AState.new, q1, q2, q3, q4, if_false]
            · rw [if_neg g, Nat.zero_add]
              refine ⟨.ready, none, by decide, by simp only [q8, m8, k8]; (simp only [upd, AState.set, AState.new]; (repeat (first | rw [if_neg (by omega)] | rw [if_pos (by omega)] | (simp only [↓reduceIte]; done) | simp only [↓reduceIte])); try rfl), ?_⟩
              by_cases gp : (0 : Int) < st.toInt
              · have gl : ¬ st.toInt < (want.length : Int) := by omega
                simp only [jumpQ, AState.mark, AState.del, nx0, nx1, q8, m8, k8, e8, gp, gl, push_cast, ↓EPM, ↓reduceIte, seval, reduceCtorEq]
                refine RetM_more (l := [boo true]) (m := [boo true]) (S := s) (.inr rfl) (leaveS_one (D := s.next + 7) rfl (by (simp only [upd, AState.set, AState.new]; (repeat (first | rw [if_neg (by omega)] | rw [if_pos (by omega)] | (simp only [↓reduceIte]; done) | simp only [↓reduceIte])); try rfl))) (by simp only [AState.del, push_cast, ↓EPM, ↓reduceIte, seval, reduceCtorEq] <;> rfl) ⟨.inl rfl, trivial⟩ (Nat.le_refl _) rfl (by simp only [AState.del, AState.set, AState.new]; omega) (keep_of rfl hwf fun i hi => ?_) (.v _) ⟨rfl, rfl⟩
                have hi1 : i < s.next := hi
                have q1 : ¬ i = s.next := by omega
                have q2 : ∀ j, ¬ i = s.next + j + 1 := fun j => by omega
                have q3 : ¬ i = s.next + 1 := by omega
                have q4 : ¬ i = s.next + 7 := by omega
                simp only [AState.del, AState.set, AState.new, q1, q2, q3, q4, if_false]
              · simp only [jumpQ, AState.mark, AState.del, nx0, nx1, q8, m8, k8, e8, gp, push_cast, ↓EPM, ↓reduceIte, seval, reduceCtorEq]
                refine RetM_more (l := [boo true]) (m := [boo true]) (S := s) (.inr rfl) (leaveS_one (D := s.next + 7) rfl (by (simp only [upd, AState.set, AState.new]; (repeat (first | rw [if_neg (by omega)] | rw [if_pos (by omega)] | (simp only [↓reduceIte]; done) | simp only [↓reduceIte])); try rfl))) (by simp only [AState.del, push_cast, ↓EPM, ↓reduceIte, seval, reduceCtorEq] <;> rfl) ⟨.inl rfl, trivial⟩ (Nat.le_refl _) rfl (by simp only [AState.del, AState.set, AState.new]; omega) (keep_of rfl hwf fun i hi => ?_) (.v _) ⟨rfl, rfl⟩
                have hi1 : i < s.next := hi
                have q1 : ¬ i = s.next := by omega
                have q2 : ∀ j, ¬ i = s.next + j + 1 := fun j => by omega
                have q3 : ¬ i = s.next + 1 := by omega
                have q4 : ¬ i = s.next + 7 := by omega
                simp only [AState.del, AState.set, AState.new, q1, q2, q3, q4, if_false]
    · have h3 : rightL none l = false := by simpa using h3
      rw [h3] at hz
      refine ACalls_bodyM (C := ⟨[8, 9]⟩) (c := Try.f8.body.getD .skip) (rs := [.cell 10 4]) Try.func8 (by kernel_rfl) (by kernel_rfl) (by kernel_rfl) (Nat.le_of_ble_eq_true rfl) (by kernel_rfl) fun hwf hbel => ?_
      simp only [Try.f8, push_cast, ↓EPM, ↓reduceIte, seval, reduceCtorEq]
      refine alive_spec.use ?_
      simp only [push_cast, ↓EPM, ↓reduceIte, seval, reduceCtorEq]
      refine hLg.use ?_
      simp only [push_cast, ↓EPM, ↓reduceIte, seval, reduceCtorEq]
      refine hz.use ?_
      simp only [push_cast, ↓EPM, ↓reduceIte, seval, reduceCtorEq]
      refine RetM_more (l := [boo true]) (m := [boo true]) (S := s) (.inr rfl) rfl (by simp only [push_cast, ↓EPM, ↓reduceIte, seval, reduceCtorEq] <;> rfl) ⟨.inl rfl, trivial⟩ (Nat.le_refl _) rfl (by simp only [AState.set, AState.new]; omega) (keep_of rfl hwf fun i hi => ?_) (.v _) ⟨rfl, rfl⟩
      have hi1 : i < s.next := hi
      have q1 : ¬ i = s.next := by omega
      simp only [AState.set, AState.new, q1, if_false]
  · simp only [h2, decide_false] at hLg
    refine ACalls_bodyM (C := ⟨[8, 9]⟩) (c := Try.f8.body.getD .skip) (rs := [.cell 10 4]) Try.func8 (by kernel_rfl) (by kernel_rfl) (by kernel_rfl) (Nat.le_of_ble_eq_true rfl) (by kernel_rfl) fun hwf hbel => ?_
    simp only [Try.f8, push_cast, ↓EPM, ↓reduceIte, seval, reduceCtorEq]
    refine alive_spec.use ?_
    simp only [push_cast, ↓EPM, ↓reduceIte, seval, reduceCtorEq]
    refine hLg.use ?_
    simp only [push_cast, ↓EPM, ↓reduceIte, seval, reduceCtorEq]
    refine RetM_more (l := [boo true]) (m := [boo true]) (S := s) (.inr rfl) rfl (by simp only [push_cast, ↓EPM, ↓reduceIte, seval, reduceCtorEq] <;> rfl) ⟨.inl rfl, trivial⟩ (Nat.le_refl _) rfl (by simp only [AState.set, AState.new]; omega) (keep_of rfl hwf fun i hi => ?_) (.v _) ⟨rfl, rfl⟩
    have hi1 : i < s.next := hi
    have q1 : ¬ i = s.next := by omega
    simp only [AState.set, AState.new, q1, if_false]

end Go.Proofs
