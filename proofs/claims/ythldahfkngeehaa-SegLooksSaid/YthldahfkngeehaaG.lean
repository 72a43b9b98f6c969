/- Part of the proof of a law of this seat: the texts S16 S17 S18 S19 S20 Law0 S21 S22 S23 S24 S25 S26 S27 S28 S29, in this order. -/
import Derived.Test.YthldahfkngeehaaF
import Derived.Test.YthldahfkngeehaaE
import Derived.Test.YthldahfkngeehaaRows
import Derived.WalkKit
import Derived.ProofKit
import Derived.OpenShut
import Derived.ShutString
import Derived.ChangeOld
import Derived.Below
import Derived.SizedLaws
namespace Go.Proofs
open Go Go.Av Go.Sort
set_option linter.unusedSimpArgs false
set_option linter.unusedVariables false
set_option maxRecDepth 30000
set_option maxHeartbeats 2000000

/-! The order of keys -/
structure Good {α : Type} (c : α → α → Int) : Prop where
  zero : ∀ x y, c x y = 0 ↔ x = y
  anti : ∀ x y, c x y < 0 ↔ 0 < c y x
  trans : ∀ x y z, c x y < 0 → c y z < 0 → c x z < 0

theorem good_int : Good cmpI := by
  refine ⟨fun x y => ?_, fun x y => ?_, fun x y z => ?_⟩ <;> simp only [cmpI] <;> (repeat' split) <;> omega

theorem bl_iff (a b : UInt8) (x y : List UInt8) : Op.bytesLess (a :: x) (b :: y) = true ↔ a.toNat < b.toNat ∨ (a = b ∧ Op.bytesLess x y = true) := by
  simp only [Op.bytesLess, Bool.or_eq_true, decide_eq_true_eq, Bool.and_eq_true, beq_iff_eq]
  rw [UInt8.lt_iff_toNat_lt]
theorem bl_irrefl : ∀ x : List UInt8, ¬ Op.bytesLess x x = true := fun x => by rw [less_irrefl]; simp
theorem bl_trans : ∀ x y z : List UInt8, Op.bytesLess x y = true → Op.bytesLess y z = true → Op.bytesLess x z = true
  | _, [], _, h, _ => by cases ‹List UInt8› <;> simp [Op.bytesLess] at h
  | _, _ :: _, [], _, h => by simp [Op.bytesLess] at h
  | [], _ :: _, _ :: _, _, _ => rfl
  | a :: x, b :: y, c :: z, h1, h2 => by
    rw [bl_iff] at h1 h2 ⊢
    rcases h1 with h1 | ⟨rfl, h1⟩ <;> rcases h2 with h2 | ⟨rfl, h2⟩
    · exact .inl (by omega)
    · exact .inl h1
    · exact .inl h2
    · exact .inr ⟨rfl, bl_trans x y z h1 h2⟩
theorem bl_total : ∀ x y : List UInt8, ¬ Op.bytesLess x y = true → ¬ Op.bytesLess y x = true → x = y
  | [], [], _, _ => rfl
  | [], _ :: _, h, _ => by simp [Op.bytesLess] at h
  | _ :: _, [], _, h => by simp [Op.bytesLess] at h
  | a :: x, b :: y, h1, h2 => by
    rw [bl_iff] at h1 h2
    have e : a = b := by
      apply UInt8.toNat_inj.1
      rcases Nat.lt_trichotomy a.toNat b.toNat with h | h | h
      · exact absurd (.inl h) h1
      · exact h
      · exact absurd (.inl h) h2
    subst e
    rw [bl_total x y (fun h => h1 (.inr ⟨rfl, h⟩)) (fun h => h2 (.inr ⟨rfl, h⟩))]

theorem good_bytes : Good cmpB := by
  have eqv : ∀ x y : ByteArray, (x.toList == y.toList) = decide (x = y) := str_beq
  have z : ∀ x y, cmpB x y = 0 ↔ x = y := by
    intro x y
    simp only [cmpB, eqv]
    split
    · rename_i h; refine ⟨fun h => by omega, fun e => ?_⟩; subst e; exact absurd h (bl_irrefl _)
    · split
      · rename_i h; simpa using h
      · rename_i h; simp at h; simp [h]
  have n : ∀ x y, cmpB x y < 0 ↔ Op.bytesLess x.toList y.toList = true := by
    intro x y
    simp only [cmpB]
    split
    · rename_i h; simp [h]
    · rename_i h; split <;> simp [h]
  have p : ∀ x y, 0 < cmpB x y ↔ Op.bytesLess y.toList x.toList = true := by
    intro x y
    simp only [cmpB, eqv]
    split
    · rename_i h; refine ⟨fun h => by omega, fun h2 => absurd (bl_trans _ _ _ h h2) (bl_irrefl _)⟩
    · rename_i h
      split
      · rename_i e; simp at e; subst e; simp [less_irrefl]
      · rename_i e
        refine ⟨fun _ => ?_, fun _ => by decide⟩
        by_cases h2 : Op.bytesLess y.toList x.toList = true
        · exact h2
        · have := bl_total _ _ h h2
          have e2 := eqv x y
          rw [this] at e2
          simp at e2 e
          exact absurd e2 e
  exact ⟨z, fun x y => by rw [n, p], fun x y w => by rw [n, n, n]; exact bl_trans _ _ _⟩

theorem good_list : ∀ n, (∀ x y, x.length = n → y.length = n → (cmpL x y = 0 ↔ x = y) ∧ (cmpL x y < 0 ↔ 0 < cmpL y x)) ∧ (∀ x y z, x.length = n → y.length = n → z.length = n → cmpL x y < 0 → cmpL y z < 0 → cmpL x z < 0)
  | 0 => by
    refine ⟨fun x y hx hy => ?_, fun x y z hx hy hz => ?_⟩
    · rw [List.eq_nil_of_length_eq_zero hx, List.eq_nil_of_length_eq_zero hy]; simp [cmpL]
    · rw [List.eq_nil_of_length_eq_zero hx, List.eq_nil_of_length_eq_zero hy]; simp [cmpL]
  | n + 1 => by
    obtain ⟨ih1, ih2⟩ := good_list n
    have g := good_bytes
    refine ⟨fun x y hx hy => ?_, fun x y z hx hy hz => ?_⟩
    · match x, y, hx, hy with
      | a :: x, b :: y, hx, hy =>
        obtain ⟨i1, i2⟩ := ih1 x y (by simpa using hx) (by simpa using hy)
        have z1 := g.zero a b
        have z2 := g.zero b a
        have a1 := g.anti a b
        simp only [cmpL, List.cons.injEq]
        by_cases e : a = b
        · subst e
          simp only [(g.zero a a).2 rfl, if_true, true_and]
          exact ⟨i1, i2⟩
        · have n1 : cmpB a b ≠ 0 := fun h => e (z1.1 h)
          have n2 : cmpB b a ≠ 0 := fun h => e (z2.1 h).symm
          simp only [n1, n2, if_false, e, false_and, iff_false]
          exact ⟨(by first | exact n1 | trivial), a1⟩
    · match x, y, z, hx, hy, hz with
      | a :: x, b :: y, c :: z, hx, hy, hz =>
        have i2 := ih2 x y z (by simpa using hx) (by simpa using hy) (by simpa using hz)
        simp only [cmpL]
        intro h1 h2
        by_cases e1 : a = b
        · subst e1
          simp only [(g.zero a a).2 rfl, if_true] at h1
          by_cases e2 : a = c
          · subst e2
            simp only [(g.zero a a).2 rfl, if_true] at h2 ⊢
            exact i2 h1 h2
          · have n1 : cmpB a c ≠ 0 := fun h => e2 ((g.zero a c).1 h)
            simp only [n1, if_false] at h2 ⊢
            exact h2
        · have n1 : cmpB a b ≠ 0 := fun h => e1 ((g.zero a b).1 h)
          simp only [n1, if_false] at h1
          by_cases e2 : b = c
          · subst e2
            simp only [n1, if_false]
            exact h1
          · have n2 : cmpB b c ≠ 0 := fun h => e2 ((g.zero b c).1 h)
            simp only [n2, if_false] at h2
            have h3 := g.trans a b c h1 h2
            have n3 : cmpB a c ≠ 0 := by omega
            simp only [n3, if_false]
            exact h3

theorem good_key : Good cmpK := by
  have g := good_int
  have gl := good_list 4
  refine ⟨fun x y => ?_, fun x y => ?_, fun x y z h1 h2 => ?_⟩
  · obtain ⟨i1, i2⟩ := gl.1 x.dims y.dims rfl rfl
    simp only [cmpK]
    by_cases e : x.h.toInt = y.h.toInt
    · rw [if_pos ((g.zero _ _).2 e), i1]
      cases x; cases y
      simp only [Key.dims, List.cons.injEq, Key.mk.injEq] at *
      rw [Int64.toInt_inj] at e
      simp [e]
    · rw [if_neg (fun h => e ((g.zero _ _).1 h))]
      refine ⟨fun h => absurd ((g.zero _ _).1 h) e, fun h => absurd (by rw [h]) e⟩
  · obtain ⟨i1, i2⟩ := gl.1 x.dims y.dims rfl rfl
    simp only [cmpK]
    by_cases e : x.h.toInt = y.h.toInt
    · rw [if_pos ((g.zero _ _).2 e), if_pos ((g.zero _ _).2 e.symm), i2]
    · rw [if_neg (fun h => e ((g.zero _ _).1 h)), if_neg (fun h => e ((g.zero _ _).1 h).symm), g.anti]
  · have i2 := gl.2 x.dims y.dims z.dims rfl rfl rfl
    simp only [cmpK] at *
    by_cases e1 : x.h.toInt = y.h.toInt
    · rw [if_pos ((g.zero _ _).2 e1)] at h1
      rw [e1]
      by_cases e2 : y.h.toInt = z.h.toInt
      · rw [if_pos ((g.zero _ _).2 e2)] at h2 ⊢
        exact i2 h1 h2
      · rw [if_neg (fun h => e2 ((g.zero _ _).1 h))] at h2 ⊢
        exact h2
    · rw [if_neg (fun h => e1 ((g.zero _ _).1 h))] at h1
      by_cases e2 : y.h.toInt = z.h.toInt
      · rw [← e2, if_neg (fun h => e1 ((g.zero _ _).1 h))]
        exact h1
      · rw [if_neg (fun h => e2 ((g.zero _ _).1 h))] at h2
        have h3 := g.trans _ _ _ h1 h2
        rw [if_neg (by omega)]
        exact h3

theorem Good.swo {α : Type} {c : α → α → Int} (g : Good c) : SWO (ltOf c) where
  irrefl x := by have := (g.zero x x).2 rfl; simp [ltOf, this]
  trans x y z h1 h2 := by simp only [ltOf, decide_eq_true_eq] at *; exact g.trans x y z h1 h2
  ntrans x y z h1 h2 := by
    simp only [ltOf, decide_eq_false_iff_not] at *
    intro h3
    by_cases e : c y z = 0
    · rw [(g.zero _ _).1 e] at h1; exact h1 h3
    · have h4 : 0 < c y z := by omega
      exact h1 (g.trans x z y h3 ((g.anti z y).2 h4))
theorem Good.total {α : Type} {c : α → α → Int} (g : Good c) (x y : α) (h1 : ltOf c x y = false) (h2 : ltOf c y x = false) : x = y := by
  simp only [ltOf, decide_eq_false_iff_not] at *
  refine (g.zero x y).1 ?_
  have := g.anti y x
  omega

def sortK (l : List Key) : List Key := l.mergeSort fun x y => !(ltOf cmpK) y x

theorem sortK_perm (l : List Key) : (sortK l).Perm l := List.mergeSort_perm _ _
theorem sortK_sorted (l : List Key) : (sortK l).Pairwise fun x y => ¬ cmpK y x < 0 := by
  have h := List.pairwise_mergeSort (le := fun x y : Key => !(ltOf cmpK) y x) (fun a b c h1 h2 => by
    simp only [Bool.not_eq_true'] at *
    exact good_key.swo.ntrans c b a h2 h1) (fun a b => by
    simp only [Bool.or_eq_true, Bool.not_eq_true', ltOf, decide_eq_false_iff_not]
    have := good_key.anti a b
    omega) l
  exact h.imp fun h => by simpa [ltOf] using h
theorem sortK_eq {l m : List Key} (h : l.Perm m) : sortK l = sortK m := by
  refine List.Perm.eq_of_pairwise (le := fun x y => ¬ cmpK y x < 0) ?_ (sortK_sorted l) (sortK_sorted m) ((sortK_perm l).trans (h.trans (sortK_perm m).symm))
  intro a b _ _ h1 h2
  exact good_key.total a b (by simpa [ltOf] using h2) (by simpa [ltOf] using h1)

end Go.Proofs

namespace Go.Proofs
open Go Go.Av Go.Sort
set_option linter.unusedSimpArgs false
set_option linter.unusedVariables false
set_option maxRecDepth 30000
set_option maxHeartbeats 2000000

instance : Inhabited Key := ⟨⟨0, .empty, .empty, .empty, .empty⟩⟩
def encK (k : Key) : List Value := [.int .i64 k.h.toInt, .string k.a, .string k.b, .string k.c, .string k.d]

theorem keysE (l : List Key) : rowsE encK l = keysA l := rfl

theorem agg39 (w : World) : (isAgg 39).run Try.prog w = .ok true w := by
  have h : Try.prog.underlying 39 = some (TypeDesc.struct #[{ name := "Hour", type := 2, offset := 0, embedded := false, tag := "", pkgPath := "", byteOffset := 0 }, { name := "Dims", type := 37, offset := 1, embedded := false, tag := "", pkgPath := "", byteOffset := 8 }]) := by simp only [unders]
  simp [isAgg, run_underlying h, Result.andThen]
theorem size39 (w : World) : (Go.sizeOf 39).run Try.prog w = .ok 5 w := by
  have h : szOf Try.prog 39 = some 5 := by simp only [szOf, tys, Option.map_some]
  exact Go.Av.run_sizeOf h w
theorem sorts : Sorts Try.prog 96 50 encK 5 sortK :=
  sorts_of (ρ := Try.sortL_ren) Try.sortL 5 (by decide) agg39 size39 encK (fun _ => rfl) (fun x v hv => by
    simp only [encK, List.mem_cons, List.not_mem_nil, or_false] at hv
    rcases hv with rfl | rfl | rfl | rfl | rfl <;> exact ⟨rfl, rfl⟩) cmpK good_key.swo good_key.total 50 ((fcmp_spec default default) ⟨fun _ => none, 0, ⟨0, []⟩⟩).1 (fun x y => fcmp_spec x y) (Try.sortL.f6.enters rfl)

theorem collect_spec (l : List (Key × Cell)) (s : AState) (m : Nat) (hm : s.obj m = some (.map (entA l))) (hlen : l.length ≤ 1000000) :
    ACalls Try.prog 95 [.fn 97 [] [.ep [.mp m] 0]] s (fun d s' => ∃ ks : List Key, ks.Perm (l.map (·.1)) ∧ d = .sl 5 (keysA ks) (.row (s.next + 1) ks.length) ∧
      s' = { s with obj := fun i => if i = s.next + 1 then some (.row ks.length) else s.obj i, next := s.next + 2 }) := by
  refine ACalls_bodyM (C := ⟨[]⟩) (c := Try.f95.body.getD .skip) (rs := [.tmp 2]) Try.func95 (by kernel_rfl) (by kernel_rfl) (by kernel_rfl) (Nat.le_of_ble_eq_true rfl) (by kernel_rfl) fun hwf hbel => ?_
  simp only [Try.f95, push_cast, ↓EPM, ↓reduceIte, seval, reduceCtorEq]
  refine ACalls_mono ?_ (appendSeq_spec l _ m hm hlen)
  rintro d s' ⟨ks, hp, rfl, rfl⟩
  simp only [push_cast, ↓EPM, ↓reduceIte, seval, reduceCtorEq]
  refine RetM_more (l := [.sl 5 (keysA ks) (.row (s.next + 1) ks.length)]) (m := [.sl 5 (keysA ks) (.row (s.next + 1) ks.length)]) (S := { s with obj := fun i => if i = s.next + 1 then some (.row ks.length) else s.obj i, next := s.next + 2 }) (.inr rfl) rfl (by simp only [push_cast, ↓EPM, ↓reduceIte, seval, reduceCtorEq]) ⟨.inl rfl, trivial⟩ (Nat.le_add_right _ _) rfl (Nat.le_refl _) ?_ ?_ ⟨ks, hp, rfl, rfl⟩
  · intro i o ho
    refine ⟨?_, ?_, ho⟩ <;> simp only at ho
    · split at ho
      · rename_i e; subst e; show s.next + 1 < s.next + 2; omega
      · exact Nat.lt_of_lt_of_le (hwf i o ho).1 (Nat.le_add_right _ _)
    · split at ho
      · cases ho; trivial
      · exact (hwf i o ho).2.mono (Nat.le_add_right _ _)
  · simp only [packAV, Bel_sl, keysA_bel, tokBel, true_and]
    show s.next + 1 < s.next + 2
    omega

theorem sortedFunc_spec (l : List (Key × Cell)) (s : AState) (m : Nat) (hm : s.obj m = some (.map (entA l))) (hlen : l.length ≤ 1000000) :
    ACalls Try.prog 48 [.fn 97 [] [.ep [.mp m] 0], .fn 50 [] []] s (fun d s' => d = .sl 5 (keysA (sortK (l.map (·.1)))) .none ∧ s' = s) := by
  refine ACalls_frame (fun i => i == m) (k0 := fun d s' => d = .sl 5 (keysA (sortK (l.map (·.1)))) .none ∧ s' = s.keep (fun i => i == m)) ?_ (fun hwf0 d s' hle h => ⟨h.1, ?_⟩)
  · generalize hs0 : s.keep (fun i => i == m) = s0
    have hm0 : s0.obj m = some (.map (entA l)) := by subst hs0; simp [AState.keep, hm]
    have ho0 : ∀ i o, s0.obj i = some o → i = m := by subst hs0; intro i o h; simp [AState.keep] at h; exact h.1
    refine ACalls_code (c := Try.f48.body.getD .skip) (rs := [.tmp 4]) Try.func48 (by kernel_rfl) (by kernel_rfl) (by kernel_rfl) (Nat.le_of_ble_eq_true rfl) (by kernel_rfl) fun hwf hbel => ?_
    simp only [Try.f48, Option.getD_some]
    refine ACode_seq (ACode_of (C := ⟨[]⟩) ?_)
    simp only [push_cast, ↓EPM, ↓reduceIte, seval, reduceCtorEq]
    refine ACode_seq (ACode_of (C := ⟨[]⟩) ?_)
    simp only [push_cast, ↓EPM, ↓reduceIte, seval, reduceCtorEq]
    refine ACalls_mono ?_ (collect_spec l _ m hm0 hlen)
    rintro d s' ⟨ks, hp, rfl, rfl⟩
    simp only [push_cast, ↓EPM, ↓reduceIte, seval, reduceCtorEq]
    refine ACode_seq (sort_code sorts (l := ks) (rid := s0.next + 1) (s' := { s0 with base := ⟨s0.next, []⟩, next := s0.next + 2 }) ?_ ?_ ?_ ?_ (by decide) (by decide) (by decide) (by decide) (by decide) ?_ ?_ rfl rfl ?_)
    · rw [keysE]; simp only [push_cast, ↓EPM, ↓reduceIte, seval, reduceCtorEq]
    · simp only [push_cast, ↓EPM, ↓reduceIte, seval, reduceCtorEq]
    · ((repeat (first | rw [if_neg (by omega)] | rw [if_pos (by omega)] | (simp only [↓reduceIte]; done) | simp only [↓reduceIte])); try rfl)
    · show s0.next ≤ s0.next + 1; omega
    · have := hp.length_eq
      simp only [List.length_map] at this
      omega
    · intro i o ho
      have e := ho0 i o ho
      subst e
      refine ⟨?_, ?_⟩
      · have := (hwf _ _ ho).1
        ((repeat (first | rw [if_neg (by omega)] | rw [if_pos (by omega)] | (simp only [↓reduceIte]; done) | simp only [↓reduceIte])); try rfl)
        exact ho
      · have e2 := hm0.symm.trans ho
        cases e2
        intro p hp
        simp only [entA, List.mem_map] at hp
        obtain ⟨q, _, rfl⟩ := hp
        refine ⟨WF_agg fun c hc => ?_, WF_agg fun c hc => ?_⟩
        · simp only [Key.av, List.mem_cons, List.not_mem_nil, or_false] at hc
          rcases hc with rfl | rfl | rfl | rfl | rfl <;> exact WF_v _
        · simp only [Cell.av, List.mem_cons, List.not_mem_nil, or_false] at hc
          rcases hc with rfl | rfl | rfl | rfl <;> exact WF_v _
    · rw [keysE, sortK_eq hp]
      simp only [EK, ↓reduceIte]
      refine ACode_seq (ACode_of (C := ⟨[]⟩) ?_)
      simp only [push_cast, ↓EPM, ↓reduceIte, seval, reduceCtorEq]
      refine ACode_of (C := ⟨[]⟩) ?_
      simp only [push_cast, ↓EPM, ↓reduceIte, seval, reduceCtorEq]
      refine RetM_more (l := [.sl 5 (keysA (sortK (l.map (·.1)))) .none]) (m := [.sl 5 (keysA (sortK (l.map (·.1)))) .none]) (S := s0) (.inr rfl) rfl (by simp only [push_cast, ↓EPM, ↓reduceIte, seval, reduceCtorEq]) ⟨.inl rfl, trivial⟩ (Nat.le_refl _) rfl (Nat.le_add_right _ _) (fun i o ho => ⟨(hwf i o ho).1, (hwf i o ho).2, ho⟩) ?_ ⟨rfl, hs0.symm ▸ rfl⟩
      simp only [packAV, Bel_sl, keysA_bel, tokBel, true_and]
  · obtain ⟨rfl, rfl⟩ := h
    refine AState.ext' (fun i => ?_) rfl rfl
    simp only [AState.join, AState.keep, Bool.and_eq_true, decide_eq_true_eq, Bool.not_eq_true', beq_eq_false_iff_ne, beq_iff_eq]
    split
    · rfl
    · split
      · rename_i e; rw [e]
      · rename_i h1 h2
        cases e : s.obj i with
        | none => rfl
        | some o => exact absurd ⟨(hwf0 i o e).1, h2⟩ h1

end Go.Proofs

namespace Go.Proofs
open Go Go.Av Go.Sort
set_option linter.unusedSimpArgs false
set_option linter.unusedVariables false
set_option maxRecDepth 30000
set_option maxHeartbeats 2000000

theorem keysA_nil : keysA [] = [] := rfl
attribute [push_cast] keysA_nil

/-! A map by keys, as a list -/
abbrev KM := List (Key × Cell)
def KM.find (m : KM) (k : Key) : Option Nat := m.findIdx? fun p => decide (p.1 = k)
def KM.get (m : KM) (k : Key) : Cell := match m.find k with | some i => ((m[i]?).map (·.2)).getD zeroC | none => zeroC
def KM.put (m : KM) (k : Key) (c : Cell) : KM := match m.find k with | some i => m.set i (k, c) | none => m ++ [(k, c)]

theorem eqAV_key (c d : Key) : eqAV Try.prog 20 39 (.agg c.av) (.agg d.av) = some (decide (c = d)) := by
  rw [← key_beq]
  kernel_rfl
theorem ck_key (c : Key) : ckAV Try.prog 20 39 (.agg c.av) = true := by kernel_rfl
theorem bits_key (c : Key) : bitsAV (.agg c.av) = true := rfl

theorem KM.find_some {m : KM} {k : Key} {i : Nat} (h : m.find k = some i) : ∃ c, m[i]? = some (k, c) ∧ ∀ j q, j < i → m[j]? = some q → q.1 ≠ k := by
  obtain ⟨hlt, h1, h2⟩ := List.findIdx?_eq_some_iff_getElem.1 h
  simp only [decide_eq_true_eq] at h1 h2
  refine ⟨m[i].2, by rw [List.getElem?_eq_getElem hlt, ← h1], fun j q hj hq => ?_⟩
  have := h2 j hj
  obtain ⟨hjl, rfl⟩ := List.getElem?_eq_some_iff.1 hq
  simpa using this
theorem KM.find_none {m : KM} {k : Key} (h : m.find k = none) : ∀ q ∈ m, q.1 ≠ k := by
  intro q hq
  have := List.findIdx?_eq_none_iff.1 h q hq
  simpa using this

theorem mfind (m : KM) (k : Key) : MFind Try.prog 39 (.agg k.av) (entA m) (m.find k) := by
  cases h : m.find k with
  | some i =>
    obtain ⟨c, h1, h2⟩ := KM.find_some h
    refine ⟨(.agg k.av, .agg c.av), by simp [entA, h1], by rw [eqAV_key]; simp, fun j q hj hq => ?_⟩
    obtain ⟨p, hp, rfl⟩ := entA_get hq
    rw [eqAV_key]
    have := h2 j p hj hp
    simp [Ne.symm this]
  | none =>
    intro j q hq
    obtain ⟨p, hp, rfl⟩ := entA_get hq
    rw [eqAV_key]
    have := KM.find_none h p (List.mem_of_getElem? hp)
    simp [Ne.symm this]

theorem zero44 : zeroAV Try.prog 44 = some (.agg zeroC.av) := by simp only [zeroAV, tys, Option.bind_some]; rfl

theorem mval (m : KM) (k : Key) : mGet Try.prog 44 (entA m) (m.find k) = some (.agg (m.get k).av) := by
  simp only [KM.get]
  cases h : m.find k with
  | some i =>
    obtain ⟨c, h1, _⟩ := KM.find_some h
    simp [mGet, entA, h1]
  | none => exact zero44

theorem mput (m : KM) (k : Key) (c : Cell) : mPut (entA m) (.agg k.av) (.agg c.av) (m.find k) = entA (m.put k c) := by
  simp only [KM.put]
  cases h : m.find k with
  | some i => simp [mPut, entA, List.map_set]
  | none => simp [mPut, entA]
theorem msame (m : KM) (k : Key) : ∀ i, m.find k = some i → ((entA m)[i]?).map (·.1) = some (.agg k.av) := by
  intro i h
  obtain ⟨c, h1, _⟩ := KM.find_some h
  simp [entA, h1]

theorem KM.put_len (m : KM) (k : Key) (c : Cell) : (m.put k c).length ≤ m.length + 1 := by
  simp only [KM.put]; split <;> simp
theorem KM.put_keys (m : KM) (k : Key) (c : Cell) : (m.put k c).map (·.1) = if m.find k = none then m.map (·.1) ++ [k] else m.map (·.1) := by
  simp only [KM.put]
  cases h : m.find k with
  | some i =>
    obtain ⟨c', h1, _⟩ := KM.find_some h
    simp only [List.map_set, reduceCtorEq, if_false]
    apply List.ext_getElem? 
    intro j
    by_cases e : i = j
    · subst e
      have hl := (List.getElem?_eq_some_iff.1 h1).1
      rw [List.getElem?_set_self (by simpa using hl)]
      simp [h1]
    · rw [List.getElem?_set_ne e]
  | none => simp

/-- Facts, one by one. -/
def mAll : KM → List Fact → Option KM
  | m, [] => some m
  | m, f :: l => (mergeC (m.get f.k) ⟨1, f.v, f.v, f.v⟩).bind fun c => mAll (m.put f.k c) l

def mRows (m : KM) : List Row := (sortK (m.map (·.1))).map fun k => ⟨k, m.get k⟩

def resO : Option (List Row) → AV
  | some l => resS (some l) 0
  | none => resS none 6

def zeroF : Fact := ⟨⟨0, .empty, .empty, .empty, .empty⟩, 0⟩

def zeroK : Key := ⟨0, .empty, .empty, .empty, .empty⟩
/-- The first rows. -/
def KR (m : KM) (j : Nat) : List Row := ((sortK (m.map (·.1))).take j).map fun k => ⟨k, m.get k⟩
theorem sortK_len (m : KM) : (sortK (m.map (·.1))).length = m.length := by rw [(sortK_perm _).length_eq, List.length_map]

theorem KR_len {m : KM} {j : Nat} (h : j ≤ m.length) : (KR m j).length = j := by simp [KR, sortK_len]; omega
theorem KR_succ {m : KM} {j : Nat} {x : Key} (h : (sortK (m.map (·.1)))[j]? = some x) : KR m (j + 1) = KR m j ++ [⟨x, m.get x⟩] := by simp [KR, take_get h]
theorem KR_all (m : KM) : KR m m.length = mRows m := by
  rw [KR, mRows, List.take_of_length_le (by rw [sortK_len]; exact Nat.le_refl _)]
theorem entA_bel (n : Nat) (m : KM) : OBel n (.map (entA m)) := by
  intro p hp
  simp only [entA, List.mem_map] at hp
  obtain ⟨q, _, rfl⟩ := hp
  refine ⟨Bel_agg.2 fun c hc => ?_, Bel_agg.2 fun c hc => ?_⟩
  · simp only [Key.av, List.mem_cons, List.not_mem_nil, or_false] at hc
    rcases hc with rfl | rfl | rfl | rfl | rfl <;> exact .v _
  · simp only [Cell.av, List.mem_cons, List.not_mem_nil, or_false] at hc
    rcases hc with rfl | rfl | rfl | rfl <;> exact .v _

theorem wfS {s : AState} (hwf : s.Wf) (m : KM) (l : List Row) (n : Nat) : AState.Wf (AState.new (AState.new (AState.new { s with base := ⟨s.next, []⟩ } (.map (entA m))) (.cells [.sl 9 (rowsA l) (.row (s.next + 2) n)])) (.row n)) := by
  intro id o ho
  simp only [AState.new] at ho
  split at ho
  · rename_i e; subst e; cases ho; exact ⟨by show s.next + 1 + 1 < s.next + 3; omega, trivial⟩
  · split at ho
    · rename_i e; subst e; cases ho
      refine ⟨by show s.next + 1 < s.next + 3; omega, ?_⟩
      intro c hc
      simp only [List.mem_cons, List.not_mem_nil, or_false] at hc
      subst hc
      exact Bel_sl.2 ⟨of_eq_true (rowsA_bel _ _), (by show s.next + 2 < s.next + 3; omega)⟩
    · split at ho
      · rename_i e; subst e; cases ho; exact ⟨by show s.next < s.next + 3; omega, entA_bel _ _⟩
      · obtain ⟨h1, h2⟩ := hwf id o ho
        exact ⟨Nat.lt_of_lt_of_le h1 (Nat.le_add_right _ 3), h2.mono (Nat.le_add_right _ 3)⟩

theorem of_seg (l : List Fact) (hl : l.length ≤ 1000) : APure Try.prog 15 [.sl 6 (factsA l) .none] (resO ((mAll [] l).map mRows)) := by
  intro s
  generalize hr : mAll [] l = r
  refine ACalls_body (C := ⟨[]⟩) (c := Try.f15.body.getD .skip) (rs := [.tmp 2, .tmp 3]) Try.func15 (by kernel_rfl) (by kernel_rfl) (by kernel_rfl) (Nat.le_of_ble_eq_true rfl) (by kernel_rfl) fun hwf hbel => ?_
  simp only [Try.f15, push_cast, ↓EPM, ↓reduceIte, seval, reduceCtorEq]
  refine makeMap_law ?_
  simp only [push_cast, ↓EPM, ↓reduceIte, seval, reduceCtorEq]
  refine ALoop_inv (ι := Nat × KM) (fun i => i.1 ≤ l.length ∧ i.2.length ≤ i.1 ∧ r = mAll i.2 (l.drop i.1)) (fun i => envL [(4, .mp s.next), (13, .sl 6 (factsA l) .none), (14, i64 l.length), (15, i64 i.1)]) (fun i => AState.new { s with base := ⟨s.next, []⟩ } (.map (entA i.2))) (fun i => l.length - i.1) (0, []) ⟨Nat.zero_le _, Nat.le_refl _, by rw [← hr]; rfl⟩ (ent rfl ?_) (fun i hi => ?_)
  · simp only [push_cast, ↓EPM, ↓reduceIte, seval, reduceCtorEq]
  · obtain ⟨i, m⟩ := i
    obtain ⟨hi, hml, hs⟩ := hi
    simp only at hi hml hs
    by_cases hlt : i < l.length
    · obtain ⟨x, hx⟩ : ∃ x, l[i]? = some x := ⟨_, List.getElem?_eq_getElem hlt⟩
      have gx := factsA_get hx
      rw [drop_get hx, mAll] at hs
      have hc : ((i : Int) < (l.length : Int)) := by omega
      have h0 : (0 : Int) ≤ (i : Int) := by omega
      have hw : IntKind.i64.wrap ((i : Int) + 1) = (i : Int) + 1 := wrap_in (by omega) (by omega)
      simp only [hc, h0, gx, push_cast, ↓EPM, ↓reduceIte, seval, reduceCtorEq]
      have hm := merge_spec (m.get x.k) ⟨1, x.v, x.v, x.v⟩
      cases hmc : mergeC (m.get x.k) ⟨1, x.v, x.v, x.v⟩ with
      | none =>
        rw [hmc] at hm
        refine chainA [(AState.set (AState.new (AState.new { s with base := ⟨s.next, []⟩ } (.map (entA m))) (.cells zeroF.av)) (s.next + 1) (.cells x.av)), AState.new (AState.set (AState.new (AState.new { s with base := ⟨s.next, []⟩ } (.map (entA m))) (.cells zeroF.av)) (s.next + 1) (.cells x.av)) (.cells zeroC.av), AState.set (AState.new (AState.set (AState.new (AState.new { s with base := ⟨s.next, []⟩ } (.map (entA m))) (.cells zeroF.av)) (s.next + 1) (.cells x.av)) (.cells zeroC.av)) (s.next + 2) (.cells zeroC.av)] [some 9, some 9, some 9, some 9, some 9, some 9, some 9, some 9, some 9, some 9, some 9, none, none, some 9] mixed ?_; simp only [zeroC, h0, gx,  ↓EX, EY, ↓EH, push_cast, ↓EPM, ↓reduceIte, seval, reduceCtorEq]
        refine qlookC (id := s.next) (es := entA m) (v := .agg (m.get x.k).av) (m.find x.k) u85 u39 rfl rfl (ck_key x.k) (mfind m x.k) (mval m x.k) (fun st hst => ?_) ?_
        · simp only [List.mem_cons, List.not_mem_nil, or_false] at hst
          rcases hst with rfl | rfl | rfl <;> (simp only [upd, AState.set, AState.new]; (repeat (first | rw [if_neg (by omega)] | rw [if_pos (by omega)] | (simp only [↓reduceIte]; done) | simp only [↓reduceIte])); try rfl)
        simp only [↓EX, EY, ↓EH, push_cast, ↓EPM, ↓reduceIte, seval, reduceCtorEq]
        refine qcallC (of_spec x.v) rfl (by simp only [push_cast, ↓EPM, ↓reduceIte, seval, reduceCtorEq] <;> rfl) ?_; simp only [↓EX, EY, ↓EH, push_cast, ↓EPM, ↓reduceIte, seval, reduceCtorEq]
        refine qcallC (hm) rfl (by simp only [push_cast, ↓EPM, ↓reduceIte, seval, reduceCtorEq] <;> rfl) ?_; simp only [↓EX, EY, ↓EH, push_cast, ↓EPM, ↓reduceIte, seval, reduceCtorEq]
        simp only [resC, zeroC, ↓EX, EY, ↓EH, push_cast, ↓EPM, ↓reduceIte, seval, reduceCtorEq]
        rw [show r = none by rw [hs, hmc]; rfl]
        exact RetP [segA none, i64 6]
      | some c =>
        rw [hmc] at hm
        refine chainA [(AState.set (AState.new (AState.new { s with base := ⟨s.next, []⟩ } (.map (entA m))) (.cells zeroF.av)) (s.next + 1) (.cells x.av)), AState.new (AState.set (AState.new (AState.new { s with base := ⟨s.next, []⟩ } (.map (entA m))) (.cells zeroF.av)) (s.next + 1) (.cells x.av)) (.cells zeroC.av), AState.set (AState.new (AState.set (AState.new (AState.new { s with base := ⟨s.next, []⟩ } (.map (entA m))) (.cells zeroF.av)) (s.next + 1) (.cells x.av)) (.cells zeroC.av)) (s.next + 2) (.cells c.av)] [some 9, some 9, some 9, some 9, some 9, some 9, some 9, some 9, some 9, some 9, some 9, none, none, some 9] mixed ?_; simp only [zeroC, h0, gx,  ↓EX, EY, ↓EH, push_cast, ↓EPM, ↓reduceIte, seval, reduceCtorEq]
        refine qlookC (id := s.next) (es := entA m) (v := .agg (m.get x.k).av) (m.find x.k) u85 u39 rfl rfl (ck_key x.k) (mfind m x.k) (mval m x.k) (fun st hst => ?_) ?_
        · simp only [List.mem_cons, List.not_mem_nil, or_false] at hst
          rcases hst with rfl | rfl | rfl <;> (simp only [upd, AState.set, AState.new]; (repeat (first | rw [if_neg (by omega)] | rw [if_pos (by omega)] | (simp only [↓reduceIte]; done) | simp only [↓reduceIte])); try rfl)
        simp only [↓EX, EY, ↓EH, push_cast, ↓EPM, ↓reduceIte, seval, reduceCtorEq]
        refine qcallC (of_spec x.v) rfl (by simp only [push_cast, ↓EPM, ↓reduceIte, seval, reduceCtorEq] <;> rfl) ?_; simp only [↓EX, EY, ↓EH, push_cast, ↓EPM, ↓reduceIte, seval, reduceCtorEq]
        refine qcallC (hm) rfl (by simp only [push_cast, ↓EPM, ↓reduceIte, seval, reduceCtorEq] <;> rfl) ?_; simp only [↓EX, EY, ↓EH, push_cast, ↓EPM, ↓reduceIte, seval, reduceCtorEq]
        simp only [resC, zeroC, ↓EX, EY, ↓EH, push_cast, ↓EPM, ↓reduceIte, seval, reduceCtorEq]
        refine mapUpdate_law (id := s.next) (es := entA m) (key := .agg x.k.av) (val := .agg c.av) (m.find x.k) u85 u39 rfl rfl rfl ?_ (ck_key x.k) (mfind m x.k) (bits_key x.k) (msame m x.k) ?_
        · (simp only [upd, AState.set, AState.new]; (repeat (first | rw [if_neg (by omega)] | rw [if_pos (by omega)] | (simp only [↓reduceIte]; done) | simp only [↓reduceIte])); try rfl)
        rw [mput]
        simp only [hw, push_cast, ↓EPM, ↓reduceIte, seval, reduceCtorEq]
        have hpl := m.put_len x.k c
        refine round_next (i + 1, m.put x.k c) ⟨by simp only; omega, by simp only; omega, by rw [hs, hmc]; rfl⟩ (by simp only; omega) (AEnt_drop rfl rfl (Nat.le_succ _) ?_ ((hwf.base _).new ?_) (EntB_all ?_))
        · refine ⟨by simp only [EO]; omega, fun id hid => ?_⟩
          simp only [AState.set, AState.new] at hid ⊢
          (repeat' split) <;> first | rfl | omega
        · exact entA_bel _ _
        simp only [hw, push_cast, ↓EPM, ↓reduceIte, seval, reduceCtorEq]
        (try first | omega | ((repeat' apply And.intro) <;> first | omega | (simp only [push_cast, ↓EPM, ↓reduceIte, seval, reduceCtorEq, List.mem_cons, List.not_mem_nil, or_false, forall_eq_or_imp, forall_eq, and_self, true_and, and_true, zeroR]; done) | (simp only [push_cast, ↓EPM, ↓reduceIte, seval, reduceCtorEq, List.mem_cons, List.not_mem_nil, or_false, forall_eq_or_imp, forall_eq, and_self, true_and, and_true, zeroR]; omega)))
    · have hc : ¬ ((i : Int) < (l.length : Int)) := by omega
      simp only [hc, push_cast, ↓EPM, ↓reduceIte, seval, reduceCtorEq]
      rw [show r = some m by rw [hs, List.drop_eq_nil_of_le (by omega)]; rfl]
      refine (keysOf_spec s.next).use ?_
      simp only [push_cast, ↓EPM, ↓reduceIte, seval, reduceCtorEq]
      refine ACalls_mono ?_ (sortedFunc_spec m _ s.next (by (simp only [upd, AState.set, AState.new]; (repeat (first | rw [if_neg (by omega)] | rw [if_pos (by omega)] | (simp only [↓reduceIte]; done) | simp only [↓reduceIte])); try rfl)) (by omega))
      rintro d s' ⟨rfl, rfl⟩
      simp only [keysA_len, sortK_len, push_cast, ↓EPM, ↓reduceIte, seval, reduceCtorEq]
      refine ALoop_inv (ι := Nat) (fun j => j ≤ m.length) (fun j => envL [(4, .mp s.next), (9, .ptr (s.next + 1) 0), (41, .sl 5 (keysA (sortK (m.map (·.1)))) .none), (42, i64 m.length), (43, i64 j)]) (fun j => (AState.new (AState.new (AState.new { s with base := ⟨s.next, []⟩ } (.map (entA m))) (.cells [.sl 9 (rowsA (KR m j)) (.row (s.next + 2) j)])) (.row j))) (fun j => m.length - j) 0 (Nat.zero_le _) ?_ (fun j hj => ?_)
      · refine (AEnt_reserve _ _).trans ((AEnt_obj (id := s.next + 1) (cs := [.v (.slice none 0 0)]) (cs' := [.sl 9 [] (.row (s.next + 2) 0)]) (by (simp only [upd, AState.set, AState.new]; (repeat (first | rw [if_neg (by omega)] | rw [if_pos (by omega)] | (simp only [↓reduceIte]; done) | simp only [↓reduceIte])); try rfl)) ⟨.inr (.inr ⟨rfl, 9, _, rfl, by decide, .inr (.inr ⟨s.next + 2, rfl, by (simp only [upd, AState.set, AState.new]; (repeat (first | rw [if_neg (by omega)] | rw [if_pos (by omega)] | (simp only [↓reduceIte]; done) | simp only [↓reduceIte])); try rfl)⟩)⟩), trivial⟩ rfl).trans (AEnt_drop rfl rfl (Nat.le_add_right _ 3) ⟨Nat.le_refl _, fun id hid => ?_⟩ (wfS hwf m _ _) (EntB_all ?_)))
        · replace hid : id < s.next + 3 := hid
          simp only [AState.set, AState.new]
          (repeat' split) <;> first | rfl | omega
        simp only [push_cast, ↓EPM, ↓reduceIte, seval, reduceCtorEq]
        (try first | omega | ((repeat' apply And.intro) <;> first | omega | (simp only [push_cast, ↓EPM, ↓reduceIte, seval, reduceCtorEq, List.mem_cons, List.not_mem_nil, or_false, forall_eq_or_imp, forall_eq, and_self, true_and, and_true, zeroR]; done) | (simp only [push_cast, ↓EPM, ↓reduceIte, seval, reduceCtorEq, List.mem_cons, List.not_mem_nil, or_false, forall_eq_or_imp, forall_eq, and_self, true_and, and_true, zeroR]; omega)))
      · by_cases hjl : j < m.length
        · obtain ⟨x, hx⟩ : ∃ x, (sortK (m.map (·.1)))[j]? = some x := ⟨_, List.getElem?_eq_getElem (by rw [sortK_len]; exact hjl)⟩
          have gx := keysA_get hx
          have hc : ((j : Int) < (m.length : Int)) := by omega
          have h0 : (0 : Int) ≤ (j : Int) := by omega
          have hw : IntKind.i64.wrap ((j : Int) + 1) = (j : Int) + 1 := wrap_in (by omega) (by omega)
          have hrm : ((j : Int) + 1) * 104 ≤ 140737488355328 := by omega
          simp only [hc, h0, gx, keysA_len, sortK_len, push_cast, ↓EPM, ↓reduceIte, seval, reduceCtorEq]
          refine chainA [AState.set (AState.new (AState.new (AState.new (AState.new { s with base := ⟨s.next, []⟩ } (.map (entA m))) (.cells [.sl 9 (rowsA (KR m j)) (.row (s.next + 2) j)])) (.row j)) (.cells zeroK.av)) (s.next + 3) (.cells x.av), AState.set (AState.set (AState.new (AState.new (AState.new (AState.new { s with base := ⟨s.next, []⟩ } (.map (entA m))) (.cells [.sl 9 (rowsA (KR m j)) (.row (s.next + 2) j)])) (.row j)) (.cells zeroK.av)) (s.next + 3) (.cells x.av)) (s.next + 2) (.row (j + 1)), AState.set (AState.set (AState.set (AState.new (AState.new (AState.new (AState.new { s with base := ⟨s.next, []⟩ } (.map (entA m))) (.cells [.sl 9 (rowsA (KR m j)) (.row (s.next + 2) j)])) (.row j)) (.cells zeroK.av)) (s.next + 3) (.cells x.av)) (s.next + 2) (.row (j + 1))) (s.next + 1) (.cells [.sl 9 (rowsA (KR m j) ++ [Row.av ⟨x, m.get x⟩]) (.row (s.next + 2) (j + 1))])] [some 9, some 9, some 9, some 9, some 2, some 9, some 9, some 9, some 9, some 9, some 9, none, some 9, some 9, none] mixed ?_; simp only [h0, gx, keysA_len, sortK_len, hrm,  ↓EX, EY, ↓EH, push_cast, ↓EPM, ↓reduceIte, seval, reduceCtorEq]
          refine qlookC (id := s.next) (es := entA m) (v := .agg (m.get x).av) (m.find x) u85 u39 rfl rfl (ck_key x) (mfind m x) (mval m x) (fun st hst => ?_) ?_
          · simp only [List.take_succ_cons, List.take_zero, List.mem_cons, List.not_mem_nil, or_false] at hst
            rcases hst with rfl | rfl | rfl <;> (simp only [upd, AState.set, AState.new]; (repeat (first | rw [if_neg (by omega)] | rw [if_pos (by omega)] | (simp only [↓reduceIte]; done) | simp only [↓reduceIte])); try rfl)
          simp only [hrm, ↓EX, EY, ↓EH, push_cast, ↓EPM, ↓reduceIte, seval, reduceCtorEq]
          refine ⟨by rw [KR_len (by omega)]; omega, ?_⟩
          refine round_next (j + 1) (by show j + 1 ≤ m.length; omega) (by show m.length - (j + 1) < m.length - j; omega) (AEnt_drop rfl rfl (Nat.le_add_right _ 3) ⟨Nat.le_succ _, fun id hid => ?_⟩ (wfS hwf m _ _) (EntB_all ?_))
          · rw [KR_succ hx, rowsA_append]
            replace hid : id < s.next + 3 := hid
            simp only [AState.set, AState.new]
            (repeat' split) <;> first | rfl | omega
          simp only [hw, push_cast, ↓EPM, ↓reduceIte, seval, reduceCtorEq]
          (try first | omega | ((repeat' apply And.intro) <;> first | omega | (simp only [push_cast, ↓EPM, ↓reduceIte, seval, reduceCtorEq, List.mem_cons, List.not_mem_nil, or_false, forall_eq_or_imp, forall_eq, and_self, true_and, and_true, zeroR]; done) | (simp only [push_cast, ↓EPM, ↓reduceIte, seval, reduceCtorEq, List.mem_cons, List.not_mem_nil, or_false, forall_eq_or_imp, forall_eq, and_self, true_and, and_true, zeroR]; omega)))
        · have hc : ¬ ((j : Int) < (m.length : Int)) := by omega
          simp only [hc, keysA_len, sortK_len, push_cast, ↓EPM, ↓reduceIte, seval, reduceCtorEq]
          have ej : j = m.length := by omega
          subst ej
          refine Ret_freeze (id := s.next + 1) (l := [.ptr (s.next + 1) 0, i64 0]) (l' := [segA (some (mRows m)), i64 0]) (m := [segA (some (mRows m)), i64 0]) (cs := [.sl 9 (rowsA (KR m m.length)) (.row (s.next + 2) m.length)]) (cs' := [.sl 9 (rowsA (mRows m)) .none]) (.inr rfl) rfl (by simp only [push_cast, ↓EPM, ↓reduceIte, seval, reduceCtorEq]) (by (simp only [upd, AState.set, AState.new]; (repeat (first | rw [if_neg (by omega)] | rw [if_pos (by omega)] | (simp only [↓reduceIte]; done) | simp only [↓reduceIte])); try rfl)) ⟨.inr (.inl ?_), trivial⟩ rfl ?_ ⟨.inl rfl, .inl rfl, trivial⟩ rfl (Nat.le_succ _) (by first | exact Keeps.base _ _ | (repeat (first | exact Keeps.base _ _ | refine Keeps.new ?_ _ | refine Keeps.set ?_ (by first | (simp; done) | omega | (simp only [EO]; omega)) _))) ?_
          · rw [KR_all]; rfl
          · simp only [packAV, frz, List.map_cons, List.map_nil, frzL, if_true, segA]
          · simp only [resO, resS, Bel_tup, List.mem_cons, List.not_mem_nil, or_false, forall_eq_or_imp, forall_eq, segA_bel, true_and]
            exact .v _

end Go.Proofs

namespace Go.Proofs
open Go Go.Av Go.Sort
set_option linter.unusedSimpArgs false
set_option linter.unusedVariables false

/-! The rows of a map are the rows put one by one -/
def Srt (l : List Row) : Prop := l.Pairwise fun a b => cmpK a.k b.k < 0

theorem cmp_irr (x : Key) : ¬ cmpK x x < 0 := by have := (good_key.zero x x).2 rfl; omega
theorem cmp_asym {x y : Key} (h : cmpK x y < 0) : ¬ cmpK y x < 0 := by have := (good_key.anti x y).1 h; omega

def rlt (a b : Row) : Prop := cmpK a.k b.k < 0
theorem rlt_asym (a b : Row) (h1 : rlt a b) (h2 : rlt b a) : a = b := absurd h2 (cmp_asym (x := a.k) (y := b.k) h1)
theorem rlt_ne (a b : Row) (h : rlt a b) : a ≠ b := by
  intro e
  subst e
  exact cmp_irr _ h
theorem srt_nodup {l : List Row} (h : l.Pairwise rlt) : l.Nodup := h.imp (fun {a b} h => rlt_ne a b h)
theorem srt_ext {l m : List Row} (hl : Srt l) (hm : Srt m) (h : ∀ r, r ∈ l ↔ r ∈ m) : l = m := by
  have hp : l.Perm m := (List.perm_ext_iff_of_nodup (srt_nodup hl) (srt_nodup hm)).2 h
  exact List.Perm.eq_of_pairwise (fun a b _ _ h1 h2 => rlt_asym a b h1 h2) (show l.Pairwise rlt from hl) (show m.Pairwise rlt from hm) hp

theorem mRows_mem {m : KM} {r : Row} : r ∈ mRows m ↔ r.k ∈ m.map (·.1) ∧ r.c = m.get r.k := by
  simp only [mRows, List.mem_map]
  constructor
  · rintro ⟨k, hk, rfl⟩
    exact ⟨List.mem_map.1 ((sortK_perm _).mem_iff.1 hk), rfl⟩
  · rintro ⟨h1, h2⟩
    exact ⟨r.k, (sortK_perm _).mem_iff.2 (List.mem_map.2 h1), by cases r; simp only at h2; rw [← h2]⟩

theorem mRows_srt {m : KM} (hn : (m.map (·.1)).Nodup) : Srt (mRows m) := by
  unfold Srt mRows
  rw [List.pairwise_map]
  have h1 := sortK_sorted (m.map (·.1))
  have h2 : (sortK (m.map (·.1))).Nodup := (sortK_perm _).nodup_iff.2 hn
  refine (h1.and h2).imp fun {a b} h => ?_
  obtain ⟨h3, h4⟩ := h
  have h5 : cmpK a b ≠ 0 := fun e => h4 ((good_key.zero a b).1 e)
  have h6 := good_key.anti b a
  show cmpK a b < 0
  omega

theorem KM.get_put (m : KM) (k k' : Key) (c : Cell) : (m.put k c).get k' = if k' = k then c else m.get k' := by
  have key : ∀ (m : KM) (k : Key) (c : Cell), (∃ i, m[i]? = some (k, c) ∧ ∀ (j : Nat) (q : Key × Cell), j < i → m[j]? = some q → q.1 ≠ k) → m.get k = c := by
    intro m k c ⟨i, h1, h2⟩
    cases h : m.find k with
    | none => exact absurd rfl (KM.find_none h (k, c) (List.mem_of_getElem? h1))
    | some j =>
      obtain ⟨c', h3, h4⟩ := KM.find_some h
      have : j = i := by
        rcases Nat.lt_trichotomy i j with hl | hl | hl
        · exact absurd rfl (h4 i _ hl h1)
        · exact hl.symm
        · exact absurd rfl (h2 j _ hl h3)
      subst this
      simp [KM.get, h, h1]
  have keyN : ∀ (m : KM) (k : Key), (∀ q ∈ m, q.1 ≠ k) → m.get k = zeroC := by
    intro m k hq
    cases h : m.find k with
    | none => simp [KM.get, h]
    | some j =>
      obtain ⟨c', h3, _⟩ := KM.find_some h
      exact absurd rfl (hq _ (List.mem_of_getElem? h3))
  have keyG : ∀ (m : KM) (k : Key) i c, m.find k = some i → m[i]? = some (k, c) → m.get k = c := by
    intro m k i c h1 h2; simp [KM.get, h1, h2]
  cases h : m.find k with
  | some i =>
    obtain ⟨c0, h1, h2⟩ := KM.find_some h
    have hil := (List.getElem?_eq_some_iff.1 h1).1
    have hput : m.put k c = m.set i (k, c) := by simp [KM.put, h]
    rw [hput]
    by_cases e : k' = k
    · subst e
      rw [if_pos rfl]
      refine key _ _ _ ⟨i, by rw [List.getElem?_set_self hil], fun j q hj hq => ?_⟩
      rw [List.getElem?_set_ne (by omega)] at hq
      exact h2 j q hj hq
    · rw [if_neg e]
      cases h' : m.find k' with
      | none =>
        rw [show m.get k' = zeroC by simp [KM.get, h']]
        refine keyN _ _ fun q hq => ?_
        rcases List.mem_or_eq_of_mem_set hq with hq | rfl
        · exact KM.find_none h' q hq
        · exact fun e2 => e e2.symm
      | some i' =>
        obtain ⟨c', h3, h4⟩ := KM.find_some h'
        rw [keyG m k' i' c' h' h3]
        have hne : i ≠ i' := by rintro rfl; rw [h1] at h3; cases h3; exact e rfl
        refine key _ _ _ ⟨i', by rw [List.getElem?_set_ne hne]; exact h3, fun j q hj hq => ?_⟩
        by_cases hji : i = j
        · subst hji; rw [List.getElem?_set_self hil] at hq; cases hq; exact fun e2 => e e2.symm
        · rw [List.getElem?_set_ne hji] at hq; exact h4 j q hj hq
  | none =>
    have hput : m.put k c = m ++ [(k, c)] := by simp [KM.put, h]
    rw [hput]
    by_cases e : k' = k
    · subst e
      rw [if_pos rfl]
      refine key _ _ _ ⟨m.length, by simp, fun j q hj hq => ?_⟩
      rw [List.getElem?_append_left hj] at hq
      exact KM.find_none h q (List.mem_of_getElem? hq)
    · rw [if_neg e]
      cases h' : m.find k' with
      | none =>
        rw [show m.get k' = zeroC by simp [KM.get, h']]
        refine keyN _ _ fun q hq => ?_
        rcases List.mem_append.1 hq with hq | hq
        · exact KM.find_none h' q hq
        · simp at hq; subst hq; exact fun e2 => e e2.symm
      | some i' =>
        obtain ⟨c', h3, h4⟩ := KM.find_some h'
        rw [keyG m k' i' c' h' h3]
        have hil := (List.getElem?_eq_some_iff.1 h3).1
        refine key _ _ _ ⟨i', by rw [List.getElem?_append_left hil]; exact h3, fun j q hj hq => ?_⟩
        rw [List.getElem?_append_left (by omega)] at hq
        exact h4 j q hj hq

theorem KM.put_mem (m : KM) (k k' : Key) (c : Cell) : k' ∈ (m.put k c).map (·.1) ↔ k' = k ∨ k' ∈ m.map (·.1) := by
  rw [KM.put_keys]
  split
  · simp only [List.mem_append, List.mem_cons, List.not_mem_nil, or_false]; exact Or.comm
  · rename_i h
    refine ⟨.inr, fun h' => ?_⟩
    rcases h' with rfl | h'
    · cases e : m.find k' with
      | none => exact absurd e h
      | some i =>
        obtain ⟨c', h1, _⟩ := KM.find_some e
        exact List.mem_map.2 ⟨_, List.mem_of_getElem? h1, rfl⟩
    · exact h'
theorem KM.put_nodup (m : KM) (k : Key) (c : Cell) (hn : (m.map (·.1)).Nodup) : ((m.put k c).map (·.1)).Nodup := by
  rw [KM.put_keys]
  split
  · rename_i h
    rw [List.nodup_append]
    refine ⟨hn, by simp, fun a ha b hb e => ?_⟩
    simp at hb; subst hb; subst e
    obtain ⟨q, hq, e⟩ := List.mem_map.1 ha
    exact KM.find_none h q hq e
  · exact hn

theorem KM.get_none {m : KM} {k : Key} (h : k ∉ m.map (·.1)) : m.get k = zeroC := by
  cases e : m.find k with
  | none => simp [KM.get, e]
  | some i =>
    obtain ⟨c', h1, _⟩ := KM.find_some e
    exact absurd (List.mem_map.2 ⟨_, List.mem_of_getElem? h1, rfl⟩) h

theorem merge_zero (c : Cell) : mergeC zeroC c = some c := by simp [mergeC, zeroC]

/-- Where a row is put among rows in order. -/
theorem putL_cases {l : List Row} (hl : Srt l) (x : Row) :
    (x.k ∉ l.map Row.k ∧ ∃ l', putL l x = some l' ∧ Srt l' ∧ ∀ r, r ∈ l' ↔ r = x ∨ r ∈ l) ∨
    (∃ y ∈ l, y.k = x.k ∧ putL l x = (mergeC y.c x.c).map (fun c => (l.takeWhile fun r => decide (cmpK r.k x.k < 0)) ++ ⟨x.k, c⟩ :: (l.dropWhile fun r => decide (cmpK r.k x.k < 0)).tail) ∧
      ∀ c, Srt ((l.takeWhile fun r => decide (cmpK r.k x.k < 0)) ++ ⟨x.k, c⟩ :: (l.dropWhile fun r => decide (cmpK r.k x.k < 0)).tail) ∧
        ∀ r, r ∈ (l.takeWhile fun r => decide (cmpK r.k x.k < 0)) ++ ⟨x.k, c⟩ :: (l.dropWhile fun r => decide (cmpK r.k x.k < 0)).tail ↔ r = ⟨x.k, c⟩ ∨ (r ∈ l ∧ r.k ≠ x.k)) := by
  unfold putL
  have hsplit : l.takeWhile (fun r => decide (cmpK r.k x.k < 0)) ++ l.dropWhile (fun r => decide (cmpK r.k x.k < 0)) = l := List.takeWhile_append_dropWhile
  have hpre : ∀ r ∈ l.takeWhile (fun r => decide (cmpK r.k x.k < 0)), cmpK r.k x.k < 0 := fun r hr => by simpa using mem_takeWhile hr
  have hhead := fun y t => head_dropWhile (p := fun r : Row => decide (cmpK r.k x.k < 0)) (l := l) (y := y) (t := t)
  generalize l.takeWhile (fun r => decide (cmpK r.k x.k < 0)) = pre at *
  generalize l.dropWhile (fun r => decide (cmpK r.k x.k < 0)) = rest at *
  subst hsplit
  have hl' := hl
  unfold Srt at hl
  rw [List.pairwise_append] at hl
  obtain ⟨h1, h2, h3⟩ := hl
  have ne_pre : ∀ r ∈ pre, r.k ≠ x.k := fun r hr e => by have := hpre r hr; rw [e] at this; exact cmp_irr _ this
  cases rest with
  | nil =>
    refine .inl ⟨?_, pre ++ [x], rfl, ?_, ?_⟩
    · simp only [List.append_nil, List.mem_map, not_exists, not_and]
      exact ne_pre
    · unfold Srt
      rw [List.pairwise_append]
      exact ⟨h1, by simp, fun a ha b hb => by simp at hb; subst hb; exact hpre a ha⟩
    · intro r; simp [or_comm]
  | cons y t =>
    have hy : ¬ cmpK y.k x.k < 0 := by simpa using hhead y t rfl
    rw [List.pairwise_cons] at h2
    by_cases e : y.k = x.k
    · refine .inr ⟨y, by simp, e, by simp only [putR, if_pos e, List.tail_cons], fun c => ⟨?_, fun r => ?_⟩⟩
      · simp only [List.tail_cons]
        unfold Srt
        rw [List.pairwise_append, List.pairwise_cons]
        refine ⟨h1, ⟨fun b hb => by show cmpK x.k b.k < 0; rw [← e]; exact h2.1 b hb, h2.2⟩, fun a ha b hb => ?_⟩
        rcases List.mem_cons.1 hb with rfl | hb
        · exact hpre a ha
        · exact h3 a ha b (by simp [hb])
      · simp only [List.tail_cons, List.mem_append, List.mem_cons]
        have ne_t : ∀ r ∈ t, r.k ≠ x.k := fun r hr e' => by have := h2.1 r hr; rw [e, e'] at this; exact cmp_irr _ this
        constructor
        · rintro (hr | rfl | hr)
          · exact .inr ⟨.inl hr, ne_pre r hr⟩
          · exact .inl rfl
          · exact .inr ⟨.inr (.inr hr), ne_t r hr⟩
        · rintro (rfl | ⟨hr | rfl | hr, hne⟩)
          · exact .inr (.inl rfl)
          · exact .inl hr
          · exact absurd e hne
          · exact .inr (.inr hr)
    · have hxy : cmpK x.k y.k < 0 := by
        have z : cmpK y.k x.k ≠ 0 := fun h => e ((good_key.zero _ _).1 h)
        have := good_key.anti x.k y.k
        omega
      have hxt : ∀ r ∈ t, cmpK x.k r.k < 0 := fun r hr => good_key.trans _ _ _ hxy (h2.1 r hr)
      refine .inl ⟨?_, pre ++ x :: y :: t, by simp only [putR, if_neg e], ?_, ?_⟩
      · simp only [List.map_append, List.map_cons, List.mem_append, List.mem_map, List.mem_cons, not_or, not_exists, not_and]
        exact ⟨ne_pre, fun e' => e e'.symm, fun r hr e' => by have := hxt r hr; rw [e'] at this; exact cmp_irr _ this⟩
      · unfold Srt
        rw [List.pairwise_append, List.pairwise_cons]
        refine ⟨h1, ⟨fun b hb => ?_, List.pairwise_cons.2 h2⟩, fun a ha b hb => ?_⟩
        · rcases List.mem_cons.1 hb with rfl | hb
          · exact hxy
          · exact hxt b hb
        · rcases List.mem_cons.1 hb with rfl | hb
          · exact hpre a ha
          · exact h3 a ha b hb
      · intro r; simp only [List.mem_append, List.mem_cons]; constructor
        · rintro (h | rfl | h)
          · exact .inr (.inl h)
          · exact .inl rfl
          · exact .inr (.inr h)
        · rintro (rfl | h | h)
          · exact .inr (.inl rfl)
          · exact .inl h
          · exact .inr (.inr h)

theorem put_step (m : KM) (hn : (m.map (·.1)).Nodup) (x : Row) : putL (mRows m) x = (mergeC (m.get x.k) x.c).map fun c => mRows (m.put x.k c) := by
  rcases putL_cases (mRows_srt hn) x with ⟨h1, l', h2, h3, h4⟩ | ⟨y, hy, hyk, h2, h3⟩
  · have hk : x.k ∉ m.map (·.1) := fun h => h1 (List.mem_map.2 ⟨⟨x.k, m.get x.k⟩, mRows_mem.2 ⟨h, rfl⟩, rfl⟩)
    rw [h2, KM.get_none hk, merge_zero]
    simp only [Option.map_some, Option.some.injEq]
    refine srt_ext h3 (mRows_srt (KM.put_nodup _ _ _ hn)) fun r => ?_
    rw [h4, mRows_mem, mRows_mem, KM.put_mem, KM.get_put]
    constructor
    · rintro (rfl | ⟨h5, h6⟩)
      · exact ⟨.inl rfl, by rw [if_pos rfl]⟩
      · exact ⟨.inr h5, by rw [if_neg (fun e : r.k = x.k => hk (by rw [← e]; exact h5))]; exact h6⟩
    · rintro ⟨h5, h6⟩
      by_cases e : r.k = x.k
      · rw [if_pos e] at h6
        exact .inl (by cases r; cases x; simp only at e h6; rw [e, h6])
      · rw [if_neg e] at h6
        exact .inr ⟨h5.resolve_left e, h6⟩
  · obtain ⟨hk, hc⟩ := mRows_mem.1 hy
    rw [hyk] at hk hc
    rw [h2, hc]
    cases hm : mergeC (m.get x.k) x.c with
    | none => rfl
    | some c =>
      simp only [Option.map_some, Option.some.injEq]
      refine srt_ext (h3 c).1 (mRows_srt (KM.put_nodup _ _ _ hn)) fun r => ?_
      rw [(h3 c).2, mRows_mem, mRows_mem, KM.put_mem, KM.get_put]
      constructor
      · rintro (rfl | ⟨⟨h5, h6⟩, hne⟩)
        · exact ⟨.inl rfl, by rw [if_pos rfl]⟩
        · exact ⟨.inr h5, by rw [if_neg hne]; exact h6⟩
      · rintro ⟨h5, h6⟩
        by_cases e : r.k = x.k
        · rw [if_pos e] at h6
          exact .inl (by cases r; simp only at e h6; rw [e, h6])
        · rw [if_neg e] at h6
          exact .inr ⟨⟨h5.resolve_left e, h6⟩, e⟩

theorem all_eq : ∀ (l : List Fact) (m : KM), (m.map (·.1)).Nodup → (mAll m l).map mRows = putAll (mRows m) (l.map factRow)
  | [], m, _ => rfl
  | f :: l, m, hn => by
    rw [mAll, List.map_cons, putAll, put_step m hn (factRow f)]
    show ((mergeC (m.get f.k) ⟨1, f.v, f.v, f.v⟩).bind _).map mRows = _
    cases h : mergeC (m.get f.k) ⟨1, f.v, f.v, f.v⟩ with
    | none => simp [factRow, h]
    | some c =>
      simp only [Option.bind_some, factRow, h, Option.map_some]
      exact all_eq l _ (KM.put_nodup _ _ _ hn)

theorem mRows_nil : mRows [] = [] := by simp [mRows, sortK]

theorem ofs_eq (l : List Fact) : (mAll [] l).map mRows = putAll [] (l.map factRow) := by
  have := all_eq l [] List.nodup_nil
  rwa [mRows_nil] at this

end Go.Proofs

namespace Go.Proofs
open Go Go.Av Go.Sort
set_option linter.unusedSimpArgs false
set_option linter.unusedVariables false
set_option maxRecDepth 30000
set_option maxHeartbeats 2000000

def aliveF : List Fact := [⟨⟨0, .empty, .empty, .empty, .empty⟩, 3⟩, ⟨⟨0, .empty, .empty, .empty, .empty⟩, -1⟩]
def aliveR : Row := ⟨⟨0, .empty, .empty, .empty, .empty⟩, ⟨2, 2, -1, 3⟩⟩
theorem alive_rows : (mAll [] aliveF).map mRows = some [aliveR] := by
  rw [ofs_eq]
  have hk : cmpK zeroK zeroK = 0 := (good_key.zero _ _).2 rfl
  have e1 : putL [] ⟨zeroK, ⟨1, 3, 3, 3⟩⟩ = some [⟨zeroK, ⟨1, 3, 3, 3⟩⟩] := rfl
  have e2 : putL [⟨zeroK, ⟨1, 3, 3, 3⟩⟩] ⟨zeroK, ⟨1, -1, -1, -1⟩⟩ = some [⟨zeroK, ⟨2, 2, -1, 3⟩⟩] := by
    have hm : mergeC ⟨1, 3, 3, 3⟩ ⟨1, -1, -1, -1⟩ = some ⟨2, 2, -1, 3⟩ := by decide
    simp [putL, List.takeWhile, List.dropWhile, hk, putR, hm]
  show putAll [] [⟨zeroK, ⟨1, 3, 3, 3⟩⟩, ⟨zeroK, ⟨1, -1, -1, -1⟩⟩] = _
  simp only [putAll, e1, e2, Option.bind_some]
  rfl

theorem alive_spec : APure Try.prog 14 [] (boo true) := by
  intro s
  have h := of_seg aliveF (by decide)
  rw [alive_rows] at h
  have h2 := at_spec [aliveR] 0 aliveR rfl
  have h3 := len_spec (some [aliveR])
  refine enterA ⟨[]⟩ (Try.f14.body.getD .skip) [.tmp 0] Try.func14 fun hwf hbel => ?_; simp only [Try.f14, push_cast, ↓EPM, ↓reduceIte, seval, reduceCtorEq]
  refine h.use ?_
  simp only [resO, push_cast, ↓EPM, ↓reduceIte, seval, reduceCtorEq]
  refine h2.use ?_
  simp only [push_cast, ↓EPM, ↓reduceIte, seval, reduceCtorEq]
  refine h3.use ?_
  simp only [push_cast, ↓EPM, ↓reduceIte, seval, reduceCtorEq]
  refine eqK_use (aeq_cell aliveR.c ⟨2, 2, -1, 3⟩) ?_
  simp only [push_cast, ↓EPM, ↓reduceIte, seval, reduceCtorEq]
  exact RetP [boo true]

def fo : Option (List Row) → Int
  | some _ => 0
  | none => 6
theorem resO_eq (o : Option (List Row)) : resO o = .tup [segA o, i64 (fo o)] := by cases o <;> rfl
theorem resP_eq (o : Option (List Row)) : resP o = .tup [.sl 9 (rowsA (o.getD [])) .none, i64 (fo o)] := by cases o <;> rfl
theorem putAll_len : ∀ (l acc q : List Row), putAll acc l = some q → q.length ≤ acc.length + l.length
  | [], acc, q, h => by simp only [putAll, Option.some.injEq] at h; subst h; simp
  | x :: l, acc, q, h => by
    simp only [putAll] at h
    obtain ⟨a, h1, h2⟩ := Option.bind_eq_some_iff.1 h
    have h3 := putL_len h1
    have h4 := putAll_len l a q h2
    simp only [List.length_cons]
    omega
theorem putAll_getD (l : List Row) : ((putAll [] l).getD []).length ≤ l.length := by
  cases h : putAll [] l with
  | none => simp
  | some q => have := putAll_len l [] q h; simpa using this
theorem u27 : Try.prog.underlying 27 = some (.pointer 89) := by simp only [unders]

theorem segMakes_spec (l : List Fact) (rows : List Row) : APure Try.prog 3 [.sl 6 (factsA l) .none, .sl 9 (rowsA rows) .none] (boo true) := by
  intro s
  have hLF := lightF_spec l
  have hLR := light_spec rows
  by_cases h1 : lightF l = true
  · rw [h1] at hLF
    by_cases h2 : rows.length ≤ 100
    · simp only [h2, decide_true] at hLR
      have hl : l.length ≤ 100 := by simp only [lightF, Bool.and_eq_true, decide_eq_true_eq] at h1; exact h1.1
      have ho := of_seg l (by omega)
      have hr := rof_list l (by omega)
      rw [ofs_eq] at ho
      have hlen := putAll_getD (l.map factRow)
      rw [List.length_map] at hlen
      generalize putAll [] (l.map factRow) = o at ho hr hlen
      rw [resO_eq] at ho
      rw [resP_eq] at hr
      have hb := back_spec o (by omega)
      have hs := same_spec (o.getD []) (o.getD []) (by omega)
      simp only [decide_true] at hs
      have hq := srows_spec rows (by omega)
      have hz := rright_list rows (by omega)
      refine enterA ⟨[]⟩ (Try.f3.body.getD .skip) [.tmp 4] Try.func3 fun hwf hbel => ?_; simp only [Try.f3, push_cast, ↓EPM, ↓reduceIte, seval, reduceCtorEq]
      refine hLF.use ?_
      simp only [push_cast, ↓EPM, ↓reduceIte, seval, reduceCtorEq]
      refine hLR.use ?_
      simp only [push_cast, ↓EPM, ↓reduceIte, seval, reduceCtorEq]
      refine ho.use ?_
      simp only [push_cast, ↓EPM, ↓reduceIte, seval, reduceCtorEq]
      refine hr.use ?_
      simp only [push_cast, ↓EPM, ↓reduceIte, seval, reduceCtorEq]
      refine hb.use ?_
      simp only [push_cast, ↓EPM, ↓reduceIte, seval, reduceCtorEq]
      refine hs.use ?_
      simp only [push_cast, ↓EPM, ↓reduceIte, seval, reduceCtorEq]
      by_cases h3 : rightL none rows = true
      · rw [h3] at hz
        simp only [h3, if_true, resS] at hq
        have hb2 := back_spec (some rows) (show rows.length ≤ 1000000 by omega)
        have hs2 := same_spec rows rows (by omega)
        simp only [decide_true, Option.getD_some] at hs2 hb2
        refine hq.use ?_
        simp only [push_cast, ↓EPM, ↓reduceIte, seval, reduceCtorEq]
        refine hz.use ?_
        simp only [push_cast, ↓EPM, ↓reduceIte, seval, reduceCtorEq]
        refine hb2.use ?_
        simp only [push_cast, ↓EPM, ↓reduceIte, seval, reduceCtorEq]
        refine hs2.use ?_
        simp only [push_cast, ↓EPM, ↓reduceIte, seval, reduceCtorEq]
        refine alive_spec.use ?_
        simp only [push_cast, ↓EPM, ↓reduceIte, seval, reduceCtorEq]
        exact RetP [boo true]
      · have h3 : rightL none rows = false := by simpa using h3
        rw [h3] at hz
        simp only [h3, Bool.false_eq_true, if_false, resS] at hq
        refine hq.use ?_
        simp only [push_cast, ↓EPM, ↓reduceIte, seval, reduceCtorEq]
        refine hz.use ?_
        simp only [segA, push_cast, ↓EPM, ↓reduceIte, seval, reduceCtorEq]
        refine eqK_use (AEq_nil u27) ?_
        simp only [push_cast, ↓EPM, ↓reduceIte, seval, reduceCtorEq]
        refine alive_spec.use ?_
        simp only [push_cast, ↓EPM, ↓reduceIte, seval, reduceCtorEq]
        exact RetP [boo true]
    · simp only [h2, decide_false] at hLR
      refine enterA ⟨[]⟩ (Try.f3.body.getD .skip) [.tmp 4] Try.func3 fun hwf hbel => ?_; simp only [Try.f3, push_cast, ↓EPM, ↓reduceIte, seval, reduceCtorEq]
      refine hLF.use ?_
      simp only [push_cast, ↓EPM, ↓reduceIte, seval, reduceCtorEq]
      refine hLR.use ?_
      simp only [push_cast, ↓EPM, ↓reduceIte, seval, reduceCtorEq]
      refine alive_spec.use ?_
      simp only [push_cast, ↓EPM, ↓reduceIte, seval, reduceCtorEq]
      exact RetP [boo true]
  · have h1 : lightF l = false := by simpa using h1
    rw [h1] at hLF
    refine enterA ⟨[]⟩ (Try.f3.body.getD .skip) [.tmp 4] Try.func3 fun hwf hbel => ?_; simp only [Try.f3, push_cast, ↓EPM, ↓reduceIte, seval, reduceCtorEq]
    refine hLF.use ?_
    simp only [push_cast, ↓EPM, ↓reduceIte, seval, reduceCtorEq]
    refine alive_spec.use ?_
    simp only [push_cast, ↓EPM, ↓reduceIte, seval, reduceCtorEq]
    exact RetP [boo true]

end Go.Proofs

namespace Go.Proofs
open Go Go.Av
set_option maxRecDepth 30000

theorem kFact : kinds Try.prog 5 41 = some [.int .i64, .str, .str, .str, .str, .int .i64] := by kernel_rfl
theorem kRow : kinds Try.prog 5 66 = some [.int .i64, .str, .str, .str, .str, .int .i64, .int .i64, .int .i64, .int .i64] := by kernel_rfl
theorem kKey : kinds Try.prog 5 39 = some [.int .i64, .str, .str, .str, .str] := by kernel_rfl

theorem ks_int {ks : List Knd} {cs : List Value} (h : KsOk (.int .i64 :: ks) cs) : ∃ (x : Int64) (r : List Value), cs = .int .i64 x.toInt :: r ∧ KsOk ks r := by
  obtain ⟨v, hv, n, rfl, hw⟩ := h.2 0 _ rfl
  cases cs with
  | nil => cases hv
  | cons c r =>
    cases hv
    have hx : -9223372036854775808 ≤ n ∧ n ≤ 9223372036854775807 := by simpa [Lit.wf, IntKind.min, IntKind.max, IntKind.signed, IntKind.bits] using hw
    refine ⟨Int64.ofInt n, r, ?_, by have := h.1; simpa using this, fun i k hk => by simpa using h.2 (i + 1) k (by simpa using hk)⟩
    rw [Int64.toInt_ofInt_of_le (by omega) (by omega)]
theorem ks_str {ks : List Knd} {cs : List Value} (h : KsOk (.str :: ks) cs) : ∃ (x : ByteArray) (r : List Value), cs = .string x :: r ∧ KsOk ks r := by
  obtain ⟨v, hv, n, rfl, hw⟩ := h.2 0 _ rfl
  cases cs with
  | nil => cases hv
  | cons c r =>
    cases hv
    exact ⟨n, r, rfl, by have := h.1; simpa using this, fun i k hk => by simpa using h.2 (i + 1) k (by simpa using hk)⟩
theorem ks_nil {cs : List Value} (h : KsOk [] cs) : cs = [] := List.eq_nil_of_length_eq_zero (by simpa using h.1)

theorem ks_fact {cs : List Value} (h : KsOk [.int .i64, .str, .str, .str, .str, .int .i64] cs) : ∃ f : Fact, cs.map AV.v = f.av := by
  obtain ⟨x0, r0, rfl, h1⟩ := ks_int h
  obtain ⟨a, r1, rfl, h2⟩ := ks_str h1
  obtain ⟨b, r2, rfl, h3⟩ := ks_str h2
  obtain ⟨c, r3, rfl, h4⟩ := ks_str h3
  obtain ⟨d, r4, rfl, h5⟩ := ks_str h4
  obtain ⟨v, r5, rfl, h6⟩ := ks_int h5
  obtain rfl := ks_nil h6
  exact ⟨⟨⟨x0, a, b, c, d⟩, v⟩, rfl⟩
theorem ks_row {cs : List Value} (h : KsOk [.int .i64, .str, .str, .str, .str, .int .i64, .int .i64, .int .i64, .int .i64] cs) : ∃ f : Row, cs.map AV.v = f.av := by
  obtain ⟨x0, r0, rfl, h1⟩ := ks_int h
  obtain ⟨a, r1, rfl, h2⟩ := ks_str h1
  obtain ⟨b, r2, rfl, h3⟩ := ks_str h2
  obtain ⟨c, r3, rfl, h4⟩ := ks_str h3
  obtain ⟨d, r4, rfl, h5⟩ := ks_str h4
  obtain ⟨n, r5, rfl, h6⟩ := ks_int h5
  obtain ⟨s, r6, rfl, h7⟩ := ks_int h6
  obtain ⟨lo, r7, rfl, h8⟩ := ks_int h7
  obtain ⟨hi, r8, rfl, h9⟩ := ks_int h8
  obtain rfl := ks_nil h9
  exact ⟨⟨⟨x0, a, b, c, d⟩, ⟨n, s, lo, hi⟩⟩, rfl⟩
theorem ks_key {cs : List Value} (h : KsOk [.int .i64, .str, .str, .str, .str] cs) : ∃ f : Key, cs.map AV.v = f.av := by
  obtain ⟨x0, r0, rfl, h1⟩ := ks_int h
  obtain ⟨a, r1, rfl, h2⟩ := ks_str h1
  obtain ⟨b, r2, rfl, h3⟩ := ks_str h2
  obtain ⟨c, r3, rfl, h4⟩ := ks_str h3
  obtain ⟨d, r4, rfl, h5⟩ := ks_str h4
  obtain rfl := ks_nil h5
  exact ⟨⟨x0, a, b, c, d⟩, rfl⟩
theorem ks_list {α : Type} {ks : List Knd} {av : α → List AV} (hone : ∀ cs, KsOk ks cs → ∃ x, cs.map AV.v = av x) : ∀ css : List (List Value), (∀ cs ∈ css, KsOk ks cs) → ∃ l : List α, css.map (·.map AV.v) = l.map av
  | [], _ => ⟨[], rfl⟩
  | cs :: css, h => by
    obtain ⟨x, hx⟩ := hone cs (h cs (by simp))
    obtain ⟨l, hl⟩ := ks_list hone css (fun c hc => h c (by simp [hc]))
    exact ⟨x :: l, by simp [hx, hl]⟩

section
variable {H : Type} {enc : TypeId × Value → H} {w : World} {base : Nat} {spare : Nat → Bool} {held : Bool}
theorem open_facts {v : Value} {D : DataW H} {ps : List MemPlace} (hval : Value.okWide Try.prog w .any base 22 v) (h : DataW.Trod enc Try.prog w 0 spare held 22 v D ps) : ∃ l : List Fact, R Gh.all w v (.sl 6 (factsA l) .none) := by
  obtain ⟨css, h1, h2⟩ := open_row (e := 41) Try.underlying22 kFact (by kernel_rfl) (by decide) hval h
  obtain ⟨l, hl⟩ := ks_list (fun cs h => ks_fact h) css h1
  rw [hl] at h2
  exact ⟨l, h2⟩
theorem open_rows {v : Value} {D : DataW H} {ps : List MemPlace} (hval : Value.okWide Try.prog w .any base 23 v) (h : DataW.Trod enc Try.prog w 0 spare held 23 v D ps) : ∃ l : List Row, R Gh.all w v (.sl 9 (rowsA l) .none) := by
  obtain ⟨css, h1, h2⟩ := open_row (e := 66) Try.underlying23 kRow (by kernel_rfl) (by decide) hval h
  obtain ⟨l, hl⟩ := ks_list (fun cs h => ks_row h) css h1
  rw [hl] at h2
  exact ⟨l, h2⟩
theorem open_keyA {v : Value} {D : DataW H} {ps : List MemPlace} (hval : Value.okWide Try.prog w .any base 39 v) (h : DataW.Trod enc Try.prog w 0 spare held 39 v D ps) : ∃ k : Key, R Gh.all w v (.agg k.av) := by
  have h1 := open_flat kKey h
  have hu : Try.prog.underlying 39 = some (TypeDesc.struct #[{ name := "Hour", type := 2, offset := 0, embedded := false, tag := "", pkgPath := "", byteOffset := 0 }, { name := "Dims", type := 37, offset := 1, embedded := false, tag := "", pkgPath := "", byteOffset := 8 }]) := by simp only [unders]
  simp only [Value.okWide, hu] at hval
  obtain ⟨cs, rfl, _⟩ := hval
  have h2 := open_agg (w := w) (cs := cs) h1
  obtain ⟨k, hk⟩ := ks_key h1
  exact ⟨k, by rw [← hk]; exact h2⟩
theorem open_i64 {n : Int} (y : (Lit.int .i64 n).wf = true) : ∃ a : Int64, R Gh.all w (.int .i64 n) (i6 a) := by
  have hx : -9223372036854775808 ≤ n ∧ n ≤ 9223372036854775807 := by simpa [Lit.wf, IntKind.min, IntKind.max, IntKind.signed, IntKind.bits] using y
  refine ⟨Int64.ofInt n, ?_⟩
  rw [i6, Int64.toInt_ofInt_of_le (by omega) (by omega)]
  exact .v rfl
end

end Go.Proofs

namespace Go.Proofs
open Go Go.Av Go.Sort
set_option linter.unusedSimpArgs false
set_option linter.unusedVariables false
set_option maxRecDepth 30000
set_option maxHeartbeats 2000000

theorem equal_spec (l m : List Row) (hl : l.length ≤ 1000000) : APure Try.prog 59 [.sl 9 (rowsA l) .none, .sl 9 (rowsA m) .none] (boo (decide (l = m))) := by
  intro s
  by_cases hlen : l.length = m.length
  · generalize hr : decide (l = m) = r
    have hlen' : (l.length : Int) = (m.length : Int) := by omega
    refine enterA ⟨[]⟩ (Try.f59.body.getD .skip) [.tmp 4] Try.func59 fun hwf hbel => ?_; simp only [hlen',Try.f59, push_cast, ↓EPM, ↓reduceIte, seval, reduceCtorEq]
    refine ALoop_inv (ι := Nat) (fun i => i ≤ l.length ∧ r = decide (l.drop i = m.drop i)) (fun i => envL [(0, .sl 9 (rowsA l) .none), (1, .sl 9 (rowsA m) .none), (12, i64 l.length), (13, i64 i)]) (fun _ => { s with base := ⟨s.next, []⟩ }) (fun i => l.length - i) 0 ⟨Nat.zero_le _, by rw [← hr]; rfl⟩ (ent rfl ?_) (fun i hi => ?_)
    · simp only [hlen', push_cast, ↓EPM, ↓reduceIte, seval, reduceCtorEq]
    · obtain ⟨hi, hs⟩ := hi
      by_cases hlt : i < l.length
      · obtain ⟨x, hx⟩ : ∃ x, l[i]? = some x := ⟨_, List.getElem?_eq_getElem hlt⟩
        obtain ⟨y, hy⟩ : ∃ y, m[i]? = some y := ⟨_, List.getElem?_eq_getElem (by omega)⟩
        have gx := rowsA_get hx
        have gy := rowsA_get hy
        have hc : ((i : Int) < (l.length : Int)) := by omega
        have hc2 : ((i : Int) < (m.length : Int)) := by omega
        have h0 : (0 : Int) ≤ (i : Int) := by omega
        have hw : IntKind.i64.wrap ((i : Int) + 1) = (i : Int) + 1 := wrap_in (by omega) (by omega)
        simp only [hc, push_cast, ↓EPM, ↓reduceIte, seval, reduceCtorEq]
        refine drawA mixed ?_; simp only [hc, hc2, h0, gx, gy, push_cast, ↓EPM, ↓reduceIte, seval, reduceCtorEq]
        refine eqK_use (aeq_row x y) ?_
        by_cases hxy : x = y
        · simp only [hxy, hw, bne_self_eq_false, push_cast, ↓EPM, ↓reduceIte, seval, reduceCtorEq]
          refine round_next (i + 1) ⟨by omega, by rw [hs, drop_get hx, drop_get hy, hxy]; simp⟩ (by omega) (ent rfl ?_)
          simp only [push_cast, ↓EPM, ↓reduceIte, seval, reduceCtorEq]
        · simp only [hxy, push_cast, ↓EPM, ↓reduceIte, seval, reduceCtorEq]
          rw [show r = false by rw [hs, drop_get hx, drop_get hy]; simp [hxy]]
          exact RetP [boo false]
      · have hc : ¬ ((i : Int) < (l.length : Int)) := by omega
        simp only [hc, push_cast, ↓EPM, ↓reduceIte, seval, reduceCtorEq]
        rw [show r = true by rw [hs, List.drop_eq_nil_of_le (by omega), List.drop_eq_nil_of_le (by omega)]; simp]
        exact RetP [boo true]
  · have hlen' : ¬ ((l.length : Int) = (m.length : Int)) := by omega
    rw [show decide (l = m) = false by simp only [decide_eq_false_iff_not]; intro e; exact hlen (by rw [e])]
    refine enterA ⟨[]⟩ (Try.f59.body.getD .skip) [.tmp 4] Try.func59 fun hwf hbel => ?_; simp only [hlen',Try.f59, push_cast, ↓EPM, ↓reduceIte, seval, reduceCtorEq]
    exact RetP [boo false]

theorem sames_spec (a b : Option (List Row)) (hl : (a.getD []).length ≤ 1000000) : APure Try.prog 23 [segA a, segA b] (boo (decide (a.getD [] = b.getD []))) := by
  intro s
  refine enterA ⟨[]⟩ (Try.f23.body.getD .skip) [.tmp 4] Try.func23 fun hwf hbel => ?_; simp only [Try.f23, push_cast, ↓EPM, ↓reduceIte, seval, reduceCtorEq]
  refine (rows_spec a).use ?_
  simp only [push_cast, ↓EPM, ↓reduceIte, seval, reduceCtorEq]
  refine (rows_spec b).use ?_
  simp only [push_cast, ↓EPM, ↓reduceIte, seval, reduceCtorEq]
  refine (equal_spec _ _ hl).use ?_
  simp only [push_cast, ↓EPM, ↓reduceIte, seval, reduceCtorEq]
  exact RetP [boo (decide (a.getD [] = b.getD []))]

end Go.Proofs

namespace Go.Proofs
open Go Go.Av Go.Sort
set_option linter.unusedSimpArgs false
set_option linter.unusedVariables false

/-! Rows by their keys -/
def getR : List Row → Key → Option Cell
  | [], _ => none
  | r :: l, k => if r.k = k then some r.c else getR l k

theorem getR_none {l : List Row} {k : Key} (h : ∀ r ∈ l, r.k ≠ k) : getR l k = none := by
  induction l with
  | nil => rfl
  | cons r l ih => rw [getR, if_neg (h r (by simp))]; exact ih fun x hx => h x (by simp [hx])
theorem getR_lt {l : List Row} {k : Key} (h : ∀ r ∈ l, cmpK k r.k < 0) : getR l k = none := getR_none fun r hr e => by have := h r hr; rw [e] at this; exact cmp_irr _ this
theorem getR_some {l : List Row} {k : Key} {c : Cell} (h : getR l k = some c) : (⟨k, c⟩ : Row) ∈ l := by
  induction l with
  | nil => cases h
  | cons r l ih =>
    rw [getR] at h
    split at h
    · rename_i e; cases h; subst e; simp
    · exact List.mem_cons_of_mem _ (ih h)
theorem Srt.tail {x : Row} {l : List Row} (h : Srt (x :: l)) : Srt l := (List.pairwise_cons.1 h).2
theorem Srt.head {x : Row} {l : List Row} (h : Srt (x :: l)) : ∀ r ∈ l, cmpK x.k r.k < 0 := (List.pairwise_cons.1 h).1
theorem Srt.cons {x : Row} {l : List Row} (h : Srt l) (hx : ∀ r ∈ l, cmpK x.k r.k < 0) : Srt (x :: l) := List.pairwise_cons.2 ⟨hx, h⟩
theorem Srt.nil : Srt [] := List.Pairwise.nil
theorem getR_mem {l : List Row} (hl : Srt l) {r : Row} (h : r ∈ l) : getR l r.k = some r.c := by
  induction l with
  | nil => cases h
  | cons x l ih =>
    rw [getR]
    rcases List.mem_cons.1 h with rfl | h
    · rw [if_pos rfl]
    · have hlt := hl.head r h
      rw [if_neg (fun e => by rw [e] at hlt; exact cmp_irr _ hlt)]
      exact ih hl.tail h
theorem getR_ext {l m : List Row} (hl : Srt l) (hm : Srt m) (h : ∀ k, getR l k = getR m k) : l = m := by
  refine srt_ext hl hm fun r => ⟨fun hr => ?_, fun hr => ?_⟩
  · have := getR_mem hl hr; rw [h] at this; exact getR_some this
  · have := getR_mem hm hr; rw [← h] at this; exact getR_some this
theorem getR_head {x : Row} {l : List Row} : getR (x :: l) x.k = some x.c := by rw [getR, if_pos rfl]
theorem getR_ne {x : Row} {l : List Row} {k : Key} (h : x.k ≠ k) : getR (x :: l) k = getR l k := by rw [getR, if_neg h]

def comb : Option Cell → Option Cell → Option Cell
  | none, y => y
  | x, none => x
  | some c, some d => mergeC c d
theorem comb_none_right (x : Option Cell) : comb x none = x := by cases x <;> rfl
theorem comb_none_left (x : Option Cell) : comb none x = x := rfl

/-- What two lists of rows come to. -/
def IsBoth (a b : List Row) : Option (List Row) → Prop
  | some q => Srt q ∧ (∀ k, getR q k = comb (getR a k) (getR b k)) ∧ ∀ k c d, getR a k = some c → getR b k = some d → mergeC c d ≠ none
  | none => ∃ k c d, getR a k = some c ∧ getR b k = some d ∧ mergeC c d = none

theorem IsBoth.unique {a b : List Row} {o p : Option (List Row)} (h : IsBoth a b o) (h' : IsBoth a b p) : o = p := by
  cases o with
  | none =>
    cases p with
    | none => rfl
    | some q => obtain ⟨k, c, d, h1, h2, h3⟩ := h; exact absurd h3 (h'.2.2 k c d h1 h2)
  | some q =>
    cases p with
    | none => obtain ⟨k, c, d, h1, h2, h3⟩ := h'; exact absurd h3 (h.2.2 k c d h1 h2)
    | some q' => rw [getR_ext h.1 h'.1 fun k => by rw [h.2.1, h'.2.1]]

theorem keys_of_comb {a b q : List Row} (hq : Srt q) (h : ∀ k, getR q k = comb (getR a k) (getR b k)) {r : Row} (hr : r ∈ q) : (∃ x ∈ a, x.k = r.k) ∨ (∃ x ∈ b, x.k = r.k) := by
  have h1 := getR_mem hq hr
  rw [h] at h1
  cases e : getR a r.k with
  | some c => exact .inl ⟨_, getR_some e, rfl⟩
  | none =>
    rw [e, comb_none_left] at h1
    exact .inr ⟨_, getR_some h1, rfl⟩

theorem both_is : ∀ (a b : List Row), Srt a → Srt b → IsBoth a b (bothL a b)
  | [], b, _, hb => by rw [bothL]; exact ⟨hb, fun k => rfl, fun k c d h => by cases h⟩
  | x :: a, [], ha, _ => by rw [bothL]; exact ⟨ha, fun k => by rw [show getR [] k = none from rfl, comb_none_right], fun k c d _ h => by cases h⟩
  | x :: a, y :: b, ha, hb => by
    rw [bothL]
    by_cases h1 : 0 < cmpK x.k y.k
    · rw [if_pos h1]
      have hyx : cmpK y.k x.k < 0 := (good_key.anti _ _).2 h1
      have hya : ∀ r ∈ x :: a, cmpK y.k r.k < 0 := fun r hr => by
        rcases List.mem_cons.1 hr with rfl | hr
        · exact hyx
        · exact good_key.trans _ _ _ hyx (ha.head r hr)
      have ih := both_is (x :: a) b ha hb.tail
      have gy : getR (x :: a) y.k = none := getR_lt hya
      cases e : bothL (x :: a) b with
      | none =>
        rw [e] at ih
        obtain ⟨k, c, d, q1, q2, q3⟩ := ih
        refine ⟨k, c, d, q1, ?_, q3⟩
        rw [getR_ne (fun e => by rw [e, q1] at gy; cases gy)]; exact q2
      | some q =>
        rw [e] at ih
        obtain ⟨i1, i2, i3⟩ := ih
        refine ⟨i1.cons fun r hr => ?_, fun k => ?_, fun k c d g1 g2 => ?_⟩
        · rcases keys_of_comb i1 i2 hr with ⟨z, hz, ez⟩ | ⟨z, hz, ez⟩
          · rw [← ez]; exact hya z hz
          · rw [← ez]; exact hb.head z hz
        · by_cases ek : y.k = k
          · subst ek; rw [getR_head, getR_head, gy]; rfl
          · rw [getR_ne ek, getR_ne ek, i2]
        · have ek : y.k ≠ k := fun ek => by rw [← ek, gy] at g1; cases g1
          rw [getR_ne ek] at g2
          exact i3 k c d g1 g2
    · rw [if_neg h1]
      by_cases h2 : cmpK x.k y.k = 0
      · rw [if_pos h2]
        have exy : x.k = y.k := (good_key.zero _ _).1 h2
        have ih := both_is a b ha.tail hb.tail
        have gx : getR a x.k = none := getR_lt ha.head
        have gy : getR b x.k = none := by rw [exy]; exact getR_lt hb.head
        cases em : mergeC x.c y.c with
        | none => exact ⟨x.k, x.c, y.c, getR_head, by rw [exy]; exact getR_head, em⟩
        | some c =>
          simp only [Option.bind_some]
          cases e : bothL a b with
          | none =>
            rw [e] at ih
            obtain ⟨k, c', d, q1, q2, q3⟩ := ih
            have ek : x.k ≠ k := fun e => by rw [e, q1] at gx; cases gx
            exact ⟨k, c', d, by rw [getR_ne ek]; exact q1, by rw [getR_ne (by rw [← exy]; exact ek)]; exact q2, q3⟩
          | some q =>
            rw [e] at ih
            obtain ⟨i1, i2, i3⟩ := ih
            refine ⟨Srt.cons i1 fun r hr => ?_, fun k => ?_, fun k c' d g1 g2 => ?_⟩
            · show cmpK x.k r.k < 0
              rcases keys_of_comb i1 i2 hr with ⟨z, hz, ez⟩ | ⟨z, hz, ez⟩
              · rw [← ez]; exact ha.head z hz
              · rw [← ez, exy]; exact hb.head z hz
            · by_cases ek : x.k = k
              · subst ek
                rw [getR, if_pos rfl, getR_head, exy, getR_head]
                exact em.symm
              · have ek' : y.k ≠ k := by rw [← exy]; exact ek
                rw [getR, if_neg ek, getR_ne ek, getR_ne ek', i2]
            · by_cases ek : x.k = k
              · subst ek
                rw [getR_head] at g1
                rw [exy, getR_head] at g2
                cases g1; cases g2
                rw [em]; exact fun h => by cases h
              · have ek' : y.k ≠ k := by rw [← exy]; exact ek
                rw [getR_ne ek] at g1; rw [getR_ne ek'] at g2
                exact i3 k c' d g1 g2
      · rw [if_neg h2]
        have hxy : cmpK x.k y.k < 0 := by omega
        have hxb : ∀ r ∈ y :: b, cmpK x.k r.k < 0 := fun r hr => by
          rcases List.mem_cons.1 hr with rfl | hr
          · exact hxy
          · exact good_key.trans _ _ _ hxy (hb.head r hr)
        have ih := both_is a (y :: b) ha.tail hb
        have gx : getR (y :: b) x.k = none := getR_lt hxb
        cases e : bothL a (y :: b) with
        | none =>
          rw [e] at ih
          obtain ⟨k, c, d, q1, q2, q3⟩ := ih
          exact ⟨k, c, d, by rw [getR_ne (fun e => by rw [e, q2] at gx; cases gx)]; exact q1, q2, q3⟩
        | some q =>
          rw [e] at ih
          obtain ⟨i1, i2, i3⟩ := ih
          refine ⟨i1.cons fun r hr => ?_, fun k => ?_, fun k c d g1 g2 => ?_⟩
          · rcases keys_of_comb i1 i2 hr with ⟨z, hz, ez⟩ | ⟨z, hz, ez⟩
            · rw [← ez]; exact ha.head z hz
            · rw [← ez]; exact hxb z hz
          · by_cases ek : x.k = k
            · subst ek; rw [getR_head, getR_head, gx]; rfl
            · rw [getR_ne ek, getR_ne ek, i2]
          · have ek : x.k ≠ k := fun ek => by rw [← ek, gx] at g2; cases g2
            rw [getR_ne ek] at g1
            exact i3 k c d g1 g2
  termination_by a b => a.length + b.length

/-- A row put among rows: both, of it alone. -/
theorem put_is {l : List Row} (hl : Srt l) (x : Row) : IsBoth l [x] (putL l x) := by
  have g1 : ∀ k, getR [x] k = if x.k = k then some x.c else none := fun k => rfl
  rcases putL_cases hl x with ⟨h1, l', h2, h3, h4⟩ | ⟨y, hy, hyk, h2, h3⟩
  · have gx : getR l x.k = none := getR_none fun r hr e => h1 (List.mem_map.2 ⟨r, hr, e⟩)
    rw [h2]
    refine ⟨h3, fun k => ?_, fun k c d e1 e2 => ?_⟩
    · rw [g1]
      by_cases ek : x.k = k
      · subst ek; rw [if_pos rfl, gx, comb_none_left]; exact getR_mem h3 ((h4 x).2 (.inl rfl))
      · rw [if_neg ek, comb_none_right]
        cases e : getR l k with
        | some c => exact getR_mem h3 (r := ⟨k, c⟩) ((h4 _).2 (.inr (getR_some e)))
        | none =>
          refine getR_none fun r hr er => ?_
          rcases (h4 r).1 hr with rfl | hr
          · exact ek er
          · have := getR_mem hl hr; rw [er, e] at this; cases this
    · rw [g1] at e2
      split at e2
      · rename_i ek; subst ek; rw [gx] at e1; cases e1
      · cases e2
  · have gx : getR l x.k = some y.c := by rw [← hyk]; exact getR_mem hl hy
    rw [h2]
    cases em : mergeC y.c x.c with
    | none => exact ⟨x.k, y.c, x.c, gx, by rw [g1, if_pos rfl], em⟩
    | some c =>
      simp only [Option.map_some]
      obtain ⟨i1, i2⟩ := h3 c
      refine ⟨i1, fun k => ?_, fun k c' d e1 e2 => ?_⟩
      · rw [g1]
        by_cases ek : x.k = k
        · subst ek
          rw [if_pos rfl, gx]
          show _ = mergeC y.c x.c
          rw [em]
          exact getR_mem i1 (r := ⟨x.k, c⟩) ((i2 _).2 (.inl rfl))
        · rw [if_neg ek, comb_none_right]
          cases e : getR l k with
          | some c => exact getR_mem i1 (r := ⟨k, c⟩) ((i2 _).2 (.inr ⟨getR_some e, fun e' => ek e'.symm⟩))
          | none =>
            refine getR_none fun r hr er => ?_
            rcases (i2 r).1 hr with rfl | ⟨hr, _⟩
            · exact ek er
            · have := getR_mem hl hr; rw [er, e] at this; cases this
      · rw [g1] at e2
        split at e2
        · rename_i ek; subst ek; rw [gx] at e1; cases e1; cases e2; rw [em]; exact fun h => by cases h
        · cases e2

theorem putAll_is : ∀ (b a : List Row), Srt a → Srt b → IsBoth a b (putAll a b)
  | [], a, ha, _ => ⟨ha, fun k => by rw [show getR [] k = none from rfl, comb_none_right], fun k c d _ h => by cases h⟩
  | x :: b, a, ha, hb => by
    rw [putAll]
    have h1 := put_is ha x
    have gx : getR b x.k = none := getR_lt hb.head
    have g1 : ∀ k, getR [x] k = if x.k = k then some x.c else none := fun k => rfl
    cases e : putL a x with
    | none =>
      rw [e] at h1
      obtain ⟨k, c, d, q1, q2, q3⟩ := h1
      rw [g1] at q2
      split at q2
      · rename_i ek; subst ek; cases q2; exact ⟨x.k, c, x.c, q1, getR_head, q3⟩
      · cases q2
    | some a' =>
      rw [e] at h1
      obtain ⟨i1, i2, i3⟩ := h1
      have ih := putAll_is b a' i1 hb.tail
      have gne : ∀ k, x.k ≠ k → getR a' k = getR a k := fun k ek => by rw [i2, g1, if_neg ek, comb_none_right]
      simp only [Option.bind_some]
      cases e2 : putAll a' b with
      | none =>
        rw [e2] at ih
        obtain ⟨k, c, d, q1, q2, q3⟩ := ih
        have ek : x.k ≠ k := fun e => by rw [e, q2] at gx; cases gx
        rw [gne k ek] at q1
        exact ⟨k, c, d, q1, by rw [getR_ne ek]; exact q2, q3⟩
      | some q =>
        rw [e2] at ih
        obtain ⟨j1, j2, j3⟩ := ih
        refine ⟨j1, fun k => ?_, fun k c d q1 q2 => ?_⟩
        · rw [j2]
          by_cases ek : x.k = k
          · subst ek; rw [gx, comb_none_right, i2, g1, if_pos rfl, getR_head]
          · rw [gne k ek, getR_ne ek]
        · by_cases ek : x.k = k
          · subst ek
            rw [getR_head] at q2; cases q2
            exact i3 x.k c x.c q1 (by rw [g1, if_pos rfl])
          · rw [getR_ne ek] at q2
            exact j3 k c d (by rw [gne k ek]; exact q1) q2

theorem both_putAll {a b : List Row} (ha : Srt a) (hb : Srt b) : bothL a b = putAll a b := (both_is a b ha hb).unique (putAll_is b a ha hb)

theorem IsBoth.srt {a b q : List Row} (h : IsBoth a b (some q)) : Srt q := h.1

/-- Right rows are in order. -/
theorem right_srt : ∀ (l : List Row) (p : Option Key), rightL p l = true → Srt l ∧ ∀ k, p = some k → ∀ r ∈ l, cmpK k r.k < 0
  | [], p, _ => ⟨Srt.nil, fun _ _ _ h => by cases h⟩
  | x :: l, p, h => by
    simp only [rightL, Bool.and_eq_true] at h
    obtain ⟨h1, h2⟩ := h
    obtain ⟨i1, i2⟩ := right_srt l (some x.k) h2
    refine ⟨i1.cons (i2 x.k rfl), fun k hk r hr => ?_⟩
    subst hk
    simp only [okRow, Bool.and_eq_true, decide_eq_true_eq] at h1
    rcases List.mem_cons.1 hr with rfl | hr
    · exact h1.1
    · exact good_key.trans _ _ _ h1.1 (i2 x.k rfl r hr)

end Go.Proofs

namespace Go.Proofs
open Go Go.Av Go.Sort
set_option linter.unusedSimpArgs false
set_option linter.unusedVariables false
set_option maxRecDepth 30000
set_option maxHeartbeats 2000000

def segsA (l : List (Option (List Row))) : List (List AV) := l.map fun o => [segA o]
def mapsA (l : List (List Row)) : List (List AV) := l.map fun o => [.sl 9 (rowsA o) .none]
theorem segsA_len (l : List (Option (List Row))) : (segsA l).length = l.length := by simp [segsA]
theorem mapsA_len (l : List (List Row)) : (mapsA l).length = l.length := by simp [mapsA]
theorem segsA_get {l : List (Option (List Row))} {i : Nat} {x : Option (List Row)} (h : l[i]? = some x) : (segsA l).getD i [] = [segA x] := by simp [segsA, List.getD, h]
theorem mapsA_get {l : List (List Row)} {i : Nat} {x : List Row} (h : l[i]? = some x) : (mapsA l).getD i [] = [.sl 9 (rowsA x) .none] := by simp [mapsA, List.getD, h]
theorem segsA_bel (n : Nat) (l : List (Option (List Row))) : (∀ c ∈ segsA l, ∀ x ∈ c, Bel n x) = True := by
  apply eq_true
  intro c hc x hx
  simp only [segsA, List.mem_map] at hc
  obtain ⟨o, _, rfl⟩ := hc
  simp only [List.mem_cons, List.not_mem_nil, or_false] at hx
  subst hx
  simp only [segA_bel]
theorem mapsA_bel (n : Nat) (l : List (List Row)) : (∀ c ∈ mapsA l, ∀ x ∈ c, Bel n x) = True := by
  apply eq_true
  intro c hc x hx
  simp only [mapsA, List.mem_map] at hc
  obtain ⟨o, _, rfl⟩ := hc
  simp only [List.mem_cons, List.not_mem_nil, or_false] at hx
  subst hx
  exact Bel_sl.2 ⟨of_eq_true (rowsA_bel _ _), trivial⟩

def mergeAll : List Row → List (Option (List Row)) → Option (List Row)
  | acc, [] => some acc
  | acc, none :: l => mergeAll acc l
  | acc, some b :: l => (bothL acc b).bind fun q => mergeAll q l

def weigh (l : List (Option (List Row))) : Nat := (l.map fun o => (o.getD []).length).sum

theorem bothL_len : ∀ (a b q : List Row), bothL a b = some q → q.length ≤ a.length + b.length
  | [], b, q, h => by rw [bothL] at h; cases h; simp
  | x :: a, [], q, h => by rw [bothL] at h; cases h; simp
  | x :: a, y :: b, q, h => by
    rw [bothL] at h
    split at h
    · obtain ⟨p, hp, rfl⟩ := Option.map_eq_some_iff.1 h
      have := bothL_len (x :: a) b p hp
      simp only [List.length_cons] at this ⊢; omega
    · split at h
      · obtain ⟨c, hc, h⟩ := Option.bind_eq_some_iff.1 h
        obtain ⟨p, hp, rfl⟩ := Option.map_eq_some_iff.1 h
        have := bothL_len a b p hp
        simp only [List.length_cons] at this ⊢; omega
      · obtain ⟨p, hp, rfl⟩ := Option.map_eq_some_iff.1 h
        have := bothL_len a (y :: b) p hp
        simp only [List.length_cons] at this ⊢; omega
  termination_by a b => a.length + b.length

theorem weigh_drop {l : List (Option (List Row))} {i : Nat} {x : Option (List Row)} (h : l[i]? = some x) : weigh (l.drop i) = (x.getD []).length + weigh (l.drop (i + 1)) := by
  rw [drop_get h]; simp [weigh]

attribute [push_cast] segsA_len mapsA_len segsA_bel mapsA_bel
theorem box_bel (n : Nat) (l : List Row) : OBel n (.cells [.sl 9 (rowsA l) .none]) := by
  intro c hc
  simp only [List.mem_cons, List.not_mem_nil, or_false] at hc
  subst hc
  exact Bel_sl.2 ⟨of_eq_true (rowsA_bel _ _), trivial⟩

theorem merges_spec (l : List (Option (List Row))) (hl : l.length ≤ 1000) (hw : weigh l ≤ 1000000) : APure Try.prog 21 [.sl 1 (segsA l) .none] (resO (mergeAll [] l)) := by
  intro s
  generalize hr : mergeAll [] l = r
  refine enterA ⟨[]⟩ (Try.f21.body.getD .skip) [.tmp 2, .tmp 3] Try.func21 fun hwf hbel => ?_; simp only [Try.f21, push_cast, ↓EPM, ↓reduceIte, seval, reduceCtorEq]
  refine ALoop_inv (ι := Nat × List Row) (fun i => i.1 ≤ l.length ∧ i.2.length + weigh (l.drop i.1) ≤ 1000000 ∧ r = mergeAll i.2 (l.drop i.1)) (fun i => envL [(4, .ptr s.next 0), (11, .sl 1 (segsA l) .none), (12, i64 l.length), (13, i64 i.1)]) (fun i => AState.new { s with base := ⟨s.next, []⟩ } (.cells [.sl 9 (rowsA i.2) .none])) (fun i => l.length - i.1) (0, []) ⟨Nat.zero_le _, by simpa using hw, by rw [← hr]; rfl⟩ ((AEnt_obj (id := s.next) (cs := [.v (.slice none 0 0)]) (cs' := [.sl 9 [] .none]) (by (simp only [upd, AState.set, AState.new]; (repeat (first | rw [if_neg (by omega)] | rw [if_pos (by omega)] | (simp only [↓reduceIte]; done) | simp only [↓reduceIte])); try rfl)) ⟨of_eq_true (Wv_nil (by decide)), trivial⟩ rfl).trans (AEnt_drop rfl rfl (Nat.le_succ _) ⟨Nat.le_refl _, fun id hid => by simp only [AState.set, AState.new] at hid ⊢; (repeat' split) <;> first | rfl | omega⟩ ((hwf.base _).new (box_bel _ _)) (EntB_all ?_))) (fun i hi => ?_)
  · simp only [push_cast, ↓EPM, ↓reduceIte, seval, reduceCtorEq]
    (try first | omega | ((repeat' apply And.intro) <;> first | omega | (simp only [push_cast, ↓EPM, ↓reduceIte, seval, reduceCtorEq, List.mem_cons, List.not_mem_nil, or_false, forall_eq_or_imp, forall_eq, and_self, true_and, and_true, zeroR]; done) | (simp only [push_cast, ↓EPM, ↓reduceIte, seval, reduceCtorEq, List.mem_cons, List.not_mem_nil, or_false, forall_eq_or_imp, forall_eq, and_self, true_and, and_true, zeroR]; omega)))
  · obtain ⟨i, acc⟩ := i
    obtain ⟨hi, hwi, hs⟩ := hi
    simp only at hi hwi hs
    by_cases hlt : i < l.length
    · obtain ⟨x, hx⟩ : ∃ x, l[i]? = some x := ⟨_, List.getElem?_eq_getElem hlt⟩
      have gx := segsA_get hx
      rw [weigh_drop hx] at hwi
      rw [drop_get hx] at hs
      have hc : ((i : Int) < (l.length : Int)) := by omega
      have h0 : (0 : Int) ≤ (i : Int) := by omega
      have hw : IntKind.i64.wrap ((i : Int) + 1) = (i : Int) + 1 := wrap_in (by omega) (by omega)
      simp only [hc, h0, gx, push_cast, ↓EPM, ↓reduceIte, seval, reduceCtorEq]
      cases x with
      | none =>
        simp only [segA]
        refine eqK_use (AEq_nil u27) ?_
        simp only [hw, push_cast, ↓EPM, ↓reduceIte, seval, reduceCtorEq]
        refine round_next (i + 1, acc) ⟨by simp only; omega, by simp only [Option.getD_none, List.length_nil] at hwi ⊢; omega, by rw [hs]; rfl⟩ (by simp only; omega) (ent rfl ?_)
        simp only [push_cast, ↓EPM, ↓reduceIte, seval, reduceCtorEq]
      | some b =>
        simp only [segA]
        refine eqK_use (AEq_ep u27) ?_
        simp only [push_cast, ↓EPM, ↓reduceIte, seval, reduceCtorEq]
        have hb := both_spec acc b (by simp only [Option.getD_some] at hwi; omega)
        cases hq : bothL acc b with
        | none =>
          rw [hq] at hb
          refine drawA mixed ?_; simp only [push_cast, ↓EPM, ↓reduceIte, seval, reduceCtorEq]
          refine qcall (hb) rfl (by simp only [push_cast, ↓EPM, ↓reduceIte, seval, reduceCtorEq] <;> rfl) ?_; simp only [push_cast, ↓EPM, ↓reduceIte, seval, reduceCtorEq]
          simp only [resB, push_cast, ↓EPM, ↓reduceIte, seval, reduceCtorEq]
          rw [show r = none by rw [hs, mergeAll, hq]; rfl]
          exact RetP [segA none, i64 6]
        | some q =>
          rw [hq] at hb
          have hql := bothL_len acc b q hq
          refine drawA mixed ?_; simp only [push_cast, ↓EPM, ↓reduceIte, seval, reduceCtorEq]
          refine qcall (hb) rfl (by simp only [push_cast, ↓EPM, ↓reduceIte, seval, reduceCtorEq] <;> rfl) ?_; simp only [push_cast, ↓EPM, ↓reduceIte, seval, reduceCtorEq]
          simp only [resB, push_cast, ↓EPM, ↓reduceIte, seval, reduceCtorEq]
          simp only [hw, push_cast, ↓EPM, ↓reduceIte, seval, reduceCtorEq]
          refine round_next (i + 1, q) ⟨by simp only; omega, by simp only [Option.getD_some] at hwi ⊢; omega, by rw [hs, mergeAll, hq]; rfl⟩ (by simp only; omega) (AEnt_drop rfl rfl (Nat.le_succ _) ⟨Nat.le_refl _, fun id hid => by simp only [AState.set, AState.new] at hid ⊢; (repeat' split) <;> first | rfl | omega⟩ ((hwf.base _).new (box_bel _ _)) (EntB_all ?_))
          simp only [push_cast, ↓EPM, ↓reduceIte, seval, reduceCtorEq]
          (try first | omega | ((repeat' apply And.intro) <;> first | omega | (simp only [push_cast, ↓EPM, ↓reduceIte, seval, reduceCtorEq, List.mem_cons, List.not_mem_nil, or_false, forall_eq_or_imp, forall_eq, and_self, true_and, and_true, zeroR]; done) | (simp only [push_cast, ↓EPM, ↓reduceIte, seval, reduceCtorEq, List.mem_cons, List.not_mem_nil, or_false, forall_eq_or_imp, forall_eq, and_self, true_and, and_true, zeroR]; omega)))
    · have hc : ¬ ((i : Int) < (l.length : Int)) := by omega
      simp only [hc, push_cast, ↓EPM, ↓reduceIte, seval, reduceCtorEq]
      rw [show r = some acc by rw [hs, List.drop_eq_nil_of_le (by omega)]; rfl]
      refine Ret_freeze (id := s.next) (l := [.ptr s.next 0, i64 0]) (l' := [segA (some acc), i64 0]) (m := [segA (some acc), i64 0]) (cs := [.sl 9 (rowsA acc) .none]) (cs' := [.sl 9 (rowsA acc) .none]) (.inr rfl) rfl (by simp only [push_cast, ↓EPM, ↓reduceIte, seval, reduceCtorEq]) (by (simp only [upd, AState.set, AState.new]; (repeat (first | rw [if_neg (by omega)] | rw [if_pos (by omega)] | (simp only [↓reduceIte]; done) | simp only [↓reduceIte])); try rfl)) ⟨.inl rfl, trivial⟩ rfl ?_ ⟨.inl rfl, .inl rfl, trivial⟩ rfl (Nat.le_refl _) (by first | exact Keeps.base _ _ | (repeat (first | exact Keeps.base _ _ | refine Keeps.new ?_ _ | refine Keeps.set ?_ (by first | (simp; done) | omega | (simp only [EO]; omega)) _))) ?_
      · simp only [packAV, frz, List.map_cons, List.map_nil, frzL, if_true, segA]
      · simp only [resO, resS, Bel_tup, List.mem_cons, List.not_mem_nil, or_false, forall_eq_or_imp, forall_eq, segA_bel, true_and]
        exact .v _

end Go.Proofs

namespace Go.Proofs
open Go Go.Av Go.Sort
set_option linter.unusedSimpArgs false
set_option linter.unusedVariables false
set_option maxRecDepth 30000
set_option maxHeartbeats 2000000

def total (l : List (List Row)) : Nat := (l.map List.length).sum
theorem total_drop {l : List (List Row)} {i : Nat} {x : List Row} (h : l[i]? = some x) : total (l.drop i) = x.length + total (l.drop (i + 1)) := by
  rw [drop_get h]; simp [total]
theorem putAll_append (acc l m : List Row) : putAll acc (l ++ m) = (putAll acc l).bind fun a => putAll a m := by
  induction l generalizing acc with
  | nil => rfl
  | cons x l ih => simp only [List.cons_append, putAll]; cases putL acc x <;> simp [ih]

theorem rmerges_spec (l : List (List Row)) (hl : l.length ≤ 1000) (hw : total l ≤ 1000000) : APure Try.prog 25 [.sl 1 (mapsA l) .none] (resP (putAll [] l.flatten)) := by
  intro s
  generalize hr : putAll [] l.flatten = r
  refine enterA ⟨[]⟩ (Try.f25.body.getD .skip) [.tmp 2, .tmp 3] Try.func25 fun hwf hbel => ?_; simp only [Try.f25, push_cast, ↓EPM, ↓reduceIte, seval, reduceCtorEq]
  refine ALoop_inv (ι := Nat × List Row) (fun i => i.1 ≤ l.length ∧ i.2.length + total (l.drop i.1) ≤ 1000000 ∧ r = putAll i.2 (l.drop i.1).flatten) (fun i => envL [(0, .sl 1 (mapsA l) .none), (4, .sl 9 (rowsA i.2) .none), (5, i64 i.1)]) (fun i => { s with base := ⟨s.next, []⟩ }) (fun i => l.length - i.1) (0, []) ⟨Nat.zero_le _, by simpa using hw, by rw [← hr]; rfl⟩ (ent rfl ?_) (fun i hi => ?_)
  · simp only [push_cast, ↓EPM, ↓reduceIte, seval, reduceCtorEq]
  · obtain ⟨i, acc⟩ := i
    obtain ⟨hi, hwi, hs⟩ := hi
    simp only at hi hwi hs
    by_cases hlt : i < l.length
    · obtain ⟨x, hx⟩ : ∃ x, l[i]? = some x := ⟨_, List.getElem?_eq_getElem hlt⟩
      have gx := mapsA_get hx
      rw [total_drop hx] at hwi
      rw [drop_get hx, List.flatten_cons, putAll_append] at hs
      have hc : ((i : Int) < (l.length : Int)) := by omega
      have h0 : (0 : Int) ≤ (i : Int) := by omega
      have hw : IntKind.i64.wrap ((i : Int) + 1) = (i : Int) + 1 := wrap_in (by omega) (by omega)
      simp only [hc, push_cast, ↓EPM, ↓reduceIte, seval, reduceCtorEq]
      refine ALoop_inv (ι := Nat × List Row) (fun j => j.1 ≤ x.length ∧ j.2.length + (x.length - j.1) + total (l.drop (i + 1)) ≤ 1000000 ∧ r = (putAll j.2 (x.drop j.1)).bind fun a => putAll a (l.drop (i + 1)).flatten) (fun j => envL [(0, .sl 1 (mapsA l) .none), (4, .sl 9 (rowsA j.2) .none), (5, i64 i), (6, i64 j.1)]) (fun _ => { s with base := ⟨s.next, []⟩ }) (fun j => x.length - j.1) (0, acc) ⟨Nat.zero_le _, by simp only; omega, hs⟩ (ent rfl ?_) (fun j hj => ?_)
      · simp only [push_cast, ↓EPM, ↓reduceIte, seval, reduceCtorEq]
      · obtain ⟨j, ac⟩ := j
        obtain ⟨hj, hwj, hs⟩ := hj
        simp only at hj hwj hs
        by_cases hjl : j < x.length
        · obtain ⟨y, hy⟩ : ∃ y, x[j]? = some y := ⟨_, List.getElem?_eq_getElem hjl⟩
          have gy := rowsA_get hy
          rw [drop_get hy, putAll] at hs
          have hd : ((j : Int) < (x.length : Int)) := by omega
          have h0j : (0 : Int) ≤ (j : Int) := by omega
          have hwj' : IntKind.i64.wrap ((j : Int) + 1) = (j : Int) + 1 := wrap_in (by omega) (by omega)
          have hp := put_spec ac y (by omega)
          cases hq : putL ac y with
          | none =>
            rw [hq] at hp
            simp only [hc, h0, gx, hd, h0j, gy, push_cast, ↓EPM, ↓reduceIte, seval, reduceCtorEq]
            refine hp.use ?_
            simp only [resP, push_cast, ↓EPM, ↓reduceIte, seval, reduceCtorEq]
            rw [show r = none by rw [hs, hq]; rfl]
            exact RetW [.v (.slice none 0 0), i64 6] [.sl 9 [] .none, i64 6]
          | some q =>
            rw [hq] at hp
            have hql := putL_len hq
            simp only [hc, h0, gx, hd, h0j, gy, push_cast, ↓EPM, ↓reduceIte, seval, reduceCtorEq]
            refine hp.use ?_
            simp only [resP, hwj', push_cast, ↓EPM, ↓reduceIte, seval, reduceCtorEq]
            refine round_next (j + 1, q) ⟨by simp only; omega, by simp only; omega, by rw [hs, hq]; rfl⟩ (by simp only; omega) (ent rfl ?_)
            simp only [push_cast, ↓EPM, ↓reduceIte, seval, reduceCtorEq]
        · have hd : ¬ ((j : Int) < (x.length : Int)) := by omega
          simp only [hc, h0, gx, hd, hw, push_cast, ↓EPM, ↓reduceIte, seval, reduceCtorEq]
          rw [List.drop_eq_nil_of_le (by omega)] at hs
          refine round_next (i + 1, ac) ⟨by simp only; omega, by simp only; omega, hs⟩ (by simp only; omega) (ent rfl ?_)
          simp only [push_cast, ↓EPM, ↓reduceIte, seval, reduceCtorEq]
    · have hc : ¬ ((i : Int) < (l.length : Int)) := by omega
      simp only [hc, push_cast, ↓EPM, ↓reduceIte, seval, reduceCtorEq]
      rw [show r = some acc by rw [hs, List.drop_eq_nil_of_le (by omega)]; rfl]
      exact RetP [.sl 9 (rowsA acc) .none, i64 0]

/-- What is made of rows: they, when they are right. -/
def madeO (l : List Row) : Option (List Row) := if rightL none l then some l else none

theorem mergeAll_eq : ∀ (l : List (List Row)) (acc : List Row), Srt acc → mergeAll acc (l.map madeO) = putAll acc (l.filter (rightL none)).flatten
  | [], acc, _ => rfl
  | b :: l, acc, ha => by
    simp only [List.map_cons, madeO]
    by_cases h : rightL none b = true
    · have hb := (right_srt b none h).1
      rw [if_pos h, List.filter_cons_of_pos h, List.flatten_cons, putAll_append, mergeAll, both_putAll ha hb]
      cases hq : putAll acc b with
      | none => rfl
      | some q =>
        have hs := both_is acc b ha hb
        rw [both_putAll ha hb, hq] at hs
        exact mergeAll_eq l q hs.1
    · rw [if_neg h, List.filter_cons_of_neg h, mergeAll]
      exact mergeAll_eq l acc ha

theorem mergeAll_none (l : List (Option (List Row))) (acc : List Row) (o : Option (List Row)) : mergeAll acc (o :: none :: l) = mergeAll acc (o :: l) := by
  cases o with
  | none => rfl
  | some b => simp only [mergeAll]

theorem total_filter (l : List (List Row)) : total (l.filter (rightL none)) ≤ total l := by
  induction l with
  | nil => exact Nat.le_refl _
  | cons x l ih =>
    by_cases h : rightL none x = true
    · rw [List.filter_cons_of_pos h]; simp only [total, List.map_cons, List.sum_cons] at ih ⊢; omega
    · rw [List.filter_cons_of_neg h]; simp only [total, List.map_cons, List.sum_cons] at ih ⊢; omega

theorem flatten_len (l : List (List Row)) : l.flatten.length = total l := by simp [total, List.length_flatten]

theorem filter_take {l : List (List Row)} {i : Nat} {x : List Row} (h : l[i]? = some x) : (l.take (i + 1)).filter (rightL none) = (l.take i).filter (rightL none) ++ [x].filter (rightL none) := by
  rw [take_get h, List.filter_append]

theorem kept_len (a b c : List Row) (i : Nat) : (([a, b, c].take i).filter (rightL none)).length ≤ 3 := Nat.le_trans (List.length_filter_le _ _) (by simp; omega)

theorem kept_light (a b c : List Row) (ha : a.length ≤ 100) (hb : b.length ≤ 100) (hc : c.length ≤ 100) : total ([a, b, c].filter (rightL none)) ≤ 300 := by
  have := total_filter [a, b, c]
  simp only [total, List.map_cons, List.map_nil, List.sum_cons, List.sum_nil] at this ⊢
  omega
theorem made_len (l : List Row) : ((madeO l).getD []).length ≤ l.length := by
  simp only [madeO]; split <;> simp

theorem mapsA_snoc (k : List (List Row)) (x : List Row) : mapsA (k ++ [x]) = mapsA k ++ [[.sl 9 (rowsA x) .none]] := by simp [mapsA]
theorem mapsB_snoc (n : Nat) (k : List (List Row)) (x : List Row) : ∀ c ∈ mapsA k ++ [[.sl 9 (rowsA x) .none]], ∀ y ∈ c, Bel n y := by rw [← mapsA_snoc]; exact of_eq_true (mapsA_bel _ _)

theorem segA_cells (o : Option (List Row)) : (segA o).cells = [segA o] := by cases o <;> rfl
theorem segA_one (o : Option (List Row)) : (segA o).one = true := by cases o <;> rfl

theorem segMerges_spec (a b c : List Row) : APure Try.prog 5 [.sl 9 (rowsA a) .none, .sl 9 (rowsA b) .none, .sl 9 (rowsA c) .none] (boo true) := by
  intro s
  have hLa := light_spec a
  have hLb := light_spec b
  have hLc := light_spec c
  by_cases h1 : a.length ≤ 100 ∧ b.length ≤ 100 ∧ c.length ≤ 100
  · obtain ⟨ha, hb, h1c⟩ := h1
    simp only [ha, hb, h1c, decide_true] at hLa hLb hLc
    refine enterA ⟨[]⟩ (Try.f5.body.getD .skip) [.tmp 6] Try.func5 fun hwf hbel => ?_; simp only [Try.f5, push_cast, ↓EPM, ↓reduceIte, seval, reduceCtorEq]
    refine hLa.use ?_
    simp only [push_cast, ↓EPM, ↓reduceIte, seval, reduceCtorEq]
    refine hLb.use ?_
    simp only [push_cast, ↓EPM, ↓reduceIte, seval, reduceCtorEq]
    refine hLc.use ?_
    simp only [push_cast, ↓EPM, ↓reduceIte, seval, reduceCtorEq]
    refine ALoop_inv (ι := Nat) (fun i => i ≤ 3) (fun i => envL [(0, .sl 9 (rowsA a) .none), (1, .sl 9 (rowsA b) .none), (2, .sl 9 (rowsA c) .none), (7, .sl 1 (mapsA (([a, b, c].take i).filter (rightL none))) (.row s.next (([a, b, c].take i).filter (rightL none)).length)), (8, i64 i)]) (fun i => AState.new { s with base := ⟨s.next, []⟩ } (.row (([a, b, c].take i).filter (rightL none)).length)) (fun i => 3 - i) 0 (Nat.zero_le _) (AEnt.trans (AEnt_reserve _ _) (ent rfl ?_)) (fun i hi => ?_)
    · simp only [Wv_row, List.take_zero, List.filter_nil, mapsA, List.map_nil, push_cast, ↓EPM, ↓reduceIte, seval, reduceCtorEq]
    · by_cases hlt : i < 3
      · obtain ⟨x, hx⟩ : ∃ x, [a, b, c][i]? = some x := ⟨_, List.getElem?_eq_getElem hlt⟩
        have gx : (([[.sl 9 (rowsA a) .none], [.sl 9 (rowsA b) .none], [.sl 9 (rowsA c) .none]] : List (List AV))).getD i [] = [.sl 9 (rowsA x) .none] := mapsA_get hx
        have hxl : x.length ≤ 100 := by
          obtain rfl | rfl | rfl : i = 0 ∨ i = 1 ∨ i = 2 := by omega
          · cases hx; exact ha
          · cases hx; exact hb
          · cases hx; exact h1c
        have hr := rright_list x (by omega)
        have hc : ((i : Int) < 3) := by omega
        have h0 : (0 : Int) ≤ (i : Int) := by omega
        have hw : IntKind.i64.wrap ((i : Int) + 1) = (i : Int) + 1 := wrap_in (by omega) (by omega)
        have hk := kept_len a b c i
        have hf := filter_take hx
        simp only [hc, h0, gx, push_cast, ↓EPM, ↓reduceIte, seval, reduceCtorEq]
        refine hr.use ?_
        have hlen : (List.filter (rightL none) (List.take (i + 1) [a, b, c])).length ≤ 3 := kept_len a b c (i + 1)
        by_cases hrx : rightL none x = true
        · rw [List.filter_cons_of_pos hrx, List.filter_nil] at hf
          rw [hrx]
          simp only [hw, push_cast, ↓EPM, ↓reduceIte, seval, reduceCtorEq]
          refine ⟨by omega, ?_⟩
          refine round_next (i + 1) (by omega) (by omega) (AEnt_drop rfl rfl (Nat.le_succ _) ?_ ((hwf.base _).new trivial) (EntB_all ?_))
          · rw [hf, List.length_append]
            exact ⟨by simp only [EO]; omega, fun id hid => by simp only [EO] at hid ⊢; (repeat' split) <;> first | rfl | omega | (subst_vars; simp_all)⟩
          · rw [hf, mapsA_snoc, List.length_append]
            simp only [push_cast, ↓EPM, ↓reduceIte, seval, reduceCtorEq]
            (try first | omega | ((repeat' apply And.intro) <;> first | omega | (simp only [push_cast, ↓EPM, ↓reduceIte, seval, reduceCtorEq, List.mem_cons, List.not_mem_nil, or_false, forall_eq_or_imp, forall_eq, and_self, true_and, and_true, zeroR]; done) | (simp only [push_cast, ↓EPM, ↓reduceIte, seval, reduceCtorEq, List.mem_cons, List.not_mem_nil, or_false, forall_eq_or_imp, forall_eq, and_self, true_and, and_true, zeroR]; omega)))
        · rw [List.filter_cons_of_neg hrx, List.filter_nil, List.append_nil] at hf
          have hrf : rightL none x = false := by simpa using hrx
          rw [hrf]
          simp only [hw, push_cast, ↓EPM, ↓reduceIte, seval, reduceCtorEq]
          refine round_next (i + 1) (by omega) (by omega) ?_
          rw [hf]
          refine ent rfl ?_
          simp only [push_cast, ↓EPM, ↓reduceIte, seval, reduceCtorEq]
      · have hc : ¬ ((i : Int) < 3) := by omega
        obtain rfl : i = 3 := by omega
        have hAa : APure Try.prog 24 [.sl 9 (rowsA a) .none] (segA (madeO a)) := made_spec a (by omega)
        have hAb : APure Try.prog 24 [.sl 9 (rowsA b) .none] (segA (madeO b)) := made_spec b (by omega)
        have hAc : APure Try.prog 24 [.sl 9 (rowsA c) .none] (segA (madeO c)) := made_spec c (by omega)
        have hm : APure Try.prog 21 [.sl 1 [[segA (madeO a)], [.v (.pointer none)], [segA (madeO b)], [segA (madeO c)]] .none] (resO (mergeAll [] [madeO a, none, madeO b, madeO c])) := merges_spec [madeO a, none, madeO b, madeO c] (by simp) (by have := made_len a; have := made_len b; have := made_len c; simp only [weigh, List.map_cons, List.map_nil, List.sum_cons, List.sum_nil, Option.getD_none, List.length_nil]; omega)
        rw [mergeAll_none, show [madeO a, madeO b, madeO c] = [a, b, c].map madeO from rfl, mergeAll_eq [a, b, c] [] Srt.nil] at hm
        have hg := rmerges_spec ([a, b, c].filter (rightL none)) (Nat.le_trans (List.length_filter_le _ _) (by simp)) (by have := kept_light a b c ha hb h1c; omega)
        have hql := putAll_getD ([a, b, c].filter (rightL none)).flatten
        rw [flatten_len] at hql
        have hkl := kept_light a b c ha hb h1c
        generalize hq : putAll [] (List.filter (rightL none) [a, b, c]).flatten = q at hm hg hql
        rw [resO_eq] at hm
        rw [resP_eq] at hg
        have hB := back_spec q (by omega)
        have hS := same_spec (q.getD []) (q.getD []) (by omega)
        simp only [decide_true] at hS
        simp only [hc, List.take_succ_cons, List.take_zero, push_cast, ↓EPM, ↓reduceIte, seval, reduceCtorEq]
        refine hAa.use ?_
        simp only [push_cast, ↓EPM, ↓reduceIte, seval, reduceCtorEq]
        refine hAb.use ?_
        simp only [push_cast, ↓EPM, ↓reduceIte, seval, reduceCtorEq]
        refine hAc.use ?_
        simp only [segA_cells, segA_one, push_cast, ↓EPM, ↓reduceIte, seval, reduceCtorEq]
        refine hm.use ?_
        simp only [push_cast, ↓EPM, ↓reduceIte, seval, reduceCtorEq]
        refine hg.use ?_
        simp only [push_cast, ↓EPM, ↓reduceIte, seval, reduceCtorEq]
        refine hB.use ?_
        simp only [push_cast, ↓EPM, ↓reduceIte, seval, reduceCtorEq]
        refine hS.use ?_
        simp only [push_cast, ↓EPM, ↓reduceIte, seval, reduceCtorEq]
        refine alive_spec.use ?_
        simp only [push_cast, ↓EPM, ↓reduceIte, seval, reduceCtorEq]
        exact RetP [boo true]
  · have hF : ∀ l : List Row, ¬ l.length ≤ 100 → decide (l.length ≤ 100) = false := fun l h => by simp [h]
    by_cases ha : a.length ≤ 100
    · rw [decide_eq_true ha] at hLa
      by_cases hb : b.length ≤ 100
      · rw [decide_eq_true hb] at hLb
        rw [hF c (fun hc => h1 ⟨ha, hb, hc⟩)] at hLc
        refine enterA ⟨[]⟩ (Try.f5.body.getD .skip) [.tmp 6] Try.func5 fun hwf hbel => ?_; simp only [Try.f5, push_cast, ↓EPM, ↓reduceIte, seval, reduceCtorEq]
        refine hLa.use ?_
        simp only [push_cast, ↓EPM, ↓reduceIte, seval, reduceCtorEq]
        refine hLb.use ?_
        simp only [push_cast, ↓EPM, ↓reduceIte, seval, reduceCtorEq]
        refine hLc.use ?_
        simp only [push_cast, ↓EPM, ↓reduceIte, seval, reduceCtorEq]
        refine alive_spec.use ?_
        simp only [push_cast, ↓EPM, ↓reduceIte, seval, reduceCtorEq]
        exact RetP [boo true]
      · rw [hF b hb] at hLb
        refine enterA ⟨[]⟩ (Try.f5.body.getD .skip) [.tmp 6] Try.func5 fun hwf hbel => ?_; simp only [Try.f5, push_cast, ↓EPM, ↓reduceIte, seval, reduceCtorEq]
        refine hLa.use ?_
        simp only [push_cast, ↓EPM, ↓reduceIte, seval, reduceCtorEq]
        refine hLb.use ?_
        simp only [push_cast, ↓EPM, ↓reduceIte, seval, reduceCtorEq]
        refine alive_spec.use ?_
        simp only [push_cast, ↓EPM, ↓reduceIte, seval, reduceCtorEq]
        exact RetP [boo true]
    · rw [hF a ha] at hLa
      refine enterA ⟨[]⟩ (Try.f5.body.getD .skip) [.tmp 6] Try.func5 fun hwf hbel => ?_; simp only [Try.f5, push_cast, ↓EPM, ↓reduceIte, seval, reduceCtorEq]
      refine hLa.use ?_
      simp only [push_cast, ↓EPM, ↓reduceIte, seval, reduceCtorEq]
      refine alive_spec.use ?_
      simp only [push_cast, ↓EPM, ↓reduceIte, seval, reduceCtorEq]
      exact RetP [boo true]

end Go.Proofs

namespace Go.Proofs
open Go Go.Av Go.Sort
set_option linter.unusedSimpArgs false
set_option linter.unusedVariables false
set_option maxRecDepth 30000
set_option maxHeartbeats 2000000

def totC : Cell → List Row → Option Cell
  | acc, [] => some acc
  | acc, x :: l => (mergeC acc x.c).bind fun c => totC c l

theorem cell_bel (n : Nat) (c : Cell) : OBel n (.cells c.av) := by
  intro x hx
  simp only [Cell.av, List.mem_cons, List.not_mem_nil, or_false] at hx
  rcases hx with rfl | rfl | rfl | rfl <;> exact .v _

theorem total_spec (o : Option (List Row)) (hl : (o.getD []).length ≤ 1000000) : APure Try.prog 22 [segA o] (resC (totC zeroC (o.getD []))) := by
  intro s
  have hR := rows_spec o
  generalize o.getD [] = l at hl hR ⊢
  generalize hr : totC zeroC l = r
  refine enterA ⟨[]⟩ (Try.f22.body.getD .skip) [.cell 2 44, .tmp 3] Try.func22 fun hwf hbel => ?_; simp only [Try.f22, push_cast, ↓EPM, ↓reduceIte, seval, reduceCtorEq]
  refine hR.use ?_
  simp only [push_cast, ↓EPM, ↓reduceIte, seval, reduceCtorEq]
  refine ALoop_inv (ι := Nat × Cell) (fun i => i.1 ≤ l.length ∧ r = totC i.2 (l.drop i.1)) (fun i => envL [(2, .ptr s.next 0), (7, .sl 9 (rowsA l) .none), (8, i64 l.length), (9, i64 i.1)]) (fun i => AState.new { s with base := ⟨s.next, []⟩ } (.cells i.2.av)) (fun i => l.length - i.1) (0, zeroC) ⟨Nat.zero_le _, by rw [← hr]; rfl⟩ (ent rfl ?_) (fun i hi => ?_)
  · simp only [push_cast, ↓EPM, ↓reduceIte, seval, reduceCtorEq]
  · obtain ⟨i, c⟩ := i
    obtain ⟨hi, hs⟩ := hi
    simp only at hi hs
    by_cases hlt : i < l.length
    · obtain ⟨x, hx⟩ : ∃ x, l[i]? = some x := ⟨_, List.getElem?_eq_getElem hlt⟩
      have gx := rowsA_get hx
      rw [drop_get hx, totC] at hs
      have hc : ((i : Int) < (l.length : Int)) := by omega
      have h0 : (0 : Int) ≤ (i : Int) := by omega
      have hw : IntKind.i64.wrap ((i : Int) + 1) = (i : Int) + 1 := wrap_in (by omega) (by omega)
      have hm := merge_spec c x.c
      simp only [hc, h0, gx, push_cast, ↓EPM, ↓reduceIte, seval, reduceCtorEq]
      cases hmc : mergeC c x.c with
      | none =>
        rw [hmc] at hm
        refine hm.use ?_
        simp only [resC, zeroC, push_cast, ↓EPM, ↓reduceIte, seval, reduceCtorEq]
        rw [show r = none by rw [hs, hmc]; rfl]
        exact RetP [.agg zeroC.av, boo false]
      | some d =>
        rw [hmc] at hm
        refine hm.use ?_
        simp only [resC, push_cast, ↓EPM, ↓reduceIte, seval, reduceCtorEq]
        simp only [hw, push_cast, ↓EPM, ↓reduceIte, seval, reduceCtorEq]
        refine round_next (i + 1, d) ⟨by simp only; omega, by rw [hs, hmc]; rfl⟩ (by simp only; omega) (AEnt_drop rfl rfl (Nat.le_succ _) ⟨by simp only [EO]; omega, fun id hid => ?_⟩ ((hwf.base _).new (cell_bel _ d)) (EntB_all ?_))
        · simp only [AState.set, AState.new] at hid ⊢
          (repeat' split) <;> first | rfl | omega
        simp only [push_cast, ↓EPM, ↓reduceIte, seval, reduceCtorEq]
        (try first | omega | ((repeat' apply And.intro) <;> first | omega | (simp only [push_cast, ↓EPM, ↓reduceIte, seval, reduceCtorEq, List.mem_cons, List.not_mem_nil, or_false, forall_eq_or_imp, forall_eq, and_self, true_and, and_true, zeroR]; done) | (simp only [push_cast, ↓EPM, ↓reduceIte, seval, reduceCtorEq, List.mem_cons, List.not_mem_nil, or_false, forall_eq_or_imp, forall_eq, and_self, true_and, and_true, zeroR]; omega)))
    · have hc : ¬ ((i : Int) < (l.length : Int)) := by omega
      simp only [hc, push_cast, ↓EPM, ↓reduceIte, seval, reduceCtorEq]
      rw [show r = some c by rw [hs, List.drop_eq_nil_of_le (by omega)]; rfl]
      exact RetP [.agg c.av, boo true]

theorem rtotal_spec (l : List Row) (hl : l.length ≤ 1000000) : APure Try.prog 34 [.sl 9 (rowsA l) .none] (resC (totC zeroC l)) := by
  intro s
  generalize hr : totC zeroC l = r
  refine enterA ⟨[]⟩ (Try.f34.body.getD .skip) [.cell 2 44, .tmp 3] Try.func34 fun hwf hbel => ?_; simp only [Try.f34, push_cast, ↓EPM, ↓reduceIte, seval, reduceCtorEq]
  refine ALoop_inv (ι := Nat × Cell) (fun i => i.1 ≤ l.length ∧ r = totC i.2 (l.drop i.1)) (fun i => envL [(0, .sl 9 (rowsA l) .none), (2, .ptr s.next 0), (4, .ptr (s.next + 1) 0), (5, i64 i.1)]) (fun i => AState.new (AState.new { s with base := ⟨s.next, []⟩ } (.cells zeroC.av)) (.cells i.2.av)) (fun i => l.length - i.1) (0, zeroC) ⟨Nat.zero_le _, by rw [← hr]; rfl⟩ (AEnt_drop rfl rfl (Nat.le_add_right _ 2) ⟨Nat.le_refl _, fun id hid => ?_⟩ (((hwf.base _).new (cell_bel _ zeroC)).new (cell_bel _ zeroC)) (EntB_all ?_)) (fun i hi => ?_)
  · simp only [AState.set, AState.new] at hid ⊢
    (repeat' split) <;> first | rfl | omega
  · simp only [push_cast, ↓EPM, ↓reduceIte, seval, reduceCtorEq]
    (try first | omega | ((repeat' apply And.intro) <;> first | omega | (simp only [push_cast, ↓EPM, ↓reduceIte, seval, reduceCtorEq, List.mem_cons, List.not_mem_nil, or_false, forall_eq_or_imp, forall_eq, and_self, true_and, and_true, zeroR]; done) | (simp only [push_cast, ↓EPM, ↓reduceIte, seval, reduceCtorEq, List.mem_cons, List.not_mem_nil, or_false, forall_eq_or_imp, forall_eq, and_self, true_and, and_true, zeroR]; omega)))
  · obtain ⟨i, c⟩ := i
    obtain ⟨hi, hs⟩ := hi
    simp only at hi hs
    by_cases hlt : i < l.length
    · obtain ⟨x, hx⟩ : ∃ x, l[i]? = some x := ⟨_, List.getElem?_eq_getElem hlt⟩
      have gx := rowsA_get hx
      rw [drop_get hx, totC] at hs
      have hc : ((i : Int) < (l.length : Int)) := by omega
      have h0 : (0 : Int) ≤ (i : Int) := by omega
      have hw : IntKind.i64.wrap ((i : Int) + 1) = (i : Int) + 1 := wrap_in (by omega) (by omega)
      have hm := rmerge_spec c x.c
      simp only [hc, push_cast, ↓EPM, ↓reduceIte, seval, reduceCtorEq]
      cases hmc : mergeC c x.c with
      | none =>
        rw [hmc] at hm
        refine chainA [(AState.new (AState.new { s with base := ⟨s.next, []⟩ } (.cells zeroC.av)) (.cells c.av)), AState.new (AState.new (AState.new { s with base := ⟨s.next, []⟩ } (.cells zeroC.av)) (.cells c.av)) (.cells zeroC.av), AState.set (AState.new (AState.new (AState.new { s with base := ⟨s.next, []⟩ } (.cells zeroC.av)) (.cells c.av)) (.cells zeroC.av)) (s.next + 2) (.cells zeroC.av)] [some 9, some 9, some 9, some 9, some 9, some 9, some 9, some 9, some 9, some 9, none, none, some 9] mixed ?_; simp only [zeroC, h0, hc, gx,  ↓EX, EY, ↓EH, push_cast, ↓EPM, ↓reduceIte, seval, reduceCtorEq]
        refine qcallC (hm) rfl (by simp only [push_cast, ↓EPM, ↓reduceIte, seval, reduceCtorEq] <;> rfl) ?_; simp only [↓EX, EY, ↓EH, push_cast, ↓EPM, ↓reduceIte, seval, reduceCtorEq]
        simp only [resC, zeroC, ↓EX, EY, ↓EH, push_cast, ↓EPM, ↓reduceIte, seval, reduceCtorEq]
        rw [show r = none by rw [hs, hmc]; rfl]
        exact RetP [.agg zeroC.av, boo false]
      | some d =>
        rw [hmc] at hm
        refine chainA [(AState.new (AState.new { s with base := ⟨s.next, []⟩ } (.cells zeroC.av)) (.cells c.av)), AState.new (AState.new (AState.new { s with base := ⟨s.next, []⟩ } (.cells zeroC.av)) (.cells c.av)) (.cells zeroC.av), AState.set (AState.new (AState.new (AState.new { s with base := ⟨s.next, []⟩ } (.cells zeroC.av)) (.cells c.av)) (.cells zeroC.av)) (s.next + 2) (.cells d.av)] [some 9, some 9, some 9, some 9, some 9, some 9, some 9, some 9, some 9, some 9, none, none, some 9] mixed ?_; simp only [zeroC, h0, hc, gx,  ↓EX, EY, ↓EH, push_cast, ↓EPM, ↓reduceIte, seval, reduceCtorEq]
        refine qcallC (hm) rfl (by simp only [push_cast, ↓EPM, ↓reduceIte, seval, reduceCtorEq] <;> rfl) ?_; simp only [↓EX, EY, ↓EH, push_cast, ↓EPM, ↓reduceIte, seval, reduceCtorEq]
        simp only [resC, zeroC, ↓EX, EY, ↓EH, push_cast, ↓EPM, ↓reduceIte, seval, reduceCtorEq]
        simp only [hw, push_cast, ↓EPM, ↓reduceIte, seval, reduceCtorEq]
        refine round_next (i + 1, d) ⟨by simp only; omega, by rw [hs, hmc]; rfl⟩ (by simp only; omega) (AEnt_drop rfl rfl (Nat.le_add_right _ 2) ⟨by simp only [EO]; omega, fun id hid => ?_⟩ (((hwf.base _).new (cell_bel _ zeroC)).new (cell_bel _ d)) (EntB_all ?_))
        · simp only [AState.set, AState.new] at hid ⊢
          (repeat' split) <;> first | rfl | omega
        simp only [push_cast, ↓EPM, ↓reduceIte, seval, reduceCtorEq]
        (try first | omega | ((repeat' apply And.intro) <;> first | omega | (simp only [push_cast, ↓EPM, ↓reduceIte, seval, reduceCtorEq, List.mem_cons, List.not_mem_nil, or_false, forall_eq_or_imp, forall_eq, and_self, true_and, and_true, zeroR]; done) | (simp only [push_cast, ↓EPM, ↓reduceIte, seval, reduceCtorEq, List.mem_cons, List.not_mem_nil, or_false, forall_eq_or_imp, forall_eq, and_self, true_and, and_true, zeroR]; omega)))
    · have hc : ¬ ((i : Int) < (l.length : Int)) := by omega
      simp only [hc, push_cast, ↓EPM, ↓reduceIte, seval, reduceCtorEq]
      rw [show r = some c by rw [hs, List.drop_eq_nil_of_le (by omega)]; rfl]
      exact RetP [.agg c.av, boo true]

end Go.Proofs

namespace Go.Proofs
open Go Go.Av Go.Sort
set_option linter.unusedSimpArgs false
set_option linter.unusedVariables false

/-! Cells that do not leave their range -/
def mulC (a b : Cell) : Cell := ⟨a.n + b.n, a.s + b.s, if b.lo.toInt < a.lo.toInt then b.lo else a.lo, if b.hi.toInt > a.hi.toInt then b.hi else a.hi⟩
theorem lo_comm (a b : Int64) : (if b.toInt < a.toInt then b else a) = if a.toInt < b.toInt then a else b := by
  rw [← Int64.toInt_inj]; split <;> split <;> omega
theorem hi_comm (a b : Int64) : (if b.toInt > a.toInt then b else a) = if a.toInt > b.toInt then a else b := by
  rw [← Int64.toInt_inj]; split <;> split <;> omega
theorem mulC_comm (a b : Cell) : mulC a b = mulC b a := by
  simp only [mulC, Int64.add_comm a.n, Int64.add_comm a.s, lo_comm a.lo, hi_comm a.hi]
theorem mulC_assoc (a b c : Cell) : mulC (mulC a b) c = mulC a (mulC b c) := by
  simp only [mulC, Int64.add_assoc, Cell.mk.injEq, true_and]
  constructor <;> (rw [← Int64.toInt_inj]; (repeat' split) <;> omega)

def plusO : Option Cell → Option Cell → Option Cell
  | none, y => y
  | x, none => x
  | some c, some d => some (mulC c d)
theorem plusO_none (x : Option Cell) : plusO x none = x := by cases x <;> rfl
theorem none_plusO (x : Option Cell) : plusO none x = x := rfl
theorem plusO_comm (x y : Option Cell) : plusO x y = plusO y x := by
  cases x <;> cases y <;> simp only [plusO]
  rw [mulC_comm]
theorem plusO_assoc (x y z : Option Cell) : plusO (plusO x y) z = plusO x (plusO y z) := by
  cases x <;> cases y <;> cases z <;> simp only [plusO]
  rw [mulC_assoc]

def oneC (v : Int64) : Cell := ⟨1, v, v, v⟩
def factO (f : Fact) (k : Key) : Option Cell := if f.k = k then some (oneC f.v) else none
def cellOf : List Fact → Key → Option Cell
  | [], _ => none
  | f :: l, k => plusO (factO f k) (cellOf l k)
theorem cellOf_append (l m : List Fact) (k : Key) : cellOf (l ++ m) k = plusO (cellOf l k) (cellOf m k) := by
  induction l with
  | nil => rfl
  | cons f l ih => rw [List.cons_append, cellOf, cellOf, ih, plusO_assoc]
theorem cellOf_swap (l : List Fact) (i : Nat) (k : Key) : plusO (cellOf (l.drop i) k) (cellOf (l.take i) k) = cellOf l k := by
  rw [plusO_comm, ← cellOf_append, List.take_append_drop]

def Fine (c : Cell) : Prop := 1 ≤ c.n.toInt ∧ -(c.n.toInt * 1099511627776) ≤ c.s.toInt ∧ c.s.toInt ≤ c.n.toInt * 1099511627776
theorem Fine.ne {c : Cell} (h : Fine c) : c.n ≠ 0 := fun e => by have := h.1; rw [e] at this; exact absurd this (by decide)

theorem add_in (a b : Int64) (h : -9223372036854775808 ≤ a.toInt + b.toInt ∧ a.toInt + b.toInt ≤ 9223372036854775807) : (a + b).toInt = a.toInt + b.toInt := by
  rw [Int64.toInt_add]
  exact Int.bmod_eq_of_le (by omega) (by omega)

theorem merge_mul {c d e : Cell} (hc : c.n ≠ 0) (hd : d.n ≠ 0) (h : mergeC c d = some e) : e = mulC c d := by
  rw [mergeC, if_neg hc, if_neg hd] at h
  split at h
  · cases h; rfl
  · cases h

theorem merge_fine {c d : Cell} (hc : Fine c) (hd : Fine d) (h : c.n.toInt + d.n.toInt ≤ 100) : mergeC c d = some (mulC c d) ∧ Fine (mulC c d) ∧ (mulC c d).n.toInt = c.n.toInt + d.n.toInt := by
  obtain ⟨c1, c2, c3⟩ := hc
  obtain ⟨d1, d2, d3⟩ := hd
  have hn : (c.n + d.n).toInt = c.n.toInt + d.n.toInt := add_in _ _ (by omega)
  have hs : (c.s + d.s).toInt = c.s.toInt + d.s.toInt := add_in _ _ (by omega)
  refine ⟨?_, ⟨?_, ?_, ?_⟩, hn⟩
  · rw [mergeC, if_neg (Fine.ne ⟨c1, c2, c3⟩), if_neg (Fine.ne ⟨d1, d2, d3⟩), if_pos]
    · rfl
    · simp only [addOk, Bool.and_eq_true, decide_eq_true_eq]; omega
  · show 1 ≤ (c.n + d.n).toInt
    omega
  · show -((c.n + d.n).toInt * 1099511627776) ≤ (c.s + d.s).toInt
    omega
  · show (c.s + d.s).toInt ≤ (c.n + d.n).toInt * 1099511627776
    omega

def cnt : List Row → Int
  | [] => 0
  | r :: l => r.c.n.toInt + cnt l
theorem cnt_append (a b : List Row) : cnt (a ++ b) = cnt a + cnt b := by
  induction a with
  | nil => simp [cnt]
  | cons x a ih => simp only [List.cons_append, cnt, ih]; omega
def FineL (q : List Row) : Prop := ∀ r ∈ q, Fine r.c
theorem FineL.cons {r : Row} {q : List Row} (h : FineL (r :: q)) : Fine r.c ∧ FineL q := ⟨h r (by simp), fun x hx => h x (by simp [hx])⟩
theorem FineL.nil : FineL [] := fun r h => by cases h
theorem FineL.mk {r : Row} {q : List Row} (h : Fine r.c) (hq : FineL q) : FineL (r :: q) := fun x hx => by rcases List.mem_cons.1 hx with rfl | hx; exact h; exact hq x hx
theorem FineL.append {p q : List Row} (hp : FineL p) (hq : FineL q) : FineL (p ++ q) := fun x hx => by rcases List.mem_append.1 hx with hx | hx; exact hp x hx; exact hq x hx
theorem cnt_pos : ∀ {q : List Row}, FineL q → 0 ≤ cnt q
  | [], _ => Int.le_refl _
  | r :: q, h => by have := cnt_pos h.cons.2; have := h.cons.1.1; simp only [cnt]; omega
theorem cnt_mem : ∀ {q : List Row} {r : Row}, FineL q → r ∈ q → r.c.n.toInt ≤ cnt q
  | x :: q, r, h, hr => by
    have h1 := cnt_pos h.cons.2
    have h2 := h.cons.1.1
    simp only [cnt]
    rcases List.mem_cons.1 hr with rfl | hr
    · omega
    · have := cnt_mem h.cons.2 hr; omega

theorem putR_fine {pre rest : List Row} {x : Row} (h1 : FineL pre) (h2 : FineL rest) (hx : Fine x.c) (hc : cnt pre + cnt rest + x.c.n.toInt ≤ 100) :
    ∃ q, putR pre rest x = some q ∧ FineL q ∧ cnt q = cnt pre + cnt rest + x.c.n.toInt := by
  have hp := cnt_pos h1
  cases rest with
  | nil => exact ⟨_, rfl, h1.append (FineL.mk hx FineL.nil), by simp only [cnt_append, cnt]; omega⟩
  | cons y t =>
    have ht := cnt_pos h2.cons.2
    simp only [cnt] at hc
    rw [putR]
    by_cases e : y.k = x.k
    · obtain ⟨m1, m2, m3⟩ := merge_fine h2.cons.1 hx (by omega)
      rw [if_pos e, m1]
      exact ⟨_, rfl, h1.append (FineL.mk m2 h2.cons.2), by simp only [cnt_append, cnt, m3]; omega⟩
    · rw [if_neg e]
      exact ⟨_, rfl, h1.append (FineL.mk hx h2), by simp only [cnt_append, cnt]; omega⟩

theorem putL_fine {q : List Row} {x : Row} (hq : FineL q) (hx : Fine x.c) (hc : cnt q + x.c.n.toInt ≤ 100) :
    ∃ q', putL q x = some q' ∧ FineL q' ∧ cnt q' = cnt q + x.c.n.toInt := by
  have hsplit : q.takeWhile (fun r => decide (cmpK r.k x.k < 0)) ++ q.dropWhile (fun r => decide (cmpK r.k x.k < 0)) = q := List.takeWhile_append_dropWhile
  have e : cnt q = cnt (q.takeWhile (fun r => decide (cmpK r.k x.k < 0))) + cnt (q.dropWhile (fun r => decide (cmpK r.k x.k < 0))) := by rw [← cnt_append, hsplit]
  rw [e] at hc ⊢
  exact putR_fine (fun r hr => hq r (by rw [← hsplit]; exact List.mem_append_left _ hr)) (fun r hr => hq r (by rw [← hsplit]; exact List.mem_append_right _ hr)) hx hc

theorem comb_plus {x y : Option Cell} (hx : ∀ c, x = some c → c.n ≠ 0) (hy : ∀ d, y = some d → d.n ≠ 0) (h : ∀ c d, x = some c → y = some d → mergeC c d ≠ none) : comb x y = plusO x y := by
  cases x with
  | none => rfl
  | some c =>
    cases y with
    | none => rfl
    | some d =>
      show mergeC c d = some (mulC c d)
      cases e : mergeC c d with
      | none => exact absurd e (h c d rfl rfl)
      | some m => rw [merge_mul (hx c rfl) (hy d rfl) e]

theorem FineL.get {q : List Row} (h : FineL q) {k : Key} {c : Cell} (e : getR q k = some c) : Fine c := h _ (getR_some e)

def lightV (f : Fact) : Prop := -1099511627776 ≤ f.v.toInt ∧ f.v.toInt ≤ 1099511627776
theorem fine_one {f : Fact} (h : lightV f) : Fine (factRow f).c := by
  refine ⟨by show (1 : Int) ≤ (1 : Int64).toInt; decide, ?_, ?_⟩
  · show -((1 : Int64).toInt * 1099511627776) ≤ f.v.toInt
    have := h.1; have e : (1 : Int64).toInt = 1 := rfl; rw [e]; omega
  · show f.v.toInt ≤ (1 : Int64).toInt * 1099511627776
    have := h.2; have e : (1 : Int64).toInt = 1 := rfl; rw [e]; omega

theorem facts_put : ∀ (l : List Fact) (acc : List Row), Srt acc → FineL acc → cnt acc + l.length ≤ 100 → (∀ f ∈ l, lightV f) →
    ∃ q, putAll acc (l.map factRow) = some q ∧ Srt q ∧ FineL q ∧ cnt q = cnt acc + l.length ∧ ∀ k, getR q k = plusO (getR acc k) (cellOf l k)
  | [], acc, h1, h2, _, _ => ⟨acc, rfl, h1, h2, by simp, fun k => by rw [cellOf, plusO_none]⟩
  | f :: l, acc, h1, h2, h3, h4 => by
    have hf := fine_one (h4 f (by simp))
    have e1 : (factRow f).c.n.toInt = 1 := rfl
    have hcx : cnt acc + (factRow f).c.n.toInt ≤ 100 := by rw [e1]; simp only [List.length_cons] at h3; omega
    obtain ⟨a, p1, p2, p3⟩ := putL_fine h2 hf hcx
    have hb := put_is h1 (factRow f)
    rw [p1] at hb
    obtain ⟨b1, b2, b3⟩ := hb
    rw [e1] at p3
    obtain ⟨q, q1, q2, q3, q4, q5⟩ := facts_put l a b1 p2 (by simp only [List.length_cons] at h3; omega) (fun g hg => h4 g (by simp [hg]))
    refine ⟨q, by rw [List.map_cons, putAll, p1]; exact q1, q2, q3, by simp only [List.length_cons]; omega, fun k => ?_⟩
    have g1 : getR [factRow f] k = factO f k := rfl
    have gd : ∀ d, factO f k = some d → d.n ≠ 0 := fun d hd => by
      unfold factO at hd; split at hd
      · cases hd; exact Fine.ne hf
      · cases hd
    rw [q5, b2, g1, cellOf, ← plusO_assoc]
    congr 1
    exact comb_plus (fun c hc => (h2.get hc).ne) gd (fun c d hc hd => b3 k c d hc (by rw [g1]; exact hd))

/-- The rows of facts that weigh not too much. -/
theorem facts_rows (l : List Fact) (h1 : l.length ≤ 100) (h2 : ∀ f ∈ l, lightV f) : ∃ q, putAll [] (l.map factRow) = some q ∧ Srt q ∧ FineL q ∧ cnt q = l.length ∧ ∀ k, getR q k = cellOf l k := by
  obtain ⟨q, q1, q2, q3, q4, q5⟩ := facts_put l [] Srt.nil FineL.nil (by simp only [cnt]; omega) h2
  exact ⟨q, q1, q2, q3, by simp only [cnt] at q4; omega, fun k => by rw [q5]; rfl⟩

theorem parts_both {l : List Fact} (i : Nat) (h1 : l.length ≤ 100) (h2 : ∀ f ∈ l, lightV f) {q a b : List Row} (hq : putAll [] (l.map factRow) = some q) (ha : putAll [] ((l.take i).map factRow) = some a) (hb : putAll [] ((l.drop i).map factRow) = some b) :
    bothL b a = some q := by
  obtain ⟨q', e1, q2, q3, q4, q5⟩ := facts_rows l h1 h2
  obtain rfl : q = q' := Option.some.inj (hq.symm.trans e1)
  obtain ⟨a', e2, a2, a3, a4, a5⟩ := facts_rows (l.take i) (by rw [List.length_take]; omega) (fun f hf => h2 f (List.mem_of_mem_take hf))
  obtain rfl : a = a' := Option.some.inj (ha.symm.trans e2)
  obtain ⟨b', e3, b2, b3, b4, b5⟩ := facts_rows (l.drop i) (by rw [List.length_drop]; omega) (fun f hf => h2 f (List.mem_of_mem_drop hf))
  obtain rfl : b = b' := Option.some.inj (hb.symm.trans e3)
  have hB := both_is b a b2 a2
  have hm : ∀ k c d, getR b k = some c → getR a k = some d → mergeC c d ≠ none := fun k c d hc hd => by
    have l1 := cnt_mem b3 (getR_some hc)
    have l2 := cnt_mem a3 (getR_some hd)
    simp only at l1 l2
    rw [List.length_drop] at b4
    rw [List.length_take] at a4
    rw [(merge_fine (b3.get hc) (a3.get hd) (by omega)).1]
    exact fun h => by cases h
  cases e : bothL b a with
  | none => rw [e] at hB; obtain ⟨k, c, d, c1, c2, c3⟩ := hB; exact absurd c3 (hm k c d c1 c2)
  | some p =>
    rw [e] at hB
    obtain ⟨p1, p2, p3⟩ := hB
    rw [getR_ext p1 q2 fun k => by
      rw [p2, comb_plus (fun c hc => (b3.get hc).ne) (fun d hd => (a3.get hd).ne) (hm k), b5, a5, q5, cellOf_swap]]

theorem tot_fine : ∀ (l : List Row) (acc : Cell), FineL l → Fine acc → acc.n.toInt + cnt l ≤ 100 → ∃ t, totC acc l = some t ∧ t.n.toInt = acc.n.toInt + cnt l
  | [], acc, _, _, _ => ⟨acc, rfl, by simp [cnt]⟩
  | x :: l, acc, h1, h2, h3 => by
    simp only [cnt] at h3
    have hp := cnt_pos h1.cons.2
    obtain ⟨m1, m2, m3⟩ := merge_fine h2 h1.cons.1 (by omega)
    obtain ⟨t, t1, t2⟩ := tot_fine l _ h1.cons.2 m2 (by rw [m3]; omega)
    exact ⟨t, by rw [totC, m1]; exact t1, by rw [t2, m3, cnt]; omega⟩
theorem tot_rows (l : List Row) (h1 : FineL l) (h2 : cnt l ≤ 100) : ∃ t, totC zeroC l = some t ∧ t.n.toInt = cnt l := by
  cases l with
  | nil => exact ⟨zeroC, rfl, rfl⟩
  | cons x l =>
    simp only [cnt] at h2
    have e : mergeC zeroC x.c = some x.c := rfl
    obtain ⟨t, t1, t2⟩ := tot_fine l x.c h1.cons.2 h1.cons.1 h2
    exact ⟨t, by rw [totC, e]; exact t1, t2⟩

end Go.Proofs

namespace Go.Proofs
open Go Go.Av Go.Sort
set_option linter.unusedSimpArgs false
set_option linter.unusedVariables false
set_option maxRecDepth 30000
set_option maxHeartbeats 2000000

theorem factsA_take (l : List Fact) (n : Nat) : (factsA l).take n = factsA (l.take n) := by simp [factsA, List.map_take]
theorem factsA_drop (l : List Fact) (n : Nat) : (factsA l).drop n = factsA (l.drop n) := by simp [factsA, List.map_drop]

theorem factsA_tl (l : List Fact) : List.take l.length (factsA l) = factsA l := List.take_of_length_le (by rw [factsA_len]; exact Nat.le_refl _)

theorem segParts_spec (l : List Fact) (a : Int64) : APure Try.prog 4 [.sl 6 (factsA l) .none, i6 a] (boo true) := by
  intro s
  have hLF := lightF_spec l
  by_cases h1 : lightF l = true
  · rw [h1] at hLF
    have hl : l.length ≤ 100 := by simp only [lightF, Bool.and_eq_true, decide_eq_true_eq] at h1; exact h1.1
    by_cases h2 : a.toInt < 0
    · refine enterA ⟨[]⟩ (Try.f4.body.getD .skip) [.tmp 4] Try.func4 fun hwf hbel => ?_; simp only [h2,Try.f4, push_cast, ↓EPM, ↓reduceIte, seval, reduceCtorEq]
      refine hLF.use ?_
      simp only [h2, push_cast, ↓EPM, ↓reduceIte, seval, reduceCtorEq]
      refine alive_spec.use ?_
      simp only [push_cast, ↓EPM, ↓reduceIte, seval, reduceCtorEq]
      exact RetP [boo true]
    · by_cases h3 : (l.length : Int) < a.toInt
      · refine enterA ⟨[]⟩ (Try.f4.body.getD .skip) [.tmp 4] Try.func4 fun hwf hbel => ?_; simp only [h2, h3,Try.f4, push_cast, ↓EPM, ↓reduceIte, seval, reduceCtorEq]
        refine hLF.use ?_
        simp only [h2, h3, push_cast, ↓EPM, ↓reduceIte, seval, reduceCtorEq]
        refine alive_spec.use ?_
        simp only [push_cast, ↓EPM, ↓reduceIte, seval, reduceCtorEq]
        exact RetP [boo true]
      · obtain ⟨n, hn⟩ : ∃ n : Nat, a.toInt = n := ⟨a.toInt.toNat, by omega⟩
        have h0n : (0 : Int) ≤ (n : Int) := by omega
        have hnl : (n : Int) ≤ (l.length : Int) := by omega
        have hnl2 : n ≤ l.length := by omega
        have hn1 : ¬ (n : Int) < 0 := by omega
        have hn2 : ¬ (l.length : Int) < (n : Int) := by omega
        refine enterA ⟨[]⟩ (Try.f4.body.getD .skip) [.tmp 4] Try.func4 fun hwf hbel => ?_; simp only [hn, hn1, hn2,Try.f4, push_cast, ↓EPM, ↓reduceIte, seval, reduceCtorEq]
        refine hLF.use ?_
        simp only [hn, hn1, hn2, push_cast, ↓EPM, ↓reduceIte, seval, reduceCtorEq]
        refine ALoop_inv (ι := Nat) (fun i => i ≤ l.length ∧ ∀ f ∈ l.take i, lightV f) (fun i => envL [(0, .sl 6 (factsA l) .none), (1, i64 n), (5, i64 i)]) (fun _ => { s with base := ⟨s.next, []⟩ }) (fun i => l.length - i) 0 ⟨Nat.zero_le _, fun f hf => by cases hf⟩ (ent rfl ?_) (fun i hi => ?_)
        · simp only [push_cast, ↓EPM, ↓reduceIte, seval, reduceCtorEq]
        · obtain ⟨hi, hs⟩ := hi
          by_cases hlt : i < l.length
          · obtain ⟨x, hx⟩ : ∃ x, l[i]? = some x := ⟨_, List.getElem?_eq_getElem hlt⟩
            have gx := factsA_get hx
            have hc : ((i : Int) < (l.length : Int)) := by omega
            have h0 : (0 : Int) ≤ (i : Int) := by omega
            have hw : IntKind.i64.wrap ((i : Int) + 1) = (i : Int) + 1 := wrap_in (by omega) (by omega)
            by_cases hv1 : (1099511627776 : Int) < x.v.toInt
            · simp only [hc, h0, gx, hv1, push_cast, ↓EPM, ↓reduceIte, seval, reduceCtorEq]
              refine alive_spec.use ?_
              simp only [push_cast, ↓EPM, ↓reduceIte, seval, reduceCtorEq]
              exact RetP [boo true]
            · by_cases hv2 : x.v.toInt < -1099511627776
              · simp only [hc, h0, gx, hv1, hv2, push_cast, ↓EPM, ↓reduceIte, seval, reduceCtorEq]
                refine alive_spec.use ?_
                simp only [push_cast, ↓EPM, ↓reduceIte, seval, reduceCtorEq]
                exact RetP [boo true]
              · simp only [hc, h0, gx, hv1, hv2, hw, push_cast, ↓EPM, ↓reduceIte, seval, reduceCtorEq]
                refine round_next (i + 1) ⟨by omega, fun f hf => ?_⟩ (by omega) (ent rfl ?_)
                · rw [take_get hx] at hf
                  rcases List.mem_append.1 hf with hf | hf
                  · exact hs f hf
                  · obtain rfl := List.mem_singleton.1 hf
                    exact ⟨by omega, by omega⟩
                · simp only [push_cast, ↓EPM, ↓reduceIte, seval, reduceCtorEq]
          · have hc : ¬ ((i : Int) < (l.length : Int)) := by omega
            rw [List.take_of_length_le (by omega)] at hs
            obtain ⟨q, q1, q2, q3, q4, q5⟩ := facts_rows l hl hs
            obtain ⟨qa, a1, a2, a3, a4, a5⟩ := facts_rows (l.take n) (by rw [List.length_take]; omega) (fun f hf => hs f (List.mem_of_mem_take hf))
            obtain ⟨qb, b1, b2, b3, b4, b5⟩ := facts_rows (l.drop n) (by rw [List.length_drop]; omega) (fun f hf => hs f (List.mem_of_mem_drop hf))
            have hboth := parts_both n hl hs q1 a1 b1
            have lq := putAll_len _ _ _ q1
            have la := putAll_len _ _ _ a1
            have lb := putAll_len _ _ _ b1
            simp only [List.length_map, List.length_nil, List.length_take, List.length_drop] at lq la lb
            have ho := of_seg l (by omega)
            have hoa := of_seg (l.take n) (by rw [List.length_take]; omega)
            have hob := of_seg (l.drop n) (by rw [List.length_drop]; omega)
            rw [ofs_eq, q1] at ho
            rw [ofs_eq, a1] at hoa
            rw [ofs_eq, b1] at hob
            have hm : APure Try.prog 21 [.sl 1 [[segA (some qb)], [segA (some qa)]] .none] (resO (some q)) := by
              have h := merges_spec [some qb, some qa] (by simp) (by simp only [weigh, List.map_cons, List.map_nil, List.sum_cons, List.sum_nil, Option.getD_some]; omega)
              rw [show mergeAll [] [some qb, some qa] = some q by simp only [mergeAll, bothL, Option.bind_some, hboth]] at h
              exact h
            obtain ⟨t, t1, t2⟩ := tot_rows q q3 (by omega)
            have ht := total_spec (some q) (by simp only [Option.getD_some]; omega)
            simp only [Option.getD_some] at ht
            rw [t1] at ht
            have hS := sames_spec (some q) (some q) (by simp only [Option.getD_some]; omega)
            simp only [decide_true] at hS
            rw [q4] at t2
            simp only [hc, push_cast, ↓EPM, ↓reduceIte, seval, reduceCtorEq]
            refine ho.use ?_
            simp only [resO, resS, hnl, h0n, factsA_take, factsA_drop, List.take_length, push_cast, ↓EPM, ↓reduceIte, seval, reduceCtorEq]
            refine hoa.use ?_
            simp only [resO, resS, hnl, h0n, factsA_take, factsA_drop, List.take_length, push_cast, ↓EPM, ↓reduceIte, seval, reduceCtorEq]
            refine hob.use ?_
            simp only [resO, resS, push_cast, ↓EPM, ↓reduceIte, seval, reduceCtorEq]
            refine hm.use ?_
            simp only [resO, resS, push_cast, ↓EPM, ↓reduceIte, seval, reduceCtorEq]
            refine ht.use ?_
            simp only [resC, push_cast, ↓EPM, ↓reduceIte, seval, reduceCtorEq]
            refine hS.use ?_
            simp only [push_cast, ↓EPM, ↓reduceIte, seval, reduceCtorEq]
            refine hS.use ?_
            simp only [t2, push_cast, ↓EPM, ↓reduceIte, seval, reduceCtorEq]
            refine alive_spec.use ?_
            simp only [push_cast, ↓EPM, ↓reduceIte, seval, reduceCtorEq]
            exact RetP [boo true]
  · have h1 : lightF l = false := by simpa using h1
    rw [h1] at hLF
    refine enterA ⟨[]⟩ (Try.f4.body.getD .skip) [.tmp 4] Try.func4 fun hwf hbel => ?_; simp only [Try.f4, push_cast, ↓EPM, ↓reduceIte, seval, reduceCtorEq]
    refine hLF.use ?_
    simp only [push_cast, ↓EPM, ↓reduceIte, seval, reduceCtorEq]
    refine alive_spec.use ?_
    simp only [push_cast, ↓EPM, ↓reduceIte, seval, reduceCtorEq]
    exact RetP [boo true]

end Go.Proofs

namespace Go.Proofs
open Go Go.Av Go.Sort
set_option linter.unusedSimpArgs false
set_option linter.unusedVariables false
set_option maxRecDepth 30000
set_option maxHeartbeats 2000000

structure Query where
  fr : Int64
  to : Int64
  g0 : Bool
  g1 : Bool
  g2 : Bool
  g3 : Bool
  h0 : Bool
  h1 : Bool
  h2 : Bool
  h3 : Bool
  f0 : ByteArray
  f1 : ByteArray
  f2 : ByteArray
  f3 : ByteArray
def Query.av (q : Query) : List AV := [i6 q.fr, i6 q.to, boo q.g0, boo q.g1, boo q.g2, boo q.g3, boo q.h0, boo q.h1, boo q.h2, boo q.h3, str q.f0, str q.f1, str q.f2, str q.f3]
attribute [push_cast] Query.av
def Query.mask (q : Query) (k : Key) (i : Nat) : Key := ⟨k.h, bif Nat.ble i 0 || q.h0 then k.a else q.f0, bif Nat.ble i 1 || q.h1 then k.b else q.f1, bif Nat.ble i 2 || q.h2 then k.c else q.f2, bif Nat.ble i 3 || q.h3 then k.d else q.f3⟩
def Query.grpI (q : Query) (k : Key) (i : Nat) : Key := ⟨0, bif Nat.blt 0 i && q.g0 then k.a else .empty, bif Nat.blt 1 i && q.g1 then k.b else .empty, bif Nat.blt 2 i && q.g2 then k.c else .empty, bif Nat.blt 3 i && q.g3 then k.d else .empty⟩
/-- The group of a key. -/
def Query.grp (q : Query) (k : Key) : Key := q.grpI k 4
def Query.same (q : Query) (k : Key) : Bool := (!q.h0 || decide (q.f0 = k.a)) && ((!q.h1 || decide (q.f1 = k.b)) && ((!q.h2 || decide (q.f2 = k.c)) && (!q.h3 || decide (q.f3 = k.d))))
/-- Whether a query asks for a key. -/
def Query.hits (q : Query) (k : Key) : Bool := decide (q.fr.toInt ≤ k.h.toInt) && (decide (k.h.toInt < q.to.toInt) && q.same k)

theorem dims_beq (a b c d a' b' c' d' : ByteArray) : ((a.toList == a'.toList) && ((b.toList == b'.toList) && ((c.toList == c'.toList) && ((d.toList == d'.toList) && true)))) = (decide (a = a') && (decide (b = b') && (decide (c = c') && decide (d = d')))) := by
  simp only [str_beq, Bool.and_true]
theorem aeq_dims (a b c d a' b' c' d' : ByteArray) : AEq Try.prog 37 (.agg [str a, str b, str c, str d]) (.agg [str a', str b', str c', str d']) (decide (a = a') && (decide (b = b') && (decide (c = c') && decide (d = d')))) := by
  rw [← dims_beq]
  exact AEq_agg (by kernel_rfl) (by kernel_rfl)
theorem key_bel (n : Nat) (k : Key) : OBel n (.cells k.av) := by
  intro x hx
  simp only [Key.av, List.mem_cons, List.not_mem_nil, or_false] at hx
  rcases hx with rfl | rfl | rfl | rfl | rfl <;> exact .v _
theorem mask_same (q : Query) (k : Key) : (decide ((q.mask k 4).a = q.f0) && (decide ((q.mask k 4).b = q.f1) && (decide ((q.mask k 4).c = q.f2) && decide ((q.mask k 4).d = q.f3)))) = q.same k := by
  obtain ⟨fr, to, g0, g1, g2, g3, h0, h1, h2, h3, f0, f1, f2, f3⟩ := q
  have e : ∀ (x : Bool) (a b : ByteArray), decide ((bif x then a else b) = b) = (!x || decide (b = a)) := by
    intro x a b; cases x <;> simp [eq_comm]
  simp only [Query.mask, Query.same, Nat.ble, Bool.false_or, e]

theorem matches_spec (q : Query) (k : Key) : APure Try.prog 62 [.agg q.av, .agg k.av] (boo (q.hits k)) := by
  intro s
  have hms := mask_same q k
  generalize hr : q.hits k = r
  obtain ⟨fr, to, g0, g1, g2, g3, h0, h1, h2, h3, f0, f1, f2, f3⟩ := q
  refine enterA ⟨[2]⟩ (Try.f62.body.getD .skip) [.tmp 4] Try.func62 fun hwf hbel => ?_; simp only [Try.f62, push_cast, ↓EPM, ↓reduceIte, seval, reduceCtorEq]
  refine ALoop_inv (ι := Nat) (fun i => i ≤ 4) (fun i => envL [(2, .ep (Query.av ⟨fr, to, g0, g1, g2, g3, h0, h1, h2, h3, f0, f1, f2, f3⟩) 0), (3, .ptr s.next 0), (8, .agg [boo h0, boo h1, boo h2, boo h3]), (9, i64 i)]) (fun i => AState.new { s with base := ⟨s.next, []⟩ } (.cells (Query.mask ⟨fr, to, g0, g1, g2, g3, h0, h1, h2, h3, f0, f1, f2, f3⟩ k i).av)) (fun i => 4 - i) 0 (Nat.zero_le _) (ent rfl ?_) (fun i hi => ?_)
  · simp only [push_cast, ↓EPM, ↓reduceIte, seval, reduceCtorEq]
  · obtain rfl | rfl | rfl | rfl | rfl : i = 0 ∨ i = 1 ∨ i = 2 ∨ i = 3 ∨ i = 4 := by omega
    · have hw : IntKind.i64.wrap ((0 : Int) + 1) = (0 : Int) + 1 := wrap_in (by omega) (by omega)
      simp only [Int.reduceAdd] at hw
      cases h0 with
      | true =>
        simp only [hw, push_cast, ↓EPM, ↓reduceIte, seval, reduceCtorEq]
        refine round_next 1 (by show (1:Nat) ≤ 4; omega) (by omega) (AEnt_drop rfl rfl (Nat.le_add_right _ 1) ⟨Nat.le_refl _, fun id hid => by simp only [AState.set, AState.new] at hid ⊢; (repeat' split) <;> first | rfl | omega⟩ ((hwf.base _).new (key_bel _ (Query.mask ⟨fr, to, g0, g1, g2, g3, true, h1, h2, h3, f0, f1, f2, f3⟩ k 1))) (EntB_all ?_))
        simp only [push_cast, ↓EPM, ↓reduceIte, seval, reduceCtorEq]
        (try first | omega | ((repeat' apply And.intro) <;> first | omega | (simp only [push_cast, ↓EPM, ↓reduceIte, seval, reduceCtorEq, List.mem_cons, List.not_mem_nil, or_false, forall_eq_or_imp, forall_eq, and_self, true_and, and_true, zeroR]; done) | (simp only [push_cast, ↓EPM, ↓reduceIte, seval, reduceCtorEq, List.mem_cons, List.not_mem_nil, or_false, forall_eq_or_imp, forall_eq, and_self, true_and, and_true, zeroR]; omega)))
      | false =>
        simp only [hw, push_cast, ↓EPM, ↓reduceIte, seval, reduceCtorEq]
        refine round_next 1 (by show (1:Nat) ≤ 4; omega) (by omega) (AEnt_drop rfl rfl (Nat.le_add_right _ 1) ⟨Nat.le_refl _, fun id hid => by simp only [AState.set, AState.new] at hid ⊢; (repeat' split) <;> first | rfl | omega⟩ ((hwf.base _).new (key_bel _ (Query.mask ⟨fr, to, g0, g1, g2, g3, false, h1, h2, h3, f0, f1, f2, f3⟩ k 1))) (EntB_all ?_))
        simp only [push_cast, ↓EPM, ↓reduceIte, seval, reduceCtorEq]
        (try first | omega | ((repeat' apply And.intro) <;> first | omega | (simp only [push_cast, ↓EPM, ↓reduceIte, seval, reduceCtorEq, List.mem_cons, List.not_mem_nil, or_false, forall_eq_or_imp, forall_eq, and_self, true_and, and_true, zeroR]; done) | (simp only [push_cast, ↓EPM, ↓reduceIte, seval, reduceCtorEq, List.mem_cons, List.not_mem_nil, or_false, forall_eq_or_imp, forall_eq, and_self, true_and, and_true, zeroR]; omega)))
    · have hw : IntKind.i64.wrap ((1 : Int) + 1) = (1 : Int) + 1 := wrap_in (by omega) (by omega)
      simp only [Int.reduceAdd] at hw
      cases h1 with
      | true =>
        simp only [hw, push_cast, ↓EPM, ↓reduceIte, seval, reduceCtorEq]
        refine round_next 2 (by show (2:Nat) ≤ 4; omega) (by omega) (AEnt_drop rfl rfl (Nat.le_add_right _ 1) ⟨Nat.le_refl _, fun id hid => by simp only [AState.set, AState.new] at hid ⊢; (repeat' split) <;> first | rfl | omega⟩ ((hwf.base _).new (key_bel _ (Query.mask ⟨fr, to, g0, g1, g2, g3, h0, true, h2, h3, f0, f1, f2, f3⟩ k 2))) (EntB_all ?_))
        simp only [push_cast, ↓EPM, ↓reduceIte, seval, reduceCtorEq]
        (try first | omega | ((repeat' apply And.intro) <;> first | omega | (simp only [push_cast, ↓EPM, ↓reduceIte, seval, reduceCtorEq, List.mem_cons, List.not_mem_nil, or_false, forall_eq_or_imp, forall_eq, and_self, true_and, and_true, zeroR]; done) | (simp only [push_cast, ↓EPM, ↓reduceIte, seval, reduceCtorEq, List.mem_cons, List.not_mem_nil, or_false, forall_eq_or_imp, forall_eq, and_self, true_and, and_true, zeroR]; omega)))
      | false =>
        simp only [hw, push_cast, ↓EPM, ↓reduceIte, seval, reduceCtorEq]
        refine round_next 2 (by show (2:Nat) ≤ 4; omega) (by omega) (AEnt_drop rfl rfl (Nat.le_add_right _ 1) ⟨Nat.le_refl _, fun id hid => by simp only [AState.set, AState.new] at hid ⊢; (repeat' split) <;> first | rfl | omega⟩ ((hwf.base _).new (key_bel _ (Query.mask ⟨fr, to, g0, g1, g2, g3, h0, false, h2, h3, f0, f1, f2, f3⟩ k 2))) (EntB_all ?_))
        simp only [push_cast, ↓EPM, ↓reduceIte, seval, reduceCtorEq]
        (try first | omega | ((repeat' apply And.intro) <;> first | omega | (simp only [push_cast, ↓EPM, ↓reduceIte, seval, reduceCtorEq, List.mem_cons, List.not_mem_nil, or_false, forall_eq_or_imp, forall_eq, and_self, true_and, and_true, zeroR]; done) | (simp only [push_cast, ↓EPM, ↓reduceIte, seval, reduceCtorEq, List.mem_cons, List.not_mem_nil, or_false, forall_eq_or_imp, forall_eq, and_self, true_and, and_true, zeroR]; omega)))
    · have hw : IntKind.i64.wrap ((2 : Int) + 1) = (2 : Int) + 1 := wrap_in (by omega) (by omega)
      simp only [Int.reduceAdd] at hw
      cases h2 with
      | true =>
        simp only [hw, push_cast, ↓EPM, ↓reduceIte, seval, reduceCtorEq]
        refine round_next 3 (by show (3:Nat) ≤ 4; omega) (by omega) (AEnt_drop rfl rfl (Nat.le_add_right _ 1) ⟨Nat.le_refl _, fun id hid => by simp only [AState.set, AState.new] at hid ⊢; (repeat' split) <;> first | rfl | omega⟩ ((hwf.base _).new (key_bel _ (Query.mask ⟨fr, to, g0, g1, g2, g3, h0, h1, true, h3, f0, f1, f2, f3⟩ k 3))) (EntB_all ?_))
        simp only [push_cast, ↓EPM, ↓reduceIte, seval, reduceCtorEq]
        (try first | omega | ((repeat' apply And.intro) <;> first | omega | (simp only [push_cast, ↓EPM, ↓reduceIte, seval, reduceCtorEq, List.mem_cons, List.not_mem_nil, or_false, forall_eq_or_imp, forall_eq, and_self, true_and, and_true, zeroR]; done) | (simp only [push_cast, ↓EPM, ↓reduceIte, seval, reduceCtorEq, List.mem_cons, List.not_mem_nil, or_false, forall_eq_or_imp, forall_eq, and_self, true_and, and_true, zeroR]; omega)))
      | false =>
        simp only [hw, push_cast, ↓EPM, ↓reduceIte, seval, reduceCtorEq]
        refine round_next 3 (by show (3:Nat) ≤ 4; omega) (by omega) (AEnt_drop rfl rfl (Nat.le_add_right _ 1) ⟨Nat.le_refl _, fun id hid => by simp only [AState.set, AState.new] at hid ⊢; (repeat' split) <;> first | rfl | omega⟩ ((hwf.base _).new (key_bel _ (Query.mask ⟨fr, to, g0, g1, g2, g3, h0, h1, false, h3, f0, f1, f2, f3⟩ k 3))) (EntB_all ?_))
        simp only [push_cast, ↓EPM, ↓reduceIte, seval, reduceCtorEq]
        (try first | omega | ((repeat' apply And.intro) <;> first | omega | (simp only [push_cast, ↓EPM, ↓reduceIte, seval, reduceCtorEq, List.mem_cons, List.not_mem_nil, or_false, forall_eq_or_imp, forall_eq, and_self, true_and, and_true, zeroR]; done) | (simp only [push_cast, ↓EPM, ↓reduceIte, seval, reduceCtorEq, List.mem_cons, List.not_mem_nil, or_false, forall_eq_or_imp, forall_eq, and_self, true_and, and_true, zeroR]; omega)))
    · have hw : IntKind.i64.wrap ((3 : Int) + 1) = (3 : Int) + 1 := wrap_in (by omega) (by omega)
      simp only [Int.reduceAdd] at hw
      cases h3 with
      | true =>
        simp only [hw, push_cast, ↓EPM, ↓reduceIte, seval, reduceCtorEq]
        refine round_next 4 (by show (4:Nat) ≤ 4; omega) (by omega) (AEnt_drop rfl rfl (Nat.le_add_right _ 1) ⟨Nat.le_refl _, fun id hid => by simp only [AState.set, AState.new] at hid ⊢; (repeat' split) <;> first | rfl | omega⟩ ((hwf.base _).new (key_bel _ (Query.mask ⟨fr, to, g0, g1, g2, g3, h0, h1, h2, true, f0, f1, f2, f3⟩ k 4))) (EntB_all ?_))
        simp only [push_cast, ↓EPM, ↓reduceIte, seval, reduceCtorEq]
        (try first | omega | ((repeat' apply And.intro) <;> first | omega | (simp only [push_cast, ↓EPM, ↓reduceIte, seval, reduceCtorEq, List.mem_cons, List.not_mem_nil, or_false, forall_eq_or_imp, forall_eq, and_self, true_and, and_true, zeroR]; done) | (simp only [push_cast, ↓EPM, ↓reduceIte, seval, reduceCtorEq, List.mem_cons, List.not_mem_nil, or_false, forall_eq_or_imp, forall_eq, and_self, true_and, and_true, zeroR]; omega)))
      | false =>
        simp only [hw, push_cast, ↓EPM, ↓reduceIte, seval, reduceCtorEq]
        refine round_next 4 (by show (4:Nat) ≤ 4; omega) (by omega) (AEnt_drop rfl rfl (Nat.le_add_right _ 1) ⟨Nat.le_refl _, fun id hid => by simp only [AState.set, AState.new] at hid ⊢; (repeat' split) <;> first | rfl | omega⟩ ((hwf.base _).new (key_bel _ (Query.mask ⟨fr, to, g0, g1, g2, g3, h0, h1, h2, false, f0, f1, f2, f3⟩ k 4))) (EntB_all ?_))
        simp only [push_cast, ↓EPM, ↓reduceIte, seval, reduceCtorEq]
        (try first | omega | ((repeat' apply And.intro) <;> first | omega | (simp only [push_cast, ↓EPM, ↓reduceIte, seval, reduceCtorEq, List.mem_cons, List.not_mem_nil, or_false, forall_eq_or_imp, forall_eq, and_self, true_and, and_true, zeroR]; done) | (simp only [push_cast, ↓EPM, ↓reduceIte, seval, reduceCtorEq, List.mem_cons, List.not_mem_nil, or_false, forall_eq_or_imp, forall_eq, and_self, true_and, and_true, zeroR]; omega)))
    · by_cases hA : fr.toInt ≤ k.h.toInt
      · by_cases hB : k.h.toInt < to.toInt
        · simp only [hA, hB, Query.mask, push_cast, ↓EPM, ↓reduceIte, seval, reduceCtorEq]
          refine eqK_use (aeq_dims (Query.mask ⟨fr, to, g0, g1, g2, g3, h0, h1, h2, h3, f0, f1, f2, f3⟩ k 4).a (Query.mask ⟨fr, to, g0, g1, g2, g3, h0, h1, h2, h3, f0, f1, f2, f3⟩ k 4).b (Query.mask ⟨fr, to, g0, g1, g2, g3, h0, h1, h2, h3, f0, f1, f2, f3⟩ k 4).c (Query.mask ⟨fr, to, g0, g1, g2, g3, h0, h1, h2, h3, f0, f1, f2, f3⟩ k 4).d (Query.f0 ⟨fr, to, g0, g1, g2, g3, h0, h1, h2, h3, f0, f1, f2, f3⟩) (Query.f1 ⟨fr, to, g0, g1, g2, g3, h0, h1, h2, h3, f0, f1, f2, f3⟩) (Query.f2 ⟨fr, to, g0, g1, g2, g3, h0, h1, h2, h3, f0, f1, f2, f3⟩) (Query.f3 ⟨fr, to, g0, g1, g2, g3, h0, h1, h2, h3, f0, f1, f2, f3⟩)) ?_
          rw [hms]
          rw [show r = Query.same ⟨fr, to, g0, g1, g2, g3, h0, h1, h2, h3, f0, f1, f2, f3⟩ k by rw [← hr]; simp [Query.hits, hA, hB]]
          simp only [push_cast, ↓EPM, ↓reduceIte, seval, reduceCtorEq]
          exact RetP [boo (Query.same ⟨fr, to, g0, g1, g2, g3, h0, h1, h2, h3, f0, f1, f2, f3⟩ k)]
        · simp only [hA, hB, Query.mask, push_cast, ↓EPM, ↓reduceIte, seval, reduceCtorEq]
          rw [show r = false by rw [← hr]; simp [Query.hits, hB]]
          exact RetP [boo false]
      · simp only [hA, Query.mask, push_cast, ↓EPM, ↓reduceIte, seval, reduceCtorEq]
        rw [show r = false by rw [← hr]; simp [Query.hits, hA]]
        exact RetP [boo false]

def sameI (q : Query) (k : Key) : Nat → Bool
  | 0 => q.same k
  | 1 => (!q.h1 || decide (q.f1 = k.b)) && ((!q.h2 || decide (q.f2 = k.c)) && (!q.h3 || decide (q.f3 = k.d)))
  | 2 => (!q.h2 || decide (q.f2 = k.c)) && (!q.h3 || decide (q.f3 = k.d))
  | 3 => !q.h3 || decide (q.f3 = k.d)
  | _ => true
theorem rmatches_spec (q : Query) (k : Key) : APure Try.prog 65 [.agg q.av, .agg k.av] (boo (q.hits k)) := by
  intro s
  by_cases hA : k.h.toInt < q.fr.toInt
  · have e : q.hits k = false := by simp [Query.hits]; omega
    rw [e]
    refine enterA ⟨[2,3]⟩ (Try.f65.body.getD .skip) [.tmp 4] Try.func65 fun hwf hbel => ?_; simp only [hA,Try.f65, push_cast, ↓EPM, ↓reduceIte, seval, reduceCtorEq]
    exact RetP [boo false]
  · by_cases hB : q.to.toInt ≤ k.h.toInt
    · have e : q.hits k = false := by simp [Query.hits]; omega
      rw [e]
      refine enterA ⟨[2,3]⟩ (Try.f65.body.getD .skip) [.tmp 4] Try.func65 fun hwf hbel => ?_; simp only [hA, hB,Try.f65, push_cast, ↓EPM, ↓reduceIte, seval, reduceCtorEq]
      exact RetP [boo false]
    · have e : q.hits k = q.same k := by
        have h1 : q.fr.toInt ≤ k.h.toInt := by omega
        have h2 : k.h.toInt < q.to.toInt := by omega
        simp [Query.hits, h1, h2]
      rw [e]
      generalize hr : q.same k = r
      refine enterA ⟨[2,3]⟩ (Try.f65.body.getD .skip) [.tmp 4] Try.func65 fun hwf hbel => ?_; simp only [hA, hB,Try.f65, push_cast, ↓EPM, ↓reduceIte, seval, reduceCtorEq]
      refine ALoop_inv (ι := Nat) (fun i => i ≤ 4 ∧ r = sameI q k i) (fun i => envL [(2, .ep q.av 0), (3, .ep k.av 0), (5, i64 i)]) (fun i => { s with base := ⟨s.next, []⟩ }) (fun i => 4 - i) 0 ⟨Nat.zero_le _, hr.symm⟩ (ent rfl ?_) (fun i hi => ?_)
      · simp only [push_cast, ↓EPM, ↓reduceIte, seval, reduceCtorEq]
      · obtain ⟨hi, hs⟩ := hi
        obtain rfl | rfl | rfl | rfl | rfl : i = 0 ∨ i = 1 ∨ i = 2 ∨ i = 3 ∨ i = 4 := by omega
        · have hw : IntKind.i64.wrap ((0 : Int) + 1) = (0 : Int) + 1 := wrap_in (by omega) (by omega)
          simp only [Int.reduceAdd] at hw
          cases hh : q.h0 with
          | false =>
            simp only [hh, push_cast, ↓EPM, ↓reduceIte, seval, reduceCtorEq]
            refine drawA mixed ?_; simp only [hh, push_cast, ↓EPM, ↓reduceIte, seval, reduceCtorEq]
            simp only [hw, push_cast, ↓EPM, ↓reduceIte, seval, reduceCtorEq]
            refine round_next 1 ⟨by omega, by rw [hs]; simp [sameI, Query.same, hh]⟩ (by omega) (ent rfl ?_)
            simp only [push_cast, ↓EPM, ↓reduceIte, seval, reduceCtorEq]
          | true =>
            by_cases hq : q.f0 = k.a
            · have hb : (q.f0.toList == k.a.toList) = true := by rw [str_beq]; simp [hq]
              simp only [hh, push_cast, ↓EPM, ↓reduceIte, seval, reduceCtorEq]
              refine drawA mixed ?_; simp only [hh, hb, push_cast, ↓EPM, ↓reduceIte, seval, reduceCtorEq]
              simp only [hw, push_cast, ↓EPM, ↓reduceIte, seval, reduceCtorEq]
              refine round_next 1 ⟨by omega, by rw [hs]; simp [sameI, Query.same, hh, hq]⟩ (by omega) (ent rfl ?_)
              simp only [push_cast, ↓EPM, ↓reduceIte, seval, reduceCtorEq]
            · have hb : (q.f0.toList == k.a.toList) = false := by rw [str_beq]; simp [hq]
              simp only [hh, push_cast, ↓EPM, ↓reduceIte, seval, reduceCtorEq]
              refine drawA mixed ?_; simp only [hh, hb, push_cast, ↓EPM, ↓reduceIte, seval, reduceCtorEq]
              rw [show r = false by rw [hs]; simp [sameI, Query.same, hh, hq]]
              exact RetP [boo false]
        · have hw : IntKind.i64.wrap ((1 : Int) + 1) = (1 : Int) + 1 := wrap_in (by omega) (by omega)
          simp only [Int.reduceAdd] at hw
          cases hh : q.h1 with
          | false =>
            simp only [hh, push_cast, ↓EPM, ↓reduceIte, seval, reduceCtorEq]
            refine drawA mixed ?_; simp only [hh, push_cast, ↓EPM, ↓reduceIte, seval, reduceCtorEq]
            simp only [hw, push_cast, ↓EPM, ↓reduceIte, seval, reduceCtorEq]
            refine round_next 2 ⟨by omega, by rw [hs]; simp [sameI, Query.same, hh]⟩ (by omega) (ent rfl ?_)
            simp only [push_cast, ↓EPM, ↓reduceIte, seval, reduceCtorEq]
          | true =>
            by_cases hq : q.f1 = k.b
            · have hb : (q.f1.toList == k.b.toList) = true := by rw [str_beq]; simp [hq]
              simp only [hh, push_cast, ↓EPM, ↓reduceIte, seval, reduceCtorEq]
              refine drawA mixed ?_; simp only [hh, hb, push_cast, ↓EPM, ↓reduceIte, seval, reduceCtorEq]
              simp only [hw, push_cast, ↓EPM, ↓reduceIte, seval, reduceCtorEq]
              refine round_next 2 ⟨by omega, by rw [hs]; simp [sameI, Query.same, hh, hq]⟩ (by omega) (ent rfl ?_)
              simp only [push_cast, ↓EPM, ↓reduceIte, seval, reduceCtorEq]
            · have hb : (q.f1.toList == k.b.toList) = false := by rw [str_beq]; simp [hq]
              simp only [hh, push_cast, ↓EPM, ↓reduceIte, seval, reduceCtorEq]
              refine drawA mixed ?_; simp only [hh, hb, push_cast, ↓EPM, ↓reduceIte, seval, reduceCtorEq]
              rw [show r = false by rw [hs]; simp [sameI, Query.same, hh, hq]]
              exact RetP [boo false]
        · have hw : IntKind.i64.wrap ((2 : Int) + 1) = (2 : Int) + 1 := wrap_in (by omega) (by omega)
          simp only [Int.reduceAdd] at hw
          cases hh : q.h2 with
          | false =>
            simp only [hh, push_cast, ↓EPM, ↓reduceIte, seval, reduceCtorEq]
            refine drawA mixed ?_; simp only [hh, push_cast, ↓EPM, ↓reduceIte, seval, reduceCtorEq]
            simp only [hw, push_cast, ↓EPM, ↓reduceIte, seval, reduceCtorEq]
            refine round_next 3 ⟨by omega, by rw [hs]; simp [sameI, Query.same, hh]⟩ (by omega) (ent rfl ?_)
            simp only [push_cast, ↓EPM, ↓reduceIte, seval, reduceCtorEq]
          | true =>
            by_cases hq : q.f2 = k.c
            · have hb : (q.f2.toList == k.c.toList) = true := by rw [str_beq]; simp [hq]
              simp only [hh, push_cast, ↓EPM, ↓reduceIte, seval, reduceCtorEq]
              refine drawA mixed ?_; simp only [hh, hb, push_cast, ↓EPM, ↓reduceIte, seval, reduceCtorEq]
              simp only [hw, push_cast, ↓EPM, ↓reduceIte, seval, reduceCtorEq]
              refine round_next 3 ⟨by omega, by rw [hs]; simp [sameI, Query.same, hh, hq]⟩ (by omega) (ent rfl ?_)
              simp only [push_cast, ↓EPM, ↓reduceIte, seval, reduceCtorEq]
            · have hb : (q.f2.toList == k.c.toList) = false := by rw [str_beq]; simp [hq]
              simp only [hh, push_cast, ↓EPM, ↓reduceIte, seval, reduceCtorEq]
              refine drawA mixed ?_; simp only [hh, hb, push_cast, ↓EPM, ↓reduceIte, seval, reduceCtorEq]
              rw [show r = false by rw [hs]; simp [sameI, Query.same, hh, hq]]
              exact RetP [boo false]
        · have hw : IntKind.i64.wrap ((3 : Int) + 1) = (3 : Int) + 1 := wrap_in (by omega) (by omega)
          simp only [Int.reduceAdd] at hw
          cases hh : q.h3 with
          | false =>
            simp only [hh, push_cast, ↓EPM, ↓reduceIte, seval, reduceCtorEq]
            refine drawA mixed ?_; simp only [hh, push_cast, ↓EPM, ↓reduceIte, seval, reduceCtorEq]
            simp only [hw, push_cast, ↓EPM, ↓reduceIte, seval, reduceCtorEq]
            refine round_next 4 ⟨by omega, by rw [hs]; simp [sameI, Query.same, hh]⟩ (by omega) (ent rfl ?_)
            simp only [push_cast, ↓EPM, ↓reduceIte, seval, reduceCtorEq]
          | true =>
            by_cases hq : q.f3 = k.d
            · have hb : (q.f3.toList == k.d.toList) = true := by rw [str_beq]; simp [hq]
              simp only [hh, push_cast, ↓EPM, ↓reduceIte, seval, reduceCtorEq]
              refine drawA mixed ?_; simp only [hh, hb, push_cast, ↓EPM, ↓reduceIte, seval, reduceCtorEq]
              simp only [hw, push_cast, ↓EPM, ↓reduceIte, seval, reduceCtorEq]
              refine round_next 4 ⟨by omega, by rw [hs]; simp [sameI, Query.same, hh, hq]⟩ (by omega) (ent rfl ?_)
              simp only [push_cast, ↓EPM, ↓reduceIte, seval, reduceCtorEq]
            · have hb : (q.f3.toList == k.d.toList) = false := by rw [str_beq]; simp [hq]
              simp only [hh, push_cast, ↓EPM, ↓reduceIte, seval, reduceCtorEq]
              refine drawA mixed ?_; simp only [hh, hb, push_cast, ↓EPM, ↓reduceIte, seval, reduceCtorEq]
              rw [show r = false by rw [hs]; simp [sameI, Query.same, hh, hq]]
              exact RetP [boo false]
        · simp only [push_cast, ↓EPM, ↓reduceIte, seval, reduceCtorEq]
          rw [show r = true by rw [hs]; rfl]
          exact RetP [boo true]

end Go.Proofs

namespace Go.Proofs
open Go Go.Av Go.Sort
set_option linter.unusedSimpArgs false
set_option linter.unusedVariables false
set_option maxRecDepth 30000
set_option maxHeartbeats 2000000


theorem group_spec (q : Query) (k : Key) : APure Try.prog 63 [.agg q.av, .agg k.av] (.agg (q.grp k).av) := by
  intro s
  obtain ⟨fr, to, g0, g1, g2, g3, h0, h1, h2, h3, f0, f1, f2, f3⟩ := q
  refine enterA ⟨[2,3]⟩ (Try.f63.body.getD .skip) [.cell 4 39] Try.func63 fun hwf hbel => ?_; simp only [Try.f63, push_cast, ↓EPM, ↓reduceIte, seval, reduceCtorEq]
  refine ALoop_inv (ι := Nat) (fun i => i ≤ 4) (fun i => envL [(2, .ep (Query.av ⟨fr, to, g0, g1, g2, g3, h0, h1, h2, h3, f0, f1, f2, f3⟩) 0), (3, .ep k.av 0), (4, .ptr s.next 0), (8, .agg [boo g0, boo g1, boo g2, boo g3]), (9, i64 i)]) (fun i => AState.new { s with base := ⟨s.next, []⟩ } (.cells (Query.grpI ⟨fr, to, g0, g1, g2, g3, h0, h1, h2, h3, f0, f1, f2, f3⟩ k i).av)) (fun i => 4 - i) 0 (Nat.zero_le _) (ent rfl ?_) (fun i hi => ?_)
  · simp only [push_cast, ↓EPM, ↓reduceIte, seval, reduceCtorEq]
  · obtain rfl | rfl | rfl | rfl | rfl : i = 0 ∨ i = 1 ∨ i = 2 ∨ i = 3 ∨ i = 4 := by omega
    · have hw : IntKind.i64.wrap ((0 : Int) + 1) = (0 : Int) + 1 := wrap_in (by omega) (by omega)
      simp only [Int.reduceAdd] at hw
      cases g0 with
      | true =>
        simp only [hw, push_cast, ↓EPM, ↓reduceIte, seval, reduceCtorEq]
        refine round_next 1 (by show (1:Nat) ≤ 4; omega) (by omega) (AEnt_drop rfl rfl (Nat.le_add_right _ 1) ⟨Nat.le_refl _, fun id hid => by simp only [AState.set, AState.new] at hid ⊢; (repeat' split) <;> first | rfl | omega⟩ ((hwf.base _).new (key_bel _ (Query.grpI ⟨fr, to, true, g1, g2, g3, h0, h1, h2, h3, f0, f1, f2, f3⟩ k 1))) (EntB_all ?_))
        simp only [push_cast, ↓EPM, ↓reduceIte, seval, reduceCtorEq]
        (try first | omega | ((repeat' apply And.intro) <;> first | omega | (simp only [push_cast, ↓EPM, ↓reduceIte, seval, reduceCtorEq, List.mem_cons, List.not_mem_nil, or_false, forall_eq_or_imp, forall_eq, and_self, true_and, and_true, zeroR]; done) | (simp only [push_cast, ↓EPM, ↓reduceIte, seval, reduceCtorEq, List.mem_cons, List.not_mem_nil, or_false, forall_eq_or_imp, forall_eq, and_self, true_and, and_true, zeroR]; omega)))
      | false =>
        simp only [hw, push_cast, ↓EPM, ↓reduceIte, seval, reduceCtorEq]
        refine round_next 1 (by show (1:Nat) ≤ 4; omega) (by omega) (AEnt_drop rfl rfl (Nat.le_add_right _ 1) ⟨Nat.le_refl _, fun id hid => by simp only [AState.set, AState.new] at hid ⊢; (repeat' split) <;> first | rfl | omega⟩ ((hwf.base _).new (key_bel _ (Query.grpI ⟨fr, to, false, g1, g2, g3, h0, h1, h2, h3, f0, f1, f2, f3⟩ k 1))) (EntB_all ?_))
        simp only [push_cast, ↓EPM, ↓reduceIte, seval, reduceCtorEq]
        (try first | omega | ((repeat' apply And.intro) <;> first | omega | (simp only [push_cast, ↓EPM, ↓reduceIte, seval, reduceCtorEq, List.mem_cons, List.not_mem_nil, or_false, forall_eq_or_imp, forall_eq, and_self, true_and, and_true, zeroR]; done) | (simp only [push_cast, ↓EPM, ↓reduceIte, seval, reduceCtorEq, List.mem_cons, List.not_mem_nil, or_false, forall_eq_or_imp, forall_eq, and_self, true_and, and_true, zeroR]; omega)))
    · have hw : IntKind.i64.wrap ((1 : Int) + 1) = (1 : Int) + 1 := wrap_in (by omega) (by omega)
      simp only [Int.reduceAdd] at hw
      cases g1 with
      | true =>
        simp only [hw, push_cast, ↓EPM, ↓reduceIte, seval, reduceCtorEq]
        refine round_next 2 (by show (2:Nat) ≤ 4; omega) (by omega) (AEnt_drop rfl rfl (Nat.le_add_right _ 1) ⟨Nat.le_refl _, fun id hid => by simp only [AState.set, AState.new] at hid ⊢; (repeat' split) <;> first | rfl | omega⟩ ((hwf.base _).new (key_bel _ (Query.grpI ⟨fr, to, g0, true, g2, g3, h0, h1, h2, h3, f0, f1, f2, f3⟩ k 2))) (EntB_all ?_))
        simp only [push_cast, ↓EPM, ↓reduceIte, seval, reduceCtorEq]
        (try first | omega | ((repeat' apply And.intro) <;> first | omega | (simp only [push_cast, ↓EPM, ↓reduceIte, seval, reduceCtorEq, List.mem_cons, List.not_mem_nil, or_false, forall_eq_or_imp, forall_eq, and_self, true_and, and_true, zeroR]; done) | (simp only [push_cast, ↓EPM, ↓reduceIte, seval, reduceCtorEq, List.mem_cons, List.not_mem_nil, or_false, forall_eq_or_imp, forall_eq, and_self, true_and, and_true, zeroR]; omega)))
      | false =>
        simp only [hw, push_cast, ↓EPM, ↓reduceIte, seval, reduceCtorEq]
        refine round_next 2 (by show (2:Nat) ≤ 4; omega) (by omega) (AEnt_drop rfl rfl (Nat.le_add_right _ 1) ⟨Nat.le_refl _, fun id hid => by simp only [AState.set, AState.new] at hid ⊢; (repeat' split) <;> first | rfl | omega⟩ ((hwf.base _).new (key_bel _ (Query.grpI ⟨fr, to, g0, false, g2, g3, h0, h1, h2, h3, f0, f1, f2, f3⟩ k 2))) (EntB_all ?_))
        simp only [push_cast, ↓EPM, ↓reduceIte, seval, reduceCtorEq]
        (try first | omega | ((repeat' apply And.intro) <;> first | omega | (simp only [push_cast, ↓EPM, ↓reduceIte, seval, reduceCtorEq, List.mem_cons, List.not_mem_nil, or_false, forall_eq_or_imp, forall_eq, and_self, true_and, and_true, zeroR]; done) | (simp only [push_cast, ↓EPM, ↓reduceIte, seval, reduceCtorEq, List.mem_cons, List.not_mem_nil, or_false, forall_eq_or_imp, forall_eq, and_self, true_and, and_true, zeroR]; omega)))
    · have hw : IntKind.i64.wrap ((2 : Int) + 1) = (2 : Int) + 1 := wrap_in (by omega) (by omega)
      simp only [Int.reduceAdd] at hw
      cases g2 with
      | true =>
        simp only [hw, push_cast, ↓EPM, ↓reduceIte, seval, reduceCtorEq]
        refine round_next 3 (by show (3:Nat) ≤ 4; omega) (by omega) (AEnt_drop rfl rfl (Nat.le_add_right _ 1) ⟨Nat.le_refl _, fun id hid => by simp only [AState.set, AState.new] at hid ⊢; (repeat' split) <;> first | rfl | omega⟩ ((hwf.base _).new (key_bel _ (Query.grpI ⟨fr, to, g0, g1, true, g3, h0, h1, h2, h3, f0, f1, f2, f3⟩ k 3))) (EntB_all ?_))
        simp only [push_cast, ↓EPM, ↓reduceIte, seval, reduceCtorEq]
        (try first | omega | ((repeat' apply And.intro) <;> first | omega | (simp only [push_cast, ↓EPM, ↓reduceIte, seval, reduceCtorEq, List.mem_cons, List.not_mem_nil, or_false, forall_eq_or_imp, forall_eq, and_self, true_and, and_true, zeroR]; done) | (simp only [push_cast, ↓EPM, ↓reduceIte, seval, reduceCtorEq, List.mem_cons, List.not_mem_nil, or_false, forall_eq_or_imp, forall_eq, and_self, true_and, and_true, zeroR]; omega)))
      | false =>
        simp only [hw, push_cast, ↓EPM, ↓reduceIte, seval, reduceCtorEq]
        refine round_next 3 (by show (3:Nat) ≤ 4; omega) (by omega) (AEnt_drop rfl rfl (Nat.le_add_right _ 1) ⟨Nat.le_refl _, fun id hid => by simp only [AState.set, AState.new] at hid ⊢; (repeat' split) <;> first | rfl | omega⟩ ((hwf.base _).new (key_bel _ (Query.grpI ⟨fr, to, g0, g1, false, g3, h0, h1, h2, h3, f0, f1, f2, f3⟩ k 3))) (EntB_all ?_))
        simp only [push_cast, ↓EPM, ↓reduceIte, seval, reduceCtorEq]
        (try first | omega | ((repeat' apply And.intro) <;> first | omega | (simp only [push_cast, ↓EPM, ↓reduceIte, seval, reduceCtorEq, List.mem_cons, List.not_mem_nil, or_false, forall_eq_or_imp, forall_eq, and_self, true_and, and_true, zeroR]; done) | (simp only [push_cast, ↓EPM, ↓reduceIte, seval, reduceCtorEq, List.mem_cons, List.not_mem_nil, or_false, forall_eq_or_imp, forall_eq, and_self, true_and, and_true, zeroR]; omega)))
    · have hw : IntKind.i64.wrap ((3 : Int) + 1) = (3 : Int) + 1 := wrap_in (by omega) (by omega)
      simp only [Int.reduceAdd] at hw
      cases g3 with
      | true =>
        simp only [hw, push_cast, ↓EPM, ↓reduceIte, seval, reduceCtorEq]
        refine round_next 4 (by show (4:Nat) ≤ 4; omega) (by omega) (AEnt_drop rfl rfl (Nat.le_add_right _ 1) ⟨Nat.le_refl _, fun id hid => by simp only [AState.set, AState.new] at hid ⊢; (repeat' split) <;> first | rfl | omega⟩ ((hwf.base _).new (key_bel _ (Query.grpI ⟨fr, to, g0, g1, g2, true, h0, h1, h2, h3, f0, f1, f2, f3⟩ k 4))) (EntB_all ?_))
        simp only [push_cast, ↓EPM, ↓reduceIte, seval, reduceCtorEq]
        (try first | omega | ((repeat' apply And.intro) <;> first | omega | (simp only [push_cast, ↓EPM, ↓reduceIte, seval, reduceCtorEq, List.mem_cons, List.not_mem_nil, or_false, forall_eq_or_imp, forall_eq, and_self, true_and, and_true, zeroR]; done) | (simp only [push_cast, ↓EPM, ↓reduceIte, seval, reduceCtorEq, List.mem_cons, List.not_mem_nil, or_false, forall_eq_or_imp, forall_eq, and_self, true_and, and_true, zeroR]; omega)))
      | false =>
        simp only [hw, push_cast, ↓EPM, ↓reduceIte, seval, reduceCtorEq]
        refine round_next 4 (by show (4:Nat) ≤ 4; omega) (by omega) (AEnt_drop rfl rfl (Nat.le_add_right _ 1) ⟨Nat.le_refl _, fun id hid => by simp only [AState.set, AState.new] at hid ⊢; (repeat' split) <;> first | rfl | omega⟩ ((hwf.base _).new (key_bel _ (Query.grpI ⟨fr, to, g0, g1, g2, false, h0, h1, h2, h3, f0, f1, f2, f3⟩ k 4))) (EntB_all ?_))
        simp only [push_cast, ↓EPM, ↓reduceIte, seval, reduceCtorEq]
        (try first | omega | ((repeat' apply And.intro) <;> first | omega | (simp only [push_cast, ↓EPM, ↓reduceIte, seval, reduceCtorEq, List.mem_cons, List.not_mem_nil, or_false, forall_eq_or_imp, forall_eq, and_self, true_and, and_true, zeroR]; done) | (simp only [push_cast, ↓EPM, ↓reduceIte, seval, reduceCtorEq, List.mem_cons, List.not_mem_nil, or_false, forall_eq_or_imp, forall_eq, and_self, true_and, and_true, zeroR]; omega)))
    · simp only [Query.grpI, push_cast, ↓EPM, ↓reduceIte, seval, reduceCtorEq]
      exact RetP [.agg (Query.grp ⟨fr, to, g0, g1, g2, g3, h0, h1, h2, h3, f0, f1, f2, f3⟩ k).av]

theorem rgroup_spec (q : Query) (k : Key) : APure Try.prog 66 [.agg q.av, .agg k.av] (.agg (q.grp k).av) := by
  intro s
  obtain ⟨fr, to, g0, g1, g2, g3, h0, h1, h2, h3, f0, f1, f2, f3⟩ := q
  refine enterA ⟨[2,3]⟩ (Try.f66.body.getD .skip) [.cell 4 39] Try.func66 fun hwf hbel => ?_; simp only [Try.f66, push_cast, ↓EPM, ↓reduceIte, seval, reduceCtorEq]
  refine ALoop_inv (ι := Nat) (fun i => i ≤ 4) (fun i => envL [(2, .ep (Query.av ⟨fr, to, g0, g1, g2, g3, h0, h1, h2, h3, f0, f1, f2, f3⟩) 0), (3, .ep k.av 0), (4, .ptr s.next 0), (5, .ptr (s.next + 1) 0), (6, i64 i)]) (fun i => AState.new (AState.new { s with base := ⟨s.next, []⟩ } (.cells zeroK.av)) (.cells (Query.grpI ⟨fr, to, g0, g1, g2, g3, h0, h1, h2, h3, f0, f1, f2, f3⟩ k i).av)) (fun i => 4 - i) 0 (Nat.zero_le _) (ent rfl ?_) (fun i hi => ?_)
  · simp only [push_cast, ↓EPM, ↓reduceIte, seval, reduceCtorEq]
  · obtain rfl | rfl | rfl | rfl | rfl : i = 0 ∨ i = 1 ∨ i = 2 ∨ i = 3 ∨ i = 4 := by omega
    · have hw : IntKind.i64.wrap ((0 : Int) + 1) = (0 : Int) + 1 := wrap_in (by omega) (by omega)
      simp only [Int.reduceAdd] at hw
      cases g0 with
      | true =>
        simp only [hw, push_cast, ↓EPM, ↓reduceIte, seval, reduceCtorEq]
        refine round_next 1 (by show (1:Nat) ≤ 4; omega) (by omega) (AEnt_drop rfl rfl (Nat.le_add_right _ 2) ⟨Nat.le_refl _, fun id hid => by simp only [AState.set, AState.new] at hid ⊢; (repeat' split) <;> first | rfl | omega⟩ (((hwf.base _).new (key_bel _ zeroK)).new (key_bel _ (Query.grpI ⟨fr, to, true, g1, g2, g3, h0, h1, h2, h3, f0, f1, f2, f3⟩ k 1))) (EntB_all ?_))
        simp only [push_cast, ↓EPM, ↓reduceIte, seval, reduceCtorEq]
        (try first | omega | ((repeat' apply And.intro) <;> first | omega | (simp only [push_cast, ↓EPM, ↓reduceIte, seval, reduceCtorEq, List.mem_cons, List.not_mem_nil, or_false, forall_eq_or_imp, forall_eq, and_self, true_and, and_true, zeroR]; done) | (simp only [push_cast, ↓EPM, ↓reduceIte, seval, reduceCtorEq, List.mem_cons, List.not_mem_nil, or_false, forall_eq_or_imp, forall_eq, and_self, true_and, and_true, zeroR]; omega)))
      | false =>
        simp only [hw, push_cast, ↓EPM, ↓reduceIte, seval, reduceCtorEq]
        refine round_next 1 (by show (1:Nat) ≤ 4; omega) (by omega) (AEnt_drop rfl rfl (Nat.le_add_right _ 2) ⟨Nat.le_refl _, fun id hid => by simp only [AState.set, AState.new] at hid ⊢; (repeat' split) <;> first | rfl | omega⟩ (((hwf.base _).new (key_bel _ zeroK)).new (key_bel _ (Query.grpI ⟨fr, to, false, g1, g2, g3, h0, h1, h2, h3, f0, f1, f2, f3⟩ k 1))) (EntB_all ?_))
        simp only [push_cast, ↓EPM, ↓reduceIte, seval, reduceCtorEq]
        (try first | omega | ((repeat' apply And.intro) <;> first | omega | (simp only [push_cast, ↓EPM, ↓reduceIte, seval, reduceCtorEq, List.mem_cons, List.not_mem_nil, or_false, forall_eq_or_imp, forall_eq, and_self, true_and, and_true, zeroR]; done) | (simp only [push_cast, ↓EPM, ↓reduceIte, seval, reduceCtorEq, List.mem_cons, List.not_mem_nil, or_false, forall_eq_or_imp, forall_eq, and_self, true_and, and_true, zeroR]; omega)))
    · have hw : IntKind.i64.wrap ((1 : Int) + 1) = (1 : Int) + 1 := wrap_in (by omega) (by omega)
      simp only [Int.reduceAdd] at hw
      cases g1 with
      | true =>
        simp only [hw, push_cast, ↓EPM, ↓reduceIte, seval, reduceCtorEq]
        refine round_next 2 (by show (2:Nat) ≤ 4; omega) (by omega) (AEnt_drop rfl rfl (Nat.le_add_right _ 2) ⟨Nat.le_refl _, fun id hid => by simp only [AState.set, AState.new] at hid ⊢; (repeat' split) <;> first | rfl | omega⟩ (((hwf.base _).new (key_bel _ zeroK)).new (key_bel _ (Query.grpI ⟨fr, to, g0, true, g2, g3, h0, h1, h2, h3, f0, f1, f2, f3⟩ k 2))) (EntB_all ?_))
        simp only [push_cast, ↓EPM, ↓reduceIte, seval, reduceCtorEq]
        (try first | omega | ((repeat' apply And.intro) <;> first | omega | (simp only [push_cast, ↓EPM, ↓reduceIte, seval, reduceCtorEq, List.mem_cons, List.not_mem_nil, or_false, forall_eq_or_imp, forall_eq, and_self, true_and, and_true, zeroR]; done) | (simp only [push_cast, ↓EPM, ↓reduceIte, seval, reduceCtorEq, List.mem_cons, List.not_mem_nil, or_false, forall_eq_or_imp, forall_eq, and_self, true_and, and_true, zeroR]; omega)))
      | false =>
        simp only [hw, push_cast, ↓EPM, ↓reduceIte, seval, reduceCtorEq]
        refine round_next 2 (by show (2:Nat) ≤ 4; omega) (by omega) (AEnt_drop rfl rfl (Nat.le_add_right _ 2) ⟨Nat.le_refl _, fun id hid => by simp only [AState.set, AState.new] at hid ⊢; (repeat' split) <;> first | rfl | omega⟩ (((hwf.base _).new (key_bel _ zeroK)).new (key_bel _ (Query.grpI ⟨fr, to, g0, false, g2, g3, h0, h1, h2, h3, f0, f1, f2, f3⟩ k 2))) (EntB_all ?_))
        simp only [push_cast, ↓EPM, ↓reduceIte, seval, reduceCtorEq]
        (try first | omega | ((repeat' apply And.intro) <;> first | omega | (simp only [push_cast, ↓EPM, ↓reduceIte, seval, reduceCtorEq, List.mem_cons, List.not_mem_nil, or_false, forall_eq_or_imp, forall_eq, and_self, true_and, and_true, zeroR]; done) | (simp only [push_cast, ↓EPM, ↓reduceIte, seval, reduceCtorEq, List.mem_cons, List.not_mem_nil, or_false, forall_eq_or_imp, forall_eq, and_self, true_and, and_true, zeroR]; omega)))
    · have hw : IntKind.i64.wrap ((2 : Int) + 1) = (2 : Int) + 1 := wrap_in (by omega) (by omega)
      simp only [Int.reduceAdd] at hw
      cases g2 with
      | true =>
        simp only [hw, push_cast, ↓EPM, ↓reduceIte, seval, reduceCtorEq]
        refine round_next 3 (by show (3:Nat) ≤ 4; omega) (by omega) (AEnt_drop rfl rfl (Nat.le_add_right _ 2) ⟨Nat.le_refl _, fun id hid => by simp only [AState.set, AState.new] at hid ⊢; (repeat' split) <;> first | rfl | omega⟩ (((hwf.base _).new (key_bel _ zeroK)).new (key_bel _ (Query.grpI ⟨fr, to, g0, g1, true, g3, h0, h1, h2, h3, f0, f1, f2, f3⟩ k 3))) (EntB_all ?_))
        simp only [push_cast, ↓EPM, ↓reduceIte, seval, reduceCtorEq]
        (try first | omega | ((repeat' apply And.intro) <;> first | omega | (simp only [push_cast, ↓EPM, ↓reduceIte, seval, reduceCtorEq, List.mem_cons, List.not_mem_nil, or_false, forall_eq_or_imp, forall_eq, and_self, true_and, and_true, zeroR]; done) | (simp only [push_cast, ↓EPM, ↓reduceIte, seval, reduceCtorEq, List.mem_cons, List.not_mem_nil, or_false, forall_eq_or_imp, forall_eq, and_self, true_and, and_true, zeroR]; omega)))
      | false =>
        simp only [hw, push_cast, ↓EPM, ↓reduceIte, seval, reduceCtorEq]
        refine round_next 3 (by show (3:Nat) ≤ 4; omega) (by omega) (AEnt_drop rfl rfl (Nat.le_add_right _ 2) ⟨Nat.le_refl _, fun id hid => by simp only [AState.set, AState.new] at hid ⊢; (repeat' split) <;> first | rfl | omega⟩ (((hwf.base _).new (key_bel _ zeroK)).new (key_bel _ (Query.grpI ⟨fr, to, g0, g1, false, g3, h0, h1, h2, h3, f0, f1, f2, f3⟩ k 3))) (EntB_all ?_))
        simp only [push_cast, ↓EPM, ↓reduceIte, seval, reduceCtorEq]
        (try first | omega | ((repeat' apply And.intro) <;> first | omega | (simp only [push_cast, ↓EPM, ↓reduceIte, seval, reduceCtorEq, List.mem_cons, List.not_mem_nil, or_false, forall_eq_or_imp, forall_eq, and_self, true_and, and_true, zeroR]; done) | (simp only [push_cast, ↓EPM, ↓reduceIte, seval, reduceCtorEq, List.mem_cons, List.not_mem_nil, or_false, forall_eq_or_imp, forall_eq, and_self, true_and, and_true, zeroR]; omega)))
    · have hw : IntKind.i64.wrap ((3 : Int) + 1) = (3 : Int) + 1 := wrap_in (by omega) (by omega)
      simp only [Int.reduceAdd] at hw
      cases g3 with
      | true =>
        simp only [hw, push_cast, ↓EPM, ↓reduceIte, seval, reduceCtorEq]
        refine round_next 4 (by show (4:Nat) ≤ 4; omega) (by omega) (AEnt_drop rfl rfl (Nat.le_add_right _ 2) ⟨Nat.le_refl _, fun id hid => by simp only [AState.set, AState.new] at hid ⊢; (repeat' split) <;> first | rfl | omega⟩ (((hwf.base _).new (key_bel _ zeroK)).new (key_bel _ (Query.grpI ⟨fr, to, g0, g1, g2, true, h0, h1, h2, h3, f0, f1, f2, f3⟩ k 4))) (EntB_all ?_))
        simp only [push_cast, ↓EPM, ↓reduceIte, seval, reduceCtorEq]
        (try first | omega | ((repeat' apply And.intro) <;> first | omega | (simp only [push_cast, ↓EPM, ↓reduceIte, seval, reduceCtorEq, List.mem_cons, List.not_mem_nil, or_false, forall_eq_or_imp, forall_eq, and_self, true_and, and_true, zeroR]; done) | (simp only [push_cast, ↓EPM, ↓reduceIte, seval, reduceCtorEq, List.mem_cons, List.not_mem_nil, or_false, forall_eq_or_imp, forall_eq, and_self, true_and, and_true, zeroR]; omega)))
      | false =>
        simp only [hw, push_cast, ↓EPM, ↓reduceIte, seval, reduceCtorEq]
        refine round_next 4 (by show (4:Nat) ≤ 4; omega) (by omega) (AEnt_drop rfl rfl (Nat.le_add_right _ 2) ⟨Nat.le_refl _, fun id hid => by simp only [AState.set, AState.new] at hid ⊢; (repeat' split) <;> first | rfl | omega⟩ (((hwf.base _).new (key_bel _ zeroK)).new (key_bel _ (Query.grpI ⟨fr, to, g0, g1, g2, false, h0, h1, h2, h3, f0, f1, f2, f3⟩ k 4))) (EntB_all ?_))
        simp only [push_cast, ↓EPM, ↓reduceIte, seval, reduceCtorEq]
        (try first | omega | ((repeat' apply And.intro) <;> first | omega | (simp only [push_cast, ↓EPM, ↓reduceIte, seval, reduceCtorEq, List.mem_cons, List.not_mem_nil, or_false, forall_eq_or_imp, forall_eq, and_self, true_and, and_true, zeroR]; done) | (simp only [push_cast, ↓EPM, ↓reduceIte, seval, reduceCtorEq, List.mem_cons, List.not_mem_nil, or_false, forall_eq_or_imp, forall_eq, and_self, true_and, and_true, zeroR]; omega)))
    · simp only [Query.grpI, push_cast, ↓EPM, ↓reduceIte, seval, reduceCtorEq]
      exact RetP [.agg (Query.grp ⟨fr, to, g0, g1, g2, g3, h0, h1, h2, h3, f0, f1, f2, f3⟩ k).av]

def badF (h : Bool) (f : ByteArray) : Bool := decide (16 < f.size) || (!h && decide (f ≠ ByteArray.empty))
def codeI (q : Query) : Nat → Int
  | 0 => if badF q.h0 q.f0 || (badF q.h1 q.f1 || (badF q.h2 q.f2 || badF q.h3 q.f3)) then 4 else 0
  | 1 => if badF q.h1 q.f1 || (badF q.h2 q.f2 || badF q.h3 q.f3) then 4 else 0
  | 2 => if badF q.h2 q.f2 || badF q.h3 q.f3 then 4 else 0
  | 3 => if badF q.h3 q.f3 then 4 else 0
  | _ => 0
/-- What is wrong with a query. -/
def Query.code (q : Query) : Int := if q.fr.toInt < 0 then 2 else if 16777217 < q.to.toInt then 2 else if q.to.toInt < q.fr.toInt then 2 else codeI q 0

theorem check_spec (q : Query) : APure Try.prog 60 [.agg q.av, i64 4] (i64 q.code) := by
  intro s
  by_cases h1 : q.fr.toInt < 0
  · rw [show q.code = 2 by rw [Query.code, if_pos h1]]
    refine enterA ⟨[2]⟩ (Try.f60.body.getD .skip) [.tmp 4] Try.func60 fun hwf hbel => ?_; simp only [h1,Try.f60, push_cast, ↓EPM, ↓reduceIte, seval, reduceCtorEq]
    exact RetP [i64 2]
  · by_cases h2 : 16777217 < q.to.toInt
    · rw [show q.code = 2 by rw [Query.code, if_neg h1, if_pos h2]]
      refine enterA ⟨[2]⟩ (Try.f60.body.getD .skip) [.tmp 4] Try.func60 fun hwf hbel => ?_; simp only [h1, h2,Try.f60, push_cast, ↓EPM, ↓reduceIte, seval, reduceCtorEq]
      exact RetP [i64 2]
    · by_cases h3 : q.to.toInt < q.fr.toInt
      · rw [show q.code = 2 by rw [Query.code, if_neg h1, if_neg h2, if_pos h3]]
        refine enterA ⟨[2]⟩ (Try.f60.body.getD .skip) [.tmp 4] Try.func60 fun hwf hbel => ?_; simp only [h1, h2, h3,Try.f60, push_cast, ↓EPM, ↓reduceIte, seval, reduceCtorEq]
        exact RetP [i64 2]
      · rw [show q.code = codeI q 0 by rw [Query.code, if_neg h1, if_neg h2, if_neg h3]]
        generalize hr : codeI q 0 = r
        refine enterA ⟨[2]⟩ (Try.f60.body.getD .skip) [.tmp 4] Try.func60 fun hwf hbel => ?_; simp only [h1, h2, h3,Try.f60, push_cast, ↓EPM, ↓reduceIte, seval, reduceCtorEq]
        refine ALoop_inv (ι := Nat) (fun i => i ≤ 4 ∧ r = codeI q i) (fun i => envL [(1, i64 4), (2, .ep q.av 0), (5, i64 i)]) (fun i => { s with base := ⟨s.next, []⟩ }) (fun i => 4 - i) 0 ⟨Nat.zero_le _, hr.symm⟩ (ent rfl ?_) (fun i hi => ?_)
        · simp only [push_cast, ↓EPM, ↓reduceIte, seval, reduceCtorEq]
        · obtain ⟨hi, hs⟩ := hi
          obtain rfl | rfl | rfl | rfl | rfl : i = 0 ∨ i = 1 ∨ i = 2 ∨ i = 3 ∨ i = 4 := by omega
          · have hw : IntKind.i64.wrap ((0 : Int) + 1) = (0 : Int) + 1 := wrap_in (by omega) (by omega)
            simp only [Int.reduceAdd] at hw
            by_cases hl : 16 < (q.f0.size : Int)
            · simp only [hl, push_cast, ↓EPM, ↓reduceIte, seval, reduceCtorEq]
              rw [show r = 4 by
                have hl' : 16 < q.f0.size := by omega
                rw [hs]; simp [codeI, badF, hl']]
              exact RetP [i64 4]
            · have hl' : ¬ 16 < q.f0.size := by omega
              cases hh : q.h0 with
              | true =>
                simp only [hl, hh, push_cast, ↓EPM, ↓reduceIte, seval, reduceCtorEq]
                simp only [hw, push_cast, ↓EPM, ↓reduceIte, seval, reduceCtorEq]
                refine round_next 1 ⟨by omega, by rw [hs]; simp [codeI, badF, hh, hl']⟩ (by omega) (ent rfl ?_)
                simp only [push_cast, ↓EPM, ↓reduceIte, seval, reduceCtorEq]
              | false =>
                by_cases hq : q.f0 = ByteArray.empty
                · have hb : (q.f0.toList == ByteArray.toList ⟨#[]⟩) = true := by rw [str_beq]; exact decide_eq_true hq
                  simp only [hl, hh, hb, push_cast, ↓EPM, ↓reduceIte, seval, reduceCtorEq]
                  simp only [hw, push_cast, ↓EPM, ↓reduceIte, seval, reduceCtorEq]
                  refine round_next 1 ⟨by omega, by rw [hs]; simp [codeI, badF, hh, hl', hq]⟩ (by omega) (ent rfl ?_)
                  simp only [push_cast, ↓EPM, ↓reduceIte, seval, reduceCtorEq]
                · have hb : (q.f0.toList == ByteArray.toList ⟨#[]⟩) = false := by rw [str_beq]; exact decide_eq_false hq
                  simp only [hl, hh, hb, push_cast, ↓EPM, ↓reduceIte, seval, reduceCtorEq]
                  rw [show r = 4 by rw [hs]; simp [codeI, badF, hh, hl', hq]]
                  exact RetP [i64 4]
          · have hw : IntKind.i64.wrap ((1 : Int) + 1) = (1 : Int) + 1 := wrap_in (by omega) (by omega)
            simp only [Int.reduceAdd] at hw
            by_cases hl : 16 < (q.f1.size : Int)
            · simp only [hl, push_cast, ↓EPM, ↓reduceIte, seval, reduceCtorEq]
              rw [show r = 4 by
                have hl' : 16 < q.f1.size := by omega
                rw [hs]; simp [codeI, badF, hl']]
              exact RetP [i64 4]
            · have hl' : ¬ 16 < q.f1.size := by omega
              cases hh : q.h1 with
              | true =>
                simp only [hl, hh, push_cast, ↓EPM, ↓reduceIte, seval, reduceCtorEq]
                simp only [hw, push_cast, ↓EPM, ↓reduceIte, seval, reduceCtorEq]
                refine round_next 2 ⟨by omega, by rw [hs]; simp [codeI, badF, hh, hl']⟩ (by omega) (ent rfl ?_)
                simp only [push_cast, ↓EPM, ↓reduceIte, seval, reduceCtorEq]
              | false =>
                by_cases hq : q.f1 = ByteArray.empty
                · have hb : (q.f1.toList == ByteArray.toList ⟨#[]⟩) = true := by rw [str_beq]; exact decide_eq_true hq
                  simp only [hl, hh, hb, push_cast, ↓EPM, ↓reduceIte, seval, reduceCtorEq]
                  simp only [hw, push_cast, ↓EPM, ↓reduceIte, seval, reduceCtorEq]
                  refine round_next 2 ⟨by omega, by rw [hs]; simp [codeI, badF, hh, hl', hq]⟩ (by omega) (ent rfl ?_)
                  simp only [push_cast, ↓EPM, ↓reduceIte, seval, reduceCtorEq]
                · have hb : (q.f1.toList == ByteArray.toList ⟨#[]⟩) = false := by rw [str_beq]; exact decide_eq_false hq
                  simp only [hl, hh, hb, push_cast, ↓EPM, ↓reduceIte, seval, reduceCtorEq]
                  rw [show r = 4 by rw [hs]; simp [codeI, badF, hh, hl', hq]]
                  exact RetP [i64 4]
          · have hw : IntKind.i64.wrap ((2 : Int) + 1) = (2 : Int) + 1 := wrap_in (by omega) (by omega)
            simp only [Int.reduceAdd] at hw
            by_cases hl : 16 < (q.f2.size : Int)
            · simp only [hl, push_cast, ↓EPM, ↓reduceIte, seval, reduceCtorEq]
              rw [show r = 4 by
                have hl' : 16 < q.f2.size := by omega
                rw [hs]; simp [codeI, badF, hl']]
              exact RetP [i64 4]
            · have hl' : ¬ 16 < q.f2.size := by omega
              cases hh : q.h2 with
              | true =>
                simp only [hl, hh, push_cast, ↓EPM, ↓reduceIte, seval, reduceCtorEq]
                simp only [hw, push_cast, ↓EPM, ↓reduceIte, seval, reduceCtorEq]
                refine round_next 3 ⟨by omega, by rw [hs]; simp [codeI, badF, hh, hl']⟩ (by omega) (ent rfl ?_)
                simp only [push_cast, ↓EPM, ↓reduceIte, seval, reduceCtorEq]
              | false =>
                by_cases hq : q.f2 = ByteArray.empty
                · have hb : (q.f2.toList == ByteArray.toList ⟨#[]⟩) = true := by rw [str_beq]; exact decide_eq_true hq
                  simp only [hl, hh, hb, push_cast, ↓EPM, ↓reduceIte, seval, reduceCtorEq]
                  simp only [hw, push_cast, ↓EPM, ↓reduceIte, seval, reduceCtorEq]
                  refine round_next 3 ⟨by omega, by rw [hs]; simp [codeI, badF, hh, hl', hq]⟩ (by omega) (ent rfl ?_)
                  simp only [push_cast, ↓EPM, ↓reduceIte, seval, reduceCtorEq]
                · have hb : (q.f2.toList == ByteArray.toList ⟨#[]⟩) = false := by rw [str_beq]; exact decide_eq_false hq
                  simp only [hl, hh, hb, push_cast, ↓EPM, ↓reduceIte, seval, reduceCtorEq]
                  rw [show r = 4 by rw [hs]; simp [codeI, badF, hh, hl', hq]]
                  exact RetP [i64 4]
          · have hw : IntKind.i64.wrap ((3 : Int) + 1) = (3 : Int) + 1 := wrap_in (by omega) (by omega)
            simp only [Int.reduceAdd] at hw
            by_cases hl : 16 < (q.f3.size : Int)
            · simp only [hl, push_cast, ↓EPM, ↓reduceIte, seval, reduceCtorEq]
              rw [show r = 4 by
                have hl' : 16 < q.f3.size := by omega
                rw [hs]; simp [codeI, badF, hl']]
              exact RetP [i64 4]
            · have hl' : ¬ 16 < q.f3.size := by omega
              cases hh : q.h3 with
              | true =>
                simp only [hl, hh, push_cast, ↓EPM, ↓reduceIte, seval, reduceCtorEq]
                simp only [hw, push_cast, ↓EPM, ↓reduceIte, seval, reduceCtorEq]
                refine round_next 4 ⟨by omega, by rw [hs]; simp [codeI, badF, hh, hl']⟩ (by omega) (ent rfl ?_)
                simp only [push_cast, ↓EPM, ↓reduceIte, seval, reduceCtorEq]
              | false =>
                by_cases hq : q.f3 = ByteArray.empty
                · have hb : (q.f3.toList == ByteArray.toList ⟨#[]⟩) = true := by rw [str_beq]; exact decide_eq_true hq
                  simp only [hl, hh, hb, push_cast, ↓EPM, ↓reduceIte, seval, reduceCtorEq]
                  simp only [hw, push_cast, ↓EPM, ↓reduceIte, seval, reduceCtorEq]
                  refine round_next 4 ⟨by omega, by rw [hs]; simp [codeI, badF, hh, hl', hq]⟩ (by omega) (ent rfl ?_)
                  simp only [push_cast, ↓EPM, ↓reduceIte, seval, reduceCtorEq]
                · have hb : (q.f3.toList == ByteArray.toList ⟨#[]⟩) = false := by rw [str_beq]; exact decide_eq_false hq
                  simp only [hl, hh, hb, push_cast, ↓EPM, ↓reduceIte, seval, reduceCtorEq]
                  rw [show r = 4 by rw [hs]; simp [codeI, badF, hh, hl', hq]]
                  exact RetP [i64 4]
          · simp only [push_cast, ↓EPM, ↓reduceIte, seval, reduceCtorEq]
            rw [show r = 0 by rw [hs]; rfl]
            exact RetP [i64 0]

def Query.right (q : Query) : Bool := decide (q.code = 0)
theorem qright_spec (q : Query) : APure Try.prog 26 [.agg q.av] (boo q.right) := by
  intro s
  have h := check_spec q
  refine enterA ⟨[1]⟩ (Try.f26.body.getD .skip) [.tmp 2] Try.func26 fun hwf hbel => ?_; simp only [Try.f26, push_cast, ↓EPM, ↓reduceIte, seval, reduceCtorEq]
  refine h.use ?_
  simp only [push_cast, ↓EPM, ↓reduceIte, seval, reduceCtorEq]
  exact RetP [boo (decide (q.code = 0))]

end Go.Proofs
