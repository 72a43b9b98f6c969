/- Part of the proof of a law of this seat: the texts Law0, in this order. -/
import Derived.Test.YthldahfkngeehaaP
import Derived.Test.YthldahfkngeehaaRows
import Derived.WalkKit
import Derived.ProofKit
import Derived.OpenShut
import Derived.ShutString
import Derived.ChangeOld
import Derived.Below
import Derived.SizedLaws
namespace Go.Proofs
open Go Go.Av
set_option maxRecDepth 30000

theorem kFact : kinds Try.prog 5 41 = some [.int .i64, .str, .str, .str, .str, .int .i64] := by kernel_rfl
theorem kRow : kinds Try.prog 5 66 = some [.int .i64, .str, .str, .str, .str, .int .i64, .int .i64, .int .i64, .int .i64] := by kernel_rfl
theorem kKey : kinds Try.prog 5 39 = some [.int .i64, .str, .str, .str, .str] := by kernel_rfl

theorem ks_int {ks : List Knd} {cs : List Value} (h : KsOk (.int .i64 :: ks) cs) : ∃ (x : Int64) (r : List Value), cs = .int .i64 x.toInt :: r ∧ KsOk ks r := by
  obtain ⟨v, hv, n, rfl, hw⟩ := h.2 0 _ rfl
  cases cs with
  | nil => cases hv
  | cons c r =>
    cases hv
    have hx : -9223372036854775808 ≤ n ∧ n ≤ 9223372036854775807 := by simpa [Lit.wf, IntKind.min, IntKind.max, IntKind.signed, IntKind.bits] using hw
    refine ⟨Int64.ofInt n, r, ?_, by have := h.1; simpa using this, fun i k hk => by simpa using h.2 (i + 1) k (by simpa using hk)⟩
    rw [Int64.toInt_ofInt_of_le (by omega) (by omega)]
theorem ks_str {ks : List Knd} {cs : List Value} (h : KsOk (.str :: ks) cs) : ∃ (x : ByteArray) (r : List Value), cs = .string x :: r ∧ KsOk ks r := by
  obtain ⟨v, hv, n, rfl, hw⟩ := h.2 0 _ rfl
  cases cs with
  | nil => cases hv
  | cons c r =>
    cases hv
    exact ⟨n, r, rfl, by have := h.1; simpa using this, fun i k hk => by simpa using h.2 (i + 1) k (by simpa using hk)⟩
theorem ks_nil {cs : List Value} (h : KsOk [] cs) : cs = [] := List.eq_nil_of_length_eq_zero (by simpa using h.1)

theorem ks_fact {cs : List Value} (h : KsOk [.int .i64, .str, .str, .str, .str, .int .i64] cs) : ∃ f : Fact, cs.map AV.v = f.av := by
  obtain ⟨x0, r0, rfl, h1⟩ := ks_int h
  obtain ⟨a, r1, rfl, h2⟩ := ks_str h1
  obtain ⟨b, r2, rfl, h3⟩ := ks_str h2
  obtain ⟨c, r3, rfl, h4⟩ := ks_str h3
  obtain ⟨d, r4, rfl, h5⟩ := ks_str h4
  obtain ⟨v, r5, rfl, h6⟩ := ks_int h5
  obtain rfl := ks_nil h6
  exact ⟨⟨⟨x0, a, b, c, d⟩, v⟩, rfl⟩
theorem ks_row {cs : List Value} (h : KsOk [.int .i64, .str, .str, .str, .str, .int .i64, .int .i64, .int .i64, .int .i64] cs) : ∃ f : Row, cs.map AV.v = f.av := by
  obtain ⟨x0, r0, rfl, h1⟩ := ks_int h
  obtain ⟨a, r1, rfl, h2⟩ := ks_str h1
  obtain ⟨b, r2, rfl, h3⟩ := ks_str h2
  obtain ⟨c, r3, rfl, h4⟩ := ks_str h3
  obtain ⟨d, r4, rfl, h5⟩ := ks_str h4
  obtain ⟨n, r5, rfl, h6⟩ := ks_int h5
  obtain ⟨s, r6, rfl, h7⟩ := ks_int h6
  obtain ⟨lo, r7, rfl, h8⟩ := ks_int h7
  obtain ⟨hi, r8, rfl, h9⟩ := ks_int h8
  obtain rfl := ks_nil h9
  exact ⟨⟨⟨x0, a, b, c, d⟩, ⟨n, s, lo, hi⟩⟩, rfl⟩
theorem ks_key {cs : List Value} (h : KsOk [.int .i64, .str, .str, .str, .str] cs) : ∃ f : Key, cs.map AV.v = f.av := by
  obtain ⟨x0, r0, rfl, h1⟩ := ks_int h
  obtain ⟨a, r1, rfl, h2⟩ := ks_str h1
  obtain ⟨b, r2, rfl, h3⟩ := ks_str h2
  obtain ⟨c, r3, rfl, h4⟩ := ks_str h3
  obtain ⟨d, r4, rfl, h5⟩ := ks_str h4
  obtain rfl := ks_nil h5
  exact ⟨⟨x0, a, b, c, d⟩, rfl⟩
theorem ks_list {α : Type} {ks : List Knd} {av : α → List AV} (hone : ∀ cs, KsOk ks cs → ∃ x, cs.map AV.v = av x) : ∀ css : List (List Value), (∀ cs ∈ css, KsOk ks cs) → ∃ l : List α, css.map (·.map AV.v) = l.map av
  | [], _ => ⟨[], rfl⟩
  | cs :: css, h => by
    obtain ⟨x, hx⟩ := hone cs (h cs (by simp))
    obtain ⟨l, hl⟩ := ks_list hone css (fun c hc => h c (by simp [hc]))
    exact ⟨x :: l, by simp [hx, hl]⟩

section
variable {H : Type} {enc : TypeId × Value → H} {w : World} {base : Nat} {spare : Nat → Bool} {held : Bool}
theorem open_facts {v : Value} {D : DataW H} {ps : List MemPlace} (hval : Value.okWide Try.prog w .any base 22 v) (h : DataW.Trod enc Try.prog w 0 spare held 22 v D ps) : ∃ l : List Fact, R Gh.all w v (.sl 6 (factsA l) .none) := by
  obtain ⟨css, h1, h2⟩ := open_row (e := 41) Try.underlying22 kFact (by kernel_rfl) (by decide) hval h
  obtain ⟨l, hl⟩ := ks_list (fun cs h => ks_fact h) css h1
  rw [hl] at h2
  exact ⟨l, h2⟩
theorem open_rows {v : Value} {D : DataW H} {ps : List MemPlace} (hval : Value.okWide Try.prog w .any base 23 v) (h : DataW.Trod enc Try.prog w 0 spare held 23 v D ps) : ∃ l : List Row, R Gh.all w v (.sl 9 (rowsA l) .none) := by
  obtain ⟨css, h1, h2⟩ := open_row (e := 66) Try.underlying23 kRow (by kernel_rfl) (by decide) hval h
  obtain ⟨l, hl⟩ := ks_list (fun cs h => ks_row h) css h1
  rw [hl] at h2
  exact ⟨l, h2⟩
theorem open_keyA {v : Value} {D : DataW H} {ps : List MemPlace} (hval : Value.okWide Try.prog w .any base 39 v) (h : DataW.Trod enc Try.prog w 0 spare held 39 v D ps) : ∃ k : Key, R Gh.all w v (.agg k.av) := by
  have h1 := open_flat kKey h
  have hu : Try.prog.underlying 39 = some (TypeDesc.struct #[{ name := "Hour", type := 2, offset := 0, embedded := false, tag := "", pkgPath := "", byteOffset := 0 }, { name := "Dims", type := 37, offset := 1, embedded := false, tag := "", pkgPath := "", byteOffset := 8 }]) := by simp only [unders]
  simp only [Value.okWide, hu] at hval
  obtain ⟨cs, rfl, _⟩ := hval
  have h2 := open_agg (w := w) (cs := cs) h1
  obtain ⟨k, hk⟩ := ks_key h1
  exact ⟨k, by rw [← hk]; exact h2⟩
theorem open_i64 {n : Int} (y : (Lit.int .i64 n).wf = true) : ∃ a : Int64, R Gh.all w (.int .i64 n) (i6 a) := by
  have hx : -9223372036854775808 ≤ n ∧ n ≤ 9223372036854775807 := by simpa [Lit.wf, IntKind.min, IntKind.max, IntKind.signed, IntKind.bits] using y
  refine ⟨Int64.ofInt n, ?_⟩
  rw [i6, Int64.toInt_ofInt_of_le (by omega) (by omega)]
  exact .v rfl
end

end Go.Proofs
