/- Part of the proof of a law of this seat: the texts AvOps1 AvOps2 AvOps3 AvOps4 AvOps5 AvOps6, in this order. -/
import Derived.Test.YtgbckhleokkhmaaA
/- What the operations come to: reading, addresses, numbers. -/
namespace Go.Av
open Go
set_option linter.unusedVariables false
set_option linter.unusedSimpArgs false

/-- A value that is read off the world as it is. -/
def PV (g : Gh) (w : World) (r : Result Value) (k : AV → Prop) : Prop := ∃ v d, r = .ok v w ∧ R g w v d ∧ k d

theorem PV.yv {T : Nat → Prop} {g : Gh} {s : AState} {w : World} {r : Result Value} {k : AV → AState → Prop} (hi : Inv g s w) (ht : TOk T s) (h : PV g w r (fun d => k d s)) : YV T g s w r k :=
  let ⟨_, _, hr, hR, hk⟩ := h; YV.pure hi ht hr hR hk

theorem R.flat_eq {g : Gh} {w : World} {x y : Value} (h : R g w x (.v y)) : x = y ∧ flat y = true := by cases h with | v hf => exact ⟨rfl, hf⟩

theorem szOf_some {P : Program} {t : TypeId} {n : Nat} (h : szOf P t = some n) : ∃ j : TypeInfo, P.info? t = some j ∧ j.size = n := by
  unfold szOf at h
  cases hi : tyI P t with
  | none => rw [hi] at h; cases h
  | some i =>
    rw [hi] at h
    simp only [Option.map_some, Option.some.injEq] at h
    obtain ⟨j, hj, hs, _⟩ := tyI_some hi
    exact ⟨j, hj, hs.trans h⟩

theorem run_sizeOf {P : Program} {t : TypeId} {n : Nat} (h : szOf P t = some n) (w : World) : (sizeOf t).run P w = .ok n w := by
  obtain ⟨j, hj, hs⟩ := szOf_some h
  simp [sizeOf, typeInfo, hj, hs]

theorem zeroAV_some {P : Program} {t : TypeId} {z : AV} (h : zeroAV P t = some z) : ∃ v n, szOf P t = some n ∧ (∀ w, (zeroValue t).run P w = .ok v w) ∧ v.cells.size = n ∧ ofVal v = some z := by
  unfold zeroAV at h
  cases hi : tyI P t with
  | none => rw [hi] at h; cases h
  | some i =>
    rw [hi] at h
    simp only [Option.bind_some] at h
    obtain ⟨j, hj, hs, _, hz⟩ := tyI_some hi
    obtain ⟨v, hv, hvs, ho⟩ := hz z h
    exact ⟨v, i.size, by simp [szOf, hi], fun w => by simp [zeroValue, typeInfo, hj, hv], hvs, ho⟩

/-- A closed value reads as it is written. -/
theorem R.ofVal {v : Value} {z : AV} (h : ofVal v = some z) (g : Gh) (w : World) : R g w v z ∧ z.cells.all AV.one = true := by
  unfold Av.ofVal at h
  cases v with
  | agg cs =>
    simp only at h
    split at h
    · rename_i hc
      cases h
      rw [List.all_eq_true] at hc
      have key : ∀ i, i < cs.toList.length → (flat (cs.getD i undef) = true ∧ (cs.getD i undef).oneCell' = true) ∧ (cs.toList.map AV.v).getD i AV.un = .v (cs.getD i undef) := by
        intro i hi
        have hm : cs.getD i undef ∈ cs.toList := by rw [getD_toList]; exact getD_mem hi
        have := hc _ hm
        rw [Bool.and_eq_true] at this
        refine ⟨this, ?_⟩
        rw [getD_toList, List.getD_eq_getElem?_getD, List.getD_eq_getElem?_getD, List.getElem?_map, List.getElem?_eq_getElem hi]
        rfl
      have one : ∀ x : Value, x.oneCell' = true → AV.one (.v x) = true := by intro x hx; cases x <;> simp_all [AV.one, Value.oneCell']
      refine ⟨.agg (by simp) (fun i hi => ?_) (fun i hi => ?_), ?_⟩
      · obtain ⟨⟨h1, h2⟩, h3⟩ := key i (by simpa using hi)
        rw [h3]; exact .v h1
      · obtain ⟨⟨h1, h2⟩, h3⟩ := key i (by simpa using hi)
        rw [h3]; exact one _ h2
      · simp only [AV.cells, List.all_map, List.all_eq_true]
        intro x hx
        have := hc x hx
        rw [Bool.and_eq_true] at this
        exact one _ this.2
    · cases h
  | _ =>
    simp only at h
    split at h
    · rename_i hc
      cases h
      rw [Bool.and_eq_true] at hc
      exact ⟨.v hc.1, by simp_all [AV.cells, AV.one, Value.oneCell']⟩
    · cases h

theorem run_isAgg {P : Program} {t : TypeId} {d : TypeDesc} (h : P.underlying t = some d) (w : World) : (isAgg t).run P w = .ok (aggT d) w := by
  unfold isAgg
  simp only [Sem.run_bind, run_underlying h, Result.andThen_ok]
  cases d <;> rfl

/-- A variable that is read. -/
theorem ld_sound {P : Program} {g : Gh} {w : World} {t : TypeId} {b o off : Nat} {cs : List AV} {vs : Nat → Value} {d : AV} (h : ldAV P t cs off = some d)
    (hcell : ∀ j, j < cs.length → w.cell? ⟨b, o + j, none⟩ = some (vs j)) (hr : ∀ j, j < cs.length → R g w (vs j) (cs.getD j AV.un) ∧ (cs.getD j AV.un).one = true) :
    ∃ v, (loadVar t ⟨b, o + off, none⟩).run P w = .ok v w ∧ R g w v d := by
  unfold ldAV at h
  split at h
  case h_2 => cases h
  rename_i dd i hd hti
  obtain ⟨j, hj, hjs, _⟩ := tyI_some hti
  unfold loadVar
  simp only [Sem.run_bind, run_isAgg hd, Result.andThen_ok]
  split at h
  · rename_i ha
    split at h
    · rename_i hle
      cases h
      rw [ha, if_pos rfl]
      have hl := run_loadCells (P := P) w ⟨b, o + off, none⟩ j.size (fun q => vs (off + q)) (fun q hq => by
        have := hcell (off + q) (by omega)
        rw [Addr.add_lit, Nat.add_assoc]; exact this)
      refine ⟨.agg ((List.range j.size).map fun q => vs (off + q)).toArray, ?_, ?_⟩
      · simp [sizeOf, typeInfo, hj, hl]
      · refine .agg (by simp [hjs]; omega) (fun q hq => ?_) (fun q hq => ?_)
        · simp only [List.length_take, List.length_drop] at hq
          have e1 : ((List.range j.size).map fun q => vs (off + q)).toArray.getD q undef = vs (off + q) := by
            rw [getD_toArray, List.getD_eq_getElem?_getD, List.getElem?_map, List.getElem?_range (by omega)]
            rfl
          rw [e1, getD_take (by omega), getD_drop]
          exact (hr _ (by omega)).1
        · simp only [List.length_take, List.length_drop] at hq
          rw [getD_take (by omega), getD_drop]
          exact (hr _ (by omega)).2
    · cases h
  · rename_i ha
    have ha' : aggT dd = false := by simpa using ha
    have hlt : off < cs.length := (List.getElem?_eq_some_iff.1 h).1
    rw [ha', if_neg (by simp)]
    refine ⟨vs off, by simp [hcell off hlt], ?_⟩
    have := (hr off hlt).1
    rw [List.getD_eq_getElem?_getD, h] at this
    exact this

/-- A part of a struct or array by value. -/
theorem part_sound {P : Program} {g : Gh} {w : World} {t : TypeId} {off : Nat} {xs : Array Value} {cs : List AV} {d : AV} (h : ldAV P t cs off = some d) (hx : R g w (.agg xs) (.agg cs)) :
    ∃ v, (part t xs off).run P w = .ok v w ∧ R g w v d := by
  cases hx with
  | agg hs hr h1 =>
    unfold ldAV at h
    split at h
    case h_2 => cases h
    rename_i dd i hd hti
    obtain ⟨j, hj, hjs, _⟩ := tyI_some hti
    unfold part
    simp only [Sem.run_bind, run_isAgg hd, Result.andThen_ok]
    split at h
    · rename_i ha
      split at h
      · rename_i hle
        cases h
        rw [ha, if_pos rfl]
        refine ⟨.agg (xs.extract off (off + j.size)), by simp [sizeOf, typeInfo, hj], ?_⟩
        refine .agg (by simp [hjs]; omega) (fun q hq => ?_) (fun q hq => ?_)
        · simp only [List.length_take, List.length_drop] at hq
          have e1 : (xs.extract off (off + j.size)).getD q undef = xs.getD (off + q) undef := by
            simp only [Array.getD_eq_getD_getElem?]
            rw [Array.getElem?_extract_of_lt (by omega)]
            try rw [Array.getElem?_eq_getElem (by omega)]
          rw [e1, getD_take (by omega), getD_drop]
          exact hr _ (by omega)
        · simp only [List.length_take, List.length_drop] at hq
          rw [getD_take (by omega), getD_drop]
          exact h1 _ (by omega)
      · cases h
    · rename_i ha
      have ha' : aggT dd = false := by simpa using ha
      have hlt : off < cs.length := (List.getElem?_eq_some_iff.1 h).1
      rw [ha', if_neg (by simp)]
      have hlt' : off < xs.size := by omega
      refine ⟨xs[off], by simp [hlt'], ?_⟩
      have := hr off hlt
      rw [List.getD_eq_getElem?_getD, h, Array.getD_eq_getD_getElem?, Array.getElem?_eq_getElem hlt'] at this
      exact this

theorem aLen_sound {P : Program} {g : Gh} {w : World} {t ty : TypeId} {x : Value} {a : AV} {k : AV → Prop} (ha : R g w x a) (h : aLen P t a k) : PV g w ((Builtin.len_ #[t] ty #[x]).run P w) k := by
  have fin : ∀ n : Int, (Builtin.len_ #[t] ty #[x]).run P w = .ok (goInt n) w → k (.v (.int .i64 n)) → PV g w ((Builtin.len_ #[t] ty #[x]).run P w) k :=
    fun n h1 h2 => ⟨_, _, h1, .v rfl, h2⟩
  unfold aLen at h
  split at h
  · rename_i s hu
    obtain ⟨rfl, _⟩ := ha.flat_eq
    exact fin _ (by simp [Builtin.len_, run_underlying hu]) h
  · rename_i hu
    obtain ⟨base, cap, rfl, _⟩ := ha.row_len
    exact fin _ (by simp [Builtin.len_, run_underlying hu]) h
  · rename_i hu
    cases ha
    exact fin _ (by simp [Builtin.len_, run_underlying hu]) h
  · rename_i hu
    obtain ⟨rfl, _⟩ := ha.flat_eq
    exact fin _ (by simp [Builtin.len_, run_underlying hu]) h
  · rename_i n e hu
    exact fin _ (by simp [Builtin.len_, run_underlying hu]) h
  · exact h.elim

theorem aIndexAddr_sound {P : Program} {g : Gh} {w : World} {t : TypeId} {x y : Value} {a i : AV} {k : AV → Prop} (ha : R g w x a) (hi : R g w y i) (h : aIndexAddr P t a i k) :
    PV g w ((Instr.indexAt t x y).run P w) k := by
  unfold aIndexAddr at h
  split at h
  · rename_i e es l tok q n hu
    obtain ⟨hs, h0, hlt, hk⟩ := h
    obtain ⟨rfl, _⟩ := hi.flat_eq
    obtain ⟨he, hul, hrow⟩ := ha.row
    rcases hrow with ⟨rfl, rfl⟩ | ⟨ad, cap, vs, rfl, hsp, hc, hv, hcell, hbl, hx, hk'⟩
    · simp at hlt; omega
    obtain ⟨ab, ao, asp⟩ := ad
    simp only at hsp
    subst hsp
    obtain ⟨m, rfl⟩ := Int.eq_ofNat_of_zero_le h0
    have hm : m < l.length := by omega
    refine ⟨.pointer (some ⟨ab, ao + m * es, none⟩), _, ?_, ?_, hk⟩
    · simp [Instr.indexAt, asIntOf, run_underlying hu, run_sizeOf hs, Addr.add_lit, hm]
    · have hul' := hul.at hm
      have e0 : (⟨ab, ao + m * es, none⟩ : Addr) = ⟨ab, (ao + m * es) + 0, none⟩ := rfl
      rw [e0]
      simp only [Int.toNat_natCast, Int.ofNat_eq_natCast]
      refine .ep (fun j => vs.getD (m * es + j) undef) (fun j hj => ?_) (fun j hj => ?_) (fun j hj => ?_) hbl ?_
      · rw [hul'] at hj
        have hlt' : m * es + j < vs.length := by rw [hv.1, hul.flatten_length]; exact idx_lt hm hj
        have := hcell (m * es + j) _ (by rw [List.getElem?_eq_getElem hlt'])
        rw [Nat.add_assoc, this, List.getD_eq_getElem?_getD, List.getElem?_eq_getElem hlt']
        rfl
      · rw [hul'] at hj
        have := (hv.2 (m * es + j) (by rw [hul.flatten_length]; exact idx_lt hm hj)).1
        rwa [hul.getD hm hj] at this
      · rw [hul'] at hj
        have := (hv.2 (m * es + j) (by rw [hul.flatten_length]; exact idx_lt hm hj)).2
        rwa [hul.getD hm hj] at this
      · rw [hul']
        simp only at hx
        have h2 : ao + m * es + es ≤ ao + l.length * es := by
          have := Nat.mul_le_mul_right es (show m + 1 ≤ l.length from hm)
          rw [Nat.add_mul] at this; omega
        rcases hx with hx | ⟨id, p, hp, hle⟩
        · exact .inl hx
        · exact .inr ⟨id, p, hp, by omega⟩
  · rename_i e es id off n q m hu
    obtain ⟨hs, h0, hlt, hk⟩ := h
    obtain ⟨rfl, _⟩ := hi.flat_eq
    obtain ⟨m, rfl⟩ := Int.eq_ofNat_of_zero_le h0
    have hm : m < n := by omega
    cases ha with
    | @ms ad _ cap _ _ _ hid hsp hb ho hc he =>
      obtain ⟨ab, ao, asp⟩ := ad
      simp only at hsp hb ho
      subst hsp; subst ho
      refine ⟨.pointer (some ⟨ab, ao + m * es, none⟩), _, ?_, .ptr hid hb, hk⟩
      simp [Instr.indexAt, asIntOf, run_underlying hu, run_sizeOf hs, Addr.add_lit, hm]
  · rename_i n e cs off q m hu
    obtain ⟨es, hs, h0, hlt, hk⟩ := opt_elim h
    obtain ⟨rfl, _⟩ := hi.flat_eq
    obtain ⟨m, rfl⟩ := Int.eq_ofNat_of_zero_le h0
    have hm : m < n := by omega
    cases ha with
    | @ep b o _ _ vs hcell hr h1 hb hx =>
      refine ⟨.pointer (some ⟨b, o + (off + m * es), none⟩), _, ?_, .ep vs hcell hr h1 hb hx, hk⟩
      simp [Instr.indexAt, Instr.sureAddr, asIntOf, run_underlying hu, run_sizeOf hs, Addr.add_lit, hm, Nat.add_assoc]
  · rename_i n e id off q m hu
    obtain ⟨es, hs, h0, hlt, hk⟩ := opt_elim h
    obtain ⟨rfl, _⟩ := hi.flat_eq
    obtain ⟨m, rfl⟩ := Int.eq_ofNat_of_zero_le h0
    have hm : m < n := by omega
    cases ha with
    | @ptr _ _ b hid hb =>
      refine ⟨.pointer (some ⟨b, off + m * es, none⟩), _, ?_, .ptr hid hb, hk⟩
      simp [Instr.indexAt, Instr.sureAddr, asIntOf, run_underlying hu, run_sizeOf hs, Addr.add_lit, hm]
  · exact h.elim

theorem aIndex_sound {P : Program} {g : Gh} {w : World} {t : TypeId} {x y : Value} {a i : AV} {k : AV → Prop} (ha : R g w x a) (hi : R g w y i) (h : aIndex P t a i k) :
    PV g w ((Instr.index t x y).run P w) k := by
  unfold aIndex at h
  split at h
  · rename_i n e cs q m hu
    obtain ⟨es, hs, h0, hlt, h⟩ := opt_elim h
    obtain ⟨d, hd, hk⟩ := opt_elim h
    obtain ⟨rfl, _⟩ := hi.flat_eq
    obtain ⟨m, rfl⟩ := Int.eq_ofNat_of_zero_le h0
    have hm : m < n := by omega
    cases ha with
    | @agg xs _ hss hr h1 =>
      obtain ⟨v, hv, hR⟩ := part_sound hd (.agg hss hr h1)
      refine ⟨v, d, ?_, hR, hk⟩
      simp only [Int.toNat_natCast, Int.ofNat_eq_natCast] at hv
      simp [Instr.index, asIntOf, run_underlying hu, run_sizeOf hs, hm, hv]
  · rename_i s q m hu
    obtain ⟨h0, hlt, hk⟩ := h
    obtain ⟨rfl, _⟩ := hi.flat_eq
    obtain ⟨rfl, _⟩ := ha.flat_eq
    obtain ⟨m, rfl⟩ := Int.eq_ofNat_of_zero_le h0
    have hm : m < s.size := by omega
    refine ⟨_, _, ?_, .v rfl, hk⟩
    have hm' : m < s.data.size := hm
    have e1 : s[m]? = some s[m] := by simp [hm]
    have e2 : s.data.toList.getD m 0 = s[m] := by
      rw [List.getD_eq_getElem?_getD, Array.getElem?_toList, Array.getElem?_eq_getElem hm']; rfl
    simp [Instr.index, asIntOf, run_underlying hu, e1, e2, hm]
    try rfl
  · exact h.elim

end Go.Av

/- What the operations come to: operators, slicing, what is built. -/
namespace Go.Av
open Go
set_option linter.unusedVariables false
set_option linter.unusedSimpArgs false

theorem binV_sound {P : Program} {op : BinOp} {t : TypeId} {x y r : Value} {ox oy : Operand} (h : binV op x y = some r) (w : World) :
    (do eqGuard op t ox oy x y; binOp op t x y : Sem Value).run P w = .ok r w ∧ flat r = true := by
  unfold binV at h
  split at h
  · rename_i k a k' b
    cases op <;> simp only at h
    case shl =>
      split at h
      · cases h
      · rename_i hb; cases h; exact ⟨by simp [eqGuard, binOp, Op.shift, hb], rfl⟩
    case shr =>
      split at h
      · cases h
      · rename_i hb; cases h; exact ⟨by simp [eqGuard, binOp, Op.shift, hb], rfl⟩
    all_goals
      split at h
      case isFalse => cases h
      rename_i hk
      subst hk
      first
        | (split at h
           · cases h
           · rename_i hb; cases h; exact ⟨by simp [eqGuard, binOp, Op.intDiv, hb], rfl⟩)
        | (cases h
           refine ⟨?_, rfl⟩
           simp [eqGuard, binOp, Op.intArith, Op.intBits, Op.intCmp])
  · rename_i a b
    cases op <;> simp only at h <;> try (cases h)
    case add =>
      split at h
      · rename_i hle
        cases h
        refine ⟨?_, rfl⟩
        have e : IntKind.i64.max = 9223372036854775807 := by decide
        have h2 : ¬ (9223372036854775807 : Int) < a.size + b.size := by omega
        simp [eqGuard, binOp, Op.stringOp, e, h2]
      · cases h
    all_goals exact ⟨by simp [eqGuard, binOp, Op.stringOp], rfl⟩
  · cases h

theorem unV_sound {P : Program} {op : UnOp} {x r : Value} (h : unV op x = some r) (w : World) : (Op.unary op x).run P w = .ok r w ∧ flat r = true := by
  unfold unV at h
  split at h
  · rename_i k a
    cases op <;> simp only at h <;> cases h
    all_goals exact ⟨by simp [Op.unary, Op.intArith, Op.intBits], rfl⟩
  · rename_i a
    cases op <;> simp only at h <;> cases h
    exact ⟨by simp [Op.unary], rfl⟩
  · cases h

theorem bnd_sound {P : Program} {g : Gh} {w : World} {x : Option Value} {d : Option AV} {n : Nat} {i : Int} (h : bnd d n = some i) (hx : (x = none ∧ d = none) ∨ ∃ v a, x = some v ∧ d = some a ∧ R g w v a) :
    (x = none ∧ d = none ∧ i = n) ∨ ∃ q, x = some (.int q i) ∧ d.isSome = true := by
  rcases hx with ⟨rfl, rfl⟩ | ⟨v, a, rfl, rfl, hR⟩
  · simp only [bnd, Option.some.injEq] at h
    exact .inl ⟨rfl, rfl, h.symm⟩
  · unfold bnd at h
    split at h
    · rename_i e; cases e
    · rename_i q m e
      cases h
      cases e
      obtain ⟨rfl, _⟩ := hR.flat_eq
      exact .inr ⟨q, rfl, rfl⟩
    · cases h

theorem run_bound {P : Program} {q : IntKind} {i : Int} {n : Nat} {c : BoundsCode} {w : World} (h0 : 0 ≤ i) (h1 : i ≤ n) : (Instr.sliceBound (.int q i) n c).run P w = .ok i.toNat w := by
  simp only [Instr.sliceBound, asIntOf, Sem.run_bind, Sem.run_pure, Result.andThen_ok]
  rw [if_pos ⟨h0, h1⟩]
  rfl

/-- The bounds of a slicing. -/
theorem run_bounds {P : Program} {isS : Bool} {len cap : Nat} {lo hi : Option Value} {l h : Int} {w : World} (hlo : (lo = none ∧ l = 0) ∨ ∃ q, lo = some (.int q l)) (hhi : (hi = none ∧ h = len) ∨ ∃ q, hi = some (.int q h))
    (h0 : 0 ≤ l) (h1 : l ≤ h) (h2 : h ≤ len) (hc : len ≤ cap) : (Instr.sliceBounds isS len cap lo hi none).run P w = .ok (l.toNat, h.toNat, cap) w := by
  unfold Instr.sliceBounds
  have hn : 0 ≤ h := by omega
  rcases hlo with ⟨rfl, rfl⟩ | ⟨q, rfl⟩ <;> rcases hhi with ⟨rfl, rfl⟩ | ⟨q', rfl⟩
  · simp
  · simp [run_bound hn (show h ≤ (cap : Int) by omega)]
  · simp [run_bound h0 (show l ≤ (len : Int) by omega)]
  · simp [run_bound hn (show h ≤ (cap : Int) by omega), run_bound h0 (show l ≤ (h.toNat : Int) by omega)]

theorem run_bounds3 {P : Program} {isS : Bool} {len cap : Nat} {lo : Option Value} {l h m : Int} {q' q'' : IntKind} {w : World} (hlo : (lo = none ∧ l = 0) ∨ ∃ q, lo = some (.int q l))
    (h0 : 0 ≤ l) (h1 : l ≤ h) (h2 : h ≤ m) (hc : m ≤ cap) : (Instr.sliceBounds isS len cap lo (some (.int q' h)) (some (.int q'' m))).run P w = .ok (l.toNat, h.toNat, m.toNat) w := by
  unfold Instr.sliceBounds
  have hn : 0 ≤ h := by omega
  have hm : 0 ≤ m := by omega
  rcases hlo with ⟨rfl, rfl⟩ | ⟨q, rfl⟩
  · simp [run_bound hm hc, run_bound hn (show h ≤ (m.toNat : Int) by omega)]
  · simp [run_bound hm hc, run_bound hn (show h ≤ (m.toNat : Int) by omega), run_bound h0 (show l ≤ (h.toNat : Int) by omega)]

theorem uni_sub {α : Type} {es : Nat} {l : List (List α)} (h : Uni es l) (i j : Nat) : Uni es ((l.take j).drop i) := fun x hx => h x (List.mem_of_mem_take (List.mem_of_mem_drop hx))

theorem flatten_take {α : Type} {es : Nat} {l : List (List α)} (h : Uni es l) (n : Nat) : (l.take n).flatten = l.flatten.take (n * es) := by
  induction l generalizing n with
  | nil => simp
  | cons x r ih =>
    cases n with
    | zero => simp
    | succ n =>
      have h1 := h x (by simp)
      simp only [List.take_succ_cons, List.flatten_cons, ih (fun y hy => h y (by simp [hy]))]
      rw [List.take_append, h1, show (n + 1) * es - es = n * es by rw [Nat.add_mul]; omega, List.take_of_length_le (l := x) (by rw [h1, Nat.add_mul]; omega)]

theorem flatten_drop {α : Type} {es : Nat} {l : List (List α)} (h : Uni es l) (n : Nat) : (l.drop n).flatten = l.flatten.drop (n * es) := by
  induction l generalizing n with
  | nil => simp
  | cons x r ih =>
    cases n with
    | zero => simp
    | succ n =>
      have h1 := h x (by simp)
      simp only [List.drop_succ_cons, List.flatten_cons, ih (fun y hy => h y (by simp [hy]))]
      rw [List.drop_append, h1, show (n + 1) * es - es = n * es by rw [Nat.add_mul]; omega, List.drop_of_length_le (l := x) (by rw [h1, Nat.add_mul]; omega)]
      simp

/-- A piece of a slice. -/
theorem sub_row {g : Gh} {w : World} {ab ao es cap' : Nat} {l : List (List AV)} {vs : List Value} {i j : Nat} {tok : Tok} {a' : Addr} (he : 0 < es) (hul : Uni es l) (hv : RC g w vs l.flatten)
    (hcell : ∀ q v, vs[q]? = some v → w.cell? ⟨ab, ao + q, none⟩ = some v) (hbl : ab < w.heap.size) (hx : Ext g ab (ao + l.length * es)) (hij : i ≤ j) (hj : j ≤ l.length)
    (ha : a' = ⟨ab, ao + i * es, none⟩ ∨ (i = j ∧ a' = ⟨ab, ao, none⟩)) (hc : j - i ≤ cap') (hk : TokOk g a' (j - i) cap' es tok) : R g w (.slice (some a') (j - i) cap') (.sl es ((l.take j).drop i) tok) := by
  have hlen : ((l.take j).drop i).length = j - i := by simp; omega
  have hmul : i * es + (j - i) * es = j * es := by rw [← Nat.add_mul]; congr 1; omega
  have hle : j * es ≤ l.length * es := Nat.mul_le_mul_right _ hj
  have hfl : ((l.take j).drop i).flatten = (l.flatten.take (j * es)).drop (i * es) := by
    rw [flatten_drop (fun x hx => hul x (List.mem_of_mem_take hx)), flatten_take hul]
  have ext : ∀ e, e ≤ ao + l.length * es → Ext g ab e := by
    intro e hle'
    rcases hx with hx | ⟨id, p, hp, h⟩
    · exact .inl hx
    · exact .inr ⟨id, p, hp, by omega⟩
  rcases ha with rfl | ⟨rfl, rfl⟩
  · have := R.mk_row (g := g) (w := w) (b := ab) (off := ao + i * es) (cap := cap') (l := (l.take j).drop i) (k := tok) (vs := (vs.take (j * es)).drop (i * es)) he (uni_sub hul i j) (by rw [hlen]; exact hc)
      (by rw [hfl]; exact (hv.take _).drop _) (fun q v hq => by
        rw [List.getElem?_drop, List.getElem?_take] at hq
        split at hq
        · have := hcell _ _ hq; rw [Nat.add_assoc]; exact this
        · cases hq) hbl (ext _ (by rw [hlen]; omega)) (by rw [hlen]; exact hk)
    rw [hlen] at this
    exact this
  · have e0 : (l.take i).drop i = [] := by simp
    rw [e0]
    have := R.mk_row (g := g) (w := w) (b := ab) (off := ao) (cap := cap') (l := []) (k := tok) (vs := []) he (fun _ h => by simp at h) (by simp) (RC_nil g w) (fun q v hq => by simp at hq) hbl (ext _ (by simp)) (by simpa using hk)
    simpa using this

def ORel (g : Gh) (w : World) (x : Option Value) (d : Option AV) : Prop := (x = none ∧ d = none) ∨ ∃ v a, x = some v ∧ d = some a ∧ R g w v a

theorem aSlice_sound {P : Program} {g : Gh} {w : World} {t : TypeId} {x : Value} {a : AV} {lo hi mx : Option Value} {dlo dhi dmx : Option AV} {k : AV → Prop} (ha : R g w x a) (hlo : ORel g w lo dlo) (hhi : ORel g w hi dhi)
    (hmx : ORel g w mx dmx) (h : aSlice P t a dlo dhi dmx k) : PV g w ((Instr.sliceAt t x lo hi mx).run P w) k := by
  unfold aSlice at h
  split at h
  · rename_i s hu
    obtain ⟨hm, h⟩ := h
    obtain ⟨l, hl, h⟩ := opt_elim h
    obtain ⟨e, he, h0, h1, h2, hk⟩ := opt_elim h
    obtain ⟨rfl, _⟩ := ha.flat_eq
    have hmn : mx = none := by
      rcases hmx with ⟨rfl, _⟩ | ⟨_, _, _, rfl, _⟩
      · rfl
      · simp at hm
    subst hmn
    have hb := run_bounds (P := P) (isS := false) (len := s.size) (cap := s.size) (lo := lo) (hi := hi) (l := l) (h := e) (w := w)
      (by rcases bnd_sound (P := P) hl hlo with ⟨a, _, b⟩ | ⟨q, a, _⟩; exact .inl ⟨a, by simpa using b⟩; exact .inr ⟨q, a⟩)
      (by rcases bnd_sound (P := P) he hhi with ⟨a, _, b⟩ | ⟨q, a, _⟩; exact .inl ⟨a, b⟩; exact .inr ⟨q, a⟩) h0 h1 h2 (Nat.le_refl _)
    refine ⟨_, _, ?_, .v rfl, hk⟩
    simp [Instr.sliceAt, Instr.slice, run_underlying hu, hb]
  · rename_i e es a tok hu
    obtain ⟨hs, h⟩ := h
    obtain ⟨l, hl, h⟩ := opt_elim h
    obtain ⟨f, hf, h⟩ := opt_elim h
    have hlo' := bnd_sound (P := P) hl hlo
    have hhi' := bnd_sound (P := P) hf hhi
    obtain ⟨hes, hul, hrow⟩ := ha.row
    split at h
    · -- two bounds
      obtain ⟨h0, h1, h2, hk⟩ := h
      have hmn : mx = none := by
        rcases hmx with ⟨rfl, _⟩ | ⟨_, _, _, h', _⟩
        · rfl
        · cases h'
      subst hmn
      rcases hrow with ⟨rfl, rfl⟩ | ⟨ad, cap, vs, rfl, hsp, hc, hv, hcell, hbl, hx, hk'⟩
      · have hl0 : l = 0 := by simp at h2; omega
        have hf0 : f = 0 := by simp at h2; omega
        subst hl0; subst hf0
        have hb := run_bounds (P := P) (isS := true) (len := 0) (cap := 0) (lo := lo) (hi := hi) (l := 0) (h := 0) (w := w)
          (by rcases hlo' with ⟨a, _, b⟩ | ⟨q, a, _⟩; exact .inl ⟨a, rfl⟩; exact .inr ⟨q, a⟩) (by rcases hhi' with ⟨a, _, b⟩ | ⟨q, a, _⟩; exact .inl ⟨a, rfl⟩; exact .inr ⟨q, a⟩) (by omega) (by omega) (by omega) (Nat.le_refl _)
        refine ⟨.slice none 0 0, _, ?_, ?_, hk⟩
        · simp [Instr.sliceAt, Instr.slice, run_underlying hu, hb, run_sizeOf hs]
        · simp only [List.take_nil, List.drop_nil]
          split
          · cases ha with | slnil he hk => exact .slnil he hk
          · exact .slnil hes trivial
      · obtain ⟨ab, ao, asp⟩ := ad
        simp only at hsp
        subst hsp
        have hb := run_bounds (P := P) (isS := true) (len := a.length) (cap := cap) (lo := lo) (hi := hi) (l := l) (h := f) (w := w)
          (by rcases hlo' with ⟨a, _, b⟩ | ⟨q, a, _⟩; exact .inl ⟨a, by simpa using b⟩; exact .inr ⟨q, a⟩) (by rcases hhi' with ⟨a, _, b⟩ | ⟨q, a, _⟩; exact .inl ⟨a, b⟩; exact .inr ⟨q, a⟩) h0 h1 h2 hc
        refine ⟨_, _, by simp [Instr.sliceAt, Instr.slice, run_underlying hu, hb, run_sizeOf hs, Addr.add_lit]; rfl, ?_, hk⟩
        have : (if cap = l.toNat then (⟨ab, ao, none⟩ : Addr) else ⟨ab, ao + l.toNat * es, none⟩) = ⟨ab, ao + l.toNat * es, none⟩ ∨ (l.toNat = f.toNat ∧ (if cap = l.toNat then (⟨ab, ao, none⟩ : Addr) else ⟨ab, ao + l.toNat * es, none⟩) = ⟨ab, ao, none⟩) := by
          split
          · exact .inr ⟨by omega, rfl⟩
          · exact .inl rfl
        have hsub := fun tok' hk' => sub_row (g := g) (w := w) (ab := ab) (ao := ao) (es := es) (cap' := cap - l.toNat) (l := a) (i := l.toNat) (j := f.toNat) (tok := tok') hes hul hv hcell hbl hx (by omega) (by omega) this (by omega) hk'
        have hself : (if cap = l.toNat then (some (⟨ab, ao, none⟩ : Addr)) else some ⟨ab, ao + l.toNat * es, none⟩) = some (if cap = l.toNat then (⟨ab, ao, none⟩ : Addr) else ⟨ab, ao + l.toNat * es, none⟩) := by split <;> rfl
        rw [hself]
        by_cases hb' : (dlo.isNone && dhi.isNone) = true
        · rw [if_pos hb']
          rw [Bool.and_eq_true, Option.isNone_iff_eq_none, Option.isNone_iff_eq_none] at hb'
          obtain ⟨rfl, rfl⟩ := hb'
          have hl0 : l = 0 := by simp [bnd] at hl; omega
          have hfl : f = a.length := by simp [bnd] at hf; omega
          subst hl0
          subst hfl
          refine hsub tok ?_
          simp only [Int.toNat_zero, Nat.zero_mul, Nat.add_zero, ite_self, Int.toNat_natCast, Nat.sub_zero]
          exact hk'
        · rw [if_neg hb']
          exact hsub .none trivial
    · -- three bounds
      rename_i m
      obtain ⟨hsome, h⟩ := h
      obtain ⟨m', hm', h0, h1, h2, h3, hk⟩ := opt_elim h
      have hmx' := bnd_sound (P := P) hm' hmx
      obtain ⟨q'', hq''⟩ : ∃ q, mx = some (.int q m') := by
        rcases hmx' with ⟨_, h', _⟩ | ⟨q, h', _⟩
        · cases h'
        · exact ⟨q, h'⟩
      obtain ⟨q', hq'⟩ : ∃ q, hi = some (.int q f) := by
        rcases hhi' with ⟨_, h', _⟩ | ⟨q, h', _⟩
        · subst h'; simp at hsome
        · exact ⟨q, h'⟩
      subst hq''; subst hq'
      rcases hrow with ⟨rfl, rfl⟩ | ⟨ad, cap, vs, rfl, hsp, hc, hv, hcell, hbl, hx, hk'⟩
      · simp at h3
        have hm0 : m' = 0 := by omega
        have hl0 : l = 0 := by omega
        have hf0 : f = 0 := by omega
        subst hl0; subst hf0; subst hm0
        have hb := run_bounds3 (P := P) (isS := true) (len := 0) (cap := 0) (lo := lo) (l := 0) (h := 0) (m := 0) (q' := q') (q'' := q'') (w := w)
          (by rcases hlo' with ⟨a, _, b⟩ | ⟨q, a, _⟩; exact .inl ⟨a, rfl⟩; exact .inr ⟨q, a⟩) (by omega) (by omega) (by omega) (by omega)
        refine ⟨.slice none 0 0, _, by simp [Instr.sliceAt, Instr.slice, run_underlying hu, hb, run_sizeOf hs], ?_, hk⟩
        simp only [List.take_nil, List.drop_nil, if_true]
        exact .slnil hes trivial
      · obtain ⟨ab, ao, asp⟩ := ad
        simp only at hsp
        subst hsp
        have hb := run_bounds3 (P := P) (isS := true) (len := a.length) (cap := cap) (lo := lo) (l := l) (h := f) (m := m') (q' := q') (q'' := q'') (w := w)
          (by rcases hlo' with ⟨a, _, b⟩ | ⟨q, a, _⟩; exact .inl ⟨a, by simpa using b⟩; exact .inr ⟨q, a⟩) h0 h1 h2 (by omega)
        refine ⟨_, _, by simp [Instr.sliceAt, Instr.slice, run_underlying hu, hb, run_sizeOf hs, Addr.add_lit]; rfl, ?_, hk⟩
        have : (if m'.toNat = l.toNat then (⟨ab, ao, none⟩ : Addr) else ⟨ab, ao + l.toNat * es, none⟩) = ⟨ab, ao + l.toNat * es, none⟩ ∨ (l.toNat = f.toNat ∧ (if m'.toNat = l.toNat then (⟨ab, ao, none⟩ : Addr) else ⟨ab, ao + l.toNat * es, none⟩) = ⟨ab, ao, none⟩) := by
          split
          · exact .inr ⟨by omega, rfl⟩
          · exact .inl rfl
        have hself : (if m'.toNat = l.toNat then (some (⟨ab, ao, none⟩ : Addr)) else some ⟨ab, ao + l.toNat * es, none⟩) = some (if m'.toNat = l.toNat then (⟨ab, ao, none⟩ : Addr) else ⟨ab, ao + l.toNat * es, none⟩) := by split <;> rfl
        rw [hself]
        refine sub_row hes hul hv hcell hbl hx (by omega) (by omega) this (by omega) ?_
        by_cases e : m' = f
        · rw [if_pos e]; show _ = _; omega
        · rw [if_neg e]; trivial
  · rename_i e hu
    obtain ⟨hs, h⟩ := h
    obtain ⟨es, hs⟩ := Option.isSome_iff_exists.1 hs
    obtain ⟨l, hl, h⟩ := opt_elim h
    obtain ⟨f, hf, rfl, rfl, h⟩ := opt_elim h
    obtain ⟨m, hm, rfl, hsome, hk⟩ := opt_elim h
    obtain ⟨rfl, _⟩ := ha.flat_eq
    have hlo' := bnd_sound (P := P) hl hlo
    have hhi' := bnd_sound (P := P) hf hhi
    have hmx' := bnd_sound (P := P) hm hmx
    have hlo2 : (lo = none ∧ (0 : Int) = 0) ∨ ∃ q, lo = some (.int q 0) := by rcases hlo' with ⟨a, _, b⟩ | ⟨q, a, _⟩; exact .inl ⟨a, rfl⟩; exact .inr ⟨q, a⟩
    refine ⟨.slice none 0 0, _, ?_, .v rfl, hk⟩
    rcases hmx' with ⟨rfl, rfl, _⟩ | ⟨q'', rfl, hd⟩
    · have hb := run_bounds (P := P) (isS := true) (len := 0) (cap := 0) (lo := lo) (hi := hi) (l := 0) (h := 0) (w := w) hlo2
        (by rcases hhi' with ⟨a, _, b⟩ | ⟨q, a, _⟩; exact .inl ⟨a, rfl⟩; exact .inr ⟨q, a⟩) (by omega) (by omega) (by omega) (Nat.le_refl _)
      simp [Instr.sliceAt, Instr.slice, run_underlying hu, hb, run_sizeOf hs]
    · obtain ⟨q', hq'⟩ : ∃ q, hi = some (.int q 0) := by
        rcases hhi' with ⟨_, h', _⟩ | ⟨q, h', _⟩
        · have := hsome hd; subst h'; simp at this
        · exact ⟨q, h'⟩
      subst hq'
      have hb := run_bounds3 (P := P) (isS := true) (len := 0) (cap := 0) (lo := lo) (l := 0) (h := 0) (m := 0) (q' := q') (q'' := q'') (w := w) hlo2 (by omega) (by omega) (by omega) (by omega)
      simp [Instr.sliceAt, Instr.slice, run_underlying hu, hb, run_sizeOf hs]
  · rename_i n e cs off hu
    obtain ⟨h1, h2, h3, hn, h⟩ := h
    obtain ⟨es, hs, he, hle, hk⟩ := opt_elim h
    have n1 : lo = none := by rcases hlo with ⟨rfl, _⟩ | ⟨_, _, _, rfl, _⟩; rfl; simp at h1
    have n2 : hi = none := by rcases hhi with ⟨rfl, _⟩ | ⟨_, _, _, rfl, _⟩; rfl; simp at h2
    have n3 : mx = none := by rcases hmx with ⟨rfl, _⟩ | ⟨_, _, _, rfl, _⟩; rfl; simp at h3
    subst n1; subst n2; subst n3
    cases ha with
    | @ep b o _ _ vs hcell hr h1' hb hx =>
      have hbd := run_bounds (P := P) (isS := false) (len := n) (cap := n) (lo := none) (hi := none) (l := 0) (h := n) (w := w) (.inl ⟨rfl, rfl⟩) (.inl ⟨rfl, rfl⟩) (by omega) (by omega) (by omega) (Nat.le_refl _)
      have hne : ¬ n = 0 := by omega
      refine ⟨.slice (some ⟨b, o + off, none⟩) n n, _, by simp [Instr.sliceAt, Instr.sureAddr, run_underlying hu, hbd, run_sizeOf hs, Addr.add_lit, hne], ?_, hk⟩
      have key : ∀ (n : Nat) (cs : List AV), n * es ≤ cs.length → Uni es (chunks es n cs) ∧ (chunks es n cs).length = n ∧ (chunks es n cs).flatten = cs.take (n * es) := by
        intro n
        induction n with
        | zero => intro cs _; exact ⟨fun _ h => by simp [chunks] at h, rfl, by simp [chunks]⟩
        | succ n ih =>
          intro cs hc
          rw [Nat.add_mul, Nat.one_mul] at hc
          obtain ⟨a1, a2, a3⟩ := ih (cs.drop es) (by simp; omega)
          refine ⟨fun x hx => ?_, by simp [chunks, a2], ?_⟩
          · simp only [chunks, List.mem_cons] at hx
            rcases hx with rfl | hx
            · simp; omega
            · exact a1 x hx
          · simp only [chunks, List.flatten_cons, a3]
            rw [Nat.add_mul, Nat.one_mul, Nat.add_comm (n * es) es, List.take_add]
      obtain ⟨a1, a2, a3⟩ := key n (cs.drop off) (by simp; omega)
      have := R.mk_row (g := g) (w := w) (b := b) (off := o + off) (cap := n) (l := chunks es n (cs.drop off)) (k := .exact) (vs := (List.range (n * es)).map fun q => vs (off + q)) he a1 (by rw [a2]; exact Nat.le_refl _)
        ⟨by rw [a3]; simp; omega, fun i hi => by
          rw [a3] at hi ⊢
          simp only [List.length_take, List.length_drop] at hi
          rw [getD_take (by omega), getD_drop]
          have e1 : ((List.range (n * es)).map fun q => vs (off + q)).getD i undef = vs (off + i) := by
            rw [List.getD_eq_getElem?_getD, List.getElem?_map, List.getElem?_range (by omega)]; rfl
          rw [e1]
          exact ⟨hr _ (by omega), h1' _ (by omega)⟩⟩
        (fun j v hj => by
          have hlt : j < n * es := by have := (List.getElem?_eq_some_iff.1 hj).1; simpa using this
          rw [List.getElem?_map, List.getElem?_range hlt] at hj
          cases hj
          rw [Nat.add_assoc]; exact hcell _ (by omega)) hb
        (by rw [a2]; rcases hx with hx | ⟨id, p, hp, hle'⟩; exact .inl hx; exact .inr ⟨id, p, hp, by omega⟩) (by rw [a2]; rfl)
      rw [a2] at this
      exact this
  · exact h.elim

end Go.Av

/- What the operations come to: what is built, loads and stores, calls; all of them. -/
namespace Go.Av
open Go
set_option linter.unusedVariables false
set_option linter.unusedSimpArgs false

theorem foldl_splice (off : Nat) : ∀ (l : List Value) (j : Nat) (cells : Array Value), off + j + l.length ≤ cells.size →
    ((l.zipIdx j).foldl (fun cs (p : Value × Nat) => cs.setIfInBounds (off + p.2) p.1) cells).toList = cells.toList.take (off + j) ++ l ++ cells.toList.drop (off + j + l.length)
  | [], j, cells, _ => by simp
  | v :: r, j, cells, h => by
    have h' : off + j + r.length + 1 ≤ cells.size := by simpa [Nat.add_assoc] using h
    simp only [List.zipIdx_cons, List.foldl_cons]
    rw [foldl_splice off r (j + 1) _ (by simp; omega)]
    apply List.ext_getElem?
    intro i
    simp only [Array.toList_setIfInBounds, List.append_assoc, List.getElem?_append, List.length_take, List.length_set, Array.length_toList, List.getElem?_take, List.getElem?_set, List.getElem?_drop, List.length_cons]
    have m1 : min (off + j) cells.size = off + j := by omega
    have m2 : min (off + (j + 1)) cells.size = off + j + 1 := by omega
    rw [m1, m2]
    by_cases a : i < off + j
    · simp only [a, if_true]
      rw [if_pos (by omega), if_pos (by omega), if_neg (by omega)]
    · by_cases b : i = off + j
      · subst b
        simp
        omega
      · have e1 : ¬ i < off + j + 1 := by omega
        simp only [a, e1, if_false]
        have e2 : i - (off + j) = (i - (off + j + 1)) + 1 := by omega
        rw [e2]
        simp only [Nat.add_lt_add_iff_right, List.getElem?_cons_succ]
        by_cases c : i - (off + j + 1) < r.length
        · rw [if_pos c, if_pos c]
        · rw [if_neg c, if_neg c]
          rw [if_neg (by omega)]
          congr 1
          omega

theorem fill_sound {g : Gh} {w : World} {place : Nat → Option (Nat × Nat)} : ∀ {parts : List (Nat × Value)} {dparts : List (Nat × AV)} {cells : Array Value} {cs out : List AV},
    RC g w cells.toList cs → (parts.length = dparts.length ∧ ∀ i, i < dparts.length → (parts.getD i (0, undef)).1 = (dparts.getD i (0, AV.un)).1 ∧ R g w (parts.getD i (0, undef)).2 (dparts.getD i (0, AV.un)).2) →
    fillL place cs dparts = some out → ∃ cells', Instr.fill place cells parts = some cells' ∧ RC g w cells'.toList out
  | [], dparts, cells, cs, out, hc, hp, h => by
    cases dparts with
    | cons p r => simp at hp
    | nil => simp only [fillL, Option.some.injEq] at h; subst h; exact ⟨cells, rfl, hc⟩
  | (i, v) :: rest, dparts, cells, cs, out, hc, hp, h => by
    cases dparts with
    | nil => simp at hp
    | cons p r =>
      obtain ⟨di, dv⟩ := p
      have h0 := hp.2 0 (by simp)
      simp only [List.getD_cons_zero] at h0
      obtain ⟨rfl, hR⟩ := h0
      simp only [fillL] at h
      simp only [Instr.fill]
      cases hpl : place i with
      | none => rw [hpl] at h; cases h
      | some q =>
        obtain ⟨off, size⟩ := q
        rw [hpl] at h
        simp only at h
        split at h
        · cases h
        · rename_i hn
          simp only [not_or, Bool.not_eq_false, Nat.not_lt, ne_eq, Decidable.not_not, gt_iff_lt] at hn
          obtain ⟨n1, n2, n3⟩ := hn
          have hv := hR.cells n3
          have hvs : v.cells.size = dv.cells.length := by simpa using hv.1
          have hcs : cells.size = cs.length := by simpa using hc.1
          simp only
          have hc1 : ¬ (v.cells.size ≠ size) := by rw [hvs]; omega
          have hc2 : ¬ (off + v.cells.size > cells.size) := by rw [hvs, hcs]; omega
          rw [if_neg (by simp only [decide_eq_false hc1, decide_eq_false hc2]; decide)]
          have hs := foldl_splice off v.cells.toList 0 cells (by rw [Array.length_toList, hvs, hcs]; omega)
          have hs' : (v.cells.zipIdx.foldl (fun cs (x : Value × Nat) => cs.setIfInBounds (off + x.2) x.1) cells).toList = cells.toList.take off ++ v.cells.toList ++ cells.toList.drop (off + v.cells.toList.length) := by
            rw [← Array.foldl_toList, Array.toList_zipIdx]
            simpa using hs
          refine fill_sound (cells := v.cells.zipIdx.foldl (fun cs (x : Value × Nat) => cs.setIfInBounds (off + x.2) x.1) cells) ?_ ⟨by simpa using hp.1, fun k hk => ?_⟩ h
          · rw [hs']
            exact hc.splice hv off
          · have := hp.2 (k + 1) (by simpa using hk)
            simpa using this

/-- Parts of a literal. -/
def Parts (g : Gh) (w : World) (parts : List (Nat × Value)) (dparts : List (Nat × AV)) : Prop :=
  parts.length = dparts.length ∧ ∀ i, i < dparts.length → (parts.getD i (0, undef)).1 = (dparts.getD i (0, AV.un)).1 ∧ R g w (parts.getD i (0, undef)).2 (dparts.getD i (0, AV.un)).2

theorem parts_of {g : Gh} {w : World} {ev : Operand → Value} {ρ : Operand → AV} (he : ∀ x, R g w (ev x) (ρ x)) (parts : Array (Nat × Operand)) :
    Parts g w (parts.map fun (i, x) => (i, ev x)).toList (parts.toList.map fun (i, x) => (i, ρ x)) := by
  refine ⟨by simp, fun i hi => ?_⟩
  simp only [List.length_map] at hi
  simp only [Array.toList_map, List.getD_eq_getElem?_getD, List.getElem?_map, List.getElem?_eq_getElem hi, Option.map_some, Option.getD_some]
  exact ⟨trivial, he _⟩

theorem RC_agg {g : Gh} {w : World} {cells : Array Value} {cs : List AV} (h : RC g w cells.toList cs) : R g w (.agg cells) (.agg cs) :=
  .agg (by simpa using h.1) (fun i hi => by rw [getD_toList]; exact (h.2 i hi).1) (fun i hi => (h.2 i hi).2)

theorem zero_RC {v : Value} {z : AV} (h : ofVal v = some z) (g : Gh) (w : World) : RC g w v.cells.toList z.cells := (R.ofVal h g w).1.cells (R.ofVal h g w).2

theorem mapM_places {P : Program} {w : World} : ∀ (fs : List Field) (acc : Array (Nat × Nat)), (∀ f ∈ fs, (szOf P f.type).isSome = true) →
    ∃ ps : List (Nat × Nat), ps.length = fs.length ∧ (∀ i : Nat, ps[i]? = (fs[i]?).bind fun f => (szOf P f.type).map fun s => (f.offset, s)) ∧
      (fs.mapM (m := Sem) fun f => do pure (f.offset, ← sizeOf f.type)).run P w = .ok ps w
  | [], _, _ => ⟨[], rfl, fun i => by simp, rfl⟩
  | f :: r, acc, h => by
    obtain ⟨s, hs⟩ := Option.isSome_iff_exists.1 (h f (by simp))
    obtain ⟨ps, h1, h2, h3⟩ := mapM_places r acc (fun x hx => h x (by simp [hx]))
    refine ⟨(f.offset, s) :: ps, by simp [h1], fun i => ?_, ?_⟩
    · cases i with
      | zero => simp [hs]
      | succ i => simpa using h2 i
    · simp only [List.mapM_cons, Sem.run_bind, run_sizeOf hs, Result.andThen_ok, Sem.run_pure]
      rw [h3]
      rfl

theorem aBuild_sound {P : Program} {g : Gh} {w : World} {t : TypeId} {parts : Array (Nat × Value)} {dparts : List (Nat × AV)} {k : AV → Prop} (hp : Parts g w parts.toList dparts) (h : aBuild P t dparts k) :
    PV g w ((Instr.build t parts).run P w) k := by
  unfold aBuild at h
  split at h
  · rename_i z fs hz hu
    obtain ⟨hfs, h⟩ := h
    obtain ⟨cs, hcs, hk⟩ := opt_elim h
    obtain ⟨v, n, _, hzr, _, hov⟩ := zeroAV_some hz
    obtain ⟨ps, h1, h2, h3⟩ := mapM_places (P := P) (w := w) fs.toList #[] (fun f hf => (List.all_eq_true.1 hfs) f hf)
    have hpl : (fun i : Nat => ((ps.toArray)[i]? : Option (Nat × Nat))) = fun i : Nat => (fs[i]?).bind fun (f : Field) => (szOf P f.type).map fun s => (f.offset, s) := by
      funext i
      simpa using h2 i
    obtain ⟨cells', hf, hRC⟩ := fill_sound (zero_RC hov g w) hp hcs
    refine ⟨.agg cells', _, ?_, RC_agg hRC, hk⟩
    rw [← hpl] at hf
    simp only [Instr.build, Sem.run_bind, hzr, Result.andThen_ok, run_underlying hu, Array.mapM_eq_mapM_toList, Sem.run_map, h3]
    simp only [hf, Sem.run_pure]
  · rename_i z n e hz hu
    obtain ⟨es, hs, h⟩ := opt_elim h
    obtain ⟨cs, hcs, hk⟩ := opt_elim h
    obtain ⟨v, n, _, hzr, _, hov⟩ := zeroAV_some hz
    obtain ⟨cells', hf, hRC⟩ := fill_sound (zero_RC hov g w) hp hcs
    refine ⟨.agg cells', _, ?_, RC_agg hRC, hk⟩
    simp only [Instr.build, Sem.run_bind, hzr, Result.andThen_ok, run_underlying hu, run_sizeOf hs, hf, Sem.run_pure]
  · exact h.elim

theorem chunks_spec {α : Type} {es : Nat} : ∀ (n : Nat) (cs : List α) (f : Nat → List α → List (List α)), (∀ c, f 0 c = []) → (∀ n c, f (n + 1) c = c.take es :: f n (c.drop es)) → n * es ≤ cs.length →
    Uni es (f n cs) ∧ (f n cs).length = n ∧ (f n cs).flatten = cs.take (n * es)
  | 0, cs, f, h0, h1, _ => by rw [h0]; exact ⟨fun _ h => by simp at h, rfl, by simp⟩
  | n + 1, cs, f, h0, h1, hc => by
    rw [Nat.add_mul, Nat.one_mul] at hc
    obtain ⟨a1, a2, a3⟩ := chunks_spec n (cs.drop es) f h0 h1 (by simp; omega)
    rw [h1]
    refine ⟨fun x hx => ?_, by simp [a2], ?_⟩
    · simp only [List.mem_cons] at hx
      rcases hx with rfl | hx
      · simp; omega
      · exact a1 x hx
    · simp only [List.flatten_cons, a3]
      rw [Nat.add_mul, Nat.one_mul, Nat.add_comm (n * es) es, List.take_add]

theorem chunks_ok {es n : Nat} {cs : List AV} (h : n * es ≤ cs.length) : Uni es (chunks es n cs) ∧ (chunks es n cs).length = n ∧ (chunks es n cs).flatten = cs.take (n * es) :=
  chunks_spec n cs (chunks es) (fun _ => rfl) (fun _ _ => rfl) h

/-- Zeros, one behind the other. -/
theorem zeros_RC {g : Gh} {w : World} {v : Value} {z : AV} {n : Nat} (h : RC g w v.cells.toList z.cells) (hn : 0 < v.cells.size) :
    RC g w ((Array.range (n * v.cells.size)).map (fun i => v.cells[i % v.cells.size]!)).toList (List.replicate n z.cells).flatten := by
  have hu : Uni v.cells.size (List.replicate n z.cells) := fun x hx => by
    rw [List.mem_replicate] at hx
    rw [hx.2, ← h.1]; simp
  have hl := hu.flatten_length
  rw [List.length_replicate] at hl
  refine ⟨by simp [hl], fun i hi => ?_⟩
  rw [hl] at hi
  obtain ⟨p1, p2, p3⟩ := part_idx hi
  have e2 : (List.replicate n z.cells).flatten.getD i AV.un = z.cells.getD (i % v.cells.size) AV.un := by
    conv => lhs; rw [p3]
    rw [hu.getD (by simpa using p1) p2]
    congr 1
    rw [List.getD_eq_getElem?_getD, List.getElem?_replicate, if_pos p1]
    rfl
  have e1 : ((Array.range (n * v.cells.size)).map (fun i => v.cells[i % v.cells.size]!)).toList.getD i undef = v.cells.toList.getD (i % v.cells.size) undef := by
    simp [List.getD_eq_getElem?_getD, List.getElem?_range, hi, p2]
  rw [e1, e2]
  exact h.2 _ (by rw [← h.1]; simpa using p2)

theorem aBuildSlice_sound {P : Program} {T : Nat → Prop} {g : Gh} {s : AState} {w : World} {t : TypeId} {len : Nat} {parts : Array (Nat × Value)} {dparts : List (Nat × AV)} {k : AV → AState → Prop}
    (hi : Inv g s w) (ht : TOk T s) (hp : Parts g w parts.toList dparts) (h : aBuildSlice P t len dparts (fun d => k d s)) : YV T g s w ((Instr.buildSlice t len parts).run P w) k := by
  unfold aBuildSlice at h
  split at h
  case h_2 => exact h.elim
  rename_i e hu
  obtain ⟨es, hs, he, hle, h⟩ := opt_elim h
  obtain ⟨z, hz, hzl, h⟩ := opt_elim h
  obtain ⟨cs, hcs, hk⟩ := opt_elim h
  obtain ⟨v, n, hsz, hzr, hvs, hov⟩ := zeroAV_some hz
  rw [hs] at hsz
  cases hsz
  have hzc := zero_RC hov g w
  have hinit := zeros_RC (n := len) hzc (by omega)
  rw [hvs] at hinit
  obtain ⟨cells', hf, hRC⟩ := fill_sound hinit hp hcs
  obtain ⟨hev, hinv⟩ := step_seal hi (.cells cells' e)
  have hlen : cs.length = len * es := by
    have h1 := hRC.1
    rw [← h1]
    -- filling keeps the length
    have key : ∀ (ps : List (Nat × AV)) (c o : List AV), fillL (fun i => some (i * es, es)) c ps = some o → o.length = c.length := by
      intro ps
      induction ps with
      | nil => intro c o h; simp only [fillL, Option.some.injEq] at h; rw [h]
      | cons p r ih =>
        intro c o h
        obtain ⟨i, x⟩ := p
        simp only [fillL] at h
        split at h
        · cases h
        · rename_i hn
          simp only [not_or, Nat.not_lt, gt_iff_lt] at hn
          have := ih _ _ h
          rw [this]
          simp only [spliceL, List.length_append, List.length_take, List.length_drop]
          omega
    have h2 := key _ _ _ hcs
    rw [h1, h2]
    have hu' : Uni es (List.replicate len z.cells) := fun x hx => by
      rw [List.mem_replicate] at hx
      rw [hx.2]; exact hzl
    have := hu'.flatten_length
    simpa using this
  obtain ⟨c1, c2, c3⟩ := chunks_ok (es := es) (n := len) (cs := cs) (by omega)
  have hsize : cells'.size = len * es := by rw [← hlen, ← hRC.1]; simp
  refine ⟨.slice (some ⟨w.heap.size, 0, none⟩) len len, w.alloc (.cells cells' e), _, s, _, ?_, ?_, hinv, hev.none_touch, ht, rfl, hk⟩
  · have h24 : ¬ (len * es > 16777216) := by omega
    by_cases h0 : len * es = 0
    · have : len = 0 := by
        rcases Nat.mul_eq_zero.1 h0 with h | h
        · exact h
        · omega
      subst this
      have hr : ∀ f : Nat → Value, (Array.range (0 * es)).map f = #[] := by intro f; simp
      rw [hr] at hf
      simp only [Instr.buildSlice, Sem.run_bind, run_underlying hu, Result.andThen_ok, run_sizeOf hs]
      rw [if_neg (by omega)]
      simp only [Sem.run_bind, Sem.run_pure, Result.andThen_ok, Nat.zero_mul, if_true, hf, newRow, run_newObj]
      have hr' : ∀ f : Nat → Value, (Array.range 0).map f = #[] := by intro f; simp
      rw [hr', hf]
      rfl
    · have hcond : ¬ (len * es > 2 ^ 24) := by simpa using h24
      simp only [Instr.buildSlice, Sem.run_bind, run_underlying hu, Result.andThen_ok, run_sizeOf hs]
      rw [if_neg hcond]
      simp only [Sem.run_bind, Sem.run_pure, Result.andThen_ok, h0, if_false, hzr, hvs, hf, newRow, run_newObj]
      rfl
  · have := R.mk_row (g := g.shut w.heap.size) (w := w.alloc (.cells cells' e)) (b := w.heap.size) (off := 0) (cap := len) (l := chunks es len cs) (k := .exact) (vs := cells'.toList) he c1 (by rw [c2]; exact Nat.le_refl _)
      (by rw [c3, List.take_of_length_le (by omega)]; exact hRC.ev hev) (fun j v hj => by
        have hg := heap_alloc_new w (.cells cells' e)
        rw [cell_of_get hg, Nat.zero_add, ← Array.getElem?_toList]; exact hj) (by simp) (.inl (by simp [Gh.shut])) (by rw [c2]; rfl)
    rw [c2] at this
    exact this

end Go.Av

/- What the operations come to: all of them. -/
namespace Go.Av
open Go
set_option linter.unusedVariables false
set_option linter.unusedSimpArgs false

theorem wrap_room {q : IntKind} {c : Int} (h0 : 0 ≤ c) (h1 : c ≤ room) : IntKind.i64.wrap c = c := by
  simp only [room] at h1
  simp [IntKind.wrap, IntKind.signed, IntKind.bits]
  omega

theorem aMakeSlice_sound {P : Program} {T : Nat → Prop} {g : Gh} {s : AState} {w : World} {imm : Bool} {t : TypeId} {x y : Value} {l c : AV} {k : AV → AState → Prop}
    (hi : Inv g s w) (ht : TOk T s) (hl : R g w x l) (hc : R g w y c) (h : aMakeSlice P imm t l c s k) : YV T g s w ((Instr.makeSlice t x y).run P w) k := by
  unfold aMakeSlice at h
  split at h
  case h_2 => exact h.elim
  rename_i e ql l qc c hu
  split at h
  case h_2 => exact h.elim
  rename_i i hti
  obtain ⟨hsz, h0, h1, hr, hr2, h⟩ := h
  obtain ⟨z, hz, hzl, hk⟩ := opt_elim h
  obtain ⟨rfl, _⟩ := hl.flat_eq
  obtain ⟨rfl, _⟩ := hc.flat_eq
  obtain ⟨v, n, hszn, hzr, hvs, hov⟩ := zeroAV_some hz
  obtain ⟨j, hj, hjs, hjb, _⟩ := tyI_some hti
  have hsn : n = i.size := by
    have : szOf P e = some i.size := by simp [szOf, hti]
    rw [this] at hszn; cases hszn; rfl
  subst hsn
  obtain ⟨m, rfl⟩ := Int.eq_ofNat_of_zero_le (show 0 ≤ c by omega)
  obtain ⟨p, rfl⟩ := Int.eq_ofNat_of_zero_le h0
  have hpm : p ≤ m := by omega
  have hroom : m * i.bytes ≤ room := by
    have e : ((m * i.bytes : Nat) : Int) = (m : Int) * i.bytes := by simp
    have : ((m * i.bytes : Nat) : Int) ≤ (room : Nat) := by rw [e]; exact hr
    omega
  have hw1 : IntKind.i64.wrap (m : Int) = m := wrap_room (q := .i64) (by omega) (by omega)
  have hw2 : IntKind.i64.wrap (p : Int) = p := wrap_room (q := .i64) (by omega) (by omega)
  have hbig : ¬ ((i.bytes : Int) * m > 2 ^ 48) := by
    have e : ((m * i.bytes : Nat) : Int) = (i.bytes : Int) * m := by rw [Int.natCast_mul, Int.mul_comm]
    have : ((m * i.bytes : Nat) : Int) ≤ (room : Nat) := by omega
    rw [e] at this
    simp only [room] at this
    have e2 : (2 : Int) ^ 48 = 281474976710656 := by decide
    rw [e2]; omega
  obtain ⟨cells, hcells⟩ : ∃ cells : Array Value, cells = (Array.range (m * i.size)).map (fun q => v.cells[q % v.cells.size]!) := ⟨_, rfl⟩
  have hcs : cells.size = m * i.size := by rw [hcells]; simp
  have hrun : (Instr.makeSlice t (.int ql p) (.int qc m)).run P w = .ok (.slice (some ⟨w.heap.size, 0, none⟩) p m) (w.alloc (.cells cells e)) := by
    have t1 : (decide ((m : Int) < 0) || decide ((i.bytes : Int) * m > 2 ^ 48)) = false := by
      rw [Bool.or_eq_false_iff]; exact ⟨decide_eq_false (by omega), decide_eq_false hbig⟩
    have t2 : decide ((p : Int) < 0) = false := decide_eq_false (by omega)
    have t3 : decide ((p : Int) > m) = false := decide_eq_false (by omega)
    simp only [Instr.makeSlice, Sem.run_bind, run_underlying hu, Result.andThen_ok, asInt, asIntOf, Sem.run_pure, typeInfo, run_program, hj, hjb, hw1, hw2, Int.ofNat_eq_natCast, t1, t2, t3, Bool.or_false, Bool.false_eq_true, if_false, run_askRoom, sizeOf, hjs, Int.toNat_natCast]
    by_cases hz0 : m * i.size = 0
    · simp only [hz0, if_true, Sem.run_pure, Result.andThen_ok, newRow, Sem.run_bind, run_newObj]
      have e1 : ∀ f : Nat → Value, (Array.range 0).map f = #[] := by intro f; simp
      have e2 : cells = #[] := by rw [hcells, hz0, e1]
      rw [e1, e2]
      rfl
    · simp only [hz0, if_false, Sem.run_bind, hzr, Result.andThen_ok, Sem.run_pure, newRow, run_newObj]
      rw [hcells]
      rfl
  have hzc := zero_RC hov g w
  have hinit := zeros_RC (n := m) hzc (by omega)
  rw [hvs] at hinit
  have hc2 : cells = (Array.range (m * i.size)).map (fun q => v.cells[q % i.size]!) := by rw [hcells, hvs]
  rw [← hc2] at hinit
  simp only [Int.ofNat_eq_natCast, Int.toNat_natCast] at hk
  split at hk
  · obtain ⟨hp0, hk⟩ := hk
    have hp0 : p = 0 := by omega
    subst hp0
    obtain ⟨hev, hinv⟩ := step_rowNew (id := s.next) (st := 0) hi (.inl hi.next) cells e 0 (Nat.zero_le _)
    refine ⟨_, _, _, _, _, hrun, ?_, hinv, hev.mono (fun q hq => by subst hq; exact ht.1 _ hi.base), rowSet_tok ht hi (.inl rfl), rfl, by rw [rowSet_new]; exact hk⟩
    have := R.mk_row (g := g.rowNew s.next w.heap.size 0 cells.size 0) (w := w.alloc (.cells cells e)) (b := w.heap.size) (off := 0) (cap := m) (l := []) (k := .row s.next 0) (vs := []) hsz (fun _ h => by simp at h) (Nat.zero_le _)
      (RC_nil _ _) (fun j v hj => by simp at hj) (by simp) (.inr ⟨s.next, 0, by simp [Gh.rowNew], by simp⟩)
      ⟨by simp [Gh.rowNew, hi.next], Nat.zero_le _, fun _ => ⟨by simp [Gh.rowNew], by simp [Gh.rowNew], by simp [Gh.rowNew], by simp only [Gh.rowNew, if_true, Nat.zero_add, hcs]⟩⟩
    simpa using this
  · obtain ⟨hev, hinv, hR⟩ := step_new hi cells e (List.replicate m z.cells).flatten (by rw [← hinit.1]; simp) (fun q hq => by rw [getD_toList]; exact hinit.2 q hq)
    refine ⟨_, _, _, _, _, hrun, ?_, hinv, hev.none_touch, ht.new hi _, rfl, hk⟩
    exact .ms (by simp [Gh.own, hi.next]) rfl (by simp [Gh.own, hi.next]) rfl hpm hsz

theorem two_sound {P : Program} {g : Gh} {w : World} {xs : Array Value} {ds : List AV} {f : Int → Int → Int} {d : AV} {op : Value → Value → Sem Value}
    (hx : RL g w xs.toList ds) (h : two f ds = some d) (hop : ∀ k x y, op (.int k x) (.int k y) = Pure.pure (.int k (f x y))) :
    ∃ k x y, xs = #[.int k x, .int k y] ∧ d = .v (.int k (f x y)) := by
  unfold two at h
  split at h
  · rename_i k x k' y
    split at h
    · rename_i e
      subst e
      cases h
      obtain ⟨h1, h2⟩ := hx
      have a0 := (h2 0 (by simp)).flat_eq.1
      have a1 := (h2 1 (by simp)).flat_eq.1
      refine ⟨k, x, y, ?_, rfl⟩
      obtain ⟨l⟩ := xs
      match l, h1 with
      | [p, q], _ => simp at a0 a1; rw [a0, a1]
    · cases h
  · cases h

theorem aLen_mono {P : Program} {t : TypeId} {a : AV} {k k' : AV → Prop} (hk : ∀ d, k d → k' d) (h : aLen P t a k) : aLen P t a k' := by
  unfold aLen at h ⊢
  split at h <;> first | exact h.elim | (simp only [*]; done) | (simp only [*]; exact hk _ h)

theorem aBuiltin_sound {P : Program} {T : Nat → Prop} {g : Gh} {s : AState} {w : World} {b : Builtin} {ts : Array TypeId} {ty : TypeId} {cs : Array Bool} {xs : Array Value} {ds : List AV} {k : AV → AState → Prop}
    (hi : Inv g s w) (ht : TOk T s) (hx : RL g w xs.toList ds) (h : aBuiltin P b ts ds s k) :
    ∃ r : Result Value, (builtin b ts ty cs xs).run P w = r.andThen (fun v w' => .ok (.value v) w') ∧ YV T g s w r k := by
  unfold aBuiltin at h
  split at h
  · rename_i a
    obtain ⟨h1, h2⟩ := hx
    obtain ⟨l⟩ := xs
    match l, h1 with
    | [x], _ =>
      have ha : R g w x a := by simpa using h2 0 (by simp)
      have hts : ts.size = 1 := by
        unfold aLen at h
        split at h <;> first | exact h.1 | exact h.elim
      obtain ⟨tl⟩ := ts
      match tl, hts with
      | [t], _ =>
        exact ⟨(Builtin.len_ #[t] ty #[x]).run P w, by simp [builtin], PV.yv hi ht (aLen_sound ha (aLen_mono (fun d hd => hd.2) h))⟩
  · rename_i a x
    obtain ⟨h1, h2⟩ := hx
    obtain ⟨l⟩ := xs
    match l, h1 with
    | [u, v], _ =>
      have ha : R g w u a := by simpa using h2 0 (by simp)
      have hb : R g w v x := by simpa using h2 1 (by simp)
      refine ⟨(Builtin.append_ ts ty #[u, v]).run P w, by simp [builtin], ?_⟩
      -- the types of the operands
      have key : ∀ {k' : AV → AState → Prop}, aAppend P (ts.getD 0 0) a x s k' → ∃ d s', k' d s' := by
        intro k' h
        unfold aAppend at h
        split at h
        case h_2 => exact h.elim
        split at h
        case h_2 => exact h.elim
        obtain ⟨_, _, _, h⟩ := h
        obtain ⟨l2, _, h⟩ := opt_elim h
        split at h
        · by_cases e : l2 = []
          · exact ⟨_, _, h.1 e⟩
          · exact ⟨_, _, (h.2 e).2⟩
        · exact ⟨_, _, h.2.2.2⟩
        · by_cases e : l2 = []
          · exact ⟨_, _, h.1 e⟩
          · exact ⟨_, _, (h.2 e).2.2⟩
        · exact ⟨_, _, h.2⟩
        · exact h.elim
      obtain ⟨_, _, hts, ⟨t1, ht1, d1, hd1, hn⟩, _⟩ := key h
      obtain ⟨tl⟩ := ts
      match tl, hts with
      | [t0, t1'], _ =>
        simp at ht1
        subst ht1
        obtain ⟨v', w', d, s', g', hr, hR, hI, hE, hT, hB, hk⟩ := aAppend_sound (ty := ty) hi ht hd1 hn ha hb h
        exact ⟨v', w', d, s', g', hr, hR, hI, hE, hT, hB, hk.2.2⟩
  · obtain ⟨d, hd, hk⟩ := opt_elim h
    obtain ⟨q, x, y, rfl, rfl⟩ := two_sound (P := P) (op := Builtin.min2) hx hd (fun k x y => rfl)
    exact ⟨.ok (.int q (if y < x then y else x)) w, by simp [builtin, Builtin.min_, Builtin.min2], YV.pure hi ht rfl (.v rfl) hk⟩
  · obtain ⟨d, hd, hk⟩ := opt_elim h
    obtain ⟨q, x, y, rfl, rfl⟩ := two_sound (P := P) (op := Builtin.max2) hx hd (fun k x y => rfl)
    exact ⟨.ok (.int q (if y > x then y else x)) w, by simp [builtin, Builtin.max_, Builtin.max2], YV.pure hi ht rfl (.v rfl) hk⟩
  · exact h.elim

theorem untok_R {g : Gh} {w : World} {x : Value} {d : AV} (h : R g w x d) : R g w x d.untok := by
  cases h with
  | sl vs a1 a2 a3 a4 a5 a6 a7 a8 a9 a10 a11 => exact .sl vs a1 a2 a3 a4 a5 a6 a7 a8 a9 a10 trivial
  | slnil he hk => exact .slnil he trivial
  | v a => exact .v a
  | agg a b c => exact .agg a b c
  | tup a b => exact .tup a b
  | ms a1 a2 a3 a4 a5 a6 => exact .ms a1 a2 a3 a4 a5 a6
  | ep vs a1 a2 a3 a4 a5 => exact .ep vs a1 a2 a3 a4 a5
  | ptr a b => exact .ptr a b
  | mp a b => exact .mp a b
  | fn a b c d => exact .fn a b c d
  | yl a b => exact .yl a b
  | ifc a => exact .ifc a
  | any => exact .any

/-- Cells written into a row of whose cells none is frozen. -/
theorem run_storeCells_fz {P : Program} (b o : Nat) (t : TypeId) (fz : Nat × Nat) : ∀ (vs : List Value) (i : Nat) (cur : Array Value) (w : World), w.heap[b]? = some (.cells cur t fz) → FzOk fz cur.size → o + i + vs.length ≤ cur.size →
    (∀ v ∈ vs, v.oneCell' = true) → (storeCells ⟨b, o, none⟩ vs i).run P w = .ok () (w.setRow b (cur.toList.take (o + i) ++ vs ++ cur.toList.drop (o + i + vs.length)).toArray) := by
  intro vs
  induction vs with
  | nil =>
    intro i cur w hg hz hl h1
    simp only [storeCells, List.append_nil, List.length_nil, Nat.add_zero, List.take_append_drop, Array.toArray_toList]
    rw [setRow_self w b cur t fz hg]; rfl
  | cons v rest ih =>
    intro i cur w hg hz hl h1
    simp only [List.length_cons] at hl
    have hi : o + i < cur.size := by omega
    have hf : w.frozen? ⟨b, o + i, none⟩ = false := by
      rcases hz with rfl | rfl <;> simp [World.frozen?, hg]
      omega
    have hst : (store ((⟨b, o, none⟩ : Addr).add i) v).run P w = .ok () (w.setRow b (cur.setIfInBounds (o + i) v)) := by
      rw [show (⟨b, o, none⟩ : Addr).add i = ⟨b, o + i, none⟩ by unfold Addr.add; split <;> simp_all, run_store P w _ v _ (h1 v (by simp)), show w.cell? ⟨b, o + i, none⟩ = some cur[o + i] by simp [World.cell?, hg, hi]]
      simp [hf, setCell_eq_setRow w b (o + i) cur t fz v hg]
    have h := ih (i + 1) (cur.setIfInBounds (o + i) v) (w.setRow b (cur.setIfInBounds (o + i) v)) (setRow_heap w b cur _ t _ hg) (by simpa using hz) (by simp; omega) (fun x hx => h1 x (by simp [hx]))
    simp only [storeCells, Sem.run_bind, hst, Result.andThen_ok, h, setRow_setRow]
    congr 3
    have e := list_seg_step cur.toList (o + i) v rest (by simp; omega)
    simpa [Array.toList_setIfInBounds, Nat.add_assoc] using e

/-- A store. -/
theorem store_sound {P : Program} {T : Nat → Prop} {g : Gh} {s : AState} {w : World} {t : TypeId} {x : Value} {d : AV} {id off : Nat} {cs : List AV} (hi : Inv g s w) (ht : TOk T s)
    (ho : s.obj id = some (.cells cs)) (hx : R g w x d) (hs : szOf P t = some d.cells.length) (hle : off + d.cells.length ≤ cs.length) (h1 : d.cells.all AV.one = true) :
    ∃ w', (storeVar t ⟨g.blk id, off, none⟩ x).run P w = .ok () w' ∧ Inv g (s.set id (.cells (spliceL cs off d.cells))) w' ∧ Ev T g w g w' := by
  obtain ⟨hlt, hp, vs, elem, ⟨fz, hg, hz⟩, hvs, hr⟩ := hi.obj _ _ ho
  have hc := hx.cells h1
  have hxs : x.cells.size = d.cells.length := by simpa using hc.1
  have hv : RC g w vs.toList cs := ⟨by simpa using hvs, fun i hlt' => by rw [← getD_toList]; exact hr i hlt'⟩
  have hst := run_storeCells_fz (P := P) (g.blk id) off elem fz x.cells.toList 0 vs w hg hz (by simp; omega) hc.oneCell
  simp only [Nat.add_zero] at hst
  have hev := Ev.setRow (w := w) hp (vs.toList.take off ++ x.cells.toList ++ vs.toList.drop (off + x.cells.toList.length)).toArray
  have hself := setRow_heap w (g.blk id) vs (vs.toList.take off ++ x.cells.toList ++ vs.toList.drop (off + x.cells.toList.length)).toArray elem fz hg
  have hsp := (hv.splice hc off).ev hev
  refine ⟨_, ?_, Inv.touch (id := id) hi hev hi.next hi.base (fun i o hne ho' => ?_) (fun o ho' => ?_), hev.mono (fun i h => by subst h; exact ht.2 _ _ ho)⟩
  · simp only [storeVar, Sem.run_bind, run_sizeOf hs, Result.andThen_ok, hxs, ne_eq, not_true_eq_false, if_false]
    exact hst
  · simp only [AState.set, hne, if_false] at ho'; exact ho'
  · simp only [AState.set, if_true] at ho'
    cases ho'
    refine ⟨hlt, hp, _, elem, ⟨fz, hself, by rw [List.size_toArray, hsp.1, show (spliceL cs off d.cells).length = vs.size by simp only [spliceL, List.length_append, List.length_take, List.length_drop]; omega]; exact hz⟩, by rw [List.size_toArray]; exact hsp.1, fun i hi' => ?_⟩
    rw [getD_toArray]
    exact hsp.2 i hi'

end Go.Av

/- Every operation that the abstract evaluation takes is carried out by the machine as it says. -/
namespace Go.Av
open Go
set_option linter.unusedVariables false
set_option linter.unusedSimpArgs false

/-- Everywhere, in a round or not. -/
def Fr (ro : Option Nat) : Fence := { Fence.wide with round := ro }

theorem Fr_fn (ro : Option Nat) (f : FuncId) : (Fr ro).fn f := trivial

theorem callsIn_fr {ro : Option Nat} {n : Nat} {P : Program} {f : FuncId} {args : Array Value} {w : World} {Q : Ending → World → Prop} (h : Calls P f args w Q) : CallsIn (Fr ro) n P f args w Q := by
  have h' : CallsIn Fence.wide n P f args w Q := callsIn_wide.2 h
  cases ro with
  | none => exact h'
  | some l => exact h'

theorem roundIn_fr {ro : Option Nat} {n : Nat} {P : Program} {l : Nat} {f : FuncId} {tmps : Array Value} {asg body : Code} {w : World} {Q : Ending → World → Prop} (h : RoundIn Fence.wide n P l f tmps asg body w Q) : RoundIn (Fr ro) n P l f tmps asg body w Q := by
  cases ro with
  | none => exact h
  | some l => exact h

theorem run_yield' {P : Program} {w : World} {l : Nat} {r : Loop} {args : Array Value} (h : w.heap[l]? = some (.loop r)) (hs : args.size = r.params.size) :
    (Instr.yield l args).run P w = .ok (.round l r.fn ((r.params.zip args).foldl (fun tmps (t, a) => tmps.setIfInBounds t a) r.tmps) r.assign r.body) w := by
  simp [Instr.yield, Instr.getLoop, getObj, Sem.run, h, Sem.run_bind, Result.andThen, hs]

section
variable {P : Program} {T : Nat → Prop} {g : Gh} {s : AState} {w : World} {k : AV → AState → Prop} {o : Oper} {a : Act} {ro : Option Nat} {n : Nat} {K : Act → World → Prop} {Q : Exit → Act → World → Prop}

/-- What is asked behind an operation. -/
def After (T : Nat → Prop) (g : Gh) (s : AState) (w : World) (k : AV → AState → Prop) (next : Value → World → Prop) : Prop :=
  ∀ v d s' w' g', R g' w' v d → Inv g' s' w' → Ev T g w g' w' → TOk T s' → s'.base = s.base → k d s' → next v w'

theorem wp_of_yv {r : Result Value} (hdef : ∀ c, o.op ≠ .defer c) (hr : (execOp a.eval o).run P w = r.andThen fun v w' => .ok (.value v) w') (hy : YV T g s w r k)
    (hK : After T g s w k fun v w' => K (a.put o.dst v) w') : o.wpIn (Fr ro) n P a w K Q := by
  refine ⟨fun f _ => trivial, ?_⟩
  rw [Oper.semAt_eq _ _ _ hdef, hr]
  obtain ⟨v, w', d, s', g', rfl, hR, hI, hE, hT, hB, hk⟩ := hy
  exact hK v d s' w' g' hR hI hE hT hB hk

theorem wp_of_run {v : Value} {d : AV} (hi : Inv g s w) (ht : TOk T s) (hdef : ∀ c, o.op ≠ .defer c) (hr : (execOp a.eval o).run P w = .ok (.value v) w) (hR : R g w v d) (hk : k d s)
    (hK : After T g s w k fun v w' => K (a.put o.dst v) w') : o.wpIn (Fr ro) n P a w K Q :=
  wp_of_yv (r := .ok v w) hdef (by rw [hr]; rfl) (YV.pure hi ht rfl hR hk) hK

theorem RL_map {ev : Operand → Value} {ρ : Operand → AV} (he : ∀ x, R g w (ev x) (ρ x)) (l : List Operand) : RL g w (l.map ev) (l.map ρ) := by
  refine ⟨by simp, fun i hi => ?_⟩
  simp only [List.length_map] at hi
  simp only [List.getD_eq_getElem?_getD, List.getElem?_map, List.getElem?_eq_getElem hi, Option.map_some, Option.getD_some]
  exact he _

theorem RL_append {vs vs' : List Value} {ds ds' : List AV} (h : RL g w vs ds) (h' : RL g w vs' ds') : RL g w (vs ++ vs') (ds ++ ds') := by
  refine ⟨by simp [h.1, h'.1], fun i hi => ?_⟩
  by_cases hlt : i < ds.length
  · rw [getD_append_left (by rw [h.1]; exact hlt), getD_append_left hlt]; exact h.2 i hlt
  · rw [getD_append_right (by rw [h.1]; omega), getD_append_right (by omega), h.1]
    exact h'.2 _ (by simp at hi; omega)

theorem RL_untok {vs : List Value} {ds : List AV} (h : RL g w vs ds) : RL g w vs (ds.map AV.untok) := by
  refine ⟨by simp [h.1], fun i hi => ?_⟩
  simp only [List.length_map] at hi
  have h0 := untok_R (h.2 i hi)
  have e : (ds.map AV.untok).getD i AV.un = (ds.getD i AV.un).untok := by
    rw [List.getD_eq_getElem?_getD, List.getD_eq_getElem?_getD, List.getElem?_map, List.getElem?_eq_getElem hi]
    rfl
  rw [e]
  exact h0

theorem RL_arr {vs : Array Value} {ds : List AV} (hs : vs.size = ds.length) (h : ∀ i, i < ds.length → R g w (vs.getD i undef) (ds.getD i AV.un)) : RL g w vs.toList ds :=
  ⟨by simpa using hs, fun i hi => by rw [← getD_toList]; exact h i hi⟩

theorem aCall_sound {c : Call} {ρ : Operand → AV} (hi : Inv g s w) (ht : TOk T s) (he : ∀ x, R g w (a.eval x) (ρ x)) (ho : o.op = .call c) (h : aCall P ρ c s k)
    (hK : After T g s w k fun v w' => K (a.put o.dst v) w') : o.wpIn (Fr ro) n P a w K Q := by
  have hdef : ∀ c', o.op ≠ .defer c' := by rw [ho]; intro c' h; cases h
  unfold aCall at h
  split at h
  · rename_i b hb
    have hx : RL g w (c.args.map a.eval).toList (c.args.toList.map ρ) := by rw [Array.toList_map]; exact RL_map he _
    obtain ⟨r, hr, hy⟩ := aBuiltin_sound (ty := o.type) (cs := c.args.map fun | .const _ => true | _ => false) hi ht hx h
    refine wp_of_yv hdef ?_ hy hK
    rw [← hr]
    simp only [execOp, ho, resolve, hb, Sem.run_bind, Sem.run_pure, Result.andThen_ok, invoke]
    rfl
  · rename_i f hf
    cases hρ : ρ f with
    | yl id =>
      rw [hρ] at h
      have hv := he f
      rw [hρ] at hv
      cases hcv : a.eval f with
      | func fn vf vc =>
        rw [hcv] at hv
        cases hv with
        | @yl _ b hid hb =>
          have hx : RL g w (c.args.map a.eval).toList (c.args.toList.map ρ) := by rw [Array.toList_map]; exact RL_map he _
          obtain ⟨r, hr, hlen, hround⟩ := h T g w _ hi ht (RL_untok hx)
          subst hb
          refine ⟨fun f _ => trivial, ?_⟩
          rw [Oper.semAt_eq _ _ _ hdef]
          have hrun : (execOp a.eval o).run P w = .ok (.round (g.blk id) r.fn ((r.params.zip (c.args.map a.eval)).foldl (fun tmps (t, a) => tmps.setIfInBounds t a) r.tmps) r.assign r.body) w := by
            simp only [execOp, ho, resolve, hf, Sem.run_bind, hcv, Deferred.ofValue, Sem.run_pure, Result.andThen_ok, invoke]
            rw [Array.empty_append]
            exact run_yield' (args := c.args.map a.eval) hr (by simpa using hlen)
          rw [hrun]
          have hround' := hround (n - 1)
          rw [Array.toArray_toList] at hround'
          refine ⟨fun hd => by simp [Fr, Fence.wide] at hd, roundIn_fr ?_⟩
          refine RoundIn.mono hround' ?_
          rintro e w' ⟨v, d, s', g', rfl, hR, hI, hE, hT, hB, hk⟩
          exact hK v d s' w' g' hR hI hE hT hB hk
      | _ => rw [hcv] at hv; cases hv
    | fn gf first cap =>
      rw [hρ] at h
      obtain ⟨hen, h⟩ := h
      have hv := he f
      rw [hρ] at hv
      cases hcv : a.eval f with
      | func fn vf vc =>
        rw [hcv] at hv
        cases hv with
        | fn h1 h2 h3 h4 =>
          have hx : RL g w (vf.toList ++ (c.args.map a.eval).toList ++ vc.toList) (first ++ c.args.toList.map ρ ++ cap) := by
            rw [Array.toList_map]
            exact RL_append (RL_append (RL_arr h1 h3) (RL_map he _)) (RL_arr h2 h4)
          have hcall := h T g w _ hi ht (RL_untok hx)
          refine ⟨fun f _ => trivial, ?_⟩
          rw [Oper.semAt_eq _ _ _ hdef]
          have hrun : (execOp a.eval o).run P w = .ok (.enter gf ((vf.toList ++ (c.args.map a.eval).toList ++ vc.toList).toArray)) w := by
            simp only [execOp, ho, resolve, hf, Sem.run_bind, hcv, Deferred.ofValue, Sem.run_pure, Result.andThen_ok, invoke]
            rw [hen]
            simp
          rw [hrun]
          refine ⟨fun hd => by simp [Fr, Fence.wide] at hd, callsIn_fr (hcall.mono ?_)⟩
          rintro e w' ⟨v, d, s', g', rfl, hR, hI, hE, hT, hB, hk⟩
          exact hK v d s' w' g' hR hI hE hT hB hk
      | _ => rw [hcv] at hv; cases hv
    | _ => rw [hρ] at h; exact h.elim
  · exact h.elim

end
end Go.Av

/- Every operation that the abstract evaluation takes is carried out by the machine as it says: the theorem. -/
namespace Go.Av
open Go
set_option linter.unusedVariables false
set_option linter.unusedSimpArgs false

section
variable {P : Program} {T : Nat → Prop} {g : Gh} {s : AState} {w : World} {k : AV → AState → Prop} {o : Oper} {a : Act} {ro : Option Nat} {n : Nat} {K : Act → World → Prop} {Q : Exit → Act → World → Prop}

theorem R.ptr_inv {x : Value} {id off : Nat} (h : R g w x (.ptr id off)) : id < g.next ∧ x = .pointer (some ⟨g.blk id, off, none⟩) := by
  cases h with | ptr hid hb => subst hb; exact ⟨hid, rfl⟩

theorem R.ep_inv {x : Value} {cs : List AV} {off : Nat} (h : R g w x (.ep cs off)) : ∃ b o, ∃ vs : Nat → Value, x = .pointer (some ⟨b, o + off, none⟩) ∧
    (∀ j, j < cs.length → w.cell? ⟨b, o + j, none⟩ = some (vs j)) ∧ (∀ j, j < cs.length → R g w (vs j) (cs.getD j AV.un) ∧ (cs.getD j AV.un).one = true) ∧ b < w.heap.size ∧ Ext g b (o + cs.length) := by
  cases h with | ep vs h1 h2 h3 h4 h5 => exact ⟨_, _, vs, rfl, h1, fun j hj => ⟨h2 j hj, h3 j hj⟩, h4, h5⟩

theorem R.mk_ep {b o off : Nat} {cs : List AV} {vs : Nat → Value} (h1 : ∀ j, j < cs.length → w.cell? ⟨b, o + j, none⟩ = some (vs j)) (h2 : ∀ j, j < cs.length → R g w (vs j) (cs.getD j AV.un) ∧ (cs.getD j AV.un).one = true)
    (h4 : b < w.heap.size) (h5 : Ext g b (o + cs.length)) : R g w (.pointer (some ⟨b, o + off, none⟩)) (.ep cs off) := .ep vs h1 (fun j hj => (h2 j hj).1) (fun j hj => (h2 j hj).2) h4 h5

/-- A new box: one's own, or read alone. -/
theorem newVar_sound {t : TypeId} {x : Value} {cs : List AV} {imm : Bool} (hi : Inv g s w) (ht : TOk T s) (hc : RC g w x.cells.toList cs)
    (h : if imm then k (.ep cs 0) s else k (.ptr s.next 0) (s.new (.cells cs))) : YV T g s w (((newVar t x).run P w).andThen fun a w' => .ok (.pointer (some a)) w') k := by
  have hrun : ((newVar t x).run P w).andThen (fun a w' => Result.ok (Value.pointer (some a)) w') = .ok (.pointer (some ⟨w.heap.size, 0, none⟩)) (w.alloc (.cells x.cells t)) := by
    simp only [newVar, newRow, Sem.run_bind, run_newObj, Result.andThen_ok, Sem.run_pure]
    rfl
  split at h
  · obtain ⟨hev, hinv⟩ := step_seal hi (.cells x.cells t)
    refine ⟨_, _, _, _, _, hrun, ?_, hinv, hev.none_touch, ht, rfl, h⟩
    have hg := heap_alloc_new w (.cells x.cells t)
    have := R.mk_ep (g := g.shut w.heap.size) (w := w.alloc (.cells x.cells t)) (b := w.heap.size) (o := 0) (off := 0) (cs := cs) (vs := fun j => x.cells.getD j undef)
      (fun j hj => by
        rw [cell_of_get hg, Nat.zero_add]
        have hlt : j < x.cells.size := by rw [← hc.1] at hj; simpa using hj
        rw [Array.getD_eq_getD_getElem?, Array.getElem?_eq_getElem hlt]; rfl)
      (fun j hj => by have := (hc.ev hev).2 j hj; rw [← getD_toList] at this; exact this) (by simp) (.inl (by simp [Gh.shut]))
    exact this
  · obtain ⟨hev, hinv, hR⟩ := step_new hi x.cells t cs (by rw [← hc.1]; simp) (fun i hi' => by have := hc.2 i hi'; rw [← getD_toList] at this; exact this)
    exact ⟨_, _, _, _, _, hrun, hR, hinv, hev.none_touch, ht.new hi _, rfl, h⟩

theorem optRel {ev : Operand → Value} {ρ : Operand → AV} (he : ∀ x, R g w (ev x) (ρ x)) (x : Option Operand) : ORel g w (x.map ev) (x.map ρ) := by
  cases x with
  | none => exact .inl ⟨rfl, rfl⟩
  | some x => exact .inr ⟨_, _, rfl, rfl, he x⟩

theorem aOp_sound {C : Cfg} {ρ : Operand → AV} (hi : Inv g s w) (ht : TOk T s) (he : ∀ x, R g w (a.eval x) (ρ x)) (h : aOp P C ρ o s k)
    (hK : After T g s w k fun v w' => K (a.put o.dst v) w') : o.wpIn (Fr ro) n P a w K Q := by
  have sem : ASem P ρ o s k → o.wpIn (Fr ro) n P a w K Q := by
    rintro ⟨hd, hc, h⟩
    obtain ⟨nx, v, w', d, s', g', hr, hn, hR, hI, hE, hT, hB, hk⟩ := h T g w a.eval hi ht (fun x _ => he x)
    refine ⟨fun f _ => trivial, ?_⟩
    rw [Oper.semAt_eq _ _ _ hd, hr]
    rcases hn with rfl | ⟨rfl, rfl⟩
    · exact hK v d s' w' g' hR hI hE hT hB hk
    · exact hK undef d s' w' g' hR hI hE hT hB hk
  have semD : ASemD P ρ o s k → o.wpIn (Fr ro) n P a w K Q := fun ⟨d, s', h1, h2⟩ => sem ⟨h1.1, h1.2.1, fun T g w ev hi ht hr => let ⟨n, v, w', d, s', g', a, b, c, d', e', f', g'', h'⟩ := h1.2.2 T g w ev hi ht hr; ⟨n, v, w', d, s', g', a, b, c, d', e', f', g'', by rw [h'.1, h'.2]; exact h2⟩⟩
  unfold aOp at h
  cases hop : o.op with
  | move x => simp only [hop] at h; exact wp_of_run hi ht (by simp [hop]) (by simp [execOp, hop]) (he x) h hK
  | assign x => simp only [hop] at h; exact wp_of_run hi ht (by simp [hop]) (by simp [execOp, hop]) (he x) h hK
  | pick c x y =>
    simp only [hop] at h
    split at h
    · rename_i t hc
      have hv := he c
      rw [hc] at hv
      obtain ⟨hv, _⟩ := hv.flat_eq
      refine wp_of_run (v := if t then a.eval x else a.eval y) hi ht (by simp [hop]) (by cases t <;> simp [execOp, hop, hv, asBool]) ?_ h hK
      cases t <;> simp [he]
    · exact h.elim
  | alloc t =>
    simp only [hop] at h
    obtain ⟨z, hz, h⟩ := opt_elim h
    obtain ⟨v, m, _, hzr, _, hov⟩ := zeroAV_some hz
    refine wp_of_yv (by simp [hop]) ?_ (newVar_sound (P := P) (t := t) (x := v) hi ht (zero_RC hov g w) h) hK
    simp [execOp, hop, Instr.alloc, hzr, Result.andThen]
    cases (newVar t v).run P w <;> rfl
  | box t x =>
    simp only [hop] at h
    obtain ⟨h1, h⟩ := h
    refine wp_of_yv (by simp [hop]) ?_ (newVar_sound (P := P) (t := t) (x := a.eval x) hi ht ((he x).cells h1) h) hK
    simp [execOp, hop, Instr.box, Result.andThen]
    cases (newVar t (a.eval x)).run P w <;> rfl
  | build t parts =>
    simp only [hop] at h
    refine wp_of_yv (r := (Instr.build t (parts.map fun (i, x) => (i, a.eval x))).run P w) (by simp [hop]) (by simp [execOp, hop]) (PV.yv hi ht (aBuild_sound (parts_of he parts) h)) hK
  | buildSlice t len parts =>
    simp only [hop] at h
    split at h
    · exact semD h
    exact wp_of_yv (r := (Instr.buildSlice t len (parts.map fun (i, x) => (i, a.eval x))).run P w) (by simp [hop]) (by simp [execOp, hop]) (aBuildSlice_sound hi ht (parts_of he parts) h) hK
  | load t x =>
    simp only [hop] at h
    have hx := he x
    split at h
    · rename_i cs off hρ
      rw [hρ] at hx
      obtain ⟨d, hd, hk⟩ := opt_elim h
      obtain ⟨b, q, vs, hv, h1, h2, _, _⟩ := hx.ep_inv
      obtain ⟨v, hr, hR⟩ := ld_sound (P := P) hd h1 h2
      exact wp_of_run hi ht (by simp [hop]) (by simp [execOp, hop, hv, Instr.loadAt, Instr.sureAddr, hr]) hR hk hK
    · rename_i id off hρ
      rw [hρ] at hx
      split at h
      · rename_i cs ho
        obtain ⟨d, hd, hk⟩ := opt_elim h
        obtain ⟨_, hv⟩ := hx.ptr_inv
        obtain ⟨_, hp, vs, elem, ⟨fz, hg, hz⟩, hvs, hr⟩ := hi.obj _ _ ho
        obtain ⟨v, hr', hR⟩ := ld_sound (P := P) (b := g.blk id) (o := 0) (vs := fun j => vs.getD j undef) hd (fun j hj => by
          have hlt : j < vs.size := by rw [hvs]; exact hj
          rw [cell_of_get hg, Nat.zero_add, Array.getElem?_eq_getElem hlt, Array.getD_eq_getD_getElem?, Array.getElem?_eq_getElem hlt]; rfl) (fun j hj => hr j hj)
        rw [Nat.zero_add] at hr'
        exact wp_of_run hi ht (by simp [hop]) (by simp [execOp, hop, hv, Instr.loadAt, Instr.sureAddr, hr']) hR hk hK
      · exact h.elim
    · exact h.elim
  | store t x y =>
    simp only [hop] at h
    have hx := he x
    split at h
    · rename_i id off hρ
      rw [hρ] at hx
      split at h
      · rename_i cs ho
        obtain ⟨h1, h2, h3, hk⟩ := h
        obtain ⟨_, hv⟩ := hx.ptr_inv
        obtain ⟨w', hr, hI, hE⟩ := store_sound (P := P) hi ht ho (he y) h1 h2 h3
        refine ⟨fun f _ => trivial, ?_⟩
        rw [Oper.semAt_eq _ _ _ (by simp [hop])]
        have hrun : (execOp a.eval o).run P w = .ok .skip w' := by simp [execOp, hop, hv, Instr.storeAt, Instr.sureAddr, hr]
        rw [hrun]
        exact hK undef AV.un _ w' g (.v rfl) hI hE (ht.set ho _) rfl hk
      · exact h.elim
    · exact h.elim
  | nilCheck x =>
    simp only [hop] at h
    have hx := he x
    split at h
    · rename_i cs off hρ
      rw [hρ] at hx
      obtain ⟨b, q, vs, hv, _⟩ := hx.ep_inv
      rw [hv] at hx
      exact wp_of_run hi ht (by simp [hop]) (by simp [execOp, hop, hv]) hx h hK
    · rename_i id off hρ
      rw [hρ] at hx
      obtain ⟨_, hv⟩ := hx.ptr_inv
      rw [hv] at hx
      exact wp_of_run hi ht (by simp [hop]) (by simp [execOp, hop, hv]) hx h hK
    · rename_i f l1 l2 hρ
      rw [hρ] at hx
      cases hv : a.eval x with
      | func fn vf vc =>
        rw [hv] at hx
        have hx' := hx
        cases hx with
        | fn => exact wp_of_run hi ht (by simp [hop]) (by simp [execOp, hop, hv]) hx' h hK
      | _ => rw [hv] at hx; cases hx
    · rename_i id hρ
      rw [hρ] at hx
      cases hv : a.eval x with
      | func fn vf vc =>
        rw [hv] at hx
        have hx' := hx
        cases hx with
        | yl => exact wp_of_run hi ht (by simp [hop]) (by simp [execOp, hop, hv]) hx' h hK
      | _ => rw [hv] at hx; cases hx
    · exact h.elim
  | binOp op t x y yt =>
    simp only [hop] at h
    have hx := he x
    have hy := he y
    split at h
    · rename_i r hb
      have key : ∀ {d : AV} {u : Value}, R g w u d → (∀ z, binV op d.flatV z = some r ∨ binV op z d.flatV = some r → True) → True := fun _ _ => trivial
      have hxx : ∃ u, ρ x = .v u ∧ a.eval x = u := by
        cases hρ : ρ x with
        | v u => rw [hρ] at hx; exact ⟨u, rfl, hx.flat_eq.1⟩
        | _ => rw [hρ] at hb; simp [AV.flatV, binV] at hb
      have hyy : ∃ u, ρ y = .v u ∧ a.eval y = u := by
        cases hρ : ρ y with
        | v u => rw [hρ] at hy; exact ⟨u, rfl, hy.flat_eq.1⟩
        | _ =>
          rw [hρ] at hb
          obtain ⟨u, hu, _⟩ := hxx
          rw [hu] at hb
          cases u <;> simp [AV.flatV, binV] at hb
      obtain ⟨u, hu, hu'⟩ := hxx
      obtain ⟨v, hv, hv'⟩ := hyy
      rw [hu, hv] at hb
      obtain ⟨hr, hf⟩ := binV_sound (P := P) (op := op) (t := t) (ox := x) (oy := y) hb w
      simp only [AV.flatV] at hr
      refine wp_of_run hi ht (by simp [hop]) ?_ (.v hf) h hK
      simp only [execOp, hop, hu', hv', Sem.run_bind] at hr ⊢
      rw [hr]; rfl
    · split at h
      · obtain ⟨b, heq, hk⟩ := h
        have h1 := (heq g w _ _ hx hy x y).1
        refine wp_of_run hi ht (by simp [hop]) ?_ (.v rfl) hk hK
        simp only [execOp, hop, Sem.run_bind] at h1 ⊢
        rw [h1]; rfl
      · obtain ⟨b, heq, hk⟩ := h
        have h1 := (heq g w _ _ hx hy x y).2
        refine wp_of_run hi ht (by simp [hop]) ?_ (.v rfl) hk hK
        simp only [execOp, hop, Sem.run_bind] at h1 ⊢
        rw [h1]; rfl
      · exact h.elim
  | unOp op t x =>
    simp only [hop] at h
    have hx := he x
    split at h
    · rename_i u hρ
      rw [hρ] at hx
      obtain ⟨hv, _⟩ := hx.flat_eq
      obtain ⟨r, hr, hk⟩ := opt_elim h
      obtain ⟨h1, h2⟩ := unV_sound (P := P) hr w
      refine wp_of_run hi ht (by simp [hop]) ?_ (.v h2) hk hK
      simp only [execOp, hop, hv, Sem.run_bind, h1]; rfl
    · exact h.elim
  | convert src dst x =>
    simp only [hop] at h
    have hx := he x
    split at h
    · rename_i d q k' m h1 h2 hρ
      rw [hρ] at hx
      obtain ⟨hv, _⟩ := hx.flat_eq
      refine wp_of_run (v := .int q (q.wrap m)) hi ht (by simp [hop]) ?_ (.v rfl) h hK
      simp only [execOp, hop, hv, Sem.run_bind, convert, run_underlying h1, run_underlying h2, Result.andThen_ok, Conv.intToInt]
      cases d <;> rfl
    · rename_i d b h1 h2 hρ
      rw [hρ] at hx
      obtain ⟨hv, _⟩ := hx.flat_eq
      refine wp_of_run (v := .string b) hi ht (by simp [hop]) ?_ (.v rfl) h hK
      simp only [execOp, hop, hv, Sem.run_bind, convert, run_underlying h1, run_underlying h2, Result.andThen_ok]
      cases d <;> rfl
    · exact semD h
  | makeFunc fn first cap =>
    simp only [hop] at h
    split at h
    · rename_i f
      refine wp_of_run (v := .func (.func f) (first.map a.eval) (cap.map a.eval)) hi ht (by simp [hop]) (by simp [execOp, hop, Instr.makeFunc]) ?_ h hK
      have l1 := RL_map (g := g) (w := w) he first.toList
      have l2 := RL_map (g := g) (w := w) he cap.toList
      refine .fn (by simp) (by simp) (fun i hi => ?_) (fun i hi => ?_)
      · have := l1.2 i hi; rw [getD_toList]; simpa using this
      · have := l2.2 i hi; rw [getD_toList]; simpa using this
    · exact h.elim
  | makeSlice t l c =>
    simp only [hop] at h
    exact wp_of_yv (r := (Instr.makeSlice t (a.eval l) (a.eval c)).run P w) (by simp [hop]) (by simp [execOp, hop]) (aMakeSlice_sound hi ht (he l) (he c) h) hK
  | slice t x lo hi' mx =>
    simp only [hop] at h
    exact wp_of_yv (r := (Instr.sliceAt t (a.eval x) (lo.map a.eval) (hi'.map a.eval) (mx.map a.eval)).run P w) (by simp [hop]) (by simp [execOp, hop])
      (PV.yv hi ht (aSlice_sound (he x) (optRel he lo) (optRel he hi') (optRel he mx) h)) hK
  | fieldAddr t x f =>
    simp only [hop] at h
    have hx := he x
    split at h
    · rename_i fs hu
      obtain ⟨fd, hfd, h⟩ := opt_elim h
      obtain ⟨m, hm, hm0, h⟩ := opt_elim h
      split at h
      · rename_i cs off hρ
        rw [hρ] at hx
        obtain ⟨b, q, vs, hv, h1, h2, h3, h4⟩ := hx.ep_inv
        refine wp_of_run (v := .pointer (some ⟨b, q + (off + fd.offset), none⟩)) hi ht (by simp [hop]) ?_ (R.mk_ep h1 h2 h3 h4) h hK
        simp [execOp, hop, hv, Instr.fieldAt, Instr.sureAddr, run_underlying hu, hfd, fieldPlace, run_sizeOf hm, hm0, Addr.add_lit, Nat.add_assoc]
      · rename_i id off hρ
        rw [hρ] at hx
        obtain ⟨h1, hv⟩ := hx.ptr_inv
        refine wp_of_run (v := .pointer (some ⟨g.blk id, off + fd.offset, none⟩)) hi ht (by simp [hop]) ?_ (.ptr h1 rfl) h hK
        simp [execOp, hop, hv, Instr.fieldAt, Instr.sureAddr, run_underlying hu, hfd, fieldPlace, run_sizeOf hm, hm0, Addr.add_lit]
      · exact h.elim
    · exact h.elim
  | field t x f =>
    simp only [hop] at h
    have hx := he x
    split at h
    · rename_i fs cs hu hρ
      rw [hρ] at hx
      obtain ⟨fd, hfd, h⟩ := opt_elim h
      obtain ⟨d, hd, hk⟩ := opt_elim h
      cases hv : a.eval x with
      | agg xs =>
        rw [hv] at hx
        obtain ⟨v, hr, hR⟩ := part_sound (P := P) hd hx
        exact wp_of_run hi ht (by simp [hop]) (by simp [execOp, hop, hv, Instr.field, run_underlying hu, hfd, asAgg, hr]) hR hk hK
      | _ => rw [hv] at hx; cases hx
    · exact h.elim
  | indexAddr t x i =>
    simp only [hop] at h
    exact wp_of_yv (r := (Instr.indexAt t (a.eval x) (a.eval i)).run P w) (by simp [hop]) (by simp [execOp, hop]) (PV.yv hi ht (aIndexAddr_sound (he x) (he i) h)) hK
  | index t x i =>
    simp only [hop] at h
    exact wp_of_yv (r := (Instr.index t (a.eval x) (a.eval i)).run P w) (by simp [hop]) (by simp [execOp, hop]) (PV.yv hi ht (aIndex_sound (he x) (he i) h)) hK
  | extract x i =>
    simp only [hop] at h
    have hx := he x
    split at h
    · rename_i cs hρ
      rw [hρ] at hx
      obtain ⟨d, hd, hk⟩ := opt_elim h
      cases hv : a.eval x with
      | tuple vs =>
        rw [hv] at hx
        cases hx with
        | tup hs hr =>
          have hlt : i < cs.length := (List.getElem?_eq_some_iff.1 hd).1
          have := hr i hlt
          rw [List.getD_eq_getElem?_getD, hd, Array.getD_eq_getD_getElem?, Array.getElem?_eq_getElem (by omega)] at this
          exact wp_of_run hi ht (by simp [hop]) (by simp [execOp, hop, hv, Instr.extract, show i < vs.size by omega]) this hk hK
      | _ => rw [hv] at hx; cases hx
    · exact h.elim
  | call c =>
    simp only [hop] at h
    exact aCall_sound hi ht he hop h hK
  | _ => simp only [hop] at h; exact sem h

end
end Go.Av
