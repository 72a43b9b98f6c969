/- Part of the proof of a law of this seat: the texts AvMono AvRegion AvCode AvCalls AvDet AvSimp, in this order. -/
import Derived.Test.YtgbckhleokkhmaaB
import Derived.Still
import Derived.LoopNIn
/- The abstract evaluation of an operation: a weaker demand is met too; it looks at its operands alone. -/
namespace Go.Av
open Go
set_option linter.unusedVariables false
set_option linter.unusedSimpArgs false

theorem opt_mono {α : Type} {o : Option α} {k k' : α → Prop} (hk : ∀ a, k a → k' a) (h : opt o k) : opt o k' := by
  cases o with
  | none => exact h
  | some a => exact hk _ h

section
variable {P : Program} {s : AState} {k k' : AV → AState → Prop}

theorem ACalls_mono {f : FuncId} {args : List AV} (hk : ∀ d s, k d s → k' d s) (h : ACalls P f args s k) : ACalls P f args s k' :=
  ⟨h.1, fun T g w vs hi ht hr => (h.2 T g w vs hi ht hr).mono fun e w' ⟨v, d, s', g', a, b, c, d', e', f', g''⟩ => ⟨v, d, s', g', a, b, c, d', e', f', hk _ _ g''⟩⟩

theorem ASem_mono {ρ : Operand → AV} {o : Oper} (hk : ∀ d s, k d s → k' d s) (h : ASem P ρ o s k) : ASem P ρ o s k' :=
  ⟨h.1, h.2.1, fun T g w ev hi ht hr => let ⟨n, v, w', d, s', g', a, b, c, d', e', f', g'', h'⟩ := h.2.2 T g w ev hi ht hr; ⟨n, v, w', d, s', g', a, b, c, d', e', f', g'', hk _ _ h'⟩⟩

theorem aAppend_mono {t : TypeId} {a b : AV} (hk : ∀ d s, k d s → k' d s) (h : aAppend P t a b s k) : aAppend P t a b s k' := by
  unfold aAppend at h ⊢
  split at h <;> first | exact h.elim | skip
  split at h <;> first | exact h.elim | skip
  rename_i h1 _ _ h2
  obtain ⟨x1, x2, x3, h⟩ := h
  refine ⟨x1, x2, x3, ?_⟩
  obtain ⟨l2, hl, h⟩ := opt_elim h
  rw [hl, opt_some]
  split at h
  · exact ⟨fun e => hk _ _ (h.1 e), fun e => ⟨(h.2 e).1, hk _ _ (h.2 e).2⟩⟩
  · exact ⟨h.1, h.2.1, h.2.2.1, hk _ _ h.2.2.2⟩
  · exact ⟨fun e => hk _ _ (h.1 e), fun e => ⟨(h.2 e).1, (h.2 e).2.1, hk _ _ (h.2 e).2.2⟩⟩
  · exact ⟨h.1, hk _ _ h.2⟩
  · exact h.elim

theorem aSlice_mono {t : TypeId} {x : AV} {lo hi mx : Option AV} {k k' : AV → Prop} (hk : ∀ d, k d → k' d) (h : aSlice P t x lo hi mx k) : aSlice P t x lo hi mx k' := by
  unfold aSlice at h ⊢
  split at h
  · rename_i h1
    exact ⟨h.1, opt_mono (fun l h => opt_mono (fun q h => ⟨h.1, h.2.1, h.2.2.1, hk _ h.2.2.2⟩) h) h.2⟩
  · rename_i h1
    refine ⟨h.1, opt_mono (fun l h => opt_mono (fun q h => ?_) h) h.2⟩
    split at h
    · exact ⟨h.1, h.2.1, h.2.2.1, hk _ h.2.2.2⟩
    · exact ⟨h.1, opt_mono (fun m h => ⟨h.1, h.2.1, h.2.2.1, h.2.2.2.1, hk _ h.2.2.2.2⟩) h.2⟩
  · rename_i h1
    exact ⟨h.1, opt_mono (fun l h => opt_mono (fun q h => ⟨h.1, h.2.1, opt_mono (fun m h => ⟨h.1, h.2.1, hk _ h.2.2⟩) h.2.2⟩) h) h.2⟩
  · rename_i h1
    exact ⟨h.1, h.2.1, h.2.2.1, h.2.2.2.1, opt_mono (fun l h => ⟨h.1, h.2.1, hk _ h.2.2⟩) h.2.2.2.2⟩
  · exact h.elim

theorem aIndexAddr_mono {t : TypeId} {x i : AV} {k k' : AV → Prop} (hk : ∀ d, k d → k' d) (h : aIndexAddr P t x i k) : aIndexAddr P t x i k' := by
  unfold aIndexAddr at h ⊢
  split at h
  · rename_i h1; exact ⟨h.1, h.2.1, h.2.2.1, hk _ h.2.2.2⟩
  · rename_i h1; exact ⟨h.1, h.2.1, h.2.2.1, hk _ h.2.2.2⟩
  · rename_i h1; exact opt_mono (fun l h => ⟨h.1, h.2.1, hk _ h.2.2⟩) h
  · rename_i h1; exact opt_mono (fun l h => ⟨h.1, h.2.1, hk _ h.2.2⟩) h
  · exact h.elim

theorem aIndex_mono {t : TypeId} {x i : AV} {k k' : AV → Prop} (hk : ∀ d, k d → k' d) (h : aIndex P t x i k) : aIndex P t x i k' := by
  unfold aIndex at h ⊢
  split at h
  · rename_i h1; exact opt_mono (fun l h => ⟨h.1, h.2.1, opt_mono hk h.2.2⟩) h
  · rename_i h1; exact ⟨h.1, h.2.1, hk _ h.2.2⟩
  · exact h.elim

theorem aBuild_mono {t : TypeId} {parts : List (Nat × AV)} {k k' : AV → Prop} (hk : ∀ d, k d → k' d) (h : aBuild P t parts k) : aBuild P t parts k' := by
  unfold aBuild at h ⊢
  split at h
  · rename_i h1 h2; exact ⟨h.1, opt_mono (fun l h => hk _ h) h.2⟩
  · rename_i h1 h2; exact opt_mono (fun l h => opt_mono (fun l h => hk _ h) h) h
  · exact h.elim

theorem aBuildSlice_mono {t : TypeId} {len : Nat} {parts : List (Nat × AV)} {k k' : AV → Prop} (hk : ∀ d, k d → k' d) (h : aBuildSlice P t len parts k) : aBuildSlice P t len parts k' := by
  unfold aBuildSlice at h ⊢
  split at h
  · rename_i h1; exact opt_mono (fun l h => ⟨h.1, h.2.1, opt_mono (fun l h => ⟨h.1, opt_mono (fun l h => hk _ h) h.2⟩) h.2.2⟩) h
  · exact h.elim

theorem aMakeSlice_mono {imm : Bool} {t : TypeId} {l c : AV} (hk : ∀ d s, k d s → k' d s) (h : aMakeSlice P imm t l c s k) : aMakeSlice P imm t l c s k' := by
  unfold aMakeSlice at h ⊢
  split at h <;> first | exact h.elim | skip
  rename_i h1
  split at h <;> first | exact h.elim | skip
  rename_i h2
  obtain ⟨a, b, c, d, e, h⟩ := h
  refine ⟨a, b, c, d, e, opt_mono (fun l h => ⟨h.1, ?_⟩) h⟩
  cases imm
  · exact hk _ _ h.2
  · exact ⟨h.2.1, hk _ _ h.2.2⟩

theorem aBuiltin_mono {b : Builtin} {ts : Array TypeId} {args : List AV} (hk : ∀ d s, k d s → k' d s) (h : aBuiltin P b ts args s k) : aBuiltin P b ts args s k' := by
  unfold aBuiltin at h ⊢
  split at h
  · exact aLen_mono (fun d h => ⟨h.1, hk _ _ h.2⟩) h
  · exact aAppend_mono (fun d s h => ⟨h.1, h.2.1, hk _ _ h.2.2⟩) h
  · exact opt_mono (fun d h => hk _ _ h) h
  · exact opt_mono (fun d h => hk _ _ h) h
  · exact h.elim

theorem AYield_mono {id : Nat} {args : List AV} (hk : ∀ d s, k d s → k' d s) (h : AYield P id args s k) : AYield P id args s k' :=
  fun T g w vs hi ht hR => let ⟨r, h1, h2, h3⟩ := h T g w vs hi ht hR; ⟨r, h1, h2, fun n => (h3 n).mono fun e w' ⟨v, d, s', g', a, b, c, d', e', f, q⟩ => ⟨v, d, s', g', a, b, c, d', e', f, hk _ _ q⟩⟩

theorem aCall_mono {ρ : Operand → AV} {c : Call} (hk : ∀ d s, k d s → k' d s) (h : aCall P ρ c s k) : aCall P ρ c s k' := by
  unfold aCall at h ⊢
  split at h
  · rename_i h1; exact aBuiltin_mono hk h
  · revert h
    generalize ρ _ = v
    cases v with
    | fn g first cap => exact fun h => ACalls_mono hk h
    | yl id => exact fun h => AYield_mono hk h
    | _ => exact fun h => h.elim
  · exact h.elim

theorem aOp_mono {C : Cfg} {ρ : Operand → AV} {o : Oper} (hk : ∀ d s, k d s → k' d s) (h : aOp P C ρ o s k) : aOp P C ρ o s k' := by
  unfold aOp at h ⊢
  cases hop : o.op <;> simp only [hop] at h ⊢
  case move => exact hk _ _ h
  case assign => exact hk _ _ h
  case pick => split at h <;> first | exact h.elim | (rename_i h1; exact hk _ _ h)
  case alloc =>
    refine opt_mono (fun z h => ?_) h
    split at h
    · rename_i h1; rw [if_pos h1]; exact hk _ _ h
    · rename_i h1; rw [if_neg h1]; exact hk _ _ h
  case box =>
    refine ⟨h.1, ?_⟩
    have h := h.2
    split at h
    · rename_i h1; rw [if_pos h1]; exact hk _ _ h
    · rename_i h1; rw [if_neg h1]; exact hk _ _ h
  case build => exact aBuild_mono (fun d h => hk _ _ h) h
  case buildSlice =>
    split at h
    · rename_i h1; rw [if_pos h1]; exact let ⟨d, s', a, b⟩ := h; ⟨d, s', a, hk _ _ b⟩
    · rename_i h1; rw [if_neg h1]; exact aBuildSlice_mono (fun d h => hk _ _ h) h
  case load =>
    split at h
    · rename_i h1; exact opt_mono (fun d h => hk _ _ h) h
    · rename_i h1
      split at h
      · rename_i h2; exact opt_mono (fun d h => hk _ _ h) h
      · exact h.elim
    · exact h.elim
  case store =>
    split at h
    · rename_i h1
      split at h
      · rename_i h2; exact ⟨h.1, h.2.1, h.2.2.1, hk _ _ h.2.2.2⟩
      · exact h.elim
    · exact h.elim
  case nilCheck => split at h <;> first | exact h.elim | (rename_i h1; exact hk _ _ h)
  case binOp =>
    split at h
    · rename_i h1; exact hk _ _ h
    · rename_i h1
      split at h
      · exact let ⟨b, h2, h3⟩ := h; ⟨b, h2, hk _ _ h3⟩
      · exact let ⟨b, h2, h3⟩ := h; ⟨b, h2, hk _ _ h3⟩
      · exact h.elim
  case unOp => split at h <;> first | exact h.elim | (rename_i h1; exact opt_mono (fun d h => hk _ _ h) h)
  case convert =>
    split at h
    · rename_i h1 h2 h3; exact hk _ _ h
    · rename_i h1 h2 h3; exact hk _ _ h
    · exact let ⟨d, s', a, b⟩ := h; ⟨d, s', a, hk _ _ b⟩
  case makeFunc => split at h <;> first | exact h.elim | exact hk _ _ h
  case makeSlice => exact aMakeSlice_mono hk h
  case slice => exact aSlice_mono (fun d h => hk _ _ h) h
  case fieldAddr =>
    split at h
    · rename_i h1
      refine opt_mono (fun d h => opt_mono (fun d h => ⟨h.1, ?_⟩) h) h
      have h := h.2
      split at h <;> first | exact h.elim | (rename_i h1; exact hk _ _ h)
    · exact h.elim
  case field =>
    split at h
    · rename_i h1 h2
      exact opt_mono (fun d h => opt_mono (fun d h => hk _ _ h) h) h
    · exact h.elim
  case indexAddr => exact aIndexAddr_mono (fun d h => hk _ _ h) h
  case index => exact aIndex_mono (fun d h => hk _ _ h) h
  case extract => split at h <;> first | exact h.elim | (rename_i h1; exact opt_mono (fun d h => hk _ _ h) h)
  case call => exact aCall_mono hk h
  all_goals exact ASem_mono hk h

end

theorem ASem_congr {P : Program} {s : AState} {k : AV → AState → Prop} {ρ ρ' : Operand → AV} {o : Oper} (h : ∀ x, x ∈ o.op.operands → ρ x = ρ' x) (hh : ASem P ρ o s k) : ASem P ρ' o s k :=
  ⟨hh.1, hh.2.1, fun T g w ev hi ht hr => hh.2.2 T g w ev hi ht (fun x hx => by rw [h x hx]; exact hr x hx)⟩

theorem map_congr_arr {ρ ρ' : Operand → AV} {l : Array Operand} (h : ∀ x, x ∈ l → ρ x = ρ' x) : l.toList.map ρ = l.toList.map ρ' :=
  List.map_congr_left fun x hx => h x (by simpa using hx)

theorem aOp_congr {P : Program} {C : Cfg} {s : AState} {k : AV → AState → Prop} {ρ ρ' : Operand → AV} {o : Oper} (h : ∀ x, x ∈ o.op.operands → ρ x = ρ' x) (hh : aOp P C ρ o s k) : aOp P C ρ' o s k := by
  have hs : ASem P ρ o s k → ASem P ρ' o s k := ASem_congr h
  have hsd : ASemD P ρ o s k → ASemD P ρ' o s k := fun ⟨d, s', a, b⟩ => ⟨d, s', ASem_congr h a, b⟩
  unfold aOp at hh ⊢
  cases hop : o.op <;> simp only [hop] at hh ⊢ <;> rw [hop] at h
  case move x => rw [← h x (by simp [Op.operands])]; exact hh
  case assign x => rw [← h x (by simp [Op.operands])]; exact hh
  case pick c a b => rw [← h c (by simp [Op.operands]), ← h a (by simp [Op.operands]), ← h b (by simp [Op.operands])]; exact hh
  case alloc => exact hh
  case box t x => rw [← h x (by simp [Op.operands])]; exact hh
  case build t parts =>
    have : (parts.toList.map fun x => (x.1, ρ' x.2)) = parts.toList.map fun x => (x.1, ρ x.2) :=
      List.map_congr_left fun p hp => by rw [← h p.2 (by simp [Op.operands]; exact ⟨p.1, by simpa using hp⟩)]
    rw [this]; exact hh
  case buildSlice t len parts =>
    have : (parts.toList.map fun x => (x.1, ρ' x.2)) = parts.toList.map fun x => (x.1, ρ x.2) :=
      List.map_congr_left fun p hp => by rw [← h p.2 (by simp [Op.operands]; exact ⟨p.1, by simpa using hp⟩)]
    rw [this]
    split at hh
    · rename_i h1; rw [if_pos h1]; exact hsd hh
    · rename_i h1; rw [if_neg h1]; exact hh
  case load t x => rw [← h x (by simp [Op.operands])]; exact hh
  case store t x y => rw [← h x (by simp [Op.operands]), ← h y (by simp [Op.operands])]; exact hh
  case nilCheck x => rw [← h x (by simp [Op.operands])]; exact hh
  case binOp op t x y yt => rw [← h x (by simp [Op.operands]), ← h y (by simp [Op.operands])]; exact hh
  case unOp op t x => rw [← h x (by simp [Op.operands])]; exact hh
  case convert a b x =>
    rw [← h x (by simp [Op.operands])]
    split at hh
    · exact hh
    · exact hh
    · exact hsd hh
  case makeFunc fn first cap =>
    rw [← map_congr_arr (fun x hx => h x (by simp [Op.operands, hx]) : ∀ x, x ∈ first → _), ← map_congr_arr (fun x hx => h x (by simp [Op.operands, hx]) : ∀ x, x ∈ cap → _)]
    exact hh
  case makeSlice t l c => rw [← h l (by simp [Op.operands]), ← h c (by simp [Op.operands])]; exact hh
  case slice t x lo hi mx =>
    have e : ∀ q : Option Operand, (∀ y, y ∈ q.toArray → ρ y = ρ' y) → q.map ρ' = q.map ρ := by
      intro q hq
      cases q with
      | none => rfl
      | some y => simp [hq y (by simp)]
    rw [← h x (by simp [Op.operands]), e lo (fun y hy => h y (by simp [Op.operands] at hy ⊢; simp [hy])), e hi (fun y hy => h y (by simp [Op.operands] at hy ⊢; simp [hy])), e mx (fun y hy => h y (by simp [Op.operands] at hy ⊢; simp [hy]))]
    exact hh
  case fieldAddr t x f => rw [← h x (by simp [Op.operands])]; exact hh
  case field t x f => rw [← h x (by simp [Op.operands])]; exact hh
  case indexAddr t x i => rw [← h x (by simp [Op.operands]), ← h i (by simp [Op.operands])]; exact hh
  case index t x i => rw [← h x (by simp [Op.operands]), ← h i (by simp [Op.operands])]; exact hh
  case extract x i => rw [← h x (by simp [Op.operands])]; exact hh
  case call c =>
    have hargs : c.args.toList.map ρ' = c.args.toList.map ρ := (map_congr_arr (fun x hx => h x (by simp [Op.operands, Call.operands, hx]))).symm
    unfold aCall at hh ⊢
    rw [hargs]
    split at hh
    · rename_i h1; exact hh
    · rename_i f h1
      rw [← h f (by simp [Op.operands, Call.operands, h1])]
      exact hh
    · exact hh.elim
  all_goals exact hs hh

end Go.Av

/- Regions: the operations in their order; and in whatever order, where none of them changes anything. -/
namespace Go.Av
open Go
set_option linter.unusedVariables false
set_option linter.unusedSimpArgs false

/-- Is an operation wanted? -/
def Wants (ops : Array Oper) (o : Oper) (e : Env) : Option Bool :=
  match o.guard with
  | none => some true
  | some (j, want) =>
    match (ops[j]?).bind (·.dst) with
    | some d =>
      match e d with
      | .v (.bool b) => some (b == want)
      | .v (.tuple _) => some false
      | _ => none
    | none => none

def aGuard (ops : Array Oper) (o : Oper) (e : Env) (A B : Prop) : Prop :=
  match Wants ops o e with
  | some b => (b = true → A) ∧ (b = false → B)
  | none => False

/-- What comes behind an operation. -/
def after (F : Env → AState → Prop) (e : Env) (d : Option Nat) (v : AV) (s : AState) : Prop := F (e.set d v) s

/-- The operations, by their numbers. -/
def aOpsI (P : Program) (C : Cfg) (ops : Array Oper) (K : Env → AState → Prop) : List Nat → Env → AState → Prop
  | [], e, s => K e s
  | i :: rest, e, s =>
    match ops[i]? with
    | none => aOpsI P C ops K rest e s
    | some o => aGuard ops o e (aOp P C e.eval o s fun d s' => aOpsI P C ops K rest (e.set o.dst d) s') (aOpsI P C ops K rest (e.set o.dst AV.un) s)

/-- The operations as they stand. -/
def aOps (P : Program) (C : Cfg) (ops : Array Oper) (K : Env → AState → Prop) : List Oper → Env → AState → Prop
  | [], e, s => K e s
  | o :: rest, e, s => aGuard ops o e (aOp P C e.eval o s (after (aOps P C ops K rest) e o.dst)) (aOps P C ops K rest (e.set o.dst AV.un) s)

theorem aOpsI_of_aOps {P : Program} {C : Cfg} {ops : Array Oper} {K : Env → AState → Prop} : ∀ (l : List Oper) (k : Nat) (e : Env) (s : AState), (∀ j, l[j]? = ops[k + j]?) →
    aOps P C ops K l e s → aOpsI P C ops K (List.range' k l.length) e s
  | [], k, e, s, _, h => h
  | o :: l, k, e, s, hl, h => by
    have h0 : ops[k]? = some o := by simpa using (hl 0).symm
    have hl' : ∀ j, l[j]? = ops[k + 1 + j]? := fun j => by have := hl (j + 1); simpa [Nat.add_assoc, Nat.add_comm 1 j] using this
    simp only [List.length_cons, List.range'_succ, aOpsI, h0]
    simp only [aOps, aGuard] at h ⊢
    cases hw : Wants ops o e with
    | none => rw [hw] at h; exact h
    | some b =>
      rw [hw] at h
      exact ⟨fun hb => aOp_mono (fun d s' hd => aOpsI_of_aOps l (k + 1) _ _ hl' hd) (h.1 hb), fun hb => aOpsI_of_aOps l (k + 1) _ _ hl' (h.2 hb)⟩

/-! ### In whatever order -/

section
variable {P : Program} {C : Cfg} {ops : Array Oper} {s : AState} {md : Region.Mode}

/-- An operation that yields one value and changes nothing. -/
def quietA (P : Program) (C : Cfg) (s : AState) (o : Oper) (e : Env) (K : Env → Prop) : Prop :=
  ∃ d, aOp P C e.eval o s (fun d' s' => d' = d ∧ s' = s) ∧ K (e.set o.dst d)

/-- The operations as they stand, each quiet. -/
def aQ (P : Program) (C : Cfg) (ops : Array Oper) (s : AState) (K : Env → Prop) : List Oper → Env → Prop
  | [], e => K e
  | o :: rest, e => aGuard ops o e (quietA P C s o e (aQ P C ops s K rest)) (aQ P C ops s K rest (e.set o.dst AV.un))

def qA (P : Program) (C : Cfg) (ops : Array Oper) (s : AState) (i : Nat) (K : Env → Prop) (e : Env) : Prop :=
  match ops[i]? with
  | none => K e
  | some o => aGuard ops o e (quietA P C s o e K) (K (e.set o.dst AV.un))

def aAny (P : Program) (C : Cfg) (md : Region.Mode) (ops : Array Oper) (s : AState) (K : Env → Prop) : Nat → Array Bool → Env → Prop
  | 0, listed, e => Region.ready md ops listed = [] ∧ K e
  | fuel + 1, listed, e =>
    (Region.ready md ops listed = [] → K e) ∧ ∀ i ∈ Region.ready md ops listed, qA P C ops s i (aAny P C md ops s K fuel (listed.setIfInBounds i true)) e

theorem aGuard_mono {o : Oper} {e : Env} {A B A' B' : Prop} (hA : A → A') (hB : B → B') (h : aGuard ops o e A B) : aGuard ops o e A' B' := by
  unfold aGuard at h ⊢
  split at h
  · exact ⟨fun x => hA (h.1 x), fun x => hB (h.2 x)⟩
  · exact h

theorem qA_mono {i : Nat} {e : Env} {K K' : Env → Prop} (h : ∀ e, K e → K' e) (hh : qA P C ops s i K e) : qA P C ops s i K' e := by
  unfold qA at *
  split
  · rename_i h0; simp only [h0] at hh; exact h _ hh
  · rename_i o h0
    simp only [h0] at hh
    exact aGuard_mono (fun ⟨d, a, b⟩ => ⟨d, a, h _ b⟩) (fun x => h _ x) hh

/-- In this environment the operation leaves d. -/
def YieldsA (P : Program) (C : Cfg) (ops : Array Oper) (s : AState) (o : Oper) (d : AV) (e : Env) : Prop :=
  (Wants ops o e = some true ∧ aOp P C e.eval o s (fun d' s' => d' = d ∧ s' = s)) ∨ (Wants ops o e = some false ∧ d = AV.un)

theorem YieldsA.qA {i : Nat} {o : Oper} {d : AV} {e : Env} (hi : ops[i]? = some o) (hy : YieldsA P C ops s o d e) {K : Env → Prop} (h : K (e.set o.dst d)) : qA P C ops s i K e := by
  unfold Av.qA aGuard
  simp only [hi]
  rcases hy with ⟨hw, hv⟩ | ⟨hw, rfl⟩
  · rw [hw]; exact ⟨fun _ => ⟨d, hv, h⟩, fun h => by cases h⟩
  · rw [hw]; exact ⟨fun h => absurd h (by simp), fun _ => h⟩

theorem yieldsA_of_qA {i : Nat} {o : Oper} {e : Env} {K : Env → Prop} (hi : ops[i]? = some o) (h : qA P C ops s i K e) : ∃ d, YieldsA P C ops s o d e ∧ K (e.set o.dst d) := by
  unfold qA aGuard at h
  simp only [hi] at h
  cases hw : Wants ops o e with
  | none => rw [hw] at h; exact h.elim
  | some b =>
    rw [hw] at h
    cases b with
    | true => obtain ⟨d, h1, h2⟩ := h.1 rfl; exact ⟨d, .inl ⟨hw, h1⟩, h2⟩
    | false => exact ⟨AV.un, .inr ⟨hw, rfl⟩, h.2 rfl⟩

theorem Env.set_comm (e : Env) {x y : Option Tmp} (v u : AV) (h : ∀ d, x = some d → y ≠ some d) : (e.set x v).set y u = (e.set y u).set x v := by
  cases x with
  | none => rfl
  | some a =>
    cases y with
    | none => rfl
    | some b =>
      have hne : a ≠ b := fun e => h a rfl (by rw [e])
      funext t
      simp only [Env.set]
      by_cases h1 : t = b
      · subst h1; simp [Ne.symm hne]
      · simp [h1]

theorem Env.eval_set {e : Env} {dst : Option Tmp} {v : AV} {x : Operand} (h : ∀ d, dst = some d → x ≠ .tmp d) : (e.set dst v).eval x = e.eval x := by
  cases dst with
  | none => rfl
  | some d =>
    cases x with
    | tmp t =>
      have hne : t ≠ d := fun e => h d rfl (by rw [e])
      simp [Env.eval, Env.set, hne]
    | _ => rfl

theorem aOp_set {o : Oper} {e : Env} {dst : Option Tmp} {v : AV} {k : AV → AState → Prop} (h : ∀ d, dst = some d → d ∉ o.looksAt ops) : aOp P C (e.set dst v).eval o s k ↔ aOp P C e.eval o s k := by
  have key : ∀ x, x ∈ o.op.operands → (e.set dst v).eval x = e.eval x := fun x hx => Env.eval_set fun d hd heq => by
    refine h d hd ?_
    simp only [Oper.looksAt, List.mem_append, List.mem_filterMap]
    exact .inl ⟨x, by simpa using hx, by rw [heq]⟩
  exact ⟨aOp_congr key, aOp_congr fun x hx => (key x hx).symm⟩

theorem Wants_set {o : Oper} {e : Env} {dst : Option Tmp} {v : AV} (h : ∀ d, dst = some d → d ∉ o.looksAt ops) : Wants ops o (e.set dst v) = Wants ops o e := by
  unfold Wants
  cases hg : o.guard with
  | none => rfl
  | some p =>
    obtain ⟨j, want⟩ := p
    cases hd : (ops[j]?).bind (·.dst) with
    | none => simp only [hd]
    | some d =>
      simp only [hd]
      have : (e.set dst v) d = e d := by
        cases dst with
        | none => rfl
        | some d' =>
          have hne : d ≠ d' := fun heq => h d' rfl (by subst heq; simp [Oper.looksAt, hg, hd])
          simp [Env.set, hne]
      rw [this]

theorem YieldsA.of_set {o : Oper} {d : AV} {e : Env} {dst : Option Tmp} {u : AV} (h : ∀ t, dst = some t → t ∉ o.looksAt ops) (hy : YieldsA P C ops s o d e) : YieldsA P C ops s o d (e.set dst u) := by
  unfold YieldsA at *
  rw [Wants_set h, aOp_set h]
  exact hy

theorem qA_set {j : Nat} {oi oj : Oper} {v : AV} (hj : ops[j]? = some oj) (hap : oi.apart ops oj = true) {K : Env → Prop} {e : Env} (hy : YieldsA P C ops s oi v e) (h : qA P C ops s j K (e.set oi.dst v)) :
    qA P C ops s j (fun e' => YieldsA P C ops s oi v e' ∧ K (e'.set oi.dst v)) e := by
  obtain ⟨h1, h2, h3⟩ := Oper.apart_spec hap
  obtain ⟨u, hu, hK⟩ := yieldsA_of_qA hj h
  have hu' : YieldsA P C ops s oj u e := by
    unfold YieldsA at hu ⊢
    rwa [Wants_set h1, aOp_set h1] at hu
  refine hu'.qA hj ⟨hy.of_set h3, ?_⟩
  rw [← Env.set_comm e v u h2]
  exact hK

theorem aAny_first {K : Env → Prop} {i : Nat} {oi : Oper} {v : AV} (hi : ops[i]? = some oi) :
    ∀ (fuel : Nat) (listed : Array Bool) (e : Env),
      (∀ j oj, ops[j]? = some oj → j ≠ i → listed.getD j true = false → (∀ x ∈ oj.after, Region.binds md x = true → x.on ≠ i) → oi.apart ops oj = true) →
      i ∈ Region.ready md ops listed → YieldsA P C ops s oi v e →
      aAny P C md ops s K fuel (listed.setIfInBounds i true) (e.set oi.dst v) → aAny P C md ops s K (fuel + 1) listed e := by
  intro fuel
  induction fuel with
  | zero =>
    intro listed e _ hr hy H
    refine ⟨fun h => (by rw [h] at hr; cases hr), fun j hj => ?_⟩
    by_cases hji : j = i
    · subst hji; exact hy.qA hi H
    · have := ready_mono hj hji
      rw [H.1] at this
      cases this
  | succ fuel ih =>
    intro listed e hfree hr hy H
    refine ⟨fun h => (by rw [h] at hr; cases hr), fun j hj => ?_⟩
    by_cases hji : j = i
    · subst hji; exact hy.qA hi H
    · have h1 := H.2 j (ready_mono hj hji)
      obtain ⟨hjun, oj, hoj, hall⟩ := mem_ready.1 hj
      have hnot : ∀ x ∈ oj.after, Region.binds md x = true → x.on ≠ i := fun x he hb heq => by
        have h1 := hall x he hb
        have h0 := (mem_ready.1 hr).1
        rw [heq] at h1
        rcases Nat.lt_or_ge i listed.size with h' | h'
        · simp [h'] at h0 h1; rw [h0] at h1; cases h1
        · simp [Array.getElem?_eq_none h'] at h1
      have h2 := qA_set hoj (hfree j oj hoj hji hjun hnot) hy h1
      have hfree' : ∀ k ok, ops[k]? = some ok → k ≠ i → (listed.setIfInBounds j true).getD k true = false →
          (∀ x ∈ ok.after, Region.binds md x = true → x.on ≠ i) → oi.apart ops ok = true := fun k ok hk hki hun hno => by
        refine hfree k ok hk hki ?_ hno
        by_cases hjk : j = k
        · subst hjk; exact hjun
        · rw [getD_set_ne true hjk] at hun; exact hun
      refine qA_mono (fun e' h3 => ih (listed.setIfInBounds j true) e' hfree' (ready_mono hr (Ne.symm hji)) h3.1 ?_) h2
      rw [Array.setIfInBounds_comm _ _ hji]
      exact h3.2

theorem aAny_lex {K : Env → Prop} : ∀ (l : List Oper) (k : Nat) (listed : Array Bool) (e : Env), (∀ j, l[j]? = ops[k + j]?) →
    Region.lexFrom md ops l.length k listed = true → aQ P C ops s K l e → aAny P C md ops s K l.length listed e
  | [], _, _, _, _, hB, h => ⟨by simpa [Region.lexFrom] using hB, h⟩
  | o :: l, k, listed, e, hl, hB, h => by
    have h0 : ops[k]? = some o := by simpa using (hl 0).symm
    simp only [List.length_cons, Region.lexFrom, Bool.and_eq_true] at hB
    obtain ⟨⟨hr, hf⟩, hB'⟩ := hB
    have hst : qA P C ops s k (aQ P C ops s K l) e := by unfold qA; simp only [h0]; exact h
    obtain ⟨v, hy, hK⟩ := yieldsA_of_qA h0 hst
    exact aAny_first h0 l.length listed e (Region.free_spec h0 hf) (by simpa using hr) hy
      (aAny_lex l (k + 1) _ _ (fun j => by have := hl (j + 1); simpa [Nat.add_assoc, Nat.add_comm 1 j] using this) hB' hK)

/-- Whatever order comes: the operations by their numbers. -/
theorem aAny_sound {K : Env → AState → Prop} : ∀ (fuel t : Nat) (listed : Array Bool) (e : Env), aAny P C md ops s (fun e' => K e' s) fuel listed e →
    aOpsI P C ops K (Region.linearise.go md ops fuel t listed []) e s := by
  intro fuel
  induction fuel with
  | zero => intro t listed e h; simpa [Region.linearise.go, aOpsI] using h.2
  | succ fuel ih =>
    intro t listed e h
    obtain ⟨h₀, h₁⟩ := h
    simp only [Region.linearise.go]
    change aOpsI P C ops K (match (Region.ready md ops listed)[t % (Region.ready md ops listed).length]? with
      | some i => Region.linearise.go md ops fuel (t / (Region.ready md ops listed).length) (listed.setIfInBounds i true) [i]
      | none => [].reverse) e s
    cases hi : (Region.ready md ops listed)[t % (Region.ready md ops listed).length]? with
    | none =>
      have hnil : Region.ready md ops listed = [] := by
        cases hr : Region.ready md ops listed with
        | nil => rfl
        | cons x xs =>
          rw [hr] at hi
          have hlt : t % (x :: xs).length < (x :: xs).length := Nat.mod_lt _ (by simp)
          simp at hi
          simp at hlt
          omega
      simpa [aOpsI] using h₀ hnil
    | some i =>
      simp only []
      rw [linearise_go_acc, List.reverse_singleton, List.singleton_append]
      have h2 := h₁ i (List.mem_of_getElem? hi)
      simp only [aOpsI]
      unfold qA at h2
      split
      · rename_i h0
        simp only [h0] at h2
        exact ih _ _ _ h2
      · rename_i o h0
        simp only [h0] at h2
        refine aGuard_mono (fun ⟨d, h3, h4⟩ => ?_) (fun h3 => ih _ _ _ h3) h2
        exact aOp_mono (fun d' s' ⟨e1, e2⟩ => by subst e1; subst e2; exact ih _ _ _ h4) h3

end

/-- A region whose order is drawn. -/
def aDraw (P : Program) (C : Cfg) (ops : Array Oper) (K : Env → AState → Prop) (e : Env) (s : AState) : Prop :=
  ∀ t, aOpsI P C ops K (Region.schedule (P.follows .mixedOrders) ops t) e s

/-- One walk of the order in which they stand serves every order. -/
theorem aDraw_quiet {P : Program} {C : Cfg} {ops : Array Oper} {K : Env → AState → Prop} {e : Env} {s : AState} (hm : P.follows .mixedOrders = true) (hB : Region.lexB .any ops = true)
    (h : aQ P C ops s (fun e' => K e' s) ops.toList e) : aDraw P C ops K e s := by
  simp only [Region.lexB, Bool.and_eq_true] at hB
  intro t
  simp only [Region.schedule, hm, Bool.true_or, if_true]
  have := aAny_lex (P := P) (C := C) (s := s) (md := .any) (K := fun e' => K e' s) ops.toList 0 (Array.replicate ops.size false) e (by simp) (by simpa using hB.2) h
  exact aAny_sound ops.size t _ e (by simpa using this)

end Go.Av

/- The code: what a body comes to on abstract values, and that the machine does it. -/
namespace Go.Av
open Go
set_option linter.unusedVariables false
set_option linter.unusedSimpArgs false

abbrev Post := Exit → Env → AState → Prop

/-- A frame at work, read abstractly. T: what may be touched; (g0, w0): how the body began; n: its temporaries. -/
structure Rel (T : Nat → Prop) (g0 : Gh) (w0 : World) (n : Nat) (e : Env) (s : AState) (g : Gh) (w : World) (a : Act) : Prop where
  size : a.tmps.size = n
  env : ∀ t, R g w (a.tmps.getD t undef) (e t)
  defs : a.defers = s.base.marks.map fun id => { target := .collected (g.blk id), args := #[] }
  mlt : ∀ id ∈ s.base.marks, id < g.next
  inv : Inv g s w
  ev : Ev T g0 w0 g w
  tok : TOk T s
  lo : s.base.lo = g0.next

def Lift (T : Nat → Prop) (g0 : Gh) (w0 : World) (n : Nat) (Q : Post) : Exit → Act → World → Prop :=
  fun ex a w => ∃ e s g, Rel T g0 w0 n e s g w a ∧ Q ex e s

/-- What is known may be told otherwise, or forgotten. -/
def AEnt (e : Env) (s : AState) (e' : Env) (s' : AState) : Prop :=
  ∀ T g0 w0 n g w a, Rel T g0 w0 n e s g w a → ∃ g', Rel T g0 w0 n e' s' g' w a

theorem AEnt.refl (e : Env) (s : AState) : AEnt e s e s := fun _ _ _ _ g _ _ h => ⟨g, h⟩
theorem AEnt.trans {e e' e'' : Env} {s s' s'' : AState} (h : AEnt e s e' s') (k : AEnt e' s' e'' s'') : AEnt e s e'' s'' :=
  fun T g0 w0 n g w a hr => let ⟨g', h'⟩ := h T g0 w0 n g w a hr; k T g0 w0 n g' w a h'

/-- The end of a round: on to the next one, or out. -/
def roundQ {ι : Type} (pre : ι → Prop) (E : ι → Env) (S : ι → AState) (μ : ι → Nat) (Q : Post) (i : ι) : Post := fun ex e' s' =>
  match ex with
  | .normal => ∃ j, pre j ∧ μ j < μ i ∧ AEnt e' s' (E j) (S j)
  | ex => Q ex e' s'

def ALoop (F : Post → Env → AState → Prop) (Q : Post) (e : Env) (s : AState) : Prop :=
  ∃ (ι : Type) (pre : ι → Prop) (E : ι → Env) (S : ι → AState) (μ : ι → Nat) (i0 : ι), pre i0 ∧ AEnt e s (E i0) (S i0) ∧
    ∀ i, pre i → F (roundQ pre E S μ Q i) (E i) (S i)

def opsBel (n : Nat) (ops : Array Oper) : Bool := ops.toList.all fun o => o.dst.all (· < n)

def codeBel (n : Nat) : Code → Bool
  | .region _ ops _ => opsBel n ops
  | .seq a b => codeBel n a && codeBel n b
  | .cond _ t f => codeBel n t && codeBel n f
  | .block _ b => codeBel n b
  | .loop b => codeBel n b
  | .scope b => codeBel n b
  | .rangeFunc _ ps a b => ps.toList.all (· < n) && codeBel n a && codeBel n b
  | _ => true

/-- What a piece of code without a law here comes to, by the machine's own word. -/
def ACode (P : Program) (c : Code) (e : Env) (s : AState) (Q : Post) : Prop :=
  ∀ m T g0 w0 n g w a, codeBel n c = true → Rel T g0 w0 n e s g w a → c.wpIn (Fr none) m P (Lift T g0 w0 n Q) a w

def inBl (id : Nat) (Q : Post) : Post := fun ex e s =>
  match ex with
  | .exit i => if i = id then Q .normal e s else Q (.exit i) e s
  | ex => Q ex e s

def thenQ (F : Env → AState → Prop) (Q : Post) : Post := fun ex e s =>
  match ex with
  | .normal => F e s
  | ex => Q ex e s

def noGo (Q : Post) : Post := fun ex e s =>
  match ex with
  | .goto _ => False
  | ex => Q ex e s

theorem stepR_scope' {P : Program} {b : Frame} {a : Act} {k : List Item} {cs : List Frame} {w : World} {c : Code} : step P (lone (b.atR a (.code (.scope c) :: k)) cs w) = .next (lone (b.atR a (.code c :: .inScope c :: k)) cs w) :=
  step_lone_go (by simp [stepG, stepG.exec, Frame.atR])
theorem stepR_inScope' {P : Program} {b : Frame} {a : Act} {k : List Item} {cs : List Frame} {w : World} {c : Code} : step P (lone (b.atR a (.inScope c :: k)) cs w) = .next (lone (b.atR a k) cs w) :=
  step_lone_go (by simp [stepG, stepG.exec, Frame.atR])

def noGotoM (Q : Exit → Act → World → Prop) : Exit → Act → World → Prop
  | .goto _, _, _ => False
  | e, a, w => Q e a w

/-- A scope without jumps. -/
theorem wpIn_scope {F : Fence} {n : Nat} {P : Program} {Q : Exit → Act → World → Prop} {a : Act} {w : World} {c : Code} (h : c.wpIn F n P (noGotoM Q) a w) : (Code.scope c).wpIn F n P Q a w := by
  intro b k cs hro hb hr
  have h0 : (lone (b.atR a (.code (.scope c) :: k)) cs w).fenced P F := fenced_calm hb hr rfl
  obtain ⟨e, a₁, w₁, hq, harr⟩ := h b (.inScope c :: k) cs hro hb hr
  cases e with
  | normal => exact ⟨.normal, a₁, w₁, hq, .head h0 stepR_scope' (StepsIn.trans harr (.one (fenced_calm hb hr rfl) stepR_inScope'))⟩
  | exit id =>
    have hx : exitTo id (.inScope c :: k) = exitTo id k := by simp [exitTo]
    exact ⟨.exit id, a₁, w₁, hq, fun k' hk => .head h0 stepR_scope' (harr.1 k' (by rw [hx]; exact hk)),
      fun hr' hk => let ⟨k₁, h1, h2⟩ := harr.2 hr' (by rw [hx]; exact hk); ⟨k₁, h1, .head h0 stepR_scope' h2⟩⟩
  | goto l => exact hq.elim
  | ret => exact ⟨_, a₁, w₁, hq, .of_steps (.one h0 stepR_scope') harr⟩
  | panic ch => exact ⟨_, a₁, w₁, hq, .of_steps (.one h0 stepR_scope') harr⟩
  | outgrown => exact ⟨_, a₁, w₁, hq, .of_steps (.one h0 stepR_scope') harr⟩

def condK (v : AV) (A B : Env → AState → Prop) (e : Env) (s : AState) : Prop :=
  match v with
  | .v (.bool b) => (b = true → A e s) ∧ (b = false → B e s)
  | _ => False

def aeval (P : Program) (C : Cfg) : Code → Post → Env → AState → Prop
  | .skip, Q, e, s => Q .normal e s
  | .label _, Q, e, s => Q .normal e s
  | .region _ ops draw, Q, e, s => if draw then aDraw P C ops (Q .normal) e s else aOps P C ops (Q .normal) ops.toList e s
  | .seq a b, Q, e, s => aeval P C a (thenQ (aeval P C b Q) Q) e s
  | .cond c t f, Q, e, s => condK (e.eval c) (aeval P C t Q) (aeval P C f Q) e s
  | .block id b, Q, e, s => aeval P C b (inBl id Q) e s
  | .loop b, Q, e, s => ALoop (aeval P C b) Q e s
  | .exit id, Q, e, s => Q (.exit id) e s
  | .goto l, Q, e, s => Q (.goto l) e s
  | .ret, Q, e, s => Q .ret e s
  | .rangeFunc f ps a b, Q, e, s => ACode P (.rangeFunc f ps a b) e s Q
  | .scope b, Q, e, s => aeval P C b (noGo Q) e s
  | .refuse _, _, _, _ => False

section
variable {P : Program} {C : Cfg} {T : Nat → Prop} {g0 : Gh} {w0 : World} {n : Nat} {ro : Option Nat} {m : Nat}

theorem R.undef_un (g : Gh) (w : World) : R g w undef AV.un := .v rfl

theorem Rel.eval {e : Env} {s : AState} {g : Gh} {w : World} {a : Act} (h : Rel T g0 w0 n e s g w a) (x : Operand) : R g w (a.eval x) (e.eval x) := by
  cases x with
  | tmp t => exact h.env t
  | const v =>
    simp only [Act.eval, Env.eval, ofConst]
    split
    · rename_i hf; exact .v hf
    · exact .any
  | global i => exact .any
  | func f => exact .fn rfl rfl (fun i hi => by simp at hi) (fun i hi => by simp at hi)

theorem Rel.set {e : Env} {s s' : AState} {g g' : Gh} {w w' : World} {a : Act} (h : Rel T g0 w0 n e s g w a) {dst : Option Tmp} (hd : dst.all (· < n) = true) {v : Value} {d : AV}
    (hR : R g' w' v d) (hI : Inv g' s' w') (hE : Ev T g w g' w') (hT : TOk T s') (hB : s'.base = s.base) : Rel T g0 w0 n (e.set dst d) s' g' w' (a.put dst v) := by
  have hother : ∀ t, R g' w' (a.tmps.getD t undef) (e t) := fun t => (h.env t).ev hE
  refine ⟨?_, fun t => ?_, ?_, fun id hid => ?_, hI, h.ev.trans hE, hT, by rw [hB]; exact h.lo⟩
  · cases dst with
    | none => exact h.size
    | some d => simp only [Act.put, Array.size_setIfInBounds]; exact h.size
  · cases dst with
    | none => exact hother t
    | some q =>
      simp only [Option.all_some, decide_eq_true_eq] at hd
      simp only [Act.put, Env.set]
      by_cases ht : t = q
      · subst ht
        rw [if_pos rfl, Array.getD_eq_getD_getElem?, Array.getElem?_setIfInBounds_self_of_lt (by rw [h.size]; exact hd)]
        exact hR
      · rw [if_neg ht, Array.getD_eq_getD_getElem?, Array.getElem?_setIfInBounds_ne (Ne.symm ht), ← Array.getD_eq_getD_getElem?]
        exact hother t
  · have : (a.put dst v).defers = a.defers := by cases dst <;> rfl
    rw [this, h.defs, hB]
    apply List.map_congr_left
    intro id hid
    rw [hE.blk id (h.mlt id hid)]
  · rw [hB] at hid; exact Nat.lt_of_lt_of_le (h.mlt id hid) hE.next

theorem Rel.drew {e : Env} {s : AState} {g : Gh} {w : World} {a : Act} (h : Rel T g0 w0 n e s g w a) : Rel T g0 w0 n e s g w.drew a :=
  ⟨h.size, fun t => (h.env t).ev (Ev.drew (T := fun _ => False) g w), h.defs, h.mlt, h.inv.drew, h.ev.trans (Ev.drew g w), h.tok, h.lo⟩

theorem wants_yielded {ops : Array Oper} {o : Oper} {e : Env} {s : AState} {g : Gh} {w : World} {a : Act} {b : Bool} (h : Rel T g0 w0 n e s g w a) (hw : Wants ops o e = some b) :
    Region.wanted o (yielded ops a.tmps) = b := by
  unfold Wants at hw
  unfold Region.wanted
  split at hw
  · rename_i hg
    simp only [Option.some.injEq] at hw
    rw [hg]; exact hw
  · rename_i j want hg
    rw [hg]
    split at hw
    · rename_i d hd
      split at hw
      · rename_i c hc
        simp only [Option.some.injEq] at hw
        have hR := h.env d
        rw [hc] at hR
        obtain ⟨hv, _⟩ := hR.flat_eq
        have hlt : d < a.tmps.size := by
          rcases Nat.lt_or_ge d a.tmps.size with h' | h'
          · exact h'
          · rw [Array.getD_eq_getD_getElem?, Array.getElem?_eq_none h'] at hv; cases hv
        rw [Array.getD_eq_getD_getElem?, Array.getElem?_eq_getElem hlt] at hv
        simp only [Option.getD_some] at hv
        have : yielded ops a.tmps j = some c := by
          unfold yielded
          rw [hd]
          simp only [Option.bind_some, Array.getElem?_eq_getElem hlt, hv]
        simp only [this, ← hw]
        cases c <;> cases want <;> rfl
      · rename_i vs hc
        have hR := h.env d
        rw [hc] at hR
        obtain ⟨hv, _⟩ := hR.flat_eq
        rw [Array.getD_eq_getD_getElem?] at hv
        have : yielded ops a.tmps j = none := by
          unfold yielded
          rw [hd]
          simp only [Option.bind_some]
          cases hq : a.tmps[d]? with
          | none => rfl
          | some y => rw [hq] at hv; simp only [Option.getD_some] at hv; rw [hv]
        simp only [Option.some.injEq] at hw
        simp only [this, ← hw]
        rfl
      · cases hw
    · cases hw

theorem aOpsI_sound {ops : Array Oper} {Q : Post} (hb : opsBel n ops = true) : ∀ (l : List Nat) (e : Env) (s : AState) (g : Gh) (w : World) (a : Act), aOpsI P C ops (Q .normal) l e s → Rel T g0 w0 n e s g w a →
    wpOpsIn (Fr ro) m P ops (Lift T g0 w0 n Q) l a w
  | [], e, s, g, w, a, h, hr => ⟨e, s, g, hr, h⟩
  | i :: rest, e, s, g, w, a, h, hr => by
    simp only [aOpsI] at h
    simp only [wpOpsIn]
    split at h
    · rename_i h0
      rw [h0]
      exact aOpsI_sound hb rest e s g w a h hr
    · rename_i o h0
      rw [h0]
      simp only
      have hdst : o.dst.all (· < n) = true := by
        simp only [opsBel, List.all_eq_true] at hb
        exact hb o (by have := Array.mem_of_getElem? h0; simpa using this)
      unfold aGuard at h
      cases hw : Wants ops o e with
      | none => rw [hw] at h; exact h.elim
      | some b =>
        rw [hw] at h
        have hy := wants_yielded hr hw
        cases b with
        | true =>
          rw [if_pos hy]
          exact aOp_sound hr.inv hr.tok hr.eval (h.1 rfl) fun v d s' w' g' hR hI hE hT hB hk => aOpsI_sound hb rest _ _ _ _ _ hk (hr.set hdst hR hI hE hT hB)
        | false =>
          rw [if_neg (by rw [hy]; simp)]
          exact ⟨fun f _ => trivial, aOpsI_sound hb rest _ _ _ _ _ (h.2 rfl) (hr.set hdst (R.undef_un g w) hr.inv (Ev.refl T g w) hr.tok rfl)⟩

theorem lift_then {F : Env → AState → Prop} {Q : Post} {K : Act → World → Prop} (hF : ∀ e s g w a, Rel T g0 w0 n e s g w a → F e s → K a w) (ex : Exit) (a : Act) (w : World)
    (h : Lift T g0 w0 n (thenQ F Q) ex a w) : Exit.then K (Lift T g0 w0 n Q) ex a w := by
  obtain ⟨e, s, g, hr, hq⟩ := h
  cases ex with
  | normal => exact hF e s g w a hr hq
  | _ => exact ⟨e, s, g, hr, hq⟩

/-- Holds no range over a function. -/
def noRF : Code → Bool
  | .seq a b => noRF a && noRF b
  | .cond _ t f => noRF t && noRF f
  | .block _ b => noRF b
  | .loop b => noRF b
  | .scope b => noRF b
  | .rangeFunc _ _ _ _ => false
  | _ => true

theorem aeval_sound : ∀ (c : Code), (ro = none ∨ noRF c = true) → codeBel n c = true → ∀ (e : Env) (s : AState) (Q : Post) (g : Gh) (w : World) (a : Act), aeval P C c Q e s → Rel T g0 w0 n e s g w a →
    c.wpIn (Fr ro) m P (Lift T g0 w0 n Q) a w
  | .skip, _, _, e, s, Q, g, w, a, h, hr => wpIn_skip ⟨e, s, g, hr, h⟩
  | .label _, _, _, e, s, Q, g, w, a, h, hr => wpIn_label ⟨e, s, g, hr, h⟩
  | .exit id, _, _, e, s, Q, g, w, a, h, hr => wpIn_exit ⟨e, s, g, hr, h⟩
  | .goto l, _, _, e, s, Q, g, w, a, h, hr => wpIn_goto ⟨e, s, g, hr, h⟩
  | .ret, _, _, e, s, Q, g, w, a, h, hr => wpIn_ret ⟨e, s, g, hr, h⟩
  | .region id ops draw, hf, hb, e, s, Q, g, w, a, h, hr => by
    simp only [aeval] at h
    cases draw with
    | false =>
      simp only [Bool.false_eq_true, if_false] at h
      refine wpIn_region ?_
      have := aOpsI_of_aOps ops.toList 0 e s (by simp) h
      rw [List.range_eq_range']
      rw [Array.length_toList] at this
      exact aOpsI_sound hb _ e s g w a this hr
    | true =>
      simp only [if_true] at h
      refine wpIn_region_draw fun t => ?_
      exact aOpsI_sound hb _ e s g w.drew a (h t) hr.drew
  | .seq x y, hf, hb, e, s, Q, g, w, a, h, hr => by
    simp only [codeBel, Bool.and_eq_true] at hb
    simp only [noRF, Bool.and_eq_true] at hf
    refine wpIn_seq (wpIn_mono (aeval_sound x (hf.imp id (·.1)) hb.1 e s _ g w a h hr) fun ex a' w' hq => ?_)
    exact lift_then (fun e' s' g' w'' a'' hr' hF => aeval_sound y (hf.imp id (·.2)) hb.2 e' s' Q g' w'' a'' hF hr') ex a' w' hq
  | .cond c t f, hf, hb, e, s, Q, g, w, a, h, hr => by
    simp only [codeBel, Bool.and_eq_true] at hb
    simp only [noRF, Bool.and_eq_true] at hf
    simp only [aeval, condK] at h
    split at h
    · rename_i b hc
      have hv := hr.eval c
      rw [hc] at hv
      obtain ⟨hv, _⟩ := hv.flat_eq
      refine wpIn_cond hv ?_
      cases b with
      | true => exact aeval_sound t (hf.imp id (·.1)) hb.1 e s Q g w a (h.1 rfl) hr
      | false => exact aeval_sound f (hf.imp id (·.2)) hb.2 e s Q g w a (h.2 rfl) hr
    · exact h.elim
  | .block id b, hf, hb, e, s, Q, g, w, a, h, hr => by
    refine wpIn_block (wpIn_mono (aeval_sound b hf hb e s _ g w a h hr) fun ex a' w' hq => ?_)
    obtain ⟨e', s', g', hr', hq⟩ := hq
    cases ex with
    | exit i =>
      simp only [inBl] at hq
      simp only [Exit.inBlock]
      split at hq
      · rename_i hi; rw [if_pos hi]; exact ⟨e', s', g', hr', hq⟩
      · rename_i hi; rw [if_neg hi]; exact ⟨e', s', g', hr', hq⟩
    | _ => exact ⟨e', s', g', hr', hq⟩
  | .loop b, hf, hb, e, s, Q, g, w, a, h, hr => by
    obtain ⟨ι, pre, E, S, μ, i0, hp, hent, hround⟩ := h
    have key : ∀ (k : Nat) (i : ι) (g : Gh) (w : World) (a : Act), μ i < k → pre i → Rel T g0 w0 n (E i) (S i) g w a → Code.roundsIn (Fr ro) m P b (Lift T g0 w0 n Q) k a w := by
      intro k
      induction k with
      | zero => intro i g w a h; omega
      | succ k ih =>
        intro i g w a hlt hpi hri
        refine wpIn_mono (aeval_sound b hf hb (E i) (S i) _ g w a (hround i hpi) hri) fun ex a' w' hq => ?_
        obtain ⟨e', s', g', hr', hq⟩ := hq
        cases ex with
        | normal =>
          obtain ⟨j, hpj, hlj, hentj⟩ := hq
          obtain ⟨g'', hr''⟩ := hentj T g0 w0 n g' w' a' hr'
          exact ih j g'' w' a' (by omega) hpj hr''
        | _ => exact ⟨e', s', g', hr', hq⟩
    obtain ⟨g', hr'⟩ := hent T g0 w0 n g w a hr
    exact wpIn_loop_rounds (μ i0 + 1) (key _ i0 g' w a (by omega) hp hr')
  | .rangeFunc f ps x y, hf, hb, e, s, Q, g, w, a, h, hr => by
    rcases hf with rfl | hf
    · exact h m T g0 w0 n g w a hb hr
    · cases hf
  | .scope b, hf, hb, e, s, Q, g, w, a, h, hr => by
    refine wpIn_scope (wpIn_mono (aeval_sound b hf hb e s _ g w a h hr) fun ex a' w' hq => ?_)
    obtain ⟨e', s', g', hr', hq⟩ := hq
    cases ex with
    | goto l => exact hq.elim
    | _ => exact ⟨e', s', g', hr', hq⟩
  | .refuse _, _, _, _, _, _, _, _, _, h, _ => h.elim

end
end Go.Av

/- Calls: a function's contract out of its body; what is forgotten on the way. -/
namespace Go.Av
open Go
set_option linter.unusedVariables false
set_option linter.unusedSimpArgs false

/-! ### What names nothing beyond n -/
theorem Bel_v {n : Nat} {x : Value} : Bel n (.v x) ↔ True := ⟨fun _ => trivial, fun _ => .v x⟩
theorem Bel_agg {n : Nat} {l : List AV} : Bel n (.agg l) ↔ ∀ c ∈ l, Bel n c := ⟨fun h => by cases h with | agg h => exact h, .agg⟩
theorem Bel_tup {n : Nat} {l : List AV} : Bel n (.tup l) ↔ ∀ c ∈ l, Bel n c := ⟨fun h => by cases h with | tup h => exact h, .tup⟩
theorem Bel_sl {n es : Nat} {l : List (List AV)} {k : Tok} : Bel n (.sl es l k) ↔ (∀ x ∈ l, ∀ c ∈ x, Bel n c) ∧ tokBel n k := ⟨fun h => by cases h with | sl h h' => exact ⟨h, h'⟩, fun h => .sl h.1 h.2⟩
theorem Bel_ep {n off : Nat} {l : List AV} : Bel n (.ep l off) ↔ ∀ c ∈ l, Bel n c := ⟨fun h => by cases h with | ep h => exact h, .ep⟩
theorem Bel_ptr {n id off : Nat} : Bel n (.ptr id off) ↔ id < n := ⟨fun h => by cases h with | ptr h => exact h, .ptr⟩
theorem Bel_ms {n es id off len : Nat} : Bel n (.ms es id off len) ↔ id < n := ⟨fun h => by cases h with | ms h => exact h, .ms⟩
theorem Bel_mp {n id : Nat} : Bel n (.mp id) ↔ id < n := ⟨fun h => by cases h with | mp h => exact h, .mp⟩
theorem Bel_fn {n f : Nat} {a b : List AV} : Bel n (.fn f a b) ↔ (∀ c ∈ a, Bel n c) ∧ ∀ c ∈ b, Bel n c := ⟨fun h => by cases h with | fn h h' => exact ⟨h, h'⟩, fun h => .fn h.1 h.2⟩
theorem Bel_ifc {n t : Nat} {x : AV} : Bel n (.ifc t x) ↔ Bel n x := ⟨fun h => by cases h with | ifc h => exact h, .ifc⟩
theorem Bel_any {n : Nat} : Bel n .any ↔ True := ⟨fun _ => trivial, fun _ => .any⟩

theorem Bel.mono {n m : Nat} {d : AV} (h : Bel n d) (hle : n ≤ m) : Bel m d := by
  induction h with
  | v x => exact .v x
  | agg _ ih => exact .agg ih
  | tup _ ih => exact .tup ih
  | sl _ hk ih =>
    refine .sl ih ?_
    revert hk
    cases ‹Tok› with
    | row id e => exact fun h => Nat.lt_of_lt_of_le h hle
    | _ => exact fun _ => trivial
  | ms h => exact .ms (Nat.lt_of_lt_of_le h hle)
  | ep _ ih => exact .ep ih
  | ptr h => exact .ptr (Nat.lt_of_lt_of_le h hle)
  | mp h => exact .mp (Nat.lt_of_lt_of_le h hle)
  | fn _ _ ih ih' => exact .fn ih ih'
  | yl h => exact .yl (Nat.lt_of_lt_of_le h hle)
  | ifc _ ih => exact .ifc ih
  | any => exact .any

def OBel (n : Nat) : AObj → Prop
  | .cells cs => ∀ c ∈ cs, Bel n c
  | .row _ => True
  | .map es => ∀ p ∈ es, Bel n p.1 ∧ Bel n p.2
  | .iter m _ _ => m < n
  | .loop e _ _ _ _ _ _ D => D < n ∧ ∀ t, Bel n (e t)
  | .defd => True

theorem ObjOk.bel {g : Gh} {w : World} {id : Nat} {o : AObj} (h : ObjOk g w id o) : OBel g.next o := by
  cases o with
  | cells cs =>
    obtain ⟨_, vs, _, _, hs, hr⟩ := h
    intro c hc
    obtain ⟨i, hi, e⟩ := mem_getD (d := AV.un) hc
    rw [← e]; exact (hr i hi).1.bel
  | row e => trivial
  | map es =>
    obtain ⟨_, x, _, vs, _, _, h3⟩ := h
    intro p hp
    obtain ⟨i, hi, rfl⟩ := List.getElem_of_mem hp
    obtain ⟨x, _, _, a, b⟩ := h3 i _ (List.getElem?_eq_getElem hi)
    exact ⟨a.bel, b.bel⟩
  | iter m n seen => obtain ⟨_, x, _, h1, _⟩ := h; exact h1
  | loop e ps nt asg body st pend D => obtain ⟨_, x, _, h1, tmps, fn, _, _, h4⟩ := h; exact ⟨h1, fun t => (h4 t).bel⟩
  | defd => trivial

theorem ObjOk.trim {g : Gh} {w : World} {id : Nat} {o : AObj} {n : Nat} (h : ObjOk g w id o) (hb : OBel n o) : ObjOk { g with next := n } w id o := by
  cases o with
  | cells cs =>
    obtain ⟨h1, vs, elem, h2, hs, hr⟩ := h
    exact ⟨h1, vs, elem, h2, hs, fun i hi => ⟨(hr i hi).1.trim (hb _ (getD_mem hi)), (hr i hi).2⟩⟩
  | row e => exact h
  | map es =>
    obtain ⟨h1, x, h2, vs, q1, q2, q3⟩ := h
    exact ⟨h1, x, h2, vs, q1, q2, fun i p hp => let ⟨y, a, b, c, d⟩ := q3 i p hp; ⟨y, a, b, c.trim (hb p (List.mem_of_getElem? hp)).1, d.trim (hb p (List.mem_of_getElem? hp)).2⟩⟩
  | iter m n seen => obtain ⟨h1, x, h2, q1, q2⟩ := h; exact ⟨h1, x, h2, hb, q2⟩
  | loop e ps nt asg body st pend D => obtain ⟨h1, x, h2, q1, tmps, fn, q2, q3, q4⟩ := h; exact ⟨h1, x, h2, hb.1, tmps, fn, q2, q3, fun t => (q4 t).trim (hb.2 t)⟩
  | defd => exact h

theorem Ev.trim {T : Nat → Prop} {g0 g : Gh} {w0 w : World} {n : Nat} (h : Ev T g0 w0 g w) (hn : g0.next ≤ n) (hn' : n ≤ g.next) : Ev T g0 w0 { g with next := n } w := { h with next := hn, rb := fun id hi hh => h.rb id (Nat.lt_of_lt_of_le hi hn') hh }

/-! ### Weakening -/

def envL : List (Nat × AV) → Env
  | [], _ => .any
  | (k, d) :: r, t => if t = k then d else envL r t

/-- A value told anew: as it is; without its room; a nil slice as a row that is to grow. -/
def Wv (s : AState) (d d' : AV) : Prop :=
  d = d' ∨ d.untok = d' ∨ (d = .v (.slice none 0 0) ∧ ∃ es k, d' = .sl es [] k ∧ 0 < es ∧ (k = .none ∨ k = .exact ∨ ∃ id, k = .row id 0 ∧ s.obj id = some (.row 0)))

theorem Wv.R {s : AState} {g : Gh} {w : World} {x : Value} {d d' : AV} (h : Wv s d d') (hi : Inv g s w) (hr : R g w x d) : R g w x d' := by
  rcases h with rfl | rfl | ⟨rfl, es, k, rfl, he, hk⟩
  · exact hr
  · exact untok_R hr
  · obtain ⟨rfl, _⟩ := hr.flat_eq
    refine .slnil he ?_
    rcases hk with rfl | rfl | ⟨id, rfl, ho⟩
    · trivial
    · trivial
    · exact ⟨(hi.obj _ _ ho).1, Nat.zero_le _⟩

theorem envL_R {g : Gh} {w : World} {x : Value} {e : Env} : ∀ {L : List (Nat × AV)} {t : Nat}, (∀ p ∈ L, p.1 = t → R g w x p.2) → R g w x (envL L t)
  | [], _, _ => .any
  | (k, d) :: r, t, h => by
    simp only [envL]
    split
    · rename_i e; exact h (k, d) (by simp) e.symm
    · exact envL_R (e := e) fun p hp => h p (by simp [hp])

theorem AEnt_mk {e : Env} {s S : AState} {L : List (Nat × AV)} (hb : S.base = s.base) (hlo : s.base.lo ≤ S.next) (hle : S.next ≤ s.next) (hm : ∀ id ∈ s.base.marks, id < S.next)
    (hobj : ∀ id o, S.obj id = some o → id < S.next ∧ s.obj id = some o ∧ (S.next = s.next ∨ OBel S.next o)) (henv : ∀ p ∈ L, Wv s (e p.1) p.2 ∧ (S.next = s.next ∨ Bel S.next p.2)) : AEnt e s (envL L) S := by
  intro T g0 w0 n g w a hr
  have trim : ∀ {x : Value} {d : AV}, R g w x d → (S.next = s.next ∨ Bel S.next d) → R { g with next := S.next } w x d := by
    intro x d hR hd
    rcases hd with hd | hd
    · rw [hd, hr.inv.next]; exact hR
    · exact hR.trim hd
  refine ⟨{ g with next := S.next }, hr.size, fun t => ?_, ?_, ?_, ⟨rfl, by rw [hb]; exact hlo, fun id o ho => ?_⟩, hr.ev.trim (by rw [← hr.lo]; exact hlo) (by rw [← hr.inv.next]; exact hle), ⟨?_, fun id o ho => hr.tok.2 id o (hobj id o ho).2.1⟩, by rw [hb]; exact hr.lo⟩
  · exact envL_R (e := e) fun p hp ht => trim ((henv p hp).1.R hr.inv (by rw [ht]; exact hr.env t)) (henv p hp).2
  · rw [hb]; exact hr.defs
  · rw [hb]; exact hm
  · obtain ⟨h1, h2, h3⟩ := hobj id o ho
    refine ⟨h1, ?_⟩
    rcases h3 with h3 | h3
    · rw [h3, hr.inv.next]; exact (hr.inv.obj id o h2).2
    · exact (hr.inv.obj id o h2).2.trim h3
  · rw [hb]; exact hr.tok.1

/-- The same things at hand. -/
theorem AEnt_same {e : Env} {s : AState} {L : List (Nat × AV)} (hm : s.base.marks = []) (hlt : ∀ T g0 w0 n g w a, Rel T g0 w0 n e s g w a → True) (henv : ∀ p ∈ L, Wv s (e p.1) p.2) : AEnt e s (envL L) s := by
  intro T g0 w0 n g w a hr
  exact AEnt_mk (e := e) (s := s) (S := s) rfl hr.inv.base (Nat.le_refl _) (by rw [hm]; intro id h; cases h)
    (fun id o ho => ⟨by rw [hr.inv.next]; exact (hr.inv.obj id o ho).1, ho, .inl rfl⟩) (fun p hp => ⟨henv p hp, .inl rfl⟩) T g0 w0 n g w a hr

/-- A row that is to grow, laid ahead. -/
theorem AEnt_reserve (e : Env) (s : AState) : AEnt e s e (s.new (.row 0)) := by
  intro T g0 w0 n g w a hr
  let g' : Gh := { g with next := g.next + 1, stamp := fun i => if i = g.next then 0 else g.stamp i, rhas := fun i => if i = g.next then false else g.rhas i }
  have hev : Ev (fun i => i = g.next) g w g' w :=
    { Ev.refl (fun i => i = g.next) g w with
      next := by simp [g']
      blk := fun _ _ => rfl
      ro := fun _ _ h => ⟨h, rfl⟩
      row := fun _ _ p _ h => ⟨.inr ⟨p, Nat.le_refl _, h⟩, fun _ _ => rfl⟩
      own := fun _ _ _ h _ => ⟨h, rfl⟩
      fix := fun _ _ _ _ h _ => ⟨h, rfl⟩
      stamp := fun i hi => by
        have : i ≠ g.next := by omega
        simp [g', this]
      still := fun i _ hne => by simp [g', hne]
      rb := fun i hi hh => by
        by_cases h : i = g.next
        · subst h; simp [g'] at hh
        · simp only [g', h, if_false] at hh hi ⊢; exact .inl ⟨by omega, hh, (by first | trivial | rfl)⟩ }
  have hT : T g.next := by rw [← hr.inv.next]; exact hr.tok.1 _ hr.inv.base
  have hev' := hev.mono (T' := T) (fun i h => by subst h; exact hT)
  refine ⟨g', hr.size, fun t => (hr.env t).ev hev, ?_, fun id hid => by have := hr.mlt id hid; simp [g']; omega, Inv.touch (id := g.next) hr.inv hev (by simp [AState.new, g', hr.inv.next]) (by have := hr.inv.base; simp [AState.new]; omega) ?_ ?_,
    hr.ev.trans hev', hr.tok.new hr.inv _, hr.lo⟩
  · exact hr.defs
  · intro i o hne ho
    simp only [AState.new, hr.inv.next, hne, if_false] at ho; exact ho
  · intro o ho
    simp only [AState.new, hr.inv.next, if_true] at ho
    cases ho
    exact ⟨by simp [g'], by simp [g'], fun h => by simp [g'] at h⟩

/-! ### The end of a body -/

def resOne (P : Program) (e : Env) (s : AState) : ResultVar → Option AV
  | .tmp t => some (e t)
  | .cell x t =>
    match e x with
    | .ep cs off => ldAV P t cs off
    | .ptr id off =>
      match s.obj id with
      | some (.cells cs) => ldAV P t cs off
      | _ => none
    | _ => none

def resAll (P : Program) (e : Env) (s : AState) : List ResultVar → Option (List AV)
  | [] => some []
  | r :: rest =>
    match resOne P e s r, resAll P e s rest with
    | some d, some l => some (d :: l)
    | _, _ => none

def packAV : List AV → AV
  | [d] => d
  | l => .tup l

theorem resAll_sound {P : Program} {T : Nat → Prop} {g0 : Gh} {w0 : World} {n : Nat} {e : Env} {s : AState} {g : Gh} {w : World} {a : Act} (hr : Rel T g0 w0 n e s g w a) : ∀ {rs : List ResultVar} {l : List AV},
    resAll P e s rs = some l → ∃ vs : List Value, (rs.mapM (m := Sem) fun | .tmp t => pure (a.tmps.getD t undef) | .cell x t => do loadVar t (← asAddr (a.tmps.getD x undef))).run P w = .ok vs w ∧ RL g w vs l
  | [], l, h => by simp only [resAll, Option.some.injEq] at h; subst h; exact ⟨[], rfl, rfl, fun i hi => by simp at hi⟩
  | r :: rest, l, h => by
    simp only [resAll] at h
    split at h
    case h_2 => cases h
    rename_i d l' h1 h2
    cases h
    obtain ⟨vs, hv, hRL⟩ := resAll_sound hr h2
    have hone : ∃ v, ((match r with | .tmp t => pure (a.tmps.getD t undef) | .cell x t => do loadVar t (← asAddr (a.tmps.getD x undef))) : Sem Value).run P w = .ok v w ∧ R g w v d := by
      cases r with
      | tmp t =>
        simp only [resOne, Option.some.injEq] at h1
        subst h1
        exact ⟨_, rfl, hr.env t⟩
      | cell x t =>
        simp only [resOne] at h1
        have hx := hr.env x
        split at h1
        · rename_i cs off hρ
          rw [hρ] at hx
          obtain ⟨b, q, vs, hv, c1, c2, _, _⟩ := hx.ep_inv
          obtain ⟨v, c3, c4⟩ := ld_sound (P := P) h1 c1 c2
          exact ⟨v, by simp [hv, asAddr, c3, -Array.getD_eq_getD_getElem?], c4⟩
        · rename_i id off hρ
          rw [hρ] at hx
          split at h1
          · rename_i cs ho
            obtain ⟨_, hv⟩ := hx.ptr_inv
            obtain ⟨_, hp, vs, elem, ⟨fz, hg, hz⟩, hvs, hrr⟩ := hr.inv.obj _ _ ho
            obtain ⟨v, c3, c4⟩ := ld_sound (P := P) (b := g.blk id) (o := 0) (vs := fun j => vs.getD j undef) h1 (fun j hj => by
              have hlt : j < vs.size := by rw [hvs]; exact hj
              rw [cell_of_get hg, Nat.zero_add, Array.getElem?_eq_getElem hlt, Array.getD_eq_getD_getElem?, Array.getElem?_eq_getElem hlt]; rfl) (fun j hj => hrr j hj)
            rw [Nat.zero_add] at c3
            exact ⟨v, by simp [hv, asAddr, c3, -Array.getD_eq_getD_getElem?], c4⟩
          · cases h1
        · cases h1
    obtain ⟨v, hv1, hv2⟩ := hone
    refine ⟨v :: vs, ?_, by simp [hRL.1], fun i hi => ?_⟩
    · simp only [List.mapM_cons, Sem.run_bind, hv, Sem.run_pure]
      rw [hv1]
      simp only [Result.andThen_ok, hv]
    · cases i with
      | zero => simpa using hv2
      | succ i => simpa using hRL.2 i (by simpa using hi)

theorem results_sound {P : Program} {T : Nat → Prop} {g0 : Gh} {w0 : World} {n : Nat} {e : Env} {s : AState} {g : Gh} {w : World} {a : Act} {fn : Func} {l : List AV} (hr : Rel T g0 w0 n e s g w a)
    (h : resAll P e s fn.results.toList = some l) : ∃ v, (results fn a.tmps).run P w = .ok v w ∧ R g w v (packAV l) := by
  obtain ⟨vs, hv, hRL⟩ := resAll_sound hr h
  unfold results
  rw [Array.mapM_eq_mapM_toList]
  simp only [Sem.run_bind, Sem.run_map, Result.andThen_ok, Sem.run_pure]
  refine ⟨if h : vs.toArray.size = 1 then vs.toArray[0] else .tuple vs.toArray, by erw [hv]; rfl, ?_⟩
  match vs, l, hRL with
  | [], [], _ => exact .tup rfl (fun i hi => by simp at hi)
  | [v], [d], h => simpa [packAV] using h.2 0 (by simp)
  | v :: v' :: vs, d :: d' :: l, h =>
    simp only [packAV, List.size_toArray, List.length_cons]
    rw [dif_neg (by omega)]
    exact .tup (by simpa using h.1) (fun i hi => by rw [getD_toArray]; exact h.2 i hi)
  | [], _ :: _, h => exact absurd h.1 (by simp)
  | [_], [], h => exact absurd h.1 (by simp)
  | [_], _ :: _ :: _, h => exact absurd h.1 (by simp)
  | _ :: _ :: _, [], h => exact absurd h.1 (by simp)
  | _ :: _ :: _, [_], h => exact absurd h.1 (by simp)

/-- What a body leaves, and what its caller sees of it. -/
def AFin (s : AState) (d : AV) (s' : AState) (d2 : AV) (s2 : AState) : Prop :=
  ∀ T g0 w0 g w v, Inv g0 s w0 → Inv g s' w → R g w v d → Ev T g0 w0 g w → TOk T s → TOk T s' → ∃ g', Inv g' s2 w ∧ R g' w v d2 ∧ Ev T g0 w0 g' w ∧ TOk T s2 ∧ s2.base = s.base

/-- As far as the elder things go, nothing has changed. -/
def Keeps (s s' : AState) : Prop := s.next ≤ s'.next ∧ ∀ id, id < s.next → s'.obj id = s.obj id

theorem Keeps.base (s : AState) (b : FBase) : Keeps s { s with base := b } := ⟨Nat.le_refl _, fun _ _ => rfl⟩
theorem Keeps.new {s s' : AState} (h : Keeps s s') (o : AObj) : Keeps s (s'.new o) :=
  ⟨Nat.le_succ_of_le h.1, fun id hid => by
    have := h.1
    simp only [AState.new]
    rw [if_neg (by omega)]
    exact h.2 id hid⟩
theorem Keeps.set {s s' : AState} (h : Keeps s s') {id : Nat} (hid : s.next ≤ id) (o : AObj) : Keeps s (s'.set id o) :=
  ⟨h.1, fun i hi => by
    simp only [AState.set]
    rw [if_neg (by omega)]
    exact h.2 i hi⟩

theorem AFin.pure {s s' : AState} {d : AV} (hk : Keeps s s') (hd : Bel s.next d) : AFin s d s' d s := by
  intro T g0 w0 g w v h0 hi hR hE hT0 hT
  have hn : s.next = g0.next := h0.next
  refine ⟨{ g with next := g0.next }, ⟨hn, h0.base, fun id o ho => ?_⟩, hR.trim (by rw [← hn]; exact hd), hE.trim (Nat.le_refl _) hE.next, hT0, rfl⟩
  obtain ⟨h1, h2⟩ := h0.obj id o ho
  refine ⟨h1, ?_⟩
  have ho' : s'.obj id = some o := by rw [hk.2 id (by rw [hn]; exact h1)]; exact ho
  exact (hi.obj id o ho').2.trim h2.bel

def AState.del (s : AState) (id : Nat) : AState := { s with obj := fun i => if i = id then none else s.obj i }

theorem Keeps.del {s s' : AState} (h : Keeps s s') {id : Nat} (hid : s.next ≤ id) : Keeps s (s'.del id) :=
  ⟨h.1, fun i hi => by
    simp only [AState.del]
    rw [if_neg (by omega)]
    exact h.2 i hi⟩

/-- What was one's own is read alone from now on. -/
def frzL (id : Nat) (cs : List AV) : AV → AV
  | .ptr i off => if i = id then .ep cs off else .ptr i off
  | .ms es i off len => if i = id ∧ off + len * es ≤ cs.length then .sl es (chunks es len (cs.drop off)) .none else .ms es i off len
  | d => d

def frz (id : Nat) (cs : List AV) : AV → AV
  | .tup l => .tup (l.map (frzL id cs))
  | d => frzL id cs d

theorem Ev.shut {g : Gh} {w : World} {id : Nat} (hp : g.perm (g.blk id) = .own id) : Ev (fun i => i = id) g w (g.shut (g.blk id)) w :=
  { Ev.refl (fun i => i = id) g w with
    next := Nat.le_refl _
    blk := fun _ _ => rfl
    ro := fun b _ h => ⟨by simp only [Gh.shut]; split <;> first | rfl | exact h, rfl⟩
    row := fun b i p _ h => by
      have hne : b ≠ g.blk id := fun e => by subst e; rw [hp] at h; cases h
      exact ⟨.inr ⟨p, Nat.le_refl _, by simp only [Gh.shut, hne, if_false]; exact h⟩, fun _ _ => rfl⟩
    own := fun b i _ h hne => by
      have hne : b ≠ g.blk id := fun e => by subst e; rw [hp] at h; cases h; exact hne rfl
      exact ⟨by simp only [Gh.shut, hne, if_false]; exact h, rfl⟩
    fix := fun b i p _ h _ => by
      have hne : b ≠ g.blk id := fun e => by subst e; rw [hp] at h; cases h
      exact ⟨by simp only [Gh.shut, hne, if_false]; exact h, rfl⟩
    stamp := fun _ _ => ⟨Nat.le_refl _, fun _ => ⟨rfl, rfl, rfl, rfl⟩⟩
    still := fun _ _ _ => rfl
    rb := fun _ hi hh => .inl ⟨hi, hh, rfl⟩ }

theorem frzL_sound {g : Gh} {w : World} {id : Nat} {cs : List AV} {v : Value} {d : AV} (ho : ObjOk g w id (.cells cs)) (hR : R g w v d) : R (g.shut (g.blk id)) w v (frzL id cs d) := by
  obtain ⟨hp, vs, elem, ⟨fz, hg, hz⟩, hvs, hr⟩ := ho
  have hev := Ev.shut (w := w) hp
  have hb := lt_of_get hg
  have hv : RC (g.shut (g.blk id)) w vs.toList cs := RC.ev ⟨by simpa using hvs, fun i hi => by rw [← getD_toList]; exact hr i hi⟩ hev
  cases d with
  | ptr i off =>
    simp only [frzL]
    split
    · rename_i e
      subst e
      obtain ⟨_, rfl⟩ := hR.ptr_inv
      have := R.mk_ep (g := g.shut (g.blk i)) (w := w) (b := g.blk i) (o := 0) (off := off) (cs := cs) (vs := fun j => vs.getD j undef) (fun j hj => by
        have hlt : j < vs.size := by rw [hvs]; exact hj
        rw [cell_of_get hg, Nat.zero_add, Array.getElem?_eq_getElem hlt, Array.getD_eq_getD_getElem?, Array.getElem?_eq_getElem hlt]; rfl)
        (fun j hj => by have := hv.2 j hj; rw [← getD_toList] at this; exact this) hb (.inl (by simp [Gh.shut]))
      rw [Nat.zero_add] at this
      exact this
    · exact hR.ev hev
  | ms es i off len =>
    simp only [frzL]
    split
    · rename_i e
      obtain ⟨rfl, hle⟩ := e
      cases hR with
      | @ms ad _ cap _ _ _ hid hsp hbl ho hc he =>
        obtain ⟨ab, ao, asp⟩ := ad
        simp only at hsp hbl ho
        subst hsp; subst hbl; subst ho
        obtain ⟨c1, c2, c3⟩ := chunks_ok (es := es) (n := len) (cs := cs.drop ao) (by simp; omega)
        have := R.mk_row (g := g.shut (g.blk i)) (w := w) (b := g.blk i) (off := ao) (cap := cap) (l := chunks es len (cs.drop ao)) (k := .none) (vs := (vs.toList.drop ao).take (len * es)) he c1 (by rw [c2]; exact hc)
          (by rw [c3]; exact (hv.drop _).take _) (fun j v hj => by
            rw [List.getElem?_take] at hj
            split at hj
            · rw [List.getElem?_drop] at hj
              rw [cell_of_get hg, ← Array.getElem?_toList]; exact hj
            · cases hj) hb (.inl (by simp [Gh.shut])) trivial
        rw [c2] at this
        exact this
    · exact hR.ev hev
  | _ => exact hR.ev hev

theorem frz_sound {g : Gh} {w : World} {id : Nat} {cs : List AV} {v : Value} {d : AV} (ho : ObjOk g w id (.cells cs)) (hR : R g w v d) : R (g.shut (g.blk id)) w v (frz id cs d) := by
  cases d with
  | tup l =>
    cases hR with
    | tup hs hr =>
      refine .tup (by simpa using hs) (fun i hi => ?_)
      simp only [List.length_map] at hi
      have h1 := frzL_sound ho (hr i hi)
      have e : (l.map (frzL id cs)).getD i AV.un = frzL id cs (l.getD i AV.un) := by
        rw [List.getD_eq_getElem?_getD, List.getD_eq_getElem?_getD, List.getElem?_map, List.getElem?_eq_getElem hi]; rfl
      rw [e]; exact h1
  | _ => exact frzL_sound ho hR

theorem AFin.freeze {s s' s2 : AState} {d d2 : AV} {id : Nat} {cs : List AV} (ho : s'.obj id = some (.cells cs)) (h : AFin s (frz id cs d) (s'.del id) d2 s2) : AFin s d s' d2 s2 := by
  intro T g0 w0 g w v h0 hi hR hE hT0 hT
  obtain ⟨hlt, hok⟩ := hi.obj _ _ ho
  have hev := Ev.shut (w := w) hok.1
  refine h T g0 w0 (g.shut (g.blk id)) w v h0 (Inv.touch (id := id) hi hev (by simp [AState.del, Gh.shut, hi.next]) hi.base (fun i o hne ho' => ?_) (fun o ho' => ?_)) (frz_sound hok hR)
    (hE.trans (hev.mono (fun i e => by subst e; exact hT.2 _ _ ho))) hT0 ⟨hT.1, fun i o ho' => ?_⟩
  · simp only [AState.del, hne, if_false] at ho'; exact ho'
  · simp [AState.del] at ho'
  · simp only [AState.del] at ho'
    split at ho'
    · cases ho'
    · exact hT.2 _ _ ho'

/-! ### A function's contract -/

def envA (args : List AV) : Env := fun t => args.getD t AV.un

def Ret (P : Program) (rs : List ResultVar) (s : AState) (k : AV → AState → Prop) : Post := fun ex e s' =>
  (ex = .normal ∨ ex = .ret) ∧ s'.base.marks = [] ∧ opt (resAll P e s' rs) fun l => ∃ d2 s2, AFin s (packAV l) s' d2 s2 ∧ k d2 s2

/-- What is at hand names nothing beyond it. -/
def AState.Wf (s : AState) : Prop := ∀ id o, s.obj id = some o → id < s.next ∧ OBel s.next o

theorem ACalls_body {P : Program} {C : Cfg} {f : FuncId} {fn : Func} {c : Code} {args : List AV} {rs : List ResultVar} {s : AState} {k : AV → AState → Prop} (hf : P.funcs[f]? = some fn) (hname : (fn.name == "runtime.NumGoroutine") = false)
    (hb : fn.body = some c) (hwf : codeBel fn.ntmps c = true) (hlen : args.length ≤ fn.ntmps) (hrs : fn.results.toList = rs) (h : s.Wf → (∀ d ∈ args, Bel s.next d) → aeval P C c (Ret P rs s k) (envA args) { s with base := ⟨s.next, []⟩ }) : ACalls P f args s k := by
  refine ⟨fun args w => ?_, fun T g w vs hi ht hRL => ?_⟩
  · have hn : ¬ fn.name = "runtime.NumGoroutine" := by simpa using hname
    simp [callFunc, hf, hn, hb]
  · have h := h (fun id o ho => ⟨by rw [hi.next]; exact (hi.obj id o ho).1, by rw [hi.next]; exact (hi.obj id o ho).2.bel⟩) (fun d hd => by
      obtain ⟨i, hi', rfl⟩ := mem_getD (d := AV.un) hd
      rw [hi.next]; exact (hRL.2 i hi').bel)
    let a : Act := { tmps := vs.toArray ++ Array.replicate (fn.ntmps - vs.toArray.size) undef, defers := [] }
    have hrel : Rel T g w fn.ntmps (envA args) { s with base := ⟨s.next, []⟩ } g w a := by
      refine ⟨?_, fun t => ?_, rfl, (fun id h => by cases h), ⟨hi.next, Nat.le_refl _, hi.obj⟩, Ev.refl T g w, ⟨fun id hid => ht.1 id (Nat.le_trans hi.base hid), ht.2⟩, hi.next⟩
      · simp only [a, Array.size_append, List.size_toArray, Array.size_replicate, hRL.1]; omega
      · by_cases hlt : t < args.length
        · have h1 := hRL.2 t hlt
          have e : a.tmps.getD t undef = vs.getD t undef := by
            simp only [a, Array.getD_eq_getD_getElem?, List.getD_eq_getElem?_getD]
            rw [Array.getElem?_append_left (by simp [hRL.1]; exact hlt)]
            simp
          rw [e]
          exact h1
        · have e : a.tmps.getD t undef = undef := by
            simp only [a, Array.getD_eq_getD_getElem?]
            rw [Array.getElem?_append_right (by simp [hRL.1]; omega)]
            rw [Array.getElem?_replicate]
            split <;> rfl
          rw [e]
          simp only [envA]
          rw [List.getD_eq_getElem?_getD, List.getElem?_eq_none (by omega)]
          exact .v rfl
    have hwp : c.wp P (Lift T g w fn.ntmps (Ret P rs s k)) a w := wpIn_wide.1 (aeval_sound (ro := none) (m := 0) c (.inl rfl) hwf _ _ _ g w a h hrel)
    refine calls_of_wp hf hb (wp_mono hwp fun ex a' w' hq => ?_)
    obtain ⟨e, s', g', hr, hex, hmk, hres⟩ := hq
    obtain ⟨l, hl, d2, s2, hfin, hk⟩ := opt_elim hres
    obtain ⟨v, hv, hR⟩ := results_sound hr (by rw [hrs]; exact hl)
    have hd : a'.defers = [] := by rw [hr.defs, hmk]; rfl
    obtain ⟨g'', hI, hR', hE, hT, hB⟩ := hfin T g w g' w' v hi hr.inv hR hr.ev ht hr.tok
    rcases hex with rfl | rfl
    · exact ⟨hd, v, hv, v, d2, s2, g'', rfl, hR', hI, hE, hT, hB, hk⟩
    · exact ⟨hd, v, hv, v, d2, s2, g'', rfl, hR', hI, hE, hT, hB, hk⟩

/-- A function that only reckons: whatever lies at hand, it hands back r and leaves all as it was. -/
def APure (P : Program) (f : FuncId) (args : List AV) (r : AV) : Prop := ∀ s, ACalls P f args s fun d s' => d = r ∧ s' = s

theorem APure.use {P : Program} {f : FuncId} {args : List AV} {r : AV} (h : APure P f args r) {s : AState} {k : AV → AState → Prop} (hk : k r s) : ACalls P f args s k :=
  ACalls_mono (fun d s' ⟨e1, e2⟩ => by subst e1; subst e2; exact hk) (h s)

end Go.Av

/- Operations of one outcome; how a region in whatever order is walked. -/
namespace Go.Av
open Go
set_option linter.unusedVariables false
set_option linter.unusedSimpArgs false

theorem opt_det {α : Type} {o : Option α} {k : α → Prop} (h : opt o k) : ∃ a, k a ∧ ∀ k', k' a → opt o k' := by
  cases o with
  | none => exact h.elim
  | some a => exact ⟨a, h, fun k' h => h⟩

section
variable {P : Program} {s : AState} {k : AV → AState → Prop}

/-- It comes to one value and one state. -/
def Det (F : (AV → AState → Prop) → Prop) (k : AV → AState → Prop) : Prop := ∃ d s', k d s' ∧ ∀ k', k' d s' → F k'
def Det1 (F : (AV → Prop) → Prop) (k : AV → Prop) : Prop := ∃ d, k d ∧ ∀ k', k' d → F k'

theorem Det1.opt {α : Type} {o : Option α} {F : α → (AV → Prop) → Prop} {k : AV → Prop} (h : opt o fun a => F a k) (hF : ∀ a, F a k → Det1 (F a) k) : Det1 (fun k => opt o fun a => F a k) k := by
  cases o with
  | none => exact h.elim
  | some a => exact hF a h

theorem Det.opt {α : Type} {o : Option α} {F : α → (AV → AState → Prop) → Prop} {k : AV → AState → Prop} (h : opt o fun a => F a k) (hF : ∀ a, F a k → Det (F a) k) : Det (fun k => opt o fun a => F a k) k := by
  cases o with
  | none => exact h.elim
  | some a => exact hF a h

theorem Det1.and {A : Prop} {F : (AV → Prop) → Prop} {k : AV → Prop} (h : A) (hF : Det1 F k) : Det1 (fun k => A ∧ F k) k := let ⟨d, a, b⟩ := hF; ⟨d, a, fun k' hk => ⟨h, b k' hk⟩⟩
theorem Det.and {A : Prop} {F : (AV → AState → Prop) → Prop} {k : AV → AState → Prop} (h : A) (hF : Det F k) : Det (fun k => A ∧ F k) k := let ⟨d, s, a, b⟩ := hF; ⟨d, s, a, fun k' hk => ⟨h, b k' hk⟩⟩
theorem Det1.mk {d : AV} {k : AV → Prop} (h : k d) : Det1 (fun k => k d) k := ⟨d, h, fun _ h => h⟩
theorem Det.mk {d : AV} {s : AState} {k : AV → AState → Prop} (h : k d s) : Det (fun k => k d s) k := ⟨d, s, h, fun _ h => h⟩
theorem Det.of1 {F : (AV → Prop) → Prop} {k : AV → AState → Prop} (h : Det1 F (fun d => k d s)) : Det (fun k => F (fun d => k d s)) k := let ⟨d, a, b⟩ := h; ⟨d, s, a, fun k' hk => b _ hk⟩

theorem aAppend_det {t : TypeId} {a b : AV} (h : aAppend P t a b s k) : Det (aAppend P t a b s) k := by
  unfold aAppend at h ⊢
  split at h <;> first | exact h.elim | skip
  split at h <;> first | exact h.elim | skip
  rename_i h1 _ _ h2
  obtain ⟨x1, x2, x3, h⟩ := h
  refine .and x1 (.and x2 (.and x3 (.opt h fun l2 h => ?_)))
  split at h
  · by_cases e : l2 = []
    · exact ⟨_, _, h.1 e, fun k' hk => ⟨fun _ => hk, fun h => absurd e h⟩⟩
    · exact ⟨_, _, (h.2 e).2, fun k' hk => ⟨fun h => absurd h e, fun _ => ⟨(h.2 e).1, hk⟩⟩⟩
  · exact ⟨_, _, h.2.2.2, fun k' hk => ⟨h.1, h.2.1, h.2.2.1, hk⟩⟩
  · by_cases e : l2 = []
    · exact ⟨_, _, h.1 e, fun k' hk => ⟨fun _ => hk, fun h => absurd e h⟩⟩
    · exact ⟨_, _, (h.2 e).2.2, fun k' hk => ⟨fun h => absurd h e, fun _ => ⟨(h.2 e).1, (h.2 e).2.1, hk⟩⟩⟩
  · exact ⟨_, _, h.2, fun k' hk => ⟨h.1, hk⟩⟩
  · exact h.elim

theorem aLen_det {t : TypeId} {a : AV} {k : AV → Prop} (h : aLen P t a k) : Det1 (aLen P t a) k := by
  unfold aLen at h ⊢
  split at h <;> first | exact h.elim | exact .mk h

theorem aSlice_det {t : TypeId} {x : AV} {lo hi mx : Option AV} {k : AV → Prop} (h : aSlice P t x lo hi mx k) : Det1 (aSlice P t x lo hi mx) k := by
  unfold aSlice at h ⊢
  split at h
  · exact .and h.1 (.opt h.2 fun l h => .opt h fun q h => .and h.1 (.and h.2.1 (.and h.2.2.1 (.mk h.2.2.2))))
  · refine .and h.1 (.opt h.2 fun l h => .opt h fun q h => ?_)
    split at h
    · exact .and h.1 (.and h.2.1 (.and h.2.2.1 (.mk h.2.2.2)))
    · exact .and h.1 (.opt h.2 fun m h => .and h.1 (.and h.2.1 (.and h.2.2.1 (.and h.2.2.2.1 (.mk h.2.2.2.2)))))
  · exact .and h.1 (.opt h.2 fun l h => .opt h fun q h => .and h.1 (.and h.2.1 (.opt h.2.2 fun m h => .and h.1 (.and h.2.1 (.mk h.2.2)))))
  · exact .and h.1 (.and h.2.1 (.and h.2.2.1 (.and h.2.2.2.1 (.opt h.2.2.2.2 fun l h => .and h.1 (.and h.2.1 (.mk h.2.2))))))
  · exact h.elim

theorem aIndexAddr_det {t : TypeId} {x i : AV} {k : AV → Prop} (h : aIndexAddr P t x i k) : Det1 (aIndexAddr P t x i) k := by
  unfold aIndexAddr at h ⊢
  split at h
  · rename_i h1; exact .and h.1 (.and h.2.1 (.and h.2.2.1 (.mk h.2.2.2)))
  · rename_i h1; exact .and h.1 (.and h.2.1 (.and h.2.2.1 (.mk h.2.2.2)))
  · rename_i h1; exact .opt h fun l h => .and h.1 (.and h.2.1 (.mk h.2.2))
  · rename_i h1; exact .opt h fun l h => .and h.1 (.and h.2.1 (.mk h.2.2))
  · exact h.elim

theorem aIndex_det {t : TypeId} {x i : AV} {k : AV → Prop} (h : aIndex P t x i k) : Det1 (aIndex P t x i) k := by
  unfold aIndex at h ⊢
  split at h
  · rename_i h1; exact .opt h fun l h => .and h.1 (.and h.2.1 (.opt (F := fun a k => k a) h.2.2 fun d h => .mk h))
  · rename_i h1; exact .and h.1 (.and h.2.1 (.mk h.2.2))
  · exact h.elim

theorem aBuild_det {t : TypeId} {parts : List (Nat × AV)} {k : AV → Prop} (h : aBuild P t parts k) : Det1 (aBuild P t parts) k := by
  unfold aBuild at h ⊢
  split at h
  · rename_i h1 h2; exact .and h.1 (.opt h.2 fun l h => .mk h)
  · rename_i h1 h2; exact .opt h fun l h => .opt h fun q h => .mk h
  · exact h.elim

theorem aBuildSlice_det {t : TypeId} {len : Nat} {parts : List (Nat × AV)} {k : AV → Prop} (h : aBuildSlice P t len parts k) : Det1 (aBuildSlice P t len parts) k := by
  unfold aBuildSlice at h ⊢
  split at h
  · rename_i h1; exact .opt h fun l h => .and h.1 (.and h.2.1 (.opt h.2.2 fun q h => .and h.1 (.opt h.2 fun m h => .mk h)))
  · exact h.elim

theorem aMakeSlice_det {imm : Bool} {t : TypeId} {l c : AV} (h : aMakeSlice P imm t l c s k) : Det (aMakeSlice P imm t l c s) k := by
  unfold aMakeSlice at h ⊢
  split at h <;> first | exact h.elim | skip
  rename_i h1
  split at h <;> first | exact h.elim | skip
  rename_i h2
  obtain ⟨a, b, c, d, e, h⟩ := h
  refine .and a (.and b (.and c (.and d (.and e (.opt h fun z h => .and h.1 ?_)))))
  have h := h.2
  cases imm
  · exact .mk h
  · exact .and h.1 (.mk h.2)

theorem aBuiltin_det {b : Builtin} {ts : Array TypeId} {args : List AV} (h : aBuiltin P b ts args s k) : Det (aBuiltin P b ts args s) k := by
  unfold aBuiltin at h ⊢
  split at h
  · obtain ⟨d, h1, h2⟩ := aLen_det h
    exact ⟨d, s, h1.2, fun k' hk => h2 _ ⟨h1.1, hk⟩⟩
  · obtain ⟨d, s', h1, h2⟩ := aAppend_det h
    exact ⟨d, s', h1.2.2, fun k' hk => h2 _ ⟨h1.1, h1.2.1, hk⟩⟩
  · exact .opt h fun d h => .mk h
  · exact .opt h fun d h => .mk h
  · exact h.elim

/-- An operation of one outcome. -/
def detOp (o : Oper) : Bool :=
  match o.op with
  | .move _ | .assign _ | .pick _ _ _ | .alloc _ | .box _ _ | .build _ _ | .buildSlice _ _ _ | .load _ _ | .store _ _ _ | .nilCheck _ | .binOp _ _ _ _ _ | .unOp _ _ _ | .convert _ _ _ | .makeFunc _ _ _ | .makeSlice _ _ _
  | .slice _ _ _ _ _ | .fieldAddr _ _ _ | .field _ _ _ | .indexAddr _ _ _ | .index _ _ _ | .extract _ _ => true
  | .call c => match c.callee with | .builtin _ => true | _ => false
  | _ => false

theorem aOp_det {C : Cfg} {ρ : Operand → AV} {o : Oper} (hd : detOp o = true) (h : aOp P C ρ o s k) : Det (aOp P C ρ o s) k := by
  unfold aOp at h ⊢
  unfold detOp at hd
  cases hop : o.op <;> simp only [hop] at h hd ⊢
  case move => exact .mk h
  case assign => exact .mk h
  case pick => split at h <;> first | exact h.elim | exact .mk h
  case alloc =>
    refine .opt h fun z h => ?_
    split at h
    · rename_i h1; simp only [h1, if_true]; exact .mk h
    · rename_i h1; simp only [h1, if_false, Bool.false_eq_true]; exact .mk h
  case box =>
    refine .and h.1 ?_
    have h := h.2
    split at h
    · rename_i h1; simp only [h1, if_true]; exact .mk h
    · rename_i h1; simp only [h1, if_false, Bool.false_eq_true]; exact .mk h
  case build => exact .of1 (aBuild_det h)
  case buildSlice =>
    split at h
    · rename_i h1; simp only [h1, if_true]; exact let ⟨d, s', a, b⟩ := h; ⟨d, s', b, fun k' hk => ⟨d, s', a, hk⟩⟩
    · rename_i h1; simp only [h1, if_false, Bool.false_eq_true]; exact .of1 (aBuildSlice_det h)
  case load =>
    split at h
    · exact .opt h fun d h => .mk h
    · split at h
      · exact .opt h fun d h => .mk h
      · exact h.elim
    · exact h.elim
  case store =>
    split at h
    · split at h
      · exact .and h.1 (.and h.2.1 (.and h.2.2.1 (.mk h.2.2.2)))
      · exact h.elim
    · exact h.elim
  case nilCheck => split at h <;> first | exact h.elim | exact .mk h
  case binOp =>
    split at h
    · exact .mk h
    · split at h
      · obtain ⟨b, h2, h3⟩ := h; exact ⟨_, _, h3, fun k' hk => ⟨b, h2, hk⟩⟩
      · obtain ⟨b, h2, h3⟩ := h; exact ⟨_, _, h3, fun k' hk => ⟨b, h2, hk⟩⟩
      · exact h.elim
  case unOp => split at h <;> first | exact h.elim | exact .opt h fun d h => .mk h
  case convert => split at h <;> first | exact .mk h | exact let ⟨d, s', a, b⟩ := h; ⟨d, s', b, fun k' hk => ⟨d, s', a, hk⟩⟩
  case makeFunc => split at h <;> first | exact h.elim | exact .mk h
  case makeSlice => exact aMakeSlice_det h
  case slice => exact .of1 (aSlice_det h)
  case fieldAddr =>
    split at h
    · refine .opt h fun d h => .opt h fun d h => .and h.1 ?_
      have h := h.2
      split at h <;> first | exact h.elim | exact .mk h
    · exact h.elim
  case field =>
    split at h
    · exact .opt h fun d h => .opt h fun d h => .mk h
    · exact h.elim
  case indexAddr => exact .of1 (aIndexAddr_det h)
  case index => exact .of1 (aIndex_det h)
  case extract => split at h <;> first | exact h.elim | exact .opt h fun d h => .mk h
  case call c =>
    unfold aCall at h ⊢
    cases hc : c.callee with
    | builtin b => simp only [hc] at h ⊢; exact aBuiltin_det h
    | _ => simp only [hc] at hd; cases hd
  all_goals cases hd

/-- What comes behind a quiet operation. -/
def qk (K : Env → Prop) (e : Env) (d : Option Nat) (s : AState) (v : AV) (s' : AState) : Prop := s' = s ∧ K (e.set d v)

theorem quietA_det {C : Cfg} {o : Oper} {e : Env} {K : Env → Prop} (hd : detOp o = true) (h : aOp P C e.eval o s (qk K e o.dst s)) : quietA P C s o e K := by
  obtain ⟨d, s', ⟨rfl, h1⟩, h2⟩ := aOp_det hd h
  exact ⟨d, h2 _ ⟨rfl, rfl⟩, h1⟩

/-- One quiet operation, as simp is to take it. -/
def qstep (P : Program) (C : Cfg) (s : AState) (o : Oper) (e : Env) (K : Env → Prop) : Prop := if detOp o = true then aOp P C e.eval o s (qk K e o.dst s) else quietA P C s o e K

theorem qstep_quiet {C : Cfg} {o : Oper} {e : Env} {K : Env → Prop} (h : qstep P C s o e K) : quietA P C s o e K := by
  unfold qstep at h
  split at h
  · rename_i hd; exact quietA_det hd h
  · exact h

/-- The operations as they stand, each quiet: as simp is to take them. -/
def aR (P : Program) (C : Cfg) (ops : Array Oper) (s : AState) (K : Env → Prop) : List Oper → Env → Prop
  | [], e => K e
  | o :: rest, e => aGuard ops o e (qstep P C s o e (aR P C ops s K rest)) (aR P C ops s K rest (e.set o.dst AV.un))

theorem quietA_mono {C : Cfg} {o : Oper} {e : Env} {K K' : Env → Prop} (hK : ∀ e, K e → K' e) (h : quietA P C s o e K) : quietA P C s o e K' := let ⟨d, a, b⟩ := h; ⟨d, a, hK _ b⟩

theorem aQ_of_aR {C : Cfg} {ops : Array Oper} {K : Env → Prop} : ∀ (l : List Oper) (e : Env), aR P C ops s K l e → aQ P C ops s K l e
  | [], e, h => h
  | o :: rest, e, h => aGuard_mono (fun h => quietA_mono (fun e h => aQ_of_aR rest e h) (qstep_quiet h)) (fun h => aQ_of_aR rest _ h) h

end

/-- One walk of the order in which they stand serves every order. -/
theorem aDraw_walk {P : Program} {C : Cfg} {ops : Array Oper} {K : Env → AState → Prop} {e : Env} {s : AState} (hm : P.follows .mixedOrders = true) (hB : Region.lexB .any ops = true)
    (h : aR P C ops s (fun e' => K e' s) ops.toList e) : aDraw P C ops K e s := aDraw_quiet hm hB (aQ_of_aR _ _ h)

/-- A call in such a region. -/
theorem qcall {P : Program} {C : Cfg} {s : AState} {d : Option Nat} {t : TypeId} {p : String} {af : Array Edge} {gd : Option (Nat × Bool)} {f : Operand} {cargs : Array Operand} {ts : Array TypeId} {e : Env} {K : Env → Prop}
    {g : Nat} {args : List AV} {r : AV} (h : APure P g args r) {first cap : List AV} (hf : e.eval f = .fn g first cap) (ha : (first ++ cargs.toList.map e.eval ++ cap).map AV.untok = args) (hK : K (e.set d r)) :
    quietA P C s ⟨d, .call ⟨.value f, cargs, ts⟩, t, p, af, gd⟩ e K := by
  refine ⟨r, ?_, hK⟩
  show callV P (e.eval f) (cargs.toList.map e.eval) s _
  rw [hf]
  show ACalls P g ((first ++ cargs.toList.map e.eval ++ cap).map AV.untok) s _
  rw [ha]
  exact h s

end Go.Av

/- The rules by which the abstract evaluation is carried out by simp, in two bundles. -/
namespace Go.Av
open Go
set_option linter.unusedVariables false
set_option linter.unusedSimpArgs false

/-- The value that a guard looks at. -/
def gval (ops : Array Oper) (j : Nat) (e : Env) : AV :=
  match (ops[j]?).bind (·.dst) with
  | some d => e d
  | none => .any

/-- An operation behind a guard. -/
def guardK (v : AV) (want : Bool) (A B : Env → AState → Prop) (e : Env) (s : AState) : Prop :=
  match v with
  | .v (.bool b) => (b = want → A e s) ∧ (b = !want → B e s)
  | .v (.tuple _) => B e s
  | _ => False
def guardR (v : AV) (want : Bool) (A B : Env → Prop) (e : Env) : Prop :=
  match v with
  | .v (.bool b) => (b = want → A e) ∧ (b = !want → B e)
  | .v (.tuple _) => B e
  | _ => False
def stepE (P : Program) (C : Cfg) (o : Oper) (F : Env → AState → Prop) (e : Env) (s : AState) : Prop := aOp P C e.eval o s (after F e o.dst)
def skipE (d : Option Nat) (F : Env → AState → Prop) (e : Env) (s : AState) : Prop := F (e.set d AV.un) s
def stepR (P : Program) (C : Cfg) (s : AState) (o : Oper) (F : Env → Prop) (e : Env) : Prop := qstep P C s o e F
def skipR (d : Option Nat) (F : Env → Prop) (e : Env) : Prop := F (e.set d AV.un)

theorem aGuard_some (ops : Array Oper) (d : Option Nat) (op : Op) (t : TypeId) (p : String) (af : Array Edge) (j : Nat) (want : Bool) (e : Env) (s : AState) (A B : Env → AState → Prop) :
    aGuard ops ⟨d, op, t, p, af, some (j, want)⟩ e (A e s) (B e s) = guardK (gval ops j e) want A B e s := by
  unfold aGuard Wants gval
  simp only
  cases h : (ops[j]?).bind (·.dst) with
  | none => rfl
  | some q =>
    simp only
    cases h2 : e q with
    | v x =>
      cases x with
      | bool b => cases b <;> cases want <;> simp [guardK]
      | tuple x => simp [guardK]
      | _ => rfl
    | _ => rfl
theorem aGuard_someR (ops : Array Oper) (d : Option Nat) (op : Op) (t : TypeId) (p : String) (af : Array Edge) (j : Nat) (want : Bool) (e : Env) (A B : Env → Prop) :
    aGuard ops ⟨d, op, t, p, af, some (j, want)⟩ e (A e) (B e) = guardR (gval ops j e) want A B e := by
  unfold aGuard Wants gval
  simp only
  cases h : (ops[j]?).bind (·.dst) with
  | none => rfl
  | some q =>
    simp only
    cases h2 : e q with
    | v x =>
      cases x with
      | bool b => cases b <;> cases want <;> simp [guardR]
      | tuple x => simp [guardR]
      | _ => rfl
    | _ => rfl

theorem condK_b {b : Bool} {A B : Env → AState → Prop} {e : Env} {s : AState} (h1 : b = true → A e s) (h2 : b = false → B e s) : condK (.v (.bool b)) A B e s := ⟨h1, h2⟩
theorem guardK_b {b want : Bool} {A B : Env → AState → Prop} {e : Env} {s : AState} (h1 : b = want → A e s) (h2 : b = !want → B e s) : guardK (.v (.bool b)) want A B e s := ⟨h1, h2⟩

/-! What comes behind is not looked at before its turn. -/
@[congr] theorem guardK_congr {v v' : AV} {w : Bool} {A B : Env → AState → Prop} {e : Env} {s : AState} (h : v = v') : guardK v w A B e s = guardK v' w A B e s := by rw [h]
@[congr] theorem guardR_congr {v v' : AV} {w : Bool} {A B : Env → Prop} {e : Env} (h : v = v') : guardR v w A B e = guardR v' w A B e := by rw [h]
@[congr] theorem condK_congr {v v' : AV} {A B : Env → AState → Prop} {e : Env} {s : AState} (h : v = v') : condK v A B e s = condK v' A B e s := by rw [h]
@[congr] theorem opt_congr {α : Type} {o o' : Option α} {k : α → Prop} (h : o = o') : opt o k = opt o' k := by rw [h]

/-- Code and regions. -/
theorem EC (P : Program) (C : Cfg) :
    (∀ Q e s, aeval P C .skip Q e s = Q .normal e s) ∧
    (∀ l Q e s, aeval P C (.label l) Q e s = Q .normal e s) ∧
    (∀ id ops Q e s, aeval P C (.region id ops false) Q e s = aOps P C ops (Q .normal) ops.toList e s) ∧
    (∀ id ops Q e s, aeval P C (.region id ops true) Q e s = aDraw P C ops (Q .normal) e s) ∧
    (∀ a b Q e s, aeval P C (.seq a b) Q e s = aeval P C a (thenQ (aeval P C b Q) Q) e s) ∧
    (∀ id b Q e s, aeval P C (.block id b) Q e s = aeval P C b (inBl id Q) e s) ∧
    (∀ b Q e s, aeval P C (.loop b) Q e s = ALoop (aeval P C b) Q e s) ∧
    (∀ b Q e s, aeval P C (.scope b) Q e s = aeval P C b (noGo Q) e s) ∧
    (∀ id Q e s, aeval P C (.exit id) Q e s = Q (.exit id) e s) ∧
    (∀ l Q e s, aeval P C (.goto l) Q e s = Q (.goto l) e s) ∧
    (∀ Q e s, aeval P C .ret Q e s = Q .ret e s) ∧
    (∀ c t f Q e s, aeval P C (.cond c t f) Q e s = condK (e.eval c) (aeval P C t Q) (aeval P C f Q) e s) ∧
    (∀ ops K e s, aOps P C ops K [] e s = K e s) ∧
    (∀ ops K (d : Option Nat) (op : Op) (t : TypeId) (p : String) (af : Array Edge) rest e s,
      aOps P C ops K (⟨d, op, t, p, af, none⟩ :: rest) e s = aOp P C e.eval ⟨d, op, t, p, af, none⟩ s (after (aOps P C ops K rest) e d)) ∧
    (∀ ops K (d : Option Nat) (op : Op) (t : TypeId) (p : String) (af : Array Edge) (j : Nat) (w : Bool) rest e s,
      aOps P C ops K (⟨d, op, t, p, af, some (j, w)⟩ :: rest) e s =
        guardK (gval ops j e) w (stepE P C ⟨d, op, t, p, af, some (j, w)⟩ (aOps P C ops K rest)) (skipE d (aOps P C ops K rest)) e s) ∧
    (∀ ops s K e, aR P C ops s K [] e = K e) ∧
    (∀ ops s K (d : Option Nat) (op : Op) (t : TypeId) (p : String) (af : Array Edge) rest e,
      aR P C ops s K (⟨d, op, t, p, af, none⟩ :: rest) e = qstep P C s ⟨d, op, t, p, af, none⟩ e (aR P C ops s K rest)) ∧
    (∀ ops s K (d : Option Nat) (op : Op) (t : TypeId) (p : String) (af : Array Edge) (j : Nat) (w : Bool) rest e,
      aR P C ops s K (⟨d, op, t, p, af, some (j, w)⟩ :: rest) e =
        guardR (gval ops j e) w (stepR P C s ⟨d, op, t, p, af, some (j, w)⟩ (aR P C ops s K rest)) (skipR d (aR P C ops s K rest)) e) ∧
    (∀ o F e s, stepE P C o F e s = aOp P C e.eval o s (after F e o.dst)) ∧
    (∀ s o F e, stepR P C s o F e = qstep P C s o e F) ∧
    (∀ s o e K, qstep P C s o e K = if detOp o = true then aOp P C e.eval o s (qk K e o.dst s) else quietA P C s o e K) := by
  have g1 : ∀ ops (d : Option Nat) (op : Op) (t : TypeId) (p : String) (af : Array Edge) (e : Env) (A B : Prop), aGuard ops ⟨d, op, t, p, af, none⟩ e A B = A := fun ops d op t p af e A B =>
    propext ⟨fun h => h.1 rfl, fun h => ⟨fun _ => h, fun h => by cases h⟩⟩
  refine ⟨fun _ _ _ => rfl, fun _ _ _ _ => rfl, fun _ _ _ _ _ => rfl, fun _ _ _ _ _ => rfl, fun _ _ _ _ _ => rfl, fun _ _ _ _ _ => rfl, fun _ _ _ _ => rfl, fun _ _ _ _ => rfl, fun _ _ _ _ => rfl, fun _ _ _ _ => rfl, fun _ _ _ => rfl,
    fun _ _ _ _ _ _ => rfl, fun _ _ _ _ => rfl, ?_, ?_, fun _ _ _ _ => rfl, ?_, ?_, fun _ _ _ _ => rfl, fun _ _ _ _ => rfl, fun _ _ _ _ => rfl⟩
  · intro ops K d op t p af rest e s; simp only [aOps]; rw [g1]
  · intro ops K d op t p af j w rest e s; simp only [aOps]; exact aGuard_some ops d op t p af j w e s (stepE P C ⟨d, op, t, p, af, some (j, w)⟩ (aOps P C ops K rest)) (skipE d (aOps P C ops K rest))
  · intro ops s K d op t p af rest e; simp only [aR]; rw [g1]
  · intro ops s K d op t p af j w rest e; simp only [aR]; exact aGuard_someR ops d op t p af j w e (stepR P C s ⟨d, op, t, p, af, some (j, w)⟩ (aR P C ops s K rest)) (skipR d (aR P C ops s K rest))

/-- Calls. -/
theorem EL (P : Program) :
    (∀ ρ b args ts s k, aCall P ρ ⟨.builtin b, args, ts⟩ s k = aBuiltin P b ts (args.toList.map ρ) s k) ∧
    (∀ ρ f args ts s k, aCall P ρ ⟨.value f, args, ts⟩ s k = callV P (ρ f) (args.toList.map ρ) s k) ∧
    (∀ g first cap args s k, callV P (.fn g first cap) args s k = ACalls P g ((first ++ args ++ cap).map AV.untok) s k) := by
  exact ⟨fun _ _ _ _ _ _ => rfl, fun _ _ _ _ _ _ => rfl, fun _ _ _ _ _ _ => rfl⟩

/-- What stands between. -/
theorem EK :
    (∀ d F e s, skipE d F e s = F (e.set d AV.un) s) ∧
    (∀ d F e, skipR d F e = F (e.set d AV.un)) ∧
    (∀ F Q e s, thenQ F Q .normal e s = F e s) ∧
    (∀ Q e s, noGo Q .normal e s = Q .normal e s) ∧
    (∀ Q e s, noGo Q .ret e s = Q .ret e s) ∧
    (∀ Q id e s, noGo Q (.exit id) e s = Q (.exit id) e s) ∧
    (∀ F Q id e s, thenQ F Q (.exit id) e s = Q (.exit id) e s) ∧
    (∀ F Q e s, thenQ F Q .ret e s = Q .ret e s) ∧
    (∀ id i Q e s, inBl id Q (.exit i) e s = if i = id then Q .normal e s else Q (.exit i) e s) ∧
    (∀ id Q e s, inBl id Q .normal e s = Q .normal e s) ∧
    (∀ id Q e s, inBl id Q .ret e s = Q .ret e s) ∧
    (∀ A B e s, condK (.v (.bool true)) A B e s = A e s) ∧
    (∀ A B e s, condK (.v (.bool false)) A B e s = B e s) ∧
    (∀ A B e s, guardK (.v (.bool true)) true A B e s = A e s) ∧
    (∀ A B e s, guardK (.v (.bool false)) true A B e s = B e s) ∧
    (∀ A B e s, guardK (.v (.bool true)) false A B e s = B e s) ∧
    (∀ A B e s, guardK (.v (.bool false)) false A B e s = A e s) ∧
    (∀ A B w e s, guardK AV.un w A B e s = B e s) ∧
    (∀ A B w e, guardR AV.un w A B e = B e) ∧
    (∀ A B e, guardR (.v (.bool true)) true A B e = A e) ∧
    (∀ A B e, guardR (.v (.bool false)) true A B e = B e) ∧
    (∀ A B e, guardR (.v (.bool true)) false A B e = B e) ∧
    (∀ A B e, guardR (.v (.bool false)) false A B e = A e) := by
  refine ⟨fun _ _ _ _ => rfl, fun _ _ _ => rfl, fun _ _ _ _ => rfl, fun _ _ _ => rfl, fun _ _ _ => rfl, fun _ _ _ _ => rfl, fun _ _ _ _ _ => rfl, fun _ _ _ _ => rfl, fun _ _ _ _ _ => rfl, fun _ _ _ _ => rfl, fun _ _ _ _ => rfl, ?_, ?_, ?_, ?_, ?_, ?_, ?_, ?_, ?_, ?_, ?_, ?_⟩
  all_goals (intros; first | (simp [condK]; done) | (simp [guardK]; done) | (simp [guardR]; done) | (simp [guardK, AV.un, undef]; done) | (simp [guardR, AV.un, undef]; done))

/-- What comes behind: taken when the value is there. -/
theorem EA :
    (∀ F e d v s, after F e d v s = F (e.set d v) s) ∧
    (∀ K e d s v s', qk K e d s v s' = (s' = s ∧ K (e.set d v))) := ⟨fun _ _ _ _ _ => rfl, fun _ _ _ _ _ _ => rfl⟩

/-- Two values held against each other. -/
def eqK (P : Program) (neg : Bool) (t : TypeId) (x y : AV) (k : AV → AState → Prop) (s : AState) : Prop := ∃ b, AEq P t x y b ∧ k (.v (.bool (if neg then !b else b))) s
def binK (P : Program) (op : BinOp) (t : TypeId) (x y : AV) (k : AV → AState → Prop) (s : AState) : Option Value → Prop
  | some r => k (.v r) s
  | none =>
    match op with
    | .eql => eqK P false t x y k s
    | .neq => eqK P true t x y k s
    | _ => False
def pickK (a b : AV) (k : AV → AState → Prop) (s : AState) : AV → Prop
  | .v (.bool t) => k (if t then a else b) s
  | _ => False
def loadK (P : Program) (t : TypeId) (s : AState) (k : AV → AState → Prop) : AV → Prop
  | .ep cs off => opt (ldAV P t cs off) fun d => k d s
  | .ptr id off =>
    match s.obj id with
    | some (.cells cs) => opt (ldAV P t cs off) fun d => k d s
    | _ => False
  | _ => False
def storeK (P : Program) (t : TypeId) (v : AV) (s : AState) (k : AV → AState → Prop) : AV → Prop
  | .ptr id off =>
    match s.obj id with
    | some (.cells cs) => szOf P t = some v.cells.length ∧ off + v.cells.length ≤ cs.length ∧ v.cells.all AV.one = true ∧ k AV.un (s.set id (.cells (spliceL cs off v.cells)))
    | _ => False
  | _ => False

@[congr] theorem binK_congr {P : Program} {op : BinOp} {t : TypeId} {x y : AV} {k : AV → AState → Prop} {s : AState} {o o' : Option Value} (h : o = o') : binK P op t x y k s o = binK P op t x y k s o' := by rw [h]
@[congr] theorem eqK_congr {P : Program} {n : Bool} {t : TypeId} {x y x' y' : AV} {k : AV → AState → Prop} {s : AState} (h : x = x') (h' : y = y') : eqK P n t x y k s = eqK P n t x' y' k s := by rw [h, h']
@[congr] theorem pickK_congr {a b : AV} {k : AV → AState → Prop} {s : AState} {o o' : AV} (h : o = o') : pickK a b k s o = pickK a b k s o' := by rw [h]
@[congr] theorem loadK_congr {P : Program} {t : TypeId} {s s' : AState} {k : AV → AState → Prop} {o o' : AV} (h : o = o') (hs : s = s') : loadK P t s k o = loadK P t s' k o' := by rw [h, hs]
@[congr] theorem storeK_congr {P : Program} {t : TypeId} {v v' : AV} {s s' : AState} {k : AV → AState → Prop} {o o' : AV} (h : o = o') (hv : v = v') (hs : s = s') : storeK P t v s k o = storeK P t v' s' k o' := by rw [h, hv, hs]

/-- The operations. -/
theorem EP (P : Program) (C : Cfg) :
    (∀ ρ d x t p af g s k, aOp P C ρ ⟨d, .move x, t, p, af, g⟩ s k = k (ρ x) s) ∧
    (∀ ρ d x t p af g s k, aOp P C ρ ⟨d, .assign x, t, p, af, g⟩ s k = k (ρ x) s) ∧
    (∀ ρ d c a b t p af g s k, aOp P C ρ ⟨d, .pick c a b, t, p, af, g⟩ s k = pickK (ρ a) (ρ b) k s (ρ c)) ∧
    (∀ ρ d y t p af g s k, aOp P C ρ ⟨d, .alloc y, t, p, af, g⟩ s k = opt (zeroAV P y) fun z => if C.ro d then k (.ep z.cells 0) s else k (.ptr s.next 0) (s.new (.cells z.cells))) ∧
    (∀ ρ d y x t p af g s k, aOp P C ρ ⟨d, .box y x, t, p, af, g⟩ s k = ((ρ x).cells.all AV.one = true ∧ if C.ro d then k (.ep (ρ x).cells 0) s else k (.ptr s.next 0) (s.new (.cells (ρ x).cells)))) ∧
    (∀ ρ d y parts t p af g s k, aOp P C ρ ⟨d, .build y parts, t, p, af, g⟩ s k = aBuild P y (parts.toList.map fun (i, x) => (i, ρ x)) fun d => k d s) ∧
    (∀ ρ d y n parts t p af g s k, aOp P C ρ ⟨d, .buildSlice y n parts, t, p, af, g⟩ s k = if C.ro d then ASemD P ρ ⟨d, .buildSlice y n parts, t, p, af, g⟩ s k else aBuildSlice P y n (parts.toList.map fun (i, x) => (i, ρ x)) fun d => k d s) ∧
    (∀ ρ d y a t p af g s k, aOp P C ρ ⟨d, .load y a, t, p, af, g⟩ s k = loadK P y s k (ρ a)) ∧
    (∀ ρ d y a x t p af g s k, aOp P C ρ ⟨d, .store y a x, t, p, af, g⟩ s k = storeK P y (ρ x) s k (ρ a)) ∧
    (∀ ρ d x t p af g s k, aOp P C ρ ⟨d, .nilCheck x, t, p, af, g⟩ s k = match ρ x with | .ep cs off => k (.ep cs off) s | .ptr id off => k (.ptr id off) s | .fn f a b => k (.fn f a b) s | .yl id => k (.yl id) s | _ => False) ∧
    (∀ ρ d op y a b z t p af g s k, aOp P C ρ ⟨d, .binOp op y a b z, t, p, af, g⟩ s k = binK P op y (ρ a) (ρ b) k s (binV op (ρ a).flatV (ρ b).flatV)) ∧
    (∀ ρ d op y x t p af g s k, aOp P C ρ ⟨d, .unOp op y x, t, p, af, g⟩ s k = match ρ x with | .v a => opt (unV op a) fun r => k (.v r) s | _ => False) ∧
    (∀ ρ d a b x t p af g s k, aOp P C ρ ⟨d, .convert a b x, t, p, af, g⟩ s k = match P.underlying a, P.underlying b, ρ x with
      | some _, some (.int q), .v (.int _ n) => k (.v (.int q (q.wrap n))) s
      | some _, some .string, .v (.string b) => k (.v (.string b)) s
      | _, _, _ => ASemD P ρ ⟨d, .convert a b x, t, p, af, g⟩ s k) ∧
    (∀ ρ d f a b t p af g s k, aOp P C ρ ⟨d, .makeFunc (.func f) a b, t, p, af, g⟩ s k = k (.fn f (a.toList.map ρ) (b.toList.map ρ)) s) ∧
    (∀ ρ d y l c t p af g s k, aOp P C ρ ⟨d, .makeSlice y l c, t, p, af, g⟩ s k = aMakeSlice P (C.ro d) y (ρ l) (ρ c) s k) ∧
    (∀ ρ d y x a b c t p af g s k, aOp P C ρ ⟨d, .slice y x a b c, t, p, af, g⟩ s k = aSlice P y (ρ x) (a.map ρ) (b.map ρ) (c.map ρ) fun d => k d s) ∧
    (∀ ρ d y x f t p af g s k, aOp P C ρ ⟨d, .fieldAddr y x f, t, p, af, g⟩ s k = match P.underlying y with
      | some (.struct fs) => opt (fs[f]?) fun fd => opt (szOf P fd.type) fun n => n ≠ 0 ∧ match ρ x with
        | .ep cs off => k (.ep cs (off + fd.offset)) s
        | .ptr id off => k (.ptr id (off + fd.offset)) s
        | _ => False
      | _ => False) ∧
    (∀ ρ d y x f t p af g s k, aOp P C ρ ⟨d, .field y x f, t, p, af, g⟩ s k = match P.underlying y, ρ x with
      | some (.struct fs), .agg cs => opt (fs[f]?) fun fd => opt (ldAV P fd.type cs fd.offset) fun d => k d s
      | _, _ => False) ∧
    (∀ ρ d y x i t p af g s k, aOp P C ρ ⟨d, .indexAddr y x i, t, p, af, g⟩ s k = aIndexAddr P y (ρ x) (ρ i) fun d => k d s) ∧
    (∀ ρ d y x i t p af g s k, aOp P C ρ ⟨d, .index y x i, t, p, af, g⟩ s k = aIndex P y (ρ x) (ρ i) fun d => k d s) ∧
    (∀ ρ d x i t p af g s k, aOp P C ρ ⟨d, .extract x i, t, p, af, g⟩ s k = match ρ x with | .tup cs => opt (cs[i]?) fun d => k d s | _ => False) ∧
    (∀ ρ d c t p af g s k, aOp P C ρ ⟨d, .call c, t, p, af, g⟩ s k = aCall P ρ c s k) := by
  refine ⟨?_, ?_, ?_, ?_, ?_, ?_, ?_, ?_, ?_, ?_, ?_, ?_, ?_, ?_, ?_, ?_, ?_, ?_, ?_, ?_, ?_, ?_⟩ <;> intros <;> first | rfl | skip
  all_goals first
    | (simp only [aOp, pickK]; split <;> rfl)
    | (simp only [aOp, loadK]; split <;> rfl)
    | (simp only [aOp, storeK]; split <;> rfl)
    | (simp only [aOp, binK, eqK]; split <;> first | rfl | (split <;> simp))

/-- Environments, constants, small things. -/
theorem EE :
    (∀ (e : Env) (d : Nat) (v : AV) (t : Nat), Env.set e (some d) v t = if t = d then v else e t) ∧
    (∀ (e : Env) (v : AV), Env.set e none v = e) ∧
    (∀ (e : Env) (t : Nat), Env.eval e (.tmp t) = e t) ∧
    (∀ (e : Env) (f : Nat), Env.eval e (.func f) = .fn f [] []) ∧
    (∀ (e : Env) (v : Value), Env.eval e (.const v) = ofConst v) ∧
    (∀ k n, ofConst (.int k n) = .v (.int k n)) ∧
    (∀ b, ofConst (.bool b) = .v (.bool b)) ∧
    (∀ x, ofConst (.string x) = .v (.string x)) ∧
    (ofConst (.slice none 0 0) = .v (.slice none 0 0)) ∧
    (ofConst (.pointer none) = .v (.pointer none)) ∧
    (ofConst (.map none) = .v (.map none)) ∧
    (ofConst .nilFunc = .v .nilFunc) ∧
    (ofConst .nilIface = .v .nilIface) ∧
    (∀ l t, envA l t = l.getD t AV.un) ∧
    (∀ t, envL [] t = .any) ∧
    (∀ k d r t, envL ((k, d) :: r) t = if t = k then d else envL r t) ∧
    (∀ cs, AV.cells (.agg cs) = cs) ∧
    (∀ x, AV.cells (.v x) = [.v x]) ∧
    (∀ a b c, AV.cells (.sl a b c) = [.sl a b c]) ∧
    (∀ a b c d, AV.cells (.ms a b c d) = [.ms a b c d]) ∧
    (∀ a b, AV.cells (.ep a b) = [.ep a b]) ∧
    (∀ a b, AV.cells (.ptr a b) = [.ptr a b]) ∧
    (∀ a, AV.cells (.mp a) = [.mp a]) ∧
    (∀ a b c, AV.cells (.fn a b c) = [.fn a b c]) ∧
    (∀ k n, AV.one (.v (.int k n)) = true) ∧
    (∀ n, AV.one (.v (.bool n)) = true) ∧
    (∀ n, AV.one (.v (.string n)) = true) ∧
    (∀ a b c, AV.one (.v (.slice a b c)) = true) ∧
    (∀ a, AV.one (.v (.pointer a)) = true) ∧
    (∀ a, AV.one (.v (.map a)) = true) ∧
    (AV.one (.v .nilFunc) = true) ∧
    (AV.one (.v .nilIface) = true) ∧
    (∀ a b c, AV.one (.sl a b c) = true) ∧
    (∀ a b c d, AV.one (.ms a b c d) = true) ∧
    (∀ a b, AV.one (.ep a b) = true) ∧
    (∀ a b, AV.one (.ptr a b) = true) ∧
    (∀ a, AV.one (.mp a) = true) ∧
    (∀ a b c, AV.one (.fn a b c) = true) ∧
    (∀ x, AV.untok (.v x) = .v x) ∧
    (∀ x, AV.untok (.agg x) = .agg x) ∧
    (∀ x, AV.untok (.tup x) = .tup x) ∧
    (∀ a b c, AV.untok (.sl a b c) = .sl a b .none) ∧
    (∀ a b c d, AV.untok (.ms a b c d) = .ms a b c d) ∧
    (∀ a b, AV.untok (.ep a b) = .ep a b) ∧
    (∀ a b, AV.untok (.ptr a b) = .ptr a b) ∧
    (∀ a, AV.untok (.mp a) = .mp a) ∧
    (∀ a b c, AV.untok (.fn a b c) = .fn a b c) ∧
    (∀ a, AV.untok (.yl a) = .yl a) ∧
    (∀ x, AV.flatV (.v x) = x) := by
  refine ⟨fun _ _ _ _ => rfl, fun _ _ => rfl, fun _ _ => rfl, fun _ _ => rfl, fun _ _ => rfl, fun _ _ => rfl, fun _ => rfl, fun _ => rfl, rfl, rfl, rfl, rfl, rfl, fun _ _ => rfl, fun _ => rfl, fun _ _ _ _ => rfl,
    fun _ => rfl, fun _ => rfl, fun _ _ _ => rfl, fun _ _ _ _ => rfl, fun _ _ => rfl, fun _ _ => rfl, fun _ => rfl, fun _ _ _ => rfl, fun _ _ => rfl, fun _ => rfl, fun _ => rfl, fun _ _ _ => rfl, fun _ => rfl, fun _ => rfl, rfl, rfl,
    fun _ _ _ => rfl, fun _ _ _ _ => rfl, fun _ _ => rfl, fun _ _ => rfl, fun _ => rfl, fun _ _ _ => rfl, fun _ => rfl, fun _ => rfl, fun _ => rfl, fun _ _ _ => rfl, fun _ _ _ _ => rfl, fun _ _ => rfl, fun _ _ => rfl, fun _ => rfl, fun _ _ _ => rfl, fun _ => rfl, fun _ => rfl⟩

/-- Operators. -/
theorem EB :
    (∀ k a b, binV .add (.int k a) (.int k b) = some (.int k (k.wrap (a + b)))) ∧
    (∀ k a b, binV .sub (.int k a) (.int k b) = some (.int k (k.wrap (a - b)))) ∧
    (∀ k a b, binV .mul (.int k a) (.int k b) = some (.int k (k.wrap (a * b)))) ∧
    (∀ k a b, binV .quo (.int k a) (.int k b) = if b = 0 then none else some (.int k (k.wrap (a.tdiv b)))) ∧
    (∀ k a b, binV .rem (.int k a) (.int k b) = if b = 0 then none else some (.int k (a.tmod b))) ∧
    (∀ k a b, binV .eql (.int k a) (.int k b) = some (.bool (decide (a = b)))) ∧
    (∀ k a b, binV .neq (.int k a) (.int k b) = some (.bool (decide (a ≠ b)))) ∧
    (∀ k a b, binV .lss (.int k a) (.int k b) = some (.bool (decide (a < b)))) ∧
    (∀ k a b, binV .leq (.int k a) (.int k b) = some (.bool (decide (a ≤ b)))) ∧
    (∀ k a b, binV .gtr (.int k a) (.int k b) = some (.bool (decide (b < a)))) ∧
    (∀ k a b, binV .geq (.int k a) (.int k b) = some (.bool (decide (b ≤ a)))) ∧
    (∀ k k' a b, binV .shl (.int k a) (.int k' b) = if b < 0 then none else some (.int k (k.wrap (a * 2 ^ (min b.toNat k.bits))))) ∧
    (∀ k k' a b, binV .shr (.int k a) (.int k' b) = if b < 0 then none else some (.int k (a.fdiv (2 ^ (min b.toNat k.bits))))) ∧
    (∀ k a b, binV .and (.int k a) (.int k b) = some (.int k (k.wrap (BitVec.ofInt k.bits a &&& BitVec.ofInt k.bits b).toNat))) ∧
    (∀ k a b, binV .or (.int k a) (.int k b) = some (.int k (k.wrap (BitVec.ofInt k.bits a ||| BitVec.ofInt k.bits b).toNat))) ∧
    (∀ k a b, binV .xor (.int k a) (.int k b) = some (.int k (k.wrap (BitVec.ofInt k.bits a ^^^ BitVec.ofInt k.bits b).toNat))) ∧
    (∀ k a b, binV .andNot (.int k a) (.int k b) = some (.int k (k.wrap (BitVec.ofInt k.bits a &&& ~~~BitVec.ofInt k.bits b).toNat))) ∧
    (∀ a b, binV .eql (.string a) (.string b) = some (.bool (a.toList == b.toList))) ∧
    (∀ a b, binV .neq (.string a) (.string b) = some (.bool !(a.toList == b.toList))) ∧
    (∀ a b, binV .lss (.string a) (.string b) = some (.bool (Op.bytesLess a.toList b.toList))) ∧
    (∀ a b, binV .gtr (.string a) (.string b) = some (.bool !(Op.bytesLess a.toList b.toList || a.toList == b.toList))) ∧
    (∀ a b, binV .leq (.string a) (.string b) = some (.bool (Op.bytesLess a.toList b.toList || a.toList == b.toList))) ∧
    (∀ a b, binV .geq (.string a) (.string b) = some (.bool !(Op.bytesLess a.toList b.toList))) ∧
    (∀ op x, binV op (.tuple x) (.tuple x) = none) ∧
    (∀ b, unV .not (.bool b) = some (.bool !b)) ∧
    (∀ k a, unV .neg (.int k a) = some (.int k (k.wrap (0 - a)))) := by
  refine ⟨?_, ?_, ?_, ?_, ?_, ?_, ?_, ?_, ?_, ?_, ?_, ?_, ?_, ?_, ?_, ?_, ?_, ?_, ?_, ?_, ?_, ?_, ?_, ?_, ?_, ?_⟩ <;> (intros; first | rfl | (simp [binV]; done) | skip)
  · rename_i k a b
    simp only [binV, if_true]
    congr 2
  · rename_i k a b
    simp only [binV, if_true]
    congr 2
    simp [bne, BEq.beq]

/-- What is at hand. -/
theorem EO :
    (∀ s o i, (AState.new s o).obj i = if i = s.next then some o else s.obj i) ∧
    (∀ s o, (AState.new s o).next = s.next + 1) ∧
    (∀ s o, (AState.new s o).base = s.base) ∧
    (∀ s id o i, (AState.set s id o).obj i = if i = id then some o else s.obj i) ∧
    (∀ s id o, (AState.set s id o).next = s.next) ∧
    (∀ s id o, (AState.set s id o).base = s.base) ∧
    (∀ n k : Nat, (n = n + k) = (k = 0)) ∧
    (∀ n k : Nat, (n + k = n) = (k = 0)) := by
  refine ⟨fun _ _ _ => rfl, fun _ _ => rfl, fun _ _ => rfl, fun _ _ _ _ => rfl, fun _ _ _ => rfl, fun _ _ _ => rfl, fun n k => ?_, fun n k => ?_⟩ <;> (apply propext; omega)

/-- The end of a body that only reckons. -/
theorem Ret_pure {P : Program} {rs : List ResultVar} {s s' : AState} {ex : Exit} {e : Env} {l : List AV} {r : AV} (hex : ex = .normal ∨ ex = .ret) (hm : s'.base.marks = []) (hl : resAll P e s' rs = some l)
    (hr : packAV l = r) (hk : Keeps s s') (hb : Bel s.next r) : Ret P rs s (fun d s2 => d = r ∧ s2 = s) ex e s' := by
  refine ⟨hex, hm, ?_⟩
  rw [hl]
  exact ⟨r, s, by rw [hr]; exact AFin.pure hk hb, rfl, rfl⟩

end Go.Av
