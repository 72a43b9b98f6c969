/- Part of the proof of a law of this seat: the texts AvLoop AvEq AvChain AvObj AvMap, in this order. -/
import Derived.Test.YtgbckhleokkhmaaC
import Derived.ChangeKeysEq
import Derived.RangeFuncRecord
import Derived.WideKeyRuns
import Derived.Maps.RangeRun
/- Loops: what comes behind may be told weaker; a loop of few rounds is unrolled. -/
namespace Go.Av
open Go
set_option linter.unusedVariables false
set_option linter.unusedSimpArgs false

section
variable {P : Program} {C : Cfg}

theorem aOps_mono {ops : Array Oper} {K K' : Env → AState → Prop} (hK : ∀ e s, K e s → K' e s) : ∀ (l : List Oper) (e : Env) (s : AState), aOps P C ops K l e s → aOps P C ops K' l e s
  | [], e, s, h => hK e s h
  | o :: rest, e, s, h => aGuard_mono (fun h => aOp_mono (fun d s' h => aOps_mono hK rest _ _ h) h) (fun h => aOps_mono hK rest _ _ h) h

theorem aOpsI_mono {ops : Array Oper} {K K' : Env → AState → Prop} (hK : ∀ e s, K e s → K' e s) : ∀ (l : List Nat) (e : Env) (s : AState), aOpsI P C ops K l e s → aOpsI P C ops K' l e s
  | [], e, s, h => hK e s h
  | i :: rest, e, s, h => by
    simp only [aOpsI] at h ⊢
    split at h
    · exact aOpsI_mono hK rest e s h
    · exact aGuard_mono (fun h => aOp_mono (fun d s' h => aOpsI_mono hK rest _ _ h) h) (fun h => aOpsI_mono hK rest _ _ h) h

theorem aDraw_mono {ops : Array Oper} {K K' : Env → AState → Prop} (hK : ∀ e s, K e s → K' e s) {e : Env} {s : AState} (h : aDraw P C ops K e s) : aDraw P C ops K' e s :=
  fun t => aOpsI_mono hK _ _ _ (h t)

theorem aeval_mono : ∀ (c : Code) {Q Q' : Post}, (∀ ex e s, Q ex e s → Q' ex e s) → ∀ {e : Env} {s : AState}, aeval P C c Q e s → aeval P C c Q' e s
  | .skip, Q, Q', hq, e, s, h => hq _ _ _ h
  | .label _, Q, Q', hq, e, s, h => hq _ _ _ h
  | .exit _, Q, Q', hq, e, s, h => hq _ _ _ h
  | .goto _, Q, Q', hq, e, s, h => hq _ _ _ h
  | .ret, Q, Q', hq, e, s, h => hq _ _ _ h
  | .region _ ops draw, Q, Q', hq, e, s, h => by
    simp only [aeval] at h ⊢
    cases draw with
    | true => exact aDraw_mono (hq .normal) h
    | false => exact aOps_mono (hq .normal) _ _ _ h
  | .seq x y, Q, Q', hq, e, s, h => by
    simp only [aeval] at h ⊢
    refine aeval_mono x (fun ex e s hx => ?_) h
    cases ex with
    | normal => exact aeval_mono y hq hx
    | _ => exact hq _ _ _ hx
  | .cond c t f, Q, Q', hq, e, s, h => by
    simp only [aeval, condK] at h ⊢
    split at h
    · exact ⟨fun hb => aeval_mono t hq (h.1 hb), fun hb => aeval_mono f hq (h.2 hb)⟩
    · exact h.elim
  | .block id b, Q, Q', hq, e, s, h => by
    simp only [aeval] at h ⊢
    refine aeval_mono b (fun ex e s hx => ?_) h
    cases ex with
    | exit i =>
      simp only [inBl] at hx ⊢
      split at hx
      · rename_i hi; rw [if_pos hi]; exact hq _ _ _ hx
      · rename_i hi; rw [if_neg hi]; exact hq _ _ _ hx
    | _ => exact hq _ _ _ hx
  | .loop b, Q, Q', hq, e, s, h => by
    obtain ⟨ι, pre, E, S, μ, i0, h1, h2, h3⟩ := h
    refine ⟨ι, pre, E, S, μ, i0, h1, h2, fun i hi => aeval_mono b (fun ex e s hx => ?_) (h3 i hi)⟩
    cases ex with
    | normal => exact hx
    | _ => exact hq _ _ _ hx
  | .rangeFunc _ _ _ _, Q, Q', hq, e, s, h => fun m T g0 w0 n g w a hb hr => wpIn_mono (h m T g0 w0 n g w a hb hr) fun ex a' w' ⟨e, s, g, hr, hx⟩ => ⟨e, s, g, hr, hq _ _ _ hx⟩
  | .scope b, Q, Q', hq, e, s, h => by
    simp only [aeval] at h ⊢
    refine aeval_mono b (fun ex e s hx => ?_) h
    cases ex with
    | goto l => exact hx
    | _ => exact hq _ _ _ hx
  | .refuse _, _, _, _, _, _, h => h.elim

/-- At most so many rounds more. -/
def AUn (P : Program) (C : Cfg) (b : Code) (Q : Post) : Nat → Env → AState → Prop
  | 0, _, _ => False
  | n + 1, e, s => aeval P C b (fun ex e' s' => match ex with | .normal => AUn P C b Q n e' s' | ex => Q ex e' s') e s

def unQ (F : Env → AState → Prop) (Q : Post) : Post := fun ex e s =>
  match ex with
  | .normal => F e s
  | ex => Q ex e s

theorem AUn_succ {b : Code} {Q : Post} {n : Nat} {e : Env} {s : AState} : AUn P C b Q (n + 1) e s = aeval P C b (thenQ (AUn P C b Q n) Q) e s := rfl

theorem ALoop_un {b : Code} {Q : Post} {n : Nat} {e : Env} {s : AState} (h : AUn P C b Q n e s) : ALoop (aeval P C b) Q e s := by
  refine ⟨Nat × Env × AState, fun i => AUn P C b Q i.1 i.2.1 i.2.2, fun i => i.2.1, fun i => i.2.2, fun i => i.1, (n, e, s), h, AEnt.refl _ _, fun ⟨n, e, s⟩ hi => ?_⟩
  cases n with
  | zero => exact hi.elim
  | succ n =>
    refine aeval_mono b (fun ex e' s' hx => ?_) hi
    cases ex with
    | normal => exact ⟨(n, e', s'), hx, Nat.lt_succ_self n, AEnt.refl _ _⟩
    | _ => exact hx

/-- The rounds of a loop, by what holds before each. -/
theorem ALoop_inv {ι : Type} (pre : ι → Prop) (E : ι → Env) (S : ι → AState) (μ : ι → Nat) (i0 : ι) {b : Code} {Q : Post} {e : Env} {s : AState} (h0 : pre i0) (hent : AEnt e s (E i0) (S i0))
    (h : ∀ i, pre i → aeval P C b (roundQ pre E S μ Q i) (E i) (S i)) : ALoop (aeval P C b) Q e s := ⟨ι, pre, E, S, μ, i0, h0, hent, h⟩

theorem ER :
    (∀ {ι : Type} (pre : ι → Prop) (E : ι → Env) (S : ι → AState) (μ : ι → Nat) (Q : Post) (i : ι) id e s, roundQ pre E S μ Q i (.exit id) e s = Q (.exit id) e s) ∧
    (∀ {ι : Type} (pre : ι → Prop) (E : ι → Env) (S : ι → AState) (μ : ι → Nat) (Q : Post) (i : ι) e s, roundQ pre E S μ Q i .ret e s = Q .ret e s) ∧
    (∀ {ι : Type} (pre : ι → Prop) (E : ι → Env) (S : ι → AState) (μ : ι → Nat) (Q : Post) (i : ι) l e s, roundQ pre E S μ Q i (.goto l) e s = Q (.goto l) e s) :=
  ⟨fun _ _ _ _ _ _ _ _ _ => rfl, fun _ _ _ _ _ _ _ _ => rfl, fun _ _ _ _ _ _ _ _ _ => rfl⟩

theorem round_next {ι : Type} {pre : ι → Prop} {E : ι → Env} {S : ι → AState} {μ : ι → Nat} {Q : Post} {i : ι} (j : ι) {e : Env} {s : AState} (h1 : pre j) (h2 : μ j < μ i) (h3 : AEnt e s (E j) (S j)) :
    roundQ pre E S μ Q i .normal e s := ⟨j, h1, h2, h3⟩

theorem AEnt_to {e : Env} {s : AState} {L : List (Nat × AV)} (hm : s.base.marks = []) (henv : ∀ p ∈ L, Wv s (e p.1) p.2) : AEnt e s (envL L) s := AEnt_same hm (fun _ _ _ _ _ _ _ _ => trivial) henv

/-- What was laid since is forgotten. -/
theorem AEnt_drop {e : Env} {s S : AState} {L : List (Nat × AV)} (hm : S.base.marks = []) (hb : S.base = s.base) (hlo : s.base.lo ≤ S.next) (hk : Keeps S s) (hS : ∀ id o, S.obj id = some o → id < S.next ∧ OBel S.next o)
    (henv : ∀ p ∈ L, Wv s (e p.1) p.2 ∧ Bel S.next p.2) : AEnt e s (envL L) S :=
  AEnt_mk hb hlo hk.1 (by rw [← hb, hm]; intro id h; cases h) (fun id o ho => ⟨(hS id o ho).1, by rw [hk.2 id (hS id o ho).1]; exact ho, .inr (hS id o ho).2⟩) fun p hp => ⟨(henv p hp).1, .inr (henv p hp).2⟩

/-- The values, one by one. -/
def EntL (s : AState) (e : Env) : List (Nat × AV) → Prop
  | [] => True
  | p :: r => Wv s (e p.1) p.2 ∧ EntL s e r
def EntB (s : AState) (n : Nat) (e : Env) : List (Nat × AV) → Prop
  | [] => True
  | p :: r => Wv s (e p.1) p.2 ∧ Bel n p.2 ∧ EntB s n e r

theorem EntL_all {s : AState} {e : Env} : ∀ {L : List (Nat × AV)}, EntL s e L → ∀ p ∈ L, Wv s (e p.1) p.2
  | _ :: _, h, p, hp => by
    rcases List.mem_cons.1 hp with rfl | hp
    · exact h.1
    · exact EntL_all h.2 p hp
theorem EntB_all {s : AState} {n : Nat} {e : Env} : ∀ {L : List (Nat × AV)}, EntB s n e L → ∀ p ∈ L, Wv s (e p.1) p.2 ∧ Bel n p.2
  | _ :: _, h, p, hp => by
    rcases List.mem_cons.1 hp with rfl | hp
    · exact ⟨h.1, h.2.1⟩
    · exact EntB_all h.2.2 p hp

theorem ent {e : Env} {s : AState} {L : List (Nat × AV)} (hm : s.base.marks = []) (h : EntL s e L) : AEnt e s (envL L) s := AEnt_to hm (EntL_all h)

theorem EW :
    (∀ s d, Wv s d d = True) ∧
    (∀ s es l k, Wv s (.sl es l k) (.sl es l .none) = True) ∧
    (∀ s e, EntL s e [] = True) ∧
    (∀ s e k d r, EntL s e ((k, d) :: r) = (Wv s (e k) d ∧ EntL s e r)) ∧
    (∀ s n e, EntB s n e [] = True) ∧
    (∀ s n e k d r, EntB s n e ((k, d) :: r) = (Wv s (e k) d ∧ Bel n d ∧ EntB s n e r)) ∧
    (∀ (k : Nat) (d : AV) (r : List (Nat × AV)) (t : Nat), envL ((k, d) :: r) t = if t = k then d else envL r t) := by
  refine ⟨fun s d => ?_, fun s es l k => ?_, fun _ _ => rfl, fun _ _ _ _ _ => rfl, fun _ _ _ => rfl, fun _ _ _ _ _ _ => rfl, fun _ _ _ _ => rfl⟩
  · exact eq_true (.inl rfl)
  · exact eq_true (.inr (.inl rfl))

theorem Wv_nil {s : AState} {es : Nat} (h : 0 < es) : Wv s (.v (.slice none 0 0)) (.sl es [] .none) = True := eq_true (.inr (.inr ⟨rfl, es, .none, rfl, h, .inl rfl⟩))
theorem Wv_row {s : AState} {es id : Nat} (h : 0 < es) (ho : s.obj id = some (.row 0)) : Wv s (.v (.slice none 0 0)) (.sl es [] (.row id 0)) = True := eq_true (.inr (.inr ⟨rfl, es, _, rfl, h, .inr (.inr ⟨id, rfl, ho⟩)⟩))

/-! ### The end of a body, told weaker -/
theorem OBel.mono {n m : Nat} {o : AObj} (h : OBel n o) (hle : n ≤ m) : OBel m o := by
  cases o with
  | cells cs => exact fun c hc => (h c hc).mono hle
  | row e => trivial
  | map es => exact fun p hp => ⟨(h p hp).1.mono hle, (h p hp).2.mono hle⟩
  | iter m n seen => exact Nat.lt_of_lt_of_le h hle
  | loop e ps nt asg body st pend D => exact ⟨Nat.lt_of_lt_of_le h.1 hle, fun t => (h.2 t).mono hle⟩
  | defd => trivial

theorem AState.Wf.new {s : AState} (h : s.Wf) {o : AObj} (ho : OBel (s.next + 1) o) : (s.new o).Wf := by
  intro id o' h'
  simp only [AState.new] at h' ⊢
  split at h'
  · rename_i e; subst e; cases h'; exact ⟨Nat.lt_succ_self _, ho⟩
  · exact ⟨Nat.lt_succ_of_lt (h id o' h').1, (h id o' h').2.mono (Nat.le_succ _)⟩
theorem AState.Wf.base {s : AState} (h : s.Wf) (b : FBase) : AState.Wf { s with base := b } := h

def WvL (s : AState) : List AV → List AV → Prop
  | [], [] => True
  | a :: l, b :: m => Wv s a b ∧ WvL s l m
  | _, _ => False

theorem WvL_len {s : AState} : ∀ {l m : List AV}, WvL s l m → l.length = m.length
  | [], [], _ => rfl
  | _ :: _, _ :: _, h => by simp [WvL_len h.2]
theorem WvL_get {s : AState} : ∀ {l m : List AV}, WvL s l m → ∀ i, i < m.length → Wv s (l.getD i AV.un) (m.getD i AV.un)
  | [], [], _, i, hi => absurd hi (by simp)
  | [], _ :: _, h, _, _ => h.elim
  | _ :: _, [], h, _, _ => h.elim
  | _ :: _, _ :: _, h, 0, _ => h.1
  | _ :: _, _ :: _, h, i + 1, hi => by simpa using WvL_get h.2 i (by simpa using hi)

theorem WvL_pack {s : AState} {g : Gh} {w : World} {v : Value} {l m : List AV} (h : WvL s l m) (hi : Inv g s w) (hR : R g w v (packAV l)) : R g w v (packAV m) := by
  match l, m, h with
  | [], [], _ => exact hR
  | [], _ :: _, h => exact h.elim
  | _ :: _, [], h => exact h.elim
  | [_], _ :: _ :: _, h => exact h.2.elim
  | _ :: _ :: _, [_], h => exact h.2.elim
  | [a], [b], h => exact h.1.R hi hR
  | a :: b :: l, a' :: b' :: m, h =>
    have e1 : packAV (a :: b :: l) = .tup (a :: b :: l) := rfl
    have e2 : packAV (a' :: b' :: m) = .tup (a' :: b' :: m) := rfl
    rw [e1] at hR; rw [e2]
    cases hR with
    | tup hs hr => exact .tup (by rw [hs, WvL_len h]) fun i hi' => (WvL_get h i hi').R hi (hr i (by rw [WvL_len h]; exact hi'))

theorem AFin.weak {s s' : AState} {l m : List AV} {d2 : AV} {s2 : AState} (hw : WvL s' l m) (h : AFin s (packAV m) s' d2 s2) : AFin s (packAV l) s' d2 s2 :=
  fun T g0 w0 g w v h0 hi hR hE hT0 hT => h T g0 w0 g w v h0 hi (WvL_pack hw hi hR) hE hT0 hT

/-- The end of a body that only reckons, its results told weaker. -/
theorem Ret_weak {P : Program} {rs : List ResultVar} {s s' : AState} {ex : Exit} {e : Env} {l m : List AV} {r : AV} (hex : ex = .normal ∨ ex = .ret) (hm : s'.base.marks = []) (hl : resAll P e s' rs = some l) (hw : WvL s' l m)
    (hr : packAV m = r) (hk : Keeps s s') (hb : Bel s.next r) : Ret P rs s (fun d s2 => d = r ∧ s2 = s) ex e s' := by
  refine ⟨hex, hm, ?_⟩
  rw [hl]
  exact ⟨r, s, by rw [← hr]; exact AFin.weak hw (AFin.pure hk (by rw [hr]; exact hb)), rfl, rfl⟩

end
end Go.Av

/- Two values held against each other: structs, arrays, pointers and the like. -/
namespace Go.Av
open Go
set_option linter.unusedVariables false
set_option linter.unusedSimpArgs false

def eqFs (P : Program) (F : TypeId → AV → AV → Option Bool) (xs ys : List AV) : List Field → Option Bool
  | [] => some true
  | f :: fs => if f.name = "_" then none else
    (ldAV P f.type xs f.offset).bind fun a => (ldAV P f.type ys f.offset).bind fun b => (F f.type a b).bind fun r => (eqFs P F xs ys fs).map (r && ·)

def eqIs (P : Program) (F : TypeId → AV → AV → Option Bool) (e : TypeId) (n : Nat) (xs ys : List AV) : List Nat → Option Bool
  | [] => some true
  | i :: is =>
    (ldAV P e xs (i * n)).bind fun a => (ldAV P e ys (i * n)).bind fun b => (F e a b).bind fun r => (eqIs P F e n xs ys is).map (r && ·)

def eqAV (P : Program) : Nat → TypeId → AV → AV → Option Bool
  | 0, _, _, _ => none
  | d + 1, t, x, y =>
    match P.underlying t, x, y with
    | some .bool, .v (.bool a), .v (.bool b) => some (a == b)
    | some (.int _), .v (.int k a), .v (.int k' b) => if k = k' then some (a == b) else none
    | some .string, .v (.string a), .v (.string b) => some (a.toList == b.toList)
    | some (.struct fs), .agg xs, .agg ys => if P.stoodInHeld t then none else eqFs P (eqAV P d) xs ys fs.toList
    | some (.array n e), .agg xs, .agg ys => if (P.info? e).isSome then eqIs P (eqAV P d) e (P.cellsOf e) xs ys (List.range n) else none
    | _, _, _ => none

def EqOk (P : Program) (d : Nat) (F : TypeId → AV → AV → Option Bool) : Prop :=
  ∀ t x y b g w u v, F t x y = some b → R g w u x → R g w v y → (Op.equalIn d t u v).run P w = .ok b w

theorem eqFs_sound {P : Program} {d : Nat} {F : TypeId → AV → AV → Option Bool} (hF : EqOk P d F) {g : Gh} {w : World} {us vs : Array Value} {xs ys : List AV} (hx : R g w (.agg us) (.agg xs)) (hy : R g w (.agg vs) (.agg ys)) :
    ∀ (fs : List Field) (b : Bool), eqFs P F xs ys fs = some b → (Op.eqFields d us vs fs).run P w = .ok b w
  | [], b, h => by
    simp only [eqFs, Option.some.injEq] at h
    subst h; rfl
  | f :: fs, b, h => by
    simp only [eqFs] at h
    split at h
    · cases h
    rename_i hn
    obtain ⟨a, ha, h⟩ := Option.bind_eq_some_iff.1 h
    obtain ⟨c, hc, h⟩ := Option.bind_eq_some_iff.1 h
    obtain ⟨r, hr, h⟩ := Option.bind_eq_some_iff.1 h
    obtain ⟨q, hq, rfl⟩ := Option.map_eq_some_iff.1 h
    obtain ⟨u, hu, hu'⟩ := part_sound ha hx
    obtain ⟨v, hv, hv'⟩ := part_sound hc hy
    have h1 := hF _ _ _ _ g w u v hr hu' hv'
    simp only [Op.eqFields, ne_eq, hn, not_false_eq_true, if_true, Sem.run_bind, hu, hv, h1, Result.andThen_ok]
    cases r with
    | false => rfl
    | true => simpa using eqFs_sound hF hx hy fs q hq

theorem eqIs_sound {P : Program} {d : Nat} {F : TypeId → AV → AV → Option Bool} (hF : EqOk P d F) {e : TypeId} {n : Nat} {g : Gh} {w : World} {us vs : Array Value} {xs ys : List AV} (hx : R g w (.agg us) (.agg xs)) (hy : R g w (.agg vs) (.agg ys)) :
    ∀ (is : List Nat) (b : Bool), eqIs P F e n xs ys is = some b → (Op.eqItems d e n us vs is).run P w = .ok b w
  | [], b, h => by
    simp only [eqIs, Option.some.injEq] at h
    subst h; rfl
  | i :: is, b, h => by
    simp only [eqIs] at h
    obtain ⟨a, ha, h⟩ := Option.bind_eq_some_iff.1 h
    obtain ⟨c, hc, h⟩ := Option.bind_eq_some_iff.1 h
    obtain ⟨r, hr, h⟩ := Option.bind_eq_some_iff.1 h
    obtain ⟨q, hq, rfl⟩ := Option.map_eq_some_iff.1 h
    obtain ⟨u, hu, hu'⟩ := part_sound ha hx
    obtain ⟨v, hv, hv'⟩ := part_sound hc hy
    have h1 := hF _ _ _ _ g w u v hr hu' hv'
    simp only [Op.eqItems, Sem.run_bind, hu, hv, h1, Result.andThen_ok]
    cases r with
    | false => rfl
    | true => simpa using eqIs_sound hF hx hy is q hq

theorem eqAV_sound {P : Program} (d : Nat) : ∀ (m : Nat), EqOk P (d + m) (eqAV P m)
  | 0 => fun t x y b g w u v h => by simp [eqAV] at h
  | m + 1 => fun t x y b g w u v h hx hy => by
    simp only [eqAV] at h
    split at h
    · rename_i hu
      simp only [Option.some.injEq] at h; subst h
      obtain ⟨rfl, _⟩ := hx.flat_eq; obtain ⟨rfl, _⟩ := hy.flat_eq
      exact run_equalIn_bool w _ t _ _ hu
    · rename_i hu
      split at h
      · rename_i hk
        simp only [Option.some.injEq] at h; subst h; subst hk
        obtain ⟨rfl, _⟩ := hx.flat_eq; obtain ⟨rfl, _⟩ := hy.flat_eq
        exact run_equalIn_int w _ t _ _ _ _ hu
      · cases h
    · rename_i hu
      simp only [Option.some.injEq] at h; subst h
      obtain ⟨rfl, _⟩ := hx.flat_eq; obtain ⟨rfl, _⟩ := hy.flat_eq
      exact run_equalIn_string w _ t _ _ hu
    · rename_i fs xs ys hu
      split at h
      · cases h
      rename_i hs
      have hf : P.fieldsOf t = fs := by simp [Program.fieldsOf, hu]
      cases hx with
      | agg a1 a2 a3 =>
      cases hy with
      | agg b1 b2 b3 =>
      show (Op.equalIn ((d + m) + 1) t _ _).run P w = _
      rw [run_equalIn_struct w _ t _ _ (by rw [hf]; exact hu) (by simpa using hs), hf]
      exact eqFs_sound (eqAV_sound d m) (.agg a1 a2 a3) (.agg b1 b2 b3) _ _ h
    · rename_i n e xs ys hu
      split at h
      · rename_i hi
        obtain ⟨i, hi⟩ := Option.isSome_iff_exists.1 hi
        cases hx with
        | agg a1 a2 a3 =>
        cases hy with
        | agg b1 b2 b3 =>
        show (Op.equalIn ((d + m) + 1) t _ _).run P w = _
        rw [run_equalIn_array w (d + m) _ _ hu hi]
        exact eqIs_sound (eqAV_sound d m) (.agg a1 a2 a3) (.agg b1 b2 b3) _ _ h
      · cases h
    · cases h

/-- Structs and arrays. -/
theorem AEq_agg {P : Program} {t : TypeId} {xs ys : List AV} {b : Bool} (hg : P.eqGuardType P.depth t = false) (h : eqAV P 20 t (.agg xs) (.agg ys) = some b) : AEq P t (.agg xs) (.agg ys) b := by
  intro g w u v hx hy ox oy
  have h1 := eqAV_sound 9980 20 t _ _ b g w u v h hx hy
  cases hx with
  | agg a1 a2 a3 =>
  cases hy with
  | agg b1 b2 b3 =>
  constructor
  · rw [Sem.run_bind, run_eqGuard_agg w _ _ _ _ _ _ hg, Result.andThen_ok, run_eql_struct]
    rw [show (10000 : Nat) = 9980 + 20 from rfl, h1]; rfl
  · rw [Sem.run_bind, run_eqGuard_agg w _ _ _ _ _ _ hg, Result.andThen_ok, run_neq_struct]
    rw [show (10000 : Nat) = 9980 + 20 from rfl, h1]; rfl

/-- What the test of two values comes to, where no guard stands ahead. -/
theorem AEq_of {P : Program} {t : TypeId} {x y : AV} {b : Bool} (h : ∀ g w u v, R g w u x → R g w v y → (∀ op ox oy, (eqGuard op t ox oy u v) = pure ()) ∧ (binOp .eql t u v).run P w = ((Op.equalIn 10000 t u v).run P w).andThen (fun b w' => .ok (.bool b) w') ∧
    (binOp .neq t u v).run P w = ((Op.equalIn 10000 t u v).run P w).andThen (fun b w' => .ok (.bool (!b)) w') ∧ ∀ d, (Op.equalIn (d + 1) t u v).run P w = .ok b w) : AEq P t x y b := by
  intro g w u v hx hy ox oy
  obtain ⟨h1, h2, h3, h4⟩ := h g w u v hx hy
  constructor
  · rw [h1, Sem.run_bind, Sem.run_pure, Result.andThen_ok, h2, show (10000 : Nat) = 9999 + 1 from rfl, h4]; rfl
  · rw [h1, Sem.run_bind, Sem.run_pure, Result.andThen_ok, h3, show (10000 : Nat) = 9999 + 1 from rfl, h4]; rfl

theorem eql_ptr {P : Program} {t : TypeId} {a b : Option Addr} {w : World} : (∀ op ox oy, (eqGuard op t ox oy (.pointer a) (.pointer b)) = pure ()) ∧
    (binOp .eql t (.pointer a) (.pointer b)).run P w = ((Op.equalIn 10000 t (.pointer a) (.pointer b)).run P w).andThen (fun b w' => .ok (.bool b) w') ∧
    (binOp .neq t (.pointer a) (.pointer b)).run P w = ((Op.equalIn 10000 t (.pointer a) (.pointer b)).run P w).andThen (fun b w' => .ok (.bool (!b)) w') := by
  refine ⟨fun op ox oy => by cases op <;> rfl, ?_, ?_⟩
  · simp only [binOp]; simp [Op.equal, Op.maxDepth]
  · simp only [binOp]; simp [Op.equal, Op.maxDepth]

/-- A pointer against nil. -/
theorem AEq_nil {P : Program} {t e : TypeId} (hu : P.underlying t = some (.pointer e)) : AEq P t (.v (.pointer none)) (.v (.pointer none)) true := by
  refine AEq_of fun g w u v hx hy => ?_
  obtain ⟨rfl, _⟩ := hx.flat_eq; obtain ⟨rfl, _⟩ := hy.flat_eq
  exact ⟨(eql_ptr (P := P) (w := w)).1, eql_ptr.2.1, eql_ptr.2.2, fun d => by simp [Op.equalIn, run_underlying hu]⟩
theorem AEq_ep {P : Program} {t e : TypeId} {cs : List AV} {off : Nat} (hu : P.underlying t = some (.pointer e)) : AEq P t (.ep cs off) (.v (.pointer none)) false := by
  refine AEq_of fun g w u v hx hy => ?_
  obtain ⟨rfl, _⟩ := hy.flat_eq
  cases hx with
  | ep vs h1 h2 h3 h4 h5 => exact ⟨(eql_ptr (P := P) (w := w)).1, eql_ptr.2.1, eql_ptr.2.2, fun d => by simp [Op.equalIn, run_underlying hu]⟩
theorem AEq_ptr {P : Program} {t e : TypeId} {id off : Nat} (hu : P.underlying t = some (.pointer e)) : AEq P t (.ptr id off) (.v (.pointer none)) false := by
  refine AEq_of fun g w u v hx hy => ?_
  obtain ⟨rfl, _⟩ := hy.flat_eq
  cases hx with
  | ptr h1 h2 => exact ⟨(eql_ptr (P := P) (w := w)).1, eql_ptr.2.1, eql_ptr.2.2, fun d => by simp [Op.equalIn, run_underlying hu]⟩

theorem eql_sl {P : Program} {t : TypeId} {a b : Option Addr} {m n m' n' : Nat} {w : World} : (∀ op ox oy, (eqGuard op t ox oy (.slice a m n) (.slice b m' n')) = pure ()) ∧
    (binOp .eql t (.slice a m n) (.slice b m' n')).run P w = ((Op.equalIn 10000 t (.slice a m n) (.slice b m' n')).run P w).andThen (fun b w' => .ok (.bool b) w') ∧
    (binOp .neq t (.slice a m n) (.slice b m' n')).run P w = ((Op.equalIn 10000 t (.slice a m n) (.slice b m' n')).run P w).andThen (fun b w' => .ok (.bool (!b)) w') := by
  refine ⟨fun op ox oy => by cases op <;> rfl, ?_, ?_⟩
  · simp only [binOp]; simp [Op.equal, Op.maxDepth]
  · simp only [binOp]; simp [Op.equal, Op.maxDepth]

/-- A slice against nil. -/
theorem AEq_slnil {P : Program} {t e : TypeId} (hu : P.underlying t = some (.slice e)) : AEq P t (.v (.slice none 0 0)) (.v (.slice none 0 0)) true := by
  refine AEq_of fun g w u v hx hy => ?_
  obtain ⟨rfl, _⟩ := hx.flat_eq; obtain ⟨rfl, _⟩ := hy.flat_eq
  exact ⟨(eql_sl (P := P) (w := w)).1, eql_sl.2.1, eql_sl.2.2, fun d => by simp [Op.equalIn, run_underlying hu]⟩
theorem AEq_slnn {P : Program} {t e : TypeId} {es : Nat} {l : List (List AV)} (hu : P.underlying t = some (.slice e)) : AEq P t (.sl es l .nn) (.v (.slice none 0 0)) false := by
  refine AEq_of fun g w u v hx hy => ?_
  obtain ⟨rfl, _⟩ := hy.flat_eq
  cases hx with
  | slnil he hk => exact hk.elim
  | sl vs hsp hl hc he hes hcell h h1 hb hx hk => exact ⟨(eql_sl (P := P) (w := w)).1, eql_sl.2.1, eql_sl.2.2, fun d => by simp [Op.equalIn, run_underlying hu]⟩

/-- A slice is nil, or it is not. -/
theorem R.split {g : Gh} {w : World} {v : Value} {es : Nat} {l : List (List AV)} (h : R g w v (.sl es l .none)) : (l = [] ∧ R g w v (.v (.slice none 0 0))) ∨ R g w v (.sl es l .nn) := by
  cases h with
  | slnil he hk => exact .inl ⟨rfl, .v rfl⟩
  | sl vs hsp hl hc he hes hcell h h1 hb hx hk => exact .inr (.sl vs hsp hl hc he hes hcell h h1 hb hx trivial)

theorem ACalls_split {P : Program} {f : FuncId} {pre post : List AV} {es : Nat} {l : List (List AV)} {s : AState} {k : AV → AState → Prop} (h1 : l = [] → ACalls P f (pre ++ .v (.slice none 0 0) :: post) s k)
    (h2 : ACalls P f (pre ++ .sl es l .nn :: post) s k) : ACalls P f (pre ++ .sl es l .none :: post) s k := by
  refine ⟨h2.1, fun T g w vs hi ht hRL => ?_⟩
  have key : ∀ d, R g w (vs.getD pre.length undef) d → RL g w vs (pre ++ d :: post) := by
    intro d hd
    refine ⟨by rw [hRL.1]; simp, fun i hi => ?_⟩
    have h0 := hRL.2 i (by simpa using hi)
    by_cases hip : i = pre.length
    · subst hip
      rw [List.getD_eq_getElem?_getD, List.getD_eq_getElem?_getD, List.getElem?_append_right (Nat.le_refl _)]
      simp only [Nat.sub_self, List.getElem?_cons_zero, Option.getD_some]
      rw [List.getD_eq_getElem?_getD] at hd
      exact hd
    · have e : (pre ++ d :: post).getD i AV.un = (pre ++ AV.sl es l .none :: post).getD i AV.un := by
        rw [List.getD_eq_getElem?_getD, List.getD_eq_getElem?_getD]
        rcases Nat.lt_or_ge i pre.length with hlt | hge
        · rw [List.getElem?_append_left hlt, List.getElem?_append_left hlt]
        · rw [List.getElem?_append_right hge, List.getElem?_append_right hge]
          obtain ⟨q, hq⟩ : ∃ q, i - pre.length = q + 1 := ⟨i - pre.length - 1, by omega⟩
          rw [hq, List.getElem?_cons_succ, List.getElem?_cons_succ]
      rw [e]; exact h0
  have hd := hRL.2 pre.length (by simp)
  have e : (pre ++ AV.sl es l .none :: post).getD pre.length AV.un = AV.sl es l .none := by
    rw [List.getD_eq_getElem?_getD, List.getElem?_append_right (Nat.le_refl _)]; simp
  rw [e] at hd
  rcases hd.split with ⟨hl, hR⟩ | hR
  · exact (h1 hl).2 T g w vs hi ht (key _ hR)
  · exact h2.2 T g w vs hi ht (key _ hR)

theorem eqK_use {P : Program} {t : TypeId} {x y : AV} {b neg : Bool} {k : AV → AState → Prop} {s : AState} (h : AEq P t x y b) (hk : k (.v (.bool (if neg then !b else b))) s) : eqK P neg t x y k s := ⟨b, h, hk⟩

end Go.Av

/- Regions whose order is drawn, with a few operations that change what is at hand: these stand in a chain, the others yield the same at every link. -/
namespace Go.Av
open Go
set_option linter.unusedVariables false
set_option linter.unusedSimpArgs false

section
variable {P : Program} {C : Cfg} {ops : Array Oper} {L : List AState} {fl : Nat → Bool} {U : Nat → Nat} {md : Region.Mode}

/-- What an operation yields at a link of the chain. -/
def YC (P : Program) (C : Cfg) (ops : Array Oper) (L : List AState) (u : Nat) (o : Oper) : Bool → AV → Env → Nat → Prop
  | true, d, e, k => Wants ops o e = some true ∧ ∃ st st', L[k]? = some st ∧ L[k + 1]? = some st' ∧ aOp P C e.eval o st (fun d' s' => d' = d ∧ s' = st')
  | false, d, e, k => (Wants ops o e = some true ∧ ∀ st ∈ L.take u, aOp P C e.eval o st (fun d' s' => d' = d ∧ s' = st)) ∨ (Wants ops o e = some false ∧ d = AV.un)

def mv (b : Bool) (k : Nat) : Nat := if b then k + 1 else k

theorem YC.of_set {o : Oper} {b : Bool} {d v : AV} {u : Nat} {e : Env} {k : Nat} {dst : Option Tmp} (h : ∀ t, dst = some t → t ∉ o.looksAt ops) : YC P C ops L u o b d (e.set dst v) k ↔ YC P C ops L u o b d e k := by
  cases b <;> simp only [YC, Wants_set h, aOp_set h]

def qC (P : Program) (C : Cfg) (ops : Array Oper) (L : List AState) (fl : Nat → Bool) (U : Nat → Nat) (i : Nat) (K : Env → Nat → Prop) (e : Env) (k : Nat) : Prop :=
  match ops[i]? with
  | none => K e k
  | some o => ∃ d, YC P C ops L (U i) o (fl i) d e k ∧ K (e.set o.dst d) (mv (fl i) k)

def cAny (P : Program) (C : Cfg) (md : Region.Mode) (ops : Array Oper) (L : List AState) (fl : Nat → Bool) (U : Nat → Nat) (K : Env → Nat → Prop) : Nat → Array Bool → Env → Nat → Prop
  | 0, listed, e, k => Region.ready md ops listed = [] ∧ K e k
  | fuel + 1, listed, e, k =>
    (Region.ready md ops listed = [] → K e k) ∧ ∀ i ∈ Region.ready md ops listed, qC P C ops L fl U i (cAny P C md ops L fl U K fuel (listed.setIfInBounds i true)) e k

/-- One stands behind another, if through others. -/
inductive Conn (md : Region.Mode) (ops : Array Oper) (i : Nat) : Nat → Prop
  | edge {j : Nat} {oj : Oper} {x : Edge} (h : ops[j]? = some oj) (hx : x ∈ oj.after) (hb : Region.binds md x = true) (ho : x.on = i) : Conn md ops i j
  | step {j : Nat} {oj : Oper} {x : Edge} (h : ops[j]? = some oj) (hx : x ∈ oj.after) (hb : Region.binds md x = true) (hc : Conn md ops i x.on) : Conn md ops i j

theorem cAny_first {K : Env → Nat → Prop} {i : Nat} {oi : Oper} {v : AV} (hi : ops[i]? = some oi) :
    ∀ (fuel : Nat) (listed : Array Bool) (e : Env) (k : Nat),
      (∀ j oj, ops[j]? = some oj → j ≠ i → listed.getD j true = false → (∀ x ∈ oj.after, Region.binds md x = true → x.on ≠ i) → oi.apart ops oj = true) →
      (∀ j oj, ops[j]? = some oj → j ≠ i → listed.getD j true = false → fl i = true → fl j = true → Conn md ops i j) → (∀ m, Conn md ops i m → listed.getD m true = false) →
      i ∈ Region.ready md ops listed → YC P C ops L (U i) oi (fl i) v e k →
      cAny P C md ops L fl U K fuel (listed.setIfInBounds i true) (e.set oi.dst v) (mv (fl i) k) → cAny P C md ops L fl U K (fuel + 1) listed e k := by
  intro fuel
  induction fuel with
  | zero =>
    intro listed e k _ _ _ hr hy H
    refine ⟨fun h => (by rw [h] at hr; cases hr), fun j hj => ?_⟩
    by_cases hji : j = i
    · subst hji; unfold qC; simp only [hi]; exact ⟨v, hy, H⟩
    · have := ready_mono hj hji
      rw [H.1] at this
      cases this
  | succ fuel ih =>
    intro listed e k hfree hflag hdesc hr hy H
    refine ⟨fun h => (by rw [h] at hr; cases hr), fun j hj => ?_⟩
    by_cases hji : j = i
    · subst hji; unfold qC; simp only [hi]; exact ⟨v, hy, H⟩
    · have h1 := H.2 j (ready_mono hj hji)
      obtain ⟨hjun, oj, hoj, hall⟩ := mem_ready.1 hj
      have hnot : ∀ x ∈ oj.after, Region.binds md x = true → x.on ≠ i := fun x he hb heq => by
        have h1 := hall x he hb
        have h0 := (mem_ready.1 hr).1
        rw [heq] at h1
        rcases Nat.lt_or_ge i listed.size with h' | h'
        · simp [h'] at h0 h1; rw [h0] at h1; cases h1
        · simp [Array.getElem?_eq_none h'] at h1
      have hnc : ¬ Conn md ops i j := fun hc => by
        cases hc with
        | edge h hx hb ho =>
          rw [hoj] at h; cases h
          exact hnot _ hx hb ho
        | step h hx hb hc =>
          rw [hoj] at h; cases h
          have h1 := hall _ hx hb
          have h2 := hdesc _ hc
          rw [Array.getD_eq_getD_getElem?] at h1 h2
          revert h1 h2
          generalize listed[(_ : Edge).on]? = q
          cases q with
          | none => intro _ h; cases h
          | some b => intro h h'; simp only [Option.getD_some] at h h'; rw [h] at h'; cases h'
      have hone : fl i = false ∨ fl j = false := by
        cases e1 : fl i with
        | false => exact .inl rfl
        | true =>
          cases e2 : fl j with
          | false => exact .inr rfl
          | true =>
            exact absurd (hflag j oj hoj hji hjun e1 e2) hnc
      obtain ⟨ap1, ap2, ap3⟩ := Oper.apart_spec (hfree j oj hoj hji hjun hnot)
      unfold qC at h1 ⊢
      simp only [hoj] at h1 ⊢
      obtain ⟨u, hu, hK⟩ := h1
      rw [YC.of_set ap1] at hu
      have hu' : YC P C ops L (U j) oj (fl j) u e k := by
        rcases hone with h | h
        · rw [h] at hu; exact hu
        · rw [h] at hu ⊢; exact hu
      have hy' : YC P C ops L (U i) oi (fl i) v (e.set oj.dst u) (mv (fl j) k) := by
        rw [YC.of_set ap3]
        rcases hone with h | h
        · rw [h] at hy ⊢; exact hy
        · rw [h]; exact hy
      refine ⟨u, hu', ih (listed.setIfInBounds j true) _ _ ?_ ?_ ?_ (ready_mono hr (Ne.symm hji)) hy' ?_⟩
      · intro q oq hq hqi hun hno
        refine hfree q oq hq hqi ?_ hno
        by_cases hjk : j = q
        · subst hjk; exact hjun
        · rw [getD_set_ne true hjk] at hun; exact hun
      · intro q oq hq hqi hun
        refine hflag q oq hq hqi ?_
        by_cases hjk : j = q
        · subst hjk; exact hjun
        · rw [getD_set_ne true hjk] at hun; exact hun
      · intro m hm
        have hmj : j ≠ m := fun e => hnc (e ▸ hm)
        rw [getD_set_ne true hmj]
        exact hdesc m hm
      · rw [Array.setIfInBounds_comm _ _ hji, ← Env.set_comm e v u ap2]
        have : mv (fl i) (mv (fl j) k) = mv (fl j) (mv (fl i) k) := by cases fl i <;> cases fl j <;> rfl
        rw [this]
        exact hK

/-- The operations as they stand. -/
def cWalk (P : Program) (C : Cfg) (ops : Array Oper) (L : List AState) (fl : Nat → Bool) (U : Nat → Nat) (K : Env → Nat → Prop) : List Oper → Nat → Env → Nat → Prop
  | [], _, e, k => K e k
  | o :: rest, n, e, k => ∃ d, YC P C ops L (U n) o (fl n) d e k ∧ cWalk P C ops L fl U K rest (n + 1) (e.set o.dst d) (mv (fl n) k)

/-- Those that change stand in a chain. -/
def dirB (md : Region.Mode) (ops : Array Oper) (i j : Nat) : Bool := ((ops[j]?).map fun o => o.after.toList.any fun x => Region.binds md x && x.on == i).getD true
def connB (md : Region.Mode) (ops : Array Oper) (fl : Nat → Bool) (i : Nat) : Nat → Nat → Bool
  | 0, j => dirB md ops i j
  | f + 1, j => dirB md ops i j || (List.range j).any fun m => fl m && (dirB md ops m j && connB md ops fl i f m)
def flagsB (md : Region.Mode) (ops : Array Oper) (fl : Nat → Bool) : Bool :=
  (List.range ops.size).all fun i => !fl i || (List.range ops.size).all fun j => !decide (i < j) || !fl j || connB md ops fl i 4 j

theorem dirB_spec {i j : Nat} {oj : Oper} (hj : ops[j]? = some oj) (h : dirB md ops i j = true) : ∃ x ∈ oj.after, Region.binds md x = true ∧ x.on = i := by
  simp only [dirB, hj, Option.map_some, Option.getD_some, List.any_eq_true, Bool.and_eq_true, beq_iff_eq] at h
  obtain ⟨x, hx, hb, ho⟩ := h
  exact ⟨x, by simpa using hx, hb, ho⟩
theorem connB_spec {i : Nat} : ∀ (f : Nat) {j : Nat} {oj : Oper}, ops[j]? = some oj → connB md ops fl i f j = true → Conn md ops i j
  | 0, j, oj, hj, h => by
    obtain ⟨x, hx, hb, ho⟩ := dirB_spec hj h
    exact .edge hj hx hb ho
  | f + 1, j, oj, hj, h => by
    simp only [connB, Bool.or_eq_true, List.any_eq_true, List.mem_range, Bool.and_eq_true] at h
    rcases h with h | ⟨m, hm, _, h1, h2⟩
    · obtain ⟨x, hx, hb, ho⟩ := dirB_spec hj h
      exact .edge hj hx hb ho
    · obtain ⟨x, hx, hb, ho⟩ := dirB_spec hj h1
      have hlt : m < ops.size := Nat.lt_trans hm (Array.getElem?_eq_some_iff.1 hj).1
      have := connB_spec f (j := m) (Array.getElem?_eq_getElem hlt) h2
      exact .step hj hx hb (by rw [ho]; exact this)
theorem flags_spec (h : flagsB md ops fl = true) {i j : Nat} {oj : Oper} (hi : i < ops.size) (hj : ops[j]? = some oj) (hij : i < j) (h1 : fl i = true) (h2 : fl j = true) : Conn md ops i j := by
  simp only [flagsB, List.all_eq_true, List.mem_range, Bool.or_eq_true, Bool.not_eq_true', decide_eq_false_iff_not] at h
  have hjl : j < ops.size := (Array.getElem?_eq_some_iff.1 hj).1
  rcases h i hi with h | h
  · rw [h1] at h; cases h
  · rcases h j hjl with (h | h) | h
    · exact absurd hij h
    · rw [h2] at h; cases h
    · exact connB_spec 4 hj h

/-- All that a listed operation stands behind is listed. -/
def Closed (md : Region.Mode) (ops : Array Oper) (listed : Array Bool) : Prop := ∀ j o, ops[j]? = some o → listed.getD j true = true → ∀ x ∈ o.after, Region.binds md x = true → listed.getD x.on true = true

theorem Conn.listed {i m : Nat} {listed : Array Bool} (hcl : Closed md ops listed) (h : Conn md ops i m) (hm : listed.getD m true = true) : listed.getD i true = true := by
  induction h with
  | edge h hx hb ho => rw [← ho]; exact hcl _ _ h hm _ hx hb
  | step h hx hb hc ih => exact ih (hcl _ _ h hm _ hx hb)

theorem cAny_lex {K : Env → Nat → Prop} (hF : flagsB md ops fl = true) : ∀ (l : List Oper) (n : Nat) (listed : Array Bool) (e : Env) (k : Nat), (∀ j, l[j]? = ops[n + j]?) → (∀ j, j < n → listed.getD j true = true) → (∀ j, n ≤ j → j < ops.size → listed.getD j true = false) → Closed md ops listed →
    Region.lexFrom md ops l.length n listed = true → cWalk P C ops L fl U K l n e k → cAny P C md ops L fl U K l.length listed e k
  | [], _, _, _, _, _, _, _, _, hB, h => ⟨by simpa [Region.lexFrom] using hB, h⟩
  | o :: l, n, listed, e, k, hl, hli, hnl, hcl, hB, h => by
    have h0 : ops[n]? = some o := by simpa using (hl 0).symm
    simp only [List.length_cons, Region.lexFrom, Bool.and_eq_true] at hB
    obtain ⟨⟨hr, hf⟩, hB'⟩ := hB
    obtain ⟨v, hy, hK⟩ := h
    have hns := (Array.getElem?_eq_some_iff.1 h0).1
    have hun0 : listed.getD n true = false := hnl n (Nat.le_refl _) hns
    refine cAny_first h0 l.length listed e k (Region.free_spec h0 hf) ?_ (fun m hm => ?_) (by simpa using hr) hy
      (cAny_lex hF l (n + 1) _ _ _ (fun j => by have := hl (j + 1); simpa [Nat.add_assoc, Nat.add_comm 1 j] using this) ?_ (fun j hj hjs => ?_) (fun j o' hj hlj x hx hb => ?_) hB' hK)
    · intro j oj hj hne hun h1 h2
      have : n < j := by
        rcases Nat.lt_or_ge j n with h | h
        · rw [hli j h] at hun; cases hun
        · omega
      exact flags_spec hF (Array.getElem?_eq_some_iff.1 h0).1 hj this h1 h2
    · cases hq : listed.getD m true with
      | false => rfl
      | true => rw [hm.listed hcl hq] at hun0; cases hun0
    · intro j hj
      by_cases hjn : n = j
      · subst hjn
        rw [Array.getD_eq_getD_getElem?]
        rcases Nat.lt_or_ge n listed.size with h | h
        · rw [Array.getElem?_setIfInBounds_self_of_lt h]; rfl
        · rw [Array.getElem?_eq_none (by simpa using h)]; rfl
      · rw [getD_set_ne true hjn]; exact hli j (by omega)
    · rw [getD_set_ne true (by omega)]; exact hnl j (by omega) hjs
    · have hmono : ∀ q, listed.getD q true = true → (listed.setIfInBounds n true).getD q true = true := fun q hq => by
        by_cases hqn : n = q
        · subst hqn; rw [hun0] at hq; cases hq
        · rw [getD_set_ne true hqn]; exact hq
      by_cases hjn : n = j
      · subst hjn
        rw [h0] at hj; cases hj
        obtain ⟨_, oo, hoo, hall⟩ := mem_ready.1 (show n ∈ Region.ready md ops listed by simpa using hr)
        rw [h0] at hoo; cases hoo
        have h1 := hall x hx hb
        refine hmono _ ?_
        rw [Array.getD_eq_getD_getElem?] at h1 ⊢
        cases hq : listed[x.on]? with
        | none => rfl
        | some b => rw [hq] at h1; exact h1
      · rw [getD_set_ne true hjn] at hlj
        exact hmono _ (hcl j o' hj hlj x hx hb)

/-- How many of those that change something stand still to come; how many stand behind operation i. -/
def remF (ops : Array Oper) (fl : Nat → Bool) (listed : Array Bool) : Nat := (List.range ops.size).countP fun j => fl j && !listed.getD j true
def cntF (md : Region.Mode) (ops : Array Oper) (fl : Nat → Bool) (i : Nat) : Nat := (List.range ops.size).countP fun j => fl j && ((ops[j]?).map fun o => o.after.toList.any fun x => Region.binds md x && x.on == i).getD false

theorem countP_lt {α : Type} {p q : α → Bool} : ∀ (l : List α), (∀ x ∈ l, q x = true → p x = true) → (∃ x ∈ l, p x = true ∧ q x = false) → l.countP q + 1 ≤ l.countP p
  | [], _, h => by obtain ⟨x, hx, _⟩ := h; cases hx
  | a :: l, h1, h2 => by
    have hmono : l.countP q ≤ l.countP p := List.countP_mono_left fun x hx => h1 x (by simp [hx])
    obtain ⟨x, hx, hp, hq⟩ := h2
    rcases List.mem_cons.1 hx with rfl | hx
    · simp only [List.countP_cons, hp, hq]; simp; omega
    · have := countP_lt l (fun x hx => h1 x (by simp [hx])) ⟨x, hx, hp, hq⟩
      have h3 := h1 a (by simp)
      simp only [List.countP_cons]
      cases hqa : q a with
      | true => rw [h3 hqa]; simp; omega
      | false => simp only [Bool.false_eq_true, if_false]; split <;> omega

theorem cAny_sound {K : Env → AState → Prop} (hU : ∀ i, fl i = false → L.length ≤ U i + cntF md ops fl i) : ∀ (fuel t : Nat) (listed : Array Bool) (e : Env) (k : Nat) (s : AState), L[k]? = some s → listed.size = ops.size → Closed md ops listed → k + remF ops fl listed + 1 ≤ L.length →
    cAny P C md ops L fl U (fun e' k' => ∃ st, L[k']? = some st ∧ K e' st) fuel listed e k →
    aOpsI P C ops K (Region.linearise.go md ops fuel t listed []) e s := by
  intro fuel
  induction fuel with
  | zero =>
    intro t listed e k s hs _ _ _ h
    obtain ⟨st, h1, h2⟩ := h.2
    rw [hs] at h1; cases h1
    simpa [Region.linearise.go, aOpsI] using h2
  | succ fuel ih =>
    intro t listed e k s hs hsz hcl hrem h
    obtain ⟨h₀, h₁⟩ := h
    simp only [Region.linearise.go]
    change aOpsI P C ops K (match (Region.ready md ops listed)[t % (Region.ready md ops listed).length]? with
      | some i => Region.linearise.go md ops fuel (t / (Region.ready md ops listed).length) (listed.setIfInBounds i true) [i]
      | none => [].reverse) e s
    cases hi : (Region.ready md ops listed)[t % (Region.ready md ops listed).length]? with
    | none =>
      have hnil : Region.ready md ops listed = [] := by
        cases hr : Region.ready md ops listed with
        | nil => rfl
        | cons x xs =>
          rw [hr] at hi
          have hlt : t % (x :: xs).length < (x :: xs).length := Nat.mod_lt _ (by simp)
          simp at hi
          simp at hlt
          omega
      obtain ⟨st, h1, h2⟩ := h₀ hnil
      rw [hs] at h1; cases h1
      simpa [aOpsI] using h2
    | some i =>
      simp only []
      rw [linearise_go_acc, List.reverse_singleton, List.singleton_append]
      have hir := List.mem_of_getElem? hi
      have h2 := h₁ i hir
      obtain ⟨hun, o', ho', hall⟩ := mem_ready.1 hir
      have hil : i < ops.size := (Array.getElem?_eq_some_iff.1 ho').1
      have hunt : listed.getD i true = false := by
        rw [Array.getD_eq_getD_getElem?, Array.getElem?_eq_getElem (by rw [hsz]; exact hil)] at hun ⊢
        exact hun
      have hall' : ∀ x ∈ o'.after, Region.binds md x = true → listed.getD x.on true = true := fun x hx hb => by
        have := hall x hx hb
        rw [Array.getD_eq_getD_getElem?] at this ⊢
        cases hq : listed[x.on]? with
        | none => rfl
        | some b => rw [hq] at this; exact this
      have hset : ∀ j, (listed.setIfInBounds i true).getD j true = if j = i then true else listed.getD j true := fun j => by
        by_cases hj : j = i
        · subst hj
          rw [if_pos rfl, Array.getD_eq_getD_getElem?, Array.getElem?_setIfInBounds_self_of_lt (by rw [hsz]; exact hil)]; rfl
        · rw [if_neg hj, Array.getD_eq_getD_getElem?, Array.getElem?_setIfInBounds_ne (Ne.symm hj), ← Array.getD_eq_getD_getElem?]
      have hcl' : Closed md ops (listed.setIfInBounds i true) := by
        intro j o hj hl x hx hb
        rw [hset] at hl ⊢
        split
        · rfl
        · split at hl
          · rename_i e; subst e; rw [ho'] at hj; cases hj; exact hall' x hx hb
          · exact hcl j o hj hl x hx hb
      have hrem0 : remF ops fl (listed.setIfInBounds i true) ≤ remF ops fl listed := by
        refine List.countP_mono_left fun j _ hj => ?_
        rw [hset] at hj
        split at hj
        · simp at hj
        · exact hj
      have hrem1 : fl i = true → remF ops fl (listed.setIfInBounds i true) + 1 ≤ remF ops fl listed := fun hf => by
        refine countP_lt _ (fun j _ hj => ?_) ⟨i, List.mem_range.2 hil, by rw [hf, hunt]; rfl, by rw [hset, if_pos rfl]; simp⟩
        rw [hset] at hj
        split at hj
        · simp at hj
        · exact hj
      have hsz' : (listed.setIfInBounds i true).size = ops.size := by simpa using hsz
      simp only [aOpsI]
      unfold qC at h2
      split
      · rename_i h0
        rw [ho'] at h0; cases h0
      · rename_i o h0
        simp only [h0] at h2
        obtain ⟨d, hy, hK⟩ := h2
        unfold aGuard
        cases hf : fl i with
        | true =>
          rw [hf] at hy hK
          obtain ⟨hw, st, st', h3, h4, h5⟩ := hy
          rw [hs] at h3; cases h3
          rw [hw]
          have := hrem1 hf
          exact ⟨fun _ => aOp_mono (k := fun d' s' => d' = d ∧ s' = st') (fun d' s' hh => by obtain ⟨e1, e2⟩ := hh; subst e1; subst e2; exact ih _ _ _ _ _ h4 hsz' hcl' (by omega) hK) h5, fun h => by cases h⟩
        | false =>
          rw [hf] at hy hK
          have hcnt : cntF md ops fl i ≤ remF ops fl listed := by
            refine List.countP_mono_left fun j _ hj => ?_
            simp only [Bool.and_eq_true] at hj ⊢
            refine ⟨hj.1, ?_⟩
            cases hoj : ops[j]? with
            | none => rw [hoj] at hj; simp at hj
            | some oj =>
              rw [hoj] at hj
              simp only [Option.map_some, Option.getD_some, List.any_eq_true, Bool.and_eq_true, beq_iff_eq] at hj
              obtain ⟨_, x, hx, hb, hxi⟩ := hj
              cases hlj : listed.getD j true with
              | false => rfl
              | true =>
                have := hcl j oj hoj hlj x (by simpa using hx) hb
                rw [hxi, hunt] at this; cases this
          have hin : s ∈ L.take (U i) := by
            have := hU i hf
            have hkl : k < L.length := (List.getElem?_eq_some_iff.1 hs).1
            have : (L.take (U i))[k]? = some s := by rw [List.getElem?_take, if_pos (by omega)]; exact hs
            exact List.mem_of_getElem? this
          rcases hy with ⟨hw, h3⟩ | ⟨hw, rfl⟩
          · rw [hw]
            exact ⟨fun _ => aOp_mono (k := fun d' s' => d' = d ∧ s' = s) (fun d' s' hh => by obtain ⟨e1, e2⟩ := hh; rw [e1, e2]; exact ih _ _ _ _ _ hs hsz' hcl' (by omega) hK) (h3 s hin), fun h => by cases h⟩
          · rw [hw]
            exact ⟨fun h => (by cases h), fun _ => ih _ _ _ _ _ hs hsz' hcl' (by omega) hK⟩

/-! As simp is to take it. -/
def flO (bs : List (Option Nat)) (i : Nat) : Bool :=
  match bs[i]? with
  | some none => true
  | _ => false
def uO (bs : List (Option Nat)) (n i : Nat) : Nat :=
  match bs[i]? with
  | some (some u) => u
  | _ => n
/-- Each stands early enough. -/
def limB (md : Region.Mode) (ops : Array Oper) (bs : List (Option Nat)) (n : Nat) : Bool :=
  decide (remF ops (flO bs) (Array.replicate ops.size false) + 1 ≤ n) && (List.range bs.length).all fun i => flO bs i || decide (n ≤ uO bs n i + cntF md ops (flO bs) i)

theorem limB_U {bs : List (Option Nat)} {n : Nat} (h : limB md ops bs n = true) (i : Nat) (hf : flO bs i = false) : n ≤ uO bs n i + cntF md ops (flO bs) i := by
  simp only [limB, Bool.and_eq_true, List.all_eq_true, List.mem_range, Bool.or_eq_true, decide_eq_true_eq] at h
  rcases Nat.lt_or_ge i bs.length with hi | hi
  · rcases h.2 i hi with h | h
    · rw [hf] at h; cases h
    · exact h
  · have : bs[i]? = none := List.getElem?_eq_none hi
    simp only [uO, this]; omega

/-- The operations as they stand, with their marks. -/
def cR (P : Program) (C : Cfg) (ops : Array Oper) (L : List AState) (K : Env → AState → Prop) : List Oper → List (Option Nat) → Nat → Env → Prop
  | [], _, k, e => opt L[k]? (K e)
  | o :: rest, none :: bs, k, e => ∃ d, YC P C ops L 0 o true d e k ∧ cR P C ops L K rest bs (k + 1) (e.set o.dst d)
  | o :: rest, some u :: bs, k, e => aGuard ops o e (∃ d, (∀ st ∈ L.take u, aOp P C e.eval o st (fun d' s' => d' = d ∧ s' = st)) ∧ cR P C ops L K rest bs k (e.set o.dst d)) (cR P C ops L K rest bs k (e.set o.dst AV.un))
  | _ :: _, [], _, _ => False

theorem cWalk_of_cR {K : Env → AState → Prop} : ∀ (l : List Oper) (bs : List (Option Nat)) (n : Nat) (e : Env) (k : Nat), (∀ j b, bs[j]? = some b → fl (n + j) = b.isNone ∧ ∀ u, b = some u → U (n + j) = u) → cR P C ops L K l bs k e →
    cWalk P C ops L fl U (fun e' k' => ∃ st, L[k']? = some st ∧ K e' st) l n e k
  | [], bs, n, e, k, _, h => by
    simp only [cR] at h
    cases hL : L[k]? with
    | none => rw [hL] at h; exact h.elim
    | some st => rw [hL] at h; exact ⟨st, hL, h⟩
  | o :: rest, [], n, e, k, _, h => by simp only [cR] at h
  | o :: rest, b :: bs, n, e, k, hb, h => by
    obtain ⟨hn, hu⟩ := hb 0 b rfl
    rw [Nat.add_zero] at hn hu
    have hb' : ∀ j b, bs[j]? = some b → fl (n + 1 + j) = b.isNone ∧ ∀ u, b = some u → U (n + 1 + j) = u := fun j c hc => by
      have := hb (j + 1) c (by simpa using hc)
      rwa [show n + (j + 1) = n + 1 + j by omega] at this
    simp only [cWalk]
    cases b with
    | none =>
      rw [hn]
      simp only [cR] at h
      obtain ⟨d, hy, hK⟩ := h
      exact ⟨d, hy, cWalk_of_cR rest bs (n + 1) _ _ hb' hK⟩
    | some u =>
      rw [hn, hu u rfl]
      simp only [cR] at h
      unfold aGuard at h
      cases hw : Wants ops o e with
      | none => rw [hw] at h; exact h.elim
      | some w =>
        rw [hw] at h
        cases w with
        | true =>
          obtain ⟨d, h1, h2⟩ := h.1 rfl
          exact ⟨d, .inl ⟨hw, h1⟩, cWalk_of_cR rest bs (n + 1) _ _ hb' h2⟩
        | false => exact ⟨AV.un, .inr ⟨hw, rfl⟩, cWalk_of_cR rest bs (n + 1) _ _ hb' (h.2 rfl)⟩

end

/-- A region whose order is drawn, some of whose operations change what is at hand, in a chain L. -/
theorem aDraw_chain {P : Program} {C : Cfg} {ops : Array Oper} {K : Env → AState → Prop} {e : Env} {s : AState} (L : List AState) (bs : List (Option Nat)) (hm : P.follows .mixedOrders = true) (hB : Region.lexB .any ops = true)
    (hF : flagsB .any ops (flO bs) = true) (hU : limB .any ops bs L.length = true) (hL : L[0]? = some s) (h : cR P C ops L K ops.toList bs 0 e) : aDraw P C ops K e s := by
  simp only [Region.lexB, Bool.and_eq_true] at hB
  intro t
  simp only [Region.schedule, hm, Bool.true_or, if_true]
  have hw := cWalk_of_cR (fl := flO bs) (U := uO bs L.length) ops.toList bs 0 e 0 (fun j b hj => by
    refine ⟨?_, fun u hu => ?_⟩
    · simp only [flO, Nat.zero_add, hj]; cases b <;> rfl
    · subst hu; simp only [uO, Nat.zero_add, hj]) h
  have := cAny_lex (P := P) (C := C) (L := L) (md := .any) hF ops.toList 0 (Array.replicate ops.size false) e 0 (by simp) (fun j hj => by omega) (fun j _ hj => by rw [Array.getD_eq_getD_getElem?, Array.getElem?_replicate, if_pos hj]; rfl) (fun j o hj hl => by
    have hlt := (Array.getElem?_eq_some_iff.1 hj).1
    rw [Array.getD_eq_getD_getElem?, Array.getElem?_replicate, if_pos hlt] at hl
    cases hl) (by simpa using hB.2) hw
  refine cAny_sound (limB_U hU) ops.size t _ e 0 s hL (by simp) (fun j o hj hl => ?_) ?_ (by simpa using this)
  · have hlt := (Array.getElem?_eq_some_iff.1 hj).1
    rw [Array.getD_eq_getD_getElem?, Array.getElem?_replicate, if_pos hlt] at hl
    cases hl
  · simp only [limB, Bool.and_eq_true, decide_eq_true_eq] at hU
    omega

/-! ### The rules -/
def eqv (d : AV) (st : AState) (d' : AV) (s' : AState) : Prop := d' = d ∧ s' = st
/-- A call at every link. -/
def exQ (P : Program) (C : Cfg) (L : List AState) (o : Oper) (e : Env) (F : Env → Prop) : Prop := ∃ d, (∀ st ∈ L, aOp P C e.eval o st (fun d' s' => d' = d ∧ s' = st)) ∧ F (e.set o.dst d)
def kC (P : Program) (C : Cfg) (o : Oper) (e : Env) (F : Env → Prop) (st0 : AState) : List AState → AV → AState → Prop
  | [], d, s' => s' = st0 ∧ F (e.set o.dst d)
  | st :: r, d, s' => aOp P C e.eval o st (eqv d st) ∧ kC P C o e F st0 r d s'
def kF (st' : AState) (F : Env → Prop) (e : Env) (dst : Option Nat) (d : AV) (s' : AState) : Prop := s' = st' ∧ F (e.set dst d)
/-- An operation of the machine's own word that changes something. -/
def exF (P : Program) (C : Cfg) (a b : AState) (o : Oper) (e : Env) (F : Env → Prop) : Prop := ∃ d, aOp P C e.eval o a (fun d' s' => d' = d ∧ s' = b) ∧ F (e.set o.dst d)
def flS (P : Program) (C : Cfg) (o : Oper) (e : Env) (F : Env → Prop) : Option AState → Option AState → Prop
  | some a, some b => if detOp o = true then aOp P C e.eval o a (kF b F e o.dst) else exF P C a b o e F
  | _, _ => False
def stepC (P : Program) (C : Cfg) (o : Oper) (F : Env → Prop) : List AState → Env → Prop
  | [], e => False
  | st0 :: r, e => if detOp o = true then aOp P C e.eval o st0 (kC P C o e F st0 r) else exQ P C (st0 :: r) o e F

theorem kC_spec {P : Program} {C : Cfg} {o : Oper} {e : Env} {F : Env → Prop} {st0 : AState} : ∀ {r : List AState} {d : AV} {s' : AState}, kC P C o e F st0 r d s' → s' = st0 ∧ (∀ st ∈ r, aOp P C e.eval o st (fun d' s' => d' = d ∧ s' = st)) ∧ F (e.set o.dst d)
  | [], d, s', h => ⟨h.1, fun _ hh => (by cases hh), h.2⟩
  | st :: r, d, s', h => by
    obtain ⟨h1, h2, h3⟩ := kC_spec h.2
    refine ⟨h1, fun q hq => ?_, h3⟩
    rcases List.mem_cons.1 hq with rfl | hq
    · exact h.1
    · exact h2 q hq

theorem stepC_ex {P : Program} {C : Cfg} {o : Oper} {F : Env → Prop} {L : List AState} {e : Env} (h : stepC P C o F L e) : ∃ d, (∀ st ∈ L, aOp P C e.eval o st (fun d' s' => d' = d ∧ s' = st)) ∧ F (e.set o.dst d) := by
  cases L with
  | nil => exact h.elim
  | cons st0 r =>
    simp only [stepC] at h
    split at h
    · rename_i hd
      obtain ⟨d, s', h1, h2⟩ := aOp_det hd h
      obtain ⟨rfl, h3, h4⟩ := kC_spec h1
      refine ⟨d, fun st hst => ?_, h4⟩
      rcases List.mem_cons.1 hst with rfl | hst
      · exact h2 _ ⟨rfl, rfl⟩
      · exact h3 st hst
    · exact h

theorem flS_ex {P : Program} {C : Cfg} {o : Oper} {F : Env → Prop} {e : Env} {a b : Option AState} (h : flS P C o e F a b) : ∃ d, (∃ st st', a = some st ∧ b = some st' ∧ aOp P C e.eval o st (fun d' s' => d' = d ∧ s' = st')) ∧ F (e.set o.dst d) := by
  cases a with
  | none => exact h.elim
  | some st =>
    cases b with
    | none => exact h.elim
    | some st' =>
      simp only [flS] at h
      split at h
      · rename_i hd
        obtain ⟨d, s', ⟨rfl, h1⟩, h2⟩ := aOp_det hd h
        exact ⟨d, ⟨st, _, rfl, rfl, h2 _ ⟨rfl, rfl⟩⟩, h1⟩
      · obtain ⟨d, h1, h2⟩ := h
        exact ⟨d, ⟨st, _, rfl, rfl, h1⟩, h2⟩

/-- The operations as they stand: as simp is to take them. -/
def cS (P : Program) (C : Cfg) (ops : Array Oper) (L : List AState) (K : Env → AState → Prop) : List Oper → List (Option Nat) → Nat → Env → Prop
  | [], _, k, e => opt L[k]? (K e)
  | ⟨d, op, t, p, af, none⟩ :: rest, none :: bs, k, e => flS P C ⟨d, op, t, p, af, none⟩ e (cS P C ops L K rest bs (k + 1)) L[k]? L[k + 1]?
  | ⟨d, op, t, p, af, none⟩ :: rest, some u :: bs, k, e => stepC P C ⟨d, op, t, p, af, none⟩ (cS P C ops L K rest bs k) (L.take u) e
  | ⟨d, op, t, p, af, some (j, w)⟩ :: rest, some u :: bs, k, e => guardR (gval ops j e) w (stepC P C ⟨d, op, t, p, af, some (j, w)⟩ (cS P C ops L K rest bs k) (L.take u)) (skipR d (cS P C ops L K rest bs k)) e
  | _ :: _, _, _, _ => False

theorem guardR_mono {v : AV} {w : Bool} {A A' B B' : Env → Prop} {e : Env} (hA : A e → A' e) (hB : B e → B' e) (h : guardR v w A B e) : guardR v w A' B' e := by
  unfold guardR at h ⊢
  split at h
  · exact ⟨fun x => hA (h.1 x), fun x => hB (h.2 x)⟩
  · exact hB h
  · exact h.elim

theorem cR_of_cS {P : Program} {C : Cfg} {ops : Array Oper} {L : List AState} {K : Env → AState → Prop} : ∀ (l : List Oper) (bs : List (Option Nat)) (k : Nat) (e : Env), cS P C ops L K l bs k e → cR P C ops L K l bs k e
  | [], bs, k, e, h => by simp only [cS] at h; simp only [cR]; exact h
  | ⟨d, op, t, p, af, none⟩ :: rest, none :: bs, k, e, h => by
    simp only [cS] at h
    simp only [cR, YC]
    obtain ⟨v, ⟨st, st', h1, h2, h3⟩, hK⟩ := flS_ex h
    exact ⟨v, ⟨rfl, st, st', h1, h2, h3⟩, cR_of_cS rest bs (k + 1) _ hK⟩
  | ⟨d, op, t, p, af, none⟩ :: rest, some u :: bs, k, e, h => by
    simp only [cS] at h
    simp only [cR]
    obtain ⟨v, h1, hK⟩ := stepC_ex h
    exact ⟨fun _ => ⟨v, h1, cR_of_cS rest bs k _ hK⟩, fun h => by cases h⟩
  | ⟨d, op, t, p, af, some (j, w)⟩ :: rest, some u :: bs, k, e, h => by
    simp only [cS] at h
    simp only [cR]
    refine (aGuard_someR ops d op t p af j w e (fun e => ∃ d', (∀ st ∈ L.take u, aOp P C e.eval ⟨d, op, t, p, af, some (j, w)⟩ st (fun d'' s' => d'' = d' ∧ s' = st)) ∧ cR P C ops L K rest bs k (e.set d d')) (fun e => cR P C ops L K rest bs k (e.set d AV.un))).symm ▸ ?_
    exact guardR_mono (fun h => let ⟨v, h1, hK⟩ := stepC_ex h; ⟨v, h1, cR_of_cS rest bs k _ hK⟩) (fun h => cR_of_cS rest bs k _ h) h
  | ⟨d, op, t, p, af, some (j, w)⟩ :: rest, none :: bs, k, e, h => by simp only [cS] at h
  | ⟨d, op, t, p, af, none⟩ :: rest, [], k, e, h => by simp only [cS] at h
  | ⟨d, op, t, p, af, some (j, w)⟩ :: rest, [], k, e, h => by simp only [cS] at h

theorem EX (P : Program) (C : Cfg) :
    (∀ o e F st0 d s', kC P C o e F st0 [] d s' = (s' = st0 ∧ F (e.set o.dst d))) ∧
    (∀ o e F st0 st r d s', kC P C o e F st0 (st :: r) d s' = (aOp P C e.eval o st (eqv d st) ∧ kC P C o e F st0 r d s')) ∧
    (∀ o F e a b, flS P C o e F (some a) (some b) = if detOp o = true then aOp P C e.eval o a (kF b F e o.dst) else exF P C a b o e F) :=
  ⟨fun _ _ _ _ _ _ => rfl, fun _ _ _ _ _ _ _ _ => rfl, fun _ _ _ _ _ => rfl⟩
theorem EY :
    (∀ d st d' s', eqv d st d' s' = (d' = d ∧ s' = st)) ∧
    (∀ st' F e dst d s', kF st' F e dst d s' = (s' = st' ∧ F (e.set dst d))) := ⟨fun _ _ _ _ => rfl, fun _ _ _ _ _ _ => rfl⟩

theorem EH (P : Program) (C : Cfg) :
    (∀ ops L K bs k e, cS P C ops L K [] bs k e = opt L[k]? (K e)) ∧
    (∀ ops L K d op t p af rest bs k e, cS P C ops L K (⟨d, op, t, p, af, none⟩ :: rest) (none :: bs) k e = flS P C ⟨d, op, t, p, af, none⟩ e (cS P C ops L K rest bs (k + 1)) L[k]? L[k + 1]?) ∧
    (∀ ops L K d op t p af rest u bs k e, cS P C ops L K (⟨d, op, t, p, af, none⟩ :: rest) (some u :: bs) k e = stepC P C ⟨d, op, t, p, af, none⟩ (cS P C ops L K rest bs k) (L.take u) e) ∧
    (∀ ops L K d op t p af j w rest u bs k e, cS P C ops L K (⟨d, op, t, p, af, some (j, w)⟩ :: rest) (some u :: bs) k e =
      guardR (gval ops j e) w (stepC P C ⟨d, op, t, p, af, some (j, w)⟩ (cS P C ops L K rest bs k) (L.take u)) (skipR d (cS P C ops L K rest bs k)) e) ∧
    (∀ o F st0 r e, stepC P C o F (st0 :: r) e = if detOp o = true then aOp P C e.eval o st0 (kC P C o e F st0 r) else exQ P C (st0 :: r) o e F) := by
  refine ⟨fun _ _ _ _ _ _ => by simp only [cS], ?_, ?_, ?_, fun _ _ _ _ _ => rfl⟩ <;> (intros; simp only [cS])

/-- A call in such a region. -/
theorem qcallC {P : Program} {C : Cfg} {L : List AState} {d : Option Nat} {t : TypeId} {p : String} {af : Array Edge} {gd : Option (Nat × Bool)} {f : Operand} {cargs : Array Operand} {ts : Array TypeId} {e : Env} {F : Env → Prop}
    {g : Nat} {args : List AV} {r : AV} (h : APure P g args r) {first cap : List AV} (hf : e.eval f = .fn g first cap) (ha : (first ++ cargs.toList.map e.eval ++ cap).map AV.untok = args) (hK : F (e.set d r)) :
    exQ P C L ⟨d, .call ⟨.value f, cargs, ts⟩, t, p, af, gd⟩ e F := by
  refine ⟨r, fun st _ => ?_, hK⟩
  show callV P (e.eval f) (cargs.toList.map e.eval) st _
  rw [hf]
  show ACalls P g ((first ++ cargs.toList.map e.eval ++ cap).map AV.untok) st _
  rw [ha]
  exact h st

theorem aDraw_chainS {P : Program} {C : Cfg} {ops : Array Oper} {K : Env → AState → Prop} {e : Env} {s : AState} (L : List AState) (bs : List (Option Nat)) (hm : P.follows .mixedOrders = true) (hB : Region.lexB .any ops = true)
    (hF : flagsB .any ops (flO bs) = true) (hU : limB .any ops bs L.length = true) (hL : L[0]? = some s) (h : cS P C ops L K ops.toList bs 0 e) : aDraw P C ops K e s := aDraw_chain L bs hm hB hF hU hL (cR_of_cS _ _ _ _ h)

end Go.Av

/- What lies in one's own things, told weaker; a body's end that hands out what was its own. -/
namespace Go.Av
open Go
set_option linter.unusedVariables false
set_option linter.unusedSimpArgs false

theorem Inv.weak_obj {g : Gh} {s : AState} {w : World} {id : Nat} {cs cs' : List AV} (hi : Inv g s w) (ho : s.obj id = some (.cells cs)) (hw : WvL s cs cs') (h1 : cs'.all AV.one = true) : Inv g (s.set id (.cells cs')) w := by
  refine ⟨hi.next, hi.base, fun i o hio => ?_⟩
  simp only [AState.set] at hio
  split at hio
  · rename_i e
    subst e
    cases hio
    obtain ⟨hlt, hp, vs, elem, h2, h3, h4⟩ := hi.obj _ _ ho
    refine ⟨hlt, hp, vs, elem, h2, by rw [h3, WvL_len hw], fun j hj => ⟨(WvL_get hw j hj).R hi (h4 j (by rw [WvL_len hw]; exact hj)).1, ?_⟩⟩
    rw [List.all_eq_true] at h1
    exact h1 _ (getD_mem hj)
  · exact hi.obj i o hio

theorem AEnt_obj {e : Env} {s : AState} {id : Nat} {cs cs' : List AV} (ho : s.obj id = some (.cells cs)) (hw : WvL s cs cs') (h1 : cs'.all AV.one = true) : AEnt e s e (s.set id (.cells cs')) :=
  fun T g0 w0 n g w a hr => ⟨g, hr.size, hr.env, hr.defs, hr.mlt, hr.inv.weak_obj ho hw h1, hr.ev, hr.tok.set ho _, hr.lo⟩

theorem AFin.obj {s s' s2 : AState} {d d2 : AV} {id : Nat} {cs cs' : List AV} (ho : s'.obj id = some (.cells cs)) (hw : WvL s' cs cs') (h1 : cs'.all AV.one = true) (h : AFin s d (s'.set id (.cells cs')) d2 s2) : AFin s d s' d2 s2 :=
  fun T g0 w0 g w v h0 hi hR hE hT0 hT => h T g0 w0 g w v h0 (hi.weak_obj ho hw h1) hR hE hT0 (hT.set ho _)

/-- The end of a body whose own thing is handed out, to be read alone from now on. -/
theorem Ret_freeze {P : Program} {rs : List ResultVar} {s s' : AState} {ex : Exit} {e : Env} {l l' m cs cs' : List AV} {r : AV} {id : Nat} (hex : ex = .normal ∨ ex = .ret) (hm : s'.base.marks = []) (hl : resAll P e s' rs = some l)
    (ho : s'.obj id = some (.cells cs)) (hcs : WvL s' cs cs') (h1 : cs'.all AV.one = true) (hf : frz id cs' (packAV l) = packAV l') (hw : WvL ((s'.set id (.cells cs')).del id) l' m) (hr : packAV m = r) (hid : s.next ≤ id) (hk : Keeps s s') (hb : Bel s.next r) :
    Ret P rs s (fun d s2 => d = r ∧ s2 = s) ex e s' := by
  refine ⟨hex, hm, ?_⟩
  rw [hl]
  refine ⟨r, s, AFin.obj ho hcs h1 (AFin.freeze (id := id) (cs := cs') (by simp [AState.set]) ?_), rfl, rfl⟩
  rw [hf]
  exact AFin.weak hw (by rw [hr]; exact AFin.pure ((hk.set hid _).del hid) hb)

/-- A nil slice is an empty one. -/
theorem ACalls_nil {P : Program} {f : FuncId} {pre post : List AV} {es : Nat} {s : AState} {k : AV → AState → Prop} (he : 0 < es) (h : ACalls P f (pre ++ .sl es [] .none :: post) s k) : ACalls P f (pre ++ .v (.slice none 0 0) :: post) s k := by
  refine ⟨h.1, fun T g w vs hi ht hRL => h.2 T g w vs hi ht ⟨by rw [hRL.1]; simp, fun i hi => ?_⟩⟩
  have h0 := hRL.2 i (by simpa using hi)
  by_cases hip : i = pre.length
  · subst hip
    rw [List.getD_eq_getElem?_getD, List.getD_eq_getElem?_getD, List.getElem?_append_right (Nat.le_refl _)] at h0 ⊢
    simp only [Nat.sub_self, List.getElem?_cons_zero, Option.getD_some] at h0 ⊢
    obtain ⟨hv, _⟩ := h0.flat_eq
    rw [hv]
    exact .slnil he trivial
  · have e : (pre ++ AV.sl es [] .none :: post).getD i AV.un = (pre ++ AV.v (.slice none 0 0) :: post).getD i AV.un := by
      rw [List.getD_eq_getElem?_getD, List.getD_eq_getElem?_getD]
      rcases Nat.lt_or_ge i pre.length with hlt | hge
      · rw [List.getElem?_append_left hlt, List.getElem?_append_left hlt]
      · rw [List.getElem?_append_right hge, List.getElem?_append_right hge]
        obtain ⟨q, hq⟩ : ∃ q, i - pre.length = q + 1 := ⟨i - pre.length - 1, by omega⟩
        rw [hq, List.getElem?_cons_succ, List.getElem?_cons_succ]
    rw [e]; exact h0

end Go.Av

/- Maps: made, asked, written, walked. -/
namespace Go.Av
open Go
set_option linter.unusedVariables false
set_option linter.unusedSimpArgs false

def AObj.isOwn : AObj → Bool
  | .cells _ | .row _ => false
  | _ => true

theorem ObjOk_own {g : Gh} {w : World} {id : Nat} {a : AObj} (h : a.isOwn = true) : ObjOk g w id a ↔ g.perm (g.blk id) = .own id ∧ ∃ x, w.heap[g.blk id]? = some x ∧ OwnOk g w a x := by
  cases a <;> first | (cases h; done) | exact Iff.rfl

/-- A new block of one's own that holds something other than cells. -/
theorem step_newO {g : Gh} {s : AState} {w : World} (hi : Inv g s w) (o : Obj) (a : AObj) (ha : a.isOwn = true) (hok : OwnOk g w a o) :
    Ev (fun _ => False) g w (g.own w.heap.size) (w.alloc o) ∧ Inv (g.own w.heap.size) (s.new a) (w.alloc o) := by
  have hev : Ev (fun _ => False) g w (g.own w.heap.size) (w.alloc o) :=
    Ev.alloc (by simp [Gh.own]) (fun id h => by simp [Gh.own]; omega) (fun b h => by simp [Gh.own]; omega) (fun id h => by simp [Gh.own]; omega) (fun id h1 h2 => by simp [Gh.own] at h2 ⊢; omega)
  refine ⟨hev, Inv.touch (id := g.next) hi hev.none_touch (by simp [Gh.own, AState.new, hi.next]) (by simp [AState.new]; have := hi.base; omega) ?_ ?_⟩
  · intro i o' hne ho
    simp only [AState.new, hi.next, hne, if_false] at ho
    exact ho
  · intro o' ho
    simp only [AState.new, hi.next, if_true] at ho
    cases ho
    exact ⟨by simp [Gh.own], (ObjOk_own ha).2 ⟨by simp [Gh.own], o, by simp only [Gh.own, if_true]; exact heap_alloc_new w _, hok.ev hev⟩⟩

theorem Ev.putObj {g : Gh} {w : World} {id b : Nat} (hp : g.perm b = .own id) (o : Obj) : Ev (fun i => i = id) g w g (w.putObj b o) where
  os := rfl
  tape := rfl
  output := rfl
  drawn := Nat.le_refl _
  size := by simp
  next := Nat.le_refl _
  blk _ _ := rfl
  ro b' _ h := ⟨h, World.putObj_heap_other (fun e => by subst e; rw [h] at hp; cases hp)⟩
  row b' id' p _ h := ⟨.inr ⟨p, Nat.le_refl _, h⟩, fun o _ => World.cell?_of_block (w := w) (a := ⟨b', o, none⟩) (World.putObj_heap_other (fun e => by subst e; rw [h] at hp; cases hp))⟩
  own b' id' _ h hne := ⟨h, World.putObj_heap_other (fun e => by subst e; rw [h] at hp; cases hp; exact hne rfl)⟩
  fix b' id' p _ h _ := ⟨h, World.putObj_heap_other (fun e => by subst e; rw [h] at hp; cases hp)⟩
  stamp _ _ := ⟨Nat.le_refl _, fun _ => ⟨rfl, rfl, rfl, rfl⟩⟩
  still _ _ _ := rfl
  rb _ hi hh := .inl ⟨hi, hh, rfl⟩

/-- A block of one's own told anew. -/
theorem step_setO {g : Gh} {s : AState} {w : World} {id : Nat} {a a' : AObj} {o' : Obj} (hi : Inv g s w) (ho : s.obj id = some a) (ha : a.isOwn = true) (ha' : a'.isOwn = true) (hok : OwnOk g w a' o') :
    Ev (fun i => i = id) g w g (w.putObj (g.blk id) o') ∧ Inv g (s.set id a') (w.putObj (g.blk id) o') := by
  obtain ⟨hlt, h⟩ := hi.obj _ _ ho
  obtain ⟨hp, x, hx, _⟩ := (ObjOk_own ha).1 h
  have hev : Ev (fun i => i = id) g w g (w.putObj (g.blk id) o') := Ev.putObj hp o'
  refine ⟨hev, Inv.touch (id := id) hi hev hi.next hi.base (fun i o hne h => ?_) (fun o h => ?_)⟩
  · simp only [AState.set, hne, if_false] at h; exact h
  · simp only [AState.set, if_true] at h
    cases h
    exact ⟨hlt, (ObjOk_own ha').2 ⟨hp, o', World.putObj_heap_same (lt_of_get hx), hok.ev hev⟩⟩

/-! ### Keys -/
/-- Where a key lies among a map's. -/
def MFind (P : Program) (kt : TypeId) (x : AV) (es : List (AV × AV)) : Option Nat → Prop
  | some i => ∃ p, es[i]? = some p ∧ eqAV P 20 kt x p.1 = some true ∧ ∀ (j : Nat) (q : AV × AV), j < i → es[j]? = some q → eqAV P 20 kt x q.1 = some false
  | none => ∀ (j : Nat) (q : AV × AV), es[j]? = some q → eqAV P 20 kt x q.1 = some false

def ckAV (P : Program) : Nat → TypeId → AV → Bool
  | 0, _, _ => false
  | d + 1, t, x =>
    match P.underlying t, x with
    | some (.array n e), .agg cs => (P.info? e).isSome && (List.range n).all fun i => match ldAV P e cs (i * P.cellsOf e) with | some y => ckAV P d e y | none => false
    | some (.struct fs), .agg cs => fs.toList.all fun f => f.name == "_" || match ldAV P f.type cs f.offset with | some y => ckAV P d f.type y | none => false
    | some (.int _), .v _ | some .string, .v _ | some .bool, .v _ => true
    | _, _ => false

theorem ckAV_sound {P : Program} (em : Bool) (d : Nat) : ∀ (m : Nat) (t : TypeId) (x : AV) (g : Gh) (w : World) (u : Value), ckAV P m t x = true → R g w u x → (Instr.checkKey em (d + m) t u).run P w = .ok () w
  | 0, _, _, _, _, _, h, _ => by simp [ckAV] at h
  | m + 1, t, x, g, w, u, h, hx => by
    simp only [ckAV] at h
    rw [show d + (m + 1) = (d + m) + 1 from rfl, Instr.checkKey]
    split at h
    · rename_i n e cs hu
      cases hx with
      | agg a1 a2 a3 =>
      rename_i us
      simp only [Bool.and_eq_true] at h
      obtain ⟨i, hi⟩ := Option.isSome_iff_exists.1 h.1
      simp only [Sem.run_bind, run_underlying hu, Result.andThen_ok]
      simp only [Std.Legacy.Range.forIn_eq_forIn_range', Std.Legacy.Range.size, Nat.sub_zero, Nat.add_one_sub_one, Nat.div_one]
      have each := h.2
      rw [List.all_eq_true, List.range_eq_range'] at each
      clear h
      generalize List.range' 0 n = is at each
      induction is with
      | nil => simp
      | cons j is ih =>
        have hj := each j (by simp)
        split at hj
        · rename_i y hy
          obtain ⟨v, p1, p2⟩ := part_sound hy (R.agg a1 a2 a3)
          have p3 := ckAV_sound em d m e y g w v hj p2
          simp only [List.forIn_cons, Sem.run_bind, _root_.Go.run_sizeOf w hi, Result.andThen_ok, p1, p3, Sem.run_pure]
          exact ih (fun y hy => each y (by simp [hy]))
        · cases hj
    · rename_i fs cs hu
      cases hx with
      | agg a1 a2 a3 =>
      simp only [Sem.run_bind, run_underlying hu, Result.andThen_ok]
      rw [← Array.forIn_toList]
      have each := h
      rw [List.all_eq_true] at each
      clear h hu
      generalize fs.toList = L at each
      induction L with
      | nil => simp
      | cons f L ih =>
        have hf := each f (by simp)
        simp only [Bool.or_eq_true, beq_iff_eq] at hf
        by_cases hn : f.name = "_"
        · simp only [List.forIn_cons, Sem.run_bind, hn, ne_eq, not_true_eq_false, if_false, Result.andThen_ok, Sem.run_pure]
          exact ih (fun y hy => each y (by simp [hy]))
        · rcases hf with hf | hf
          · exact absurd hf hn
          split at hf
          · rename_i y hy
            obtain ⟨v, p1, p2⟩ := part_sound hy (R.agg a1 a2 a3)
            have p3 := ckAV_sound em d m f.type y g w v hf p2
            simp only [List.forIn_cons, Sem.run_bind, hn, ne_eq, not_false_eq_true, if_true, Result.andThen_ok, p1, p3, Sem.run_pure]
            exact ih (fun y hy => each y (by simp [hy]))
          · cases hf
    all_goals first
      | (rename_i hu; simp [Sem.run_bind, run_underlying hu, Result.andThen_ok]; done)
      | (rename_i hu; rw [Sem.run_bind, run_underlying hu, Result.andThen_ok]; cases u <;> first | rfl | (cases hx; done))
      | cases h

theorem eqAV_now {P : Program} {kt : TypeId} {d : TypeDesc} (hu : P.underlying kt = some d) {m : Nat} {x y : AV} {b : Bool} {g : Gh} {w : World} {u v : Value} (h : eqAV P m kt x y = some b) (hx : R g w u x) (hy : R g w v y) :
    Instr.sameNow d u v = some b ∨ Instr.sameNow d u v = none := by
  cases m with
  | zero => simp [eqAV] at h
  | succ m =>
    simp only [eqAV, hu] at h
    split at h
    · rename_i hq
      cases hq
      simp only [Option.some.injEq] at h
      obtain ⟨rfl, _⟩ := hx.flat_eq; obtain ⟨rfl, _⟩ := hy.flat_eq
      exact .inl (by simp [Instr.sameNow, h])
    · rename_i hq
      cases hq
      split at h
      · rename_i hk
        simp only [Option.some.injEq] at h
        obtain ⟨rfl, _⟩ := hx.flat_eq; obtain ⟨rfl, _⟩ := hy.flat_eq
        exact .inl (by simp [Instr.sameNow, hk, h])
      · cases h
    · rename_i hq
      cases hq
      simp only [Option.some.injEq] at h
      obtain ⟨rfl, _⟩ := hx.flat_eq; obtain ⟨rfl, _⟩ := hy.flat_eq
      refine .inl ?_
      simp only [Instr.sameNow]
      rw [← h]
      congr 1
      exact beq_toListBytes _ _
    · rename_i hq; cases hq; exact .inr rfl
    · rename_i hq; cases hq; exact .inr rfl
    · cases h

/-- The keys and values of a map, as the machine holds them. -/
def EnOk (g : Gh) (w : World) (vs : List MapEntry) (es : List (AV × AV)) : Prop :=
  vs.length = es.length ∧ ∀ (i : Nat) (p : AV × AV), es[i]? = some p → ∃ x : MapEntry, vs[i]? = some x ∧ R g w x.key p.1 ∧ R g w x.val p.2

theorem EnOk.tail {g : Gh} {w : World} {v : MapEntry} {vs : List MapEntry} {p : AV × AV} {es : List (AV × AV)} (h : EnOk g w (v :: vs) (p :: es)) : EnOk g w vs es :=
  ⟨by have := h.1; simpa using this, fun i q hq => by simpa using h.2 (i + 1) q (by simpa using hq)⟩

theorem findNow_sound {P : Program} {kt : TypeId} {d : TypeDesc} (hu : P.underlying kt = some d) {x : AV} {u : Value} {g : Gh} {w : World} (hx : R g w u x) : ∀ (vs : List MapEntry) (es : List (AV × AV)) (i : Nat) (r : Option Nat), EnOk g w vs es → MFind P kt x es r →
    Instr.findNow d u vs i = none ∨ Instr.findNow d u vs i = some (r.bind fun j => (vs[j]?).map fun e => (i + j, e.val))
  | [], [], i, r, h, hf => by
    cases r with
    | none => exact .inr rfl
    | some j => obtain ⟨p, hp, _⟩ := hf; simp at hp
  | [], _ :: _, i, r, h, hf => by have := h.1; simp at this
  | _ :: _, [], i, r, h, hf => by have := h.1; simp at this
  | v :: vs, p :: es, i, r, h, hf => by
    obtain ⟨v', hv', hk, _⟩ := h.2 0 p rfl
    cases hv'
    have hb : ∃ b, eqAV P 20 kt x p.1 = some b := by
      cases r with
      | none => exact ⟨_, hf 0 p rfl⟩
      | some j =>
        cases j with
        | zero => obtain ⟨q, hq, h1, _⟩ := hf; cases hq; exact ⟨_, h1⟩
        | succ j => obtain ⟨q, hq, _, h1⟩ := hf; exact ⟨_, h1 0 p (Nat.succ_pos _) rfl⟩
    obtain ⟨b, hb⟩ := hb
    rcases eqAV_now hu hb hx hk with h1 | h1
    · simp only [Instr.findNow, h1]
      cases b with
      | true =>
        refine .inr ?_
        cases r with
        | none => have := hf 0 p rfl; rw [hb] at this; cases this
        | some j =>
          cases j with
          | zero => rfl
          | succ j => obtain ⟨q, hq, _, h2⟩ := hf; have := h2 0 p (Nat.succ_pos _) rfl; rw [hb] at this; cases this
      | false =>
        cases r with
        | none =>
          rcases findNow_sound hu hx vs es (i + 1) none h.tail (fun j q hq => hf (j + 1) q (by simpa using hq)) with h2 | h2
          · exact .inl h2
          · exact .inr h2
        | some j =>
          cases j with
          | zero => obtain ⟨q, hq, h2, _⟩ := hf; cases hq; rw [hb] at h2; cases h2
          | succ j =>
            obtain ⟨q, hq, h2, h3⟩ := hf
            rcases findNow_sound hu hx vs es (i + 1) (some j) h.tail ⟨q, by simpa using hq, h2, fun k q' hk hq' => h3 (k + 1) q' (by omega) (by simpa using hq')⟩ with h4 | h4
            · exact .inl h4
            · refine .inr ?_
              rw [h4]
              simp only [Option.bind_some, List.getElem?_cons_succ]
              rw [show i + 1 + j = i + (j + 1) by omega]
    · left; simp only [Instr.findNow, h1]

theorem findAsking_sound {P : Program} {kt : TypeId} {x : AV} {u : Value} {g : Gh} {w : World} (hx : R g w u x) : ∀ (vs : List MapEntry) (es : List (AV × AV)) (i : Nat) (r : Option Nat), EnOk g w vs es → MFind P kt x es r →
    (Instr.findAsking kt u vs i).run P w = .ok (r.bind fun j => (vs[j]?).map fun e => (i + j, e.val)) w
  | [], [], i, r, h, hf => by
    cases r with
    | none => rfl
    | some j => obtain ⟨p, hp, _⟩ := hf; simp at hp
  | [], _ :: _, i, r, h, hf => by have := h.1; simp at this
  | _ :: _, [], i, r, h, hf => by have := h.1; simp at this
  | v :: vs, p :: es, i, r, h, hf => by
    obtain ⟨v', hv', hk, _⟩ := h.2 0 p rfl
    cases hv'
    have hb : ∃ b, eqAV P 20 kt x p.1 = some b := by
      cases r with
      | none => exact ⟨_, hf 0 p rfl⟩
      | some j =>
        cases j with
        | zero => obtain ⟨q, hq, h1, _⟩ := hf; cases hq; exact ⟨_, h1⟩
        | succ j => obtain ⟨q, hq, _, h1⟩ := hf; exact ⟨_, h1 0 p (Nat.succ_pos _) rfl⟩
    obtain ⟨b, hb⟩ := hb
    have h1 : (Op.equal kt u v.key).run P w = .ok b w := by
      have := eqAV_sound (P := P) 9980 20 kt x p.1 b g w u v.key hb hx hk
      exact this
    simp only [Instr.findAsking, Sem.run_bind, h1, Result.andThen_ok]
    cases b with
    | true =>
      cases r with
      | none => have := hf 0 p rfl; rw [hb] at this; cases this
      | some j =>
        cases j with
        | zero => rfl
        | succ j => obtain ⟨q, hq, _, h2⟩ := hf; have := h2 0 p (Nat.succ_pos _) rfl; rw [hb] at this; cases this
    | false =>
      simp only [Bool.false_eq_true, if_false]
      cases r with
      | none => exact findAsking_sound hx vs es (i + 1) none h.tail (fun j q hq => hf (j + 1) q (by simpa using hq))
      | some j =>
        cases j with
        | zero => obtain ⟨q, hq, h2, _⟩ := hf; cases hq; rw [hb] at h2; cases h2
        | succ j =>
          obtain ⟨q, hq, h2, h3⟩ := hf
          have h4 := findAsking_sound hx vs es (i + 1) (some j) h.tail ⟨q, by simpa using hq, h2, fun k q' hk hq' => h3 (k + 1) q' (by omega) (by simpa using hq')⟩
          rw [h4]
          simp only [Option.bind_some, List.getElem?_cons_succ]
          rw [show i + 1 + j = i + (j + 1) by omega]

theorem findKey_sound {P : Program} {kt : TypeId} {d : TypeDesc} (hu : P.underlying kt = some d) {x : AV} {u : Value} {g : Gh} {w : World} (hx : R g w u x) {vs : List MapEntry} {es : List (AV × AV)} {r : Option Nat} (h : EnOk g w vs es) (hf : MFind P kt x es r) :
    (Instr.findKey kt u vs).run P w = .ok (r.bind fun j => (vs[j]?).map fun e => (j, e.val)) w := by
  have h1 := findNow_sound hu hx vs es 0 r h hf
  have h2 := findAsking_sound hx vs es 0 r h hf
  simp only [Nat.zero_add] at h1 h2
  simp only [Instr.findKey, Sem.run_bind, run_underlying hu, Result.andThen_ok]
  rcases h1 with h1 | h1
  · rw [h1]; exact h2
  · rw [h1]; rfl

/-- Bits alone. -/
def bitsV : Value → Bool
  | .int _ _ | .string _ | .bool _ => true
  | _ => false
def bitsA : AV → Bool
  | .v x => bitsV x
  | _ => false
def bitsAV : AV → Bool
  | .v x => bitsV x
  | .agg cs => cs.all bitsA
  | _ => false

theorem bitsV_same {x : Value} (h : bitsV x = true) (n : Nat) : Instr.sameBits n x x = true := by
  cases x <;> first | (cases h; done) | (cases n <;> simp [Instr.sameBits, beq_toListBytes])

theorem bitsAV_same {x : AV} {u v : Value} {g : Gh} {w : World} (h : bitsAV x = true) (hu : R g w u x) (hv : R g w v x) (n : Nat) : u = v ∧ Instr.sameBits (n + 2) u v = true := by
  cases x with
  | v y =>
    obtain ⟨rfl, _⟩ := hu.flat_eq
    obtain ⟨rfl, _⟩ := hv.flat_eq
    exact ⟨rfl, bitsV_same h _⟩
  | agg cs =>
    cases hu with
    | agg a1 a2 a3 =>
    cases hv with
    | agg b1 b2 b3 =>
    rename_i us vs
    simp only [bitsAV, List.all_eq_true] at h
    have key : ∀ i, i < cs.length → us.getD i undef = vs.getD i undef ∧ bitsV (us.getD i undef) = true := by
      intro i hi
      have h1 := a2 i hi
      have h2 := b2 i hi
      have h3 := h _ (getD_mem (d := AV.un) hi)
      cases hc : cs.getD i AV.un with
      | v y =>
        rw [hc] at h1 h2 h3
        exact ⟨h1.flat_eq.1.trans h2.flat_eq.1.symm, by rw [h1.flat_eq.1]; exact h3⟩
      | _ => rw [hc] at h3; cases h3
    have e : us = vs := by
      apply Array.ext (by omega)
      intro i h1 h2
      have := (key i (by omega)).1
      rw [Array.getD_eq_getD_getElem?, Array.getD_eq_getD_getElem?, Array.getElem?_eq_getElem h1, Array.getElem?_eq_getElem h2] at this
      exact this
    subst e
    refine ⟨rfl, ?_⟩
    simp only [Instr.sameBits, beq_self_eq_true, Bool.true_and, List.all_eq_true]
    intro p hp
    obtain ⟨i, hi, rfl⟩ := List.getElem_of_mem hp
    simp only [List.length_zip, Array.length_toList, Nat.min_self] at hi
    have := (key i (by omega)).2
    rw [Array.getD_eq_getD_getElem?, Array.getElem?_eq_getElem hi] at this
    simp only [List.getElem_zip, Array.getElem_toList]
    exact bitsV_same this _
  | _ => cases h

theorem run_keyStays {P : Program} {x : AV} {u v : Value} {g : Gh} {w : World} (h : bitsAV x = true) (hu : R g w u x) (hv : R g w v x) : (Instr.keyThatStays u v).run P w = .ok v w := by
  have := (bitsAV_same h hu hv 9998).2
  simp only [Instr.keyThatStays]
  rw [if_pos this]
  rfl

/-- The map at hand, as the machine holds it. -/
theorem mapAt {g : Gh} {s : AState} {w : World} {id : Nat} {es : List (AV × AV)} (hi : Inv g s w) (ho : s.obj id = some (.map es)) :
    ∃ vs : Array MapEntry, w.heap[g.blk id]? = some (.map vs vs.size) ∧ vs.size = es.length ∧ EnOk g w vs.toList es ∧ ∀ (i : Nat) (x : MapEntry), vs[i]? = some x → x.born = i := by
  obtain ⟨_, _, x, hx, vs, rfl, h1, h2⟩ := hi.obj _ _ ho
  refine ⟨vs, hx, h1, ⟨by simpa using h1, fun i p hp => ?_⟩, fun i x hv => ?_⟩
  · obtain ⟨x, a, b, c, d⟩ := h2 i p hp
    exact ⟨x, by simpa using a, c, d⟩
  · have hlt : i < es.length := by
      have := (Array.getElem?_eq_some_iff.1 hv).1
      omega
    obtain ⟨x', a, b, c, d⟩ := h2 i _ (List.getElem?_eq_getElem hlt)
    rw [hv] at a; cases a; exact b

/-- What is found, and what a map is when a key has been laid anew. -/
def mGet (P : Program) (et : TypeId) (es : List (AV × AV)) : Option Nat → Option AV
  | some i => (es[i]?).map (·.2)
  | none => zeroAV P et
def mPut (es : List (AV × AV)) (key val : AV) : Option Nat → List (AV × AV)
  | some i => es.set i (key, val)
  | none => es ++ [(key, val)]

/-! ### The operations -/
section
variable {P : Program} {C : Cfg} {ρ : Operand → AV} {d : Option Nat} {ty : TypeId} {p : String} {af : Array Edge} {gd : Option (Nat × Bool)} {s : AState} {k : AV → AState → Prop}

theorem makeMap_law {t : TypeId} (h : k (.mp s.next) (s.new (.map []))) : aOp P C ρ ⟨d, .makeMap t none, ty, p, af, gd⟩ s k := by
  show ASem P ρ _ s k
  refine ⟨fun c h => (by cases h), fun c h => (by cases h), fun T g w ev hi ht he => ?_⟩
  obtain ⟨hev, hinv⟩ := step_newO hi (.map #[] 0) (.map []) rfl ⟨#[], rfl, rfl, fun i p h => by simp at h⟩
  refine ⟨.value (.map (some w.heap.size)), .map (some w.heap.size), w.alloc (.map #[] 0), .mp s.next, s.new (.map []), g.own w.heap.size, ?_, .inl rfl, .mp (by simp [Gh.own, hi.next]) (by simp [Gh.own, hi.next]), hinv, hev.none_touch, ht.new hi _, rfl, h⟩
  simp [execOp, Instr.makeMap, run_newObj_alloc, Result.andThen]

theorem R.mp_inv {g : Gh} {w : World} {x : Value} {id : Nat} (h : R g w x (.mp id)) : id < g.next ∧ x = .map (some (g.blk id)) := by
  cases h with | mp hid hb => subst hb; exact ⟨hid, rfl⟩

theorem lookup_law {t kt et : TypeId} {dk : TypeDesc} {m x : Operand} {ok : Bool} {id : Nat} {es : List (AV × AV)} {y v : AV} (r : Option Nat) (hu : P.underlying t = some (.map kt et)) (hk : P.underlying kt = some dk)
    (hm : ρ m = .mp id) (hx : ρ x = y) (ho : s.obj id = some (.map es)) (hc : ckAV P 20 kt y = true) (hf : MFind P kt y es r) (hv : mGet P et es r = some v) (h : k (if ok then .tup [v, .v (.bool r.isSome)] else v) s) :
    aOp P C ρ ⟨d, .lookup t m x ok, ty, p, af, gd⟩ s k := by
  show ASem P ρ _ s k
  refine ⟨fun c h => (by cases h), fun c h => (by cases h), fun T g w ev hi ht he => ?_⟩
  have hm' := he m (by simp [Op.operands])
  have hx' := he x (by simp [Op.operands])
  rw [hm] at hm'; rw [hx] at hx'
  obtain ⟨_, hmv⟩ := hm'.mp_inv
  obtain ⟨vs, hg, hsz, hE, _⟩ := mapAt hi ho
  have h1 := ckAV_sound (P := P) vs.isEmpty 9980 20 kt y g w _ hc hx'
  have h2 := findKey_sound hk hx' hE hf
  have hres : ∃ u, R g w u v ∧ (Instr.lookup t (ev m) (ev x) ok).run P w = .ok (if ok then .tuple #[u, .bool r.isSome] else u) w := by
    simp only [Instr.lookup, hmv, Sem.run_bind, run_underlying hu, Result.andThen_ok, getObj, Sem.run, hg, Sem.run_pure]
    rw [h1]
    simp only [Result.andThen_ok]
    rw [h2]
    cases r with
    | some i =>
      obtain ⟨q, hq, _⟩ := hf
      simp only [mGet, hq, Option.map_some, Option.some.injEq] at hv
      obtain ⟨e, hev, _, hR⟩ := hE.2 i q hq
      refine ⟨e.val, by rw [← hv]; exact hR, ?_⟩
      simp only [Option.bind_some, hev, Option.map_some, Result.andThen_ok]
      cases ok <;> rfl
    | none =>
      obtain ⟨z, n, _, hz, _, hov⟩ := zeroAV_some hv
      refine ⟨z, (R.ofVal hov g w).1, ?_⟩
      simp only [Option.bind_none, Sem.run_bind, hz, Result.andThen_ok, Sem.run_pure]
      cases ok <;> rfl
  obtain ⟨u, hu', hrun⟩ := hres
  refine ⟨_, _, w, _, s, g, (by simp only [execOp, Sem.run_bind, hrun, Result.andThen_ok, Sem.run_pure]; rfl), .inl rfl, ?_, hi, Ev.refl T g w, ht, rfl, h⟩
  cases ok with
  | false => exact hu'
  | true =>
    refine .tup rfl fun i hi => ?_
    match i, hi with
    | 0, _ => exact hu'
    | 1, _ => exact .v rfl

theorem mapUpdate_law {t kt et : TypeId} {dk : TypeDesc} {m x y : Operand} {id : Nat} {es : List (AV × AV)} {key val : AV} (r : Option Nat) (hu : P.underlying t = some (.map kt et)) (hk : P.underlying kt = some dk)
    (hm : ρ m = .mp id) (hx : ρ x = key) (hy : ρ y = val) (ho : s.obj id = some (.map es)) (hc : ckAV P 20 kt key = true) (hf : MFind P kt key es r) (hb : bitsAV key = true) (hsame : ∀ i, r = some i → (es[i]?).map (·.1) = some key)
    (h : k AV.un (s.set id (.map (mPut es key val r)))) : aOp P C ρ ⟨d, .mapUpdate t m x y, ty, p, af, gd⟩ s k := by
  show ASem P ρ _ s k
  refine ⟨fun c h => (by cases h), fun c h => (by cases h), fun T g w ev hi ht he => ?_⟩
  have hm' := he m (by simp [Op.operands])
  have hx' := he x (by simp [Op.operands])
  have hy' := he y (by simp [Op.operands])
  rw [hm] at hm'; rw [hx] at hx'; rw [hy] at hy'
  obtain ⟨_, hmv⟩ := hm'.mp_inv
  obtain ⟨vs, hg, hsz, hE, hbo⟩ := mapAt hi ho
  have h1 := ckAV_sound (P := P) false 9980 20 kt key g w _ hc hx'
  have h2 := findKey_sound hk hx' hE hf
  cases r with
  | none =>
    have hok : OwnOk g w (.map (es ++ [(key, val)])) (.map (vs.push { key := ev x, val := ev y, born := vs.size }) (vs.size + 1)) := by
      refine ⟨_, by rw [Array.size_push], by simp [hsz], fun i q hq => ?_⟩
      by_cases hlt : i < es.length
      · rw [List.getElem?_append_left hlt] at hq
        obtain ⟨e, a, b, c⟩ := hE.2 i q hq
        refine ⟨e, ?_, hbo i e (by simpa using a), b, c⟩
        rw [Array.getElem?_push, if_neg (by omega)]; simpa using a
      · have hi' : i = es.length := by
          have := (List.getElem?_eq_some_iff.1 hq).1
          simp at this; omega
        subst hi'
        rw [List.getElem?_append_right (Nat.le_refl _)] at hq
        simp at hq
        subst hq
        exact ⟨_, by rw [Array.getElem?_push, if_pos hsz.symm], hsz, hx', hy'⟩
    obtain ⟨hev, hinv⟩ := step_setO hi ho rfl rfl hok
    refine ⟨.skip, undef, _, AV.un, _, g, ?_, .inr ⟨rfl, rfl⟩, .v rfl, hinv, hev.mono (fun i e => by subst e; exact ht.2 _ _ ho), ht.set ho _, rfl, h⟩
    simp only [execOp, Instr.mapUpdate, hmv, Sem.run_bind, run_underlying hu, Result.andThen_ok, getObj, Sem.run, hg, Sem.run_pure]
    rw [h1]
    simp only [Result.andThen_ok]
    rw [h2]
    simp [setObj, Sem.run, hg, World.putObj, Result.andThen]
  | some i =>
    obtain ⟨q, hq, _, _⟩ := hf
    have hq1 : q.1 = key := by have := hsame i rfl; rw [hq] at this; simpa using this
    obtain ⟨e, he1, he2, he3⟩ := hE.2 i q hq
    have hei : vs[i]? = some e := by simpa using he1
    have hkeep := run_keyStays (P := P) hb (hq1 ▸ he2) hx'
    have hil : i < es.length := (List.getElem?_eq_some_iff.1 hq).1
    have hok : OwnOk g w (.map (es.set i (key, val))) (.map (vs.modify i fun e => { e with key := ev x, val := ev y }) vs.size) := by
      refine ⟨_, by rw [Array.size_modify], by simp [hsz], fun j q' hq' => ?_⟩
      by_cases hj : j = i
      · subst hj
        rw [List.getElem?_set_self hil] at hq'
        simp at hq'
        subst hq'
        refine ⟨{ e with key := ev x, val := ev y }, by rw [Array.getElem?_modify, if_pos rfl, hei]; rfl, show e.born = j from hbo _ _ hei, hx', hy'⟩
      · rw [List.getElem?_set_ne (Ne.symm hj)] at hq'
        obtain ⟨e', a, b, c⟩ := hE.2 j q' hq'
        exact ⟨e', by rw [Array.getElem?_modify, if_neg (Ne.symm hj)]; simpa using a, hbo _ _ (by simpa using a), b, c⟩
    obtain ⟨hev, hinv⟩ := step_setO hi ho rfl rfl hok
    refine ⟨.skip, undef, _, AV.un, _, g, ?_, .inr ⟨rfl, rfl⟩, .v rfl, hinv, hev.mono (fun i e => by subst e; exact ht.2 _ _ ho), ht.set ho _, rfl, h⟩
    simp only [execOp, Instr.mapUpdate, hmv, Sem.run_bind, run_underlying hu, Result.andThen_ok, getObj, Sem.run, hg, Sem.run_pure]
    rw [h1]
    simp only [Result.andThen_ok]
    rw [h2]
    simp only [Option.bind_some, he1, Option.map_some, Result.andThen_ok, hei, Option.getD_some, Sem.run_bind]
    rw [hkeep]
    simp [setObj, Sem.run, hg, World.putObj, Result.andThen]

theorem range_law {t kt et : TypeId} {m : Operand} {id : Nat} {es : List (AV × AV)} (hu : P.underlying t = some (.map kt et)) (hm : ρ m = .mp id) (ho : s.obj id = some (.map es)) (h : k (.ptr s.next 0) (s.new (.iter id es.length []))) :
    aOp P C ρ ⟨d, .range t m, ty, p, af, gd⟩ s k := by
  show ASem P ρ _ s k
  refine ⟨fun c h => (by cases h), fun c h => (by cases h), fun T g w ev hi ht he => ?_⟩
  have hm' := he m (by simp [Op.operands])
  rw [hm] at hm'
  obtain ⟨hlt, hmv⟩ := hm'.mp_inv
  obtain ⟨vs, hg, hsz, hE, hbo⟩ := mapAt hi ho
  obtain ⟨hev, hinv⟩ := step_newO hi (.mapIter (some (g.blk id)) vs.size #[] vs.size) (.iter id es.length []) rfl ⟨hlt, by rw [hsz], fun _ h => by cases h⟩
  refine ⟨.value (.pointer (some ⟨w.heap.size, 0, none⟩)), _, _, .ptr s.next 0, _, g.own w.heap.size, ?_, .inl rfl, .ptr (by simp [Gh.own, hi.next]) (by simp [Gh.own, hi.next]), hinv, hev.none_touch, ht.new hi _, rfl, h⟩
  simp [execOp, Instr.range, hmv, run_underlying hu, getObj, Sem.run, hg, run_newObj_alloc, Result.andThen]

theorem setBlock_put (w : World) (r : Nat) (o : Obj) : Go.ChangeMaps.setBlock w r o = w.putObj r o := rfl

theorem next_law {it : Operand} {id m n : Nat} {seen : List Nat} {es : List (AV × AV)} (hit : ρ it = .ptr id 0) (ho : s.obj id = some (.iter m n seen)) (hm : s.obj m = some (.map es)) (hn : es.length = n)
    (h0 : (∀ i, i < n → i ∈ seen) → k (.tup [.v (.bool false)]) s)
    (h1 : ∀ (i : Nat) (q : AV × AV), es[i]? = some q → i ∉ seen → k (.tup [.v (.bool true), q.1, q.2]) (s.set id (.iter m n (seen ++ [i])))) : aOp P C ρ ⟨d, .next it false, ty, p, af, gd⟩ s k := by
  show ASem P ρ _ s k
  refine ⟨fun c h => (by cases h), fun c h => (by cases h), fun T g w ev hi ht he => ?_⟩
  have hit' := he it (by simp [Op.operands])
  rw [hit] at hit'
  obtain ⟨hlt, hiv⟩ := hit'.ptr_inv
  obtain ⟨vs, hg, hsz, hE, hbo⟩ := mapAt hi hm
  obtain ⟨_, hp, o, hgo, hml, rfl, hseen⟩ := hi.obj _ _ ho
  have hborn : ∀ x ∈ vs.toList, x.born < n := by
    intro x hx
    obtain ⟨i, hi', rfl⟩ := List.getElem_of_mem hx
    have hi2 : i < vs.size := by simpa using hi'
    have := hbo i vs[i] (Array.getElem?_eq_getElem hi2)
    simp only [Array.getElem_toList]
    omega
  have hrun := run_next_at (P := P) w ty (g.blk id) (g.blk m) n n seen.toArray vs vs.size hgo hg hborn (Nat.le_refl _)
  have hmem : ∀ (i : Nat) (x : MapEntry), vs[i]? = some x → (x ∈ (leftOf vs seen.toArray).toList ↔ i ∉ seen) := by
    intro i x hx
    have hb := hbo i x hx
    unfold leftOf
    simp only [Array.mem_toList_iff, Array.mem_filter, hb]
    constructor
    · rintro ⟨_, h⟩; simpa using h
    · intro h; exact ⟨Array.mem_of_getElem? hx, by simpa using h⟩
  rcases hrun with ⟨hz, hrun⟩ | ⟨e, he', w1, hw1, hrun⟩
  · refine ⟨.value (.tuple #[.bool false]), _, w, .tup [.v (.bool false)], s, g, ?_, .inl rfl, ?_, hi, Ev.refl T g w, ht, rfl, h0 fun i hin => ?_⟩
    · simp only [execOp, hiv, Sem.run_bind, hrun, Result.andThen_ok, Sem.run_pure]
    · exact .tup rfl fun i hi => by match i, hi with | 0, _ => exact .v rfl
    · by_cases hs : i ∈ seen
      · exact hs
      · have hi2 : i < vs.size := by omega
        have := (hmem i vs[i] (Array.getElem?_eq_getElem hi2)).2 hs
        rw [Array.eq_empty_of_size_eq_zero hz] at this
        simp at this
  · have hev : e ∈ vs.toList := by
      unfold leftOf at he'
      simp only [Array.mem_toList_iff, Array.mem_filter] at he'
      simpa using he'.1
    obtain ⟨i, hi', hie⟩ := List.getElem_of_mem hev
    have hi2 : i < vs.size := by simpa using hi'
    have hx : vs[i]? = some e := by rw [Array.getElem?_eq_getElem hi2, ← hie]; simp
    have hb := hbo i e hx
    have hns := (hmem i e hx).1 he'
    have hil : i < es.length := by omega
    obtain ⟨e', a, hRk, hRv⟩ := hE.2 i _ (List.getElem?_eq_getElem hil)
    have : e' = e := by
      have a' : vs[i]? = some e' := by simpa using a
      rw [hx] at a'; cases a'; rfl
    subst this
    have hok : ∀ w : World, OwnOk g w (.iter m n (seen ++ [i])) (.mapIter (some (g.blk m)) n (seen.toArray.push e'.born) vs.size) := fun w => ⟨hml, by rw [hb, hsz, hn]; simp, fun x hx => by
      rcases List.mem_append.1 hx with hx | hx
      · exact hseen x hx
      · simp at hx; omega⟩
    have hi1 : Inv g s w1 := by rcases hw1 with rfl | rfl; exact hi; exact hi.drew
    have he1 : Ev T g w g w1 := by rcases hw1 with rfl | rfl; exact Ev.refl T g _; exact Ev.drew g w
    obtain ⟨hev2, hinv⟩ := step_setO hi1 ho rfl rfl (hok w1)
    have hE2 : Ev T g w g (w1.putObj (g.blk id) (.mapIter (some (g.blk m)) n (seen.toArray.push e'.born) vs.size)) := he1.trans (hev2.mono (fun i e => by subst e; exact ht.2 _ _ ho))
    refine ⟨.value (.tuple #[.bool true, e'.key, e'.val]), _, _, .tup [.v (.bool true), es[i].1, es[i].2], _, g, ?_, .inl rfl, ?_, hinv, hE2, ht.set ho _, rfl, h1 i _ (List.getElem?_eq_getElem hil) hns⟩
    · simp only [execOp, hiv, Sem.run_bind, hrun, Result.andThen_ok, Sem.run_pure, setBlock_put]
    · refine .tup rfl fun j hj => ?_
      match j, hj with
      | 0, _ => exact .v rfl
      | 1, _ => exact hRk.ev hE2
      | 2, _ => exact hRv.ev hE2

theorem entry_law {it : Operand} {id m n i : Nat} {seen : List Nat} {es : List (AV × AV)} {q : AV × AV} (hit : ρ it = .ptr id 0) (ho : s.obj id = some (.iter m n (seen ++ [i]))) (hm : s.obj m = some (.map es)) (hn : es.length = n) (hq : es[i]? = some q)
    (h : k (.tup [q.1, q.2]) s) : aOp P C ρ ⟨d, .entry it, ty, p, af, gd⟩ s k := by
  show ASem P ρ _ s k
  refine ⟨fun c h => (by cases h), fun c h => (by cases h), fun T g w ev hi ht he => ?_⟩
  have hit' := he it (by simp [Op.operands])
  rw [hit] at hit'
  obtain ⟨hlt, hiv⟩ := hit'.ptr_inv
  obtain ⟨vs, hg, hsz, hE, hbo⟩ := mapAt hi hm
  obtain ⟨_, hp, o, hgo, hml, rfl, hseen⟩ := hi.obj _ _ ho
  obtain ⟨e, a, hRk, hRv⟩ := hE.2 i q hq
  have hx : vs[i]? = some e := by simpa using a
  have hb := hbo i e hx
  have hnd : (vs.toList.map (·.born)).Nodup := by
    have : vs.toList.map (·.born) = List.range vs.size := by
      apply List.ext_getElem (by simp)
      intro j h1 h2
      simp only [List.getElem_map, Array.getElem_toList, List.getElem_range]
      exact hbo j _ (Array.getElem?_eq_getElem (by simpa using h1))
    rw [this]; exact List.nodup_range
  have hrun := run_entry_at (P := P) w (g.blk id) (g.blk m) n seen.toArray vs vs.size e (by rw [hgo, hb, hsz, hn]; simp) hg (by simpa using Array.mem_of_getElem? hx) hnd
  refine ⟨.value (.tuple #[e.key, e.val]), _, w, .tup [q.1, q.2], s, g, ?_, .inl rfl, ?_, hi, Ev.refl T g w, ht, rfl, h⟩
  · simp only [execOp, hiv, Sem.run_bind, hrun, Result.andThen_ok, Sem.run_pure]
  · refine .tup rfl fun j hj => ?_
    match j, hj with
    | 0, _ => exact hRk
    | 1, _ => exact hRv

/-! ### In a region whose order is drawn -/
theorem qlookC {L : List AState} {t kt et : TypeId} {dk : TypeDesc} {m x : Operand} {ok : Bool} {id : Nat} {es : List (AV × AV)} {y v : AV} {e : Env} {F : Env → Prop} (r : Option Nat) (hu : P.underlying t = some (.map kt et)) (hk : P.underlying kt = some dk)
    (hm : e.eval m = .mp id) (hx : e.eval x = y) (hc : ckAV P 20 kt y = true) (hf : MFind P kt y es r) (hv : mGet P et es r = some v) (ho : ∀ st ∈ L, st.obj id = some (.map es))
    (hK : F (e.set d (if ok then .tup [v, .v (.bool r.isSome)] else v))) : exQ P C L ⟨d, .lookup t m x ok, ty, p, af, gd⟩ e F :=
  ⟨_, fun st hst => lookup_law r hu hk hm hx (ho st hst) hc hf hv ⟨rfl, rfl⟩, hK⟩

theorem qupdC {t kt et : TypeId} {dk : TypeDesc} {m x y : Operand} {id : Nat} {es : List (AV × AV)} {key val : AV} {e : Env} {F : Env → Prop} {a b : AState} (r : Option Nat) (hu : P.underlying t = some (.map kt et)) (hk : P.underlying kt = some dk)
    (hm : e.eval m = .mp id) (hx : e.eval x = key) (hy : e.eval y = val) (ho : a.obj id = some (.map es)) (hc : ckAV P 20 kt key = true) (hf : MFind P kt key es r) (hb : bitsAV key = true) (hsame : ∀ i, r = some i → (es[i]?).map (·.1) = some key)
    (hab : b = a.set id (.map (mPut es key val r))) (hK : F (e.set d AV.un)) : exF P C a b ⟨d, .mapUpdate t m x y, ty, p, af, gd⟩ e F :=
  ⟨AV.un, mapUpdate_law r hu hk hm hx hy ho hc hf hb hsame ⟨rfl, hab.symm⟩, hK⟩

end
end Go.Av
