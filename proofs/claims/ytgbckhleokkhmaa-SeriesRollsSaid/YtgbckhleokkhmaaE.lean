/- Part of the proof of a law of this seat: the texts AvRange AvCut AvSort AvBun AvOpen AvMove AvBool AvSort2 AvByte, in this order. -/
import Derived.Test.YtgbckhleokkhmaaD
import Derived.RangeFuncLeaves
import Derived.RangeFuncIn
import Derived.Shelf.SlSortCmp.NoneTotal
import Derived.Carry
import Derived.ChangeArms
import Derived.Laws.BytesString
/- A range over a function: the statement, a round of it, the end of a body that holds one. -/
namespace Go.Av
open Go
set_option linter.unusedVariables false
set_option linter.unusedSimpArgs false

def setL : Env → List Nat → List AV → Env
  | e, t :: ts, d :: ds => setL (e.set (some t) d) ts ds
  | e, _, _ => e

theorem setL_R {g : Gh} {w : World} : ∀ (ps : List Nat) (ds : List AV) (vs : List Value) (tmps : Array Value) (e : Env), (∀ t, R g w (tmps.getD t undef) (e t)) → RL g w vs ds → ps.length = ds.length → (∀ p ∈ ps, p < tmps.size) →
    (((ps.zip vs).foldl (fun tm p => tm.setIfInBounds p.1 p.2) tmps).size = tmps.size ∧ ∀ t, R g w (((ps.zip vs).foldl (fun tm p => tm.setIfInBounds p.1 p.2) tmps).getD t undef) (setL e ps ds t))
  | [], [], vs, tmps, e, h, _, _, _ => by simpa [setL] using h
  | [], _ :: _, _, _, _, _, _, h, _ => by simp at h
  | _ :: _, [], _, _, _, _, _, h, _ => by simp at h
  | p :: ps, d :: ds, [], _, _, _, h, _, _ => by have := h.1; simp at this
  | p :: ps, d :: ds, v :: vs, tmps, e, h, hRL, hl, hp => by
    have h0 : R g w v d := hRL.2 0 (by simp)
    have hlt : p < tmps.size := hp p (by simp)
    have := setL_R ps ds vs (tmps.setIfInBounds p v) (e.set (some p) d) (fun t => by
      simp only [Env.set]
      by_cases ht : t = p
      · subst ht
        rw [if_pos rfl, Array.getD_eq_getD_getElem?, Array.getElem?_setIfInBounds_self_of_lt hlt]
        exact h0
      · rw [if_neg ht, Array.getD_eq_getD_getElem?, Array.getElem?_setIfInBounds_ne (Ne.symm ht), ← Array.getD_eq_getD_getElem?]
        exact h t) ⟨by have := hRL.1; simpa using this, fun i hi => by have := hRL.2 (i + 1) (by simpa using hi); simpa using this⟩ (by simpa using hl) (fun q hq => by simpa using hp q (by simp [hq]))
    simpa [setL] using this

/-! ### A round -/
/-- The round begins: the record is busy. -/
def beginQ (P : Program) (C : Cfg) (id : Nat) (e : Env) (ps : List Nat) (nt : Nat) (asg body : Code) (pend : Option Code) (D : Nat) (Q : Post) : Post := fun ex e1 s1 =>
  match ex with
  | .normal => s1.obj id = some (.loop e ps nt asg body .ready pend D) ∧ aeval P C body Q e1 (s1.set id (.loop e ps nt asg body .busy pend D))
  | _ => False

/-- The round's end. -/
def roundEnd (id : Nat) (e : Env) (ps : List Nat) (nt : Nat) (asg body : Code) (pend : Option Code) (D : Nat) (s : AState) (k : AV → AState → Prop) : Post := fun ex e2 s2 =>
  s2.obj id = some (.loop e ps nt asg body .busy pend D) ∧
  match ex with
  | .normal => ∃ s3, AFin s (.v (.bool true)) (s2.set id (.loop e ps nt asg body .ready none D)) (.v (.bool true)) s3 ∧ k (.v (.bool true)) s3
  | .ret => ∃ s3, AFin s (.v (.bool false)) (s2.set id (.loop e ps nt asg body .done (some .ret) D)) (.v (.bool false)) s3 ∧ k (.v (.bool false)) s3
  | .exit i => ∃ s3, AFin s (.v (.bool false)) (s2.set id (.loop e ps nt asg body .done (some (.exit i)) D)) (.v (.bool false)) s3 ∧ k (.v (.bool false)) s3
  | _ => False

theorem loopAt {g : Gh} {s : AState} {w : World} {id : Nat} {e : Env} {ps : List Nat} {nt : Nat} {asg body : Code} {st : LoopState} {pend : Option Code} {D : Nat} (hi : Inv g s w) (ho : s.obj id = some (.loop e ps nt asg body st pend D)) :
    id < g.next ∧ D < g.next ∧ ∃ (tmps : Array Value) (fn : FuncId), w.heap[g.blk id]? = some (.loop { state := st, pending := pend, fn := fn, tmps := tmps, params := ps.toArray, assign := asg, body := body, defers := g.blk D }) ∧ tmps.size = nt ∧ ∀ t, R g w (tmps.getD t undef) (e t) := by
  obtain ⟨hlt, _, x, hx, hD, tmps, fn, rfl, h1, h2⟩ := hi.obj _ _ ho
  exact ⟨hlt, hD, tmps, fn, hx, h1, h2⟩

theorem AYield_body {P : Program} {C : Cfg} {id : Nat} {args : List AV} {s : AState} {k : AV → AState → Prop} {e : Env} {ps : List Nat} {nt : Nat} {asg body : Code} {pend : Option Code} {D : Nat} (ho : s.obj id = some (.loop e ps nt asg body .ready pend D))
    (hl : args.length = ps.length) (hps : ps.all (· < nt) = true) (hb1 : codeBel nt asg = true) (hb2 : codeBel nt body = true) (hr1 : noRF asg = true) (hr2 : noRF body = true)
    (h : s.Wf → (∀ d ∈ args, Bel s.next d) → aeval P C asg (beginQ P C id e ps nt asg body pend D (roundEnd id e ps nt asg body pend D s k)) (setL e ps args) { s with base := ⟨s.next, []⟩ }) : AYield P id args s k := by
  intro T g w vs hi ht hRL
  obtain ⟨hlt, hD, tmps, fn, hg, hsz, hR⟩ := loopAt hi ho
  have h := h (fun id o ho => ⟨by rw [hi.next]; exact (hi.obj id o ho).1, by rw [hi.next]; exact (hi.obj id o ho).2.bel⟩) (fun d hd => by
      obtain ⟨i, hi', rfl⟩ := mem_getD (d := AV.un) hd
      rw [hi.next]; exact (hRL.2 i hi').bel)
  refine ⟨_, hg, by rw [hRL.1, hl]; simp, fun n => ?_⟩
  have hfold : (ps.toArray.zip vs.toArray).foldl (fun tmps (x : Nat × Value) => tmps.setIfInBounds x.1 x.2) tmps = (ps.zip vs).foldl (fun tm p => tm.setIfInBounds p.1 p.2) tmps := by
    rw [← Array.foldl_toList, Array.toList_zip]
  obtain ⟨f1, f2⟩ := setL_R ps args vs tmps e hR hRL hl.symm (fun p hp => by rw [hsz]; simpa using (List.all_eq_true.1 hps) p hp)
  refine roundIn_of_wpIn trivial ?_
  show asg.wpIn (Fr (some (g.blk id))) n P _ _ w
  have hrel : Rel T g w nt (setL e ps args) { s with base := ⟨s.next, []⟩ } g w { tmps := (ps.toArray.zip vs.toArray).foldl (fun tmps (x : Nat × Value) => tmps.setIfInBounds x.1 x.2) tmps, defers := [] } := by
    refine ⟨?_, fun t => ?_, rfl, (fun id h => by cases h), ⟨hi.next, Nat.le_refl _, hi.obj⟩, Ev.refl T g w, ⟨fun id hid => ht.1 id (Nat.le_trans hi.base hid), ht.2⟩, hi.next⟩
    · refine Eq.trans (congrArg Array.size hfold) ?_
      rw [f1, hsz]
    · exact hfold.symm ▸ f2 t
  refine wpIn_mono (aeval_sound (ro := some (g.blk id)) (m := n) asg (.inr hr1) hb1 _ _ _ g w _ h hrel) fun ex a1 w1 hq => ?_
  obtain ⟨e1, s1, g1, hr, hq⟩ := hq
  cases ex with
  | normal =>
    obtain ⟨ho1, hq⟩ := hq
    obtain ⟨hlt1, hD1, tmps1, fn1, hg1, hsz1, hR1⟩ := loopAt hr.inv ho1
    have hblk : g1.blk id = g.blk id := hr.ev.blk id hlt
    obtain ⟨hev1, hinv1⟩ := step_setO (a' := .loop e ps nt asg body .busy pend D) (o' := .loop { state := .busy, pending := pend, fn := fn1, tmps := tmps1, params := ps.toArray, assign := asg, body := body, defers := g1.blk D }) hr.inv ho1 rfl rfl ⟨hD1, tmps1, fn1, rfl, hsz1, hR1⟩
    have hE1 := hev1.mono (T' := T) (fun i e => by subst e; exact hr.tok.2 _ _ ho1)
    rw [hblk] at hg1 hinv1 hE1
    refine ⟨_, run_beginRound hg1 rfl, ?_⟩
    have hrel1 : Rel T g w nt e1 (s1.set id (.loop e ps nt asg body .busy pend D)) g1 _ a1 := ⟨hr.size, fun t => (hr.env t).ev hE1, hr.defs, hr.mlt, hinv1, hr.ev.trans hE1, hr.tok.set ho1 _, hr.lo⟩
    refine wpIn_mono (aeval_sound (ro := some (g.blk id)) (m := n) body (.inr hr2) hb2 _ _ _ g1 _ _ hq hrel1) fun ex2 a2 w2 hq2 => ?_
    obtain ⟨e2, s2, g2, hr2, ho2, hq2⟩ := hq2
    obtain ⟨hlt2, hD2, tmps2, fn2, hg2, hsz2, hR2⟩ := loopAt hr2.inv ho2
    have hblk2 : g2.blk id = g.blk id := hr2.ev.blk id hlt
    have fin : ∀ (st : LoopState) (pd : Option Code) (b : Bool), (∃ s3, AFin s (.v (.bool b)) (s2.set id (.loop e ps nt asg body st pd D)) (.v (.bool b)) s3 ∧ k (.v (.bool b)) s3) →
        ∃ v d s' g', Ending.returned (.bool b) = .returned v ∧ R g' (w2.putObj (g.blk id) (.loop { state := st, pending := pd, fn := fn2, tmps := tmps2, params := ps.toArray, assign := asg, body := body, defers := g2.blk D })) v d ∧
          Inv g' s' (w2.putObj (g.blk id) (.loop { state := st, pending := pd, fn := fn2, tmps := tmps2, params := ps.toArray, assign := asg, body := body, defers := g2.blk D })) ∧
          Ev T g w g' (w2.putObj (g.blk id) (.loop { state := st, pending := pd, fn := fn2, tmps := tmps2, params := ps.toArray, assign := asg, body := body, defers := g2.blk D })) ∧ TOk T s' ∧ s'.base = s.base ∧ k d s' := by
      rintro st pd b ⟨s3, hfin, hk⟩
      obtain ⟨hev2, hinv2⟩ := step_setO (a' := .loop e ps nt asg body st pd D) (o' := .loop { state := st, pending := pd, fn := fn2, tmps := tmps2, params := ps.toArray, assign := asg, body := body, defers := g2.blk D }) hr2.inv ho2 rfl rfl ⟨hD2, tmps2, fn2, rfl, hsz2, hR2⟩
      have hE2 := hev2.mono (T' := T) (fun i e => by subst e; exact hr2.tok.2 _ _ ho2)
      rw [hblk2] at hinv2 hE2
      obtain ⟨g', hI, hR', hE', hT', hB'⟩ := hfin T g w g2 _ (.bool b) hi hinv2 (.v rfl) (hr2.ev.trans hE2) ht (hr2.tok.set ho2 _)
      exact ⟨_, _, _, g', rfl, hR', hI, hE', hT', hB', hk⟩
    rw [hblk2] at hg2
    cases ex2 with
    | normal => exact ⟨_, _, run_endRound none hg2, fin _ _ _ hq2⟩
    | ret => exact ⟨_, _, run_endRound (some .ret) hg2, fin _ _ _ hq2⟩
    | exit i => exact ⟨_, _, run_endRound (some (.exit i)) hg2, fin _ _ _ hq2⟩
    | goto l => exact hq2.elim
    | panic c => exact hq2.elim
    | outgrown => exact hq2.elim
  | _ => exact hq.elim

/-! ### The statement -/
/-- Where the loop left to. -/
def jumpQ (Q : Post) (e : Env) (s : AState) : Option Code → Prop
  | none => Q .normal e s
  | some .ret => Q .ret e s
  | some (.exit i) => Q (.exit i) e s
  | _ => False

/-- The calls put off by the loop's rounds lie in D. -/
def AState.mark (s : AState) (L D : Nat) : AState := { s.del L with base := ⟨s.base.lo, D :: s.base.marks⟩ }

theorem Inv.del {g : Gh} {s : AState} {w : World} (h : Inv g s w) (id : Nat) : Inv g (s.del id) w :=
  ⟨h.next, h.base, fun i o ho => h.obj i o (by simp only [AState.del] at ho; split at ho; cases ho; exact ho)⟩
theorem TOk.del {T : Nat → Prop} {s : AState} (h : TOk T s) (id : Nat) : TOk T (s.del id) :=
  ⟨h.1, fun i o ho => h.2 i o (by simp only [AState.del] at ho; split at ho; cases ho; exact ho)⟩

theorem rangeFunc_law {P : Program} {f : Operand} {ps : Array Tmp} {asg body : Code} {e : Env} {s : AState} {Q : Post} {gf : FuncId} {first cap : List AV} (hf : e.eval f = .fn gf first cap)
    (h : ∀ n, codeBel n (.rangeFunc f ps asg body) = true → ACalls P gf ((first ++ [AV.yl (s.next + 1)] ++ cap).map AV.untok) ((s.new .defd).new (.loop e ps.toList n asg body .ready none s.next)) fun d s2 =>
      ∃ st pend, st ≠ .busy ∧ s2.obj (s.next + 1) = some (.loop e ps.toList n asg body st pend s.next) ∧ jumpQ Q e (s2.mark (s.next + 1) s.next) pend) : ACode P (.rangeFunc f ps asg body) e s Q := by
  intro m T g0 w0 n g w a hb hr
  obtain ⟨hen, hcall⟩ := h n hb
  refine wpIn_rangeFunc fun fn _ => ?_
  obtain ⟨hev1, hinv1⟩ := step_newO hr.inv (.deferred (some [])) .defd rfl rfl
  have hblkD : (g.own w.heap.size).blk s.next = w.heap.size := by simp [Gh.own, hr.inv.next]
  have hrec : OwnOk (g.own w.heap.size) (w.alloc (.deferred (some []))) (.loop e ps.toList n asg body .ready none s.next)
      (.loop { state := .ready, pending := none, fn := fn, tmps := a.tmps, params := ps, assign := asg, body := body, defers := w.heap.size }) :=
    ⟨by simp [Gh.own, hr.inv.next], a.tmps, fn, by rw [hblkD, Array.toArray_toList], hr.size, fun t => (hr.env t).ev hev1⟩
  obtain ⟨hev2, hinv2⟩ := step_newO hinv1 _ _ rfl hrec
  have hsz : (w.alloc (.deferred (some []))).heap.size = w.heap.size + 1 := by simp
  rw [hsz] at hev2 hinv2
  have hnx1 : (g.own w.heap.size).next = g.next + 1 := rfl
  have hE : Ev T g w ((g.own w.heap.size).own (w.heap.size + 1)) ((w.alloc (.deferred (some []))).alloc (.loop { state := .ready, pending := none, fn := fn, tmps := a.tmps, params := ps, assign := asg, body := body, defers := w.heap.size })) := hev1.none_touch.trans hev2.none_touch
  have hT1 := hr.tok.new hr.inv .defd
  have hT2 := hT1.new hinv1 (.loop e ps.toList n asg body .ready none s.next)
  have hv := hr.eval f
  rw [hf] at hv
  cases hcv : a.eval f with
  | func fv vf vc =>
    rw [hcv] at hv
    cases hv with
    | fn h1 h2 h3 h4 =>
    have hyl : R ((g.own w.heap.size).own (w.heap.size + 1)) ((w.alloc (.deferred (some []))).alloc (.loop { state := .ready, pending := none, fn := fn, tmps := a.tmps, params := ps, assign := asg, body := body, defers := w.heap.size })) (.func (.yield (w.heap.size + 1)) #[] #[]) (.yl (s.next + 1)) :=
      .yl (by simp [Gh.own, hr.inv.next]) (by simp [Gh.own, hr.inv.next])
    have hRL : RL ((g.own w.heap.size).own (w.heap.size + 1)) ((w.alloc (.deferred (some []))).alloc (.loop { state := .ready, pending := none, fn := fn, tmps := a.tmps, params := ps, assign := asg, body := body, defers := w.heap.size }))
        (vf.toList ++ [.func (.yield (w.heap.size + 1)) #[] #[]] ++ vc.toList) (first ++ [.yl (s.next + 1)] ++ cap) :=
      RL_append (RL_append (RL_arr h1 fun i hi => (h3 i hi).ev hE) ⟨rfl, fun i hi => by match i, hi with | 0, _ => exact hyl⟩) (RL_arr h2 fun i hi => (h4 i hi).ev hE)
    have hc := hcall T _ _ _ hinv2 hT2 (RL_untok hRL)
    have henter := run_enterLoop_outer (P := P) (w := w) fn a.tmps ps asg body
    have hL0 : ((g.own w.heap.size).own (w.heap.size + 1)).blk (s.next + 1) = w.heap.size + 1 := by simp [Gh.own, hr.inv.next]
    have hD0 : ((g.own w.heap.size).own (w.heap.size + 1)).blk s.next = w.heap.size := by simp [Gh.own, hr.inv.next]
    have hn0 : ((g.own w.heap.size).own (w.heap.size + 1)).next = s.next + 2 := by simp [Gh.own, hr.inv.next]
    clear hRL hyl hinv2 hT2 hev2 hrec hev1 hinv1 hT1
    generalize (w.alloc (.deferred (some []))).alloc (.loop { state := .ready, pending := none, fn := fn, tmps := a.tmps, params := ps, assign := asg, body := body, defers := w.heap.size }) = w2 at hE hc henter
    generalize (g.own w.heap.size).own (w.heap.size + 1) = gg at hE hc hL0 hD0 hn0
    refine ⟨w.heap.size + 1, [{ target := .collected w.heap.size, args := #[] }], w2, { target := .fn (.func gf) vc, args := vf ++ #[.func (.yield (w.heap.size + 1)) #[] #[]] }, w2, gf, (vf.toList ++ [Value.func (.yield (w.heap.size + 1)) #[] #[]] ++ vc.toList).toArray, w2, henter, ?_, fun _ _ => trivial, ?_, fun h => by simp [Fr, Fence.wide] at h, ?_⟩
    · have e1 : (#[Operand.const (Value.func (.yield (w.heap.size + 1)) #[] #[])] : Array Operand).map a.eval = #[Value.func (.yield (w.heap.size + 1)) #[] #[]] := by simp [Act.eval]
      simp only [resolve, hcv, Deferred.ofValue, Sem.run_pure, e1]
    · simp only [invoke]
      rw [hen]
      simp
    · refine callsIn_fr (Calls.mono hc ?_)
      rintro en w3 ⟨v, d, s2, g2, rfl, hR2, hI2, hE2, hTk2, hB2, st, pend, hbz, ho2, hj⟩
      obtain ⟨hlt2, hD2, tmps2, fn2, hg2, hsz2, hR2'⟩ := loopAt hI2 ho2
      have hL : g2.blk (s.next + 1) = w.heap.size + 1 := by
        rw [hE2.blk _ (by omega)]; exact hL0
      have hDb : g2.blk s.next = w.heap.size := by
        rw [hE2.blk _ (by omega)]; exact hD0
      obtain ⟨hev3, hinv3⟩ := step_setO (a' := .loop e ps.toList n asg body .exhausted pend s.next) (o' := .loop { state := .exhausted, pending := pend, fn := fn2, tmps := tmps2, params := ps.toList.toArray, assign := asg, body := body, defers := g2.blk s.next }) hI2 ho2 rfl rfl ⟨hD2, tmps2, fn2, rfl, hsz2, hR2'⟩
      have hE3 := hev3.mono (T' := T) (fun i e => by subst e; exact hTk2.2 _ _ ho2)
      rw [hL] at hg2 hinv3 hE3
      have hEall : Ev T g w g2 _ := hE.trans (hE2.trans hE3)
      have hrel : Rel T g0 w0 n e (s2.mark (s.next + 1) s.next) g2 (w3.putObj (w.heap.size + 1) (.loop { state := .exhausted, pending := pend, fn := fn2, tmps := tmps2, params := ps.toList.toArray, assign := asg, body := body, defers := g2.blk s.next }))
          { a with defers := [{ target := .collected w.heap.size, args := #[] }] ++ a.defers } := by
        refine ⟨hr.size, fun t => (hr.env t).ev hEall, ?_, fun id hid => ?_, ?_, hr.ev.trans hEall, ?_, ?_⟩
        · show [_] ++ a.defers = _
          simp only [AState.mark, List.map_cons, hDb, List.cons_append, List.nil_append]
          rw [hr.defs, hB2]
          congr 1
          apply List.map_congr_left
          intro id hid
          rw [hEall.blk id (hr.mlt id hid)]
        · simp only [AState.mark, List.mem_cons] at hid
          rcases hid with rfl | hid
          · exact hD2
          · rw [hB2] at hid; exact Nat.lt_of_lt_of_le (hr.mlt id hid) hEall.next
        · have := hinv3.del (s.next + 1)
          refine ⟨this.next, this.base, fun i o ho => this.obj i o ?_⟩
          simp only [AState.mark, AState.del, AState.set] at ho ⊢
          split at ho
          · cases ho
          · rename_i hne; simp only [hne, if_false]; exact ho
        · exact hTk2.del (s.next + 1)
        · show s2.base.lo = g0.next
          rw [hB2]; exact hr.lo
      refine ⟨pend, _, run_endLoop hg2 hbz, ?_⟩
      cases pend with
      | none => exact ⟨e, _, g2, hrel, hj⟩
      | some c =>
        cases c with
        | ret => exact wpIn_ret ⟨e, _, g2, hrel, hj⟩
        | exit i => exact wpIn_exit ⟨e, _, g2, hrel, hj⟩
        | _ => exact hj.elim
  | _ => rw [hcv] at hv; cases hv

/-! ### The end of a body that holds such statements -/
theorem resAll_base {P : Program} {e : Env} {s : AState} {b : FBase} : ∀ {rs : List ResultVar}, resAll P e { s with base := b } rs = resAll P e s rs
  | [] => rfl
  | r :: rs => by
    have h1 : resOne P e { s with base := b } r = resOne P e s r := by cases r <;> rfl
    simp only [resAll, h1, resAll_base]

theorem Rel_enter {T : Nat → Prop} {g : Gh} {w : World} {s : AState} {vs : List Value} {args : List AV} {n : Nat} (hi : Inv g s w) (ht : TOk T s) (hRL : RL g w vs args) (hlen : args.length ≤ n) :
    Rel T g w n (envA args) { s with base := ⟨s.next, []⟩ } g w { tmps := vs.toArray ++ Array.replicate (n - vs.toArray.size) undef, defers := [] } := by
  refine ⟨?_, fun t => ?_, rfl, (fun id h => by cases h), ⟨hi.next, Nat.le_refl _, hi.obj⟩, Ev.refl T g w, ⟨fun id hid => ht.1 id (Nat.le_trans hi.base hid), ht.2⟩, hi.next⟩
  · simp only [Array.size_append, List.size_toArray, Array.size_replicate, hRL.1]; omega
  · by_cases hlt : t < args.length
    · have h1 := hRL.2 t hlt
      have e : (vs.toArray ++ Array.replicate (n - vs.toArray.size) undef).getD t undef = vs.getD t undef := by
        simp only [Array.getD_eq_getD_getElem?, List.getD_eq_getElem?_getD]
        rw [Array.getElem?_append_left (by simp [hRL.1]; exact hlt)]
        simp
      show R g w (Array.getD _ _ _) _
      rw [e]
      exact h1
    · have e : (vs.toArray ++ Array.replicate (n - vs.toArray.size) undef).getD t undef = undef := by
        simp only [Array.getD_eq_getD_getElem?]
        rw [Array.getElem?_append_right (by simp [hRL.1]; omega)]
        rw [Array.getElem?_replicate]
        split <;> rfl
      show R g w (Array.getD _ _ _) _
      rw [e]
      simp only [envA]
      rw [List.getD_eq_getElem?_getD, List.getElem?_eq_none (by omega)]
      exact .v rfl

def leaveS : List Nat → AState → Option AState
  | [], s => some s
  | D :: r, s =>
    match s.obj D with
    | some .defd => leaveS r (s.del D)
    | _ => none

def RetM (P : Program) (rs : List ResultVar) (s : AState) (k : AV → AState → Prop) : Post := fun ex e s' =>
  (ex = .normal ∨ ex = .ret) ∧ opt (leaveS s'.base.marks s') fun s'' => opt (resAll P e s'' rs) fun l => ∃ d2 s2, AFin s (packAV l) s'' d2 s2 ∧ k d2 s2

theorem leaveS_sound {P : Program} {T : Nat → Prop} {g0 : Gh} {w0 : World} {n : Nat} {e : Env} {fn : Func} {tmps : Array Value} {R : Ending → World → Prop} {g : Gh} : ∀ (ms : List Nat) (s s'' : AState) (w : World) (df : List Deferred),
    Rel T g0 w0 n e { s with base := ⟨s.base.lo, []⟩ } g w { tmps := tmps, defers := [] } → leaveS ms s = some s'' → df = ms.map (fun id => { target := .collected (g.blk id), args := #[] }) →
    (∀ w', Rel T g0 w0 n e { s'' with base := ⟨s''.base.lo, []⟩ } g w' { tmps := tmps, defers := [] } → ∃ v, (results fn tmps).run P w' = .ok v w' ∧ R (.returned v) w') → LeavesInM Fence.wide 0 P fn tmps R df .returning w
  | [], s, s'', w, df, hr, hl, hd, hk => by
    simp only [leaveS, Option.some.injEq] at hl
    subst hl; subst hd
    exact hk w hr
  | D :: ms, s, s'', w, df, hr, hl, hd, hk => by
    simp only [leaveS] at hl
    split at hl
    · rename_i ho
      subst hd
      obtain ⟨hlt, hp, x, hx, rfl⟩ := hr.inv.obj D _ ho
      have hev := Ev.putObj (w := w) hp (.deferred none)
      have hE := hev.mono (T' := T) (fun i e => by subst e; exact hr.tok.2 _ _ ho)
      have hinv : Inv g ({ s with base := ⟨s.base.lo, []⟩ } : AState) w := hr.inv
      have hinv2 : Inv g (AState.del { s with base := ⟨s.base.lo, []⟩ } D) (w.putObj (g.blk D) (.deferred none)) :=
        Inv.touch (id := D) hinv hev hinv.next hinv.base (fun i o hne h => by simp only [AState.del, hne, if_false] at h; exact h) (fun o h => by simp [AState.del] at h)
      refine ⟨by simp, .inl ⟨g.blk D, w.putObj (g.blk D) (.deferred none), rfl, run_takeDeferred hx, ?_⟩⟩
      exact leaveS_sound ms (s.del D) s'' _ _ ⟨hr.size, fun t => (hr.env t).ev hE, rfl, (fun id h => by cases h), hinv2, hr.ev.trans hE, hr.tok.del D, hr.lo⟩ hl rfl hk
    · cases hl

theorem ACalls_bodyM {P : Program} {C : Cfg} {f : FuncId} {fn : Func} {c : Code} {args : List AV} {rs : List ResultVar} {s : AState} {k : AV → AState → Prop} (hf : P.funcs[f]? = some fn) (hname : (fn.name == "runtime.NumGoroutine") = false)
    (hb : fn.body = some c) (hwf : codeBel fn.ntmps c = true) (hlen : args.length ≤ fn.ntmps) (hrs : fn.results.toList = rs) (h : s.Wf → (∀ d ∈ args, Bel s.next d) → aeval P C c (RetM P rs s k) (envA args) { s with base := ⟨s.next, []⟩ }) : ACalls P f args s k := by
  refine ⟨fun args w => ?_, fun T g w vs hi ht hRL => ?_⟩
  · have hn : ¬ fn.name = "runtime.NumGoroutine" := by simpa using hname
    simp [callFunc, hf, hn, hb]
  · have h := h (fun id o ho => ⟨by rw [hi.next]; exact (hi.obj id o ho).1, by rw [hi.next]; exact (hi.obj id o ho).2.bel⟩) (fun d hd => by
      obtain ⟨i, hi', rfl⟩ := mem_getD (d := AV.un) hd
      rw [hi.next]; exact (hRL.2 i hi').bel)
    let a : Act := { tmps := vs.toArray ++ Array.replicate (fn.ntmps - vs.toArray.size) undef, defers := [] }
    have hrel : Rel T g w fn.ntmps (envA args) { s with base := ⟨s.next, []⟩ } g w a := Rel_enter hi ht hRL hlen
    have hwp : c.wpIn (Fr none) 0 P (Lift T g w fn.ntmps (RetM P rs s k)) a w := aeval_sound (ro := none) (m := 0) c (.inl rfl) hwf _ _ _ g w a h hrel
    refine (callsIn_wide (n := 0)).1 (callsIn_of_wp_marks hf hb trivial ?_)
    refine wpIn_mono hwp fun ex a' w' hq => ?_
    obtain ⟨e, s', g', hr, hex, hq⟩ := hq
    obtain ⟨s'', hlv, hq⟩ := opt_elim hq
    obtain ⟨l, hl, d2, s2, hfin, hk⟩ := opt_elim hq
    have key : LeavesInM Fence.wide 0 P fn a'.tmps (fun e w' => ∃ v d s' g', e = .returned v ∧ R g' w' v d ∧ Inv g' s' w' ∧ Ev T g w g' w' ∧ TOk T s' ∧ s'.base = s.base ∧ k d s') a'.defers .returning w' := by
      refine leaveS_sound (g0 := g) (w0 := w) (T := T) (n := fn.ntmps) (e := e) (g := g') s'.base.marks s' s'' w' a'.defers ⟨hr.size, hr.env, rfl, (fun id h => by cases h), ⟨hr.inv.next, hr.inv.base, hr.inv.obj⟩, hr.ev, hr.tok, hr.lo⟩ hlv hr.defs fun w3 hr3 => ?_
      obtain ⟨v, hv, hR⟩ := results_sound hr3 (by rw [hrs]; exact resAll_base.trans hl)
      obtain ⟨g'', hI, hR', hE, hT, hB⟩ := hfin T g w g' w3 v hi ⟨hr3.inv.next, hr3.inv.base, hr3.inv.obj⟩ hR hr3.ev ht hr3.tok
      exact ⟨v, hv, v, d2, s2, g'', rfl, hR', hI, hE, hT, hB, hk⟩
    rcases hex with rfl | rfl
    · exact key
    · exact key

/-! ### What a body leaves in elder things -/
theorem AFin_drop {s s' S : AState} {d : AV} (hn : S.next = s.next) (hb : S.base = s.base) (hle : s.next ≤ s'.next) (hS : ∀ i o, S.obj i = some o → i < s.next ∧ OBel s.next o ∧ s'.obj i = some o) (hd : Bel s.next d) : AFin s d s' d S := by
  intro T g0 w0 g w v h0 hi hR hE hT0 hT
  have hn0 : s.next = g0.next := h0.next
  refine ⟨{ g with next := g0.next }, ⟨hn.trans hn0, by rw [hb, hn]; exact h0.base, fun id o ho => ?_⟩, hR.trim (by rw [← hn0]; exact hd), hE.trim (Nat.le_refl _) hE.next, ⟨fun id hid => hT0.1 id (by rw [hb] at hid; exact hid), fun id o ho => hT.2 id o (hS id o ho).2.2⟩, hb⟩
  obtain ⟨h1, h2, h3⟩ := hS id o ho
  exact ⟨by rw [← hn0]; exact h1, (hi.obj id o h3).2.trim (by rw [← hn0]; exact h2)⟩

theorem Ret_drop {P : Program} {rs : List ResultVar} {s s' S : AState} {k : AV → AState → Prop} {ex : Exit} {e : Env} {l m : List AV} (hex : ex = .normal ∨ ex = .ret) (hm : s'.base.marks = []) (hl : resAll P e s' rs = some l) (hw : WvL s' l m)
    (hn : S.next = s.next) (hb : S.base = s.base) (hle : s.next ≤ s'.next) (hS : ∀ i o, S.obj i = some o → i < s.next ∧ OBel s.next o ∧ s'.obj i = some o) (hd : Bel s.next (packAV m)) (hk : k (packAV m) S) : Ret P rs s k ex e s' := by
  refine ⟨hex, hm, ?_⟩
  rw [hl]
  exact ⟨packAV m, S, AFin.weak hw (AFin_drop hn hb hle hS hd), hk⟩

theorem AYield_use {P : Program} {id : Nat} {args : List AV} {s : AState} {k : AV → AState → Prop} {d0 : AV} {s0 : AState} (h : AYield P id args s fun d s' => d = d0 ∧ s' = s0) (hk : k d0 s0) : AYield P id args s k :=
  AYield_mono (fun d s' ⟨e1, e2⟩ => by subst e1; subst e2; exact hk) h

theorem AState.ext' {s s' : AState} (h1 : ∀ i, s.obj i = s'.obj i) (h2 : s.next = s'.next) (h3 : s.base = s'.base) : s = s' := by
  cases s; cases s'
  simp only at h1 h2 h3
  subst h2; subst h3
  congr 1
  exact funext h1

/-- The rules for rounds. -/
theorem EZ (P : Program) :
    (∀ id args s k, callV P (.yl id) args s k = AYield P id (args.map AV.untok) s k) ∧
    (∀ C id e ps nt asg body pend D Q e1 s1, beginQ P C id e ps nt asg body pend D Q .normal e1 s1 = (s1.obj id = some (.loop e ps nt asg body .ready pend D) ∧ aeval P C body Q e1 (s1.set id (.loop e ps nt asg body .busy pend D)))) := by
  exact ⟨fun _ _ _ _ => rfl, fun _ _ _ _ _ _ _ _ _ _ _ _ => rfl⟩
theorem EZ0 :
    (∀ e t ts d ds, setL e (t :: ts) (d :: ds) = setL (e.set (some t) d) ts ds) ∧
    (∀ e, setL e [] [] = e) := ⟨fun _ _ _ _ _ => rfl, fun _ => rfl⟩
theorem new_self (s : AState) (o : AObj) : (s.new o).obj s.next = some o := if_pos rfl

end Go.Av

/- Code cut into parts, each by its own law; what lies beside a call; what a body leaves. -/
namespace Go.Av
open Go
set_option linter.unusedVariables false
set_option linter.unusedSimpArgs false

/-! ### Code, by parts -/
theorem ACode_of {P : Program} {C : Cfg} {c : Code} {e : Env} {s : AState} {Q : Post} (h : aeval P C c Q e s) : ACode P c e s Q :=
  fun m T g0 w0 n g w a hb hr => aeval_sound (ro := none) (m := m) c (.inl rfl) hb _ _ _ g w a h hr

theorem ACode_ent {P : Program} {c : Code} {e e' : Env} {s s' : AState} {Q : Post} (h : AEnt e s e' s') (hc : ACode P c e' s' Q) : ACode P c e s Q :=
  fun m T g0 w0 n g w a hb hr => let ⟨g', hr'⟩ := h T g0 w0 n g w a hr; hc m T g0 w0 n g' w a hb hr'

theorem ACode_mono {P : Program} {c : Code} {e : Env} {s : AState} {Q Q' : Post} (h : ACode P c e s Q) (hq : ∀ ex e s, Q ex e s → Q' ex e s) : ACode P c e s Q' :=
  fun m T g0 w0 n g w a hb hr => wpIn_mono (h m T g0 w0 n g w a hb hr) fun ex a' w' ⟨e, s, g, hr, hx⟩ => ⟨e, s, g, hr, hq _ _ _ hx⟩

theorem ACode_seq {P : Program} {A B : Code} {e : Env} {s : AState} {Q : Post} (h : ACode P A e s (thenQ (fun e s => ACode P B e s Q) Q)) : ACode P (.seq A B) e s Q := by
  intro m T g0 w0 n g w a hb hr
  simp only [codeBel, Bool.and_eq_true] at hb
  refine wpIn_seq (wpIn_mono (h m T g0 w0 n g w a hb.1 hr) fun ex a' w' hq => ?_)
  exact lift_then (fun e' s' g' w'' a'' hr' hF => hF m T g0 w0 n g' w'' a'' hb.2 hr') ex a' w' hq

theorem ACode_block {P : Program} {id : Nat} {b : Code} {e : Env} {s : AState} {Q : Post} (h : ACode P b e s (inBl id Q)) : ACode P (.block id b) e s Q := by
  intro m T g0 w0 n g w a hb hr
  refine wpIn_block (wpIn_mono (h m T g0 w0 n g w a hb hr) fun ex a' w' hq => ?_)
  obtain ⟨e', s', g', hr', hq⟩ := hq
  cases ex with
  | exit i =>
    simp only [inBl] at hq
    simp only [Exit.inBlock]
    split at hq
    · rename_i hi; rw [if_pos hi]; exact ⟨e', s', g', hr', hq⟩
    · rename_i hi; rw [if_neg hi]; exact ⟨e', s', g', hr', hq⟩
  | _ => exact ⟨e', s', g', hr', hq⟩

/-- A function's contract out of its body's parts. -/
theorem ACalls_code {P : Program} {f : FuncId} {fn : Func} {c : Code} {args : List AV} {rs : List ResultVar} {s : AState} {k : AV → AState → Prop} (hf : P.funcs[f]? = some fn) (hname : (fn.name == "runtime.NumGoroutine") = false)
    (hb : fn.body = some c) (hwf : codeBel fn.ntmps c = true) (hlen : args.length ≤ fn.ntmps) (hrs : fn.results.toList = rs) (h : s.Wf → (∀ d ∈ args, Bel s.next d) → ACode P c (envA args) { s with base := ⟨s.next, []⟩ } (RetM P rs s k)) : ACalls P f args s k := by
  refine ⟨fun args w => ?_, fun T g w vs hi ht hRL => ?_⟩
  · have hn : ¬ fn.name = "runtime.NumGoroutine" := by simpa using hname
    simp [callFunc, hf, hn, hb]
  · have h := h (fun id o ho => ⟨by rw [hi.next]; exact (hi.obj id o ho).1, by rw [hi.next]; exact (hi.obj id o ho).2.bel⟩) (fun d hd => by
      obtain ⟨i, hi', rfl⟩ := mem_getD (d := AV.un) hd
      rw [hi.next]; exact (hRL.2 i hi').bel)
    let a : Act := { tmps := vs.toArray ++ Array.replicate (fn.ntmps - vs.toArray.size) undef, defers := [] }
    have hrel : Rel T g w fn.ntmps (envA args) { s with base := ⟨s.next, []⟩ } g w a := Rel_enter hi ht hRL hlen
    have hwp : c.wpIn (Fr none) 0 P (Lift T g w fn.ntmps (RetM P rs s k)) a w := h 0 T g w fn.ntmps g w a hwf hrel
    refine (callsIn_wide (n := 0)).1 (callsIn_of_wp_marks hf hb trivial ?_)
    refine wpIn_mono hwp fun ex a' w' hq => ?_
    obtain ⟨e, s', g', hr, hex, hq⟩ := hq
    obtain ⟨s'', hlv, hq⟩ := opt_elim hq
    obtain ⟨l, hl, d2, s2, hfin, hk⟩ := opt_elim hq
    have key : LeavesInM Fence.wide 0 P fn a'.tmps (fun e w' => ∃ v d s' g', e = .returned v ∧ R g' w' v d ∧ Inv g' s' w' ∧ Ev T g w g' w' ∧ TOk T s' ∧ s'.base = s.base ∧ k d s') a'.defers .returning w' := by
      refine leaveS_sound (g0 := g) (w0 := w) (T := T) (n := fn.ntmps) (e := e) (g := g') s'.base.marks s' s'' w' a'.defers ⟨hr.size, hr.env, rfl, (fun id h => by cases h), ⟨hr.inv.next, hr.inv.base, hr.inv.obj⟩, hr.ev, hr.tok, hr.lo⟩ hlv hr.defs fun w3 hr3 => ?_
      obtain ⟨v, hv, hR⟩ := results_sound hr3 (by rw [hrs]; exact resAll_base.trans hl)
      obtain ⟨g'', hI, hR', hE, hT, hB⟩ := hfin T g w g' w3 v hi ⟨hr3.inv.next, hr3.inv.base, hr3.inv.obj⟩ hR hr3.ev ht hr3.tok
      exact ⟨v, hv, v, d2, s2, g'', rfl, hR', hI, hE, hT, hB, hk⟩
    rcases hex with rfl | rfl
    · exact key
    · exact key

/-! ### What a body leaves: some things more -/
theorem AFin_more {s s' S : AState} {d : AV} (hn : s.next ≤ S.next) (hb : S.base = s.base) (hle : S.next ≤ s'.next) (hS : ∀ i o, S.obj i = some o → i < S.next ∧ OBel S.next o ∧ s'.obj i = some o) (hd : Bel S.next d) : AFin s d s' d S := by
  intro T g0 w0 g w v h0 hi hR hE hT0 hT
  have hn0 : s.next = g0.next := h0.next
  refine ⟨{ g with next := S.next }, ⟨rfl, by rw [hb]; exact Nat.le_trans h0.base hn, fun id o ho => ?_⟩, hR.trim hd, hE.trim (by show g0.next ≤ S.next; omega) (by rw [← hi.next]; exact hle), ⟨fun id hid => hT0.1 id (by rw [hb] at hid; exact hid), fun id o ho => hT.2 id o (hS id o ho).2.2⟩, hb⟩
  obtain ⟨h1, h2, h3⟩ := hS id o ho
  exact ⟨h1, (hi.obj id o h3).2.trim h2⟩

theorem leaveS_one {s : AState} {D : Nat} (hm : s.base.marks = [D]) (h : s.obj D = some .defd) : leaveS s.base.marks s = some (s.del D) := by
  rw [hm]; simp only [leaveS, h]

theorem RetM_more {P : Program} {rs : List ResultVar} {s s' s'' S : AState} {k : AV → AState → Prop} {ex : Exit} {e : Env} {l m : List AV} (hex : ex = .normal ∨ ex = .ret) (hm : leaveS s'.base.marks s' = some s'') (hl : resAll P e s'' rs = some l) (hw : WvL s'' l m)
    (hn : s.next ≤ S.next) (hb : S.base = s.base) (hle : S.next ≤ s''.next) (hS : ∀ i o, S.obj i = some o → i < S.next ∧ OBel S.next o ∧ s''.obj i = some o) (hd : Bel S.next (packAV m)) (hk : k (packAV m) S) : RetM P rs s k ex e s' := by
  refine ⟨hex, ?_⟩
  rw [hm]
  show opt (resAll P e s'' rs) _
  rw [hl]
  exact ⟨packAV m, S, AFin.weak hw (AFin_more hn hb hle hS hd), hk⟩

/-! ### What lies beside a call -/
def AState.keep (s : AState) (p : Nat → Bool) : AState := { obj := fun i => if p i then s.obj i else none, next := s.next, base := ⟨s.next, []⟩ }
def AState.join (s s' : AState) (p : Nat → Bool) : AState := { obj := fun i => if i < s.next && !p i then s.obj i else s'.obj i, next := s'.next, base := s.base }

theorem ACalls_frame {P : Program} {f : FuncId} {args : List AV} {s : AState} {k k0 : AV → AState → Prop} (p : Nat → Bool) (h : ACalls P f args (s.keep p) k0) (hk : s.Wf → ∀ d s', s.next ≤ s'.next → k0 d s' → k d (s.join s' p)) : ACalls P f args s k := by
  refine ⟨h.1, fun T g w vs hi ht hRL => ?_⟩
  let T0 : Nat → Prop := fun id => s.next ≤ id ∨ (p id = true ∧ ∃ o, s.obj id = some o)
  have hTT : ∀ id, T0 id → T id := by
    rintro id (h | ⟨_, o, h⟩)
    · exact ht.1 id (Nat.le_trans hi.base h)
    · exact ht.2 id o h
  have hi0 : Inv g (s.keep p) w := ⟨hi.next, Nat.le_refl _, fun id o ho => by
    simp only [AState.keep] at ho
    split at ho
    · exact hi.obj id o ho
    · cases ho⟩
  have ht0 : TOk T0 (s.keep p) := ⟨fun id hid => .inl hid, fun id o ho => by
    simp only [AState.keep] at ho
    split at ho
    · rename_i hp; exact .inr ⟨hp, o, ho⟩
    · cases ho⟩
  refine (h.2 T0 g w vs hi0 ht0 hRL).mono ?_
  rintro e w' ⟨v, d, s', g', rfl, hR, hI, hE, hT, hB, hk0⟩
  have hle : s.next ≤ s'.next := by rw [hi.next, hI.next]; exact hE.next
  refine ⟨v, d, s.join s' p, g', rfl, hR, ⟨hI.next, Nat.le_trans hi.base hle, fun id o ho => ?_⟩, hE.mono hTT, ⟨ht.1, fun id o ho => ?_⟩, rfl, hk (fun id o ho => ⟨by rw [hi.next]; exact (hi.obj id o ho).1, by rw [hi.next]; exact (hi.obj id o ho).2.bel⟩) d s' hle hk0⟩
  · simp only [AState.join] at ho
    split at ho
    · rename_i hc
      simp only [Bool.and_eq_true, decide_eq_true_eq, Bool.not_eq_true'] at hc
      obtain ⟨h1, h2⟩ := hi.obj id o ho
      refine ⟨Nat.lt_of_lt_of_le h1 hE.next, h2.ev hE h1 ?_⟩
      rintro (h | ⟨h, _⟩)
      · omega
      · rw [hc.2] at h; cases h
    · exact hI.obj id o ho
  · simp only [AState.join] at ho
    split at ho
    · exact ht.2 id o ho
    · exact hTT _ (hT.2 id o ho)

end Go.Av

/- A row just laid is sorted by the library's sort of structs. -/
namespace Go.Av
open Go Go.Proofs Go.Shelf Go.RowKit Go.Lib Go.Sort
set_option linter.unusedVariables false
set_option linter.unusedSimpArgs false

/-- Reads the same wherever it is. -/
def WF (d : AV) : Prop := ∀ (g : Gh) (w : World) (g' : Gh) (w' : World) (x : Value), R g w x d → R g' w' x d

theorem WF_v (x : Value) : WF (.v x) := fun g w g' w' y h => by cases h with | v hf => exact .v hf
theorem WF_agg {cs : List AV} (h : ∀ c ∈ cs, WF c) : WF (.agg cs) := fun g w g' w' y hr => by
  cases hr with
  | agg a1 a2 a3 => exact .agg a1 (fun i hi => h _ (getD_mem hi) _ _ _ _ _ (a2 i hi)) a3

def WFO : AObj → Prop
  | .map es => ∀ p ∈ es, WF p.1 ∧ WF p.2
  | _ => False

theorem WFO.own {a : AObj} (h : WFO a) : a.isOwn = true := by cases a <;> first | rfl | exact h.elim
theorem WFO.ok {a : AObj} (h : WFO a) {g g' : Gh} {w w' : World} {o : Obj} (ho : OwnOk g w a o) : OwnOk g' w' a o := by
  cases a with
  | map es =>
    obtain ⟨vs, h1, h2, h3⟩ := ho
    exact ⟨vs, h1, h2, fun i p hp => let ⟨x, a, b, c, d⟩ := h3 i p hp; ⟨x, a, b, (h p (List.mem_of_getElem? hp)).1 _ _ _ _ _ c, (h p (List.mem_of_getElem? hp)).2 _ _ _ _ _ d⟩⟩
  | _ => exact h.elim

/-! ### The test of two, as the sort asks it -/
def Gh.all : Gh := { next := 0, blk := fun _ => 0, perm := fun _ => .ro, stamp := fun _ => 0, rblk := fun _ => 0, rend := fun _ => 0, rsize := fun _ => 0, rhas := fun _ => false }

theorem Ev_grow {T : Nat → Prop} {w w' : World} {g' : Gh} (h : Ev T Gh.all w g' w') : ∃ q os', w' = grow (w.drewN q) os' := by
  refine ⟨w'.drawn - w.drawn, (w'.heap.toList.drop w.heap.size).toArray, ?_⟩
  have h1 : ∀ b, b < w.heap.size → w'.heap[b]? = w.heap[b]? := fun b hb => (h.ro b hb rfl).2
  have h2 : w'.heap = w.heap ++ (w'.heap.toList.drop w.heap.size).toArray := by
    apply Array.ext_getElem?
    intro i
    rcases Nat.lt_or_ge i w.heap.size with hi | hi
    · rw [Array.getElem?_append_left hi]; exact h1 i hi
    · rw [Array.getElem?_append_right hi]
      simp only [List.getElem?_toArray, List.getElem?_drop]
      rw [← Array.getElem?_toList]
      congr 1; omega
  have h3 := h.os; have h4 := h.tape; have h5 := h.output; have h6 := h.drawn
  obtain ⟨a, b, c, d, e⟩ := w'
  obtain ⟨a', b', c', d', e'⟩ := w
  simp only at h2 h3 h4 h5 h6
  simp only [grow, World.drewN]
  subst h3; subst h4; subst h5
  rw [← h2]
  congr 1
  omega

section
variable {P : Program} {ρ : Ren} {α : Type} [Inhabited α]

theorem cmpLays_of {g : Nat} {enc : α → List Value} {k : Nat} {cf : α → α → Int} (h : ∀ x y, APure P g [.agg ((enc x).map .v), .agg ((enc y).map .v)] (.v (.int .i64 (cf x y))))
    (hf : ∀ x, ∀ v ∈ enc x, flat v = true ∧ (AV.v v).one = true) (blk off size : Nat) (w : World) : CmpLays P g #[] enc k cf blk off size w := by
  intro m os dk hdk x y
  generalize sortWorldK enc k w blk off m dk os = W
  let s0 : AState := { obj := fun _ => none, next := 0, base := ⟨0, []⟩ }
  have key : ∀ x, R Gh.all W (.agg (enc x).toArray) (.agg ((enc x).map .v)) := fun x => by
    refine .agg (by simp) (fun i hi => ?_) (fun i hi => ?_)
    · simp only [List.length_map] at hi
      rw [Array.getD_eq_getD_getElem?, List.getElem?_toArray, List.getD_eq_getElem?_getD, List.getElem?_map, List.getElem?_eq_getElem hi]
      exact .v (hf x _ (List.getElem_mem hi)).1
    · simp only [List.length_map] at hi
      rw [List.getD_eq_getElem?_getD, List.getElem?_map, List.getElem?_eq_getElem hi]
      exact (hf x _ (List.getElem_mem hi)).2
  have h1 := (h x y s0).2 (fun _ => True) Gh.all W [.agg (enc x).toArray, .agg (enc y).toArray] ⟨rfl, Nat.le_refl _, fun _ _ h => by cases h⟩ ⟨fun _ _ => trivial, fun _ _ h => by cases h⟩
    ⟨rfl, fun i hi => by match i, hi with | 0, _ => exact key x | 1, _ => exact key y⟩
  rw [Array.append_empty]
  refine Calls.mono h1 ?_
  rintro e w' ⟨v, d, s', g', rfl, hR, _, hE, _, _, rfl, _⟩
  obtain ⟨rfl, _⟩ := hR.flat_eq
  exact ⟨rfl, Ev_grow hE⟩

/-- The rows of a list. -/
def rowsE (enc : α → List Value) (l : List α) : List (List AV) := l.map fun x => (enc x).map .v

omit [Inhabited α] in
theorem rowsE_get {enc : α → List Value} {l : List α} {i : Nat} (hi : i < l.length) : (rowsE enc l).getD i [] = (enc l[i]).map .v := by
  simp [rowsE, List.getD_eq_getElem?_getD, hi]

/-- The sort's own word, at slices of the program. -/
structure Sorts (P : Program) (f g : Nat) (enc : α → List Value) (k : Nat) (sorted : List α → List α) : Prop where
  some : ∀ (blk off cap : Nat) (d : Array α) (w : World), HoldsK enc k w blk off d → blk < w.heap.size → d.size < 4611686018427387904 →
    Calls P f #[.slice (some ⟨blk, off, none⟩) d.size cap, .func (.func g) #[] #[]] w fun e w' => e = .returned (.tuple #[]) ∧ ∃ n os, w' = sortWorldK enc k w blk off n (sorted d.toList).toArray os
  none : ∀ (p : Option Addr) (cap : Nat) (fv : Value) (w : World), Calls P f #[.slice p 0 cap, fv] w fun e w' => e = .returned (.tuple #[]) ∧ w' = w
  perm : ∀ l, (sorted l).length = l.length
  enters : Enters P f
  len : ∀ x, (enc x).length = k
  flat : ∀ x, ∀ v ∈ enc x, flat v = true ∧ (AV.v v).one = true
  pos : 0 < k

theorem sorts_of (L : SlLaysF0.n6 P ρ) (k : Nat) (hk0 : 0 < k) (aE : ∀ w, (isAgg (ρ.t 24)).run P w = .ok true w) (zE : ∀ w, (Go.sizeOf (ρ.t 24)).run P w = .ok k w) (enc : α → List Value) (hk : ∀ x, (enc x).length = k)
    (hf : ∀ x, ∀ v ∈ enc x, flat v = true ∧ (AV.v v).one = true) (cf : α → α → Int) (hO : SWO (ltOf cf)) (hT : ∀ x y, (ltOf cf) x y = false → (ltOf cf) y x = false → x = y) (g : Nat) (eg : Enters P g)
    (h : ∀ x y, APure P g [.agg ((enc x).map .v), .agg ((enc y).map .v)] (.v (.int .i64 (cf x y)))) (ef : Enters P (ρ.f 6)) : Sorts P (ρ.f 6) g enc k (fun l => l.mergeSort fun x y => !(ltOf cf) y x) where
  some blk off cap d w hH hblk hsz := AnyQ.slices_SortFunc_total L k aE zE enc hk (fun x v hv => by
    have := (hf x v hv).2
    cases v <;> first | rfl | cases this) cf hO g #[] blk off cap d w eg (cmpLays_of h hf blk off d.size w) hH hblk hsz hT
  none p cap fv w := AnyF.slices_SortFunc_none L p cap fv w
  perm l := List.length_mergeSort l
  enters := ef
  len := hk
  flat := hf
  pos := hk0


theorem put_get {a : Act} {d : Option Nat} {v : Value} {t : Nat} (h : d ≠ some t) : (a.put d v).tmps.getD t undef = a.tmps.getD t undef := by
  cases d with
  | none => rfl
  | some q =>
    have : q ≠ t := fun e => h (by rw [e])
    simp only [Act.put]
    rw [Array.getD_eq_getD_getElem?, Array.getElem?_setIfInBounds_ne this, ← Array.getD_eq_getD_getElem?]
theorem put_self {a : Act} {d : Nat} {v : Value} (h : d < a.tmps.size) : (a.put (some d) v).tmps.getD d undef = v := by
  simp only [Act.put]
  rw [Array.getD_eq_getD_getElem?, Array.getElem?_setIfInBounds_self_of_lt h]; rfl
theorem put_size {a : Act} {d : Option Nat} {v : Value} : (a.put d v).tmps.size = a.tmps.size := by cases d <;> simp [Act.put]
theorem put_defers {a : Act} {d : Option Nat} {v : Value} : (a.put d v).defers = a.defers := by cases d <;> rfl

theorem wp_move {F : Fence} {n : Nat} {o : Oper} {x : Operand} (ho : o.op = .move x) {a : Act} {w : World} {K : Act → World → Prop} {Q : Exit → Act → World → Prop} (hF : ∀ f, F.fn f) (h : K (a.put o.dst (a.eval x)) w) : o.wpIn F n P a w K Q := by
  refine ⟨fun f _ => hF f, ?_⟩
  rw [Oper.semAt_eq _ _ _ (by rw [ho]; intro c h; cases h)]
  have : (execOp a.eval o).run P w = .ok (.value (a.eval x)) w := by simp [execOp, ho]
  rw [this]
  exact h

omit [Inhabited α] in
theorem R.fn_nil {g : Gh} {w : World} {u : Value} {f : Nat} (h : R g w u (.fn f [] [])) : u = .func (.func f) #[] #[] := by
  cases h with
  | @fn _ x y _ _ h1 h2 _ _ =>
    have e1 : x = #[] := Array.eq_empty_of_size_eq_zero (by simpa using h1)
    have e2 : y = #[] := Array.eq_empty_of_size_eq_zero (by simpa using h2)
    rw [e1, e2]

/-- The row in its block: what a slice with a row's mark is. -/
theorem row_at {g : Gh} {s : AState} {w : World} {v : Value} {k : Nat} {enc : α → List Value} {l : List α} {rid : Nat} (hi : Inv g s w) (ho : s.obj rid = some (.row l.length)) (hk : ∀ x, (enc x).length = k) (hR : R g w v (.sl k (rowsE enc l) (.row rid l.length))) :
    (l = [] ∧ v = .slice none 0 0 ∧ 0 < k) ∨
    (∃ off cap, v = .slice (some ⟨g.rblk rid, off, none⟩) l.length cap ∧ l.length ≤ cap ∧ 0 < k ∧ g.rhas rid = true ∧ rid < g.next ∧ (∃ e, g.perm (g.rblk rid) = .row rid e) ∧ g.rblk rid < w.heap.size ∧ HoldsK enc k w (g.rblk rid) off l.toArray ∧ off + l.length * k = g.rend rid) := by
  have hlen : (rowsE enc l).length = l.length := by simp [rowsE]
  obtain ⟨hlt, hst, hrow⟩ := hi.obj _ _ ho
  generalize hL : rowsE enc l = L at hR hlen
  cases hR with
  | slnil he hk' => exact .inl ⟨List.eq_nil_of_length_eq_zero (by simpa using hlen.symm), rfl, he⟩
  | @sl ad len cap _ _ _ vs hsp hl hc he hes hcell h h1 hb hx hk' =>
    obtain ⟨hr1, hr2, hr3⟩ := hk'
    obtain ⟨q0, q1, q2, q3⟩ := hr3 hst.symm
    obtain ⟨c1, c2, cs, elem, c3, c4⟩ := hrow q0
    obtain ⟨ab, ao, asp⟩ := ad
    simp only at hsp q1 q2 q3 hb
    subst hsp; subst q1
    have hll : len = l.length := by omega
    subst hll
    refine .inr ⟨ao, cap, rfl, hc, he, q0, hlt, ⟨_, c1⟩, hb, ?_, q2⟩
    intro j hj
    rw [size_flatK] at hj
    simp only [List.size_toArray] at hj
    have hfr : w.frozen? ⟨g.rblk rid, ao + j, none⟩ = false := by simp [World.frozen?, c3]
    have hi' : j / k < l.length := by rw [Nat.div_lt_iff_lt_mul he]; exact hj
    have hj' : j % k < k := Nat.mod_lt _ he
    refine ⟨?_, hfr⟩
    have e1 := hcell (j / k) (j % k) hi' hj'
    have e2 := h (j / k) (j % k) hi' hj'
    have e3 : j / k * k + j % k = j := by rw [Nat.mul_comm]; exact Nat.div_add_mod j k
    simp only [e3] at e1
    rw [e1, get_flatK _ _ _ _ (by simpa using hj)]
    subst hL
    rw [rowsE_get hi'] at e2
    have hj2 : j % k < (enc l[j / k]).length := by rw [hk]; exact hj'
    rw [List.getD_eq_getElem?_getD, List.getElem?_map, List.getElem?_eq_getElem hj2] at e2
    obtain ⟨e4, _⟩ := e2.flat_eq
    rw [e4]
    simp only [id]
    rw [getElem!_pos l.toArray (j / k) (by simpa using hi'), getElem!_pos _ _ (by simpa using hj2)]
    simp

theorem sort_code {f g k : Nat} {enc : α → List Value} {sorted : List α → List α} (S : Sorts P f g enc k sorted) {e : Env} {s s' : AState} {Q : Post} {id a1 a2 d1 d2 : Nat} {d3 : Option Nat} {t1 t2 t3 : TypeId} {p1 p2 p3 : String} {f1 f2 f3 : Array Edge} {ts : Array TypeId} {l : List α} {rid : Nat}
    (he1 : e a1 = .sl k (rowsE enc l) (.row rid l.length)) (he2 : e a2 = .fn g [] []) (ho : s.obj rid = some (.row l.length)) (hlo : s.base.lo ≤ rid) (n1 : d1 ≠ a1) (n2 : d2 ≠ a1) (n3 : d3 ≠ some a1) (n4 : d1 ≠ a2) (n5 : d2 ≠ d1) (hsz : l.length < 4611686018427387904)
    (hS : ∀ i o, s'.obj i = some o → s.obj i = some o ∧ WFO o) (hn : s'.next = s.next) (hb' : s'.base = s.base) (hq : Q .normal (envL [(a1, .sl k (rowsE enc (sorted l)) .none)]) s') :
    ACode P (.region id #[⟨some d1, .move (.tmp a1), t1, p1, f1, none⟩, ⟨some d2, .move (.tmp a2), t2, p2, f2, none⟩, ⟨d3, .call ⟨.value (.func f), #[.tmp d1, .tmp d2], ts⟩, t3, p3, f3, none⟩] false) e s Q := by
  intro m T g0 w0 n gh w a hb hr
  simp only [codeBel, opsBel, List.all_cons, Option.all_some, decide_eq_true_eq, List.all_nil, Bool.and_true, Bool.and_eq_true] at hb
  obtain ⟨b1, b2, b3⟩ := hb
  refine wpIn_region ?_
  show wpOpsIn (Fr none) m P _ _ [0, 1, 2] a w
  have hsize := hr.size
  generalize hv : a.tmps.getD a1 undef = v
  have hRv : R gh w v (.sl k (rowsE enc l) (.row rid l.length)) := by rw [← hv, ← he1]; exact hr.env a1
  have hRu := hr.env a2
  rw [he2] at hRu
  have hu : a.tmps.getD a2 undef = .func (.func g) #[] #[] := hRu.fn_nil
  have hop : ∀ (ops : Array Oper) (i : Nat) (rest : List Nat) (o : Oper) (a : Act) (w : World) (Q : Exit → Act → World → Prop), ops[i]? = some o → o.guard = none → o.wpIn (Fr none) m P a w (wpOpsIn (Fr none) m P ops Q rest) Q → wpOpsIn (Fr none) m P ops Q (i :: rest) a w := by
    intro ops i rest o a w Q h1 h2 h3
    simp only [wpOpsIn, h1]
    rw [if_pos (by simp [Region.wanted, h2])]
    exact h3
  refine hop _ 0 _ _ _ _ _ rfl rfl (wp_move rfl (fun _ => trivial) ?_)
  refine hop _ 1 _ _ _ _ _ rfl rfl (wp_move rfl (fun _ => trivial) ?_)
  have ev1 : a.eval (.tmp a1) = v := hv
  have ev2 : (a.put (some d1) (a.eval (.tmp a1))).eval (.tmp a2) = .func (.func g) #[] #[] := by
    show (a.put (some d1) _).tmps.getD a2 undef = _
    rw [put_get (by simpa using n4), hu]
  show wpOpsIn (Fr none) m P _ _ [2] ((a.put (some d1) (a.eval (.tmp a1))).put (some d2) ((a.put (some d1) (a.eval (.tmp a1))).eval (.tmp a2))) w
  rw [ev2, ev1]
  generalize hbb : ((a.put (some d1) v).put (some d2) (.func (.func g) #[] #[])) = b
  have bsz : b.tmps.size = n := by rw [← hbb, put_size, put_size, hsize]
  have bd : b.defers = a.defers := by rw [← hbb, put_defers, put_defers]
  have b1' : b.tmps.getD d1 undef = v := by rw [← hbb, put_get (by simpa using n5), put_self (by rw [hsize]; exact b1)]
  have b2' : b.tmps.getD d2 undef = .func (.func g) #[] #[] := by rw [← hbb, put_self (by rw [put_size, hsize]; exact b2)]
  have b3' : b.tmps.getD a1 undef = v := by rw [← hbb, put_get (by simpa using n2), put_get (by simpa using n1), hv]
  refine hop _ 2 _ ⟨d3, .call ⟨.value (.func f), #[.tmp d1, .tmp d2], ts⟩, t3, p3, f3, none⟩ _ _ _ rfl rfl ⟨fun f _ => trivial, ?_⟩
  rw [Oper.semAt_eq _ _ _ (by intro c h; cases h)]
  have hrun : (execOp b.eval ⟨d3, .call ⟨.value (.func f), #[.tmp d1, .tmp d2], ts⟩, t3, p3, f3, none⟩).run P w = .ok (.enter f #[v, .func (.func g) #[] #[]]) w := by
    have e1 : b.eval (.tmp d1) = v := b1'
    have e2 : b.eval (.tmp d2) = .func (.func g) #[] #[] := b2'
    simp only [execOp, resolve, Sem.run_bind, Sem.run_pure, Result.andThen_ok, Act.eval, Deferred.ofValue, invoke]
    have := S.enters #[v, .func (.func g) #[] #[]] w
    simpa [e1, e2, Act.eval, b1', b2'] using this
  rw [hrun]
  refine ⟨fun h => by simp [Fr, Fence.wide] at h, callsIn_fr ?_⟩
  have hdef : b.defers = s'.base.marks.map fun id => { target := .collected (gh.blk id), args := #[] } := by rw [bd, hr.defs, hb']
  -- what is shown of the end
  have fin : ∀ (g2 : Gh) (w2 : World) (x : Value), g2.next = gh.next → (∀ i, g2.blk i = gh.blk i) → Ev T g0 w0 g2 w2 → R g2 w2 v (.sl k (rowsE enc (sorted l)) .none) →
      (∀ i, gh.perm (gh.blk i) = .own i → gh.blk i < w.heap.size → g2.perm (gh.blk i) = .own i ∧ w2.heap[gh.blk i]? = w.heap[gh.blk i]?) → Lift T g0 w0 n Q .normal (b.put d3 x) w2 := by
    intro g2 w2 x hn2 hb2 hE2 hR2 hown
    refine ⟨envL [(a1, .sl k (rowsE enc (sorted l)) .none)], s', g2, ⟨by rw [put_size]; exact bsz, fun t => ?_, ?_, ?_, ⟨?_, ?_, fun i o hio => ?_⟩, hE2, ⟨?_, fun i o hio => hr.tok.2 i o (hS i o hio).1⟩, ?_⟩, hq⟩
    · refine envL_R (e := e) fun p hp ht => ?_
      simp only [List.mem_cons, List.not_mem_nil, or_false] at hp
      subst hp
      subst ht
      rw [put_get n3, b3']; exact hR2
    · rw [put_defers, hdef]; apply List.map_congr_left; intro id _; rw [hb2]
    · rw [hb', hn2]; exact hr.mlt
    · rw [hn, hn2]; exact hr.inv.next
    · rw [hb', hn]; exact hr.inv.base
    · obtain ⟨h1, h2⟩ := hS i o hio
      obtain ⟨h3, h4⟩ := hr.inv.obj i o h1
      obtain ⟨h5, y, h6, h7⟩ := (ObjOk_own h2.own).1 h4
      obtain ⟨h8, h9⟩ := hown i h5 (lt_of_get h6)
      refine ⟨by rw [hn2]; exact h3, (ObjOk_own h2.own).2 ⟨by rw [hb2]; exact h8, y, by rw [hb2, h9]; exact h6, ?_⟩⟩
      have h7' : OwnOk { gh with next := g2.next, blk := g2.blk } w o y := by
        rw [hn2, show g2.blk = gh.blk from funext hb2]; exact h7
      cases o with
      | map es => exact h2.ok h7
      | _ => exact h2.elim
    · rw [hb']; exact hr.tok.1
    · rw [hb']; exact hr.lo
  have hev := hr.ev
  rcases row_at hr.inv ho S.len hRv with ⟨rfl, rfl, hk0⟩ | ⟨off, cap, rfl, hcap, hk0, hh, hlt, ⟨pe, hpe⟩, hblk, hH, hrend⟩
  · refine Calls.mono (S.none none 0 _ w) ?_
    rintro en w' ⟨rfl, rfl⟩
    have hl0 : sorted [] = [] := List.eq_nil_of_length_eq_zero (S.perm [])
    refine fin gh w' _ rfl (fun _ => rfl) hev ?_ (fun i h _ => ⟨h, rfl⟩)
    rw [hl0]
    exact .slnil hk0 trivial
  · have hnew : w0.heap.size ≤ gh.rblk rid := by
      rcases hev.rb rid hlt hh with ⟨h, _⟩ | h
      · have := hr.lo; omega
      · exact h
    refine Calls.mono (S.some (gh.rblk rid) off cap l.toArray w hH hblk (by simpa using hsz)) ?_
    rintro en w' ⟨rfl, q, os, rfl⟩
    have hsl := S.perm l
    have hH2 := holdsK_sortWorldK_c enc k w (gh.rblk rid) off l.toArray (sorted l).toArray q os hH hblk (by simp [hsl])
    have hsz2 := size_sortWorldK_c enc k w (gh.rblk rid) off q (sorted l).toArray os
    have hold : ∀ b, b ≠ gh.rblk rid → b < w.heap.size → (sortWorldK enc k w (gh.rblk rid) off q (sorted l).toArray os).heap[b]? = w.heap[b]? := by
      intro b hb hb'
      unfold sortWorldK
      rw [heap_grow_old _ _ (by simpa [putRowK, Sort.ahead] using hb')]
      simp only [putRowK, putRow, mapBlock]
      rw [Array.getElem?_modify, if_neg (Ne.symm hb)]
      rfl
    have hdr : w.drawn ≤ (sortWorldK enc k w (gh.rblk rid) off q (sorted l).toArray os).drawn := Nat.le_add_right _ _
    generalize hW : sortWorldK enc k w (gh.rblk rid) off q (sorted l).toArray os = W at *
    have hos : W.os = w.os ∧ W.tape = w.tape ∧ W.output = w.output := by subst hW; exact ⟨rfl, rfl, rfl⟩
    have hE2 : Ev T g0 w0 (gh.shut (gh.rblk rid)) W := by
      have hold' : ∀ b, b < w0.heap.size → (gh.shut (gh.rblk rid)).perm b = gh.perm b ∧ W.heap[b]? = w.heap[b]? := fun b hb => by
        have : b ≠ gh.rblk rid := by omega
        exact ⟨by simp [Gh.shut, this], hold b this (Nat.lt_of_lt_of_le hb hev.size)⟩
      exact {
        os := hos.1.trans hev.os, tape := hos.2.1.trans hev.tape, output := hos.2.2.trans hev.output, drawn := Nat.le_trans hev.drawn hdr, size := Nat.le_trans hev.size hsz2, next := hev.next, blk := hev.blk
        ro := fun b hb hp => by obtain ⟨h1, h2⟩ := hold' b hb; obtain ⟨h3, h4⟩ := hev.ro b hb hp; exact ⟨h1.trans h3, h2.trans h4⟩
        row := fun b id p hb hp => by
          obtain ⟨h1, h2⟩ := hold' b hb
          obtain ⟨h3, h4⟩ := hev.row b id p hb hp
          exact ⟨by rw [h1]; exact h3, fun o ho => (World.cell?_of_block (w := w) (a := ⟨b, o, none⟩) h2).trans (h4 o ho)⟩
        own := fun b id hb hp hT => by obtain ⟨h1, h2⟩ := hold' b hb; obtain ⟨h3, h4⟩ := hev.own b id hb hp hT; exact ⟨h1.trans h3, h2.trans h4⟩
        fix := fun b id p hb hp hT => by obtain ⟨h1, h2⟩ := hold' b hb; obtain ⟨h3, h4⟩ := hev.fix b id p hb hp hT; exact ⟨h1.trans h3, h2.trans h4⟩
        stamp := hev.stamp
        still := hev.still
        rb := hev.rb }
    refine fin (gh.shut (gh.rblk rid)) W _ rfl (fun _ => rfl) hE2 ?_ (fun i hi hil => ?_)
    · have hlr : (rowsE enc (sorted l)).length = l.length := by simp [rowsE, hsl]
      refine .sl (vs := fun i j => ((enc (sorted l)[i]!)[j]!)) rfl hlr.symm hcap hk0 (fun i hi => ?_) (fun i j hi hj => ?_) (fun i j hi hj => ?_) (fun i j hi hj => ?_) (Nat.lt_of_lt_of_le hblk hsz2) (.inl (by simp [Gh.shut])) trivial
      · rw [rowsE_get (by rw [hsl]; exact hi), List.length_map, S.len]
      · have := (hH2.cell (i := i) (c := j) (by simpa [hsl] using hi) hj).1
        rw [Nat.add_assoc] at this
        rw [this]
        simp
      all_goals
        have hi' : i < (sorted l).length := by rw [hsl]; exact hi
        have hj' : j < (enc (sorted l)[i]).length := by rw [S.len]; exact hj
        rw [rowsE_get hi', List.getD_eq_getElem?_getD, List.getElem?_map, List.getElem?_eq_getElem hj']
      · simp only [Option.map_some, Option.getD_some]
        rw [getElem!_pos (sorted l) i hi', getElem!_pos _ j hj']
        exact .v (S.flat _ _ (List.getElem_mem hj')).1
      · exact (S.flat _ _ (List.getElem_mem hj')).2
    · have hne : gh.blk i ≠ gh.rblk rid := fun e => by rw [e, hpe] at hi; cases hi
      exact ⟨by simp only [Gh.shut, hne, if_false]; exact hi, hold _ hne hil⟩

end
end Go.Av

/- What simp is to know of lists and the like, in one bundle. -/
namespace Go.Av
set_option linter.unusedVariables false

theorem EVL :
    (∀ {α : Type} {p : α → Prop} {a : α} {l : List α}, (∀ (x : α), x ∈ a :: l → p x) ↔ p a ∧ ∀ (x : α), x ∈ l → p x) ∧
    (∀ {α : Type} (p : α → Prop), (∀ (x : α), x ∈ ([] : List α) → p x) ↔ True) ∧
    (∀ {α : Type} (val val_1 : α), (some val = some val_1) = (val = val_1)) ∧
    (∀ {α : Type} {as' : List α}, as'.toArray.size = as'.length) ∧
    (∀ (n m : Nat), ((n + m : Nat) : Int) = (n : Int) + (m : Int)) ∧
    (∀ {α β : Type} (a : α) (f : α → β), Option.map f (some a) = some (f a)) ∧
    (∀ {α β : Type} (f : α → β), Option.map f none = none) ∧
    (∀ {α β : Type} (a : α) (f : α → Option β), (some a).bind f = f a) ∧
    (∀ {α β : Type} (f : α → Option β), none.bind f = none) ∧
    (∀ {α : Type} {a b : α}, (some a).getD b = a) ∧
    (∀ {α : Type} {a : α}, (some a).isSome = true) ∧
    (∀ {α : Type}, (none : Option α).isNone = true) ∧
    (∀ {α : Type} {a : α}, (some a).isNone = false) ∧
    (∀ {α : Type} {as' : List α}, as'.toArray.toList = as') ∧
    (∀ {α β : Type} {f : α → β} {a : α} {l : List α}, List.map f (a :: l) = f a :: List.map f l) ∧
    (∀ {α β : Type} {f : α → β}, List.map f [] = []) ∧
    (∀ {α β : Type} {f : α → β} {l : List α}, Array.map f l.toArray = (List.map f l).toArray) ∧
    (∀ {α : Type} (as' : List α), [] ++ as' = as') ∧
    (∀ {α : Type} {a : α} {as' bs : List α}, a :: as' ++ bs = a :: (as' ++ bs)) ∧
    (∀ {α : Type} (as' : List α), as' ++ [] = as') ∧
    (∀ {α : Type} {xs : List α} {i : Nat}, xs.toArray[i]? = xs[i]?) ∧
    (∀ {α : Type} {a : α} {l : List α}, (a :: l)[0]? = some a) ∧
    (∀ {α : Type} {a : α} {i : Nat} {l : List α}, (a :: l)[i + 1]? = l[i]?) ∧
    (∀ {α : Type} {i : Nat}, ([] : List α)[i]? = none) ∧
    (∀ {α : Type} {x : α} {xs : List α} {d : α}, (x :: xs).getD 0 d = x) ∧
    (∀ {α : Type} {x : α} {xs : List α} {n : Nat} {d : α}, (x :: xs).getD (n + 1) d = xs.getD n d) ∧
    (∀ {n : Nat} {α : Type} {d : α}, [].getD n d = d) ∧
    (∀ {α : Type} {a : α} {l : List α} {f : α → Bool}, (a :: l).all f = (f a && l.all f)) ∧
    (∀ {α : Type} {f : α → Bool}, [].all f = true) ∧
    (∀ {α : Type} [BEq α] {a b : α} {l : List α}, (a :: l).contains b = (b == a || l.contains b)) ∧
    (∀ {α : Type} {a : α} [BEq α], ([] : List α).contains a = false) ∧
    (∀ {α : Type} {a : α} {as' : List α}, (a :: as').length = as'.length + 1) ∧
    (∀ {α : Type}, ([] : List α).length = 0) ∧
    (∀ {α : Type} {a : α} {l : List α} {i : Nat}, List.drop (i + 1) (a :: l) = List.drop i l) ∧
    (∀ {α : Type} {l : List α}, List.drop 0 l = l) ∧
    (∀ {α : Type} {i : Nat}, List.drop i ([] : List α) = []) ∧
    (∀ {α : Type} {a : α} {as' : List α} {i : Nat}, List.take (i + 1) (a :: as') = a :: List.take i as') ∧
    (∀ {α : Type} {l : List α}, List.take 0 l = []) ∧
    (∀ {α : Type} {i : Nat}, List.take i ([] : List α) = []) ∧
    (∀ {α : Type} {a : α} {n : Nat}, List.replicate (n + 1) a = a :: List.replicate n a) ∧
    (∀ {α : Type} {a : α}, List.replicate 0 a = []) ∧
    (∀ {α : Type} {l : List α} {L : List (List α)}, (l :: L).flatten = l ++ L.flatten) ∧
    (∀ {α : Type}, ([] : List (List α)).flatten = []) ∧
    (∀ {α : Type} {xs : Array α} {i : Nat} {d : α}, xs.getD i d = xs[i]?.getD d) ∧
    (∀ (b : Bool), (b && b) = b) ∧
    (∀ (b : Bool), (true && b) = b) ∧
    (∀ (b : Bool), (b && true) = b) ∧
    (∀ (b : Bool), (false && b) = false) ∧
    (∀ (b : Bool), (b && false) = false) ∧
    (∀ (b : Bool), (b || true) = true) ∧
    (∀ (b : Bool), (true || b) = true) ∧
    (∀ (b : Bool), (b || false) = b) ∧
    (∀ (b : Bool), (false || b) = b) ∧
    ((!true) = false) ∧
    ((!false) = true) ∧
    ((false = true) = False) ∧
    ((true = false) = False) ∧
    (0 < 1) ∧
    (∀ (n : Nat), 0 < n.succ) ∧
    (∀ (n : Nat), 0 + n = n) ∧
    (∀ (n : Nat), n + 0 = n) ∧
    (∀ (n : Nat), 0 * n = 0) ∧
    (∀ (n : Nat), n * 0 = 0) ∧
    (∀ (n : Nat), n ≤ n) ∧
    (∀ (n : Nat), 0 ≤ n) ∧
    (∀ (n : Nat), ¬n < n) ∧
    (∀ (n : Nat), ((n : Int)).toNat = n) ∧
    (Int.toNat 0 = 0) ∧
    (Int.toNat 1 = 1) ∧
    (∀ (p : Prop), (True ∧ p) = p) ∧
    (∀ (p : Prop), (p ∧ True) = p) ∧
    (∀ (p : Prop), (True → p) = p) ∧
    (∀ {α : Type} (a b : α), (a ≠ b) = ¬a = b) ∧
    ((¬False) = True) ∧
    ((¬True) = False) ∧
    (∀ {α : Type} {p : α → Prop} {a' : α}, (∃ (a : α), a' = a ∧ p a) ↔ p a') ∧
    (∀ {α : Type} {p : α → Prop} {a' : α}, (∃ (a : α), a = a' ∧ p a) ↔ p a') ∧
    (∀ (p : Prop), (False → p) = True) ∧
    (∀ (p : Prop), (False ∨ p) = p) ∧
    (∀ (p : Prop), (p ∨ False) = p) ∧
    (∀ (p : Prop), (True ∨ p) = True) ∧
    (∀ (p : Prop), (p ∨ True) = True) :=
  ⟨@List.forall_mem_cons, fun p => iff_true_intro (List.forall_mem_nil p), @Option.some.injEq, @List.size_toArray, @Int.natCast_add, @Option.map_some, @Option.map_none, @Option.bind_some, @Option.bind_none, @Option.getD_some, @Option.isSome_some, @Option.isNone_none, @Option.isNone_some, @List.toList_toArray, @List.map_cons, @List.map_nil, @List.map_toArray, @List.nil_append, @List.cons_append, @List.append_nil, @List.getElem?_toArray, @List.getElem?_cons_zero, @List.getElem?_cons_succ, @List.getElem?_nil, @List.getD_cons_zero, @List.getD_cons_succ, @List.getD_nil, @List.all_cons, @List.all_nil, @List.contains_cons, @List.contains_nil, @List.length_cons, @List.length_nil, @List.drop_succ_cons, @List.drop_zero, @List.drop_nil, @List.take_succ_cons, @List.take_zero, @List.take_nil, @List.replicate_succ, @List.replicate_zero, @List.flatten_cons, @List.flatten_nil, @Array.getD_eq_getD_getElem?, @Bool.and_self, @Bool.true_and, @Bool.and_true, @Bool.false_and, @Bool.and_false, @Bool.or_true, @Bool.true_or, @Bool.or_false, @Bool.false_or, @Bool.not_true, @Bool.not_false, @Bool.false_eq_true, @Bool.true_eq_false, @Nat.one_pos, @Nat.succ_pos, @Nat.zero_add, @Nat.add_zero, @Nat.zero_mul, @Nat.mul_zero, @Nat.le_refl, @Nat.zero_le, @Nat.lt_irrefl, @Int.toNat_natCast, @Int.toNat_zero, @Int.toNat_one, @true_and, @and_true, @true_implies, @ne_eq, @not_false_eq_true, @not_true_eq_false, @exists_eq_left', @exists_eq_left, @false_implies, @false_or, @or_false, @true_or, @or_true⟩

end Go.Av

/- The arguments of a row, opened: what a reading of plain data is as an abstract value; a call that leaves all as it was. -/
namespace Go.Av
open Go Go.RowKit
set_option linter.unusedVariables false
set_option linter.unusedSimpArgs false

inductive Knd where
  | int (k : IntKind)
  | str
  | bool
  deriving DecidableEq

def KOk : Knd → Value → Prop
  | .int k, v => ∃ n, v = .int k n ∧ (Lit.int k n).wf = true
  | .str, v => ∃ s : ByteArray, v = .string s ∧ s.size ≤ maxLen
  | .bool, v => ∃ b, v = .bool b

theorem KOk.flat {k : Knd} {v : Value} (h : KOk k v) : flat v = true ∧ (AV.v v).one = true := by
  cases k with
  | int k => obtain ⟨n, rfl, _⟩ := h; exact ⟨rfl, rfl⟩
  | str => obtain ⟨n, rfl, _⟩ := h; exact ⟨rfl, rfl⟩
  | bool => obtain ⟨n, rfl⟩ := h; exact ⟨rfl, rfl⟩

def KsOk (ks : List Knd) (cs : List Value) : Prop := cs.length = ks.length ∧ ∀ (i : Nat) (k : Knd), ks[i]? = some k → ∃ v, cs[i]? = some v ∧ KOk k v

def kFields (F : TypeId → Option (List Knd)) (P : Program) : Nat → List Field → Option (List Knd)
  | _, [] => some []
  | off, f :: fs => if f.offset = off then (F f.type).bind fun ks => if ks.length = P.cellsOf f.type then (kFields F P (off + ks.length) fs).map (ks ++ ·) else none else none

def kinds (P : Program) : Nat → TypeId → Option (List Knd)
  | 0, _ => none
  | d + 1, t =>
    match P.underlying t with
    | some (.int k) => some [.int k]
    | some .string => some [.str]
    | some .bool => some [.bool]
    | some (.struct fs) => (kFields (kinds P d) P 0 fs.toList).bind fun ks => if ks.length = P.cellsOf t then some ks else none
    | some (.array n e) => (kinds P d e).bind fun ks => if ks.length = P.cellsOf e ∧ n * ks.length = P.cellsOf t then some (List.replicate n ks).flatten else none
    | _ => none

theorem rep_get {α : Type} {ks : List α} : ∀ (n i : Nat) (k : α), (List.replicate n ks).flatten[i]? = some k → ∃ q r, i = q * ks.length + r ∧ q < n ∧ ks[r]? = some k
  | 0, i, k, h => by simp at h
  | n + 1, i, k, h => by
    simp only [List.replicate_succ, List.flatten_cons] at h
    rcases Nat.lt_or_ge i ks.length with hi | hi
    · rw [List.getElem?_append_left hi] at h
      exact ⟨0, i, by simp, Nat.succ_pos _, h⟩
    · rw [List.getElem?_append_right hi] at h
      obtain ⟨q, r, h1, h2, h3⟩ := rep_get n _ k h
      exact ⟨q + 1, r, by rw [Nat.add_mul]; omega, by omega, h3⟩

theorem kFields_sound {F : TypeId → Option (List Knd)} {P : Program} {cs : List Value} : ∀ (fs : List Field) (off : Nat) (ks : List Knd), kFields F P off fs = some ks →
    (∀ f ∈ fs, ∀ ks', F f.type = some ks' → KsOk ks' ((cs.drop f.offset).take (P.cellsOf f.type))) → ∀ (i : Nat) (k : Knd), ks[i]? = some k → ∃ v, cs[off + i]? = some v ∧ KOk k v
  | [], off, ks, h, _, i, k, hk => by
    simp only [kFields, Option.some.injEq] at h
    subst h; simp at hk
  | f :: fs, off, ks, h, hF, i, k, hk => by
    simp only [kFields] at h
    split at h
    · rename_i ho
      obtain ⟨k1, h1, h⟩ := Option.bind_eq_some_iff.1 h
      split at h
      · rename_i hl
        obtain ⟨k2, h2, rfl⟩ := Option.map_eq_some_iff.1 h
        rcases Nat.lt_or_ge i k1.length with hi | hi
        · rw [List.getElem?_append_left hi] at hk
          obtain ⟨v, hv, hok⟩ := (hF f (by simp) k1 h1).2 i k hk
          rw [List.getElem?_take, if_pos (by omega), List.getElem?_drop, ho] at hv
          exact ⟨v, hv, hok⟩
        · rw [List.getElem?_append_right hi] at hk
          obtain ⟨v, hv, hok⟩ := kFields_sound fs (off + k1.length) k2 h2 (fun f hf => hF f (by simp [hf])) _ k hk
          exact ⟨v, by rw [← hv]; congr 1; omega, hok⟩
      · cases h
    · cases h

section
variable {H : Type} {enc : TypeId × Value → H} {P : Program} {w : World} {base : Nat} {spare : Nat → Bool} {held : Bool}

theorem kinds_sound : ∀ (d : Nat) (t : TypeId) (ks : List Knd), kinds P d t = some ks → ∀ (fuel : Nat) (cs : List Value) (x : DataW H × List MemPlace), DataW.trod enc P w base spare held fuel t cs = some x → KsOk ks cs
  | 0, t, ks, h, _, _, _, _ => by simp [kinds] at h
  | d + 1, t, ks, h, fuel, cs, x, hx => by
    simp only [kinds] at h
    split at h
    · rename_i k hu
      cases h
      obtain ⟨n, rfl, _, hw⟩ := DataW.trod_int hu hx
      exact ⟨rfl, fun i k' hk => by match i, hk with | 0, hk => cases hk; exact ⟨_, rfl, n, rfl, hw⟩⟩
    · rename_i hu
      cases h
      obtain ⟨s, rfl, _, hw⟩ := DataW.trod_string hu hx
      exact ⟨rfl, fun i k' hk => by match i, hk with | 0, hk => cases hk; exact ⟨_, rfl, s, rfl, hw⟩⟩
    · rename_i hu
      cases h
      obtain ⟨b, rfl, _⟩ := DataW.trod_bool hu hx
      exact ⟨rfl, fun i k' hk => by match i, hk with | 0, hk => cases hk; exact ⟨_, rfl, b, rfl⟩⟩
    · rename_i fs hu
      obtain ⟨k1, h1, h⟩ := Option.bind_eq_some_iff.1 h
      split at h
      · rename_i hl
        cases h
        obtain ⟨xs, n, _, _, h3, h4, h5⟩ := DataW.trod_struct hu hx
        refine ⟨by omega, fun i k hk => ?_⟩
        have := kFields_sound (cs := cs) fs.toList 0 ks h1 (fun f hf ks' hks' => ?_) i k hk
        · simpa using this
        · obtain ⟨j, hj, hjf⟩ := List.getElem_of_mem hf
          have hj' : j < fs.size := by simpa using hj
          have hfj : fs[j]? = some f := by rw [Array.getElem?_eq_getElem hj', ← hjf]; simp
          have h6 := h5 j f hfj
          rw [List.getElem?_eq_getElem (by omega)] at h6
          exact kinds_sound d f.type ks' hks' n _ _ h6
      · cases h
    · rename_i n e hu
      obtain ⟨k1, h1, h⟩ := Option.bind_eq_some_iff.1 h
      split at h
      · rename_i hl
        cases h
        cases fuel with
        | zero => simp [DataW.trod] at hx
        | succ fuel =>
          unfold DataW.trod at hx
          rw [hu] at hx
          simp only at hx
          split at hx
          · rename_i hlen
            obtain ⟨ys, hys, _⟩ := Option.map_eq_some_iff.1 hx
            refine ⟨by simp [hlen, hl.2], fun i k hk => ?_⟩
            obtain ⟨q, r, rfl, hq, hr⟩ := rep_get n i k hk
            obtain ⟨y, hy⟩ := Go.WideShapes.mapM_each hys q (List.mem_range.2 hq)
            obtain ⟨v, hv, hok⟩ := (kinds_sound d e k1 h1 fuel _ _ hy).2 r k hr
            have hrl := (List.getElem?_eq_some_iff.1 hr).1
            rw [List.getElem?_take, if_pos (by omega), List.getElem?_drop, ← hl.1] at hv
            exact ⟨v, hv, hok⟩
          · cases hx
      · cases h
    · cases h

/-- The memory ahead of a call, all of it to be read alone. -/
theorem Ev.below {T : Nat → Prop} {w w' : World} {g' : Gh} (h : Ev T Gh.all w g' w') : Below w.heap.size w w' := ⟨h.os, h.tape, h.output, h.size, fun k hk => (h.ro k hk rfl).2⟩

theorem open_flat {d : Nat} {t : TypeId} {ks : List Knd} {v : Value} {D : DataW H} {ps : List MemPlace} (hk : kinds P d t = some ks) (h : DataW.Trod enc P w base spare held t v D ps) : KsOk ks v.cells.toList := by
  obtain ⟨fuel, hf⟩ := h
  exact kinds_sound d t ks hk fuel _ _ hf

/-- A row of plain data. -/
theorem open_row {d : Nat} {t e : TypeId} {ks : List Knd} {v : Value} {D : DataW H} {ps : List MemPlace} (hu : P.underlying t = some (.slice e)) (hk : kinds P d e = some ks) (hc : ks.length = P.cellsOf e) (h0 : 0 < ks.length)
    (hval : Value.okWide P w .any base t v) (h : DataW.Trod enc P w 0 spare held t v D ps) : ∃ css : List (List Value), (∀ cs ∈ css, KsOk ks cs) ∧ R Gh.all w v (.sl ks.length (css.map (·.map .v)) .none) := by
  obtain ⟨fuel, hf⟩ := h
  obtain ⟨a, len, cap, rfl⟩ := Go.WideShapes.okWide_slice hu hval
  rcases DataW.trod_slice hu hf with ⟨hcs, _⟩ | ⟨ad, len', cap', elems, rest, n, _, hcs, _, hb, hl, hm, hlen, hel, _, _⟩
  · simp only [Value.cells, List.cons.injEq, Value.slice.injEq, and_true] at hcs
    obtain ⟨rfl, rfl, rfl⟩ := hcs
    exact ⟨[], (fun _ h => by cases h), .slnil h0 trivial⟩
  · simp only [Value.cells, List.cons.injEq, Value.slice.injEq, and_true] at hcs
    obtain ⟨rfl, rfl, rfl⟩ := hcs
    have hval' : len ≤ cap ∧ (cap : Int) ≤ IntKind.i64.max ∧ w.has P .any base ad e cap := by
      simpa [Value.okWide, hu, Cell.okWide, Cell.ok] using hval
    obtain ⟨_, _, _, hsp, row, cells, hshape, _⟩ := hval'
    have hblk : ad.block < w.heap.size := by
      unfold World.shape? at hshape
      split at hshape
      · rename_i hh; exact lt_of_get hh
      · cases hshape
    obtain ⟨ab, ao, asp⟩ := ad
    simp only at hsp hblk
    subst hsp
    have each : ∀ i, i < len → ∃ cs, w.cells? 0 (Addr.add ⟨ab, ao, none⟩ (i * P.cellsOf e)) (P.cellsOf e) = some cs ∧ KsOk ks cs := by
      intro i hi
      have h1 := hel i hi
      rw [List.getElem?_eq_getElem (by omega)] at h1
      obtain ⟨cs, h2, h3⟩ := Option.bind_eq_some_iff.1 h1
      exact ⟨cs, h2, kinds_sound d e ks hk n _ _ h3⟩
    have hadd : ∀ i j, Addr.add (Addr.add ⟨ab, ao, none⟩ i) j = ⟨ab, ao + (i + j), none⟩ := by
      intro i j
      unfold Addr.add
      split <;> split <;> simp <;> omega
    have cellOf : ∀ i cs, w.cells? 0 (Addr.add ⟨ab, ao, none⟩ (i * P.cellsOf e)) (P.cellsOf e) = some cs → ∀ j v, cs[j]? = some v → w.cell? ⟨ab, ao + (i * ks.length + j), none⟩ = some v := by
      intro i cs h j v hv
      unfold World.cells? at h
      split at h
      · have hjl : j < P.cellsOf e := by
          have h5 := mapM_some_length h
          have := (List.getElem?_eq_some_iff.1 hv).1
          simp at h5; omega
        have := mapM_some_get h j j (by simp [hjl])
        rw [hv, hadd, ← hc] at this
        exact this
      · cases h
    let cs : Nat → List Value := fun i => ((w.cells? 0 (Addr.add ⟨ab, ao, none⟩ (i * P.cellsOf e)) (P.cellsOf e))).getD []
    have hcsi : ∀ i, i < len → w.cells? 0 (Addr.add ⟨ab, ao, none⟩ (i * P.cellsOf e)) (P.cellsOf e) = some (cs i) ∧ KsOk ks (cs i) := by
      intro i hi
      obtain ⟨c, h1, h2⟩ := each i hi
      have : cs i = c := by simp only [cs, h1, Option.getD_some]
      rw [this]; exact ⟨h1, h2⟩
    refine ⟨(List.range len).map cs, fun c hcm => ?_, ?_⟩
    · obtain ⟨i, hi, rfl⟩ := List.mem_map.1 hcm
      exact (hcsi i (List.mem_range.1 hi)).2
    · have hget : ∀ i, i < len → (((List.range len).map cs).map (·.map AV.v)).getD i [] = (cs i).map .v := fun i hi => by
        simp [List.getD_eq_getElem?_getD, hi]
      refine .sl (vs := fun i j => (cs i).getD j undef) rfl (by simp) hl h0 (fun i hi => ?_) (fun i j hi hj => ?_) (fun i j hi hj => ?_) (fun i j hi hj => ?_) hblk (.inl rfl) trivial
      · rw [hget i hi, List.length_map]; exact (hcsi i hi).2.1
      · have hjl : j < (cs i).length := by rw [(hcsi i hi).2.1]; exact hj
        have := cellOf i (cs i) (hcsi i hi).1 j ((cs i)[j]) (List.getElem?_eq_getElem hjl)
        simp only [List.getD_eq_getElem?_getD, List.getElem?_eq_getElem hjl, Option.getD_some]
        exact this
      · have hjl : j < (cs i).length := by rw [(hcsi i hi).2.1]; exact hj
        rw [hget i hi, List.getD_eq_getElem?_getD, List.getD_eq_getElem?_getD, List.getElem?_map, List.getElem?_eq_getElem hjl]
        obtain ⟨v, hv, hok⟩ := (hcsi i hi).2.2 j _ (List.getElem?_eq_getElem hj)
        rw [List.getElem?_eq_getElem hjl] at hv
        cases hv
        exact .v hok.flat.1
      · have hjl : j < (cs i).length := by rw [(hcsi i hi).2.1]; exact hj
        rw [hget i hi, List.getD_eq_getElem?_getD, List.getElem?_map, List.getElem?_eq_getElem hjl]
        obtain ⟨v, hv, hok⟩ := (hcsi i hi).2.2 j _ (List.getElem?_eq_getElem hj)
        rw [List.getElem?_eq_getElem hjl] at hv
        cases hv
        exact hok.flat.2

/-- A struct that is handed over. -/
theorem open_agg {ks : List Knd} {cs : Array Value} (h : KsOk ks cs.toList) : R Gh.all w (.agg cs) (.agg (cs.toList.map .v)) := by
  have key : ∀ i, i < cs.size → ∃ k, KOk k (cs.getD i undef) := by
    intro i hi
    have hk : i < ks.length := by rw [← h.1]; simpa using hi
    obtain ⟨v, hv, hok⟩ := h.2 i _ (List.getElem?_eq_getElem hk)
    refine ⟨ks[i], ?_⟩
    rw [Array.getElem?_toList] at hv
    rw [Array.getD_eq_getD_getElem?, hv]
    exact hok
  refine .agg (by simp) (fun i hi => ?_) (fun i hi => ?_)
  · have hi' : i < cs.size := by simpa using hi
    obtain ⟨k, hk⟩ := key i hi'
    have e : (cs.toList.map AV.v).getD i AV.un = .v (cs.getD i undef) := by
      simp [List.getD_eq_getElem?_getD, Array.getD_eq_getD_getElem?, hi']
    rw [e]; exact .v hk.flat.1
  · have hi' : i < cs.size := by simpa using hi
    obtain ⟨k, hk⟩ := key i hi'
    have e : (cs.toList.map AV.v).getD i AV.un = .v (cs.getD i undef) := by
      simp [List.getD_eq_getElem?_getD, Array.getD_eq_getD_getElem?, hi']
    rw [e]; exact hk.flat.2

/-- A law's call, ahead of which nothing is at hand. -/
theorem law_calls {f : FuncId} {args : List AV} {r : AV} {vs : List Value} (h : APure P f args r) (hr : RL Gh.all w vs args) : Calls P f vs.toArray w fun e w' => ∃ v, e = .returned v ∧ (∃ g', R g' w' v r) ∧ Below w.heap.size w w' := by
  refine Calls.mono ((h { obj := fun _ => none, next := 0, base := ⟨0, []⟩ }).2 (fun _ => True) Gh.all w vs ⟨rfl, Nat.le_refl _, fun _ _ h => by cases h⟩ ⟨fun _ _ => trivial, fun _ _ h => by cases h⟩ hr) ?_
  rintro e w' ⟨v, d, s', g', rfl, hR, _, hE, _, _, rfl, _⟩
  exact ⟨v, rfl, ⟨g', hR⟩, hE.below⟩

end
end Go.Av

/- Calls that change what is at hand, in regions whose order is drawn. -/
namespace Go.Av
open Go
set_option linter.unusedVariables false

theorem ACalls_use {P : Program} {f : FuncId} {args : List AV} {s : AState} {k : AV → AState → Prop} {d0 : AV} {s0 : AState} (h : ACalls P f args s fun d s' => d = d0 ∧ s' = s0) (hk : k d0 s0) : ACalls P f args s k :=
  ACalls_mono (fun d s' ⟨e1, e2⟩ => by subst e1; subst e2; exact hk) h

/-- A call in such a region, that changes what is at hand. -/
theorem qmoveC {P : Program} {C : Cfg} {a b : AState} {d : Option Nat} {t : TypeId} {p : String} {af : Array Edge} {gd : Option (Nat × Bool)} {f : Operand} {cargs : Array Operand} {ts : Array TypeId} {e : Env} {F : Env → Prop}
    {g : Nat} {args : List AV} {r : AV} (h : ACalls P g args a fun d' s' => d' = r ∧ s' = b) {first cap : List AV} (hf : e.eval f = .fn g first cap) (ha : (first ++ cargs.toList.map e.eval ++ cap).map AV.untok = args) (hK : F (e.set d r)) :
    exF P C a b ⟨d, .call ⟨.value f, cargs, ts⟩, t, p, af, gd⟩ e F := by
  refine ⟨r, ?_, hK⟩
  show callV P (e.eval f) (cargs.toList.map e.eval) a _
  rw [hf]
  show ACalls P g ((first ++ cargs.toList.map e.eval ++ cap).map AV.untok) a _
  rw [ha]
  exact h

/-- Things that a function has left as they are, but for some of its caller's. -/
theorem keep_of {s s' S : AState} (hn : S.next = s.next) (hS : S.Wf) (h : ∀ i, i < s.next → s'.obj i = S.obj i) : ∀ i o, S.obj i = some o → i < s.next ∧ OBel s.next o ∧ s'.obj i = some o := by
  intro i o ho
  obtain ⟨h1, h2⟩ := hS i o ho
  rw [hn] at h1 h2
  exact ⟨h1, h2, by rw [h i h1]; exact ho⟩

theorem AState.Wf.set {s : AState} (h : s.Wf) {i : Nat} {o : AObj} (hi : i < s.next) (ho : OBel s.next o) : (s.set i o).Wf := by
  intro j p hp
  simp only [AState.set] at hp ⊢
  split at hp
  · rename_i e; subst e; cases hp; exact ⟨hi, ho⟩
  · exact h j p hp
end Go.Av

/- Booleans held against each other. -/
namespace Go.Av
open Go
set_option linter.unusedVariables false
set_option linter.unusedSimpArgs false

theorem eql_bool {P : Program} {t : TypeId} {a b : Bool} {w : World} : (∀ op ox oy, (eqGuard op t ox oy (.bool a) (.bool b)) = pure ()) ∧
    (binOp .eql t (.bool a) (.bool b)).run P w = ((Op.equalIn 10000 t (.bool a) (.bool b)).run P w).andThen (fun b w' => .ok (.bool b) w') ∧
    (binOp .neq t (.bool a) (.bool b)).run P w = ((Op.equalIn 10000 t (.bool a) (.bool b)).run P w).andThen (fun b w' => .ok (.bool (!b)) w') := by
  refine ⟨fun op ox oy => by cases op <;> rfl, ?_, ?_⟩
  · simp only [binOp]; simp [Op.equal, Op.maxDepth]
  · simp only [binOp]; simp [Op.equal, Op.maxDepth]
theorem AEq_bool {P : Program} {t : TypeId} {a b : Bool} (hu : P.underlying t = some .bool) : AEq P t (.v (.bool a)) (.v (.bool b)) (a == b) := by
  refine AEq_of fun g w u v hx hy => ?_
  obtain ⟨rfl, _⟩ := hx.flat_eq; obtain ⟨rfl, _⟩ := hy.flat_eq
  exact ⟨(eql_bool (P := P) (w := w)).1, eql_bool.2.1, eql_bool.2.2, fun d => by simp [Op.equalIn, run_underlying hu]⟩
theorem binV_bool (op : BinOp) (a b : Bool) : binV op (.bool a) (.bool b) = none := rfl

end Go.Av

/- A row just laid is sorted by the library's sort of structs, the way of holding two against each other typed in place. -/
namespace Go.Av
open Go Go.Proofs Go.Shelf Go.RowKit Go.Lib Go.Sort
set_option linter.unusedVariables false
set_option linter.unusedSimpArgs false
section
variable {P : Program} {ρ : Ren} {α : Type} [Inhabited α]

theorem sort_code2 {f g k : Nat} {enc : α → List Value} {sorted : List α → List α} (S : Sorts P f g enc k sorted) {e : Env} {s s' : AState} {Q : Post} {id a1 d1 : Nat} {d3 : Option Nat} {t1 t3 : TypeId} {p1 p3 : String} {f1 f3 : Array Edge} {ts : Array TypeId} {l : List α} {rid : Nat}
    (he1 : e a1 = .sl k (rowsE enc l) (.row rid l.length)) (ho : s.obj rid = some (.row l.length)) (hlo : s.base.lo ≤ rid) (n1 : d1 ≠ a1) (n3 : d3 ≠ some a1) (hsz : l.length < 4611686018427387904)
    (hS : ∀ i o, s'.obj i = some o → s.obj i = some o ∧ WFO o) (hn : s'.next = s.next) (hb' : s'.base = s.base) (hq : Q .normal (envL [(a1, .sl k (rowsE enc (sorted l)) .none)]) s') :
    ACode P (.region id #[⟨some d1, .move (.tmp a1), t1, p1, f1, none⟩, ⟨d3, .call ⟨.value (.func f), #[.tmp d1, .func g], ts⟩, t3, p3, f3, none⟩] false) e s Q := by
  intro m T g0 w0 n gh w a hb hr
  simp only [codeBel, opsBel, List.all_cons, Option.all_some, decide_eq_true_eq, List.all_nil, Bool.and_true, Bool.and_eq_true] at hb
  obtain ⟨b1, b3⟩ := hb
  refine wpIn_region ?_
  show wpOpsIn (Fr none) m P _ _ [0, 1] a w
  have hsize := hr.size
  generalize hv : a.tmps.getD a1 undef = v
  have hRv : R gh w v (.sl k (rowsE enc l) (.row rid l.length)) := by rw [← hv, ← he1]; exact hr.env a1
  have hop : ∀ (ops : Array Oper) (i : Nat) (rest : List Nat) (o : Oper) (a : Act) (w : World) (Q : Exit → Act → World → Prop), ops[i]? = some o → o.guard = none → o.wpIn (Fr none) m P a w (wpOpsIn (Fr none) m P ops Q rest) Q → wpOpsIn (Fr none) m P ops Q (i :: rest) a w := by
    intro ops i rest o a w Q h1 h2 h3
    simp only [wpOpsIn, h1]
    rw [if_pos (by simp [Region.wanted, h2])]
    exact h3
  refine hop _ 0 _ _ _ _ _ rfl rfl (wp_move rfl (fun _ => trivial) ?_)
  have ev1 : a.eval (.tmp a1) = v := hv
  show wpOpsIn (Fr none) m P _ _ [1] (a.put (some d1) (a.eval (.tmp a1))) w
  rw [ev1]
  generalize hbb : (a.put (some d1) v) = b
  have bsz : b.tmps.size = n := by rw [← hbb, put_size, hsize]
  have bd : b.defers = a.defers := by rw [← hbb, put_defers]
  have b1' : b.tmps.getD d1 undef = v := by rw [← hbb, put_self (by rw [hsize]; exact b1)]
  have b3' : b.tmps.getD a1 undef = v := by rw [← hbb, put_get (by simpa using n1), hv]
  refine hop _ 1 _ ⟨d3, .call ⟨.value (.func f), #[.tmp d1, .func g], ts⟩, t3, p3, f3, none⟩ _ _ _ rfl rfl ⟨fun f _ => trivial, ?_⟩
  rw [Oper.semAt_eq _ _ _ (by intro c h; cases h)]
  have hrun : (execOp b.eval ⟨d3, .call ⟨.value (.func f), #[.tmp d1, .func g], ts⟩, t3, p3, f3, none⟩).run P w = .ok (.enter f #[v, .func (.func g) #[] #[]]) w := by
    have e1 : b.eval (.tmp d1) = v := b1'
    have e2 : b.eval (.func g) = .func (.func g) #[] #[] := rfl
    simp only [execOp, resolve, Sem.run_bind, Sem.run_pure, Result.andThen_ok, Act.eval, Deferred.ofValue, invoke]
    have := S.enters #[v, .func (.func g) #[] #[]] w
    simpa [e1, e2, Act.eval, b1'] using this
  rw [hrun]
  refine ⟨fun h => by simp [Fr, Fence.wide] at h, callsIn_fr ?_⟩
  have hdef : b.defers = s'.base.marks.map fun id => { target := .collected (gh.blk id), args := #[] } := by rw [bd, hr.defs, hb']
  -- what is shown of the end
  have fin : ∀ (g2 : Gh) (w2 : World) (x : Value), g2.next = gh.next → (∀ i, g2.blk i = gh.blk i) → Ev T g0 w0 g2 w2 → R g2 w2 v (.sl k (rowsE enc (sorted l)) .none) →
      (∀ i, gh.perm (gh.blk i) = .own i → gh.blk i < w.heap.size → g2.perm (gh.blk i) = .own i ∧ w2.heap[gh.blk i]? = w.heap[gh.blk i]?) → Lift T g0 w0 n Q .normal (b.put d3 x) w2 := by
    intro g2 w2 x hn2 hb2 hE2 hR2 hown
    refine ⟨envL [(a1, .sl k (rowsE enc (sorted l)) .none)], s', g2, ⟨by rw [put_size]; exact bsz, fun t => ?_, ?_, ?_, ⟨?_, ?_, fun i o hio => ?_⟩, hE2, ⟨?_, fun i o hio => hr.tok.2 i o (hS i o hio).1⟩, ?_⟩, hq⟩
    · refine envL_R (e := e) fun p hp ht => ?_
      simp only [List.mem_cons, List.not_mem_nil, or_false] at hp
      subst hp
      subst ht
      rw [put_get n3, b3']; exact hR2
    · rw [put_defers, hdef]; apply List.map_congr_left; intro id _; rw [hb2]
    · rw [hb', hn2]; exact hr.mlt
    · rw [hn, hn2]; exact hr.inv.next
    · rw [hb', hn]; exact hr.inv.base
    · obtain ⟨h1, h2⟩ := hS i o hio
      obtain ⟨h3, h4⟩ := hr.inv.obj i o h1
      obtain ⟨h5, y, h6, h7⟩ := (ObjOk_own h2.own).1 h4
      obtain ⟨h8, h9⟩ := hown i h5 (lt_of_get h6)
      refine ⟨by rw [hn2]; exact h3, (ObjOk_own h2.own).2 ⟨by rw [hb2]; exact h8, y, by rw [hb2, h9]; exact h6, ?_⟩⟩
      have h7' : OwnOk { gh with next := g2.next, blk := g2.blk } w o y := by
        rw [hn2, show g2.blk = gh.blk from funext hb2]; exact h7
      cases o with
      | map es => exact h2.ok h7
      | _ => exact h2.elim
    · rw [hb']; exact hr.tok.1
    · rw [hb']; exact hr.lo
  have hev := hr.ev
  rcases row_at hr.inv ho S.len hRv with ⟨rfl, rfl, hk0⟩ | ⟨off, cap, rfl, hcap, hk0, hh, hlt, ⟨pe, hpe⟩, hblk, hH, hrend⟩
  · refine Calls.mono (S.none none 0 _ w) ?_
    rintro en w' ⟨rfl, rfl⟩
    have hl0 : sorted [] = [] := List.eq_nil_of_length_eq_zero (S.perm [])
    refine fin gh w' _ rfl (fun _ => rfl) hev ?_ (fun i h _ => ⟨h, rfl⟩)
    rw [hl0]
    exact .slnil hk0 trivial
  · have hnew : w0.heap.size ≤ gh.rblk rid := by
      rcases hev.rb rid hlt hh with ⟨h, _⟩ | h
      · have := hr.lo; omega
      · exact h
    refine Calls.mono (S.some (gh.rblk rid) off cap l.toArray w hH hblk (by simpa using hsz)) ?_
    rintro en w' ⟨rfl, q, os, rfl⟩
    have hsl := S.perm l
    have hH2 := holdsK_sortWorldK_c enc k w (gh.rblk rid) off l.toArray (sorted l).toArray q os hH hblk (by simp [hsl])
    have hsz2 := size_sortWorldK_c enc k w (gh.rblk rid) off q (sorted l).toArray os
    have hold : ∀ b, b ≠ gh.rblk rid → b < w.heap.size → (sortWorldK enc k w (gh.rblk rid) off q (sorted l).toArray os).heap[b]? = w.heap[b]? := by
      intro b hb hb'
      unfold sortWorldK
      rw [heap_grow_old _ _ (by simpa [putRowK, Sort.ahead] using hb')]
      simp only [putRowK, putRow, mapBlock]
      rw [Array.getElem?_modify, if_neg (Ne.symm hb)]
      rfl
    have hdr : w.drawn ≤ (sortWorldK enc k w (gh.rblk rid) off q (sorted l).toArray os).drawn := Nat.le_add_right _ _
    generalize hW : sortWorldK enc k w (gh.rblk rid) off q (sorted l).toArray os = W at *
    have hos : W.os = w.os ∧ W.tape = w.tape ∧ W.output = w.output := by subst hW; exact ⟨rfl, rfl, rfl⟩
    have hE2 : Ev T g0 w0 (gh.shut (gh.rblk rid)) W := by
      have hold' : ∀ b, b < w0.heap.size → (gh.shut (gh.rblk rid)).perm b = gh.perm b ∧ W.heap[b]? = w.heap[b]? := fun b hb => by
        have : b ≠ gh.rblk rid := by omega
        exact ⟨by simp [Gh.shut, this], hold b this (Nat.lt_of_lt_of_le hb hev.size)⟩
      exact {
        os := hos.1.trans hev.os, tape := hos.2.1.trans hev.tape, output := hos.2.2.trans hev.output, drawn := Nat.le_trans hev.drawn hdr, size := Nat.le_trans hev.size hsz2, next := hev.next, blk := hev.blk
        ro := fun b hb hp => by obtain ⟨h1, h2⟩ := hold' b hb; obtain ⟨h3, h4⟩ := hev.ro b hb hp; exact ⟨h1.trans h3, h2.trans h4⟩
        row := fun b id p hb hp => by
          obtain ⟨h1, h2⟩ := hold' b hb
          obtain ⟨h3, h4⟩ := hev.row b id p hb hp
          exact ⟨by rw [h1]; exact h3, fun o ho => (World.cell?_of_block (w := w) (a := ⟨b, o, none⟩) h2).trans (h4 o ho)⟩
        own := fun b id hb hp hT => by obtain ⟨h1, h2⟩ := hold' b hb; obtain ⟨h3, h4⟩ := hev.own b id hb hp hT; exact ⟨h1.trans h3, h2.trans h4⟩
        fix := fun b id p hb hp hT => by obtain ⟨h1, h2⟩ := hold' b hb; obtain ⟨h3, h4⟩ := hev.fix b id p hb hp hT; exact ⟨h1.trans h3, h2.trans h4⟩
        stamp := hev.stamp
        still := hev.still
        rb := hev.rb }
    refine fin (gh.shut (gh.rblk rid)) W _ rfl (fun _ => rfl) hE2 ?_ (fun i hi hil => ?_)
    · have hlr : (rowsE enc (sorted l)).length = l.length := by simp [rowsE, hsl]
      refine .sl (vs := fun i j => ((enc (sorted l)[i]!)[j]!)) rfl hlr.symm hcap hk0 (fun i hi => ?_) (fun i j hi hj => ?_) (fun i j hi hj => ?_) (fun i j hi hj => ?_) (Nat.lt_of_lt_of_le hblk hsz2) (.inl (by simp [Gh.shut])) trivial
      · rw [rowsE_get (by rw [hsl]; exact hi), List.length_map, S.len]
      · have := (hH2.cell (i := i) (c := j) (by simpa [hsl] using hi) hj).1
        rw [Nat.add_assoc] at this
        rw [this]
        simp
      all_goals
        have hi' : i < (sorted l).length := by rw [hsl]; exact hi
        have hj' : j < (enc (sorted l)[i]).length := by rw [S.len]; exact hj
        rw [rowsE_get hi', List.getD_eq_getElem?_getD, List.getElem?_map, List.getElem?_eq_getElem hj']
      · simp only [Option.map_some, Option.getD_some]
        rw [getElem!_pos (sorted l) i hi', getElem!_pos _ j hj']
        exact .v (S.flat _ _ (List.getElem_mem hj')).1
      · exact (S.flat _ _ (List.getElem_mem hj')).2
    · have hne : gh.blk i ≠ gh.rblk rid := fun e => by rw [e, hpe] at hi; cases hi
      exact ⟨by simp only [Gh.shut, hne, if_false]; exact hi, hold _ hne hil⟩

end
end Go.Av

/- Bytes: literals of one's own that are written later, rows marked behind their end, bytes as a text. -/
namespace Go.Av
open Go
set_option linter.unusedVariables false
set_option linter.unusedSimpArgs false

/-- Numbers as a text's bytes. -/
def strOf (ns : List Int) : ByteArray := ⟨(ns.map fun n => UInt8.ofNat n.toNat).toArray⟩

theorem strOf_foldl (ns : List Int) : ns.foldl (fun r n => r.push (UInt8.ofNat n.toNat)) ByteArray.empty = strOf ns := by
  have key : ∀ (ns : List Int) (b : ByteArray), ns.foldl (fun r n => r.push (UInt8.ofNat n.toNat)) b = ⟨b.data ++ (ns.map fun n => UInt8.ofNat n.toNat).toArray⟩ := by
    intro ns
    induction ns with
    | nil => intro b; simp
    | cons n ns ih => intro b; rw [List.foldl_cons, ih]; simp [ByteArray.push]
  rw [key]
  simp only [strOf]
  congr 1
  exact Array.empty_append

theorem run_freeze (P : Program) (w : World) (a : Addr) (n : Nat) : (freeze a n).run P w = .ok () (w.freeze a n) := rfl
theorem run_shape (P : Program) (w : World) (r : Nat) : (shape r).run P w = .ok (w.shape? r) w := rfl

section
variable {P : Program} {ρ : Operand → AV} {s : AState} {k : AV → AState → Prop}

theorem filled_length {es : Nat} : ∀ (ps : List (Nat × AV)) (c o : List AV), fillL (fun i => some (i * es, es)) c ps = some o → o.length = c.length := by
  intro ps
  induction ps with
  | nil => intro c o h; simp only [fillL, Option.some.injEq] at h; rw [h]
  | cons p r ih =>
    intro c o h
    obtain ⟨i, x⟩ := p
    simp only [fillL] at h
    split at h
    · cases h
    · rename_i hn
      simp only [not_or, Nat.not_lt, gt_iff_lt] at hn
      have := ih _ _ h
      rw [this]
      simp only [spliceL, List.length_append, List.length_take, List.length_drop]
      omega

/-- A literal that is written later is a thing of one's own. -/
theorem sem_build {d : Option Nat} {t ty : TypeId} {len : Nat} {parts : Array (Nat × Operand)} {p : String} {af : Array Edge} {gd : Option (Nat × Bool)} {e : TypeId} {es : Nat} {z : AV} {cs : List AV}
    (hu : P.underlying t = some (.slice e)) (hs : szOf P e = some es) (he : 0 < es) (hle : len * es ≤ 16777216) (hl0 : 0 < len) (hz : zeroAV P e = some z) (hzl : z.cells.length = es)
    (hcs : fillL (fun i => some (i * es, es)) (List.replicate len z.cells).flatten (parts.toList.map fun (i, x) => (i, ρ x)) = some cs) (hk : k (.ms es s.next 0 len) (s.new (.cells cs))) :
    ASemD P ρ ⟨d, .buildSlice t len parts, ty, p, af, gd⟩ s k := by
  refine ⟨_, _, ⟨(fun c h => by cases h), (fun c h => by cases h), fun T g w ev hi ht hr => ?_⟩, hk⟩
  obtain ⟨v, n, hsz, hzr, hvs, hov⟩ := zeroAV_some hz
  rw [hs] at hsz
  cases hsz
  have hzc := zero_RC hov g w
  have hinit := zeros_RC (n := len) hzc (by omega)
  rw [hvs] at hinit
  have hp : Parts g w (parts.map fun (i, x) => (i, ev x)).toList (parts.toList.map fun (i, x) => (i, ρ x)) := by
    refine ⟨by simp, fun i hi => ?_⟩
    simp only [List.length_map] at hi
    simp only [Array.toList_map, List.getD_eq_getElem?_getD, List.getElem?_map, List.getElem?_eq_getElem hi, Option.map_some, Option.getD_some]
    refine ⟨trivial, hr _ ?_⟩
    simp [Op.operands]
    exact ⟨_, Array.getElem_mem (by simpa using hi)⟩
  obtain ⟨cells', hf, hRC⟩ := fill_sound hinit hp hcs
  obtain ⟨hev, hinv, hR⟩ := step_new hi cells' e cs (by simpa using hRC.1) (fun i hi => by rw [getD_toList]; exact hRC.2 i hi)
  refine ⟨.value (.slice (some ⟨w.heap.size, 0, none⟩) len len), .slice (some ⟨w.heap.size, 0, none⟩) len len, w.alloc (.cells cells' e), .ms es s.next 0 len, _, _, ?_, .inl rfl, ?_, hinv, hev.none_touch, ht.new hi _, rfl, rfl, rfl⟩
  · have h0 : ¬ len * es = 0 := by
      intro h
      rcases Nat.mul_eq_zero.1 h with h | h <;> omega
    have hcond : ¬ (len * es > 2 ^ 24) := by omega
    simp only [execOp, Instr.buildSlice, Sem.run_bind, run_underlying hu, Result.andThen_ok, run_sizeOf hs]
    rw [if_neg hcond]
    simp only [Sem.run_bind, Sem.run_pure, Result.andThen_ok, h0, if_false, hzr, hvs, hf, newRow, run_newObj]
    cases d <;> rfl
  · exact .ms (by simp [Gh.own, hi.next]) rfl (by simp [Gh.own, hi.next]) rfl (Nat.le_refl _) he

/-- A row of one's own marked behind its end. -/
theorem sem_mark {d : Option Nat} {t ty e : TypeId} {x : Operand} {p : String} {af : Array Edge} {gd : Option (Nat × Bool)} {es id off n : Nat} {cs : List AV}
    (hu : P.underlying t = some (.slice e)) (hb : P.underlying e = some (.int .u8)) (hx : ρ x = .ms es id off n) (ho : s.obj id = some (.cells cs)) (hk : k (.ms es id off n) s) :
    ASemD P ρ ⟨d, .convert t t x, ty, p, af, gd⟩ s k := by
  refine ⟨_, _, ⟨(fun c h => by cases h), (fun c h => by cases h), fun T g w ev hi ht hr => ?_⟩, hk⟩
  have hxr := hr x (by simp [Op.operands])
  rw [hx] at hxr
  generalize hv : ev x = v at hxr
  cases hxr with
  | @ms a _ cap _ _ _ hid hsp hbl hof hc he =>
  obtain ⟨hlt, hp, vs, elem, ⟨fz, hg, hz⟩, hvs, hcr⟩ := hi.obj _ _ ho
  have hfr : w.freeze ⟨a.block, vs.size, none⟩ 1 = w.putObj (g.blk id) (.cells vs elem (vs.size, vs.size + 1)) := by
    show (if 1 = 0 then w else _) = _
    rw [if_neg (by decide)]
    unfold World.putObj
    congr 1
    rw [hbl]
    apply Array.ext
    · simp
    · intro i h1 h2
      rw [Array.getElem_modify, Array.getElem_setIfInBounds]
      split
      · rename_i e
        subst e
        obtain ⟨h3, h4⟩ := Array.getElem?_eq_some_iff.1 hg
        rw [h4]
        rcases hz with rfl | rfl <;> simp
      · rfl
  have hev : Ev (fun i => i = id) g w g (w.putObj (g.blk id) (.cells vs elem (vs.size, vs.size + 1))) := Ev.putObj hp _
  refine ⟨.value (.slice (some a) n cap), .slice (some a) n cap, w.putObj (g.blk id) (.cells vs elem (vs.size, vs.size + 1)), .ms es id off n, s, g, ?_, .inl rfl, .ms hid hsp hbl hof hc he, ?_,
    hev.mono (fun i h => by subst h; exact ht.2 _ _ ho), ht, rfl, rfl, rfl⟩
  · have hsh : w.shape? a.block = some (elem, vs.size) := by unfold World.shape?; rw [hbl, hg]
    simp only [execOp, hv, Sem.run_bind, convert, run_underlying hu, run_underlying hb, Result.andThen_ok, beq_self_eq_true, markStringish, run_shape, hsh, run_freeze, hfr, Sem.run_pure]
  · refine Inv.touch (id := id) hi hev hi.next hi.base (fun i o _ h => h) (fun o h => ?_)
    rw [ho] at h; cases h
    exact ⟨hlt, hp, vs, elem, ⟨_, World.putObj_heap_same (lt_of_get hg), .inr rfl⟩, hvs, fun i hi => ⟨(hcr i hi).1.ev hev, (hcr i hi).2⟩⟩

theorem str_run {w : World} {src dst e : TypeId} {a : Addr} {n cap : Nat} {ns : List Int} (hs : P.underlying src = some (.slice e)) (he : P.underlying e = some (.int .u8)) (hd : P.underlying dst = some .string) (hn : n = ns.length)
    (hc : ∀ j, j < n → w.cell? (a.add j) = some (.int .u8 (ns.getD j 0))) : (convert src dst (.slice (some a) n cap)).run P w = .ok (.string (strOf ns)) w := by
  rw [run_convert_bytes_string w src dst e _ _ _ hs he hd]
  have hl := run_loadCells (P := P) w a n (fun j => .int .u8 (ns.getD j 0)) hc
  have e2 : (List.range n).map (fun j => Value.int .u8 (ns.getD j 0)) = ns.map (Value.int .u8) := by
    apply List.ext_getElem?
    intro j
    simp only [List.getElem?_map]
    by_cases h : j < n
    · rw [List.getElem?_range h, List.getElem?_eq_getElem (by omega), Option.map_some, Option.map_some, List.getD_eq_getElem?_getD, List.getElem?_eq_getElem (by omega)]; rfl
    · rw [List.getElem?_eq_none (by simp; omega), List.getElem?_eq_none (by omega)]; rfl
  rw [e2] at hl
  rw [run_bytesToString w a n cap ns hl, strOf_foldl]

/-- Bytes of one's own as a text. -/
theorem sem_str_ms {d : Option Nat} {src dst ty e : TypeId} {x : Operand} {p : String} {af : Array Edge} {gd : Option (Nat × Bool)} {es id off n : Nat} {cs : List AV} {ns : List Int}
    (hs : P.underlying src = some (.slice e)) (he : P.underlying e = some (.int .u8)) (hd : P.underlying dst = some .string) (hx : ρ x = .ms es id off n) (ho : s.obj id = some (.cells cs)) (hle : off + n ≤ cs.length)
    (hns : (cs.drop off).take n = ns.map fun b => .v (.int .u8 b)) (hk : k (.v (.string (strOf ns))) s) : ASemD P ρ ⟨d, .convert src dst x, ty, p, af, gd⟩ s k := by
  refine ⟨_, _, ⟨(fun c h => by cases h), (fun c h => by cases h), fun T g w ev hi ht hr => ?_⟩, hk⟩
  have hxr := hr x (by simp [Op.operands])
  rw [hx] at hxr
  generalize hv : ev x = v at hxr
  have hn : n = ns.length := by have := congrArg List.length hns; simp at this; omega
  cases hxr with
  | @ms a _ cap _ _ _ hid hsp hbl hof hc hes =>
  obtain ⟨hlt, hp, vs, elem, ⟨fz, hg, hz⟩, hvs, hcr⟩ := hi.obj _ _ ho
  refine ⟨.value (.string (strOf ns)), .string (strOf ns), w, .v (.string (strOf ns)), s, g, ?_, .inl rfl, .v rfl, hi, Ev.refl _ _ _, ht, rfl, rfl, rfl⟩
  have hc : ∀ j, j < n → w.cell? (a.add j) = some (.int .u8 (ns.getD j 0)) := by
    intro j hj
    have h1 := (hcr (off + j) (by omega)).1
    have h2 : cs.getD (off + j) AV.un = .v (.int .u8 (ns.getD j 0)) := by
      have := congrArg (fun l => l.getD j AV.un) hns
      simp only [List.getD_eq_getElem?_getD, List.getElem?_map, List.getElem?_take, hj, if_true, List.getElem?_drop] at this
      rw [List.getD_eq_getElem?_getD, this, List.getElem?_eq_getElem (show j < ns.length by omega), List.getD_eq_getElem?_getD, List.getElem?_eq_getElem (show j < ns.length by omega)]
      rfl
    rw [h2] at h1
    obtain ⟨h3, _⟩ := h1.flat_eq
    obtain ⟨ab, ao, asp⟩ := a
    simp only at hsp hbl hof
    subst hsp hbl hof
    rw [Addr.add_lit]
    have hlt' : ao + j < vs.size := by omega
    rw [cell_of_get hg, Array.getElem?_eq_getElem hlt']
    rw [Array.getD_eq_getD_getElem?, Array.getElem?_eq_getElem hlt'] at h3
    simpa using h3
  have hrun := str_run (cap := cap) hs he hd hn hc
  simp only [execOp, Sem.run_bind, hv, hrun, Result.andThen_ok, Sem.run_pure]

end
end Go.Av
