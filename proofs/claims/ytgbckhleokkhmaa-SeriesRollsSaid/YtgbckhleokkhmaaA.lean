/- Part of the proof of a law of this seat: the texts AvBase AvEval AvWorld AvRows AvAppend AvAppend2, in this order. -/
import Derived.CallsIn
import Derived.Laws.World
import Derived.Below
import Derived.Laws.AppendOwn
/- The values of the abstract reading: what a machine value stands for, and what stays of it while the world goes on. -/
namespace Go.Av
open Go
set_option linter.unusedVariables false
set_option linter.unusedSimpArgs false

inductive Tok where
  | none
  | exact
  | nn
  | row (id e : Nat)
  deriving Inhabited

inductive AV where
  | v (x : Value)
  | agg (cs : List AV)
  | tup (cs : List AV)
  | sl (es : Nat) (l : List (List AV)) (k : Tok)
  | ms (es id off len : Nat)
  | ep (cs : List AV) (off : Nat)
  | ptr (id off : Nat)
  | mp (id : Nat)
  | fn (f : Nat) (first cap : List AV)
  | yl (id : Nat)
  | ifc (t : Nat) (x : AV)
  | any

/-- Nothing: what stands where nothing was written. -/
abbrev AV.un : AV := .v undef

instance : Inhabited AV := ⟨.v undef⟩

def flat : Value → Bool
  | .bool _ | .int _ _ | .float _ _ | .complex _ _ _ | .string _ | .nilFunc | .nilIface => true
  | .pointer a => a.isNone
  | .slice a n c => a.isNone && (n == 0 && c == 0)
  | .map r => r.isNone
  | .chan r => r.isNone
  | .tuple vs => vs.isEmpty
  | _ => false

/-- Lies in one cell. -/
def AV.one : AV → Bool
  | .v (.agg _) | .v (.tuple _) => false
  | .v _ => true
  | .agg _ | .tup _ | .any => false
  | _ => true

inductive Perm where
  | ro
  | own (id : Nat)
  | row (id k : Nat)

structure Gh where
  next : Nat
  blk : Nat → Nat
  perm : Nat → Perm
  stamp : Nat → Nat
  rblk : Nat → Nat
  rend : Nat → Nat
  rsize : Nat → Nat
  rhas : Nat → Bool

/-- The cells of block b below e never change. -/
def Ext (g : Gh) (b e : Nat) : Prop := g.perm b = .ro ∨ ∃ id p, g.perm b = .row id p ∧ e ≤ p

def TokOk (g : Gh) (a : Addr) (len cap es : Nat) : Tok → Prop
  | .none => True
  | .exact => cap = len
  | .nn => True
  | .row id e => id < g.next ∧ e ≤ g.stamp id ∧ (e = g.stamp id → g.rhas id = true ∧ a.block = g.rblk id ∧ a.off + len * es = g.rend id ∧ a.off + cap * es = g.rsize id)

def TokNil (g : Gh) : Tok → Prop
  | .nn => False
  | .row id e => id < g.next ∧ e ≤ g.stamp id
  | _ => True

inductive R (g : Gh) (w : World) : Value → AV → Prop
  | v {x : Value} (h : flat x = true) : R g w x (.v x)
  | agg {cs : Array Value} {l : List AV} (hs : cs.size = l.length) (h : ∀ i, i < l.length → R g w (cs.getD i undef) (l.getD i AV.un)) (h1 : ∀ i, i < l.length → (l.getD i AV.un).one = true) : R g w (.agg cs) (.agg l)
  | tup {cs : Array Value} {l : List AV} (hs : cs.size = l.length) (h : ∀ i, i < l.length → R g w (cs.getD i undef) (l.getD i AV.un)) : R g w (.tuple cs) (.tup l)
  | sl {a : Addr} {len cap es : Nat} {l : List (List AV)} {k : Tok} (vs : Nat → Nat → Value) (hsp : a.spot = none) (hl : len = l.length) (hc : len ≤ cap) (he : 0 < es)
      (hes : ∀ i, i < len → (l.getD i []).length = es)
      (hcell : ∀ i j, i < len → j < es → w.cell? ⟨a.block, a.off + (i * es + j), none⟩ = some (vs i j))
      (h : ∀ i j, i < len → j < es → R g w (vs i j) ((l.getD i []).getD j AV.un))
      (h1 : ∀ i j, i < len → j < es → ((l.getD i []).getD j AV.un).one = true)
      (hb : a.block < w.heap.size) (hx : Ext g a.block (a.off + len * es)) (hk : TokOk g a len cap es k) : R g w (.slice (some a) len cap) (.sl es l k)
  | slnil {es : Nat} {k : Tok} (he : 0 < es) (hk : TokNil g k) : R g w (.slice none 0 0) (.sl es [] k)
  | ms {a : Addr} {len cap es id off : Nat} (hid : id < g.next) (hsp : a.spot = none) (hb : a.block = g.blk id) (ho : a.off = off) (hc : len ≤ cap) (he : 0 < es) :
      R g w (.slice (some a) len cap) (.ms es id off len)
  | ep {b o off : Nat} {cs : List AV} (vs : Nat → Value)
      (hcell : ∀ j, j < cs.length → w.cell? ⟨b, o + j, none⟩ = some (vs j)) (h : ∀ j, j < cs.length → R g w (vs j) (cs.getD j AV.un))
      (h1 : ∀ j, j < cs.length → (cs.getD j AV.un).one = true)
      (hb : b < w.heap.size) (hx : Ext g b (o + cs.length)) : R g w (.pointer (some ⟨b, o + off, none⟩)) (.ep cs off)
  | ptr {id off b : Nat} (hid : id < g.next) (hb : b = g.blk id) : R g w (.pointer (some ⟨b, off, none⟩)) (.ptr id off)
  | mp {id b : Nat} (hid : id < g.next) (hb : b = g.blk id) : R g w (.map (some b)) (.mp id)
  | fn {f : Nat} {first cap : Array Value} {lf lc : List AV} (h1 : first.size = lf.length) (h2 : cap.size = lc.length)
      (hf : ∀ i, i < lf.length → R g w (first.getD i undef) (lf.getD i AV.un)) (hc : ∀ i, i < lc.length → R g w (cap.getD i undef) (lc.getD i AV.un)) :
      R g w (.func (.func f) first cap) (.fn f lf lc)
  | yl {id b : Nat} (hid : id < g.next) (hb : b = g.blk id) : R g w (.func (.yield b) #[] #[]) (.yl id)
  | ifc {t : Nat} {x : Value} {d : AV} (h : R g w x d) : R g w (.iface t x) (.ifc t d)
  | any {x : Value} : R g w x .any

/-- What may change: T: the things that may be touched. -/
structure Ev (T : Nat → Prop) (g : Gh) (w : World) (g' : Gh) (w' : World) : Prop where
  os : w'.os = w.os
  tape : w'.tape = w.tape
  output : w'.output = w.output
  drawn : w.drawn ≤ w'.drawn
  size : w.heap.size ≤ w'.heap.size
  next : g.next ≤ g'.next
  blk : ∀ id, id < g.next → g'.blk id = g.blk id
  ro : ∀ b, b < w.heap.size → g.perm b = .ro → g'.perm b = .ro ∧ w'.heap[b]? = w.heap[b]?
  row : ∀ b id p, b < w.heap.size → g.perm b = .row id p →
    (g'.perm b = .ro ∨ ∃ p', p ≤ p' ∧ g'.perm b = .row id p') ∧ ∀ o, o < p → w'.cell? ⟨b, o, none⟩ = w.cell? ⟨b, o, none⟩
  own : ∀ b id, b < w.heap.size → g.perm b = .own id → ¬ T id → g'.perm b = .own id ∧ w'.heap[b]? = w.heap[b]?
  fix : ∀ b id p, b < w.heap.size → g.perm b = .row id p → ¬ T id → g'.perm b = .row id p ∧ w'.heap[b]? = w.heap[b]?
  stamp : ∀ id, id < g.next → g.stamp id ≤ g'.stamp id ∧ (g'.stamp id = g.stamp id → g'.rblk id = g.rblk id ∧ g'.rend id = g.rend id ∧ g'.rsize id = g.rsize id ∧ g'.rhas id = g.rhas id)
  still : ∀ id, id < g.next → ¬ T id → g'.stamp id = g.stamp id
  rb : ∀ id, id < g'.next → g'.rhas id = true → (id < g.next ∧ g.rhas id = true ∧ g'.rblk id = g.rblk id) ∨ w.heap.size ≤ g'.rblk id

theorem Ev.refl (T : Nat → Prop) (g : Gh) (w : World) : Ev T g w g w :=
  ⟨rfl, rfl, rfl, Nat.le_refl _, Nat.le_refl _, Nat.le_refl _, fun _ _ => rfl, fun _ _ h => ⟨h, rfl⟩, fun _ _ p _ h => ⟨.inr ⟨p, Nat.le_refl _, h⟩, fun _ _ => rfl⟩,
    fun _ _ _ h _ => ⟨h, rfl⟩, fun _ _ _ _ h _ => ⟨h, rfl⟩, fun _ _ => ⟨Nat.le_refl _, fun _ => ⟨rfl, rfl, rfl, rfl⟩⟩, fun _ _ _ => rfl, fun _ hi hh => .inl ⟨hi, hh, rfl⟩⟩

theorem Ev.trans {T : Nat → Prop} {g g1 g2 : Gh} {w w1 w2 : World} (h : Ev T g w g1 w1) (k : Ev T g1 w1 g2 w2) : Ev T g w g2 w2 where
  os := k.os.trans h.os
  tape := k.tape.trans h.tape
  output := k.output.trans h.output
  drawn := Nat.le_trans h.drawn k.drawn
  size := Nat.le_trans h.size k.size
  next := Nat.le_trans h.next k.next
  blk id hi := (k.blk id (Nat.lt_of_lt_of_le hi h.next)).trans (h.blk id hi)
  ro b hb hp := let ⟨a, c⟩ := h.ro b hb hp; let ⟨a', c'⟩ := k.ro b (Nat.lt_of_lt_of_le hb h.size) a; ⟨a', c'.trans c⟩
  row b id p hb hp := by
    obtain ⟨h1, h2⟩ := h.row b id p hb hp
    rcases h1 with h1 | ⟨p', hle, h1⟩
    · obtain ⟨k1, k2⟩ := k.ro b (Nat.lt_of_lt_of_le hb h.size) h1
      exact ⟨.inl k1, fun o ho => (World.cell?_of_block (w := w1) (a := ⟨b, o, none⟩) k2).trans (h2 o ho)⟩
    · obtain ⟨k1, k2⟩ := k.row b id p' (Nat.lt_of_lt_of_le hb h.size) h1
      refine ⟨?_, fun o ho => (k2 o (Nat.lt_of_lt_of_le ho hle)).trans (h2 o ho)⟩
      rcases k1 with k1 | ⟨p'', hle', k1⟩
      · exact .inl k1
      · exact .inr ⟨p'', Nat.le_trans hle hle', k1⟩
  own b id hb hp hT := let ⟨a, c⟩ := h.own b id hb hp hT; let ⟨a', c'⟩ := k.own b id (Nat.lt_of_lt_of_le hb h.size) a hT; ⟨a', c'.trans c⟩
  fix b id p hb hp hT := let ⟨a, c⟩ := h.fix b id p hb hp hT; let ⟨a', c'⟩ := k.fix b id p (Nat.lt_of_lt_of_le hb h.size) a hT; ⟨a', c'.trans c⟩
  stamp id hi := by
    obtain ⟨a, b⟩ := h.stamp id hi
    obtain ⟨c, d⟩ := k.stamp id (Nat.lt_of_lt_of_le hi h.next)
    refine ⟨Nat.le_trans a c, fun e => ?_⟩
    obtain ⟨d1, d2, d3, d4⟩ := d (by omega)
    obtain ⟨b1, b2, b3, b4⟩ := b (by omega)
    exact ⟨d1.trans b1, d2.trans b2, d3.trans b3, d4.trans b4⟩
  still id hi hT := (k.still id (Nat.lt_of_lt_of_le hi h.next) hT).trans (h.still id hi hT)
  rb id hi hh := by
    rcases k.rb id hi hh with ⟨a, b, c⟩ | a
    · rcases h.rb id a b with ⟨a', b', c'⟩ | a'
      · exact .inl ⟨a', b', c.trans c'⟩
      · exact .inr (by rw [c]; exact a')
    · exact .inr (Nat.le_trans h.size a)

theorem Ev.mono {T T' : Nat → Prop} {g g' : Gh} {w w' : World} (h : Ev T g w g' w') (hT : ∀ id, T id → T' id) : Ev T' g w g' w' :=
  { h with
    own := fun b id hb hp hn => h.own b id hb hp (fun x => hn (hT _ x))
    fix := fun b id p hb hp hn => h.fix b id p hb hp (fun x => hn (hT _ x))
    still := fun id hi hn => h.still id hi (fun x => hn (hT _ x)) }

theorem Ext.ev {T : Nat → Prop} {g g' : Gh} {w w' : World} {b e : Nat} (hx : Ext g b e) (h : Ev T g w g' w') (hb : b < w.heap.size) : Ext g' b e := by
  rcases hx with hx | ⟨id, p, hp, hle⟩
  · exact .inl (h.ro b hb hx).1
  · rcases (h.row b id p hb hp).1 with h1 | ⟨p', hle', h1⟩
    · exact .inl h1
    · exact .inr ⟨id, p', h1, Nat.le_trans hle hle'⟩

theorem Ev.cell {T : Nat → Prop} {g g' : Gh} {w w' : World} {b e o : Nat} {v : Value} (h : Ev T g w g' w') (hx : Ext g b e) (hb : b < w.heap.size) (ho : o < e)
    (hv : w.cell? ⟨b, o, none⟩ = some v) : w'.cell? ⟨b, o, none⟩ = some v := by
  rcases hx with hx | ⟨id, p, hp, hle⟩
  · exact (World.cell?_of_block (w := w) (a := ⟨b, o, none⟩) (h.ro b hb hx).2).trans hv
  · exact ((h.row b id p hb hp).2 o (by omega)).trans hv

theorem TokOk.ev {T : Nat → Prop} {g g' : Gh} {w w' : World} {a : Addr} {len cap es : Nat} {k : Tok} (hk : TokOk g a len cap es k) (h : Ev T g w g' w') : TokOk g' a len cap es k := by
  cases k with
  | none => trivial
  | exact => exact hk
  | nn => trivial
  | row id e =>
    obtain ⟨h1, h2, h3⟩ := hk
    obtain ⟨s1, s2⟩ := h.stamp id h1
    refine ⟨Nat.lt_of_lt_of_le h1 h.next, by omega, fun he => ?_⟩
    obtain ⟨q1, q2, q3, q4⟩ := s2 (by omega)
    obtain ⟨r0, r1, r2, r3⟩ := h3 (by omega)
    exact ⟨by rw [q4]; exact r0, by rw [q1]; exact r1, by rw [q2]; exact r2, by rw [q3]; exact r3⟩

theorem TokNil.ev {T : Nat → Prop} {g g' : Gh} {w w' : World} {k : Tok} (hk : TokNil g k) (h : Ev T g w g' w') : TokNil g' k := by
  cases k with
  | none => trivial
  | exact => trivial
  | nn => exact hk
  | row id e =>
    obtain ⟨h1, h2⟩ := hk
    obtain ⟨s1, _⟩ := h.stamp id h1
    exact ⟨Nat.lt_of_lt_of_le h1 h.next, by omega⟩

theorem idx_lt {i j len es : Nat} (hi : i < len) (hj : j < es) : i * es + j < len * es := by
  have h1 : i * es + j < (i + 1) * es := by rw [Nat.add_mul]; omega
  exact Nat.lt_of_lt_of_le h1 (Nat.mul_le_mul_right es hi)

theorem R.ev {T : Nat → Prop} {g g' : Gh} {w w' : World} (h : Ev T g w g' w') {x : Value} {d : AV} (hr : R g w x d) : R g' w' x d := by
  induction hr with
  | v hf => exact .v hf
  | agg hs _ h1 ih => exact .agg hs ih h1
  | tup hs _ ih => exact .tup hs ih
  | sl vs hsp hl hc he hes hcell _ h1 hb hx hk ih =>
    exact .sl vs hsp hl hc he hes (fun i j hi hj => h.cell hx hb (by have := idx_lt hi hj; omega) (hcell i j hi hj)) ih h1 (Nat.lt_of_lt_of_le hb h.size) (hx.ev h hb) (hk.ev h)
  | slnil he hk => exact .slnil he (hk.ev h)
  | ms hid hsp hb ho hc he => exact .ms (Nat.lt_of_lt_of_le hid h.next) hsp (by rw [h.blk _ hid]; exact hb) ho hc he
  | ep vs hcell _ h1 hb hx ih => exact .ep vs (fun j hj => h.cell hx hb (by omega) (hcell j hj)) ih h1 (Nat.lt_of_lt_of_le hb h.size) (hx.ev h hb)
  | ptr hid hb => exact .ptr (Nat.lt_of_lt_of_le hid h.next) (by rw [h.blk _ hid]; exact hb)
  | mp hid hb => exact .mp (Nat.lt_of_lt_of_le hid h.next) (by rw [h.blk _ hid]; exact hb)
  | fn h1 h2 _ _ ihf ihc => exact .fn h1 h2 ihf ihc
  | yl hid hb => exact .yl (Nat.lt_of_lt_of_le hid h.next) (by rw [h.blk _ hid]; exact hb)
  | ifc _ ih => exact .ifc ih
  | any => exact .any

theorem R.oneCell {g : Gh} {w : World} {x : Value} {d : AV} (hr : R g w x d) (h1 : d.one = true) : x.oneCell' = true := by
  cases hr with
  | v hf => cases x <;> simp_all [AV.one, Value.oneCell']
  | any => simp [AV.one] at h1
  | agg => simp [AV.one] at h1
  | tup => simp [AV.one] at h1
  | _ => rfl

/-- Nothing that lies at or beyond n. -/
def tokBel (n : Nat) : Tok → Prop
  | .row id _ => id < n
  | _ => True

inductive Bel (n : Nat) : AV → Prop
  | v (x : Value) : Bel n (.v x)
  | agg {cs : List AV} (h : ∀ c ∈ cs, Bel n c) : Bel n (.agg cs)
  | tup {cs : List AV} (h : ∀ c ∈ cs, Bel n c) : Bel n (.tup cs)
  | sl {es : Nat} {l : List (List AV)} {k : Tok} (h : ∀ x ∈ l, ∀ c ∈ x, Bel n c) (hk : tokBel n k) : Bel n (.sl es l k)
  | ms {es id off len : Nat} (h : id < n) : Bel n (.ms es id off len)
  | ep {cs : List AV} {off : Nat} (h : ∀ c ∈ cs, Bel n c) : Bel n (.ep cs off)
  | ptr {id off : Nat} (h : id < n) : Bel n (.ptr id off)
  | mp {id : Nat} (h : id < n) : Bel n (.mp id)
  | fn {f : Nat} {a b : List AV} (h : ∀ c ∈ a, Bel n c) (h' : ∀ c ∈ b, Bel n c) : Bel n (.fn f a b)
  | yl {id : Nat} (h : id < n) : Bel n (.yl id)
  | ifc {t : Nat} {x : AV} (h : Bel n x) : Bel n (.ifc t x)
  | any : Bel n .any

theorem getD_mem {α : Type} {l : List α} {i : Nat} {d : α} (h : i < l.length) : l.getD i d ∈ l := by
  rw [List.getD_eq_getElem?_getD, List.getElem?_eq_getElem h]
  exact List.getElem_mem h

theorem mem_getD {α : Type} {l : List α} {x d : α} (h : x ∈ l) : ∃ i, i < l.length ∧ l.getD i d = x := by
  obtain ⟨i, hi, rfl⟩ := List.getElem_of_mem h
  exact ⟨i, hi, by rw [List.getD_eq_getElem?_getD, List.getElem?_eq_getElem hi]; rfl⟩

theorem R.bel {g : Gh} {w : World} {x : Value} {d : AV} (hr : R g w x d) : Bel g.next d := by
  have key : ∀ {l : List AV} (_ : ∀ i, i < l.length → Bel g.next (l.getD i AV.un)), ∀ c ∈ l, Bel g.next c := by
    intro l h c hc
    obtain ⟨i, hi, rfl⟩ := List.getElem_of_mem hc
    have := h i hi
    rwa [List.getD_eq_getElem?_getD, List.getElem?_eq_getElem hi] at this
  induction hr with
  | v hf => exact .v _
  | agg hs _ _ ih => exact .agg (key ih)
  | tup hs _ ih => exact .tup (key ih)
  | sl vs hsp hl hc he hes hcell _ h1 hb hx hk ih =>
    refine .sl (fun x hx => ?_) ?_
    · obtain ⟨i, hi, e⟩ := mem_getD (d := []) hx
      subst e
      exact key (fun j hj => ih i j (by omega) (by rw [hes i (by omega)] at hj; exact hj))
    · cases hk' : ‹Tok› with
      | none => trivial
      | exact => trivial
      | nn => trivial
      | row id e => subst hk'; exact hk.1
  | slnil he hk =>
    refine .sl (fun _ h => by cases h) ?_
    cases hk' : ‹Tok› with
    | none => trivial
    | exact => trivial
    | nn => trivial
    | row id e => subst hk'; exact hk.1
  | ms hid => exact .ms hid
  | ep vs hcell _ h1 hb hx ih => exact .ep (key ih)
  | ptr hid hb => exact .ptr hid
  | mp hid hb => exact .mp hid
  | fn h1 h2 _ _ ihf ihc => exact .fn (key ihf) (key ihc)
  | yl hid hb => exact .yl hid
  | ifc _ ih => exact .ifc ih
  | any => exact .any

/-- What names nothing beyond n reads the same where all beyond n is forgotten. -/
theorem R.trim {g : Gh} {w : World} {x : Value} {d : AV} {n : Nat} (hr : R g w x d) (hb : Bel n d) : R { g with next := n } w x d := by
  induction hr with
  | v hf => exact .v hf
  | agg hs _ h1 ih => cases hb with | agg hb => exact .agg hs (fun i hi => ih i hi (hb _ (getD_mem hi))) h1
  | tup hs _ ih => cases hb with | tup hb => exact .tup hs (fun i hi => ih i hi (hb _ (getD_mem hi)))
  | sl vs hsp hl hc he hes hcell _ h1 hb' hx hk ih =>
    cases hb with
    | sl hb hk' =>
      refine .sl vs hsp hl hc he hes hcell (fun i j hi hj => ih i j hi hj (hb _ (getD_mem (by omega)) _ (getD_mem (by rw [hes i hi]; exact hj)))) h1 hb' hx ?_
      revert hk hk'
      cases ‹Tok› with
      | none => exact fun _ _ => trivial
      | exact => exact fun h _ => h
      | nn => exact fun h _ => h
      | row id e => exact fun h h' => ⟨h', h.2⟩
  | slnil he hk =>
    cases hb with
    | sl hb hk' =>
      refine .slnil he ?_
      revert hk hk'
      cases ‹Tok› with
      | none => exact fun _ _ => trivial
      | exact => exact fun h _ => h
      | nn => exact fun h _ => h
      | row id e => exact fun h h' => ⟨h', h.2⟩
  | ms hid hsp hb' ho hc he => cases hb with | ms h => exact .ms h hsp hb' ho hc he
  | ep vs hcell _ h1 hb' hx ih => cases hb with | ep hb => exact .ep vs hcell (fun j hj => ih j hj (hb _ (getD_mem hj))) h1 hb' hx
  | ptr hid hb' => cases hb with | ptr h => exact .ptr h hb'
  | mp hid hb' => cases hb with | mp h => exact .mp h hb'
  | fn h1 h2 _ _ ihf ihc => cases hb with | fn ha hb => exact .fn h1 h2 (fun i hi => ihf i hi (ha _ (getD_mem hi))) (fun i hi => ihc i hi (hb _ (getD_mem hi)))
  | yl hid hb' => cases hb with | yl h => exact .yl h hb'
  | ifc _ ih => cases hb with | ifc hb => exact .ifc (ih hb)
  | any => exact .any

inductive AObj where
  | cells (cs : List AV)
  | row (e : Nat)
  | map (es : List (AV × AV))
  | iter (m n : Nat) (seen : List Nat)
  | loop (e : Nat → AV) (ps : List Nat) (nt : Nat) (asg body : Code) (st : LoopState) (pend : Option Code) (D : Nat)
  | defd

/-- What stands fast through a body: from where on all is its own; the marks on its deferred calls. -/
structure FBase where
  lo : Nat
  marks : List Nat

structure AState where
  obj : Nat → Option AObj
  next : Nat
  base : FBase

/-- What lies in a block of one's own: a map, a walk over one, a loop's record, the calls put off by a loop. -/
def OwnOk (g : Gh) (w : World) : AObj → Obj → Prop
  | .map es, o => ∃ vs : Array MapEntry, o = .map vs vs.size ∧ vs.size = es.length ∧ ∀ (i : Nat) (p : AV × AV), es[i]? = some p → ∃ x : MapEntry, vs[i]? = some x ∧ x.born = i ∧ R g w x.key p.1 ∧ R g w x.val p.2
  | .iter m n seen, o => m < g.next ∧ o = .mapIter (some (g.blk m)) n seen.toArray n ∧ ∀ x ∈ seen, x < n
  | .loop e ps nt asg body st pend D, o => D < g.next ∧ ∃ (tmps : Array Value) (fn : FuncId), o = .loop { state := st, pending := pend, fn := fn, tmps := tmps, params := ps.toArray, assign := asg, body := body, defers := g.blk D } ∧ tmps.size = nt ∧ ∀ t, R g w (tmps.getD t undef) (e t)
  | .defd, o => o = .deferred (some [])
  | _, _ => False

theorem OwnOk.ev {T : Nat → Prop} {g g' : Gh} {w w' : World} {a : AObj} {o : Obj} (ho : OwnOk g w a o) (h : Ev T g w g' w') : OwnOk g' w' a o := by
  cases a with
  | cells cs => exact ho
  | row e => exact ho
  | map es =>
    obtain ⟨vs, h1, h2, h3⟩ := ho
    exact ⟨vs, h1, h2, fun i p hp => let ⟨x, a, b, c, d⟩ := h3 i p hp; ⟨x, a, b, c.ev h, d.ev h⟩⟩
  | iter m n seen =>
    obtain ⟨h1, h2, h3⟩ := ho
    exact ⟨Nat.lt_of_lt_of_le h1 h.next, by rw [h.blk m h1]; exact h2, h3⟩
  | loop e ps nt asg body st pend D =>
    obtain ⟨h1, tmps, fn, h2, h3, h4⟩ := ho
    exact ⟨Nat.lt_of_lt_of_le h1 h.next, tmps, fn, by rw [h.blk D h1]; exact h2, h3, fun t => (h4 t).ev h⟩
  | defd => exact ho

/-- What may be frozen of such a block: nothing, or what lies behind its last cell. -/
def FzOk (fz : Nat × Nat) (n : Nat) : Prop := fz = (0, 0) ∨ fz = (n, n + 1)

def ObjOk (g : Gh) (w : World) (id : Nat) : AObj → Prop
  | .cells cs => g.perm (g.blk id) = .own id ∧ ∃ vs elem, (∃ fz, w.heap[g.blk id]? = some (.cells vs elem fz) ∧ FzOk fz vs.size) ∧ vs.size = cs.length ∧ ∀ i, i < cs.length → R g w (vs.getD i undef) (cs.getD i AV.un) ∧ (cs.getD i AV.un).one = true
  | .row e => g.stamp id = e ∧ (g.rhas id = true → g.perm (g.rblk id) = .row id (g.rend id) ∧ g.rend id ≤ g.rsize id ∧ ∃ vs elem, w.heap[g.rblk id]? = some (.cells vs elem (0, 0)) ∧ vs.size = g.rsize id)
  | a => g.perm (g.blk id) = .own id ∧ ∃ x, w.heap[g.blk id]? = some x ∧ OwnOk g w a x

structure Inv (g : Gh) (st : AState) (w : World) : Prop where
  next : st.next = g.next
  base : st.base.lo ≤ st.next
  obj : ∀ id o, st.obj id = some o → id < g.next ∧ ObjOk g w id o

theorem lt_of_get {w : World} {b : Nat} {o : Obj} (h : w.heap[b]? = some o) : b < w.heap.size := by
  obtain ⟨h1, _⟩ := Array.getElem?_eq_some_iff.1 h
  exact h1

/-- A thing that is not touched is as it was. -/
theorem ObjOk.ev {T : Nat → Prop} {g g' : Gh} {w w' : World} {id : Nat} {o : AObj} (ho : ObjOk g w id o) (h : Ev T g w g' w') (hi : id < g.next) (hT : ¬ T id) : ObjOk g' w' id o := by
  cases o with
  | cells cs =>
    obtain ⟨h1, vs, elem, ⟨fz, h2, hz⟩, h3, h4⟩ := ho
    have hb := lt_of_get h2
    obtain ⟨k1, k2⟩ := h.own _ id hb h1 hT
    refine ⟨by rw [h.blk id hi]; exact k1, vs, elem, ⟨fz, by rw [h.blk id hi, k2]; exact h2, hz⟩, h3, fun i hlt => ⟨(h4 i hlt).1.ev h, (h4 i hlt).2⟩⟩
  | row e =>
    obtain ⟨h1, ho⟩ := ho
    have hs := h.still id hi hT
    obtain ⟨q1, q2, q3, q4⟩ := (h.stamp id hi).2 hs
    refine ⟨hs.trans h1, fun hh => ?_⟩
    rw [q4] at hh
    obtain ⟨h2, h3, vs, elem, h4, h5⟩ := ho hh
    have hb := lt_of_get h4
    obtain ⟨k1, k2⟩ := h.fix _ id _ hb h2 hT
    exact ⟨by rw [q1, q2]; exact k1, by rw [q2, q3]; exact h3, vs, elem, by rw [q1, k2]; exact h4, by rw [q3]; exact h5⟩
  | _ =>
    obtain ⟨h1, x, h2, h3⟩ := ho
    obtain ⟨k1, k2⟩ := h.own _ id (lt_of_get h2) h1 hT
    exact ⟨by rw [h.blk id hi]; exact k1, x, by rw [h.blk id hi, k2]; exact h2, h3.ev h⟩

end Go.Av

/- The abstract evaluation of the code: what an operation, a region, a piece of code comes to on abstract values. -/
namespace Go.Av
open Go
set_option linter.unusedVariables false
set_option linter.unusedSimpArgs false

abbrev Env := Nat → AV

def Env.set (e : Env) (d : Option Nat) (v : AV) : Env :=
  match d with
  | some d => fun t => if t = d then v else e t
  | none => e

def ofConst (x : Value) : AV := if flat x = true then .v x else .any

def Env.eval (e : Env) : Operand → AV
  | .tmp t => e t
  | .const v => ofConst v
  | .global _ => .any
  | .func f => .fn f [] []

def AState.new (s : AState) (o : AObj) : AState := { s with obj := fun i => if i = s.next then some o else s.obj i, next := s.next + 1 }
def AState.set (s : AState) (id : Nat) (o : AObj) : AState := { s with obj := fun i => if i = id then some o else s.obj i }

def opt {α : Type} (o : Option α) (k : α → Prop) : Prop :=
  match o with
  | some a => k a
  | none => False

theorem opt_some {α : Type} (a : α) (k : α → Prop) : opt (some a) k = k a := rfl
theorem opt_none {α : Type} (k : α → Prop) : opt none k = False := rfl
theorem opt_elim {α : Type} {o : Option α} {k : α → Prop} (h : opt o k) : ∃ a, o = some a ∧ k a := by
  cases o with
  | none => exact h.elim
  | some a => exact ⟨a, rfl, h⟩

/-- Which boxes are never written (their slots). -/
structure Cfg where
  imm : List Nat := []
  deriving Inhabited

/-- Is this slot's box never written? -/
def Cfg.ro (C : Cfg) (d : Option Nat) : Bool :=
  match d with
  | some d => C.imm.contains d
  | none => false

def aggT (d : TypeDesc) : Bool :=
  match d with
  | .struct _ | .array _ _ => true
  | _ => false

def AV.cells : AV → List AV
  | .agg cs => cs
  | d => [d]

/-- A closed value, read abstractly. -/
def ofVal : Value → Option AV
  | .agg cs => if cs.toList.all (fun c => flat c && c.oneCell') then some (.agg (cs.toList.map .v)) else none
  | x => if flat x && x.oneCell' then some (.v x) else none

/-- What a type tells: its cells, its bytes, its zero value. -/
structure TyI where
  size : Nat
  bytes : Nat
  zero : Option AV

def tyI (P : Program) (t : TypeId) : Option TyI :=
  (P.info? t).map fun i => { size := i.size, bytes := i.bytes, zero := i.zero.bind fun z => if z.cells.size = i.size then ofVal z else none }

def szOf (P : Program) (t : TypeId) : Option Nat := (tyI P t).map (·.size)
def zeroAV (P : Program) (t : TypeId) : Option AV := (tyI P t).bind (·.zero)

/-- The variable of type t at cell off. -/
def ldAV (P : Program) (t : TypeId) (cs : List AV) (off : Nat) : Option AV :=
  match P.underlying t, tyI P t with
  | some d, some i =>
    if aggT d then (if off + i.size ≤ cs.length then some (.agg ((cs.drop off).take i.size)) else none)
    else cs[off]?
  | _, _ => none

def spliceL (cs : List AV) (off : Nat) (new : List AV) : List AV := cs.take off ++ new ++ cs.drop (off + new.length)

def chunks (es : Nat) : Nat → List AV → List (List AV)
  | 0, _ => []
  | n + 1, cs => cs.take es :: chunks es n (cs.drop es)

/-- The value of an operator on values without addresses. -/
def binV (op : BinOp) : Value → Value → Option Value
  | .int k a, .int k' b =>
    match op with
    | .shl => if b < 0 then none else some (.int k (k.wrap (a * 2 ^ (min b.toNat k.bits))))
    | .shr => if b < 0 then none else some (.int k (a.fdiv (2 ^ (min b.toNat k.bits))))
    | _ =>
      if k = k' then
        match op with
        | .add => some (.int k (k.wrap (a + b)))
        | .sub => some (.int k (k.wrap (a - b)))
        | .mul => some (.int k (k.wrap (a * b)))
        | .quo => if b = 0 then none else some (.int k (k.wrap (a.tdiv b)))
        | .rem => if b = 0 then none else some (.int k (a.tmod b))
        | .and => some (.int k (k.wrap (BitVec.ofInt k.bits a &&& BitVec.ofInt k.bits b).toNat))
        | .or => some (.int k (k.wrap (BitVec.ofInt k.bits a ||| BitVec.ofInt k.bits b).toNat))
        | .xor => some (.int k (k.wrap (BitVec.ofInt k.bits a ^^^ BitVec.ofInt k.bits b).toNat))
        | .andNot => some (.int k (k.wrap (BitVec.ofInt k.bits a &&& ~~~BitVec.ofInt k.bits b).toNat))
        | .eql => some (.bool (a == b))
        | .neq => some (.bool (a != b))
        | .lss => some (.bool (decide (a < b)))
        | .leq => some (.bool (decide (a ≤ b)))
        | .gtr => some (.bool (decide (a > b)))
        | .geq => some (.bool (decide (a ≥ b)))
        | _ => none
      else none
  | .string a, .string b =>
    match op with
    | .add => if a.size + b.size ≤ 140737488355328 then some (.string (a ++ b)) else none
    | .eql => some (.bool (a.toList == b.toList))
    | .neq => some (.bool !(a.toList == b.toList))
    | .lss => some (.bool (Op.bytesLess a.toList b.toList))
    | .leq => some (.bool (Op.bytesLess a.toList b.toList || a.toList == b.toList))
    | .gtr => some (.bool !(Op.bytesLess a.toList b.toList || a.toList == b.toList))
    | .geq => some (.bool !(Op.bytesLess a.toList b.toList))
    | _ => none
  | _, _ => none

/-- The value itself, where it has no address. -/
def AV.flatV : AV → Value
  | .v x => x
  | _ => .tuple #[undef]

/-- Is a value nil? (against a nil written out) -/
def nilCmp : AV → AV → Option Bool
  | .ep _ _, .v (.pointer none) | .ptr _ _, .v (.pointer none) | .v (.pointer none), .ep _ _ | .v (.pointer none), .ptr _ _ => some false
  | .v (.pointer none), .v (.pointer none) => some true
  | .v (.slice none 0 0), .v (.slice none 0 0) => some true
  | .mp _, .v (.map none) => some false
  | .fn _ _ _, .v .nilFunc => some false
  | _, _ => none

/-- Are two values equal, as the machine holds them against each other? (structs, arrays) -/
def AEq (P : Program) (t : TypeId) (x y : AV) (b : Bool) : Prop :=
  ∀ g w u v, R g w u x → R g w v y → ∀ ox oy, (do eqGuard .eql t ox oy u v; binOp .eql t u v : Sem Value).run P w = .ok (.bool b) w ∧
    (do eqGuard .neq t ox oy u v; binOp .neq t u v : Sem Value).run P w = .ok (.bool !b) w

def unV (op : UnOp) : Value → Option Value
  | .int k a =>
    match op with
    | .neg => some (.int k (k.wrap (0 - a)))
    | .xor => some (.int k (k.wrap (BitVec.ofInt k.bits (if k.signed then -1 else k.max) ^^^ BitVec.ofInt k.bits a).toNat))
    | _ => none
  | .bool a =>
    match op with
    | .not => some (.bool !a)
    | _ => none
  | _ => none

def byteCells (s : ByteArray) : List (List AV) := s.data.toList.map fun b => [.v (.int .u8 b.toNat)]

/-- The elements of what is appended. -/
def rowsOf (es : Nat) : AV → Option (List (List AV))
  | .sl es' l _ => if es' = es then some l else none
  | .v (.slice none 0 0) => some []
  | .v (.string s) => if es = 1 then some (byteCells s) else none
  | _ => none

def room : Nat := 140737488355328

def aAppend (P : Program) (t : TypeId) (a b : AV) (s : AState) (k : AV → AState → Prop) : Prop :=
  match P.underlying t with
  | some (.slice e) =>
    match tyI P e with
    | some i =>
      0 < i.size ∧ 0 < i.bytes ∧ i.zero.isSome = true ∧ opt (rowsOf i.size b) fun l2 =>
        match a with
        | .v (.slice none 0 0) =>
          (l2 = [] → k a s) ∧ (l2 ≠ [] → l2.length * i.bytes ≤ room ∧ k (.sl i.size l2 (.row s.next l2.length)) (s.new (.row l2.length)))
        | .sl es l (.row id n) =>
          (l.length + l2.length) * i.bytes ≤ room ∧ es = i.size ∧ s.obj id = some (.row n) ∧ k (.sl es (l ++ l2) (.row id (n + l2.length))) (s.set id (.row (n + l2.length)))
        | .sl es l .exact =>
          (l2 = [] → k a s) ∧ (l2 ≠ [] → es = i.size ∧ (l.length + l2.length) * i.bytes ≤ room ∧ k (.sl es (l ++ l2) (.row s.next (l.length + l2.length))) (s.new (.row (l.length + l2.length))))
        | .sl _ _ .none => l2 = [] ∧ k a s
        | _ => False
    | none => False
  | _ => False

def aLen (P : Program) (t : TypeId) (a : AV) (k : AV → Prop) : Prop :=
  match P.underlying t, a with
  | some .string, .v (.string s) => k (.v (.int .i64 s.size))
  | some (.slice _), .sl _ l _ => k (.v (.int .i64 l.length))
  | some (.slice _), .ms _ _ _ n => k (.v (.int .i64 n))
  | some (.slice _), .v (.slice none 0 0) => k (.v (.int .i64 0))
  | some (.array n _), _ => k (.v (.int .i64 n))
  | _, _ => False

def AV.untok : AV → AV
  | .sl es l _ => .sl es l .none
  | d => d

/-- The things that may be touched: what is laid from the base on, and what is at hand. -/
def TOk (T : Nat → Prop) (s : AState) : Prop := (∀ id, s.base.lo ≤ id → T id) ∧ ∀ id o, s.obj id = some o → T id

def RL (g : Gh) (w : World) (vs : List Value) (ds : List AV) : Prop := vs.length = ds.length ∧ ∀ i, i < ds.length → R g w (vs.getD i undef) (ds.getD i AV.un)

def Enters (P : Program) (f : FuncId) : Prop := ∀ args w, (callFunc f args).run P w = .ok (.enter f args) w

/-- A call of function f on such arguments ends, and what it hands back and leaves behind is what k takes. -/
def ACalls (P : Program) (f : FuncId) (args : List AV) (s : AState) (k : AV → AState → Prop) : Prop :=
  Enters P f ∧ ∀ T g w vs, Inv g s w → TOk T s → RL g w vs args →
    Calls P f vs.toArray w fun e w' => ∃ v d s' g', e = .returned v ∧ R g' w' v d ∧ Inv g' s' w' ∧ Ev T g w g' w' ∧ TOk T s' ∧ s'.base = s.base ∧ k d s'

/-- What an operation without a law here comes to, by the machine's own word. -/
def ASem (P : Program) (ρ : Operand → AV) (o : Oper) (s : AState) (k : AV → AState → Prop) : Prop :=
  (∀ c, o.op ≠ .defer c) ∧ (∀ c, o.op ≠ .call c) ∧ ∀ T g w (ev : Operand → Value), Inv g s w → TOk T s → (∀ x, x ∈ o.op.operands → R g w (ev x) (ρ x)) →
    ∃ n v w' d s' g', (execOp ev o).run P w = .ok n w' ∧ (n = .value v ∨ (n = .skip ∧ v = undef)) ∧ R g' w' v d ∧ Inv g' s' w' ∧ Ev T g w g' w' ∧ TOk T s' ∧ s'.base = s.base ∧ k d s'

/-- The same, of one outcome. -/
def ASemD (P : Program) (ρ : Operand → AV) (o : Oper) (s : AState) (k : AV → AState → Prop) : Prop := ∃ d s', ASem P ρ o s (fun d' s2 => d' = d ∧ s2 = s') ∧ k d s'

def bnd (x : Option AV) (d : Nat) : Option Int :=
  match x with
  | none => some d
  | some (.v (.int _ n)) => some n
  | _ => none

def aSlice (P : Program) (t : TypeId) (x : AV) (lo hi mx : Option AV) (k : AV → Prop) : Prop :=
  match P.underlying t, x with
  | some .string, .v (.string s) =>
    mx.isNone = true ∧ opt (bnd lo 0) fun l => opt (bnd hi s.size) fun h => 0 ≤ l ∧ l ≤ h ∧ h ≤ s.size ∧ k (.v (.string (s.extract l.toNat h.toNat)))
  | some (.slice e), .sl es a tok =>
    szOf P e = some es ∧ opt (bnd lo 0) fun l => opt (bnd hi a.length) fun h =>
      match mx with
      | none => 0 ≤ l ∧ l ≤ h ∧ h ≤ a.length ∧ k (.sl es ((a.take h.toNat).drop l.toNat) (if lo.isNone && hi.isNone then tok else .none))
      | some m => hi.isSome = true ∧ opt (bnd (some m) 0) fun m => 0 ≤ l ∧ l ≤ h ∧ h ≤ m ∧ m ≤ a.length ∧ k (.sl es ((a.take h.toNat).drop l.toNat) (if m = h then .exact else .none))
  | some (.slice e), .v (.slice none 0 0) =>
    (szOf P e).isSome = true ∧ opt (bnd lo 0) fun l => opt (bnd hi 0) fun h => l = 0 ∧ h = 0 ∧ opt (bnd mx 0) fun m => m = 0 ∧ (mx.isSome = true → hi.isSome = true) ∧ k (.v (.slice none 0 0))
  | some (.array n e), .ep cs off =>
    lo.isNone = true ∧ hi.isNone = true ∧ mx.isNone = true ∧ 0 < n ∧ opt (szOf P e) fun es => 0 < es ∧ off + n * es ≤ cs.length ∧ k (.sl es (chunks es n (cs.drop off)) .exact)
  | _, _ => False

def aIndexAddr (P : Program) (t : TypeId) (x i : AV) (k : AV → Prop) : Prop :=
  match P.underlying t, x, i with
  | some (.slice e), .sl es l _, .v (.int _ i) => szOf P e = some es ∧ 0 ≤ i ∧ i < l.length ∧ k (.ep (l.getD i.toNat []) 0)
  | some (.slice e), .ms es id off n, .v (.int _ i) => szOf P e = some es ∧ 0 ≤ i ∧ i < n ∧ k (.ptr id (off + i.toNat * es))
  | some (.array n e), .ep cs off, .v (.int _ i) => opt (szOf P e) fun es => 0 ≤ i ∧ i < n ∧ k (.ep cs (off + i.toNat * es))
  | some (.array n e), .ptr id off, .v (.int _ i) => opt (szOf P e) fun es => 0 ≤ i ∧ i < n ∧ k (.ptr id (off + i.toNat * es))
  | _, _, _ => False

def aIndex (P : Program) (t : TypeId) (x i : AV) (k : AV → Prop) : Prop :=
  match P.underlying t, x, i with
  | some (.array n e), .agg cs, .v (.int _ i) => opt (szOf P e) fun es => 0 ≤ i ∧ i < n ∧ opt (ldAV P e cs (i.toNat * es)) k
  | some .string, .v (.string s), .v (.int _ i) => 0 ≤ i ∧ i < s.size ∧ k (.v (.int .u8 (s.data.toList.getD i.toNat 0).toNat))
  | _, _, _ => False

/-- The parts of a struct or array that is written out. -/
def fillL (place : Nat → Option (Nat × Nat)) (cells : List AV) : List (Nat × AV) → Option (List AV)
  | [] => some cells
  | (i, v) :: rest =>
    match place i with
    | none => none
    | some (off, size) =>
      if v.cells.length ≠ size ∨ off + v.cells.length > cells.length ∨ v.cells.all AV.one = false then none
      else fillL place (spliceL cells off v.cells) rest

def aBuild (P : Program) (t : TypeId) (parts : List (Nat × AV)) (k : AV → Prop) : Prop :=
  match zeroAV P t, P.underlying t with
  | some z, some (.struct fs) => (fs.toList.all fun f => (szOf P f.type).isSome) = true ∧ opt (fillL (fun i => (fs[i]?).bind fun f => (szOf P f.type).map fun s => (f.offset, s)) z.cells parts) fun cs => k (.agg cs)
  | some z, some (.array _ e) => opt (szOf P e) fun es => opt (fillL (fun i => some (i * es, es)) z.cells parts) fun cs => k (.agg cs)
  | _, _ => False

def aBuildSlice (P : Program) (t : TypeId) (len : Nat) (parts : List (Nat × AV)) (k : AV → Prop) : Prop :=
  match P.underlying t with
  | some (.slice e) =>
    opt (szOf P e) fun es => 0 < es ∧ len * es ≤ 16777216 ∧ opt (zeroAV P e) fun z => z.cells.length = es ∧
      opt (fillL (fun i => some (i * es, es)) (List.replicate len z.cells).flatten parts) fun cs => k (.sl es (chunks es len cs) .exact)
  | _ => False

def aMakeSlice (P : Program) (imm : Bool) (t : TypeId) (l c : AV) (s : AState) (k : AV → AState → Prop) : Prop :=
  match P.underlying t, l, c with
  | some (.slice e), .v (.int _ l), .v (.int _ c) =>
    match tyI P e with
    | some i => 0 < i.size ∧ 0 ≤ l ∧ l ≤ c ∧ c * i.bytes ≤ room ∧ c ≤ room ∧ opt (zeroAV P e) fun z => z.cells.length = i.size ∧
      if imm then l = 0 ∧ k (.sl i.size [] (.row s.next 0)) (s.new (.row 0))
      else k (.ms i.size s.next 0 l.toNat) (s.new (.cells (List.replicate c.toNat z.cells).flatten))
    | none => False
  | _, _, _ => False

def two (f : Int → Int → Int) : List AV → Option AV
  | [.v (.int k x), .v (.int k' y)] => if k = k' then some (.v (.int k (f x y))) else none
  | _ => none

def aBuiltin (P : Program) (b : Builtin) (argTypes : Array TypeId) (args : List AV) (s : AState) (k : AV → AState → Prop) : Prop :=
  match b, args with
  | .len, [a] => aLen P (argTypes.getD 0 0) a fun d => argTypes.size = 1 ∧ k d s
  | .append, [a, x] => aAppend P (argTypes.getD 0 0) a x s fun d s' => argTypes.size = 2 ∧ (∃ t1, argTypes[1]? = some t1 ∧ ∃ d1, P.underlying t1 = some d1 ∧ ∀ q, d1 ≠ .int q) ∧ k d s'
  | .min, _ => opt (two (fun x y => if y < x then y else x) args) fun d => k d s
  | .max, _ => opt (two (fun x y => if y > x then y else x) args) fun d => k d s
  | _, _ => False

/-- A round of a loop over a function, asked for by a call of its yield. -/
def AYield (P : Program) (id : Nat) (args : List AV) (s : AState) (k : AV → AState → Prop) : Prop :=
  ∀ T g w vs, Inv g s w → TOk T s → RL g w vs args → ∃ r : Loop, w.heap[g.blk id]? = some (.loop r) ∧ vs.length = r.params.size ∧
    ∀ n, RoundIn Fence.wide n P (g.blk id) r.fn ((r.params.zip vs.toArray).foldl (fun tmps (t, a) => tmps.setIfInBounds t a) r.tmps) r.assign r.body w fun e w' =>
      ∃ v d s' g', e = .returned v ∧ R g' w' v d ∧ Inv g' s' w' ∧ Ev T g w g' w' ∧ TOk T s' ∧ s'.base = s.base ∧ k d s'

def callV (P : Program) (v : AV) (args : List AV) (s : AState) (k : AV → AState → Prop) : Prop :=
  match v with
  | .fn g first cap => ACalls P g ((first ++ args ++ cap).map AV.untok) s k
  | .yl id => AYield P id (args.map AV.untok) s k
  | _ => False

def aCall (P : Program) (ρ : Operand → AV) (c : Call) (s : AState) (k : AV → AState → Prop) : Prop :=
  match c.callee with
  | .builtin b => aBuiltin P b c.argTypes (c.args.toList.map ρ) s k
  | .value f => callV P (ρ f) (c.args.toList.map ρ) s k
  | .invoke _ _ => False

def aOp (P : Program) (C : Cfg) (ρ : Operand → AV) (o : Oper) (s : AState) (k : AV → AState → Prop) : Prop :=
  match o.op with
  | .move x | .assign x => k (ρ x) s
  | .pick c a b =>
    match ρ c with
    | .v (.bool t) => k (if t then ρ a else ρ b) s
    | _ => False
  | .alloc t => opt (zeroAV P t) fun z =>
      if C.ro o.dst then k (.ep z.cells 0) s else k (.ptr s.next 0) (s.new (.cells z.cells))
  | .box t x => (ρ x).cells.all AV.one = true ∧
      if C.ro o.dst then k (.ep (ρ x).cells 0) s else k (.ptr s.next 0) (s.new (.cells (ρ x).cells))
  | .build t parts => aBuild P t (parts.toList.map fun (i, x) => (i, ρ x)) fun d => k d s
  | .buildSlice t len parts => if C.ro o.dst then ASemD P ρ o s k else aBuildSlice P t len (parts.toList.map fun (i, x) => (i, ρ x)) fun d => k d s
  | .load t a =>
    match ρ a with
    | .ep cs off => opt (ldAV P t cs off) fun d => k d s
    | .ptr id off =>
      match s.obj id with
      | some (.cells cs) => opt (ldAV P t cs off) fun d => k d s
      | _ => False
    | _ => False
  | .store t a x =>
    match ρ a with
    | .ptr id off =>
      match s.obj id with
      | some (.cells cs) => szOf P t = some (ρ x).cells.length ∧ off + (ρ x).cells.length ≤ cs.length ∧ (ρ x).cells.all AV.one = true ∧ k AV.un (s.set id (.cells (spliceL cs off (ρ x).cells)))
      | _ => False
    | _ => False
  | .nilCheck x =>
    match ρ x with
    | .ep cs off => k (.ep cs off) s
    | .ptr id off => k (.ptr id off) s
    | .fn f a b => k (.fn f a b) s
    | .yl id => k (.yl id) s
    | _ => False
  | .binOp op t x y _ =>
    match binV op (ρ x).flatV (ρ y).flatV with
    | some r => k (.v r) s
    | none =>
      match op with
      | .eql => ∃ b, AEq P t (ρ x) (ρ y) b ∧ k (.v (.bool b)) s
      | .neq => ∃ b, AEq P t (ρ x) (ρ y) b ∧ k (.v (.bool !b)) s
      | _ => False
  | .unOp op _ x =>
    match ρ x with
    | .v a => opt (unV op a) fun r => k (.v r) s
    | _ => False
  | .convert src dst x =>
    match P.underlying src, P.underlying dst, ρ x with
    | some _, some (.int q), .v (.int _ n) => k (.v (.int q (q.wrap n))) s
    | some _, some .string, .v (.string b) => k (.v (.string b)) s
    | _, _, _ => ASemD P ρ o s k
  | .makeFunc fn first cap =>
    match fn with
    | .func f => k (.fn f (first.toList.map ρ) (cap.toList.map ρ)) s
    | _ => False
  | .makeSlice t l c => aMakeSlice P (C.ro o.dst) t (ρ l) (ρ c) s k
  | .slice t x lo hi mx => aSlice P t (ρ x) (lo.map ρ) (hi.map ρ) (mx.map ρ) fun d => k d s
  | .fieldAddr t x f =>
    match P.underlying t with
    | some (.struct fs) => opt (fs[f]?) fun fd => opt (szOf P fd.type) fun n => n ≠ 0 ∧
      match ρ x with
      | .ep cs off => k (.ep cs (off + fd.offset)) s
      | .ptr id off => k (.ptr id (off + fd.offset)) s
      | _ => False
    | _ => False
  | .field t x f =>
    match P.underlying t, ρ x with
    | some (.struct fs), .agg cs => opt (fs[f]?) fun fd => opt (ldAV P fd.type cs fd.offset) fun d => k d s
    | _, _ => False
  | .indexAddr t x i => aIndexAddr P t (ρ x) (ρ i) fun d => k d s
  | .index t x i => aIndex P t (ρ x) (ρ i) fun d => k d s
  | .extract x i =>
    match ρ x with
    | .tup cs => opt (cs[i]?) fun d => k d s
    | _ => False
  | .call c => aCall P ρ c s k
  | _ => ASem P ρ o s k

end Go.Av

/- How the world's changes keep what is read abstractly: a new block, a store into a block of one's own, an append. -/
namespace Go.Av
open Go
set_option linter.unusedVariables false
set_option linter.unusedSimpArgs false

/-- A new block; the ghost may tell anew what lies at or beyond the ends. -/
theorem Ev.alloc {T : Nat → Prop} {g g' : Gh} {w : World} {o : Obj} (hn : g.next ≤ g'.next) (hblk : ∀ id, id < g.next → g'.blk id = g.blk id)
    (hperm : ∀ b, b < w.heap.size → g'.perm b = g.perm b)
    (hst : ∀ id, id < g.next → g'.stamp id = g.stamp id ∧ g'.rblk id = g.rblk id ∧ g'.rend id = g.rend id ∧ g'.rsize id = g.rsize id ∧ g'.rhas id = g.rhas id) (hnew : ∀ id, g.next ≤ id → id < g'.next → g'.rhas id = false) :
    Ev T g w g' (w.alloc o) where
  os := rfl
  tape := rfl
  output := rfl
  drawn := Nat.le_refl _
  size := by simp
  next := hn
  blk := hblk
  ro b hb hp := ⟨by rw [hperm b hb]; exact hp, heap_alloc_old w _ b hb⟩
  row b id p hb hp := ⟨.inr ⟨p, Nat.le_refl _, by rw [hperm b hb]; exact hp⟩, fun o _ => World.cell?_of_block (w := w) (a := ⟨b, o, none⟩) (heap_alloc_old w _ b hb)⟩
  own b id hb hp _ := ⟨by rw [hperm b hb]; exact hp, heap_alloc_old w _ b hb⟩
  fix b id p hb hp _ := ⟨by rw [hperm b hb]; exact hp, heap_alloc_old w _ b hb⟩
  stamp id hi := let ⟨a, b, c, d, e⟩ := hst id hi; ⟨Nat.le_of_eq a.symm, fun _ => ⟨b, c, d, e⟩⟩
  still id hi _ := (hst id hi).1
  rb id hi hh := by
    rcases Nat.lt_or_ge id g.next with h | h
    · obtain ⟨_, b, _, _, e⟩ := hst id h
      exact .inl ⟨h, by rw [← e]; exact hh, b⟩
    · rw [hnew id h hi] at hh; cases hh

/-- One thing alone was touched (or laid). -/
theorem Inv.touch {g g' : Gh} {s s' : AState} {w w' : World} {id : Nat} (h : Inv g s w) (hev : Ev (fun i => i = id) g w g' w') (hn : s'.next = g'.next) (hb : s'.base.lo ≤ s'.next)
    (hother : ∀ i o, i ≠ id → s'.obj i = some o → s.obj i = some o) (hid : ∀ o, s'.obj id = some o → id < g'.next ∧ ObjOk g' w' id o) : Inv g' s' w' := by
  refine ⟨hn, hb, fun i o ho => ?_⟩
  by_cases e : i = id
  · subst e; exact hid o ho
  · obtain ⟨h1, h2⟩ := h.obj i o (hother i o e ho)
    exact ⟨Nat.lt_of_lt_of_le h1 hev.next, h2.ev hev h1 e⟩

theorem Ev.none_touch {T : Nat → Prop} {g g' : Gh} {w w' : World} (h : Ev (fun _ => False) g w g' w') : Ev T g w g' w' := h.mono (fun _ h => h.elim)

theorem TOk.new {T : Nat → Prop} {g : Gh} {s : AState} {w : World} (ht : TOk T s) (hi : Inv g s w) (o : AObj) : TOk T (s.new o) := by
  refine ⟨ht.1, fun id o' ho => ?_⟩
  simp only [AState.new] at ho
  split at ho
  · rename_i e; subst e; exact ht.1 _ hi.base
  · exact ht.2 _ _ ho

theorem TOk.set {T : Nat → Prop} {s : AState} {id : Nat} {o1 : AObj} (ht : TOk T s) (h1 : s.obj id = some o1) (o : AObj) : TOk T (s.set id o) := by
  refine ⟨ht.1, fun i o' ho => ?_⟩
  simp only [AState.set] at ho
  split at ho
  · rename_i e; subst e; exact ht.2 _ _ h1
  · exact ht.2 _ _ ho

/-- The ghost with one thing more, in the newest block. -/
def Gh.own (g : Gh) (b : Nat) : Gh :=
  { g with next := g.next + 1, blk := fun i => if i = g.next then b else g.blk i, perm := fun k => if k = b then .own g.next else g.perm k, rhas := fun i => if i = g.next then false else g.rhas i }

theorem step_new {g : Gh} {s : AState} {w : World} (hi : Inv g s w) (vs : Array Value) (elem : TypeId) (cs : List AV) (hs : vs.size = cs.length)
    (hr : ∀ i, i < cs.length → R g w (vs.getD i undef) (cs.getD i AV.un) ∧ (cs.getD i AV.un).one = true) :
    Ev (fun _ => False) g w (g.own w.heap.size) (w.alloc (.cells vs elem)) ∧ Inv (g.own w.heap.size) (s.new (.cells cs)) (w.alloc (.cells vs elem)) ∧
      R (g.own w.heap.size) (w.alloc (.cells vs elem)) (.pointer (some ⟨w.heap.size, 0, none⟩)) (.ptr s.next 0) := by
  have hev : Ev (fun _ => False) g w (g.own w.heap.size) (w.alloc (.cells vs elem)) :=
    Ev.alloc (by simp [Gh.own]) (fun id h => by simp [Gh.own]; omega) (fun b h => by simp [Gh.own]; omega) (fun id h => by simp [Gh.own]; omega) (fun id h1 h2 => by simp [Gh.own] at h2 ⊢; omega)
  refine ⟨hev, Inv.touch (id := g.next) hi hev.none_touch (by simp [Gh.own, AState.new, hi.next]) (by simp [AState.new]; have := hi.base; omega) ?_ ?_, ?_⟩
  · intro i o hne ho
    simp only [AState.new, hi.next, hne, if_false] at ho
    exact ho
  · intro o ho
    simp only [AState.new, hi.next, if_true] at ho
    cases ho
    refine ⟨by simp [Gh.own], by simp [Gh.own], vs, elem, ⟨_, by simp only [Gh.own, if_true]; exact heap_alloc_new w _, .inl rfl⟩, hs, fun i hlt => ⟨(hr i hlt).1.ev hev, (hr i hlt).2⟩⟩
  · exact .ptr (by simp [Gh.own, hi.next]) (by simp [Gh.own, hi.next])

/-- The ghost with the newest block read alone. -/
def Gh.shut (g : Gh) (b : Nat) : Gh := { g with perm := fun k => if k = b then .ro else g.perm k }

theorem step_seal {g : Gh} {s : AState} {w : World} (hi : Inv g s w) (o : Obj) :
    Ev (fun _ => False) g w (g.shut w.heap.size) (w.alloc o) ∧ Inv (g.shut w.heap.size) s (w.alloc o) := by
  have hev : Ev (fun _ => False) g w (g.shut w.heap.size) (w.alloc o) :=
    Ev.alloc (by simp [Gh.shut]) (fun id h => by simp [Gh.shut]) (fun b h => by simp [Gh.shut]; omega) (fun id h => by simp [Gh.shut]) (fun id h1 h2 => by simp [Gh.shut] at h2; omega)
  refine ⟨hev, Inv.touch (id := g.next) hi hev.none_touch (by simp [Gh.shut, hi.next]) hi.base (fun i o _ ho => ho) (fun o ho => ?_)⟩
  have := (hi.obj _ _ ho).1
  omega

/-- A draw. -/
theorem Ev.drew {T : Nat → Prop} (g : Gh) (w : World) : Ev T g w g w.drew :=
  { Ev.refl T g w with
    os := rfl, tape := rfl, output := rfl, drawn := Nat.le_succ _, size := Nat.le_refl _, ro := fun _ _ h => ⟨h, rfl⟩, row := fun _ _ p _ h => ⟨.inr ⟨p, Nat.le_refl _, h⟩, fun _ _ => rfl⟩,
    own := fun _ _ _ h _ => ⟨h, rfl⟩, fix := fun _ _ _ _ h _ => ⟨h, rfl⟩ }

theorem ObjOk.drew {g : Gh} {w : World} {id : Nat} {o : AObj} (h : ObjOk g w id o) : ObjOk g w.drew id o := by
  cases o with
  | cells cs =>
    obtain ⟨h1, vs, elem, h2, h3, h4⟩ := h
    exact ⟨h1, vs, elem, h2, h3, fun i hi => ⟨(h4 i hi).1.ev (Ev.drew (T := fun _ => False) g w), (h4 i hi).2⟩⟩
  | row e => exact h
  | _ => obtain ⟨h1, x, h2, h3⟩ := h; exact ⟨h1, x, h2, h3.ev (Ev.drew (T := fun _ => False) g w)⟩

theorem Inv.drew {g : Gh} {s : AState} {w : World} (h : Inv g s w) : Inv g s w.drew := ⟨h.next, h.base, fun id o ho => ⟨(h.obj id o ho).1, (h.obj id o ho).2.drew⟩⟩

/-- A store into a block of one's own. -/
theorem Ev.setRow {g : Gh} {w : World} {id b : Nat} (hp : g.perm b = .own id) (cs : Array Value) : Ev (fun i => i = id) g w g (w.setRow b cs) where
  os := rfl
  tape := rfl
  output := rfl
  drawn := Nat.le_refl _
  size := by simp
  next := Nat.le_refl _
  blk _ _ := rfl
  ro b' _ h := ⟨h, setRow_other w b b' cs (fun e => by subst e; rw [h] at hp; cases hp)⟩
  row b' id' p _ h := ⟨.inr ⟨p, Nat.le_refl _, h⟩, fun o _ => World.cell?_of_block (w := w) (a := ⟨b', o, none⟩) (setRow_other w b b' cs (fun e => by subst e; rw [h] at hp; cases hp))⟩
  own b' id' _ h hne := ⟨h, setRow_other w b b' cs (fun e => by subst e; rw [h] at hp; cases hp; exact hne rfl)⟩
  fix b' id' p _ h _ := ⟨h, setRow_other w b b' cs (fun e => by subst e; rw [h] at hp; cases hp)⟩
  stamp _ _ := ⟨Nat.le_refl _, fun _ => ⟨rfl, rfl, rfl, rfl⟩⟩
  still _ _ _ := rfl
  rb _ hi hh := .inl ⟨hi, hh, rfl⟩

theorem getD_append_left {α : Type} {a b : List α} {i : Nat} {d : α} (h : i < a.length) : (a ++ b).getD i d = a.getD i d := by
  simp only [List.getD_eq_getElem?_getD, List.getElem?_append_left h]
theorem getD_append_right {α : Type} {a b : List α} {i : Nat} {d : α} (h : a.length ≤ i) : (a ++ b).getD i d = b.getD (i - a.length) d := by
  simp only [List.getD_eq_getElem?_getD, List.getElem?_append_right h]
theorem getD_take {α : Type} {a : List α} {n i : Nat} {d : α} (h : i < n) : (a.take n).getD i d = a.getD i d := by
  simp only [List.getD_eq_getElem?_getD, List.getElem?_take, h, if_true]
theorem getD_drop {α : Type} {a : List α} {n i : Nat} {d : α} : (a.drop n).getD i d = a.getD (n + i) d := by
  simp only [List.getD_eq_getElem?_getD, List.getElem?_drop]
theorem getD_toArray (l : List Value) (i : Nat) (d : Value) : l.toArray.getD i d = l.getD i d := by
  simp [Array.getD_eq_getD_getElem?, List.getD_eq_getElem?_getD]
theorem getD_toList (a : Array Value) (i : Nat) (d : Value) : a.getD i d = a.toList.getD i d := by
  simp [Array.getD_eq_getD_getElem?, List.getD_eq_getElem?_getD]

/-- Two lists of cells, one by one: values and what they are read as. -/
def RC (g : Gh) (w : World) (vs : List Value) (cs : List AV) : Prop := vs.length = cs.length ∧ ∀ i, i < cs.length → R g w (vs.getD i undef) (cs.getD i AV.un) ∧ (cs.getD i AV.un).one = true

theorem RC.ev {T : Nat → Prop} {g g' : Gh} {w w' : World} {vs : List Value} {cs : List AV} (h : RC g w vs cs) (hev : Ev T g w g' w') : RC g' w' vs cs :=
  ⟨h.1, fun i hi => ⟨(h.2 i hi).1.ev hev, (h.2 i hi).2⟩⟩

theorem RC.oneCell {g : Gh} {w : World} {vs : List Value} {cs : List AV} (h : RC g w vs cs) : ∀ v ∈ vs, v.oneCell' = true := by
  intro v hv
  obtain ⟨i, hi, e⟩ := mem_getD (d := undef) hv
  have := h.2 i (by rw [← h.1]; exact hi)
  rw [e] at this
  exact this.1.oneCell this.2

theorem RC.append {g : Gh} {w : World} {vs vs' : List Value} {cs cs' : List AV} (h : RC g w vs cs) (h' : RC g w vs' cs') : RC g w (vs ++ vs') (cs ++ cs') := by
  refine ⟨by simp [h.1, h'.1], fun i hi => ?_⟩
  by_cases hlt : i < cs.length
  · rw [getD_append_left (by rw [h.1]; exact hlt), getD_append_left hlt]; exact h.2 i hlt
  · rw [getD_append_right (by rw [h.1]; omega), getD_append_right (by omega), h.1]
    exact h'.2 _ (by simp at hi; omega)

theorem RC.take {g : Gh} {w : World} {vs : List Value} {cs : List AV} (h : RC g w vs cs) (n : Nat) : RC g w (vs.take n) (cs.take n) := by
  refine ⟨by simp [h.1], fun i hi => ?_⟩
  have hi : i < min n cs.length := by simpa using hi
  rw [getD_take (by omega), getD_take (by omega)]; exact h.2 i (by omega)

theorem RC.drop {g : Gh} {w : World} {vs : List Value} {cs : List AV} (h : RC g w vs cs) (n : Nat) : RC g w (vs.drop n) (cs.drop n) := by
  refine ⟨by simp [h.1], fun i hi => ?_⟩
  simp at hi
  rw [getD_drop, getD_drop]; exact h.2 _ (by omega)

theorem RC.splice {g : Gh} {w : World} {vs new : List Value} {cs cnew : List AV} (h : RC g w vs cs) (hn : RC g w new cnew) (off : Nat) : RC g w (vs.take off ++ new ++ vs.drop (off + new.length)) (spliceL cs off cnew) := by
  rw [hn.1]
  exact ((h.take off).append hn).append (h.drop _)

/-- The cells of a value, and what they are read as. -/
theorem R.cells {g : Gh} {w : World} {x : Value} {d : AV} (h : R g w x d) (h1 : d.cells.all AV.one = true) : RC g w x.cells.toList d.cells := by
  cases h with
  | agg hs hr h1' => exact ⟨by simpa [Value.cells, AV.cells] using hs, fun i hi => ⟨by have := hr i hi; rw [getD_toList] at this; exact this, h1' i hi⟩⟩
  | tup hs hr => simp [AV.cells, AV.one] at h1
  | any => simp [AV.cells, AV.one] at h1
  | v hf =>
    refine ⟨by cases x <;> simp_all [flat, Value.cells, AV.cells], fun i hi => ?_⟩
    simp [AV.cells] at hi
    subst hi
    refine ⟨?_, by simpa [AV.cells] using h1⟩
    have : x.cells.toList = [x] := by cases x <;> simp_all [flat, Value.cells]
    rw [this]; exact .v hf
  | slnil he hk => exact ⟨rfl, fun i hi => by simp [AV.cells] at hi; subst hi; exact ⟨.slnil he hk, rfl⟩⟩
  | sl vs a1 a2 a3 a4 a5 a6 a7 a8 a9 a10 a11 => exact ⟨rfl, fun i hi => by simp [AV.cells] at hi; subst hi; exact ⟨.sl vs a1 a2 a3 a4 a5 a6 a7 a8 a9 a10 a11, rfl⟩⟩
  | ms a1 a2 a3 a4 a5 a6 => exact ⟨rfl, fun i hi => by simp [AV.cells] at hi; subst hi; exact ⟨.ms a1 a2 a3 a4 a5 a6, rfl⟩⟩
  | ep vs a1 a2 a3 a4 a5 => exact ⟨rfl, fun i hi => by simp [AV.cells] at hi; subst hi; exact ⟨.ep vs a1 a2 a3 a4 a5, rfl⟩⟩
  | ptr a b => exact ⟨rfl, fun i hi => by simp [AV.cells] at hi; subst hi; exact ⟨.ptr a b, rfl⟩⟩
  | mp a b => exact ⟨rfl, fun i hi => by simp [AV.cells] at hi; subst hi; exact ⟨.mp a b, rfl⟩⟩
  | fn a b c d => exact ⟨rfl, fun i hi => by simp [AV.cells] at hi; subst hi; exact ⟨.fn a b c d, rfl⟩⟩
  | yl a b => exact ⟨rfl, fun i hi => by simp [AV.cells] at hi; subst hi; exact ⟨.yl a b, rfl⟩⟩
  | ifc a => exact ⟨rfl, fun i hi => by simp [AV.cells] at hi; subst hi; exact ⟨.ifc a, rfl⟩⟩

end Go.Av

/- Rows: slices read as lists, their cells one behind the other; a row that grows. -/
namespace Go.Av
open Go
set_option linter.unusedVariables false
set_option linter.unusedSimpArgs false

/-- All of one length. -/
def Uni {α : Type} (es : Nat) (l : List (List α)) : Prop := ∀ x ∈ l, x.length = es

theorem Uni.flatten_length {α : Type} {es : Nat} {l : List (List α)} (h : Uni es l) : l.flatten.length = l.length * es := by
  induction l with
  | nil => simp
  | cons x r ih =>
    have h1 := h x (by simp)
    have h2 := ih (fun y hy => h y (by simp [hy]))
    simp only [List.flatten_cons, List.length_append, List.length_cons, h1, h2, Nat.add_mul]
    omega

theorem Uni.getD {α : Type} {es : Nat} {l : List (List α)} (h : Uni es l) {i j : Nat} {d : α} (hi : i < l.length) (hj : j < es) : l.flatten.getD (i * es + j) d = (l.getD i []).getD j d := by
  induction l generalizing i with
  | nil => simp at hi
  | cons x r ih =>
    have h1 := h x (by simp)
    cases i with
    | zero =>
      simp only [Nat.zero_mul, Nat.zero_add, List.flatten_cons]
      rw [getD_append_left (by omega)]
      simp
    | succ i =>
      simp only [List.flatten_cons]
      rw [getD_append_right (by rw [h1, Nat.add_mul]; omega), h1, show (i + 1) * es + j - es = i * es + j by rw [Nat.add_mul]; omega,
        ih (fun y hy => h y (by simp [hy])) (by simpa using hi)]
      simp

theorem uni_of {α : Type} {es : Nat} {l : List (List α)} (h : ∀ i, i < l.length → (l.getD i []).length = es) : Uni es l := by
  intro x hx
  obtain ⟨i, hi, e⟩ := mem_getD (d := []) hx
  rw [← e]; exact h i hi

theorem Uni.at {α : Type} {es : Nat} {l : List (List α)} (h : Uni es l) {i : Nat} (hi : i < l.length) : (l.getD i []).length = es := h _ (getD_mem hi)

/-- A number below n * es, parted. -/
theorem part_idx {k n es : Nat} (hk : k < n * es) : k / es < n ∧ k % es < es ∧ k = (k / es) * es + k % es := by
  have he : 0 < es := by
    rcases Nat.eq_zero_or_pos es with h | h
    · subst h; simp at hk
    · exact h
  refine ⟨(Nat.div_lt_iff_lt_mul he).2 hk, Nat.mod_lt _ he, ?_⟩
  have := Nat.div_add_mod k es
  rw [Nat.mul_comm] at this
  omega

/-- The cells behind a slice. -/
theorem R.row {g : Gh} {w : World} {x : Value} {es : Nat} {l : List (List AV)} {k : Tok} (h : R g w x (.sl es l k)) :
    0 < es ∧ Uni es l ∧ ((x = .slice none 0 0 ∧ l = []) ∨ ∃ a cap vs, x = .slice (some a) l.length cap ∧ a.spot = none ∧ l.length ≤ cap ∧ RC g w vs l.flatten ∧
      (∀ j v, vs[j]? = some v → w.cell? ⟨a.block, a.off + j, none⟩ = some v) ∧ a.block < w.heap.size ∧ Ext g a.block (a.off + l.length * es) ∧ TokOk g a l.length cap es k) := by
  cases h with
  | slnil he hk => exact ⟨he, fun _ h => by simp at h, .inl ⟨rfl, rfl⟩⟩
  | @sl a len cap _ _ _ vs hsp hl hc he hes hcell hr h1 hb hx hk =>
    subst hl
    have hu : Uni es l := uni_of hes
    have hfl := hu.flatten_length
    refine ⟨he, hu, .inr ⟨a, cap, (List.range (l.length * es)).map (fun k => vs (k / es) (k % es)), rfl, hsp, hc, ⟨by simp [hfl], fun i hi => ?_⟩, fun j v hj => ?_, hb, hx, hk⟩⟩
    · rw [hfl] at hi
      obtain ⟨p1, p2, p3⟩ := part_idx hi
      have e1 : ((List.range (l.length * es)).map (fun k => vs (k / es) (k % es))).getD i undef = vs (i / es) (i % es) := by
        simp [List.getD_eq_getElem?_getD, hi]
      rw [e1]
      have e2 : l.flatten.getD i AV.un = (l.getD (i / es) []).getD (i % es) AV.un := by
        conv => lhs; rw [p3]
        exact hu.getD p1 p2
      rw [e2]
      exact ⟨hr _ _ p1 p2, h1 _ _ p1 p2⟩
    · have hlt : j < l.length * es := by
        obtain ⟨h, _⟩ := List.getElem?_eq_some_iff.1 hj
        simpa using h
      obtain ⟨p1, p2, p3⟩ := part_idx hlt
      have := hcell _ _ p1 p2
      rw [← p3] at this
      rw [this]
      simp [hlt] at hj
      rw [hj]

/-- A slice, out of the cells behind it. -/
theorem R.mk_row {g : Gh} {w : World} {b off cap es : Nat} {l : List (List AV)} {k : Tok} {vs : List Value} (he : 0 < es) (hu : Uni es l) (hc : l.length ≤ cap) (hv : RC g w vs l.flatten)
    (hcell : ∀ j v, vs[j]? = some v → w.cell? ⟨b, off + j, none⟩ = some v) (hb : b < w.heap.size) (hx : Ext g b (off + l.length * es))
    (hk : TokOk g ⟨b, off, none⟩ l.length cap es k) : R g w (.slice (some ⟨b, off, none⟩) l.length cap) (.sl es l k) := by
  have hfl := hu.flatten_length
  refine .sl (fun i j => vs.getD (i * es + j) undef) rfl rfl hc he (fun i hi => hu.at hi) (fun i j hi hj => ?_) (fun i j hi hj => ?_) (fun i j hi hj => ?_) hb hx hk
  · have hlt : i * es + j < vs.length := by rw [hv.1, hfl]; exact idx_lt hi hj
    exact hcell _ _ (by rw [List.getD_eq_getElem?_getD, List.getElem?_eq_getElem hlt]; rfl)
  · have := (hv.2 (i * es + j) (by rw [hfl]; exact idx_lt hi hj)).1
    rwa [hu.getD hi hj] at this
  · have := (hv.2 (i * es + j) (by rw [hfl]; exact idx_lt hi hj)).2
    rwa [hu.getD hi hj] at this

/-- The ghost behind a row that was laid anew. -/
def Gh.rowNew (g : Gh) (id b e sz st : Nat) : Gh :=
  { g with
    next := if id = g.next then g.next + 1 else g.next
    perm := fun k => if k = b then .row id e else g.perm k
    stamp := fun i => if i = id then st else g.stamp i
    rblk := fun i => if i = id then b else g.rblk i
    rend := fun i => if i = id then e else g.rend i
    rsize := fun i => if i = id then sz else g.rsize i
    rhas := fun i => if i = id then true else g.rhas i }

def AState.rowSet (s : AState) (id st : Nat) : AState :=
  { s with obj := fun i => if i = id then some (.row st) else s.obj i, next := if id = s.next then s.next + 1 else s.next }

theorem rowSet_new (s : AState) (st : Nat) : s.rowSet s.next st = s.new (.row st) := by simp [AState.rowSet, AState.new]
theorem rowSet_set {s : AState} {id st : Nat} (h : id ≠ s.next) : s.rowSet id st = s.set id (.row st) := by simp [AState.rowSet, AState.set, h]

theorem step_rowNew {g : Gh} {s : AState} {w : World} {id st : Nat} (hi : Inv g s w) (hid : id = g.next ∨ (id < g.next ∧ g.stamp id < st)) (vs : Array Value) (elem : TypeId) (e : Nat) (he : e ≤ vs.size) :
    Ev (fun i => i = id) g w (g.rowNew id w.heap.size e vs.size st) (w.alloc (.cells vs elem)) ∧ Inv (g.rowNew id w.heap.size e vs.size st) (s.rowSet id st) (w.alloc (.cells vs elem)) := by
  have hle : id ≤ g.next := by omega
  have hev : Ev (fun i => i = id) g w (g.rowNew id w.heap.size e vs.size st) (w.alloc (.cells vs elem)) :=
    { os := rfl, tape := rfl, output := rfl, drawn := Nat.le_refl _, size := by simp
      next := by simp only [Gh.rowNew]; split <;> omega
      blk := fun _ _ => rfl
      ro := fun b hb hp => ⟨by simp only [Gh.rowNew]; rw [if_neg (by omega)]; exact hp, heap_alloc_old w _ b hb⟩
      row := fun b i p hb hp => ⟨.inr ⟨p, Nat.le_refl _, by simp only [Gh.rowNew]; rw [if_neg (by omega)]; exact hp⟩, fun o _ => World.cell?_of_block (w := w) (a := ⟨b, o, none⟩) (heap_alloc_old w _ b hb)⟩
      own := fun b i hb hp _ => ⟨by simp only [Gh.rowNew]; rw [if_neg (by omega)]; exact hp, heap_alloc_old w _ b hb⟩
      fix := fun b i p hb hp _ => ⟨by simp only [Gh.rowNew]; rw [if_neg (by omega)]; exact hp, heap_alloc_old w _ b hb⟩
      stamp := fun i hlt => by
        by_cases h : i = id
        · subst h
          rcases hid with h | ⟨_, h⟩
          · omega
          · exact ⟨by simp only [Gh.rowNew, if_true]; omega, fun h' => by simp only [Gh.rowNew, if_true] at h'; omega⟩
        · exact ⟨by simp [Gh.rowNew, h], fun _ => by simp [Gh.rowNew, h]⟩
      still := fun i _ hne => by simp [Gh.rowNew, hne]
      rb := fun i hi' hh => by
        by_cases h : i = id
        · subst h; exact .inr (by simp [Gh.rowNew])
        · simp only [Gh.rowNew, h, if_false] at hh hi' ⊢
          refine .inl ⟨?_, hh, (by first | trivial | rfl)⟩
          split at hi' <;> omega }
  refine ⟨hev, Inv.touch (id := id) hi hev (by simp only [AState.rowSet, Gh.rowNew, hi.next]) (by simp only [AState.rowSet]; have := hi.base; split <;> omega) ?_ ?_⟩
  · intro i o hne ho
    simp only [AState.rowSet, hne, if_false] at ho
    exact ho
  · intro o ho
    simp only [AState.rowSet, if_true] at ho
    cases ho
    refine ⟨by simp only [Gh.rowNew]; split <;> omega, by simp [Gh.rowNew], fun _ => ⟨by simp [Gh.rowNew], by simpa [Gh.rowNew] using he, vs, elem, ?_, by simp [Gh.rowNew]⟩⟩
    simp only [Gh.rowNew, if_true]; exact heap_alloc_new w _

/-- The ghost behind a row that grew in place. -/
def Gh.rowExt (g : Gh) (id n st : Nat) : Gh :=
  { g with
    perm := fun k => if k = g.rblk id then .row id (g.rend id + n) else g.perm k
    stamp := fun i => if i = id then st else g.stamp i
    rend := fun i => if i = id then g.rend id + n else g.rend i }

theorem cell_of_get {w : World} {b o : Nat} {vs : Array Value} {e : TypeId} {fr : Nat × Nat} (h : w.heap[b]? = some (.cells vs e fr)) : w.cell? ⟨b, o, none⟩ = vs[o]? := by
  simp [World.cell?, h]

theorem step_rowExt {g : Gh} {s : AState} {w : World} {id n0 k : Nat} (hi : Inv g s w) (ho : s.obj id = some (.row n0)) (hh : g.rhas id = true) (vs : Array Value) (elem : TypeId)
    (hg : w.heap[g.rblk id]? = some (.cells vs elem (0, 0))) (new : List Value) (hn : g.rend id + new.length ≤ g.rsize id) (hsz : vs.size = g.rsize id) (hk : k = 0 → new = []) :
    let w' := w.setRow (g.rblk id) (vs.toList.take (g.rend id) ++ new ++ vs.toList.drop (g.rend id + new.length)).toArray
    Ev (fun i => i = id) g w (g.rowExt id new.length (n0 + k)) w' ∧ Inv (g.rowExt id new.length (n0 + k)) (s.set id (.row (n0 + k))) w' := by
  intro w'
  obtain ⟨hlt, hok⟩ := hi.obj _ _ ho
  obtain ⟨hst, hok⟩ := hok
  obtain ⟨hp, hle, vs', elem', hg', hs'⟩ := hok hh
  have hsize : (vs.toList.take (g.rend id) ++ new ++ vs.toList.drop (g.rend id + new.length)).length = g.rsize id := by
    simp only [List.length_append, List.length_take, List.length_drop, Array.length_toList]; omega
  have hself : w'.heap[g.rblk id]? = some (.cells (vs.toList.take (g.rend id) ++ new ++ vs.toList.drop (g.rend id + new.length)).toArray elem (0, 0)) := setRow_heap w _ _ _ _ _ hg
  have hother : ∀ b, b ≠ g.rblk id → w'.heap[b]? = w.heap[b]? := fun b hb => setRow_other w _ b _ hb
  have hev : Ev (fun i => i = id) g w (g.rowExt id new.length (n0 + k)) w' :=
    { os := rfl, tape := rfl, output := rfl, drawn := Nat.le_refl _, size := by simp [w'], next := Nat.le_refl _, blk := fun _ _ => rfl
      ro := fun b _ h => by
        have hne : b ≠ g.rblk id := fun e => by subst e; rw [h] at hp; cases hp
        exact ⟨by simp only [Gh.rowExt, hne, if_false]; exact h, hother b hne⟩
      row := fun b i p _ h => by
        by_cases hne : b = g.rblk id
        · subst hne
          rw [h] at hp
          cases hp
          refine ⟨.inr ⟨g.rend id + new.length, by omega, by simp [Gh.rowExt]⟩, fun o hlt' => ?_⟩
          rw [cell_of_get hself, cell_of_get hg]
          simp only [List.getElem?_toArray, List.append_assoc]
          rw [List.getElem?_append_left (by simp; omega), List.getElem?_take, if_pos hlt']
          simp
        · exact ⟨.inr ⟨p, Nat.le_refl _, by simp only [Gh.rowExt, hne, if_false]; exact h⟩, fun o _ => World.cell?_of_block (w := w) (a := ⟨b, o, none⟩) (hother b hne)⟩
      own := fun b i _ h _ => by
        have hne : b ≠ g.rblk id := fun e => by subst e; rw [h] at hp; cases hp
        exact ⟨by simp only [Gh.rowExt, hne, if_false]; exact h, hother b hne⟩
      fix := fun b i p _ h hni => by
        have hne : b ≠ g.rblk id := fun e => by subst e; rw [h] at hp; cases hp; exact hni rfl
        exact ⟨by simp only [Gh.rowExt, hne, if_false]; exact h, hother b hne⟩
      stamp := fun i _ => by
        by_cases h : i = id
        · subst h
          refine ⟨by simp only [Gh.rowExt, if_true]; omega, fun h' => ?_⟩
          simp only [Gh.rowExt, if_true] at h'
          have : new = [] := hk (by omega)
          subst this
          simp [Gh.rowExt]
        · exact ⟨by simp [Gh.rowExt, h], fun _ => by simp [Gh.rowExt, h]⟩
      still := fun i _ hne => by simp [Gh.rowExt, hne]
      rb := fun i hi' hh' => .inl ⟨hi', hh', rfl⟩ }
  refine ⟨hev, Inv.touch (id := id) hi hev (by simp [AState.set, Gh.rowExt, hi.next]) hi.base ?_ ?_⟩
  · intro i o hne ho'
    simp only [AState.set, hne, if_false] at ho'
    exact ho'
  · intro o ho'
    simp only [AState.set, if_true] at ho'
    cases ho'
    refine ⟨hlt, by simp [Gh.rowExt], fun _ => ⟨by simp [Gh.rowExt], by simpa [Gh.rowExt] using hn, _, elem, hself, ?_⟩⟩
    simp only [Gh.rowExt, List.size_toArray]; exact hsize

end Go.Av

/- What append comes to. -/
namespace Go.Av
open Go
set_option linter.unusedVariables false
set_option linter.unusedSimpArgs false

/-- How an operation ends that hands back a value. -/
def YV (T : Nat → Prop) (g : Gh) (s : AState) (w : World) (r : Result Value) (k : AV → AState → Prop) : Prop :=
  ∃ v w' d s' g', r = .ok v w' ∧ R g' w' v d ∧ Inv g' s' w' ∧ Ev T g w g' w' ∧ TOk T s' ∧ s'.base = s.base ∧ k d s'

theorem YV.pure {T : Nat → Prop} {g : Gh} {s : AState} {w : World} {r : Result Value} {k : AV → AState → Prop} {v : Value} {d : AV} (hi : Inv g s w) (ht : TOk T s)
    (hr : r = .ok v w) (hR : R g w v d) (hk : k d s) : YV T g s w r k := ⟨v, w, d, s, g, hr, hR, hi, Ev.refl T g w, ht, rfl, hk⟩

theorem tyI_some {P : Program} {t : TypeId} {i : TyI} (h : tyI P t = some i) : ∃ j : TypeInfo, P.info? t = some j ∧ j.size = i.size ∧ j.bytes = i.bytes ∧
    ∀ z, i.zero = some z → ∃ v, j.zero = some v ∧ v.cells.size = i.size ∧ ofVal v = some z := by
  unfold tyI at h
  cases hj : P.info? t with
  | none => rw [hj] at h; cases h
  | some j =>
    rw [hj] at h
    simp only [Option.map_some, Option.some.injEq] at h
    subst h
    refine ⟨j, rfl, rfl, rfl, fun z hz => ?_⟩
    simp only at hz ⊢
    cases hv : j.zero with
    | none => rw [hv] at hz; cases hz
    | some v =>
      rw [hv] at hz
      simp only [Option.bind_some] at hz
      split at hz
      · rename_i e; exact ⟨v, rfl, e, hz⟩
      · cases hz

theorem RC_nil (g : Gh) (w : World) : RC g w [] [] := ⟨rfl, fun i h => by simp at h⟩

theorem byteCells_flatten (s : ByteArray) : (byteCells s).flatten = s.data.toList.map fun b => AV.v (.int .u8 b.toNat) := by
  unfold byteCells
  induction s.data.toList with
  | nil => rfl
  | cons b r ih => simpa using ih

theorem byteCells_uni (s : ByteArray) : Uni 1 (byteCells s) := by
  intro x hx
  simp only [byteCells, List.mem_map] at hx
  obtain ⟨b, _, rfl⟩ := hx
  rfl

theorem byteCells_length (s : ByteArray) : (byteCells s).length = s.size := by
  simp only [byteCells, List.length_map]
  rfl

/-- The source of an append. -/
theorem rows_run {P : Program} {g : Gh} {w : World} {y : Value} {b : AV} {es : Nat} {l : List (List AV)} (he : 0 < es) (h : rowsOf es b = some l) (hb : R g w y b) :
    ∃ vs : List Value, RC g w vs l.flatten ∧ Uni es l ∧ (Builtin.lenOf y).run P w = .ok l.length w ∧ (∀ w', (∀ a v, w.cell? a = some v → w'.cell? a = some v) → (Builtin.firstCells es l.length y).run P w' = .ok vs.toArray w') := by
  cases b with
  | sl es' l' tok =>
    simp only [rowsOf] at h
    split at h
    · rename_i e
      cases h
      subst e
      obtain ⟨_, hu, h⟩ := hb.row
      rcases h with ⟨rfl, rfl⟩ | ⟨a, cap, vs, rfl, hsp, hc, hv, hcell, hbl, hx, hk⟩
      · exact ⟨[], RC_nil g w, hu, rfl, fun w' _ => by simp [Builtin.firstCells]⟩
      · refine ⟨vs, hv, hu, rfl, fun w' hw => run_firstCells_some (P := P) w' es' l.length a l.length cap vs (by rw [hv.1, hu.flatten_length]) (fun j v hj => hw _ _ ?_)⟩
        have := hcell j v hj
        obtain ⟨ab, ao, asp⟩ := a
        simp only at hsp
        subst hsp
        rw [Addr.add_lit]
        exact this
    · cases h
  | v x =>
    cases hb with
    | v hf =>
      cases y <;> simp only [rowsOf] at h <;> try (cases h)
      case string s =>
        split at h
        · rename_i e
          cases h
          subst e
          refine ⟨s.data.toList.map fun b => .int .u8 b.toNat, ?_, byteCells_uni s, by simp [Builtin.lenOf, byteCells_length], fun w' _ => ?_⟩
          · rw [byteCells_flatten]
            refine ⟨by simp, fun i hi => ?_⟩
            simp only [List.length_map] at hi
            simp only [List.getD_eq_getElem?_getD, List.getElem?_map, List.getElem?_eq_getElem hi, Option.map_some, Option.getD_some]
            exact ⟨.v rfl, rfl⟩
          · rw [byteCells_length]
            simp only [Builtin.firstCells, Sem.run_pure]
            have : s.extract 0 s.size = s := by simp
            rw [this]
            congr 1
            apply Array.ext'
            simp
        · cases h
      case slice a n c =>
        cases a with
        | none =>
          simp only [flat, Option.isNone_none, Bool.true_and, Bool.and_eq_true, beq_iff_eq] at hf
          obtain ⟨rfl, rfl⟩ := hf
          cases h
          exact ⟨[], RC_nil g w, fun _ h => by simp at h, rfl, fun w' _ => by simp [Builtin.firstCells]⟩
        | some a => simp [flat] at hf
  | _ => simp [rowsOf] at h

theorem drew_cells (w : World) : ∀ a v, w.cell? a = some v → w.drew.cell? a = some v := fun _ _ h => h

theorem rowSet_tok {T : Nat → Prop} {g : Gh} {s : AState} {w : World} {id st : Nat} (ht : TOk T s) (hi : Inv g s w) (hid : id = s.next ∨ ∃ o, s.obj id = some o) : TOk T (s.rowSet id st) := by
  refine ⟨ht.1, fun i o ho => ?_⟩
  simp only [AState.rowSet] at ho
  split at ho
  · rename_i e
    subst e
    rcases hid with rfl | ⟨o', ho'⟩
    · exact ht.1 _ hi.base
    · exact ht.2 _ _ ho'
  · exact ht.2 _ _ ho

/-- A new array: the old cells, the new ones, zeros. -/
theorem append_grow {P : Program} {T : Nat → Prop} {g : Gh} {s : AState} {w : World} {k : AV → AState → Prop} {t t1 ty e : TypeId} {d1 : TypeDesc} {i : TyI} {y : Value} {b : AV}
    (hi : Inv g s w) (ht : TOk T s) (hu : P.underlying t = some (.slice e)) (hd : P.underlying t1 = some d1) (hd1 : ∀ q, d1 ≠ .int q) (hti : tyI P e = some i)
    (hsz : 0 < i.size) (hby : 0 < i.bytes) (hz : i.zero.isSome = true) {l l2 : List (List AV)} (hrows : rowsOf i.size b = some l2) (hb : R g w y b)
    {base : Option Addr} {sCap : Nat} (hul : Uni i.size l) {vo : List Value} (hvo : RC g w vo l.flatten)
    (hold : ∀ w', (∀ a v, w.cell? a = some v → w'.cell? a = some v) → (Builtin.firstCells i.size l.length (.slice base l.length sCap)).run P w' = .ok vo.toArray w')
    (hgrow : sCap < l.length + l2.length) (hroom : (l.length + l2.length) * i.bytes ≤ room) {id st : Nat} (hid : id = s.next ∨ (id < s.next ∧ (∃ o, s.obj id = some o) ∧ g.stamp id < st))
    (hk : k (.sl i.size (l ++ l2) (.row id st)) (s.rowSet id st)) :
    YV T g s w ((Builtin.append_ #[t, t1] ty #[.slice base l.length sCap, y]).run P w) k := by
  obtain ⟨j, hj, hjs, hjb, hjz⟩ := tyI_some hti
  obtain ⟨z, hz⟩ := Option.isSome_iff_exists.1 hz
  obtain ⟨zv, hzv, hzs, _⟩ := hjz z hz
  obtain ⟨vn, hvn, hun, hlen, hfirst⟩ := rows_run (P := P) hsz hrows hb
  have hneed : l.length + l2.length ≤ room := Nat.le_trans (Nat.le_mul_of_pos_right _ hby) hroom
  have hcap2 := nextslicecap_le hgrow
  have hmul : Builtin.nextslicecap (l.length + l2.length) sCap * i.bytes ≤ 2 * room := by
    have h1 : Builtin.nextslicecap (l.length + l2.length) sCap * i.bytes ≤ (2 * (l.length + l2.length)) * i.bytes := Nat.mul_le_mul_right _ hcap2
    rw [Nat.mul_assoc] at h1
    omega
  have hi63 : ¬ ((l.length + l2.length : Nat) : Int) > IntKind.i64.max := by
    have : IntKind.i64.max = 9223372036854775807 := by decide
    rw [this]; simp only [room] at hneed; omega
  obtain ⟨nc, hnc⟩ : ∃ nc, nc = (Question.appendCap (l.length + l2.length) sCap e).cut (w.tape w.drawn (.appendCap (l.length + l2.length) sCap e)) := ⟨_, rfl⟩
  have hge : l.length + l2.length ≤ nc := by rw [hnc]; simp [Question.cut]
  have hm : (match d1 with | .int _ => true | _ => false) = false := by
    cases d1 with
    | int q => exact absurd rfl (hd1 q)
    | _ => rfl
  have hrun : (Builtin.append_ #[t, t1] ty #[.slice base l.length sCap, y]).run P w =
      .ok (.slice (some ⟨w.heap.size, 0, none⟩) (l.length + l2.length) nc) (w.drew.alloc (.cells (vo.toArray ++ vn.toArray ++ Builtin.zeroCells zv.cells (nc - (l.length + l2.length))) e)) := by
    have h1 := hold w.drew (drew_cells w)
    have h2 := hfirst w.drew (drew_cells w)
    have hforced : (Question.appendCap (l.length + l2.length) sCap e).forced = false := rfl
    have hbig : ¬ (Builtin.nextslicecap (l.length + l2.length) sCap * i.bytes > 281474976710656) := by simp only [room] at hmul; omega
    simp only [Builtin.append_, List.getElem?_toArray, List.getElem?_cons_zero, List.getElem?_cons_succ, Sem.run_bind, run_underlying hu, Result.andThen_ok, sizeOf, typeInfo, run_program, hj, Sem.run_pure, run_underlying hd, hm, hlen, Bool.false_eq_true, if_false, hjs, hjb]
    rw [if_neg (by omega)]
    simp only [Sem.run_bind, Sem.run_pure, Result.andThen_ok, Bool.not_false, if_true, zeroValue, typeInfo, run_program, hj, hzv, false_or, hjb, show (2 : Nat) ^ 48 = 281474976710656 from rfl]
    rw [if_neg (fun h => hi63 h.1)]
    simp only [Sem.run_bind, Sem.run_pure, Result.andThen_ok, typeInfo, run_program, hj, hjb]
    rw [if_neg hbig]
    simp only [Sem.run_bind, run_choose, hforced, Bool.false_eq_true, if_false, ← hnc, Result.andThen_ok, run_askRoom, World.drew_eq, h1, h2, newRow, run_newObj, Sem.run_pure, run_program, hj, hzv, World.alloc_eq]
    rfl
  have hi' : Inv g s w.drew := hi.drew
  have hfl := (show Uni i.size (l ++ l2) from fun x hx => by
    rcases List.mem_append.1 hx with h | h
    · exact hul x h
    · exact hun x h)
  have hlen2 := hfl.flatten_length
  rw [List.length_append] at hlen2
  have hsize : (vo.toArray ++ vn.toArray ++ Builtin.zeroCells zv.cells (nc - (l.length + l2.length))).size = nc * i.size := by
    simp only [Array.size_append, List.size_toArray, size_zeroCells, hzs, hvo.1, hvn.1, hul.flatten_length, hun.flatten_length]
    rw [← Nat.add_mul, ← Nat.add_mul]
    congr 1; omega
  have hv0 : RC g w.drew (vo ++ vn) (l ++ l2).flatten := by
    rw [List.flatten_append]
    exact (hvo.append hvn).ev (Ev.drew (T := fun _ => False) g w)
  obtain ⟨hev, hinv⟩ := step_rowNew (id := id) (st := st) hi' (by rw [← hi.next]; rcases hid with h | ⟨h, _, h'⟩; exact .inl h; exact .inr ⟨h, h'⟩)
    (vo.toArray ++ vn.toArray ++ Builtin.zeroCells zv.cells (nc - (l.length + l2.length))) e ((l.length + l2.length) * i.size) (by rw [hsize]; exact Nat.mul_le_mul_right _ hge)
  rw [World.size_drew] at hev hinv
  have hTid : T id := by
    rcases hid with rfl | ⟨_, ⟨o, ho⟩, _⟩
    · exact ht.1 _ hi.base
    · exact ht.2 _ _ ho
  refine ⟨_, _, _, _, _, hrun, ?_, hinv, (Ev.drew g w).trans (hev.mono (fun i h => by subst h; exact hTid)), rowSet_tok ht hi (by rcases hid with h | ⟨_, h, _⟩; exact .inl h; exact .inr h), rfl, hk⟩
  have hrow := R.mk_row (g := g.rowNew id w.heap.size ((l.length + l2.length) * i.size) (vo.toArray ++ vn.toArray ++ Builtin.zeroCells zv.cells (nc - (l.length + l2.length))).size st)
    (w := w.drew.alloc (.cells (vo.toArray ++ vn.toArray ++ Builtin.zeroCells zv.cells (nc - (l.length + l2.length))) e)) (b := w.heap.size) (off := 0) (cap := nc) (l := l ++ l2) (k := .row id st) hsz hfl
    (by rw [List.length_append]; exact hge) (hv0.ev hev) (fun j v hjv => ?_) (by simp) (.inr ⟨id, (l.length + l2.length) * i.size, by simp [Gh.rowNew], by simp⟩)
    ⟨?_, by simp [Gh.rowNew], fun _ => ⟨by simp [Gh.rowNew], by simp [Gh.rowNew], by simp [Gh.rowNew], by simp only [Gh.rowNew, if_true, Nat.zero_add]; exact hsize.symm⟩⟩
  · rw [List.length_append] at hrow
    exact hrow
  · have hg2 : (w.drew.alloc (.cells (vo.toArray ++ vn.toArray ++ Builtin.zeroCells zv.cells (nc - (l.length + l2.length))) e)).heap[w.heap.size]? = some (.cells (vo.toArray ++ vn.toArray ++ Builtin.zeroCells zv.cells (nc - (l.length + l2.length))) e (0, 0)) := heap_alloc_new w.drew _
    rw [cell_of_get hg2, Nat.zero_add, ← hjv]
    have hlt : j < (vo ++ vn).length := (List.getElem?_eq_some_iff.1 hjv).1
    rw [Array.getElem?_append_left (by simpa using hlt)]
    simp
  · simp only [Gh.rowNew]
    rw [hi.next] at hid
    split <;> omega

end Go.Av

/- What append comes to: all its ways. -/
namespace Go.Av
open Go
set_option linter.unusedVariables false
set_option linter.unusedSimpArgs false

theorem run_append_room' {P : Program} {w : World} {t t1 ty e : TypeId} {d1 : TypeDesc} {j : TypeInfo} {y : Value} {n2 : Nat} {vn : List Value}
    (hu : P.underlying t = some (.slice e)) (hd : P.underlying t1 = some d1) (hd1 : ∀ q, d1 ≠ .int q) (hj : P.info? e = some j)
    (hlen : (Builtin.lenOf y).run P w = .ok n2 w) (hfirst : (Builtin.firstCells j.size n2 y).run P w = .ok vn.toArray w) {base : Option Addr} {sLen sCap : Nat} (hroom : sLen + n2 ≤ sCap) :
    (Builtin.append_ #[t, t1] ty #[.slice base sLen sCap, y]).run P w =
      (match base with | some a => (storeCells (a.add (sLen * j.size)) vn).run P w | none => .ok () w).andThen fun _ w' => .ok (.slice base (sLen + n2) sCap) w' := by
  have hm : (match d1 with | .int _ => true | _ => false) = false := by
    cases d1 with
    | int q => exact absurd rfl (hd1 q)
    | _ => rfl
  simp only [Builtin.append_, List.getElem?_toArray, List.getElem?_cons_zero, List.getElem?_cons_succ, Sem.run_bind, run_underlying hu, Result.andThen_ok, sizeOf, typeInfo, run_program, hj, Sem.run_pure, run_underlying hd, hm, hlen, Bool.false_eq_true, if_false]
  rw [if_pos hroom]
  simp only [Sem.run_bind, Bool.not_false, if_true, hfirst, Result.andThen_ok]
  cases base with
  | none => simp
  | some a => simp

theorem R.row_len {g : Gh} {w : World} {x : Value} {es : Nat} {l : List (List AV)} {k : Tok} (h : R g w x (.sl es l k)) : ∃ a cap, x = .slice a l.length cap ∧ l.length ≤ cap := by
  obtain ⟨_, _, h⟩ := h.row
  rcases h with ⟨rfl, rfl⟩ | ⟨a, cap, vs, rfl, _, hc, _⟩
  · exact ⟨none, 0, rfl, Nat.le_refl _⟩
  · exact ⟨some a, cap, rfl, hc⟩

theorem aAppend_sound {P : Program} {T : Nat → Prop} {g : Gh} {s : AState} {w : World} {k : AV → AState → Prop} {t t1 ty : TypeId} {d1 : TypeDesc} {x y : Value} {a b : AV}
    (hi : Inv g s w) (ht : TOk T s) (hd : P.underlying t1 = some d1) (hd1 : ∀ q, d1 ≠ .int q) (ha : R g w x a) (hb : R g w y b) (h : aAppend P t a b s k) :
    YV T g s w ((Builtin.append_ #[t, t1] ty #[x, y]).run P w) k := by
  unfold aAppend at h
  split at h
  case h_2 => exact h.elim
  rename_i e hu
  split at h
  case h_2 => exact h.elim
  rename_i i hti
  obtain ⟨hsz, hby, hz, h⟩ := h
  obtain ⟨l2, hrows, hx0⟩ := opt_elim h
  clear h
  have h := hx0
  clear hx0
  obtain ⟨j, hj, hjs, hjb, hjz⟩ := tyI_some hti
  obtain ⟨vn, hvn, hun, hlen, hfirst⟩ := rows_run (P := P) hsz hrows hb
  have hf0 := hfirst w (fun _ _ h => h)
  -- nothing to append: the value as it is
  have idle : l2 = [] → ∀ {base : Option Addr} {n c : Nat}, x = .slice base n c → n ≤ c → k a s → YV T g s w ((Builtin.append_ #[t, t1] ty #[x, y]).run P w) k := by
    intro he base n c hx hc hk
    subst he
    have hvn0 : vn = [] := List.eq_nil_of_length_eq_zero (by rw [hvn.1]; rfl)
    subst hvn0
    subst hx
    refine YV.pure hi ht ?_ ha hk
    rw [run_append_room' hu hd hd1 hj hlen (by rw [hjs]; exact hf0) (by simpa using hc)]
    cases base <;> simp [storeCells]
  split at h
  · -- nil
    obtain ⟨h1, h2⟩ := h
    cases ha
    by_cases he : l2 = []
    · exact idle he rfl (Nat.le_refl _) (h1 he)
    · obtain ⟨hr, hk⟩ := h2 he
      have hpos : 0 < l2.length := List.length_pos_iff.2 he
      have := append_grow (P := P) (ty := ty) (id := s.next) (st := l2.length) (l := []) (base := none) (sCap := 0) (vo := []) hi ht hu hd hd1 hti hsz hby hz hrows hb (fun _ h => by simp at h) (RC_nil g w)
        (fun w' _ => by simp [Builtin.firstCells]) (by simpa using hpos) (by simpa using hr) (.inl rfl) (k := k) (by rw [rowSet_new]; simpa using hk)
      simpa using this
  · -- a row of one's own
    rename_i es l id n
    obtain ⟨hr, hes, ho, hk⟩ := h
    subst hes
    obtain ⟨_, hul, hrow⟩ := ha.row
    have hidlt := (hi.obj _ _ ho).1
    have hst : g.stamp id = n := (hi.obj _ _ ho).2.1
    have hok := (hi.obj _ _ ho).2.2
    have hset : ∀ st, s.rowSet id st = s.set id (.row st) := fun st => rowSet_set (by rw [hi.next]; omega)
    by_cases he : l2 = []
    · have hk' : k (.sl i.size l (.row id n)) (s.set id (.row n)) := by subst he; simpa using hk
      have hs : s.set id (.row n) = s := by
        simp only [AState.set]
        congr
        funext q
        split
        · rename_i e; subst e; exact ho.symm
        · rfl
      rw [hs] at hk'
      obtain ⟨base, cap, hx, hc⟩ := ha.row_len
      exact idle he hx hc hk'
    have hpos : 0 < l2.length := List.length_pos_iff.2 he
    rcases hrow with ⟨rfl, rfl⟩ | ⟨ad, cap, vs, rfl, hsp, hc, hv, hcell, hbl, hx, hk'⟩
    · have := append_grow (P := P) (ty := ty) (id := id) (st := n + l2.length) (l := []) (base := none) (sCap := 0) (vo := []) hi ht hu hd hd1 hti hsz hby hz hrows hb (fun _ h => by simp at h) (RC_nil g w)
        (fun w' _ => by simp [Builtin.firstCells]) (by simpa using hpos) (by simpa using hr) (.inr ⟨by rw [hi.next]; exact hidlt, ⟨_, ho⟩, by omega⟩) (k := k) (by rw [hset]; simpa using hk)
      simpa using this
    · obtain ⟨ab, ao, asp⟩ := ad
      simp only at hsp
      subst hsp
      obtain ⟨_, _, hk'⟩ := hk'
      obtain ⟨hhas, hblk, hend, hcapend⟩ := hk' (by omega)
      simp only at hblk hend hcapend hbl hx
      subst hblk
      by_cases hfit : l.length + l2.length ≤ cap
      · -- in place
        obtain ⟨hperm, hle, cur, elem, hg, hcs⟩ := hok hhas
        have hvlen : vn.length = l2.length * i.size := by rw [hvn.1, hun.flatten_length]
        have hfit2 : g.rend id + vn.length ≤ g.rsize id := by
          rw [← hend, ← hcapend, hvlen, Nat.add_assoc, ← Nat.add_mul]
          exact Nat.add_le_add_left (Nat.mul_le_mul_right _ hfit) _
        have hst' := run_storeCells_at (P := P) (g.rblk id) (g.rend id) elem vn 0 cur w hg (by rw [hcs]; omega) hvn.oneCell
        have hrun := run_append_room' (ty := ty) (base := some ⟨g.rblk id, ao, none⟩) hu hd hd1 hj hlen (by rw [hjs]; exact hf0) hfit
        simp only [hjs, Addr.add_lit, hend, hst', Result.andThen_ok, Nat.add_zero] at hrun
        obtain ⟨hev, hinv⟩ := step_rowExt (k := l2.length) hi ho hhas cur elem hg vn hfit2 hcs (fun h => by omega)
        have hul2 : Uni i.size (l ++ l2) := fun x hx => by
          rcases List.mem_append.1 hx with h | h
          · exact hul x h
          · exact hun x h
        have hself := setRow_heap w (g.rblk id) cur (cur.toList.take (g.rend id) ++ vn ++ cur.toList.drop (g.rend id + vn.length)).toArray elem (0, 0) hg
        refine ⟨_, _, _, _, _, hrun, ?_, hinv, hev.mono (fun i h => by subst h; exact ht.2 _ _ ho), ht.set ho _, rfl, hk⟩
        have hoff : ao + l.length * i.size = g.rend id := hend
        have hres := R.mk_row (g := g.rowExt id vn.length (n + l2.length)) (w := w.setRow (g.rblk id) (cur.toList.take (g.rend id) ++ vn ++ cur.toList.drop (g.rend id + vn.length)).toArray)
          (b := g.rblk id) (off := ao) (cap := cap) (l := l ++ l2) (k := .row id (n + l2.length)) (vs := vs ++ vn) hsz hul2 (by rw [List.length_append]; exact hfit)
          (by rw [List.flatten_append]; exact (hv.append hvn).ev hev) (fun q v hq => ?_) (by simpa using hbl)
          (.inr ⟨id, g.rend id + vn.length, by simp [Gh.rowExt], by rw [List.length_append, Nat.add_mul, hvlen]; omega⟩)
          ⟨hidlt, by simp [Gh.rowExt], fun _ => ⟨by simpa [Gh.rowExt] using hhas, by simp [Gh.rowExt], by simp only [Gh.rowExt, if_true]; rw [List.length_append, Nat.add_mul, hvlen]; omega, by simpa [Gh.rowExt] using hcapend⟩⟩
        · rw [List.length_append] at hres
          exact hres
        · rw [cell_of_get hself]
          have hvsl : vs.length = l.length * i.size := by rw [hv.1, hul.flatten_length]
          by_cases hq1 : q < vs.length
          · rw [List.getElem?_append_left hq1] at hq
            have h1 := hcell q v hq
            rw [cell_of_get hg] at h1
            simp only [List.append_assoc, List.getElem?_toArray]
            rw [List.getElem?_append_left (by simp only [List.length_take, Array.length_toList]; omega), List.getElem?_take, if_pos (by omega)]
            simpa using h1
          · rw [List.getElem?_append_right (by omega)] at hq
            have hql : q - vs.length < vn.length := (List.getElem?_eq_some_iff.1 hq).1
            simp only [List.append_assoc, List.getElem?_toArray]
            have htl : (cur.toList.take (g.rend id)).length = g.rend id := by simp only [List.length_take, Array.length_toList]; omega
            rw [List.getElem?_append_right (by rw [htl]; omega), htl, List.getElem?_append_left (by omega), ← hq]
            congr 1
            omega
      · refine append_grow (P := P) (ty := ty) (id := id) (st := n + l2.length) (l := l) (base := some ⟨g.rblk id, ao, none⟩) (sCap := cap) (vo := vs) hi ht hu hd hd1 hti hsz hby hz hrows hb hul hv
          (fun w' hw => run_firstCells_some (P := P) w' i.size l.length _ l.length cap vs (by rw [hv.1, hul.flatten_length]) (fun j v hjv => by rw [Addr.add_lit]; exact hw _ _ (hcell j v hjv))) (by omega) hr
          (.inr ⟨by rw [hi.next]; exact hidlt, ⟨_, ho⟩, by omega⟩) (by rw [hset]; exact hk)
  · -- without room
    rename_i es l
    obtain ⟨h1, h2⟩ := h
    obtain ⟨_, hul, hrow⟩ := ha.row
    by_cases he : l2 = []
    · obtain ⟨base, cap, hx, hc⟩ := ha.row_len
      exact idle he hx hc (h1 he)
    · obtain ⟨hes, hr, hk⟩ := h2 he
      subst hes
      have hpos : 0 < l2.length := List.length_pos_iff.2 he
      rcases hrow with ⟨rfl, rfl⟩ | ⟨ad, cap, vs, rfl, hsp, hc, hv, hcell, hbl, hx, hk'⟩
      · have := append_grow (P := P) (ty := ty) (id := s.next) (st := l2.length) (l := []) (base := none) (sCap := 0) (vo := []) hi ht hu hd hd1 hti hsz hby hz hrows hb (fun _ h => by simp at h) (RC_nil g w)
          (fun w' _ => by simp [Builtin.firstCells]) (by simpa using hpos) (by simpa using hr) (.inl rfl) (k := k) (by rw [rowSet_new]; simpa using hk)
        simpa using this
      · have hcap : cap = l.length := hk'
        subst hcap
        refine append_grow (P := P) (ty := ty) (id := s.next) (st := l.length + l2.length) (l := l) (base := some ad) (sCap := l.length) (vo := vs) hi ht hu hd hd1 hti hsz hby hz hrows hb hul hv
          (fun w' hw => run_firstCells_some (P := P) w' i.size l.length _ l.length _ vs (by rw [hv.1, hul.flatten_length]) (fun j v hjv => ?_)) (by omega) hr (.inl rfl) (by rw [rowSet_new]; exact hk)
        obtain ⟨ab, ao, asp⟩ := ad
        simp only at hsp
        subst hsp
        rw [Addr.add_lit]; exact hw _ _ (hcell j v hjv)
  · -- nothing known of the room
    obtain ⟨he, hk⟩ := h
    obtain ⟨base, cap, hx, hc⟩ := ha.row_len
    exact idle he hx hc hk
  · exact h.elim

end Go.Av
