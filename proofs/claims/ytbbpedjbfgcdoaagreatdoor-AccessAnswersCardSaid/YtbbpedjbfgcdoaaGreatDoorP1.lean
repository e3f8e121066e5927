/- A part of the proof behind the last text of this folder: AbsVal, AbsSat, AbsOp, AbsStep, AbsStep2, AbsStep3. -/
import Derived.Calls
import Derived.Orders
import Derived.Laws.Cells
import Derived.Laws.CopyRow
import Derived.Laws.AppendOwn
import Derived.Laws.Rows
import Derived.Below
import Derived.Great.BuildSlice
set_option linter.unusedSimpArgs false
set_option linter.unusedSectionVars false

namespace Go.Abs

/-- Data without block ids. -/
inductive DV where
  | bad
  | int (k : IntKind) (n : Int)
  | bool (b : Bool)
  | str (s : ByteArray)
  | nilp | nils | nilm | nilf | nili
  | gptr (g : Nat)
  | fn (f : Nat)
  | ros (cs : List DV) (n : Nat) (cap : Option Nat)
  | rptr (cs : List DV) (off : Nat)
  | iface (t : Nat) (v : DV)
  | agg (cs : List DV)
  | tup (vs : List DV)

/-- Values with block ids. -/
inductive AV where
  | dat (d : DV)
  | ptr (id off : Nat)
  | map (id : Nat)
  /-- what a range over a function hands to it -/
  | yld (id : Nat)
  | sl (id off len : Nat) (cap : Option Nat) (z : Nat)
  | func (f : Nat) (captured : List AV)
  | iface (t : Nat) (v : AV)
  | agg (cs : List AV)
  | tup (vs : List AV)

inductive AB where
  | cells (cs : List AV) (elem : Nat) (grow : Bool)
  | mapD (es : List (DV × DV))
  | mapA (es : List (DV × AV))
  | siter (s : ByteArray) (pos : Nat)
  /-- a map that is ranged over: when its entries were born -/
  | mapB (bs : List Nat) (clk : Nat) (es : List (DV × AV))
  /-- a range over map m: what has come, the newest first -/
  | miter (m clk : Nat) (seen : List Nat)
  | miter0
  /-- a block as it lies -/
  | obj (o : Obj)
  /-- the record of a range over a function -/
  | lp (busy : Bool) (fn : Nat) (l : List AV) (ps : List Nat) (asg bdy : Code)

abbrev Heap := List (Option AB)
abbrev Env := Nat → AV

/-- The concrete side: a naming of ids by blocks, the blocks that are never written again, the world. -/
structure Wd where
  ρ : Nat → Option Nat
  I : Nat → Prop
  w : World

mutual
def RelD (I : Nat → Prop) (w : World) : DV → Value → Prop
  | .bad, _ => True
  | .int k n, v => v = .int k n
  | .bool b, v => v = .bool b
  | .str s, v => v = .string s
  | .nilp, v => v = .pointer none
  | .nils, v => v = .slice none 0 0
  | .nilm, v => v = .map none
  | .nilf, v => v = .nilFunc
  | .nili, v => v = .nilIface
  | .gptr g, v => v = .pointer (some ⟨g, 0, none⟩)
  | .fn f, v => v = .func (.func f) #[] #[]
  | .ros cs n cap, v => (n = 0 ∧ cap = some 0 ∧ cs = [] ∧ ∃ a, v = .slice (some a) 0 0) ∨ ∃ b o c m e f, v = .slice (some ⟨b, o, none⟩) n m ∧ I b ∧ w.heap[b]? = some (.cells c e f) ∧ n ≤ m ∧ m ≤ maxLen ∧ (∀ k, cap = some k → m = k) ∧ RelDs I w cs (c.toList.drop o)
  | .rptr cs off, v => ∃ b o c e f, v = .pointer (some ⟨b, o + off, none⟩) ∧ I b ∧ w.heap[b]? = some (.cells c e f) ∧ RelDs I w cs (c.toList.drop o)
  | .iface t d, v => ∃ u, v = .iface t u ∧ RelD I w d u
  | .agg cs, v => ∃ vs, v = .agg vs ∧ cs.length = vs.size ∧ RelDs I w cs vs.toList
  | .tup cs, v => ∃ vs, v = .tuple vs ∧ cs.length = vs.size ∧ RelDs I w cs vs.toList
def RelDs (I : Nat → Prop) (w : World) : List DV → List Value → Prop
  | [], _ => True
  | d :: r, v :: s => RelD I w d v ∧ RelDs I w r s
  | _ :: _, [] => False
end

mutual
def Rel (s : Wd) : AV → Value → Prop
  | .dat d, v => RelD s.I s.w d v
  | .ptr id off, v => ∃ b, s.ρ id = some b ∧ v = .pointer (some ⟨b, off, none⟩)
  | .map id, v => ∃ b, s.ρ id = some b ∧ v = .map (some b)
  | .yld id, v => ∃ b, s.ρ id = some b ∧ v = .func (.yield b) #[] #[]
  | .sl id off len cap z, v => ∃ b m c e f, s.ρ id = some b ∧ v = .slice (some ⟨b, off, none⟩) len m ∧ len ≤ m ∧ m ≤ maxLen ∧ (∀ k, cap = some k → m = k) ∧ s.w.heap[b]? = some (.cells c e f) ∧ off + m * z ≤ c.size
  | .func f cs, v => ∃ vs, v = .func (.func f) #[] vs ∧ cs.length = vs.size ∧ Rels s cs vs.toList
  | .iface t a, v => ∃ u, v = .iface t u ∧ Rel s a u
  | .agg cs, v => ∃ vs, v = .agg vs ∧ cs.length = vs.size ∧ Rels s cs vs.toList
  | .tup cs, v => ∃ vs, v = .tuple vs ∧ cs.length = vs.size ∧ Rels s cs vs.toList
def Rels (s : Wd) : List AV → List Value → Prop
  | [], _ => True
  | a :: r, v :: t => Rel s a v ∧ Rels s r t
  | _ :: _, [] => False
end

theorem relDs_nil (I : Nat → Prop) (w : World) (l : List Value) : RelDs I w [] l := by simp [RelDs]
theorem rels_nil (s : Wd) (l : List Value) : Rels s [] l := by simp [Rels]
theorem relDs_cons {I : Nat → Prop} {w : World} {d : DV} {r : List DV} {l : List Value} : RelDs I w (d :: r) l ↔ ∃ v t, l = v :: t ∧ RelD I w d v ∧ RelDs I w r t := by
  cases l with
  | nil => simp [RelDs]
  | cons v t =>
    simp only [RelDs]
    exact ⟨fun h => ⟨v, t, rfl, h⟩, fun ⟨_, _, e, h⟩ => by cases e; exact h⟩
theorem rels_cons {s : Wd} {d : AV} {r : List AV} {l : List Value} : Rels s (d :: r) l ↔ ∃ v t, l = v :: t ∧ Rel s d v ∧ Rels s r t := by
  cases l with
  | nil => simp [Rels]
  | cons v t =>
    simp only [Rels]
    exact ⟨fun h => ⟨v, t, rfl, h⟩, fun ⟨_, _, e, h⟩ => by cases e; exact h⟩

theorem relDs_iff {I : Nat → Prop} {w : World} {cs : List DV} {l : List Value} :
    RelDs I w cs l ↔ ∀ (i : Nat) d, cs[i]? = some d → ∃ v, l[i]? = some v ∧ RelD I w d v := by
  induction cs generalizing l with
  | nil => simp [RelDs]
  | cons d r ih =>
    rw [relDs_cons]
    constructor
    · rintro ⟨v, t, rfl, h1, h2⟩ i d' hd
      cases i with
      | zero => simp at hd; subst hd; exact ⟨v, by simp, h1⟩
      | succ i => simp at hd; simpa using ih.1 h2 i d' hd
    · intro h
      cases l with
      | nil => obtain ⟨v, hv, _⟩ := h 0 d (by simp); simp at hv
      | cons v t =>
        obtain ⟨v', hv, h1⟩ := h 0 d (by simp)
        simp at hv; subst hv
        exact ⟨v, t, rfl, h1, ih.2 fun i d' hd => by simpa using h (i + 1) d' (by simpa using hd)⟩
theorem rels_iff {s : Wd} {cs : List AV} {l : List Value} :
    Rels s cs l ↔ ∀ (i : Nat) d, cs[i]? = some d → ∃ v, l[i]? = some v ∧ Rel s d v := by
  induction cs generalizing l with
  | nil => simp [Rels]
  | cons d r ih =>
    rw [rels_cons]
    constructor
    · rintro ⟨v, t, rfl, h1, h2⟩ i d' hd
      cases i with
      | zero => simp at hd; subst hd; exact ⟨v, by simp, h1⟩
      | succ i => simp at hd; simpa using ih.1 h2 i d' hd
    · intro h
      cases l with
      | nil => obtain ⟨v, hv, _⟩ := h 0 d (by simp); simp at hv
      | cons v t =>
        obtain ⟨v', hv, h1⟩ := h 0 d (by simp)
        simp at hv; subst hv
        exact ⟨v, t, rfl, h1, ih.2 fun i d' hd => by simpa using h (i + 1) d' (by simpa using hd)⟩

mutual
theorem relD_mono {I I' : Nat → Prop} {w w' : World} (hI : ∀ n, I n → I' n) (hw : ∀ n, I n → w'.heap[n]? = w.heap[n]?) : ∀ (d : DV) (v : Value), RelD I w d v → RelD I' w' d v
  | .bad, _, _ => by simp [RelD]
  | .int _ _, _, h => by simpa [RelD] using h
  | .bool _, _, h => by simpa [RelD] using h
  | .str _, _, h => by simpa [RelD] using h
  | .nilp, _, h => by simpa [RelD] using h
  | .nils, _, h => by simpa [RelD] using h
  | .nilm, _, h => by simpa [RelD] using h
  | .nilf, _, h => by simpa [RelD] using h
  | .nili, _, h => by simpa [RelD] using h
  | .gptr _, _, h => by simpa [RelD] using h
  | .fn _, _, h => by simpa [RelD] using h
  | .ros cs n cap, v, h => by
    simp only [RelD] at h ⊢
    rcases h with h | ⟨b, o, c, m, e, f, h1, h2, h3, h4, h5, h6, h7⟩
    · exact .inl h
    · exact .inr ⟨b, o, c, m, e, f, h1, hI b h2, (hw b h2).trans h3, h4, h5, h6, relDs_mono hI hw cs _ h7⟩
  | .rptr cs off, v, h => by
    simp only [RelD] at h ⊢
    obtain ⟨b, o, c, e, f, h1, h2, h3, h4⟩ := h
    exact ⟨b, o, c, e, f, h1, hI b h2, (hw b h2).trans h3, relDs_mono hI hw cs _ h4⟩
  | .iface t d, v, h => by
    simp only [RelD] at h ⊢
    obtain ⟨u, h1, h2⟩ := h
    exact ⟨u, h1, relD_mono hI hw d u h2⟩
  | .agg cs, v, h => by
    simp only [RelD] at h ⊢
    obtain ⟨u, h1, h2, h3⟩ := h
    exact ⟨u, h1, h2, relDs_mono hI hw cs _ h3⟩
  | .tup cs, v, h => by
    simp only [RelD] at h ⊢
    obtain ⟨u, h1, h2, h3⟩ := h
    exact ⟨u, h1, h2, relDs_mono hI hw cs _ h3⟩
theorem relDs_mono {I I' : Nat → Prop} {w w' : World} (hI : ∀ n, I n → I' n) (hw : ∀ n, I n → w'.heap[n]? = w.heap[n]?) : ∀ (cs : List DV) (l : List Value), RelDs I w cs l → RelDs I' w' cs l
  | [], _, _ => by simp [RelDs]
  | d :: r, [], h => by simp [RelDs] at h
  | d :: r, v :: s, h => by
    simp only [RelDs] at h ⊢
    exact ⟨relD_mono hI hw d v h.1, relDs_mono hI hw r s h.2⟩
end

/-- The names grow, the unwritten blocks grow and stay as they are. -/
structure Grows (s s' : Wd) : Prop where
  ρ : ∀ i n, s.ρ i = some n → s'.ρ i = some n
  I : ∀ n, s.I n → s'.I n
  same : ∀ n, s.I n → s'.w.heap[n]? = s.w.heap[n]?
  rows : ∀ (n : Nat) c e f, s.w.heap[n]? = some (.cells c e f) → ∃ c' f', s'.w.heap[n]? = some (.cells c' e f') ∧ c'.size = c.size

mutual
theorem rel_mono {s s' : Wd} (g : Grows s s') : ∀ (a : AV) (v : Value), Rel s a v → Rel s' a v
  | .dat d, v, h => by
    simp only [Rel] at h ⊢
    exact relD_mono g.I g.same d v h
  | .ptr id off, v, h => by
    simp only [Rel] at h ⊢
    obtain ⟨b, h1, h2⟩ := h
    exact ⟨b, g.ρ _ _ h1, h2⟩
  | .map id, v, h => by
    simp only [Rel] at h ⊢
    obtain ⟨b, h1, h2⟩ := h
    exact ⟨b, g.ρ _ _ h1, h2⟩
  | .yld id, v, h => by
    simp only [Rel] at h ⊢
    obtain ⟨b, h1, h2⟩ := h
    exact ⟨b, g.ρ _ _ h1, h2⟩
  | .sl id off len cap z, v, h => by
    simp only [Rel] at h ⊢
    obtain ⟨b, m, c, e, f, h1, h2, h3, h4, h5, h6, h7⟩ := h
    obtain ⟨c', f', h8, h9⟩ := g.rows b c e f h6
    exact ⟨b, m, c', e, f', g.ρ _ _ h1, h2, h3, h4, h5, h8, by rw [h9]; exact h7⟩
  | .func f cs, v, h => by
    simp only [Rel] at h ⊢
    obtain ⟨u, h1, h2, h3⟩ := h
    exact ⟨u, h1, h2, rels_mono g cs _ h3⟩
  | .iface t a, v, h => by
    simp only [Rel] at h ⊢
    obtain ⟨u, h1, h2⟩ := h
    exact ⟨u, h1, rel_mono g a u h2⟩
  | .agg cs, v, h => by
    simp only [Rel] at h ⊢
    obtain ⟨u, h1, h2, h3⟩ := h
    exact ⟨u, h1, h2, rels_mono g cs _ h3⟩
  | .tup cs, v, h => by
    simp only [Rel] at h ⊢
    obtain ⟨u, h1, h2, h3⟩ := h
    exact ⟨u, h1, h2, rels_mono g cs _ h3⟩
theorem rels_mono {s s' : Wd} (g : Grows s s') : ∀ (cs : List AV) (l : List Value), Rels s cs l → Rels s' cs l
  | [], _, _ => by simp [Rels]
  | d :: r, [], h => by simp [Rels] at h
  | d :: r, v :: t, h => by
    simp only [Rels] at h ⊢
    exact ⟨rel_mono g d v h.1, rels_mono g r t h.2⟩
end

theorem rels_dat {s : Wd} {ds : List DV} {l : List Value} : Rels s (ds.map .dat) l ↔ RelDs s.I s.w ds l := by
  induction ds generalizing l with
  | nil => simp [Rels, RelDs]
  | cons d r ih => cases l <;> simp [Rels, RelDs, Rel, ih]

/-- A map's entries, in the order of the table. -/
def RelE {α : Type} (R : α → Value → Prop) (s : Wd) : List (DV × α) → List MapEntry → Prop
  | [], [] => True
  | (k, a) :: r, e :: t => (RelD s.I s.w k e.key ∧ R a e.val) ∧ RelE R s r t
  | _, _ => False
def RelM {α : Type} (R : α → Value → Prop) (s : Wd) (es : List (DV × α)) (o : Obj) : Prop :=
  ∃ ents clk, o = .map ents clk ∧ RelE R s es ents.toList ∧ (ents.toList.map (·.born)).Pairwise (· < ·) ∧ ∀ e ∈ ents.toList, e.born < clk

def lpSt (busy : Bool) : LoopState := match busy with
  | true => .busy
  | false => .ready
def RelB (s : Wd) : AB → Obj → Prop
  | .cells cs elem grow, o => ∃ c, o = .cells c elem (0, 0) ∧ Rels s cs c.toList ∧ (grow = false → c.size = cs.length)
  | .mapD es, o => RelM (RelD s.I s.w) s es o
  | .mapA es, o => RelM (Rel s) s es o
  | .siter str pos, o => o = .stringIter str pos
  | .mapB bs clk es, o => ∃ ents, o = .map ents clk ∧ RelE (Rel s) s es ents.toList ∧ ents.toList.map (·.born) = bs ∧ bs.Pairwise (· < ·) ∧ ∀ b ∈ bs, b < clk
  | .miter m clk seen, o => ∃ n, s.ρ m = some n ∧ o = .mapIter (some n) clk seen.reverse.toArray clk
  | .miter0, o => o = .mapIter none 0 #[] 0
  | .obj ob, o => o = ob
  | .lp busy fn l ps asg bdy, o => ∃ tmps D, o = .loop { state := lpSt busy, pending := none, fn := fn, tmps := tmps, params := ps.toArray, assign := asg, body := bdy, defers := D } ∧ Rels s l tmps.toList ∧ tmps.size = l.length

theorem relE_mono {α : Type} {R R' : α → Value → Prop} {s s' : Wd} (g : Grows s s') (hR : ∀ a v, R a v → R' a v) : ∀ (es : List (DV × α)) (l : List MapEntry), RelE R s es l → RelE R' s' es l
  | [], [], _ => trivial
  | (_, _) :: r, _ :: t, h => ⟨⟨relD_mono g.I g.same _ _ h.1.1, hR _ _ h.1.2⟩, relE_mono g hR r t h.2⟩
  | [], _ :: _, h => h.elim
  | _ :: _, [], h => h.elim
theorem relM_mono {α : Type} {R R' : α → Value → Prop} {s s' : Wd} (g : Grows s s') (hR : ∀ a v, R a v → R' a v) {es : List (DV × α)} {o : Obj} (h : RelM R s es o) : RelM R' s' es o := by
  obtain ⟨ents, clk, h1, h3, h4, h5⟩ := h
  exact ⟨ents, clk, h1, relE_mono g hR _ _ h3, h4, h5⟩

theorem relB_mono {s s' : Wd} (g : Grows s s') : ∀ (b : AB) (o : Obj), RelB s b o → RelB s' b o
  | .cells cs elem grow, o, h => by
    obtain ⟨c, h1, h2, h3⟩ := h
    exact ⟨c, h1, rels_mono g _ _ h2, h3⟩
  | .mapD es, o, h => relM_mono g (fun a v => relD_mono g.I g.same a v) h
  | .mapA es, o, h => relM_mono g (fun a v => rel_mono g a v) h
  | .siter str pos, o, h => h
  | .mapB bs clk es, o, ⟨ents, h1, h2, h3⟩ => ⟨ents, h1, relE_mono g (fun a v => rel_mono g a v) _ _ h2, h3⟩
  | .miter m clk seen, o, ⟨n, h1, h2⟩ => ⟨n, g.ρ _ _ h1, h2⟩
  | .miter0, o, h => h
  | .obj _, o, h => h
  | .lp _ _ _ _ _ _, o, ⟨t, d, h1, h2, h3⟩ => ⟨t, d, h1, rels_mono g _ _ h2, h3⟩

def hget (h : Heap) (i : Nat) : Option AB := match h with
  | [] => none
  | x :: r => match i with
    | 0 => x
    | i + 1 => hget r i

theorem hget_eq (h : Heap) (i : Nat) : hget h i = (h[i]?).join := by
  induction h generalizing i with
  | nil => simp [hget]
  | cons x r ih => cases i <;> simp [hget, ih]

/-- The context: the program, its types as a table, what package-level variables hold. -/
structure Gl where
  P : Program
  Γ : Nat → Option (List DV)
  /-- as many draws there were, or more -/
  d : Nat
  /-- where it began: its blocks lie as they lay -/
  w0 : World
/-- The blocks of the world in which it began lie as they lay. -/
structure Old (w0 : World) (s : Wd) : Prop where
  b : RowKit.Below w0.heap.size w0 s.w
  I : ∀ n, n < w0.heap.size → s.I n
theorem Old.grow {w0 : World} {s s' : Wd} (o : Old w0 s) (g : Grows s s') (h1 : s'.w.os = s.w.os) (h2 : s'.w.tape = s.w.tape) (h3 : s'.w.output = s.w.output) (h4 : s.w.heap.size ≤ s'.w.heap.size) : Old w0 s' :=
  ⟨⟨h1.trans o.b.os, h2.trans o.b.tape, h3.trans o.b.output, Nat.le_trans o.b.size h4, fun k hk => (g.same k (o.I k hk)).trans (o.b.block k hk)⟩, fun n hn => g.I n (o.I n hn)⟩

structure Sat (γ : Gl) (h : Heap) (s : Wd) : Prop where
  blk : ∀ i b, hget h i = some b → ∃ n o, s.ρ i = some n ∧ s.w.heap[n]? = some o ∧ RelB s b o ∧ ¬ s.I n
  inj : ∀ i j n, hget h i ≠ none → hget h j ≠ none → s.ρ i = some n → s.ρ j = some n → i = j
  fresh : ∀ i, h.length ≤ i → s.ρ i = none
  imm : ∀ n, s.I n → n < s.w.heap.size
  glob : ∀ g cs, γ.Γ g = some cs → s.I g ∧ ∃ c e f, s.w.heap[g]? = some (.cells c e f) ∧ RelDs s.I s.w cs c.toList
  dr : γ.d ≤ s.w.drawn
  old : Old γ.w0 s

/-- Block n is the caller's own in the heap h. -/
def Owned (h : Heap) (s : Wd) (n : Nat) : Prop := ∃ i, hget h i ≠ none ∧ s.ρ i = some n

structure Ext (h : Heap) (s : Wd) (h' : Heap) (s' : Wd) : Prop where
  ρ : ∀ i n, s.ρ i = some n → s'.ρ i = some n
  I : ∀ n, s.I n → s'.I n
  inew : ∀ n, s'.I n → s.I n ∨ s.w.heap.size ≤ n ∨ Owned h s n
  size : s.w.heap.size ≤ s'.w.heap.size
  keep : ∀ n, n < s.w.heap.size → ¬ Owned h s n → s'.w.heap[n]? = s.w.heap[n]?
  rows : ∀ (n : Nat) c e f, s.w.heap[n]? = some (.cells c e f) → ∃ c' f', s'.w.heap[n]? = some (.cells c' e f') ∧ c'.size = c.size
  own : ∀ n, Owned h' s' n → s.w.heap.size ≤ n ∨ Owned h s n
  os : s'.w.os = s.w.os
  output : s'.w.output = s.w.output
  tape : s'.w.tape = s.w.tape
  len : h.length ≤ h'.length
  names : ∀ i, i < h.length → s'.ρ i = s.ρ i

theorem Ext.refl (h : Heap) (s : Wd) : Ext h s h s :=
  ⟨fun _ _ h => h, fun _ h => h, fun _ h => .inl h, Nat.le_refl _, fun _ _ _ => rfl, fun _ c _ f h => ⟨c, f, h, rfl⟩, fun _ h => .inr h, rfl, rfl, rfl, Nat.le_refl _, fun _ _ => rfl⟩
theorem Ext.trans {h1 h2 h3 : Heap} {s1 s2 s3 : Wd} (a : Ext h1 s1 h2 s2) (b : Ext h2 s2 h3 s3) : Ext h1 s1 h3 s3 where
  ρ i n h := b.ρ i n (a.ρ i n h)
  I n h := b.I n (a.I n h)
  inew n h := by
    rcases b.inew n h with h | h | h
    · exact a.inew n h
    · exact .inr (.inl (Nat.le_trans a.size h))
    · exact .inr (a.own n h)
  size := Nat.le_trans a.size b.size
  keep n hn ho := by
    rw [b.keep n (Nat.lt_of_lt_of_le hn a.size) (fun h => by rcases a.own n h with h | h; exact absurd h (by omega); exact ho h), a.keep n hn ho]
  rows n c e f h := by
    obtain ⟨c1, f1, h1, h2⟩ := a.rows n c e f h
    obtain ⟨c2, f2, h3, h4⟩ := b.rows n c1 e f1 h1
    exact ⟨c2, f2, h3, h4.trans h2⟩
  own n h := by
    rcases b.own n h with h | h
    · exact .inl (Nat.le_trans a.size h)
    · exact a.own n h
  os := b.os.trans a.os
  output := b.output.trans a.output
  tape := b.tape.trans a.tape
  len := Nat.le_trans a.len b.len
  names i hi := (b.names i (Nat.lt_of_lt_of_le hi a.len)).trans (a.names i hi)

theorem Sat.not_owned {γ : Gl} {h : Heap} {s : Wd} (sat : Sat γ h s) {n : Nat} (hn : s.I n) : ¬ Owned h s n := by
  rintro ⟨i, hi, hρ⟩
  cases hb : hget h i with
  | none => exact hi hb
  | some b =>
    obtain ⟨n', o, h1, h2, h3, h4⟩ := sat.blk i b hb
    rw [h1] at hρ; cases hρ; exact h4 hn

theorem Ext.grows {γ : Gl} {h h' : Heap} {s s' : Wd} (e : Ext h s h' s') (sat : Sat γ h s) : Grows s s' :=
  ⟨e.ρ, e.I, fun n hn => e.keep n (sat.imm n hn) (sat.not_owned hn), e.rows⟩

end Go.Abs

namespace Go.Abs

def hset (h : Heap) (i : Nat) (b : Option AB) : Heap := match h with
  | [] => []
  | x :: r => match i with
    | 0 => b :: r
    | i + 1 => x :: hset r i b
theorem hset_length (h : Heap) (i : Nat) (b : Option AB) : (hset h i b).length = h.length := by
  induction h generalizing i with
  | nil => rfl
  | cons x r ih => cases i <;> simp [hset, ih]
theorem hget_hset (h : Heap) (i j : Nat) (b : Option AB) (hi : i < h.length) : hget (hset h i b) j = if j = i then b else hget h j := by
  induction h generalizing i j with
  | nil => simp at hi
  | cons x r ih =>
    cases i with
    | zero => cases j <;> simp [hset, hget]
    | succ i =>
      cases j with
      | zero => simp [hset, hget]
      | succ j => simp only [hset, hget]; rw [ih i j (by simpa using hi)]; simp
theorem hget_lt {h : Heap} {i : Nat} {b : AB} (e : hget h i = some b) : i < h.length := by
  rw [hget_eq] at e
  rcases Nat.lt_or_ge i h.length with hl | hl
  · exact hl
  · rw [List.getElem?_eq_none hl] at e; simp at e
theorem hget_lt' {h : Heap} {i : Nat} (e : hget h i ≠ none) : i < h.length := by
  cases hb : hget h i with
  | none => exact absurd hb e
  | some b => exact hget_lt hb
theorem hget_app (h : Heap) (b : Option AB) (j : Nat) : hget (h ++ [b]) j = if j = h.length then b else hget h j := by
  rw [hget_eq, hget_eq]
  rcases Nat.lt_trichotomy j h.length with hl | hl | hl
  · rw [List.getElem?_append_left hl, if_neg (by omega)]
  · subst hl; simp
  · rw [if_neg (by omega), List.getElem?_eq_none (by simp; omega), List.getElem?_eq_none (by omega)]

def wput (w : World) (n : Nat) (o : Obj) : World := { w with heap := w.heap.setIfInBounds n o }
@[simp] theorem wput_size (w : World) (n : Nat) (o : Obj) : (wput w n o).heap.size = w.heap.size := by simp [wput]
theorem wput_get (w : World) (n m : Nat) (o : Obj) (hn : n < w.heap.size) : (wput w n o).heap[m]? = if m = n then some o else w.heap[m]? := by
  simp only [wput, Array.getElem?_setIfInBounds]
  by_cases h : m = n
  · subst h; simp [hn]
  · simp [h, Ne.symm h]

section
variable {γ : Gl} {h : Heap} {s : Wd}

/-- A world that differs in its count of draws alone. -/
theorem sat_world (sat : Sat γ h s) (w' : World) (hh : w'.heap = s.w.heap) (hd : s.w.drawn ≤ w'.drawn) (e1 : w'.os = s.w.os) (e2 : w'.tape = s.w.tape) (e3 : w'.output = s.w.output) : Sat γ h ⟨s.ρ, s.I, w'⟩ := by
  have g : Grows s ⟨s.ρ, s.I, w'⟩ := ⟨fun _ _ h => h, fun _ h => h, fun _ _ => by rw [hh], fun n c e f h => ⟨c, f, by show w'.heap[n]? = _; rw [hh]; exact h, rfl⟩⟩
  refine ⟨fun i b hb => ?_, sat.inj, sat.fresh, fun n hn => by show n < w'.heap.size; rw [hh]; exact sat.imm n hn, fun gl cs hg => ?_, Nat.le_trans sat.dr hd, sat.old.grow g e1 e2 e3 (by show _ ≤ w'.heap.size; rw [hh]; exact Nat.le_refl _)⟩
  · obtain ⟨n, o, h1, h2, h3, h4⟩ := sat.blk i b hb
    exact ⟨n, o, h1, by show w'.heap[n]? = _; rw [hh]; exact h2, relB_mono g b o h3, h4⟩
  · obtain ⟨h1, c, e, f, h2, h3⟩ := sat.glob gl cs hg
    exact ⟨h1, c, e, f, by show w'.heap[gl]? = _; rw [hh]; exact h2, relDs_mono g.I g.same _ _ h3⟩
theorem ext_world (w' : World) (hh : w'.heap = s.w.heap) (h1 : w'.os = s.w.os) (h2 : w'.output = s.w.output) (h3 : w'.tape = s.w.tape) : Ext h s h ⟨s.ρ, s.I, w'⟩ :=
  ⟨fun _ _ h => h, fun _ h => h, fun _ h => .inl h, by show _ ≤ w'.heap.size; rw [hh]; exact Nat.le_refl _, fun _ _ _ => by show w'.heap[_]? = _; rw [hh], fun n c e f h => ⟨c, f, by show w'.heap[n]? = _; rw [hh]; exact h, rfl⟩, fun _ h => .inr h, h1, h2, h3, Nat.le_refl _, fun _ _ => rfl⟩

def Wd.alloc (s : Wd) (i : Nat) (o : Obj) : Wd := ⟨fun j => if j = i then some s.w.heap.size else s.ρ j, s.I, s.w.alloc o⟩

theorem rows_alloc (w : World) (o : Obj) : ∀ (n : Nat) c e f, w.heap[n]? = some (.cells c e f) → ∃ c' f', (w.alloc o).heap[n]? = some (.cells c' e f') ∧ c'.size = c.size :=
  fun n c _ f h => ⟨c, f, (heap_alloc_old w o n (Array.getElem?_eq_some_iff.1 h).1).trans h, rfl⟩
theorem grows_alloc' (himm : ∀ n, s.I n → n < s.w.heap.size) (i : Nat) (hi : s.ρ i = none) (o : Obj) : Grows s (s.alloc i o) := by
  refine ⟨fun j n hj => ?_, fun _ h => h, fun n hn => heap_alloc_old s.w o n (himm n hn), rows_alloc s.w o⟩
  show (if j = i then _ else _) = _
  rw [if_neg (by intro e; subst e; rw [hi] at hj; cases hj)]; exact hj
theorem grows_alloc (sat : Sat γ h s) (i : Nat) (hi : s.ρ i = none) (o : Obj) : Grows s (s.alloc i o) := by
  refine ⟨fun j n hj => ?_, fun _ h => h, fun n hn => heap_alloc_old s.w o n (sat.imm n hn), rows_alloc s.w o⟩
  show (if j = i then _ else _) = _
  rw [if_neg (by intro e; subst e; rw [hi] at hj; cases hj)]; exact hj

/-- A new block, at the end of the heap's list. -/
theorem sat_alloc (sat : Sat γ h s) (b : AB) (o : Obj) (hb : RelB (s.alloc h.length o) b o) : Sat γ (h ++ [some b]) (s.alloc h.length o) := by
  have hi : s.ρ h.length = none := sat.fresh _ (Nat.le_refl _)
  have g := grows_alloc sat _ hi o
  have old : ∀ i n, hget h i ≠ none → s.ρ i = some n → n < s.w.heap.size := fun i n hi hρ => by
    cases hb : hget h i with
    | none => exact absurd hb hi
    | some b =>
      obtain ⟨n', o', h1, h2, _⟩ := sat.blk i b hb
      rw [hρ] at h1; cases h1
      exact (Array.getElem?_eq_some_iff.1 h2).1
  refine ⟨fun i b' hb' => ?_, fun i j n hi hj h1 h2 => ?_, fun i hi' => ?_, fun n hn => ?_, fun gl cs hg => ?_, sat.dr, sat.old.grow g rfl rfl rfl (by simp [Wd.alloc])⟩
  · rw [hget_app] at hb'
    split at hb'
    · rename_i e; subst e; cases hb'
      refine ⟨s.w.heap.size, o, by simp [Wd.alloc], heap_alloc_new s.w o, hb, fun h => ?_⟩
      have := sat.imm _ h; omega
    · rename_i e
      obtain ⟨n, o', h1, h2, h3, h4⟩ := sat.blk i b' hb'
      exact ⟨n, o', g.ρ _ _ h1, (heap_alloc_old s.w o n (Array.getElem?_eq_some_iff.1 h2).1).trans h2, relB_mono g _ _ h3, h4⟩
  · rw [hget_app] at hi hj
    by_cases e1 : i = h.length <;> by_cases e2 : j = h.length
    · rw [e1, e2]
    · rw [if_neg e2] at hj
      simp only [Wd.alloc, e1, if_true, Option.some.injEq] at h1
      simp only [Wd.alloc, if_neg e2] at h2
      have := old j n hj h2; omega
    · rw [if_neg e1] at hi
      simp only [Wd.alloc, e2, if_true, Option.some.injEq] at h2
      simp only [Wd.alloc, if_neg e1] at h1
      have := old i n hi h1; omega
    · rw [if_neg e1] at hi; rw [if_neg e2] at hj
      simp only [Wd.alloc, if_neg e1] at h1; simp only [Wd.alloc, if_neg e2] at h2
      exact sat.inj i j n hi hj h1 h2
  · simp only [List.length_append, List.length_cons, List.length_nil] at hi'
    show (if i = h.length then _ else _) = _
    rw [if_neg (by omega)]; exact sat.fresh i (by omega)
  · show n < (s.w.alloc o).heap.size
    rw [World.size_alloc]; have := sat.imm n hn; omega
  · obtain ⟨h1, c, e, f, h2, h3⟩ := sat.glob gl cs hg
    exact ⟨h1, c, e, f, (heap_alloc_old s.w o gl (sat.imm gl h1)).trans h2, relDs_mono g.I g.same _ _ h3⟩
theorem ext_alloc (sat : Sat γ h s) (b : AB) (o : Obj) : Ext h s (h ++ [some b]) (s.alloc h.length o) := by
  have hi : s.ρ h.length = none := sat.fresh _ (Nat.le_refl _)
  refine ⟨(grows_alloc sat _ hi o).ρ, fun _ h => h, fun _ h => .inl h, by simp [Wd.alloc], fun n hn _ => heap_alloc_old s.w o n hn, rows_alloc s.w o, ?_, rfl, rfl, rfl, by simp, fun i hi' => by show (if i = h.length then _ else _) = _; rw [if_neg (by omega)]⟩
  rintro n ⟨i, hi', hρ⟩
  rw [hget_app] at hi'
  by_cases e : i = h.length
  · simp only [Wd.alloc, e, if_true, Option.some.injEq] at hρ; exact .inl (by omega)
  · rw [if_neg e] at hi'; simp only [Wd.alloc, if_neg e] at hρ; exact .inr ⟨i, hi', hρ⟩

/-- A block stays of its kind and size. -/
def SameRow (o o' : Obj) : Prop := ∀ c e f, o = .cells c e f → ∃ c' f', o' = .cells c' e f' ∧ c'.size = c.size
theorem sameRow {c c' : Array Value} {e : Nat} {f f' : Nat × Nat} (h : c'.size = c.size) : SameRow (.cells c e f) (.cells c' e f') :=
  fun _ _ _ h' => by cases h'; exact ⟨_, _, rfl, h⟩
theorem rows_put {w : World} {n : Nat} {o o' : Obj} (hn : w.heap[n]? = some o) (hr : SameRow o o') : ∀ (m : Nat) c e f, w.heap[m]? = some (.cells c e f) → ∃ c' f', (wput w n o').heap[m]? = some (.cells c' e f') ∧ c'.size = c.size := by
  intro m c e f hm
  have hlt : n < w.heap.size := (Array.getElem?_eq_some_iff.1 hn).1
  by_cases h : m = n
  · subst h
    rw [hn] at hm; cases hm
    obtain ⟨c', f', rfl, h2⟩ := hr c e f rfl
    exact ⟨c', f', by rw [wput_get _ _ _ _ hlt, if_pos rfl], h2⟩
  · exact ⟨c, f, by rw [wput_get _ _ _ _ hlt, if_neg h]; exact hm, rfl⟩
/-- A block is written. -/
theorem sat_put (sat : Sat γ h s) {i n : Nat} {b : AB} {o : Obj} (hb : hget h i = some b) (hρ : s.ρ i = some n) (hn : s.w.heap[n]? = some o) (b' : AB) (o' : Obj) (hrow : SameRow o o') (hb' : RelB s b' o') :
    Sat γ (hset h i (some b')) ⟨s.ρ, s.I, wput s.w n o'⟩ := by
  obtain ⟨n', o1, h1, h2, h3, h4⟩ := sat.blk i b hb
  rw [hρ] at h1; cases h1
  rw [hn] at h2; cases h2
  have hlt : n < s.w.heap.size := (Array.getElem?_eq_some_iff.1 hn).1
  have hil := hget_lt hb
  have g : Grows s ⟨s.ρ, s.I, wput s.w n o'⟩ := ⟨fun _ _ h => h, fun _ h => h, fun m hm => by
    show (wput s.w n o').heap[m]? = _
    rw [wput_get _ _ _ _ hlt, if_neg (by rintro rfl; exact h4 hm)], rows_put hn hrow⟩
  have live : ∀ j, hget (hset h i (some b')) j ≠ none → hget h j ≠ none := fun j hj => by
    rw [hget_hset _ _ _ _ hil] at hj
    by_cases e : j = i
    · subst e; rw [hb]; simp
    · rwa [if_neg e] at hj
  refine ⟨fun j b2 hb2 => ?_, fun j k m hj hk => sat.inj j k m (live j hj) (live k hk), fun j hj => sat.fresh j (by rwa [hset_length] at hj), fun m hm => ?_, fun gl cs hg => ?_, sat.dr, sat.old.grow g rfl rfl rfl (by simp)⟩
  · rw [hget_hset _ _ _ _ hil] at hb2
    by_cases e : j = i
    · subst e; rw [if_pos rfl] at hb2; cases hb2
      exact ⟨n, o', hρ, by show (wput s.w n o').heap[n]? = _; rw [wput_get _ _ _ _ hlt, if_pos rfl], relB_mono g _ _ hb', h4⟩
    · rw [if_neg e] at hb2
      obtain ⟨m, o2, k1, k2, k3, k4⟩ := sat.blk j b2 hb2
      refine ⟨m, o2, k1, ?_, relB_mono g _ _ k3, k4⟩
      show (wput s.w n o').heap[m]? = _
      rw [wput_get _ _ _ _ hlt, if_neg (by rintro rfl; exact e (sat.inj j i m (by rw [hb2]; simp) (by rw [hb]; simp) k1 hρ)), k2]
  · show m < (wput s.w n o').heap.size
    rw [wput_size]; exact sat.imm m hm
  · obtain ⟨k1, c, e, f, k2, k3⟩ := sat.glob gl cs hg
    exact ⟨k1, c, e, f, (g.same gl k1).trans k2, relDs_mono g.I g.same _ _ k3⟩
theorem ext_put {i n : Nat} {b : AB} {o : Obj} (hb : hget h i = some b) (hρ : s.ρ i = some n) (hn : s.w.heap[n]? = some o) (b' : Option AB) (o' : Obj) (hrow : SameRow o o') : Ext h s (hset h i b') ⟨s.ρ, s.I, wput s.w n o'⟩ := by
  have hil := hget_lt hb
  have hlt : n < s.w.heap.size := (Array.getElem?_eq_some_iff.1 hn).1
  refine ⟨fun _ _ h => h, fun _ h => h, fun _ h => .inl h, by simp, fun m _ hm => ?_, rows_put hn hrow, ?_, rfl, rfl, rfl, by rw [hset_length]; exact Nat.le_refl _, fun _ _ => rfl⟩
  · show (wput s.w n o').heap[m]? = _
    rw [wput_get _ _ _ _ hlt, if_neg (by rintro rfl; exact hm ⟨i, by rw [hb]; simp, hρ⟩)]
  · rintro m ⟨j, hj, hρ'⟩
    refine .inr ⟨j, ?_, hρ'⟩
    rw [hget_hset _ _ _ _ hil] at hj
    by_cases e : j = i
    · subst e; rw [hb]; simp
    · rwa [if_neg e] at hj

/-- A heap with fewer blocks in it, of the same length. -/
structure Sub (h' h : Heap) : Prop where
  len : h'.length = h.length
  get : ∀ i b, hget h' i = some b → hget h i = some b
theorem Sub.refl (h : Heap) : Sub h h := ⟨rfl, fun _ _ h => h⟩
theorem Sub.live {h' h : Heap} (u : Sub h' h) {i : Nat} (hi : hget h' i ≠ none) : hget h i ≠ none := by
  cases hb : hget h' i with
  | none => exact absurd hb hi
  | some b => rw [u.get i b hb]; simp
theorem sat_sub (sat : Sat γ h s) {h' : Heap} (u : Sub h' h) : Sat γ h' s :=
  ⟨fun i b hb => sat.blk i b (u.get i b hb), fun i j n hi hj => sat.inj i j n (u.live hi) (u.live hj), fun i hi => sat.fresh i (by rw [← u.len]; exact hi), sat.imm, sat.glob, sat.dr, sat.old⟩
theorem ext_sub {h' : Heap} (u : Sub h' h) : Ext h s h' s :=
  ⟨fun _ _ h => h, fun _ h => h, fun _ h => .inl h, Nat.le_refl _, fun _ _ _ => rfl, fun _ c _ f h => ⟨c, f, h, rfl⟩, fun _ ⟨i, hi, hρ⟩ => .inr ⟨i, u.live hi, hρ⟩, rfl, rfl, rfl, by rw [u.len]; exact Nat.le_refl _, fun _ _ => rfl⟩

theorem sub_none (h : Heap) (i : Nat) : Sub (hset h i none) h := by
  refine ⟨hset_length h i none, fun j b hb => ?_⟩
  rcases Nat.lt_or_ge i h.length with hi | hi
  · rw [hget_hset _ _ _ _ hi] at hb
    split at hb
    · cases hb
    · exact hb
  · have : hset h i none = h := by
      clear hb
      induction h generalizing i with
      | nil => rfl
      | cons x r ih =>
        cases i with
        | zero => simp at hi
        | succ i => simp only [hset]; rw [ih]; simpa using hi
    rwa [this] at hb

/-- A block under another name. -/
def Wd.rename (s : Wd) (i n : Nat) : Wd := ⟨fun j => if j = i then some n else s.ρ j, s.I, s.w⟩
theorem grows_rename (i n : Nat) (hi : s.ρ i = none) : Grows s (s.rename i n) :=
  ⟨fun j m hj => by show (if j = i then _ else _) = _; rw [if_neg (by intro e; subst e; rw [hi] at hj; cases hj)]; exact hj, fun _ h => h, fun _ _ => rfl, fun _ c _ f h => ⟨c, f, h, rfl⟩⟩
theorem sat_rename (sat : Sat γ h s) {i n : Nat} {b : AB} (hb : hget h i = some b) (hρ : s.ρ i = some n) : Sat γ (hset h i none ++ [some b]) (s.rename h.length n) := by
  have g : Grows s (s.rename h.length n) := grows_rename _ _ (sat.fresh _ (Nat.le_refl _))
  have hil := hget_lt hb
  have get : ∀ j b', hget (hset h i none ++ [some b]) j = some b' → (j = h.length ∧ b' = b) ∨ (j ≠ h.length ∧ j ≠ i ∧ hget h j = some b') := fun j b' hj => by
    rw [hget_app, hset_length] at hj
    split at hj
    · rename_i e; cases hj; exact .inl ⟨e, rfl⟩
    · rename_i e
      rw [hget_hset _ _ _ _ hil] at hj
      split at hj
      · cases hj
      · rename_i e2; exact .inr ⟨e, e2, hj⟩
  have live : ∀ j, hget (hset h i none ++ [some b]) j ≠ none → j = h.length ∨ (j ≠ h.length ∧ j ≠ i ∧ hget h j ≠ none) := fun j hj => by
    cases hb' : hget (hset h i none ++ [some b]) j with
    | none => exact absurd hb' hj
    | some b' =>
      rcases get j b' hb' with ⟨e, _⟩ | ⟨e, e2, e3⟩
      · exact .inl e
      · exact .inr ⟨e, e2, by rw [e3]; simp⟩
  refine ⟨fun j b' hj => ?_, fun j k m hj hk h1 h2 => ?_, fun j hj => ?_, sat.imm, fun gl cs hg => ?_, sat.dr, sat.old.grow g rfl rfl rfl (Nat.le_refl _)⟩
  · rcases get j b' hj with ⟨rfl, rfl⟩ | ⟨e, e2, e3⟩
    · obtain ⟨n', o, h1, h2, h3, h4⟩ := sat.blk i b' hb
      rw [hρ] at h1; cases h1
      exact ⟨n, o, by simp [Wd.rename], h2, relB_mono g _ _ h3, h4⟩
    · obtain ⟨n', o, h1, h2, h3, h4⟩ := sat.blk j b' e3
      exact ⟨n', o, g.ρ _ _ h1, h2, relB_mono g _ _ h3, h4⟩
  · have nm : ∀ j m, hget (hset h i none ++ [some b]) j ≠ none → (s.rename h.length n).ρ j = some m → (j = h.length ∧ m = n) ∨ (j ≠ h.length ∧ j ≠ i ∧ hget h j ≠ none ∧ s.ρ j = some m) := fun j m hj hm => by
      rcases live j hj with e | ⟨e, e2, e3⟩
      · simp only [Wd.rename, e, if_true, Option.some.injEq] at hm; exact .inl ⟨e, hm.symm⟩
      · simp only [Wd.rename, if_neg e] at hm; exact .inr ⟨e, e2, e3, hm⟩
    rcases nm j m hj h1 with ⟨e1, e2⟩ | ⟨e1, e2, e3, e4⟩ <;> rcases nm k m hk h2 with ⟨f1, f2⟩ | ⟨f1, f2, f3, f4⟩
    · rw [e1, f1]
    · subst e2; exact absurd (sat.inj k i m f3 (by rw [hb]; simp) f4 hρ) f2
    · subst f2; exact absurd (sat.inj j i m e3 (by rw [hb]; simp) e4 hρ) e2
    · exact sat.inj j k m e3 f3 e4 f4
  · simp only [List.length_append, List.length_cons, List.length_nil, hset_length] at hj
    show (if j = h.length then _ else _) = _
    rw [if_neg (by omega)]; exact sat.fresh j (by omega)
  · obtain ⟨h1, c, e, f, h2, h3⟩ := sat.glob gl cs hg
    exact ⟨h1, c, e, f, h2, h3⟩
theorem ext_rename (sat : Sat γ h s) {i n : Nat} {b : AB} (hb : hget h i = some b) (hρ : s.ρ i = some n) : Ext h s (hset h i none ++ [some b]) (s.rename h.length n) := by
  have hil := hget_lt hb
  refine ⟨(grows_rename _ _ (sat.fresh _ (Nat.le_refl _))).ρ, fun _ h => h, fun _ h => .inl h, Nat.le_refl _, fun _ _ _ => rfl, fun _ c _ f h => ⟨c, f, h, rfl⟩, ?_, rfl, rfl, rfl, by simp [hset_length], fun i hi' => by show (if i = h.length then _ else _) = _; rw [if_neg (by omega)]⟩
  rintro m ⟨j, hj, hm⟩
  refine .inr ?_
  rw [hget_app, hset_length] at hj
  by_cases e : j = h.length
  · simp only [Wd.rename, e, if_true, Option.some.injEq] at hm; subst hm
    exact ⟨i, by rw [hb]; simp, hρ⟩
  · simp only [Wd.rename, if_neg e] at hm
    rw [if_neg e, hget_hset _ _ _ _ hil] at hj
    split at hj
    · exact absurd rfl hj
    · exact ⟨j, hj, hm⟩
/-- Sat looks at a heap's length and entries alone. -/
theorem sat_congr (sat : Sat γ h s) {h' : Heap} (hl : h'.length = h.length) (hg : ∀ i, hget h' i = hget h i) : Sat γ h' s :=
  sat_sub sat ⟨hl, fun i b hb => by rw [← hg]; exact hb⟩

/-- THE FRAME: what a piece of the heap has come to, laid back into the whole. -/
structure Merge (h hid h' R : Heap) : Prop where
  len : R.length = h'.length
  kept : ∀ i, i < hid.length → hget hid i = none → hget h i ≠ none → hget R i = hget h i
  new : ∀ i, ¬ (i < hid.length ∧ hget hid i = none ∧ hget h i ≠ none) → hget R i = hget h' i
theorem frame_none (sat : Sat γ h s) {hid h' : Heap} {s' : Wd} (u : Sub hid h) (e : Ext hid s h' s') {i : Nat} (hi : hget hid i = none) (hi2 : hget h i ≠ none) : hget h' i = none := by
  cases hb : hget h' i with
  | none => rfl
  | some b' =>
    exfalso
    cases hbb : hget h i with
    | none => exact hi2 hbb
    | some b =>
      obtain ⟨n, o, h1, h2, _, _⟩ := sat.blk i b hbb
      have hil : i < hid.length := by rw [u.len]; exact hget_lt hbb
      have hρ : s'.ρ i = some n := by rw [e.names i hil]; exact h1
      rcases e.own n ⟨i, by rw [hb]; simp, hρ⟩ with h3 | ⟨j, hj, hρj⟩
      · have := (Array.getElem?_eq_some_iff.1 h2).1; omega
      · have := sat.inj i j n hi2 (u.live hj) h1 hρj
        subst this
        exact hj hi
theorem sat_frame (sat : Sat γ h s) {hid h' R : Heap} {s' : Wd} (u : Sub hid h) (e : Ext hid s h' s') (sat' : Sat γ h' s') (m : Merge h hid h' R) : Sat γ R s' ∧ Ext h s R s' := by
  have satid : Sat γ hid s := sat_sub sat u
  have g : Grows s s' := e.grows satid
  have kept : ∀ i b, hget hid i = none → hget h i = some b → ∃ n o, s.ρ i = some n ∧ s'.ρ i = some n ∧ s.w.heap[n]? = some o ∧ s'.w.heap[n]? = some o ∧ RelB s b o ∧ ¬ s.I n ∧ ¬ Owned hid s n ∧ n < s.w.heap.size := by
    intro i b hi hb
    obtain ⟨n, o, h1, h2, h3, h4⟩ := sat.blk i b hb
    have hil : i < hid.length := by rw [u.len]; exact hget_lt hb
    have hlt := (Array.getElem?_eq_some_iff.1 h2).1
    have hno : ¬ Owned hid s n := by
      rintro ⟨j, hj, hρj⟩
      have := sat.inj i j n (by rw [hb]; simp) (u.live hj) h1 hρj
      subst this
      exact hj hi
    exact ⟨n, o, h1, by rw [e.names i hil]; exact h1, h2, (e.keep n hlt hno).trans h2, h3, h4, hno, hlt⟩
  have cls : ∀ i, hget R i ≠ none → (i < hid.length ∧ hget hid i = none ∧ hget h i ≠ none ∧ hget R i = hget h i) ∨ (hget h' i ≠ none ∧ hget R i = hget h' i) := by
    intro i hi
    by_cases hc : i < hid.length ∧ hget hid i = none ∧ hget h i ≠ none
    · exact .inl ⟨hc.1, hc.2.1, hc.2.2, m.kept i hc.1 hc.2.1 hc.2.2⟩
    · have := m.new i hc
      exact .inr ⟨by rwa [this] at hi, this⟩
  have notnew : ∀ i n, hget hid i = none → hget h i ≠ none → s.ρ i = some n → ¬ Owned h' s' n := by
    intro i n hi hi2 hρ ho
    cases hb : hget h i with
    | none => exact hi2 hb
    | some b =>
      obtain ⟨n', o, k1, k2, k3, k4, k5, k6, k7, k8⟩ := kept i b hi hb
      rw [hρ] at k1; cases k1
      rcases e.own n ho with h3 | h3
      · omega
      · exact k7 h3
  constructor
  · refine ⟨fun i b hb => ?_, fun i j n hi hj h1 h2 => ?_, fun i hi => sat'.fresh i (by rw [← m.len]; exact hi), sat'.imm, sat'.glob, sat'.dr, sat'.old⟩
    · rcases cls i (by rw [hb]; simp) with ⟨c1, c2, c3, c4⟩ | ⟨c1, c2⟩
      · rw [c4] at hb
        obtain ⟨n, o, k1, k2, k3, k4, k5, k6, k7, k8⟩ := kept i b c2 hb
        refine ⟨n, o, k2, k4, relB_mono g _ _ k5, fun hI => ?_⟩
        rcases e.inew n hI with h3 | h3 | h3
        · exact k6 h3
        · omega
        · exact k7 h3
      · rw [c2] at hb; exact sat'.blk i b hb
    · rcases cls i hi with ⟨a1, a2, a3, a4⟩ | ⟨a1, a2⟩ <;> rcases cls j hj with ⟨b1, b2, b3, b4⟩ | ⟨b1, b2⟩
      · rw [e.names i a1] at h1; rw [e.names j b1] at h2
        exact sat.inj i j n a3 b3 h1 h2
      · rw [e.names i a1] at h1
        exact absurd ⟨j, b1, h2⟩ (notnew i n a2 a3 h1)
      · rw [e.names j b1] at h2
        exact absurd ⟨i, a1, h1⟩ (notnew j n b2 b3 h2)
      · exact sat'.inj i j n a1 b1 h1 h2
  · refine ⟨e.ρ, e.I, fun n hn => ?_, e.size, fun n hn ho => e.keep n hn (fun ⟨i, hi, hρ⟩ => ho ⟨i, u.live hi, hρ⟩), e.rows, fun n ⟨i, hi, hρ⟩ => ?_, e.os, e.output, e.tape, by rw [m.len, ← u.len]; exact e.len, fun i hi => e.names i (by rw [u.len]; exact hi)⟩
    · rcases e.inew n hn with h1 | h1 | ⟨i, hi, hρ⟩
      · exact .inl h1
      · exact .inr (.inl h1)
      · exact .inr (.inr ⟨i, u.live hi, hρ⟩)
    · rcases cls i hi with ⟨c1, c2, c3, c4⟩ | ⟨c1, c2⟩
      · rw [e.names i c1] at hρ; exact .inr ⟨i, c3, hρ⟩
      · rcases e.own n ⟨i, c1, hρ⟩ with h1 | ⟨j, hj, hρj⟩
        · exact .inl h1
        · exact .inr ⟨j, u.live hj, hρj⟩

/-- A new block, at a place that is free. -/
theorem sat_alloc_at (sat : Sat γ h s) {i : Nat} (hil : i < h.length) (hfree : hget h i = none) (hi : s.ρ i = none) (b : AB) (o : Obj) (hb : RelB (s.alloc i o) b o) : Sat γ (hset h i (some b)) (s.alloc i o) := by
  have g := grows_alloc sat i hi o
  have old : ∀ i n, hget h i ≠ none → s.ρ i = some n → n < s.w.heap.size := fun i n hi hρ => by
    cases hb : hget h i with
    | none => exact absurd hb hi
    | some b =>
      obtain ⟨n', o', h1, h2, _⟩ := sat.blk i b hb
      rw [hρ] at h1; cases h1
      exact (Array.getElem?_eq_some_iff.1 h2).1
  refine ⟨fun j b' hb' => ?_, fun j k n hj hk h1 h2 => ?_, fun j hj => ?_, fun n hn => ?_, fun gl cs hg => ?_, sat.dr, sat.old.grow g rfl rfl rfl (by simp [Wd.alloc])⟩
  · rw [hget_hset _ _ _ _ hil] at hb'
    split at hb'
    · rename_i e; subst e; cases hb'
      refine ⟨s.w.heap.size, o, by simp [Wd.alloc], heap_alloc_new s.w o, hb, fun h => ?_⟩
      have := sat.imm _ h; omega
    · rename_i e
      obtain ⟨n, o', h1, h2, h3, h4⟩ := sat.blk j b' hb'
      exact ⟨n, o', g.ρ _ _ h1, (heap_alloc_old s.w o n (Array.getElem?_eq_some_iff.1 h2).1).trans h2, relB_mono g _ _ h3, h4⟩
  · rw [hget_hset _ _ _ _ hil] at hj hk
    by_cases e1 : j = i <;> by_cases e2 : k = i
    · rw [e1, e2]
    · rw [if_neg e2] at hk
      simp only [Wd.alloc, e1, if_true, Option.some.injEq] at h1
      simp only [Wd.alloc, if_neg e2] at h2
      have := old k n hk h2; omega
    · rw [if_neg e1] at hj
      simp only [Wd.alloc, e2, if_true, Option.some.injEq] at h2
      simp only [Wd.alloc, if_neg e1] at h1
      have := old j n hj h1; omega
    · rw [if_neg e1] at hj; rw [if_neg e2] at hk
      simp only [Wd.alloc, if_neg e1] at h1; simp only [Wd.alloc, if_neg e2] at h2
      exact sat.inj j k n hj hk h1 h2
  · rw [hset_length] at hj
    show (if j = i then _ else _) = _
    rw [if_neg (by omega)]; exact sat.fresh j hj
  · show n < (s.w.alloc o).heap.size
    rw [World.size_alloc]; have := sat.imm n hn; omega
  · obtain ⟨h1, c, e, f, h2, h3⟩ := sat.glob gl cs hg
    exact ⟨h1, c, e, f, (heap_alloc_old s.w o gl (sat.imm gl h1)).trans h2, relDs_mono g.I g.same _ _ h3⟩
theorem ext_alloc_at {h0 : Heap} {s0 : Wd} (e0 : Ext h0 s0 h s) (sat : Sat γ h s) {i : Nat} (h0i : h0.length ≤ i) (hil : i < h.length) (hi : s.ρ i = none) (b : AB) (o : Obj) : Ext h0 s0 (hset h i (some b)) (s.alloc i o) := by
  have g := grows_alloc sat i hi o
  refine ⟨fun j n hj => g.ρ _ _ (e0.ρ j n hj), e0.I, e0.inew, by show _ ≤ (s.w.alloc o).heap.size; rw [World.size_alloc]; have := e0.size; omega, fun n hn ho => (heap_alloc_old s.w o n (Nat.lt_of_lt_of_le hn e0.size)).trans (e0.keep n hn ho), fun n c e f hn => ?_, ?_, e0.os, e0.output, e0.tape, by rw [hset_length]; exact e0.len, fun j hj => ?_⟩
  · obtain ⟨c1, f1, h1, h2⟩ := e0.rows n c e f hn
    obtain ⟨c2, f2, h3, h4⟩ := rows_alloc s.w o n c1 e f1 h1
    exact ⟨c2, f2, h3, h4.trans h2⟩
  · rintro n ⟨j, hj, hρ⟩
    rw [hget_hset _ _ _ _ hil] at hj
    by_cases e : j = i
    · simp only [Wd.alloc, e, if_true, Option.some.injEq] at hρ
      have := e0.size
      exact .inl (by omega)
    · rw [if_neg e] at hj; simp only [Wd.alloc, if_neg e] at hρ
      exact e0.own n ⟨j, hj, hρ⟩
  · show (if j = i then _ else _) = _
    rw [if_neg (by omega)]; exact e0.names j hj
end

end Go.Abs

namespace Go.Abs

/-! Conditions that the walk stops at. -/
/- (types of their own, not definitions: neither the elaborator nor the kernel looks into them) -/
inductive condA (b : Bool) (p q : Prop) : Prop where
  | yes (h : b = true) (k : p)
  | no (h : b = false) (k : q)
theorem condA_true {b : Bool} {p q : Prop} (hb : b = true) (h : p) : condA b p q := .yes hb h
theorem condA_false {b : Bool} {p q : Prop} (hb : b = false) (h : q) : condA b p q := .no hb h
theorem condA_elim {b : Bool} {p q : Prop} (h : condA b p q) : (b = true ∧ p) ∨ (b = false ∧ q) := by
  cases h with
  | yes h k => exact .inl ⟨h, k⟩
  | no h k => exact .inr ⟨h, k⟩
theorem condA_by {b : Bool} {p q : Prop} (h1 : b = true → p) (h2 : b = false → q) : condA b p q := by
  cases h : b with
  | true => exact .yes rfl (h1 h)
  | false => exact .no rfl (h2 h)
structure ReqA (c : Prop) (k : Prop) : Prop where
  c : c
  k : k
theorem req {c k : Prop} (h : c) (hk : k) : ReqA c k := ⟨h, hk⟩
inductive OptA {α : Type} (x : Option α) (K : α → Prop) : Prop where
  | mk (v : α) (h : x = some v) (k : K v)
theorem optA {α : Type} {x : Option α} {K : α → Prop} (v : α) (h : x = some v) (hk : K v) : OptA x K := ⟨v, h, hk⟩
def optR {α : Type} (x : Option α) (K : α → Prop) : Prop := match x with | some v => K v | none => False
theorem optR_elim {α : Type} {x : Option α} {K : α → Prop} (h : optR x K) : ∃ v, x = some v ∧ K v := by cases x <;> simp_all [optR]

/-! Types. -/
inductive TK where
  | st (fs : List (Nat × Nat × Nat))   -- offset, type, cells
  | arr (n e : Nat)
  | slc (e : Nat)
  | mp (k e : Nat)
  | pt (e : Nat)
  | ifc
  | int (k : IntKind)
  | str | bool | oth
structure TyI where
  size : Nat
  bytes : Nat
  k : TK
  zero : DV

def TK.isAgg : TK → Bool
  | .st _ | .arr _ _ => true
  | _ => false

/-- The kinds of a struct's cells, where they are scalars. -/
inductive CK where
  | int (k : IntKind)
  | str | bool
structure Cx extends Gl where
  T : Nat → Option TyI
  S : Nat → Option (List CK)

def CK.ok : CK → Value → Prop
  | .int k, v => ∃ n, v = .int k n
  | .str, v => ∃ s, v = .string s
  | .bool, v => ∃ b, v = .bool b
def kindsV : List CK → List Value → Prop
  | [], [] => True
  | k :: ks, v :: vs => k.ok v ∧ kindsV ks vs
  | _, _ => False
def eq1 : Value → Value → Bool
  | .int _ a, .int _ b => a == b
  | .string a, .string b => a == b
  | .bool a, .bool b => a == b
  | _, _ => false
def eqV : List Value → List Value → Bool
  | [], [] => true
  | v :: vs, u :: us => eq1 v u && eqV vs us
  | _, _ => false
/-- A struct of scalars: it is a key, it is compared. -/
structure StructOK (P : Program) (t : Nat) (ks : List CK) : Prop where
  desc : ∃ fields, P.underlying t = some (.struct fields)
  check : ∀ (b : Bool) (vs : Array Value) (w : World), kindsV ks vs.toList → (Instr.checkKey b 10000 t (.agg vs)).run P w = .ok () w
  eq : ∀ (vs us : Array Value) (w : World), kindsV ks vs.toList → kindsV ks us.toList → (Op.equal t (.agg vs) (.agg us)).run P w = .ok (eqV vs.toList us.toList) w
  guard : ∀ (op : BinOp) (x y : Operand) (vs us : Array Value) (w : World), kindsV ks vs.toList → kindsV ks us.toList → (eqGuard op t x y (.agg vs) (.agg us)).run P w = .ok () w

def TKOK (P : Program) : TypeDesc → TK → Prop
  | .struct fields, .st fs => fs.length = fields.size ∧ ∀ (i : Nat) (f : Field), fields[i]? = some f → fs[i]? = some (f.offset, f.type, P.cellsOf f.type) ∧ ∃ j, P.info? f.type = some j
  | .array n e, .arr n' e' => n = n' ∧ e = e'
  | .slice e, .slc e' => e = e'
  | .map k e, .mp k' e' => k = k' ∧ e = e'
  | .pointer e, .pt e' => e = e'
  | .interface _, .ifc => True
  | .int k, .int k' => k = k'
  | .string, .str => True
  | .bool, .bool => True
  | .struct _, _ | .array _ _, _ | .interface _, _ => False
  | _, .oth => True
  | _, _ => False

def TyOK (P : Program) (t : Nat) (ti : TyI) : Prop :=
  ∃ info desc z, P.info? t = some info ∧ P.underlying t = some desc ∧ info.size = ti.size ∧ info.bytes = ti.bytes ∧ info.zero = some z ∧
    (∀ I w, RelD I w ti.zero z) ∧ TKOK P desc ti.k

structure CxOK (cx : Cx) : Prop where
  types : ∀ t ti, cx.T t = some ti → TyOK cx.P t ti
  structs : ∀ t ks, cx.S t = some ks → StructOK cx.P t ks
  zsize : ∀ e te z, cx.T e = some te → ((cx.P.info? e).bind (·.zero)) = some z → z.cells.size = te.size

/-! Lists, by plain recursion. -/
def nth {α : Type} (l : List α) (i : Nat) : Option α := match l with
  | [] => none
  | x :: r => match i with
    | 0 => some x
    | i + 1 => nth r i
def ltakeI {α : Type} : Nat → List α → List α
  | 0, _ => []
  | _ + 1, [] => []
  | i + 1, x :: r => x :: ltakeI i r
def ltake {α : Type} (l : List α) (i : Nat) : List α := ltakeI i l
def ldropI {α : Type} : Nat → List α → List α
  | 0, l => l
  | _ + 1, [] => []
  | i + 1, _ :: r => ldropI i r
def ldrop {α : Type} (l : List α) (i : Nat) : List α := ldropI i l
theorem nth_eq {α : Type} (l : List α) (i : Nat) : nth l i = l[i]? := by
  induction l generalizing i with
  | nil => simp [nth]
  | cons x r ih => cases i <;> simp [nth, ih]
theorem ltake_eq {α : Type} (l : List α) (i : Nat) : ltake l i = l.take i := by
  show ltakeI i l = _
  induction i generalizing l with
  | zero => simp [ltakeI]
  | succ i ih => cases l <;> simp [ltakeI, ih]
theorem ldrop_eq {α : Type} (l : List α) (i : Nat) : ldrop l i = l.drop i := by
  show ldropI i l = _
  induction i generalizing l with
  | zero => simp [ldropI]
  | succ i ih => cases l <;> simp [ldropI, ih]
/-- The cells vs laid over l from i on; none: they do not fit. -/
def lput {α : Type} (l : List α) (i : Nat) (vs : List α) : Option (List α) := match i with
  | 0 => match vs with
    | [] => some l
    | v :: vs => match l with
      | [] => none
      | _ :: r => (lput r 0 vs).map (v :: ·)
  | i + 1 => match l with
    | [] => none
    | x :: r => (lput r i vs).map (x :: ·)
theorem lput_eq {α : Type} {l : List α} {i : Nat} {vs l' : List α} (h : lput l i vs = some l') : i + vs.length ≤ l.length ∧ l' = l.take i ++ vs ++ l.drop (i + vs.length) := by
  induction l generalizing i vs l' with
  | nil =>
    cases i with
    | zero => cases vs <;> simp_all [lput]
    | succ i => simp [lput] at h
  | cons x r ih =>
    cases i with
    | zero =>
      cases vs with
      | nil => simp [lput] at h; simp [h]
      | cons v vs =>
        simp only [lput, Option.map_eq_some_iff] at h
        obtain ⟨r', h1, rfl⟩ := h
        obtain ⟨h2, h3⟩ := ih h1
        simp at h2 h3
        simp [h2, h3]
    | succ i =>
      simp only [lput, Option.map_eq_some_iff] at h
      obtain ⟨r', h1, rfl⟩ := h
      obtain ⟨h2, h3⟩ := ih h1
      refine ⟨by simp; omega, ?_⟩
      simp [h3, Nat.add_right_comm]

/-! Values. -/
def vD1 : Value → DV
  | .int k n => .int k n
  | .bool b => .bool b
  | .string s => .str s
  | .pointer none => .nilp
  | .slice none 0 0 => .nils
  | .map none => .nilm
  | .nilFunc => .nilf
  | .nilIface => .nili
  | _ => .bad
def vD : Value → DV
  | .agg cs => .agg (cs.toList.map vD1)
  | .tuple cs => .tup (cs.toList.map vD1)
  | v => vD1 v
theorem relD_vD1 (I : Nat → Prop) (w : World) (v : Value) : RelD I w (vD1 v) v := by
  unfold vD1; split <;> simp [RelD]
theorem relDs_vD1 (I : Nat → Prop) (w : World) (vs : List Value) : RelDs I w (vs.map vD1) vs := by
  induction vs with
  | nil => simp [RelDs]
  | cons v r ih => simp only [List.map_cons, RelDs]; exact ⟨relD_vD1 I w v, ih⟩
theorem relD_vD (I : Nat → Prop) (w : World) (v : Value) : RelD I w (vD v) v := by
  unfold vD; split
  · simp only [RelD]; exact ⟨_, rfl, by simp, relDs_vD1 I w _⟩
  · simp only [RelD]; exact ⟨_, rfl, by simp, relDs_vD1 I w _⟩
  · exact relD_vD1 I w v

def evA (e : Env) : Operand → AV
  | .tmp t => e t
  | .const v => .dat (vD v)
  | .global g => .dat (.gptr g)
  | .func f => .dat (.fn f)

def cellsOf : AV → List AV
  | .dat (.agg cs) => cs.map .dat
  | .agg cs => cs
  | v => [v]
/-- What can be said of a value's cells. -/
def solid : AV → Bool
  | .dat .bad => false
  | _ => true
def isCell : AV → Bool
  | .dat .bad | .dat (.agg _) | .dat (.tup _) | .agg _ | .tup _ => false
  | _ => true
def allCell : List AV → Bool
  | [] => true
  | c :: r => match isCell c with
    | true => allCell r
    | false => false
theorem allCell_iff {l : List AV} : allCell l = true ↔ ∀ a ∈ l, isCell a = true := by
  induction l with
  | nil => simp [allCell]
  | cons c r ih =>
    cases h : isCell c <;> simp [allCell, h, ih]

theorem rel_isCell {s : Wd} {a : AV} {v : Value} (h : Rel s a v) (hs : isCell a = true) : v.oneCell' = true := by
  cases a with
  | dat d =>
    cases d with
    | bad => simp [isCell] at hs
    | agg => simp [isCell] at hs
    | tup => simp [isCell] at hs
    | ros => simp only [Rel, RelD] at h; rcases h with ⟨_, _, _, _, rfl⟩ | ⟨_, _, _, _, _, _, rfl, _⟩ <;> rfl
    | rptr => simp only [Rel, RelD] at h; obtain ⟨_, _, _, _, _, rfl, _⟩ := h; rfl
    | iface => simp only [Rel, RelD] at h; obtain ⟨_, rfl, _⟩ := h; rfl
    | _ => simp only [Rel, RelD] at h; subst h; rfl
  | ptr => simp only [Rel] at h; obtain ⟨_, _, rfl⟩ := h; rfl
  | map => simp only [Rel] at h; obtain ⟨_, _, rfl⟩ := h; rfl
  | yld => simp only [Rel] at h; obtain ⟨_, _, rfl⟩ := h; rfl
  | sl => simp only [Rel] at h; obtain ⟨_, _, _, _, _, _, rfl, _⟩ := h; rfl
  | func => simp only [Rel] at h; obtain ⟨_, rfl, _⟩ := h; rfl
  | iface => simp only [Rel] at h; obtain ⟨_, rfl, _⟩ := h; rfl
  | agg cs => simp [isCell] at hs
  | tup => simp [isCell] at hs
theorem rel_cells {s : Wd} {a : AV} {v : Value} (h : Rel s a v) (hs : solid a = true) : (cellsOf a).length = v.cells.size ∧ Rels s (cellsOf a) v.cells.toList := by
  have one : ∀ (u : Value), u.oneCell' = true → u.cells = #[u] := fun u hu => by cases u <;> first | rfl | simp [Value.oneCell'] at hu
  unfold cellsOf
  split
  · rename_i cs
    simp only [Rel, RelD] at h
    obtain ⟨vs, rfl, h1, h2⟩ := h
    exact ⟨by simpa [Value.cells] using h1, by simpa [Value.cells, rels_dat] using h2⟩
  · rename_i cs
    simp only [Rel] at h
    obtain ⟨vs, rfl, h1, h2⟩ := h
    exact ⟨by simpa [Value.cells] using h1, by simpa [Value.cells] using h2⟩
  · rename_i h1 h2
    have : v.cells = #[v] := by
      by_cases hc : isCell a = true
      · exact one v (rel_isCell h hc)
      · cases a with
        | dat d =>
          cases d with
          | bad => simp [solid] at hs
          | agg cs => exact absurd rfl (h1 cs)
          | tup => simp only [Rel, RelD] at h; obtain ⟨_, rfl, _⟩ := h; rfl
          | _ => simp [isCell] at hc
        | agg cs => exact absurd rfl (h2 cs)
        | tup => simp only [Rel] at h; obtain ⟨_, rfl, _⟩ := h; rfl
        | _ => simp [isCell] at hc
    rw [this]
    simp [Rels, h]
theorem rels_allCell {s : Wd} {cs : List AV} {vs : List Value} (h : Rels s cs vs) (hl : cs.length = vs.length) (hs : ∀ a ∈ cs, isCell a = true) : ∀ v ∈ vs, v.oneCell' = true := by
  intro v hv
  obtain ⟨i, hi, rfl⟩ := List.mem_iff_getElem.1 hv
  obtain ⟨v', h1, h2⟩ := rels_iff.1 h i cs[i] (by rw [List.getElem?_eq_getElem])
  rw [List.getElem?_eq_getElem hi] at h1; cases h1
  exact rel_isCell h2 (hs _ (List.getElem_mem _))

theorem rels_take {s : Wd} {cs : List AV} {vs : List Value} (h : Rels s cs vs) (n : Nat) : Rels s (cs.take n) (vs.take n) := by
  rw [rels_iff] at h ⊢
  intro i d hd
  rw [List.getElem?_take] at hd ⊢
  split at hd
  · rename_i hi; rw [if_pos hi]; exact h i d hd
  · cases hd
theorem rels_drop {s : Wd} {cs : List AV} {vs : List Value} (h : Rels s cs vs) (n : Nat) : Rels s (cs.drop n) (vs.drop n) := by
  rw [rels_iff] at h ⊢
  intro i d hd
  rw [List.getElem?_drop] at hd ⊢
  exact h _ d hd
theorem relDs_drop {I : Nat → Prop} {w : World} {cs : List DV} {vs : List Value} (h : RelDs I w cs vs) (n : Nat) : RelDs I w (cs.drop n) (vs.drop n) := by
  rw [relDs_iff] at h ⊢
  intro i d hd
  rw [List.getElem?_drop] at hd ⊢
  exact h _ d hd
theorem relDs_take {I : Nat → Prop} {w : World} {cs : List DV} {vs : List Value} (h : RelDs I w cs vs) (n : Nat) : RelDs I w (cs.take n) (vs.take n) := by
  rw [relDs_iff] at h ⊢
  intro i d hd
  rw [List.getElem?_take] at hd ⊢
  split at hd
  · rename_i hi; rw [if_pos hi]; exact h i d hd
  · cases hd
theorem rels_append {s : Wd} {cs cs' : List AV} {vs vs' : List Value} (h : Rels s cs vs) (hl : cs.length = vs.length) (h' : Rels s cs' vs') : Rels s (cs ++ cs') (vs ++ vs') := by
  induction cs generalizing vs with
  | nil => cases vs <;> simp_all
  | cons c r ih =>
    cases vs with
    | nil => simp at hl
    | cons v t =>
      simp only [Rels, List.cons_append] at h ⊢
      exact ⟨h.1, ih h.2 (by simpa using hl)⟩
theorem rels_weak {s : Wd} {cs : List AV} {vs vs' : List Value} (h : Rels s cs vs) : Rels s cs (vs ++ vs') := by
  rw [rels_iff] at h ⊢
  intro i d hd
  obtain ⟨v, h1, h2⟩ := h i d hd
  exact ⟨v, by rw [List.getElem?_append_left (List.getElem?_eq_some_iff.1 h1).1]; exact h1, h2⟩
theorem rels_length {s : Wd} {cs : List AV} {vs : List Value} (h : Rels s cs vs) : cs.length ≤ vs.length := by
  rcases Nat.lt_or_ge vs.length cs.length with hl | hl
  · obtain ⟨v, h1, _⟩ := rels_iff.1 h vs.length cs[vs.length] (by rw [List.getElem?_eq_getElem])
    simp at h1
  · exact hl
theorem relDs_length {I : Nat → Prop} {w : World} {cs : List DV} {vs : List Value} (h : RelDs I w cs vs) : cs.length ≤ vs.length := by
  rcases Nat.lt_or_ge vs.length cs.length with hl | hl
  · obtain ⟨v, h1, _⟩ := relDs_iff.1 h vs.length cs[vs.length] (by rw [List.getElem?_eq_getElem])
    simp at h1
  · exact hl

end Go.Abs

namespace Go.Abs

/-! What an operation comes to. -/
def OpOut (P : Program) (r : Result Next) (R : Value → World → Prop) : Prop :=
  match r with
  | .ok (.value v) w' => R v w'
  | .ok .skip w' => R undef w'
  | .ok (.enter f args) w' => Calls P f args w' fun e w'' => ∃ v, e = .returned v ∧ R v w''
  | _ => False

def Post (cx : Cx) (h : Heap) (s : Wd) (K : AV → Heap → Prop) (v : Value) (w' : World) : Prop :=
  ∃ a h' s', s'.w = w' ∧ K a h' ∧ Rel s' a v ∧ Sat cx.toGl h' s' ∧ Ext h s h' s'

theorem Post.mono {cx : Cx} {h : Heap} {s : Wd} {K K' : AV → Heap → Prop} {v : Value} {w : World} (p : Post cx h s K v w) (hk : ∀ a h', K a h' → K' a h') : Post cx h s K' v w := by
  obtain ⟨a, h', s', h1, h2, h3⟩ := p
  exact ⟨a, h', s', h1, hk _ _ h2, h3⟩
theorem post_same {cx : Cx} {h : Heap} {s : Wd} {K : AV → Heap → Prop} {v : Value} {a : AV} (sat : Sat cx.toGl h s) (hk : K a h) (hr : Rel s a v) : Post cx h s K v s.w :=
  ⟨a, h, s, rfl, hk, hr, sat, Ext.refl h s⟩

/-- A call, with its contract over the heap. -/
structure CallA (cx : Cx) (f : Nat) (args : List AV) (h : Heap) (K : AV → Heap → Prop) : Prop where
  run : ∀ (s : Wd) (vs : Array Value), Sat cx.toGl h s → args.length = vs.size → Rels s args vs.toList →
    (callFunc f vs).run cx.P s.w = .ok (.enter f vs) s.w ∧
    Calls cx.P f vs s.w fun e w' => ∃ v, e = .returned v ∧ Post cx h s K v w'

theorem CallA.mono {cx : Cx} {f : Nat} {args : List AV} {h : Heap} {K K' : AV → Heap → Prop} (c : CallA cx f args h K) (hk : ∀ a h', K a h' → K' a h') : CallA cx f args h K' := by
  constructor
  intro s vs sat hl hr
  obtain ⟨h1, h2⟩ := c.run s vs sat hl hr
  exact ⟨h1, h2.mono fun e w' ⟨v, he, hp⟩ => ⟨v, he, hp.mono hk⟩⟩

def EvR (s : Wd) (e : Env) (ev : Operand → Value) : Prop := ∀ x, Rel s (evA e x) (ev x)
theorem EvR.mono {s s' : Wd} {e : Env} {ev : Operand → Value} (h : EvR s e ev) (g : Grows s s') : EvR s' e ev := fun x => rel_mono g _ _ (h x)

/-! Scalars. -/
def kEq : IntKind → IntKind → Bool
  | .i8, .i8 | .i16, .i16 | .i32, .i32 | .i64, .i64 | .u8, .u8 | .u16, .u16 | .u32, .u32 | .u64, .u64 => true
  | _, _ => false
theorem kEq_iff {a b : IntKind} : kEq a b = true ↔ a = b := by cases a <;> cases b <;> simp [kEq]

def intA (op : BinOp) (k : IntKind) (a b : Int) : Option DV :=
  match op with
  | .add => some (.int k (k.wrap (a + b)))
  | .sub => some (.int k (k.wrap (a - b)))
  | .mul => some (.int k (k.wrap (a * b)))
  | .and => some (.int k (k.wrap (BitVec.ofInt k.bits a &&& BitVec.ofInt k.bits b).toNat))
  | .or => some (.int k (k.wrap (BitVec.ofInt k.bits a ||| BitVec.ofInt k.bits b).toNat))
  | .xor => some (.int k (k.wrap (BitVec.ofInt k.bits a ^^^ BitVec.ofInt k.bits b).toNat))
  | .andNot => some (.int k (k.wrap (BitVec.ofInt k.bits a &&& ~~~ BitVec.ofInt k.bits b).toNat))
  | .eql => some (.bool (a == b))
  | .neq => some (.bool (a != b))
  | .lss => some (.bool (decide (a < b)))
  | .leq => some (.bool (decide (a ≤ b)))
  | .gtr => some (.bool (decide (a > b)))
  | .geq => some (.bool (decide (a ≥ b)))
  | _ => none
def strA (op : BinOp) (a b : ByteArray) : Option DV :=
  match op with
  | .eql => some (.bool (a.toList == b.toList))
  | .neq => some (.bool (!(a.toList == b.toList)))
  | .lss => some (.bool (Op.bytesLess a.toList b.toList))
  | .leq => some (.bool (Op.bytesLess a.toList b.toList || a.toList == b.toList))
  | .gtr => some (.bool (!(Op.bytesLess a.toList b.toList || a.toList == b.toList)))
  | .geq => some (.bool (!(Op.bytesLess a.toList b.toList)))
  | _ => none

theorem run_intA {P : Program} {op : BinOp} {k : IntKind} {a b : Int} {d : DV} (h : intA op k a b = some d) (t : Nat) (w : World) :
    ∃ v, (binOp op t (.int k a) (.int k b)).run P w = .ok v w ∧ ∀ I w, RelD I w d v := by
  cases op <;> simp only [intA, Option.some.injEq, reduceCtorEq] at h <;> subst h <;>
    simp [binOp, Op.intArith, Op.intBits, Op.intCmp, RelD]
theorem run_strA {P : Program} {op : BinOp} {a b : ByteArray} {d : DV} (h : strA op a b = some d) (t : Nat) (w : World) :
    ∃ v, (binOp op t (.string a) (.string b)).run P w = .ok v w ∧ ∀ I w, RelD I w d v := by
  cases op <;> simp only [strA, Option.some.injEq, reduceCtorEq] at h <;> subst h <;>
    simp [binOp, Op.stringOp, RelD]

/-- A key, or a value that is compared: scalars, or structs of scalars. -/
def keyEq1 : DV → DV → Option Bool
  | .int k a, .int k' b => match kEq k k' with
    | true => some (a == b)
    | false => none
  | .str a, .str b => some (a == b)
  | .bool a, .bool b => some (a == b)
  | _, _ => none
def keyEqs : List DV → List DV → Option Bool
  | [], [] => some true
  | x :: xs, y :: ys => match keyEq1 x y, keyEqs xs ys with
    | some a, some b => some (a && b)
    | _, _ => none
  | _, _ => none
def keyEq : DV → DV → Option Bool
  | .agg xs, .agg ys => keyEqs xs ys
  | x, y => keyEq1 x y

/-! One operation. -/
def hasTy (cx : Cx) (t : Nat) (K : TyI → Prop) : Prop := match cx.T t with
  | some ti => K ti
  | none => False
theorem hasTy_elim {cx : Cx} {t : Nat} {K : TyI → Prop} (h : hasTy cx t K) : ∃ ti, cx.T t = some ti ∧ K ti := by
  unfold hasTy at h; split at h
  · exact ⟨_, by assumption, h⟩
  · exact h.elim

/-- A variable of cells cs at place o. -/
def cutA (ti : TyI) (cs : List AV) (o : Nat) (K : AV → Prop) : Prop := match ti.k.isAgg with
  | true => match Nat.beq (ltake (ldrop cs o) ti.size).length ti.size with
    | true => K (.agg (ltake (ldrop cs o) ti.size))
    | false => False
  | false => match nth cs o with
    | some v => K v
    | none => False
def cutD (ti : TyI) (cs : List DV) (o : Nat) : Option DV := match ti.k.isAgg with
  | true => match Nat.beq (ltake (ldrop cs o) ti.size).length ti.size with
    | true => some (.agg (ltake (ldrop cs o) ti.size))
    | false => none
  | false => nth cs o

def loadA (cx : Cx) (ti : TyI) (a : AV) (h : Heap) (K : AV → Prop) : Prop := match a with
  | .ptr i o => match hget h i with
    | some (.cells cs _ _) => cutA ti cs o K
    | _ => False
  | .dat (.rptr cs o) => OptA (cutD ti cs o) fun d => K (.dat d)
  | .dat (.gptr g) => match cx.Γ g with
    | some cs => OptA (cutD ti cs 0) fun d => K (.dat d)
    | none => False
  | _ => False

/-- Loaded: what stands at ⟨b, o⟩ as a variable of a type. -/
theorem run_loadVar {cx : Cx} {t : Nat} {ti : TyI} (ok : CxOK cx) (ht : cx.T t = some ti) {w : World} {b o : Nat} {c : Array Value} {e : Nat} {f : Nat × Nat} (hb : w.heap[b]? = some (.cells c e f)) :
    (ti.k.isAgg = true → ((c.toList.drop o).take ti.size).length = ti.size → (loadVar t ⟨b, o, none⟩).run cx.P w = .ok (.agg ((c.toList.drop o).take ti.size).toArray) w) ∧
    (ti.k.isAgg = false → ∀ v, c[o]? = some v → (loadVar t ⟨b, o, none⟩).run cx.P w = .ok v w) := by
  obtain ⟨info, desc, z, hi, hu, hsz, _, _, _, hk⟩ := ok.types t ti ht
  have hagg : (isAgg t).run cx.P w = .ok ti.k.isAgg w := by
    unfold isAgg
    rw [Sem.run_bind, run_underlying hu w]
    cases desc <;> cases hk' : ti.k <;> rw [hk'] at hk <;> simp_all [TKOK, TK.isAgg]
  have hcell : ∀ j v, c[o + j]? = some v → w.cell? ((⟨b, o, none⟩ : Addr).add j) = some v := fun j v hv => by
    have hadd : (⟨b, o, none⟩ : Addr).add j = ⟨b, o + j, none⟩ := by unfold Addr.add; split <;> simp_all
    rw [hadd, cell_of_row w b (o + j) c e f hb]; exact hv
  constructor
  · intro ha hs
    have hl := run_loadCells_list (P := cx.P) w ⟨b, o, none⟩ ((c.toList.drop o).take ti.size) (fun j v hv => hcell j v (by
      rw [List.getElem?_take] at hv
      split at hv
      · rw [List.getElem?_drop] at hv; simpa using hv
      · cases hv))
    rw [hs] at hl
    simp [loadVar, Sem.run_bind, hagg, ha, sizeOf, typeInfo, hi, hsz, hl]
  · intro ha v hv
    have := hcell 0 v (by simpa using hv)
    simp only [Addr.add, if_true] at this
    simp [loadVar, Sem.run_bind, hagg, ha, this]

theorem loadA_sound {cx : Cx} {t : Nat} {ti : TyI} (ok : CxOK cx) (ht : cx.T t = some ti) {h : Heap} {s : Wd} (sat : Sat cx.toGl h s) {a : AV} {u : Value} (hr : Rel s a u) {K : AV → Prop}
    (hl : loadA cx ti a h K) : ∃ v r, (Instr.loadAt t u).run cx.P s.w = .ok v s.w ∧ K r ∧ Rel s r v := by
  have cut : ∀ (b o : Nat) (c : Array Value) e f (cs : List DV), s.w.heap[b]? = some (.cells c e f) → ∀ j, RelDs s.I s.w cs (c.toList.drop o) → ∀ d, cutD ti cs j = some d →
      ∃ v, (loadVar t ⟨b, o + j, none⟩).run cx.P s.w = .ok v s.w ∧ Rel s (.dat d) v := by
    intro b o c e f cs hb j hrel d hd
    obtain ⟨r1, r2⟩ := run_loadVar ok ht (o := o + j) hb
    unfold cutD at hd
    cases hag : ti.k.isAgg with
    | true =>
      simp only [hag] at hd
      split at hd
      · rename_i hbeq
        simp only [Option.some.injEq] at hd; subst hd
        rw [ltake_eq, ldrop_eq] at *
        have hlen : ((cs.drop j).take ti.size).length = ti.size := Nat.eq_of_beq_eq_true hbeq
        have hrel2 := relDs_take (relDs_drop hrel j) ti.size
        rw [List.drop_drop] at hrel2
        have hl1 := relDs_length hrel
        have hsz : ((c.toList.drop (o + j)).take ti.size).length = ti.size := by
          simp only [List.length_take, List.length_drop, Array.length_toList] at hlen hl1 ⊢
          omega
        refine ⟨_, r1 hag hsz, ?_⟩
        simp only [Rel, RelD]
        exact ⟨_, rfl, by rw [hlen]; exact hsz.symm, hrel2⟩
      · cases hd
    | false =>
      simp only [hag, nth_eq] at hd
      obtain ⟨v, hv, hd'⟩ := relDs_iff.1 hrel j d hd
      rw [List.getElem?_drop] at hv
      exact ⟨v, r2 hag v (by simpa using hv), by simpa [Rel] using hd'⟩
  unfold loadA at hl
  split at hl
  · rename_i i o
    simp only [Rel] at hr
    obtain ⟨b, hρ, rfl⟩ := hr
    split at hl
    · rename_i cs e gr hg
      obtain ⟨n, ob, h1, h2, h3, _⟩ := sat.blk i _ hg
      rw [hρ] at h1; cases h1
      obtain ⟨c, rfl, hrel, _⟩ := h3
      obtain ⟨r1, r2⟩ := run_loadVar ok ht (o := o) h2
      unfold cutA at hl
      cases hag : ti.k.isAgg with
      | true =>
        simp only [hag] at hl
        split at hl
        · rename_i hbeq
          rw [ltake_eq, ldrop_eq] at *
          have hlen : ((cs.drop o).take ti.size).length = ti.size := Nat.eq_of_beq_eq_true hbeq
          have hrel2 := rels_take (rels_drop hrel o) ti.size
          have hl1 := rels_length hrel
          have hsz : ((c.toList.drop o).take ti.size).length = ti.size := by
            simp only [List.length_take, List.length_drop, Array.length_toList] at hlen hl1 ⊢
            omega
          refine ⟨_, _, by simpa [Instr.loadAt, Instr.sureAddr] using r1 hag hsz, hl, ?_⟩
          simp only [Rel]
          exact ⟨_, rfl, by rw [hlen]; exact hsz.symm, hrel2⟩
        · exact hl.elim
      | false =>
        simp only [hag, nth_eq] at hl
        split at hl
        · rename_i d hd
          obtain ⟨v, hv, hd'⟩ := rels_iff.1 hrel o d hd
          exact ⟨v, _, by simpa [Instr.loadAt, Instr.sureAddr] using r2 hag v (by simpa using hv), hl, hd'⟩
        · exact hl.elim
    · exact hl.elim
  · rename_i cs j
    simp only [Rel, RelD] at hr
    obtain ⟨b, o, c, e, f, rfl, hI, hb, hrel⟩ := hr
    obtain ⟨d, hd, hk⟩ := hl
    obtain ⟨v, h1, h2⟩ := cut b o c e f cs hb j hrel d hd
    exact ⟨v, _, by simpa [Instr.loadAt, Instr.sureAddr] using h1, hk, h2⟩
  · rename_i g
    simp only [Rel, RelD] at hr
    subst hr
    split at hl
    · rename_i cs hg
      obtain ⟨d, hd, hk⟩ := hl
      obtain ⟨_, c, e, f, hb, hrel⟩ := sat.glob g cs hg
      obtain ⟨v, h1, h2⟩ := cut g 0 c e f cs hb 0 (by simpa using hrel) d hd
      exact ⟨v, _, by simpa [Instr.loadAt, Instr.sureAddr] using h1, hk, h2⟩
    · exact hl.elim
  · exact hl.elim

end Go.Abs

namespace Go.Abs

/-! Stores. -/
def storeA (ti : TyI) (a v : AV) (h : Heap) (K : AV → Heap → Prop) : Prop := match a with
  | .ptr i o => match hget h i with
    | some (.cells cs e g) => match allCell (cellsOf v) with
      | true => match Nat.beq (cellsOf v).length ti.size with
        | true => match lput cs o (cellsOf v) with
          | some cs' => K (.dat (.tup [])) (hset h i (some (.cells cs' e g)))
          | none => False
        | false => False
      | false => False
    | _ => False
  | _ => False

theorem setRow_wput {w : World} {g : Nat} {cur c : Array Value} {t : Nat} {f : Nat × Nat} (hg : w.heap[g]? = some (.cells cur t f)) : w.setRow g c = wput w g (.cells c t f) := by
  obtain ⟨hlt, hv⟩ := Array.getElem?_eq_some_iff.1 hg
  unfold World.setRow wput
  congr 1
  refine Array.ext_getElem? fun k => ?_
  simp only [Array.getElem?_modify, Array.getElem?_setIfInBounds]
  by_cases hk : g = k
  · subst hk; simp [hlt, hv]
  · simp [hk]

theorem solid_of_cells {v : AV} (h : allCell (cellsOf v) = true) : solid v = true := by
  cases v with
  | dat d => cases d <;> first | rfl | simp [cellsOf, allCell, isCell] at h
  | _ => rfl

theorem rels_lput {s : Wd} {cs vs cs' : List AV} {o : Nat} {l ws : List Value} (h : Rels s cs l) (hv : Rels s vs ws) (hl : vs.length = ws.length) (hp : lput cs o vs = some cs') :
    Rels s cs' (l.take o ++ ws ++ l.drop (o + ws.length)) ∧ o + ws.length ≤ l.length ∧ cs'.length = cs.length := by
  obtain ⟨h1, rfl⟩ := lput_eq hp
  have h2 := rels_length h
  refine ⟨?_, by omega, by simp; omega⟩
  refine rels_append (rels_append (rels_take h o) (by simp; omega) hv) (by simp; omega) ?_
  rw [hl]; exact rels_drop h _

theorem storeA_sound {cx : Cx} {t : Nat} {ti : TyI} (ok : CxOK cx) (ht : cx.T t = some ti) {h : Heap} {s : Wd} (sat : Sat cx.toGl h s) {a v : AV} {ua uv : Value} (ha : Rel s a ua) (hv : Rel s v uv)
    {K : AV → Heap → Prop} (hK : storeA ti a v h K) : ∃ w', (Instr.storeAt t ua uv).run cx.P s.w = .ok () w' ∧ Post cx h s K undef w' := by
  obtain ⟨info, desc, z, hi, hu, hsz, _⟩ := ok.types t ti ht
  unfold storeA at hK
  split at hK <;> try exact hK.elim
  rename_i i o
  split at hK <;> try exact hK.elim
  rename_i cs e g hg
  split at hK <;> try exact hK.elim
  rename_i hac
  split at hK <;> try exact hK.elim
  rename_i hbeq
  split at hK <;> try exact hK.elim
  rename_i cs' hp
  simp only [Rel] at ha
  obtain ⟨b, hρ, rfl⟩ := ha
  obtain ⟨n, ob, h1, h2, h3, _⟩ := sat.blk i _ hg
  rw [hρ] at h1; cases h1
  obtain ⟨c, rfl, hrel, hgr⟩ := h3
  obtain ⟨hc1, hc2⟩ := rel_cells hv (solid_of_cells hac)
  have hlen : (cellsOf v).length = ti.size := Nat.eq_of_beq_eq_true hbeq
  obtain ⟨hr1, hr2, hr3⟩ := rels_lput hrel hc2 (by simpa using hc1) hp
  have hone := rels_allCell hc2 (by simpa using hc1) (allCell_iff.1 hac)
  have hst := run_storeCells_at cx.P b o e uv.cells.toList 0 c s.w h2 (by simpa using hr2) hone
  have hlt : b < s.w.heap.size := (Array.getElem?_eq_some_iff.1 h2).1
  rw [setRow_wput h2] at hst
  simp only [Nat.add_zero] at hst
  have hsize : (c.toList.take o ++ uv.cells.toList ++ c.toList.drop (o + uv.cells.toList.length)).toArray.size = c.size := by
    simp only [List.size_toArray, List.length_append, List.length_take, List.length_drop, Array.length_toList] at hr2 ⊢
    omega
  refine ⟨_, ?_, ⟨.dat (.tup []), _, ⟨s.ρ, s.I, wput s.w b (.cells (c.toList.take o ++ uv.cells.toList ++ c.toList.drop (o + uv.cells.toList.length)).toArray e)⟩, rfl, hK, ?_, sat_put sat hg hρ h2 (.cells cs' e g) _ ?_ ?_, ext_put hg hρ h2 _ _ ?_⟩⟩
  · simp only [Instr.storeAt, Instr.sureAddr, storeVar, Sem.run_bind, Sem.run_pure, Result.andThen_ok]
    simp only [sizeOf, typeInfo, Sem.run_bind, run_program, Result.andThen_ok, hi, Sem.run_pure, hsz]
    rw [if_neg (by rw [← hlen, hc1]; simp)]
    exact hst
  · simp [Rel, RelD, undef, RelDs]
  · exact sameRow hsize
  · exact ⟨_, rfl, by simpa using hr1, fun hg0 => by have := hgr hg0; omega⟩
  · exact sameRow hsize

/-! New blocks. -/
def newA (v : AV) (t : Nat) (h : Heap) (K : AV → Heap → Prop) : Prop := match solid v with
  | true => K (.ptr h.length 0) (h ++ [some (.cells (cellsOf v) t false)])
  | false => False
theorem newA_sound {cx : Cx} {t : Nat} {h : Heap} {s : Wd} (sat : Sat cx.toGl h s) {v : AV} {uv : Value} (hv : Rel s v uv) {K : AV → Heap → Prop} (hn : newA v t h K) :
    Post cx h s K (.pointer (some ⟨s.w.heap.size, 0, none⟩)) (s.w.alloc (.cells uv.cells t)) := by
  unfold newA at hn
  split at hn <;> try exact hn.elim
  rename_i hs
  obtain ⟨hc1, hc2⟩ := rel_cells hv hs
  have g := grows_alloc sat h.length (sat.fresh _ (Nat.le_refl _)) (.cells uv.cells t)
  refine ⟨_, _, s.alloc h.length (.cells uv.cells t), rfl, hn, ?_, sat_alloc sat _ _ ?_, ext_alloc sat _ _⟩
  · simp only [Rel]; exact ⟨s.w.heap.size, by simp [Wd.alloc], rfl⟩
  · exact ⟨_, rfl, rels_mono g _ _ hc2, fun _ => hc1.symm⟩

/-! Structs, arrays and slices that are built. -/
def fillA (place : Nat → Option (Nat × Nat)) (cells : List AV) : List (Nat × AV) → Option (List AV)
  | [] => some cells
  | (i, v) :: rest => match place i with
    | none => none
    | some (off, size) => match solid v with
      | false => none
      | true => match Nat.beq (cellsOf v).length size with
        | false => none
        | true => match lput cells off (cellsOf v) with
          | none => none
          | some cs => fillA place cs rest

theorem lay_eq (cs : List Value) : ∀ (off j : Nat) (cells : Array Value), off + j + cs.length ≤ cells.size →
    ((cs.zipIdx j).foldl (fun a x => a.setIfInBounds (off + x.2) x.1) cells).toList = cells.toList.take (off + j) ++ cs ++ cells.toList.drop (off + j + cs.length) := by
  induction cs with
  | nil => intro off j cells _; simp
  | cons v r ih =>
    intro off j cells hl
    simp only [List.zipIdx_cons, List.foldl_cons]
    have := ih off (j + 1) (cells.setIfInBounds (off + j) v) (by simp at hl ⊢; omega)
    rw [this]
    have e := list_seg_step cells.toList (off + j) v r (by simp at hl ⊢; omega)
    simpa [Array.toList_setIfInBounds, Nat.add_assoc] using e

theorem fillA_sound {s : Wd} {place : Nat → Option (Nat × Nat)} : ∀ (ps : List (Nat × AV)) (qs : List (Nat × Value)) (cells : List AV) (cur : Array Value),
    Rels s cells cur.toList → cells.length = cur.size →
    ps.length = qs.length → (∀ (i : Nat) p q, ps[i]? = some p → qs[i]? = some q → p.1 = q.1 ∧ Rel s p.2 q.2) → ∀ cs, fillA place cells ps = some cs →
    ∃ out, Instr.fill place cur qs = some out ∧ Rels s cs out.toList ∧ cs.length = out.size := by
  intro ps
  induction ps with
  | nil =>
    intro qs cells cur h1 h2 h3 _ cs h5
    cases qs with
    | nil => simp only [fillA, Option.some.injEq] at h5; subst h5; exact ⟨cur, rfl, h1, h2⟩
    | cons => simp at h3
  | cons p ps ih =>
    intro qs cells cur h1 h2 h3 h4 cs h5
    cases qs with
    | nil => simp at h3
    | cons q qs =>
      obtain ⟨i, v⟩ := p
      obtain ⟨i', u⟩ := q
      obtain ⟨e1, e2⟩ := h4 0 _ _ rfl rfl
      simp only at e1 e2; subst e1
      simp only [fillA] at h5
      cases hp : place i with
      | none => simp [hp] at h5
      | some x =>
        obtain ⟨off, size⟩ := x
        simp only [hp] at h5
        split at h5
        · cases h5
        · rename_i hs
          split at h5
          · cases h5
          · rename_i hb
            split at h5
            · cases h5
            · rename_i cs1 hl
              have hlen : (cellsOf v).length = size := Nat.eq_of_beq_eq_true hb
              obtain ⟨hc1, hc2⟩ := rel_cells e2 hs
              obtain ⟨hr1, hr2, hr3⟩ := rels_lput h1 hc2 (by simpa using hc1) hl
              have hz := lay_eq u.cells.toList off 0 cur (by simpa using hr2)
              have hfold : (u.cells.zipIdx.foldl (fun cs (x : Value × Nat) => cs.setIfInBounds (off + x.2) x.1) cur) = (cur.toList.take off ++ u.cells.toList ++ cur.toList.drop (off + u.cells.toList.length)).toArray := by
                apply Array.ext'
                rw [← Array.foldl_toList, Array.toList_zipIdx]
                simpa using hz
              obtain ⟨out, ho, hr⟩ := ih qs cs1 (cur.toList.take off ++ u.cells.toList ++ cur.toList.drop (off + u.cells.toList.length)).toArray (by simpa using hr1) (by
                  simp only [List.size_toArray, List.length_append, List.length_take, List.length_drop, Array.length_toList] at hr2 ⊢
                  omega) (by simpa using h3) (fun j p q hp hq => h4 (j + 1) p q (by simpa using hp) (by simpa using hq)) cs h5
              refine ⟨out, ?_, hr⟩
              simp only [Instr.fill, hp]
              rw [if_neg (by simp only [Array.length_toList] at hr2; simp; omega)]
              exact hfold ▸ ho

def partsA (e : Env) : List (Nat × Operand) → List (Nat × AV)
  | [] => []
  | (i, x) :: r => (i, evA e x) :: partsA e r
theorem partsA_eq (e : Env) (l : List (Nat × Operand)) : partsA e l = l.map fun (i, x) => (i, evA e x) := by
  induction l with
  | nil => rfl
  | cons p r ih => simp [partsA, ih]

def placeSt (fs : List (Nat × Nat × Nat)) (i : Nat) : Option (Nat × Nat) := match nth fs i with
  | some (off, _, sz) => some (off, sz)
  | none => none

/-- A struct or an array. -/
def buildA (cx : Cx) (ti : TyI) (ps : List (Nat × AV)) (K : AV → Prop) : Prop := match ti.k with
  | .st fs => match solid (.dat ti.zero) with
    | true => match fillA (placeSt fs) (cellsOf (.dat ti.zero)) ps with
      | some cs => K (.agg cs)
      | none => False
    | false => False
  | .arr _ e => hasTy cx e fun te => match solid (.dat ti.zero) with
    | true => match fillA (fun i => some (i * te.size, te.size)) (cellsOf (.dat ti.zero)) ps with
      | some cs => K (.agg cs)
      | none => False
    | false => False
  | _ => False

theorem tk_st {P : Program} {d : TypeDesc} {fs : List (Nat × Nat × Nat)} (h : TKOK P d (.st fs)) :
    ∃ fields, d = .struct fields ∧ fs.length = fields.size ∧ ∀ (i : Nat) (f : Field), fields[i]? = some f → fs[i]? = some (f.offset, f.type, P.cellsOf f.type) ∧ ∃ j, P.info? f.type = some j := by
  cases d <;> first | exact ⟨_, rfl, h⟩ | exact h.elim | simp [TKOK] at h
theorem tk_arr {P : Program} {d : TypeDesc} {n e : Nat} (h : TKOK P d (.arr n e)) : d = .array n e := by cases d <;> simp_all [TKOK]
theorem tk_slc {P : Program} {d : TypeDesc} {e : Nat} (h : TKOK P d (.slc e)) : d = .slice e := by cases d <;> simp_all [TKOK]
theorem tk_mp {P : Program} {d : TypeDesc} {k e : Nat} (h : TKOK P d (.mp k e)) : d = .map k e := by cases d <;> simp_all [TKOK]
theorem tk_pt {P : Program} {d : TypeDesc} {e : Nat} (h : TKOK P d (.pt e)) : d = .pointer e := by cases d <;> simp_all [TKOK]
theorem tk_int {P : Program} {d : TypeDesc} {k : IntKind} (h : TKOK P d (.int k)) : d = .int k := by cases d <;> simp_all [TKOK]
theorem tk_str {P : Program} {d : TypeDesc} (h : TKOK P d .str) : d = .string := by cases d <;> simp_all [TKOK]
theorem tk_bool {P : Program} {d : TypeDesc} (h : TKOK P d .bool) : d = .bool := by cases d <;> simp_all [TKOK]
theorem tk_ifc {P : Program} {d : TypeDesc} (h : TKOK P d .ifc) : ∃ ms, d = .interface ms := by cases d <;> simp_all [TKOK]

theorem parts_rel {s : Wd} {e : Env} {ev : Operand → Value} (he : EvR s e ev) (l : List (Nat × Operand)) :
    (partsA e l).length = (l.map fun (x : Nat × Operand) => (x.1, ev x.2)).length ∧
    ∀ (i : Nat) p q, (partsA e l)[i]? = some p → (l.map fun (x : Nat × Operand) => (x.1, ev x.2))[i]? = some q → p.1 = q.1 ∧ Rel s p.2 q.2 := by
  refine ⟨by simp [partsA_eq], fun i p q hp hq => ?_⟩
  rw [partsA_eq] at hp
  simp only [List.getElem?_map, Option.map_eq_some_iff] at hp hq
  obtain ⟨x, hx, rfl⟩ := hp
  obtain ⟨y, hy, rfl⟩ := hq
  rw [hx] at hy; cases hy
  exact ⟨rfl, he x.2⟩

theorem buildA_sound {cx : Cx} {t : Nat} {ti : TyI} (ok : CxOK cx) (ht : cx.T t = some ti) {s : Wd} {e : Env} {ev : Operand → Value} (he : EvR s e ev) (ps : Array (Nat × Operand)) {K : AV → Prop}
    (hb : buildA cx ti (partsA e ps.toList) K) : ∃ v r, (Instr.build t (ps.map fun (i, x) => (i, ev x))).run cx.P s.w = .ok v s.w ∧ K r ∧ Rel s r v := by
  obtain ⟨info, desc, z, hi, hu, hsz, _, hz, hzr, hk⟩ := ok.types t ti ht
  have hzero : solid (.dat ti.zero) = true → (cellsOf (.dat ti.zero)).length = z.cells.size ∧ Rels s (cellsOf (.dat ti.zero)) z.cells.toList := fun hs =>
    rel_cells (by simpa [Rel] using hzr s.I s.w) hs
  obtain ⟨hpl, hpr⟩ := parts_rel he ps.toList
  unfold buildA at hb
  cases hk' : ti.k with
  | st fs =>
    rw [hk'] at hb hk
    obtain ⟨fields, rfl, hfl, hff⟩ := tk_st hk
    simp only at hb
    split at hb
    · rename_i hs
      split at hb
      · rename_i cs hf
        obtain ⟨hz1, hz2⟩ := hzero hs
        have hmap : ∀ (l : List Field) (k : Nat), (∀ (i : Nat) f, l[i]? = some f → fields[k + i]? = some f) → (∀ f ∈ l, ∃ i, cx.P.info? f.type = some i) →
            l.mapM (fun f => (cx.P.info? f.type).map fun i => (f.offset, i.size)) = some (l.map fun f => (f.offset, cx.P.cellsOf f.type)) := by
          intro l
          induction l with
          | nil => simp
          | cons f l ih =>
            intro k h1 h2
            obtain ⟨i, hi⟩ := h2 f (by simp)
            have := ih (k + 1) (fun i g hg => by rw [Nat.add_assoc, Nat.add_comm 1]; exact h1 (i + 1) g (by simpa using hg)) (fun g hg => h2 g (by simp [hg]))
            simp [List.mapM_cons, hi, this, Program.cellsOf]
        by_cases hinfo : ∀ f ∈ fields.toList, ∃ i, cx.P.info? f.type = some i
        · have hp := hmap fields.toList 0 (fun i f hf => by simpa using hf) hinfo
          have hplace : ∀ i, placeSt fs i = ((fields.toList.map fun f => (f.offset, cx.P.cellsOf f.type)).toArray[i]?) := by
            intro i
            unfold placeSt
            rw [nth_eq]
            rcases Nat.lt_or_ge i fields.size with hlt | hge
            · have := (hff i fields[i] (by simp [hlt])).1
              rw [this]
              simp [hlt]
            · rw [List.getElem?_eq_none (by omega)]
              simp [hge]
          obtain ⟨out, ho, hr, hrl⟩ := fillA_sound _ _ _ z.cells hz2 hz1 hpl hpr cs hf
          refine ⟨.agg out, .agg cs, run_build s.w t _ out ?_, hb, by simp only [Rel]; exact ⟨out, rfl, hrl, hr⟩⟩
          unfold Program.built
          simp only [hi, hu, hz, hp]
          rw [← ho]
          have : (fun i => (fields.toList.map fun f => (f.offset, cx.P.cellsOf f.type)).toArray[i]?) = placeSt fs := funext fun i => (hplace i).symm
          rw [this]
          simp
        · exfalso
          apply hinfo
          intro f hf
          obtain ⟨i, hi', rfl⟩ := List.mem_iff_getElem.1 hf
          exact (hff i _ (by simp at hi' ⊢)).2
      · exact hb.elim
    · exact hb.elim
  | arr n el =>
    rw [hk'] at hb hk
    obtain rfl := tk_arr hk
    simp only at hb
    obtain ⟨te, hte, hb⟩ := hasTy_elim hb
    obtain ⟨infe, _, _, hie, _, hse, _⟩ := ok.types el te hte
    split at hb
    · rename_i hs
      split at hb
      · rename_i cs hf
        obtain ⟨hz1, hz2⟩ := hzero hs
        obtain ⟨out, ho, hr, hrl⟩ := fillA_sound _ _ _ z.cells hz2 hz1 hpl hpr cs hf
        refine ⟨.agg out, .agg cs, run_build s.w t _ out ?_, hb, by simp only [Rel]; exact ⟨out, rfl, hrl, hr⟩⟩
        unfold Program.built
        simp only [hi, hu, hz, hie, hse]
        rw [← ho]; simp
      · exact hb.elim
    · exact hb.elim
  | _ => rw [hk'] at hb; exact hb.elim

end Go.Abs

namespace Go.Abs

theorem addr_add (b o n : Nat) : (⟨b, o, none⟩ : Addr).add n = ⟨b, o + n, none⟩ := by unfold Addr.add; split <;> simp_all

/-! Places. -/
def faddrA (ti : TyI) (a : AV) (f : Nat) (K : AV → Prop) : Prop := match ti.k with
  | .st fs => match nth fs f with
    | some (off, _, sz) => match sz with
      | 0 => False
      | _ + 1 => match a with
        | .ptr i o => K (.ptr i (o + off))
        | .dat (.rptr cs o) => K (.dat (.rptr cs (o + off)))
        | _ => False
    | none => False
  | _ => False
theorem faddrA_sound {cx : Cx} {t : Nat} {ti : TyI} (ok : CxOK cx) (ht : cx.T t = some ti) {s : Wd} {a : AV} {u : Value} (hr : Rel s a u) (f : Nat) {K : AV → Prop} (h : faddrA ti a f K) :
    ∃ v r, (Instr.fieldAt t u f).run cx.P s.w = .ok v s.w ∧ K r ∧ Rel s r v := by
  obtain ⟨info, desc, z, hi, hu, hsz, _, hz, hzr, hk⟩ := ok.types t ti ht
  unfold faddrA at h
  split at h <;> try exact h.elim
  rename_i fs hk'
  rw [hk'] at hk
  obtain ⟨fields, rfl, hfl, hff⟩ := tk_st hk
  split at h <;> try exact h.elim
  rename_i off ft sz hn
  rw [nth_eq] at hn
  have hlt : f < fields.size := by rw [← hfl]; exact (List.getElem?_eq_some_iff.1 hn).1
  have hfe : fields[f]? = some fields[f] := by simp [hlt]
  obtain ⟨h1, j, hj⟩ := hff f _ hfe
  rw [hn] at h1
  simp only [Option.some.injEq, Prod.mk.injEq] at h1
  obtain ⟨e1, e2, e3⟩ := h1
  split at h <;> try exact h.elim
  rename_i n
  have hsize : j.size ≠ 0 := by
    simp only [Program.cellsOf, hj, Option.map_some, Option.getD_some] at e3; omega
  have hrun : ∀ (b o : Nat), (Instr.fieldAt t (.pointer (some ⟨b, o, none⟩)) f).run cx.P s.w = .ok (.pointer (some ⟨b, o + off, none⟩)) s.w := by
    intro b o
    simp [Instr.fieldAt, run_underlying hu, hfe, Instr.sureAddr, fieldPlace, sizeOf, typeInfo, hj, hsize, addr_add, ← e1]
  split at h <;> try exact h.elim
  · simp only [Rel] at hr
    obtain ⟨b, hρ, rfl⟩ := hr
    exact ⟨_, _, hrun b _, h, by simp only [Rel]; exact ⟨b, hρ, rfl⟩⟩
  · simp only [Rel, RelD] at hr
    obtain ⟨b, o, c, e, fz, rfl, hI, hb, hrel⟩ := hr
    exact ⟨_, _, hrun b _, h, by simp only [Rel, RelD]; exact ⟨b, o, c, e, fz, by rw [Nat.add_assoc], hI, hb, hrel⟩⟩

def iaddrA (cx : Cx) (ti : TyI) (x : AV) (i : DV) (K : AV → Prop) : Prop := match i with
  | .int _ n => match ti.k with
    | .slc e => hasTy cx e fun te => match x with
      | .dat (.ros cs len _) => ReqA (0 ≤ n ∧ n < len) (K (.dat (.rptr cs (n.toNat * te.size))))
      | .sl id off len _ _ => ReqA (0 ≤ n ∧ n < len) (K (.ptr id (off + n.toNat * te.size)))
      | _ => False
    | .arr len e => hasTy cx e fun te => match x with
      | .ptr id off => ReqA (0 ≤ n ∧ n < len) (K (.ptr id (off + n.toNat * te.size)))
      | .dat (.rptr cs off) => ReqA (0 ≤ n ∧ n < len) (K (.dat (.rptr cs (off + n.toNat * te.size))))
      | .dat (.gptr g) => match cx.Γ g with
        | some cs => ReqA (0 ≤ n ∧ n < len) (K (.dat (.rptr cs (n.toNat * te.size))))
        | none => False
      | _ => False
    | _ => False
  | _ => False
theorem reqA_elim {c k : Prop} (h : ReqA c k) : c ∧ k := ⟨h.c, h.k⟩

theorem iaddrA_sound {cx : Cx} {t : Nat} {ti : TyI} (ok : CxOK cx) (ht : cx.T t = some ti) {h : Heap} {s : Wd} (sat : Sat cx.toGl h s) {x : AV} {i : DV} {u ui : Value} (hr : Rel s x u) (hri : RelD s.I s.w i ui)
    {K : AV → Prop} (hk : iaddrA cx ti x i K) : ∃ v r, (Instr.indexAt t u ui).run cx.P s.w = .ok v s.w ∧ K r ∧ Rel s r v := by
  obtain ⟨info, desc, z, hi, hu, hsz, _, hz, hzr, hkk⟩ := ok.types t ti ht
  unfold iaddrA at hk
  split at hk <;> try exact hk.elim
  rename_i k n
  simp only [RelD] at hri; subst hri
  split at hk <;> try exact hk.elim
  · rename_i e hk'
    rw [hk'] at hkk
    obtain rfl := tk_slc hkk
    obtain ⟨te, hte, hk⟩ := hasTy_elim hk
    obtain ⟨infe, _, _, hie, _, hse, _⟩ := ok.types e te hte
    have hrun : ∀ (b o len m : Nat), 0 ≤ n ∧ n < len → (Instr.indexAt t (.slice (some ⟨b, o, none⟩) len m) (.int k n)).run cx.P s.w = .ok (.pointer (some ⟨b, o + n.toNat * te.size, none⟩)) s.w := by
      intro b o len m hb
      simp [Instr.indexAt, asIntOf, run_underlying hu, hb, sizeOf, typeInfo, hie, hse, addr_add]
    split at hk <;> try exact hk.elim
    · obtain ⟨hc, hk⟩ := reqA_elim hk
      simp only [Rel, RelD] at hr
      rcases hr with ⟨rfl, _⟩ | ⟨b, o, c, m, el, f, rfl, hI, hb, _, _, _, hrel⟩
      · have := hc.1; have := hc.2; omega
      exact ⟨_, _, hrun b o _ m hc, hk, by simp only [Rel, RelD]; exact ⟨b, o, c, el, f, rfl, hI, hb, hrel⟩⟩
    · obtain ⟨hc, hk⟩ := reqA_elim hk
      simp only [Rel] at hr
      obtain ⟨b, m, _, _, _, hρ, rfl, _⟩ := hr
      exact ⟨_, _, hrun b _ _ m hc, hk, by simp only [Rel]; exact ⟨b, hρ, rfl⟩⟩
  · rename_i len e hk'
    rw [hk'] at hkk
    obtain rfl := tk_arr hkk
    obtain ⟨te, hte, hk⟩ := hasTy_elim hk
    obtain ⟨infe, _, _, hie, _, hse, _⟩ := ok.types e te hte
    have hrun : ∀ (b o : Nat), 0 ≤ n ∧ n < len → (Instr.indexAt t (.pointer (some ⟨b, o, none⟩)) (.int k n)).run cx.P s.w = .ok (.pointer (some ⟨b, o + n.toNat * te.size, none⟩)) s.w := by
      intro b o hb
      simp [Instr.indexAt, asIntOf, run_underlying hu, hb, sizeOf, typeInfo, hie, hse, addr_add, Instr.sureAddr]
    split at hk <;> try exact hk.elim
    · obtain ⟨hc, hk⟩ := reqA_elim hk
      simp only [Rel] at hr
      obtain ⟨b, hρ, rfl⟩ := hr
      exact ⟨_, _, hrun b _ hc, hk, by simp only [Rel]; exact ⟨b, hρ, rfl⟩⟩
    · obtain ⟨hc, hk⟩ := reqA_elim hk
      simp only [Rel, RelD] at hr
      obtain ⟨b, o, c, el, f, rfl, hI, hb, hrel⟩ := hr
      exact ⟨_, _, hrun b _ hc, hk, by simp only [Rel, RelD]; exact ⟨b, o, c, el, f, by rw [Nat.add_assoc], hI, hb, hrel⟩⟩
    · rename_i g _
      split at hk <;> try exact hk.elim
      rename_i cs hg
      obtain ⟨hc, hk⟩ := reqA_elim hk
      simp only [Rel, RelD] at hr
      subst hr
      obtain ⟨hI, c, el, f, hb, hrel⟩ := sat.glob g cs hg
      exact ⟨_, _, hrun g 0 hc, hk, by simp only [Rel, RelD]; exact ⟨g, 0, c, el, f, by simp, hI, hb, by simpa using hrel⟩⟩

def sbyte (s : ByteArray) (n : Nat) : Int := ((s.data.toList.getD n 0).toNat : Nat)
def indexA (x i : DV) (K : AV → Prop) : Prop := match x, i with
  | .str s, .int _ n => ReqA (0 ≤ n ∧ n < s.size) (K (.dat (.int .u8 (sbyte s n.toNat))))
  | _, _ => False
theorem indexA_sound {cx : Cx} {t : Nat} {ti : TyI} (ok : CxOK cx) (ht : cx.T t = some ti) (hst : ti.k = .str) {s : Wd} {x i : DV} {u ui : Value} (hr : RelD s.I s.w x u) (hri : RelD s.I s.w i ui)
    {K : AV → Prop} (hk : indexA x i K) : ∃ v r, (Instr.index t u ui).run cx.P s.w = .ok v s.w ∧ K r ∧ Rel s r v := by
  obtain ⟨info, desc, z, hi, hu, hsz, _, hz, hzr, hkk⟩ := ok.types t ti ht
  rw [hst] at hkk
  obtain rfl := tk_str hkk
  unfold indexA at hk
  split at hk <;> try exact hk.elim
  rename_i str k n
  simp only [RelD] at hr hri; subst hr hri
  obtain ⟨hc, hk⟩ := reqA_elim hk
  have hlt : n.toNat < str.size := by omega
  have hget : str[n.toNat]? = some (str[n.toNat]'hlt) := by simp [hlt]
  have hsb : (((str[n.toNat]'hlt).toNat : Nat) : Int) = sbyte str n.toNat := by
    unfold sbyte
    have hl2 : n.toNat < str.data.size := hlt
    have h3 : str.data.toList[n.toNat]? = some (str[n.toNat]'hlt) := by rw [Array.getElem?_toList, Array.getElem?_eq_getElem hl2]; rfl
    rw [List.getD_eq_getElem?_getD, h3]; rfl
  refine ⟨.int .u8 (sbyte str n.toNat), _, ?_, hk, by simp only [Rel, RelD]⟩
  rw [← hsb]
  simp only [Instr.index, asIntOf, Sem.run_bind, Sem.run_pure, Result.andThen_ok, run_underlying hu, if_pos hc.1, hget]

/-! Parts of aggregates, tuples. -/
def fieldA (cx : Cx) (ti : TyI) (x : AV) (f : Nat) (K : AV → Prop) : Prop := match ti.k with
  | .st fs => match nth fs f with
    | some (off, ft, _) => hasTy cx ft fun tf => match x with
      | .agg cs => cutA tf cs off K
      | .dat (.agg cs) => cutA tf (cs.map .dat) off K
      | _ => False
    | none => False
  | _ => False
theorem run_part {cx : Cx} {t : Nat} {ti : TyI} (ok : CxOK cx) (ht : cx.T t = some ti) {s : Wd} {cs : List AV} {vs : Array Value} (hr : Rels s cs vs.toList) (o : Nat) {K : AV → Prop} (h : cutA ti cs o K) :
    ∃ v r, (part t vs o).run cx.P s.w = .ok v s.w ∧ K r ∧ Rel s r v := by
  obtain ⟨info, desc, z, hi, hu, hsz, _, _, _, hk⟩ := ok.types t ti ht
  have hagg : (isAgg t).run cx.P s.w = .ok ti.k.isAgg s.w := by
    unfold isAgg
    rw [Sem.run_bind, run_underlying hu s.w]
    cases desc <;> cases hk' : ti.k <;> rw [hk'] at hk <;> simp_all [TKOK, TK.isAgg]
  unfold cutA at h
  cases hag : ti.k.isAgg with
  | true =>
    simp only [hag] at h
    split at h <;> try exact h.elim
    rename_i hbeq
    rw [ltake_eq, ldrop_eq] at *
    have hlen : ((cs.drop o).take ti.size).length = ti.size := Nat.eq_of_beq_eq_true hbeq
    have hl1 := rels_length hr
    refine ⟨.agg (vs.extract o (o + ti.size)), _, ?_, h, ?_⟩
    · simp [part, hagg, hag, sizeOf, typeInfo, hi, hsz]
    · simp only [Rel]
      refine ⟨_, rfl, ?_, ?_⟩
      · rw [hlen]
        simp only [List.length_take, List.length_drop, Array.length_toList] at hlen hl1
        simp; omega
      · have := rels_take (rels_drop hr o) ti.size
        simpa [Array.toList_extract, List.extract_eq_take_drop] using this
  | false =>
    simp only [hag, nth_eq] at h
    split at h <;> try exact h.elim
    rename_i d hd
    obtain ⟨v, hv, hd'⟩ := rels_iff.1 hr o d hd
    refine ⟨v, d, ?_, h, hd'⟩
    have : vs[o]? = some v := by simpa using hv
    simp [part, hagg, hag, this]
theorem fieldA_sound {cx : Cx} {t : Nat} {ti : TyI} (ok : CxOK cx) (ht : cx.T t = some ti) {s : Wd} {a : AV} {u : Value} (hr : Rel s a u) (f : Nat) {K : AV → Prop} (h : fieldA cx ti a f K) :
    ∃ v r, (Instr.field t u f).run cx.P s.w = .ok v s.w ∧ K r ∧ Rel s r v := by
  obtain ⟨info, desc, z, hi, hu, hsz, _, hz, hzr, hk⟩ := ok.types t ti ht
  unfold fieldA at h
  split at h <;> try exact h.elim
  rename_i fs hk'
  rw [hk'] at hk
  obtain ⟨fields, rfl, hfl, hff⟩ := tk_st hk
  split at h <;> try exact h.elim
  rename_i off ft sz hn
  rw [nth_eq] at hn
  have hlt : f < fields.size := by rw [← hfl]; exact (List.getElem?_eq_some_iff.1 hn).1
  have hfe : fields[f]? = some fields[f] := by simp [hlt]
  obtain ⟨h1, j, hj⟩ := hff f _ hfe
  rw [hn] at h1
  simp only [Option.some.injEq, Prod.mk.injEq] at h1
  obtain ⟨e1, e2, e3⟩ := h1
  obtain ⟨tf, htf, h⟩ := hasTy_elim h
  split at h <;> try exact h.elim
  · simp only [Rel] at hr
    obtain ⟨vs, rfl, _, hrel⟩ := hr
    obtain ⟨v, r, h1, h2, h3⟩ := run_part ok htf hrel off h
    refine ⟨v, r, ?_, h2, h3⟩
    simp only [Instr.field, Sem.run_bind, run_underlying hu, Result.andThen_ok, hfe, asAgg, Sem.run_pure]
    rw [← e1, ← e2]; exact h1
  · simp only [Rel, RelD] at hr
    obtain ⟨vs, rfl, _, hrel⟩ := hr
    obtain ⟨v, r, h1, h2, h3⟩ := run_part ok htf (rels_dat.2 hrel) off h
    refine ⟨v, r, ?_, h2, h3⟩
    simp only [Instr.field, Sem.run_bind, run_underlying hu, Result.andThen_ok, hfe, asAgg, Sem.run_pure]
    rw [← e1, ← e2]; exact h1

def extractA (x : AV) (i : Nat) (K : AV → Prop) : Prop := match x with
  | .tup vs => optR (nth vs i) K
  | .dat (.tup vs) => optR (nth vs i) fun d => K (.dat d)
  | _ => False
theorem extractA_sound {P : Program} {s : Wd} {a : AV} {u : Value} (hr : Rel s a u) (i : Nat) {K : AV → Prop} (h : extractA a i K) :
    ∃ v r, (Instr.extract u i).run P s.w = .ok v s.w ∧ K r ∧ Rel s r v := by
  unfold extractA at h
  split at h <;> try exact h.elim
  · obtain ⟨d, hd, hk⟩ := optR_elim h
    rw [nth_eq] at hd
    simp only [Rel] at hr
    obtain ⟨vs, rfl, _, hrel⟩ := hr
    obtain ⟨v, hv, hd'⟩ := rels_iff.1 hrel i d hd
    have : vs[i]? = some v := by simpa using hv
    exact ⟨v, d, by simp [Instr.extract, this], hk, hd'⟩
  · obtain ⟨d, hd, hk⟩ := optR_elim h
    rw [nth_eq] at hd
    simp only [Rel, RelD] at hr
    obtain ⟨vs, rfl, _, hrel⟩ := hr
    obtain ⟨v, hv, hd'⟩ := relDs_iff.1 hrel i d hd
    have : vs[i]? = some v := by simpa using hv
    exact ⟨v, _, by simp [Instr.extract, this], hk, by simpa [Rel] using hd'⟩

end Go.Abs
