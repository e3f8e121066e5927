/- A part of the proof behind the last text of this folder: AbsRen, AbsCall, AbsTab, AbsUse, AbsKey, XT. -/
import Derived.Test.YtbbpedjbfgcdoaaGreatDoorP4
set_option linter.unusedSimpArgs false
set_option linter.unusedSectionVars false

namespace Go.Abs

/-! Other names for the blocks. -/
def ren1 (σ : List Nat) (m N i : Nat) : Nat := match nth σ i with
  | some j => j
  | none => Nat.add N (Nat.sub i m)
mutual
def renT (f : Nat → Nat) : AV → AV
  | .dat d => .dat d
  | .ptr i o => .ptr (f i) o
  | .map i => .map (f i)
  | .yld i => .yld (f i)
  | .sl i o n c z => .sl (f i) o n c z
  | .func g cs => .func g (renTs f cs)
  | .iface t a => .iface t (renT f a)
  | .agg cs => .agg (renTs f cs)
  | .tup cs => .tup (renTs f cs)
def renTs (f : Nat → Nat) : List AV → List AV
  | [] => []
  | a :: r => renT f a :: renTs f r
end
theorem renTs_length (f : Nat → Nat) : ∀ l, (renTs f l).length = l.length
  | [] => rfl
  | a :: r => by simp [renTs, renTs_length f r]
theorem renTs_dat (f : Nat → Nat) : ∀ ds : List DV, renTs f (ds.map .dat) = ds.map .dat
  | [] => rfl
  | d :: r => by simp [renTs, renT, renTs_dat f r]
theorem renTs_append (f : Nat → Nat) : ∀ (a b : List AV), renTs f (a ++ b) = renTs f a ++ renTs f b
  | [], b => rfl
  | x :: a, b => by simp [renTs, renTs_append f a b]
def renE (f : Nat → Nat) : List (DV × AV) → List (DV × AV)
  | [] => []
  | (k, a) :: r => (k, renT f a) :: renE f r
def renB (f : Nat → Nat) : AB → AB
  | .cells cs e g => .cells (renTs f cs) e g
  | .mapD es => .mapD es
  | .mapA es => .mapA (renE f es)
  | .siter s p => .siter s p
  | .mapB bs clk es => .mapB bs clk (renE f es)
  | .miter m clk seen => .miter (f m) clk seen
  | .miter0 => .miter0
  | .obj o => .obj o
  | .lp b fn l ps x y => .lp b fn (renTs f l) ps x y

mutual
theorem rel_ren {s : Wd} {f : Nat → Nat} : ∀ (a : AV) (v : Value), Rel ⟨fun i => s.ρ (f i), s.I, s.w⟩ a v ↔ Rel s (renT f a) v
  | .dat d, v => by simp [Rel, renT]
  | .ptr i o, v => by simp [Rel, renT]
  | .map i, v => by simp [Rel, renT]
  | .yld i, v => by simp [Rel, renT]
  | .sl i o n c z, v => by simp [Rel, renT]
  | .func g cs, v => by simp only [Rel, renT, renTs_length, rels_ren cs]
  | .iface t a, v => by simp only [Rel, renT, rel_ren a]
  | .agg cs, v => by simp only [Rel, renT, renTs_length, rels_ren cs]
  | .tup cs, v => by simp only [Rel, renT, renTs_length, rels_ren cs]
theorem rels_ren {s : Wd} {f : Nat → Nat} : ∀ (l : List AV) (vs : List Value), Rels ⟨fun i => s.ρ (f i), s.I, s.w⟩ l vs ↔ Rels s (renTs f l) vs
  | [], vs => by simp [Rels, renTs]
  | a :: r, [] => by simp [Rels, renTs]
  | a :: r, v :: vs => by simp only [Rels, renTs, rel_ren a, rels_ren r]
end
theorem relE_ren {s : Wd} {f : Nat → Nat} : ∀ (es : List (DV × AV)) (l : List MapEntry), RelE (Rel ⟨fun i => s.ρ (f i), s.I, s.w⟩) ⟨fun i => s.ρ (f i), s.I, s.w⟩ es l ↔ RelE (Rel s) s (renE f es) l
  | [], [] => by simp [RelE, renE]
  | [], _ :: _ => by simp [RelE, renE]
  | _ :: _, [] => by simp [RelE, renE]
  | (k, a) :: r, e :: l => by simp only [RelE, renE, rel_ren a, relE_ren r]
theorem relE_wd {α : Type} {R : α → Value → Prop} {s s' : Wd} (hI : s'.I = s.I) (hw : s'.w = s.w) : ∀ (es : List (DV × α)) (l : List MapEntry), RelE R s' es l ↔ RelE R s es l
  | [], [] => by simp [RelE]
  | [], _ :: _ => by simp [RelE]
  | _ :: _, [] => by simp [RelE]
  | (k, a) :: r, e :: l => by simp only [RelE, hI, hw, relE_wd hI hw r]
theorem relB_ren {s : Wd} {f : Nat → Nat} (b : AB) (o : Obj) : RelB ⟨fun i => s.ρ (f i), s.I, s.w⟩ b o ↔ RelB s (renB f b) o := by
  cases b with
  | cells cs e g => simp only [RelB, renB, renTs_length, rels_ren cs]
  | mapD es => simp only [RelB, renB, RelM]; simp only [relE_wd (s := s) (s' := ⟨fun i => s.ρ (f i), s.I, s.w⟩) rfl rfl]
  | mapA es => simp only [RelB, renB, RelM, relE_ren es]
  | siter str p => simp only [RelB, renB]
  | mapB bs clk es => simp only [RelB, renB, relE_ren es]
  | miter m clk seen => simp only [RelB, renB]
  | miter0 => simp only [RelB, renB]
  | obj o' => simp only [RelB, renB]
  | lp b fn l ps x y => simp only [RelB, renB, renTs_length, rels_ren l]

/-- The blocks of h are there in H, under other names. -/
def HeapIn (f : Nat → Nat) (H : Heap) : List Nat → Heap → Prop
  | j :: σ, b :: r => (match b with | some b => hget H j = some (renB f b) | none => True) ∧ HeapIn f H σ r
  | _, _ => True
theorem heapIn_get {f : Nat → Nat} {H : Heap} : ∀ {σ : List Nat} {h : Heap}, HeapIn f H σ h → ∀ i j b, nth σ i = some j → hget h i = some b → hget H j = some (renB f b)
  | [], h, _, i, j, b, hj, _ => by simp [nth] at hj
  | _ :: _, [], _, i, j, b, _, hb => by simp [hget] at hb
  | j' :: σ, b' :: r, hin, i, j, b, hj, hb => by
    cases i with
    | zero =>
      simp only [nth, Option.some.injEq] at hj
      simp only [hget] at hb
      subst hj
      simp only [HeapIn, hb] at hin
      exact hin.1
    | succ i => exact heapIn_get hin.2 i j b (by simpa [nth] using hj) (by simpa [hget] using hb)
def memN (x : Nat) : List Nat → Bool
  | [] => false
  | y :: r => match Nat.beq x y with
    | true => true
    | false => memN x r
/-- Different names, all of them in use. -/
def namesOK (N : Nat) : List Nat → Bool
  | [] => true
  | x :: r => match Nat.blt x N with
    | true => match memN x r with
      | false => namesOK N r
      | true => false
    | false => false
theorem memN_iff {x : Nat} {l : List Nat} : memN x l = true ↔ x ∈ l := by
  induction l with
  | nil => simp [memN]
  | cons y r ih =>
    simp only [memN, List.mem_cons]
    split
    · rename_i h; exact ⟨fun _ => .inl (Nat.eq_of_beq_eq_true h), fun _ => rfl⟩
    · rename_i h
      rw [ih]
      exact ⟨.inr, fun h' => h'.resolve_left (fun e => by subst e; simp at h)⟩
theorem namesOK_spec {N : Nat} : ∀ {l : List Nat}, namesOK N l = true → (∀ x ∈ l, x < N) ∧ (∀ i k j, nth l i = some j → nth l k = some j → i = k)
  | [], _ => ⟨by simp, fun i k j h => by simp [nth] at h⟩
  | x :: r, h => by
    simp only [namesOK] at h
    split at h <;> try cases h
    rename_i hx
    split at h <;> try cases h
    rename_i hm
    obtain ⟨h1, h2⟩ := namesOK_spec h
    have hnm : ¬ x ∈ r := fun hx => by rw [memN_iff.2 hx] at hm; cases hm
    refine ⟨fun y hy => ?_, fun i k j hi hk => ?_⟩
    · simp only [List.mem_cons] at hy
      rcases hy with rfl | hy
      · rw [Nat.blt_eq] at hx; exact hx
      · exact h1 y hy
    · cases i <;> cases k
      · rfl
      · rename_i k; simp only [nth, Option.some.injEq] at hi hk; subst hi
        rw [nth_eq] at hk; exact absurd (List.mem_of_getElem? hk) hnm
      · rename_i i; simp only [nth, Option.some.injEq] at hi hk; subst hk
        rw [nth_eq] at hi; exact absurd (List.mem_of_getElem? hi) hnm
      · rename_i i k; exact congrArg _ (h2 i k j (by simpa [nth] using hi) (by simpa [nth] using hk))
theorem nth_lt {α : Type} {l : List α} {i : Nat} (h : i < l.length) : ∃ j, nth l i = some j := ⟨l[i], by rw [nth_eq]; simp [h]⟩
theorem nth_ge {α : Type} {l : List α} {i : Nat} (h : l.length ≤ i) : nth l i = none := by rw [nth_eq]; simp [h]

/-- The same world under the names σ. -/
theorem sat_ren {γ : Gl} {H : Heap} {s : Wd} (sat : Sat γ H s) {σ : List Nat} {h : Heap} (hl : σ.length = h.length) (hσ : namesOK H.length σ = true) (hin : HeapIn (ren1 σ h.length H.length) H σ h) : Sat γ h ⟨fun i => s.ρ (ren1 σ h.length H.length i), s.I, s.w⟩ := by
  obtain ⟨n1, n2⟩ := namesOK_spec hσ
  have live : ∀ i, hget h i ≠ none → ∃ j, nth σ i = some j ∧ ren1 σ h.length H.length i = j ∧ hget H j ≠ none := fun i hi => by
    have hil : i < h.length := by
      rcases Nat.lt_or_ge i h.length with h' | h'
      · exact h'
      · rw [hget_ge h'] at hi; exact absurd rfl hi
    obtain ⟨j, hj⟩ := nth_lt (l := σ) (i := i) (by omega)
    cases hb : hget h i with
    | none => exact absurd hb hi
    | some b => exact ⟨j, hj, by simp [ren1, hj], by rw [heapIn_get hin i j b hj hb]; simp⟩
  refine ⟨fun i b hb => ?_, fun i k n hi hk h1 h2 => ?_, fun i hi => ?_, sat.imm, sat.glob, sat.dr, ⟨sat.old.b, sat.old.I⟩⟩
  · obtain ⟨j, hj, hf, _⟩ := live i (by rw [hb]; simp)
    obtain ⟨n, o, h1, h2, h3, h4⟩ := sat.blk j _ (heapIn_get hin i j b hj hb)
    exact ⟨n, o, by show s.ρ (ren1 _ _ _ _) = _; rw [hf]; exact h1, h2, (relB_ren b o).2 h3, h4⟩
  · obtain ⟨j, hj, hf, hl⟩ := live i hi
    obtain ⟨j', hj', hf', hl'⟩ := live k hk
    simp only [hf] at h1
    simp only [hf'] at h2
    have := sat.inj j j' n hl hl' h1 h2
    subst this
    exact n2 i k j hj hj'
  · show s.ρ (ren1 _ _ _ _) = _
    apply sat.fresh
    unfold ren1
    rw [nth_ge (by omega)]
    exact Nat.le_add_right _ _

/-! Another view of the values l in the heap h; the first b blocks keep their names. -/
structure ShiftV (cx : Cx) (b : Nat) (l : List AV) (h : Heap) (K : List AV → Heap → Prop) : Prop where
  run : ∀ (h0 : Heap) (s0 s : Wd) (vs : List Value), Base b h0 s0 → Ext h0 s0 h s → Sat cx.toGl h s → Rels s l vs →
    ∃ l' h' s', s'.w = s.w ∧ K l' h' ∧ l'.length = l.length ∧ Ext h0 s0 h' s' ∧ Sat cx.toGl h' s' ∧ Rels s' l' vs
theorem shift_id {cx : Cx} {b : Nat} {l : List AV} {h : Heap} {K : List AV → Heap → Prop} (hk : K l h) : ShiftV cx b l h K :=
  ⟨fun _ _ s _ _ ext sat hr => ⟨l, h, s, rfl, hk, rfl, ext, sat, hr⟩⟩
theorem shift_trans {cx : Cx} {b : Nat} {l : List AV} {h : Heap} {K K' : List AV → Heap → Prop} (hs : ShiftV cx b l h K) (hk : ∀ l' h', K l' h' → ShiftV cx b l' h' K') : ShiftV cx b l h K' :=
  ⟨fun h0 s0 s vs hb ext sat hr => by
    obtain ⟨l1, h1, s1, e1, k1, n1, x1, t1, r1⟩ := hs.run h0 s0 s vs hb ext sat hr
    obtain ⟨l2, h2, s2, e2, k2, n2, x2, t2, r2⟩ := (hk l1 h1 k1).run h0 s0 s1 vs hb x1 t1 r1
    exact ⟨l2, h2, s2, e2.trans e1, k2, n2.trans n1, x2, t2, r2⟩⟩
def same (b i : Nat) : List Nat → Bool
  | [] => Nat.ble b i
  | j :: σ => match Nat.blt i b with
    | true => match Nat.beq i j with
      | true => same b (Nat.succ i) σ
      | false => false
    | false => true
theorem same_spec {b : Nat} : ∀ {σ : List Nat} {i : Nat}, same b i σ = true → ∀ k, i + k < b → nth σ k = some (i + k)
  | [], i, h, k, hk => by
    simp only [same] at h
    have := Nat.le_of_ble_eq_true h; omega
  | j :: σ, i, h, k, hk => by
    simp only [same] at h
    split at h
    · split at h <;> try cases h
      rename_i hj
      have hj := Nat.eq_of_beq_eq_true hj
      cases k with
      | zero => simp [nth, hj]
      | succ k =>
        have := same_spec h k (by omega)
        simp only [nth, this, Option.some.injEq]; omega
    · rename_i hb
      have : ¬ i < b := by rw [← Nat.blt_eq]; simp [hb]
      omega
/-- Fewer blocks, under other names. -/
theorem shift_ren {cx : Cx} {b : Nat} {l : List AV} {h : Heap} {K : List AV → Heap → Prop} (σ : List Nat) (l' : List AV) (h' : Heap) (hl : σ.length = h'.length) (hn : namesOK h.length σ = true) (hb : same b 0 σ = true)
    (hv : renTs (ren1 σ h'.length h.length) l' = l) (hin : HeapIn (ren1 σ h'.length h.length) h σ h') (hk : K l' h') : ShiftV cx b l h K := by
  constructor
  intro h0 s0 s vs base ext sat hr
  have hsame : ∀ i, i < b → nth σ i = some i := fun i hi => by simpa using same_spec hb i (by omega)
  have hbl : b ≤ h'.length := by
    rcases Nat.lt_or_ge h'.length b with hlt | hge
    · have := hsame h'.length hlt
      rw [nth_ge (by omega)] at this; cases this
    · exact hge
  have hρ : ∀ i, i < h0.length → s.ρ (ren1 σ h'.length h.length i) = s0.ρ i := fun i hi => by
    have := base.len
    unfold ren1; rw [hsame i (by omega)]; exact ext.names i hi
  refine ⟨l', h', ⟨fun i => s.ρ (ren1 σ h'.length h.length i), s.I, s.w⟩, rfl, hk, by rw [← hv, renTs_length], ?_, sat_ren sat hl hn hin, (rels_ren l' vs).2 (by rw [hv]; exact hr)⟩
  refine ⟨fun i n hi => ?_, ext.I, ext.inew, ext.size, ext.keep, ext.rows, fun n hn => ?_, ext.os, ext.output, ext.tape, Nat.le_trans base.len hbl, hρ⟩
  · have hil : i < h0.length := by
      rcases Nat.lt_or_ge i h0.length with h' | h'
      · exact h'
      · rw [base.fresh i h'] at hi; cases hi
    exact (hρ i hil).trans hi
  · obtain ⟨i, hi, hiρ⟩ := hn
    refine ext.own n ?_
    have hil : i < h'.length := by
      rcases Nat.lt_or_ge i h'.length with h' | h'
      · exact h'
      · rw [hget_ge h'] at hi; exact absurd rfl hi
    obtain ⟨j, hj⟩ := nth_lt (l := σ) (i := i) (by omega)
    cases hb : hget h' i with
    | none => exact absurd hb hi
    | some bb =>
      refine ⟨j, by rw [heapIn_get hin i j bb hj hb]; simp, ?_⟩
      have : ren1 σ h'.length h.length i = j := by simp [ren1, hj]
      rw [← this]; exact hiρ

/-! Freezing: a block of data that nobody writes to any more. -/
mutual
def frz (k : Nat) (ds : List DV) : AV → AV
  | .dat d => .dat d
  | .ptr i o => .ptr i o
  | .map i => .map i
  | .yld i => .yld i
  | .sl i o n c z => match Nat.beq i k with
    | true => .dat (.ros (ldrop ds o) n c)
    | false => .sl i o n c z
  | .func g cs => .func g (frzs k ds cs)
  | .iface t a => match frz k ds a with
    | .dat d => .dat (.iface t d)
    | a => .iface t a
  | .agg cs => .agg (frzs k ds cs)
  | .tup cs => .tup (frzs k ds cs)
def frzs (k : Nat) (ds : List DV) : List AV → List AV
  | [] => []
  | a :: r => frz k ds a :: frzs k ds r
end
theorem frzs_length (k : Nat) (ds : List DV) : ∀ l, (frzs k ds l).length = l.length
  | [] => rfl
  | a :: r => by simp [frzs, frzs_length k ds r]
theorem frzs_dat (k : Nat) (ds : List DV) : ∀ l : List DV, frzs k ds (l.map .dat) = l.map .dat
  | [] => rfl
  | d :: r => by simp [frzs, frz, frzs_dat k ds r]
theorem frzs_append (k : Nat) (ds : List DV) : ∀ (a b : List AV), frzs k ds (a ++ b) = frzs k ds a ++ frzs k ds b
  | [], b => rfl
  | x :: a, b => by simp [frzs, frzs_append k ds a b]
def frzE (k : Nat) (ds : List DV) : List (DV × AV) → List (DV × AV)
  | [] => []
  | (x, a) :: r => (x, frz k ds a) :: frzE k ds r
def frzB (k : Nat) (ds : List DV) : AB → AB
  | .cells cs e g => .cells (frzs k ds cs) e g
  | .mapD es => .mapD es
  | .mapA es => .mapA (frzE k ds es)
  | .siter s p => .siter s p
  | .mapB bs clk es => .mapB bs clk (frzE k ds es)
  | .miter m clk seen => .miter m clk seen
  | .miter0 => .miter0
  | .obj o => .obj o
  | .lp b fn l ps x y => .lp b fn (frzs k ds l) ps x y
def frzH (k : Nat) (ds : List DV) (i : Nat) : Heap → Heap
  | [] => []
  | b :: r => (match Nat.beq i k with
    | true => none
    | false => match b with
      | some b => some (frzB k ds b)
      | none => none) :: frzH k ds (Nat.succ i) r
theorem frzH_length (k : Nat) (ds : List DV) : ∀ (h : Heap) (i : Nat), (frzH k ds i h).length = h.length
  | [], _ => rfl
  | _ :: r, i => by simp [frzH, frzH_length k ds r]
theorem frzH_get (k : Nat) (ds : List DV) : ∀ (h : Heap) (i j : Nat), hget (frzH k ds i h) j = if i + j = k then none else (hget h j).map (frzB k ds)
  | [], i, j => by simp [frzH, hget]
  | b :: r, i, j => by
    cases j with
    | zero =>
      simp only [frzH, hget, Nat.add_zero]
      split
      · rename_i h; rw [if_pos (Nat.eq_of_beq_eq_true h)]
      · rename_i h
        rw [if_neg (fun e => by subst e; simp at h)]
        cases b <;> rfl
    | succ j =>
      simp only [frzH, hget]
      rw [frzH_get k ds r (Nat.succ i) j]
      have : Nat.succ i + j = i + (j + 1) := by omega
      rw [this]

section
variable {s : Wd} {k m : Nat} {ds : List DV} {c : Array Value} {e : Nat} {f : Nat × Nat}
/-- The frozen block's world. -/
def Wd.frz (s : Wd) (m : Nat) : Wd := ⟨s.ρ, fun n => s.I n ∨ n = m, s.w⟩
theorem grows_frz (s : Wd) (m : Nat) : Grows s (s.frz m) := ⟨fun _ _ h => h, fun _ h => .inl h, fun _ _ => rfl, fun _ c _ f h => ⟨c, f, h, rfl⟩⟩
theorem relDs_ldrop {I : Nat → Prop} {w : World} (o : Nat) (ds : List DV) (l : List Value) (h : RelDs I w ds l) : RelDs I w (ldrop ds o) (l.drop o) := by
  rw [ldrop_eq]
  rw [relDs_iff] at h ⊢
  intro i d hd
  rw [List.getElem?_drop] at hd ⊢
  exact h _ d hd
mutual
theorem rel_frz (hρ : s.ρ k = some m) (hm : s.w.heap[m]? = some (.cells c e f)) (hd : RelDs s.I s.w ds c.toList) : ∀ (a : AV) (v : Value), Rel s a v → Rel (s.frz m) (frz k ds a) v
  | .dat d, v, h => rel_mono (grows_frz s m) (.dat d) v h
  | .ptr i o, v, h => rel_mono (grows_frz s m) (.ptr i o) v h
  | .map i, v, h => rel_mono (grows_frz s m) (.map i) v h
  | .yld i, v, h => rel_mono (grows_frz s m) (.yld i) v h
  | .sl i o n cap z, v, h => by
    unfold frz
    split
    · rename_i hb
      have hb := Nat.eq_of_beq_eq_true hb
      subst hb
      simp only [Rel] at h
      obtain ⟨b, q, c', e', f', h1, h2, h3, h4, h5, h6, h7⟩ := h
      rw [hρ] at h1; cases h1
      rw [hm] at h6; cases h6
      simp only [Rel, RelD]
      exact .inr ⟨m, o, c, q, e, f, h2, .inr rfl, hm, h3, h4, h5, relDs_mono (fun n hn => .inl hn) (fun _ _ => rfl) _ _ (relDs_ldrop o ds _ hd)⟩
    · exact rel_mono (grows_frz s m) (.sl i o n cap z) v h
  | .func g cs, v, h => by
    simp only [Rel] at h
    obtain ⟨u, h1, h2, h3⟩ := h
    unfold frz
    simp only [Rel]
    exact ⟨u, h1, by rw [frzs_length]; exact h2, rels_frz hρ hm hd cs _ h3⟩
  | .iface t a, v, h => by
    simp only [Rel] at h
    obtain ⟨u, h1, h2⟩ := h
    have := rel_frz hρ hm hd a u h2
    unfold frz
    split
    · rename_i d hd
      rw [hd] at this
      simp only [Rel, RelD] at this ⊢
      exact ⟨u, h1, this⟩
    · simp only [Rel]
      exact ⟨u, h1, this⟩
  | .agg cs, v, h => by
    simp only [Rel] at h
    obtain ⟨u, h1, h2, h3⟩ := h
    unfold frz
    simp only [Rel]
    exact ⟨u, h1, by rw [frzs_length]; exact h2, rels_frz hρ hm hd cs _ h3⟩
  | .tup cs, v, h => by
    simp only [Rel] at h
    obtain ⟨u, h1, h2, h3⟩ := h
    unfold frz
    simp only [Rel]
    exact ⟨u, h1, by rw [frzs_length]; exact h2, rels_frz hρ hm hd cs _ h3⟩
theorem rels_frz (hρ : s.ρ k = some m) (hm : s.w.heap[m]? = some (.cells c e f)) (hd : RelDs s.I s.w ds c.toList) : ∀ (l : List AV) (vs : List Value), Rels s l vs → Rels (s.frz m) (frzs k ds l) vs
  | [], _, _ => by simp [Rels, frzs]
  | a :: r, [], h => by simp [Rels] at h
  | a :: r, v :: t, h => by
    simp only [Rels, frzs] at h ⊢
    exact ⟨rel_frz hρ hm hd a v h.1, rels_frz hρ hm hd r t h.2⟩
end
theorem relE_frz (hρ : s.ρ k = some m) (hm : s.w.heap[m]? = some (.cells c e f)) (hd : RelDs s.I s.w ds c.toList) : ∀ (es : List (DV × AV)) (l : List MapEntry), RelE (Rel s) s es l → RelE (Rel (s.frz m)) (s.frz m) (frzE k ds es) l
  | [], [], _ => by simp [RelE, frzE]
  | [], _ :: _, h => by simp [RelE] at h
  | _ :: _, [], h => by simp [RelE] at h
  | (x, a) :: r, en :: l, h => by
    simp only [RelE, frzE] at h ⊢
    exact ⟨⟨relD_mono (grows_frz s m).I (grows_frz s m).same _ _ h.1.1, rel_frz hρ hm hd a _ h.1.2⟩, relE_frz hρ hm hd r l h.2⟩
theorem relB_frz (hρ : s.ρ k = some m) (hm : s.w.heap[m]? = some (.cells c e f)) (hd : RelDs s.I s.w ds c.toList) (b : AB) (o : Obj) (h : RelB s b o) : RelB (s.frz m) (frzB k ds b) o := by
  cases b with
  | cells cs el g =>
    obtain ⟨c', h1, h2, h3⟩ := h
    exact ⟨c', h1, rels_frz hρ hm hd cs _ h2, fun hg => by rw [frzs_length]; exact h3 hg⟩
  | mapD es => exact relB_mono (grows_frz s m) (.mapD es) o h
  | mapA es =>
    obtain ⟨ents, clk, h1, h2, h3, h4⟩ := h
    exact ⟨ents, clk, h1, relE_frz hρ hm hd es _ h2, h3, h4⟩
  | siter str p => exact relB_mono (grows_frz s m) (.siter str p) o h
  | mapB bs clk es =>
    obtain ⟨ents, h1, h2, h3⟩ := h
    exact ⟨ents, h1, relE_frz hρ hm hd es _ h2, h3⟩
  | miter m' clk seen => exact relB_mono (grows_frz s m) (.miter m' clk seen) o h
  | miter0 => exact relB_mono (grows_frz s m) .miter0 o h
  | obj o' => exact relB_mono (grows_frz s m) (.obj o') o h
  | lp b fn l ps x y =>
    obtain ⟨t, d, h1, h2, h3⟩ := h
    exact ⟨t, d, h1, rels_frz hρ hm hd l _ h2, by rw [frzs_length]; exact h3⟩
end

def datOf : List AV → Option (List DV)
  | [] => some []
  | .dat d :: r => match datOf r with
    | some ds => some (d :: ds)
    | none => none
  | _ :: _ => none
theorem shift_frz {cx : Cx} {b : Nat} {l : List AV} {h : Heap} {K : List AV → Heap → Prop} (k : Nat) (ds : List DV) {el : Nat} {g : Bool} (hb : hget h k = some (.cells (ds.map .dat) el g)) (hk : K (frzs k ds l) (frzH k ds 0 h)) : ShiftV cx b l h K := by
  constructor
  intro h0 s0 s vs base ext sat hr
  obtain ⟨m, o, h1, h2, h3, h4⟩ := sat.blk k _ hb
  obtain ⟨c, rfl, h5, h6⟩ := h3
  have hd : RelDs s.I s.w ds c.toList := rels_dat.1 h5
  have hget' : ∀ i b', hget (frzH k ds 0 h) i = some b' → i ≠ k ∧ ∃ b0, hget h i = some b0 ∧ b' = frzB k ds b0 := fun i b' hb' => by
    rw [frzH_get] at hb'
    simp only [Nat.zero_add] at hb'
    split at hb'
    · cases hb'
    · rename_i hne
      cases hbb : hget h i with
      | none => rw [hbb] at hb'; cases hb'
      | some b0 => rw [hbb] at hb'; simp at hb'; exact ⟨hne, b0, rfl, hb'.symm⟩
  have live : ∀ i, hget (frzH k ds 0 h) i ≠ none → i ≠ k ∧ hget h i ≠ none := fun i hi => by
    cases hb' : hget (frzH k ds 0 h) i with
    | none => exact absurd hb' hi
    | some b' =>
      obtain ⟨hne, b0, h7, _⟩ := hget' i b' hb'
      exact ⟨hne, by rw [h7]; simp⟩
  refine ⟨_, _, s.frz m, rfl, hk, frzs_length k ds l, ?_, ?_, rels_frz h1 h2 hd l vs hr⟩
  · refine ⟨ext.ρ, fun n hn => .inl (ext.I n hn), fun n hn => ?_, ext.size, ext.keep, ext.rows, fun n ⟨i, hi, hρ⟩ => ext.own n ⟨i, (live i hi).2, hρ⟩, ext.os, ext.output, ext.tape, by rw [frzH_length]; exact ext.len, ext.names⟩
    rcases hn with hn | rfl
    · exact ext.inew n hn
    · exact .inr (ext.own n ⟨k, by rw [hb]; simp, h1⟩)
  · refine ⟨fun i b' hb' => ?_, fun i j n hi hj => sat.inj i j n (live i hi).2 (live j hj).2, fun i hi => sat.fresh i (by rwa [frzH_length] at hi), fun n hn => ?_, fun gl cs hg => ?_, sat.dr, ⟨sat.old.b, fun n hn => .inl (sat.old.I n hn)⟩⟩
    · obtain ⟨hne, b0, h7, rfl⟩ := hget' i b' hb'
      obtain ⟨n, o, k1, k2, k3, k4⟩ := sat.blk i b0 h7
      refine ⟨n, o, k1, k2, relB_frz h1 h2 hd b0 o k3, fun hI => ?_⟩
      rcases hI with hI | rfl
      · exact k4 hI
      · exact hne (sat.inj i k n (by rw [h7]; simp) (by rw [hb]; simp) k1 h1)
    · rcases hn with hn | rfl
      · exact sat.imm n hn
      · exact (Array.getElem?_eq_some_iff.1 h2).1
    · obtain ⟨k1, c', e', f', k2, k3⟩ := sat.glob gl cs hg
      exact ⟨.inl k1, c', e', f', k2, relDs_mono (grows_frz s m).I (grows_frz s m).same _ _ k3⟩

/-- A map that was ranged over is a map again. -/
theorem shift_blk {cx : Cx} {b : Nat} {l : List AV} {h : Heap} {K : List AV → Heap → Prop} (k : Nat) {b0 : AB} (hb : hget h k = some b0) (b' : AB) (hv : ∀ s o, RelB s b0 o → RelB s b' o) (hk : K l (hset h k (some b'))) : ShiftV cx b l h K :=
  ⟨fun _ _ s _ _ ext sat hr => by
    obtain ⟨s1, e1⟩ := sat_view sat hb b' (fun _ o _ _ h => hv s o h)
    exact ⟨l, _, s, rfl, hk, rfl, ext.trans e1, s1, hr⟩⟩
theorem relE_unlift {s : Wd} : ∀ {es : List (DV × DV)} {l : List MapEntry}, RelE (Rel s) s (liftE es) l → RelE (RelD s.I s.w) s es l
  | [], [], _ => trivial
  | [], _ :: _, h => h.elim
  | _ :: _, [], h => h.elim
  | (k, d) :: r, e :: l, h => ⟨⟨h.1.1, by simpa [Rel] using h.1.2⟩, relE_unlift h.2⟩
theorem relB_mapB {bs : List Nat} {clk : Nat} {es : List (DV × AV)} (s : Wd) (o : Obj) (h : RelB s (.mapB bs clk es) o) : RelB s (.mapA es) o := by
  obtain ⟨ents, h1, h2, h3, h4, h5⟩ := h
  exact ⟨ents, clk, h1, h2, by rw [h3]; exact h4, fun e he => h5 _ (by rw [← h3]; exact List.mem_map.2 ⟨e, he, rfl⟩)⟩
theorem relB_mapBD {bs : List Nat} {clk : Nat} {es : List (DV × DV)} (s : Wd) (o : Obj) (h : RelB s (.mapB bs clk (liftE es)) o) : RelB s (.mapD es) o := by
  obtain ⟨ents, h1, h2, h3, h4, h5⟩ := h
  exact ⟨ents, clk, h1, relE_unlift h2, by rw [h3]; exact h4, fun e he => h5 _ (by rw [← h3]; exact List.mem_map.2 ⟨e, he, rfl⟩)⟩
theorem shift_unBD {cx : Cx} {b : Nat} {l : List AV} {h : Heap} {K : List AV → Heap → Prop} (k : Nat) {bs : List Nat} {clk : Nat} {es : List (DV × DV)} (hb : hget h k = some (.mapB bs clk (liftE es))) (hk : K l (hset h k (some (.mapD es)))) : ShiftV cx b l h K :=
  shift_blk k hb (.mapD es) (fun s o h => relB_mapBD s o h) hk
theorem shift_unB {cx : Cx} {b : Nat} {l : List AV} {h : Heap} {K : List AV → Heap → Prop} (k : Nat) {bs : List Nat} {clk : Nat} {es : List (DV × AV)} (hb : hget h k = some (.mapB bs clk es)) (hk : K l (hset h k (some (.mapA es)))) : ShiftV cx b l h K :=
  shift_blk k hb (.mapA es) (fun s o h => relB_mapB s o h) hk
end Go.Abs

namespace Go.Abs

/-! Data that is written as a value with names. -/
mutual
def toDV : AV → Option DV
  | .dat d => some d
  | .iface t a => match toDV a with
    | some d => some (.iface t d)
    | none => none
  | .agg cs => match toDVs cs with
    | some ds => some (.agg ds)
    | none => none
  | .tup cs => match toDVs cs with
    | some ds => some (.tup ds)
    | none => none
  | _ => none
def toDVs : List AV → Option (List DV)
  | [] => some []
  | a :: r => match toDV a with
    | some d => match toDVs r with
      | some ds => some (d :: ds)
      | none => none
    | none => none
end
mutual
theorem toDV_rel {s : Wd} : ∀ (a : AV) (d : DV) (v : Value), toDV a = some d → Rel s a v → RelD s.I s.w d v
  | .dat d', d, v, h, hr => by simp only [toDV, Option.some.injEq] at h; subst h; simpa [Rel] using hr
  | .iface t a, d, v, h, hr => by
    simp only [toDV] at h
    split at h <;> cases h
    rename_i d' hd
    simp only [Rel] at hr
    obtain ⟨u, h1, h2⟩ := hr
    simp only [RelD]
    exact ⟨u, h1, toDV_rel a d' u hd h2⟩
  | .agg cs, d, v, h, hr => by
    simp only [toDV] at h
    split at h <;> cases h
    rename_i ds hds
    simp only [Rel] at hr
    obtain ⟨u, h1, h2, h3⟩ := hr
    obtain ⟨h4, h5⟩ := toDVs_rel cs ds u.toList hds h3
    simp only [RelD]
    exact ⟨u, h1, h5.trans h2, h4⟩
  | .tup cs, d, v, h, hr => by
    simp only [toDV] at h
    split at h <;> cases h
    rename_i ds hds
    simp only [Rel] at hr
    obtain ⟨u, h1, h2, h3⟩ := hr
    obtain ⟨h4, h5⟩ := toDVs_rel cs ds u.toList hds h3
    simp only [RelD]
    exact ⟨u, h1, h5.trans h2, h4⟩
  | .ptr _ _, d, v, h, hr => by simp [toDV] at h
  | .map _, d, v, h, hr => by simp [toDV] at h
  | .yld _, d, v, h, hr => by simp [toDV] at h
  | .sl _ _ _ _ _, d, v, h, hr => by simp [toDV] at h
  | .func _ _, d, v, h, hr => by simp [toDV] at h
theorem toDVs_rel {s : Wd} : ∀ (l : List AV) (ds : List DV) (vs : List Value), toDVs l = some ds → Rels s l vs → RelDs s.I s.w ds vs ∧ ds.length = l.length
  | [], ds, vs, h, hr => by simp only [toDVs, Option.some.injEq] at h; subst h; exact ⟨by simp [RelDs], rfl⟩
  | a :: r, ds, [], h, hr => by simp [Rels] at hr
  | a :: r, ds, v :: vs, h, hr => by
    simp only [toDVs] at h
    split at h <;> try cases h
    rename_i d hd
    split at h <;> try cases h
    rename_i ds' hds
    simp only [Rels] at hr
    obtain ⟨h1, h2⟩ := toDVs_rel r ds' vs hds hr.2
    exact ⟨⟨toDV_rel a d v hd hr.1, h1⟩, by simp [h2]⟩
end
def canA (a : AV) : AV := match toDV a with
  | some d => .dat d
  | none => a
def canAs : List AV → List AV
  | [] => []
  | a :: r => canA a :: canAs r
theorem canA_rel {s : Wd} {a : AV} {v : Value} (h : Rel s a v) : Rel s (canA a) v := by
  unfold canA
  split
  · rename_i d hd; simpa [Rel] using toDV_rel a d v hd h
  · exact h
theorem canAs_rel {s : Wd} : ∀ {l : List AV} {vs : List Value}, Rels s l vs → Rels s (canAs l) vs
  | [], _, _ => by simp [canAs, Rels]
  | a :: r, [], h => by simp [Rels] at h
  | a :: r, v :: vs, h => by
    simp only [canAs, Rels] at h ⊢
    exact ⟨canA_rel h.1, canAs_rel h.2⟩
theorem canAs_length : ∀ l, (canAs l).length = l.length
  | [] => rfl
  | a :: r => by simp [canAs, canAs_length r]
theorem shift_can {cx : Cx} {b : Nat} {l : List AV} {h : Heap} {K : List AV → Heap → Prop} (hk : K (canAs l) h) : ShiftV cx b l h K :=
  ⟨fun _ _ s _ _ ext sat hr => ⟨canAs l, h, s, rfl, hk, canAs_length l, ext, sat, canAs_rel hr⟩⟩

/-! A contract of a small heap, in a larger one. -/
def renO (f : Nat → Nat) (b : Option AB) : Option AB := match b with
  | some b => some (renB f b)
  | none => none
def splice (f : Nat → Nat) : List Nat → Heap → Heap → Heap
  | j :: σ, b :: r, H => splice f σ r (hset H j (renO f b))
  | _, r, H => H ++ mapB f r
where mapB (f : Nat → Nat) : Heap → Heap
  | [] => []
  | b :: r => renO f b :: mapB f r
theorem mapB_length (f : Nat → Nat) : ∀ h, (splice.mapB f h).length = h.length
  | [] => rfl
  | _ :: r => by simp [splice.mapB, mapB_length f r]
theorem mapB_get (f : Nat → Nat) : ∀ h i, hget (splice.mapB f h) i = (hget h i).map (renB f)
  | [], i => by simp [splice.mapB, hget]
  | b :: r, i => by
    cases i with
    | zero => cases b <;> simp [splice.mapB, hget, renO]
    | succ i => simp only [splice.mapB, hget]; exact mapB_get f r i
theorem hget_append (h g : Heap) (i : Nat) : hget (h ++ g) i = if i < h.length then hget h i else hget g (i - h.length) := by
  rw [hget_eq, hget_eq, hget_eq, List.getElem?_append]
  split <;> rfl
theorem splice_length (f : Nat → Nat) : ∀ (σ : List Nat) (h H : Heap), (splice f σ h H).length = H.length + (h.length - σ.length)
  | [], h, H => by simp [splice, mapB_length]
  | j :: σ, [], H => by simp [splice, splice.mapB]
  | j :: σ, b :: r, H => by simp only [splice]; rw [splice_length f σ r]; simp [hset_length]
theorem splice_get (f : Nat → Nat) {N : Nat} : ∀ (σ : List Nat) (h H : Heap), (∀ x ∈ σ, x < H.length) → (∀ i k j, nth σ i = some j → nth σ k = some j → i = k) → σ.length ≤ h.length →
    (∀ i j, nth σ i = some j → hget (splice f σ h H) j = (hget h i).map (renB f)) ∧ (∀ j, j < H.length → j ∉ σ → hget (splice f σ h H) j = hget H j) ∧ (∀ i, σ.length ≤ i → hget (splice f σ h H) (H.length + (i - σ.length)) = (hget h i).map (renB f))
  | [], h, H, _, _, _ => by
    refine ⟨fun i j h => by simp [nth] at h, fun j hj _ => ?_, fun i _ => ?_⟩
    · simp only [splice, hget_append, hj, if_true]
    · simp only [splice, hget_append, mapB_get]
      rw [if_neg (by simp)]
      simp
  | j0 :: σ, [], H, _, _, hl => by simp at hl
  | j0 :: σ, b :: r, H, hlt, hinj, hl => by
    have hj0 : j0 < H.length := hlt j0 (by simp)
    have hnm : ∀ i, nth σ i ≠ some j0 := fun i hi => by
      have := hinj 0 (i + 1) j0 rfl (by simpa [nth] using hi)
      omega
    have hnm' : j0 ∉ σ := fun hm => by
      obtain ⟨i, hi⟩ := List.mem_iff_getElem?.1 hm
      exact hnm i (by rw [nth_eq]; exact hi)
    generalize hH : hset H j0 (renO f b) = H'
    have hH' : H'.length = H.length := by rw [← hH, hset_length]
    obtain ⟨a1, a2, a3⟩ := splice_get f (N := N) σ r H' (fun x hx => by rw [hH']; exact hlt x (by simp [hx])) (fun i k j hi hk => by have := hinj (i + 1) (k + 1) j (by simpa [nth] using hi) (by simpa [nth] using hk); omega) (by simpa using hl)
    simp only [splice, hH]
    refine ⟨fun i j hj => ?_, fun j hj hm => ?_, fun i hi => ?_⟩
    · cases i with
      | zero =>
        simp only [nth, Option.some.injEq] at hj; subst hj
        rw [a2 j0 (by rw [hH']; exact hj0) hnm', ← hH, hget_hset _ _ _ _ hj0, if_pos rfl]
        cases b <;> rfl
      | succ i => exact a1 i j (by simpa [nth] using hj)
    · simp only [List.mem_cons, not_or] at hm
      rw [a2 j (by rw [hH']; exact hj) hm.2, ← hH, hget_hset _ _ _ _ hj0, if_neg hm.1]
    · cases i with
      | zero => simp at hi
      | succ i =>
        have := a3 i (by simpa using hi)
        rw [hH'] at this
        simp only [List.length_cons]
        rw [show i + 1 - (σ.length + 1) = i - σ.length from by omega]
        exact this

theorem ren1_lt {σ : List Nat} {m N i : Nat} {j : Nat} (h : nth σ i = some j) : ren1 σ m N i = j := by simp [ren1, h]
theorem ren1_ge {σ : List Nat} {m N i : Nat} (h : σ.length ≤ i) : ren1 σ m N i = N + (i - m) := by simp [ren1, nth_ge h]

theorem CallA.sub {cx : Cx} {f : Nat} {args args' : List AV} {h H : Heap} {K : AV → Heap → Prop} (σ : List Nat) (hl : σ.length = h.length) (hσ : namesOK H.length σ = true)
    (hargs : renTs (ren1 σ h.length H.length) args = args') (hin : HeapIn (ren1 σ h.length H.length) H σ h)
    (hc : CallA cx f args h fun a h' => K (renT (ren1 σ h.length H.length) a) (splice (ren1 σ h.length H.length) σ h' H)) : CallA cx f args' H K := by
  constructor
  intro s vs sat hlen hr
  obtain ⟨n1, n2⟩ := namesOK_spec hσ
  generalize hg : ren1 σ h.length H.length = g at *
  have satS : Sat cx.toGl h ⟨fun i => s.ρ (g i), s.I, s.w⟩ := by
    have := sat_ren sat hl hσ (h := h) (by rw [hg]; exact hin)
    rw [hg] at this; exact this
  obtain ⟨c1, c2⟩ := hc.run ⟨fun i => s.ρ (g i), s.I, s.w⟩ vs satS (by rw [← hlen, ← hargs, renTs_length]) ((rels_ren args vs.toList).2 (by rw [hargs]; exact hr))
  refine ⟨c1, c2.mono fun e w' ⟨v, he, a, h', s1, hw, hk, hrel, sat1, ext1⟩ => ⟨v, he, ?_⟩⟩
  -- the names in the large heap
  have hlen1 : h.length ≤ h'.length := ext1.len
  have glt : ∀ i j, nth σ i = some j → g i = j := fun i j hj => by rw [← hg]; exact ren1_lt hj
  have gge : ∀ i, h.length ≤ i → g i = H.length + (i - h.length) := fun i hi => by rw [← hg]; exact ren1_ge (by omega)
  have gin : ∀ i, i < h.length → ∃ j, nth σ i = some j ∧ g i = j ∧ j < H.length := fun i hi => by
    obtain ⟨j, hj⟩ := nth_lt (l := σ) (i := i) (by omega)
    exact ⟨j, hj, glt i j hj, n1 j (by rw [nth_eq] at hj; exact List.mem_of_getElem? hj)⟩
  obtain ⟨g1, g2, g3⟩ := splice_get g (N := 0) σ h' H n1 n2 (by omega)
  let ρ' : Nat → Option Nat := fun j => if j < H.length then s.ρ j else s1.ρ (h.length + (j - H.length))
  have hρ : ∀ i, ρ' (g i) = s1.ρ i := fun i => by
    rcases Nat.lt_or_ge i h.length with hi | hi
    · obtain ⟨j, hj, hgj, hjl⟩ := gin i hi
      show (if g i < H.length then _ else _) = _
      rw [hgj, if_pos hjl, ext1.names i hi, ← hgj]
    · show (if g i < H.length then _ else _) = _
      rw [gge i hi, if_neg (by omega)]
      congr 1; omega
  have hs1 : (⟨fun i => ρ' (g i), s1.I, s1.w⟩ : Wd) = s1 := by
    obtain ⟨r, I, w⟩ := s1
    simp only [Wd.mk.injEq, and_true]
    funext i; exact hρ i
  have relR : ∀ a v, Rel s1 a v → Rel ⟨ρ', s1.I, s1.w⟩ (renT g a) v := fun a v h => (rel_ren (s := ⟨ρ', s1.I, s1.w⟩) a v).1 (by show Rel ⟨fun i => ρ' (g i), s1.I, s1.w⟩ a v; rw [hs1]; exact h)
  have relBR : ∀ b o, RelB s1 b o → RelB ⟨ρ', s1.I, s1.w⟩ (renB g b) o := fun b o h => (relB_ren (s := ⟨ρ', s1.I, s1.w⟩) b o).1 (by show RelB ⟨fun i => ρ' (g i), s1.I, s1.w⟩ b o; rw [hs1]; exact h)
  have ownS : ∀ n, Owned h ⟨fun i => s.ρ (g i), s.I, s.w⟩ n → ∃ j, j ∈ σ ∧ hget H j ≠ none ∧ s.ρ j = some n := fun n ⟨i, hi, hn⟩ => by
    have hil : i < h.length := by
      rcases Nat.lt_or_ge i h.length with h' | h'
      · exact h'
      · rw [hget_ge h'] at hi; exact absurd rfl hi
    obtain ⟨j, hj, hgj, hjl⟩ := gin i hil
    cases hb : hget h i with
    | none => exact absurd hb hi
    | some b =>
      refine ⟨j, by rw [nth_eq] at hj; exact List.mem_of_getElem? hj, ?_, by rw [← hgj]; exact hn⟩
      have := heapIn_get (f := g) (H := H) hin i j b hj hb
      rw [this]; simp
  have ownS' : ∀ n, Owned h ⟨fun i => s.ρ (g i), s.I, s.w⟩ n → Owned H s n := fun n hn => by
    obtain ⟨j, _, h1, h2⟩ := ownS n hn; exact ⟨j, h1, h2⟩
  have growsB : Grows s ⟨ρ', s1.I, s1.w⟩ := by
    refine ⟨fun i n hi => ?_, ext1.I, fun n hn => ext1.keep n (sat.imm n hn) (fun ho => sat.not_owned hn (ownS' n ho)), ext1.rows⟩
    have : i < H.length := by
      rcases Nat.lt_or_ge i H.length with h' | h'
      · exact h'
      · rw [sat.fresh i h'] at hi; cases hi
    show (if _ then _ else _) = _
    rw [if_pos this]; exact hi
  have cls : ∀ j b, hget (splice g σ h' H) j = some b → (j < H.length ∧ j ∉ σ ∧ hget H j = some b) ∨ (∃ i b0, g i = j ∧ hget h' i = some b0 ∧ b = renB g b0) := fun j b hb => by
    by_cases hjl : j < H.length
    · by_cases hm : j ∈ σ
      · right
        obtain ⟨i, hi⟩ := List.mem_iff_getElem?.1 hm
        have hi' : nth σ i = some j := by rw [nth_eq]; exact hi
        rw [g1 i j hi'] at hb
        cases hbb : hget h' i with
        | none => rw [hbb] at hb; cases hb
        | some b0 => rw [hbb] at hb; simp at hb; exact ⟨i, b0, glt i j hi', hbb, hb.symm⟩
      · exact .inl ⟨hjl, hm, by rw [← g2 j hjl hm]; exact hb⟩
    · right
      have := g3 (h.length + (j - H.length)) (by omega)
      rw [show H.length + (h.length + (j - H.length) - σ.length) = j from by omega] at this
      rw [this] at hb
      cases hbb : hget h' (h.length + (j - H.length)) with
      | none => rw [hbb] at hb; cases hb
      | some b0 => rw [hbb] at hb; simp at hb; exact ⟨_, b0, by rw [gge _ (by omega)]; omega, hbb, hb.symm⟩
  have kept : ∀ j b, j < H.length → j ∉ σ → hget H j = some b → ∃ n o, s.ρ j = some n ∧ ρ' j = some n ∧ s.w.heap[n]? = some o ∧ s1.w.heap[n]? = some o ∧ RelB s b o ∧ ¬ s.I n ∧ n < s.w.heap.size ∧ ¬ Owned h ⟨fun i => s.ρ (g i), s.I, s.w⟩ n := fun j b hjl hm hb => by
    obtain ⟨n, o, k1, k2, k3, k4⟩ := sat.blk j b hb
    have hlt := (Array.getElem?_eq_some_iff.1 k2).1
    have hno : ¬ Owned h ⟨fun i => s.ρ (g i), s.I, s.w⟩ n := fun ho => by
      obtain ⟨j', hj', hl', hρ'⟩ := ownS n ho
      have := sat.inj j j' n (by rw [hb]; simp) hl' k1 hρ'
      subst this; exact hm hj'
    refine ⟨n, o, k1, ?_, k2, (ext1.keep n hlt hno).trans k2, k3, k4, hlt, hno⟩
    show (if _ then _ else _) = _
    rw [if_pos hjl]; exact k1
  refine ⟨renT g a, splice g σ h' H, ⟨ρ', s1.I, s1.w⟩, hw, hk, relR a v hrel, ⟨fun j b hb => ?_, fun j k n hj hk h1 h2 => ?_, fun j hj => ?_, sat1.imm, sat1.glob, sat1.dr, ⟨sat1.old.b, sat1.old.I⟩⟩, ?_⟩
  · rcases cls j b hb with ⟨hjl, hm, hb⟩ | ⟨i, b0, hgi, hb0, rfl⟩
    · obtain ⟨n, o, k1, k2, k3, k4, k5, k6, k7, k8⟩ := kept j b hjl hm hb
      refine ⟨n, o, k2, k4, relB_mono growsB b o k5, fun hI => ?_⟩
      rcases ext1.inew n hI with h1 | h1 | h1
      · exact k6 h1
      · have : s.w.heap.size ≤ n := h1
        omega
      · exact k8 h1
    · obtain ⟨n, o, k1, k2, k3, k4⟩ := sat1.blk i b0 hb0
      exact ⟨n, o, by show ρ' j = _; rw [← hgi, hρ]; exact k1, k2, relBR b0 o k3, k4⟩
  · have nm : ∀ j n, hget (splice g σ h' H) j ≠ none → ρ' j = some n → (j < H.length ∧ hget H j ≠ none ∧ s.ρ j = some n ∧ n < s.w.heap.size ∧ ¬ Owned h' s1 n) ∨ (∃ i, g i = j ∧ hget h' i ≠ none ∧ s1.ρ i = some n) := fun j n hj hn => by
      cases hb : hget (splice g σ h' H) j with
      | none => exact absurd hb hj
      | some b =>
        rcases cls j b hb with ⟨hjl, hm, hb⟩ | ⟨i, b0, hgi, hb0, rfl⟩
        · left
          obtain ⟨n', o, k1, k2, k3, k4, k5, k6, k7, k8⟩ := kept j b hjl hm hb
          rw [hn] at k2; cases k2
          refine ⟨hjl, by rw [hb]; simp, k1, k7, fun ho => ?_⟩
          rcases ext1.own n ho with h1 | h1
          · have : s.w.heap.size ≤ n := h1
            omega
          · exact k8 h1
        · right
          exact ⟨i, hgi, by rw [hb0]; simp, by rw [← hρ, hgi]; exact hn⟩
    rcases nm j n hj h1 with ⟨a1, a2, a3, a4, a5⟩ | ⟨i, a1, a2, a3⟩ <;> rcases nm k n hk h2 with ⟨b1, b2, b3, b4, b5⟩ | ⟨i', b1, b2, b3⟩
    · exact sat.inj j k n a2 b2 a3 b3
    · exact absurd ⟨i', b2, b3⟩ a5
    · exact absurd ⟨i, a2, a3⟩ b5
    · rw [← a1, ← b1, sat1.inj i i' n a2 b2 a3 b3]
  · show (if _ then _ else _) = _
    rw [splice_length] at hj
    rw [if_neg (by omega)]
    exact sat1.fresh _ (by omega)
  · refine ⟨growsB.ρ, ext1.I, fun n hn => ?_, ext1.size, fun n hn ho => ext1.keep n hn (fun h => ho (ownS' n h)), ext1.rows, fun n ⟨j, hj, hn⟩ => ?_, ext1.os, ext1.output, ext1.tape, by rw [splice_length]; omega, fun j hj => by show (if _ then _ else _) = _; rw [if_pos hj]⟩
    · rcases ext1.inew n hn with h1 | h1 | h1
      · exact .inl h1
      · exact .inr (.inl h1)
      · exact .inr (.inr (ownS' n h1))
    · cases hb : hget (splice g σ h' H) j with
      | none => exact absurd hb hj
      | some b =>
        rcases cls j b hb with ⟨hjl, hm, hb⟩ | ⟨i, b0, hgi, hb0, rfl⟩
        · obtain ⟨n', o, k1, k2, k3, k4, k5, k6, k7, k8⟩ := kept j b hjl hm hb
          have hn' : ρ' j = some n := hn
          rw [hn'] at k2; cases k2
          exact .inr ⟨j, by rw [hb]; simp, k1⟩
        · have hn' : ρ' j = some n := hn
          rcases ext1.own n ⟨i, by rw [hb0]; simp, by rw [← hρ, hgi]; exact hn'⟩ with h1 | h1
          · exact .inl h1
          · exact .inr (ownS' n h1)

/-- The arguments of a call in another view. -/
theorem CallA.shift {cx : Cx} {f : Nat} {args : List AV} {h : Heap} {K : AV → Heap → Prop} (hs : ShiftV cx h.length args h fun args' h' => CallA cx f args' h' K) : CallA cx f args h K := by
  constructor
  intro s vs sat hlen hr
  obtain ⟨l', h', s', hw, hk, hl, ext, sat', hr'⟩ := hs.run h s s vs.toList ⟨Nat.le_refl _, sat.fresh⟩ (Ext.refl h s) sat hr
  obtain ⟨c1, c2⟩ := hk.run s' vs sat' (by rw [hl]; exact hlen) hr'
  rw [hw] at c1 c2
  exact ⟨c1, c2.mono fun e w' ⟨v, he, a, h2, s2, k1, k2, k3, k4, k5⟩ => ⟨v, he, a, h2, s2, k1, k2, k3, k4, ext.trans k5⟩⟩
/-- The result of a call in another view. -/
def ret1 (K : AV → Heap → Prop) : List AV → Heap → Prop
  | [a], h => K a h
  | _, _ => False
theorem CallA.ret {cx : Cx} {f : Nat} {args : List AV} {h : Heap} {K : AV → Heap → Prop} (hc : CallA cx f args h fun a h' => ShiftV cx h.length [a] h' (ret1 K)) : CallA cx f args h K := by
  constructor
  intro s vs sat hlen hr
  obtain ⟨c1, c2⟩ := hc.run s vs sat hlen hr
  refine ⟨c1, c2.mono fun e w' ⟨v, he, a, h2, s2, k1, k2, k3, k4, k5⟩ => ⟨v, he, ?_⟩⟩
  obtain ⟨l', h', s', hw, hk, hl, ext, sat', hr'⟩ := k2.run h s s2 [v] ⟨Nat.le_refl _, sat.fresh⟩ k5 k4 ⟨k3, trivial⟩
  unfold ret1 at hk
  split at hk
  · exact ⟨_, h', s', hw.trans k1, hk, hr'.1, sat', ext⟩
  · exact hk.elim

/-! The slots that matter, in another view. -/
def evE (e : Env) : List Nat → List AV
  | [] => []
  | i :: r => e i :: evE e r
def mkE : List Nat → List AV → Env
  | i :: r, a :: t, j => match Nat.beq j i with
    | true => a
    | false => mkE r t j
  | _, _, _ => .dat .bad
theorem mkE_rel {s : Wd} {tmps : Array Value} : ∀ {is : List Nat} {l : List AV}, Rels s l (is.map fun i => tmps.getD i undef) → ∀ j, Rel s (mkE is l j) (tmps.getD j undef)
  | [], [], _, j => by simp [mkE, Rel, RelD]
  | [], _ :: _, h, j => by simp [Rels] at h
  | i :: r, [], _, j => by simp [mkE, Rel, RelD]
  | i :: r, a :: t, h, j => by
    simp only [List.map_cons, Rels] at h
    simp only [mkE]
    split
    · rename_i hb; rw [Nat.eq_of_beq_eq_true hb]; exact h.1
    · exact mkE_rel h.2 j
theorem evE_rel {s : Wd} {tmps : Array Value} {e : Env} (h : ∀ i, Rel s (e i) (tmps.getD i undef)) : ∀ is : List Nat, Rels s (evE e is) (is.map fun i => tmps.getD i undef)
  | [] => by simp [evE, Rels]
  | i :: r => by simp only [evE, List.map_cons, Rels]; exact ⟨h i, evE_rel h r⟩
theorem loopA_shift {cx : Cx} {n b : Nat} {c : Code} {Kx : Nat → Env → Heap → Prop} {Kr : Env → Heap → Prop} {e : Env} {h : Heap} (is : List Nat)
    (hs : ShiftV cx b (evE e is) h fun l' h' => loopA cx n b c Kx Kr (mkE is l') h') : loopA cx n b c Kx Kr e h := by
  constructor
  intro h0 s0 s a base ext sat he hd
  obtain ⟨l', h', s', hw, hk, hl, ext', sat', hr'⟩ := hs.run h0 s0 s _ base ext sat (evE_rel he.2 is)
  have := hk.run h0 s0 s' a base ext' sat' ⟨he.1, mkE_rel hr'⟩ hd
  rwa [hw] at this

end Go.Abs

namespace Go.Abs

/-! The table of types, and that it is the program's. -/
inductive TT where
  | nil
  | node (l : TT) (k : Nat) (v : TyI) (r : TT)
def TT.get (t : TT) (i : Nat) : Option TyI := match t with
  | .nil => none
  | .node l k v r => match Nat.beq i k with
    | true => some v
    | false => match Nat.blt i k with
      | true => get l i
      | false => get r i
def TT.all (p : Nat → TyI → Bool) : TT → Bool
  | .nil => true
  | .node l k v r => all p l && p k v && all p r
theorem TT.all_get {p : Nat → TyI → Bool} : ∀ {t : TT}, t.all p = true → ∀ {i v}, t.get i = some v → p i v = true
  | .nil, _, i, v, h => by simp [TT.get] at h
  | .node l k w r, ha, i, v, h => by
    simp only [TT.all, Bool.and_eq_true] at ha
    simp only [TT.get] at h
    split at h
    · rename_i hb; cases h; rw [Nat.eq_of_beq_eq_true hb]; exact ha.1.2
    · split at h
      · exact TT.all_get ha.1.1 h
      · exact TT.all_get ha.2 h

def kB : IntKind → IntKind → Bool := kEq
theorem kB_eq {a b : IntKind} (h : kB a b = true) : a = b := by cases a <;> cases b <;> first | rfl | cases h
mutual
def zB : DV → Value → Bool
  | .int k n, .int k' n' => kB k k' && decide (n = n')
  | .bool b, .bool b' => b == b'
  | .str s, .string s' => Nat.beq s.size 0 && Nat.beq s'.size 0
  | .nilp, .pointer none => true
  | .nils, .slice none 0 0 => true
  | .nilm, .map none => true
  | .nilf, .nilFunc => true
  | .nili, .nilIface => true
  | .agg ds, .agg vs => zBs ds vs.toList
  | _, _ => false
def zBs : List DV → List Value → Bool
  | [], [] => true
  | d :: r, v :: t => zB d v && zBs r t
  | _, _ => false
end
theorem ba_zero {s : ByteArray} (h : s.size = 0) : s = ByteArray.empty := by
  apply ByteArray.ext
  apply Array.eq_empty_of_size_eq_zero
  exact h
mutual
theorem zB_rel {I : Nat → Prop} {w : World} : ∀ (d : DV) (v : Value), zB d v = true → RelD I w d v
  | .int k n, .int k' n', h => by simp only [zB, Bool.and_eq_true, decide_eq_true_eq] at h; simp only [RelD]; rw [kB_eq h.1, h.2]
  | .bool b, .bool b', h => by simp only [zB, beq_iff_eq] at h; simp [RelD, h]
  | .str s, .string s', h => by
    simp only [zB, Bool.and_eq_true] at h
    simp only [RelD]
    rw [ba_zero (Nat.eq_of_beq_eq_true h.1), ba_zero (Nat.eq_of_beq_eq_true h.2)]
  | .nilp, .pointer none, _ => by simp [RelD]
  | .nils, .slice none 0 0, _ => by simp [RelD]
  | .nilm, .map none, _ => by simp [RelD]
  | .nilf, .nilFunc, _ => by simp [RelD]
  | .nili, .nilIface, _ => by simp [RelD]
  | .agg ds, .agg vs, h => by
    simp only [zB] at h
    obtain ⟨h1, h2⟩ := zBs_rel (I := I) (w := w) ds vs.toList h
    simp only [RelD]
    exact ⟨vs, rfl, by simpa using h2, h1⟩
  | .bad, _, h => by simp [zB] at h
  | .gptr _, _, h => by simp [zB] at h
  | .fn _, _, h => by simp [zB] at h
  | .ros _ _ _, _, h => by simp [zB] at h
  | .rptr _ _, _, h => by simp [zB] at h
  | .iface _ _, _, h => by simp [zB] at h
  | .tup _, _, h => by simp [zB] at h
theorem zBs_rel {I : Nat → Prop} {w : World} : ∀ (ds : List DV) (vs : List Value), zBs ds vs = true → RelDs I w ds vs ∧ ds.length = vs.length
  | [], [], _ => by simp [RelDs]
  | d :: r, v :: t, h => by
    simp only [zBs, Bool.and_eq_true] at h
    obtain ⟨h1, h2⟩ := zBs_rel (I := I) (w := w) r t h.2
    exact ⟨⟨zB_rel d v h.1, h1⟩, by simp [h2]⟩
  | [], _ :: _, h => by simp [zBs] at h
  | _ :: _, [], h => by simp [zBs] at h
end

def fldB (P : Program) : List Field → List (Nat × Nat × Nat) → Bool
  | [], [] => true
  | f :: fs, (o, t, c) :: r => Nat.beq f.offset o && Nat.beq f.type t && Nat.beq (P.cellsOf f.type) c && (P.info? f.type).isSome && fldB P fs r
  | _, _ => false
theorem fldB_ok {P : Program} : ∀ {l : List Field} {r : List (Nat × Nat × Nat)}, fldB P l r = true → r.length = l.length ∧ ∀ (i : Nat) (f : Field), l[i]? = some f → r[i]? = some (f.offset, f.type, P.cellsOf f.type) ∧ ∃ j, P.info? f.type = some j
  | [], [], _ => by simp
  | f :: fs, (o, t, c) :: r, h => by
    simp only [fldB, Bool.and_eq_true] at h
    obtain ⟨⟨⟨⟨h1, h2⟩, h3⟩, h4⟩, h5⟩ := h
    obtain ⟨k1, k2⟩ := fldB_ok h5
    refine ⟨by simp [k1], fun i g hg => ?_⟩
    cases i with
    | zero =>
      simp at hg; subst hg
      refine ⟨?_, Option.isSome_iff_exists.1 h4⟩
      simp only [List.getElem?_cons_zero]
      rw [Nat.eq_of_beq_eq_true h1, Nat.eq_of_beq_eq_true h2, ← Nat.eq_of_beq_eq_true h3, ← Nat.eq_of_beq_eq_true h2]
    | succ i => simpa using k2 i g (by simpa using hg)
  | [], _ :: _, h => by simp [fldB] at h
  | _ :: _, [], h => by simp [fldB] at h
def tkB (P : Program) (d : TypeDesc) (k : TK) : Bool := match d, k with
  | .struct fields, .st fs => fldB P fields.toList fs
  | .array n e, .arr n' e' => Nat.beq n n' && Nat.beq e e'
  | .slice e, .slc e' => Nat.beq e e'
  | .map k e, .mp k' e' => Nat.beq k k' && Nat.beq e e'
  | .pointer e, .pt e' => Nat.beq e e'
  | .interface _, .ifc => true
  | .int k, .int k' => kB k k'
  | .string, .str => true
  | .bool, .bool => true
  | _, _ => false
theorem tkB_ok {P : Program} {d : TypeDesc} {k : TK} (h : tkB P d k = true) : TKOK P d k := by
  unfold tkB at h
  split at h
  · rename_i fields fs
    obtain ⟨h1, h2⟩ := fldB_ok h
    exact ⟨by simpa using h1, fun i f hf => h2 i f (by simpa using hf)⟩
  · simp only [Bool.and_eq_true] at h; exact ⟨Nat.eq_of_beq_eq_true h.1, Nat.eq_of_beq_eq_true h.2⟩
  · exact Nat.eq_of_beq_eq_true h
  · simp only [Bool.and_eq_true] at h; exact ⟨Nat.eq_of_beq_eq_true h.1, Nat.eq_of_beq_eq_true h.2⟩
  · exact Nat.eq_of_beq_eq_true h
  · trivial
  · exact kB_eq h
  · trivial
  · trivial
  · cases h
def tyB (P : Program) (t : Nat) (ti : TyI) : Bool := match P.info? t with
  | some info => match P.underlying t with
    | some desc => match info.zero with
      | some z => Nat.beq info.size ti.size && Nat.beq info.bytes ti.bytes && zB ti.zero z && tkB P desc ti.k && Nat.beq z.cells.size ti.size
      | none => false
    | none => false
  | none => false
theorem tyB_ok {P : Program} {t : Nat} {ti : TyI} (h : tyB P t ti = true) : TyOK P t ti ∧ ∀ z, (P.info? t).bind (·.zero) = some z → z.cells.size = ti.size := by
  unfold tyB at h
  split at h <;> try cases h
  rename_i info hi
  split at h <;> try cases h
  rename_i desc hd
  split at h <;> try cases h
  rename_i z hz
  simp only [Bool.and_eq_true] at h
  obtain ⟨⟨⟨⟨h1, h2⟩, h3⟩, h4⟩, h5⟩ := h
  refine ⟨⟨info, desc, z, hi, hd, Nat.eq_of_beq_eq_true h1, Nat.eq_of_beq_eq_true h2, hz, fun I w => zB_rel _ _ h3, tkB_ok h4⟩, fun z' hz' => ?_⟩
  rw [hi] at hz'
  simp only [Option.bind_some] at hz'
  rw [hz] at hz'; cases hz'
  exact Nat.eq_of_beq_eq_true h5
theorem cxOK {P : Program} {Γ : Nat → Option (List DV)} {d : Nat} {w0 : World} {t : TT} {S : Nat → Option (List CK)} (h : t.all (tyB P) = true) (hs : ∀ i ks, S i = some ks → StructOK P i ks) : CxOK ⟨⟨P, Γ, d, w0⟩, t.get, S⟩ where
  types _ _ hi := (tyB_ok (TT.all_get h hi)).1
  structs := hs
  zsize _ _ z hi hz := (tyB_ok (TT.all_get h hi)).2 z hz
end Go.Abs

namespace Go.Abs

/-! The rules as they are used: each check by 'rfl'. -/
def pickH (H : Heap) : List Nat → Heap → Heap
  | j :: σ, b :: r => (match b with | some _ => hget H j | none => none) :: pickH H σ r
  | _, _ => []
theorem heapIn_of {f : Nat → Nat} {H : Heap} : ∀ {σ : List Nat} {h : Heap}, pickH H σ h = splice.mapB f h → HeapIn f H σ h
  | [], _, _ => by simp [HeapIn]
  | _ :: _, [], _ => by simp [HeapIn]
  | j :: σ, b :: r, h => by
    simp only [pickH, splice.mapB, List.cons.injEq] at h
    simp only [HeapIn]
    refine ⟨?_, heapIn_of h.2⟩
    cases b with
    | none => trivial
    | some b => simpa [renO] using h.1
/-- The end of a function: its result is data, or names the blocks that are kept. -/
theorem leaf {cx : Cx} {b : Nat} {a : AV} {h : Heap} {K : AV → Heap → Prop} (σ : List Nat) (a' : AV) (h' : Heap) (ha : renT (ren1 σ h'.length h.length) a' = canA a) (hl : σ.length = h'.length) (hn : namesOK h.length σ = true) (hb : same b 0 σ = true)
    (hin : pickH h σ h' = splice.mapB (ren1 σ h'.length h.length) h') (hk : K a' h') : ShiftV cx b [a] h (ret1 K) :=
  shift_trans (K := fun l h1 => l = [canA a] ∧ h1 = h) (shift_can ⟨rfl, rfl⟩) fun l h1 ⟨e1, e2⟩ => by
    subst e1; subst e2
    exact shift_ren σ [a'] h' hl hn hb (by simp [renTs, ha]) (heapIn_of hin) hk
/-- A view, then on. -/
theorem shift_can' {cx : Cx} {b : Nat} {l : List AV} {h : Heap} {K : List AV → Heap → Prop} (hk : ShiftV cx b (canAs l) h K) : ShiftV cx b l h K :=
  shift_trans (K := fun l' h' => l' = canAs l ∧ h' = h) (shift_can ⟨rfl, rfl⟩) fun _ _ ⟨e1, e2⟩ => by subst e1; subst e2; exact hk
theorem shift_frz' {cx : Cx} {b : Nat} {l : List AV} {h : Heap} {K : List AV → Heap → Prop} (k : Nat) (ds : List DV) {el : Nat} {g : Bool} {cs : List AV} (hb : hget h k = some (.cells cs el g)) (hc : cs = ds.map .dat) (hk : ShiftV cx b (frzs k ds l) (frzH k ds 0 h) K) : ShiftV cx b l h K :=
  shift_trans (K := fun l' h' => l' = frzs k ds l ∧ h' = frzH k ds 0 h) (shift_frz k ds (by rw [hb, hc]) ⟨rfl, rfl⟩) fun _ _ ⟨e1, e2⟩ => by subst e1; subst e2; exact hk
theorem shift_unBD' {cx : Cx} {b : Nat} {l : List AV} {h : Heap} {K : List AV → Heap → Prop} (k : Nat) (es : List (DV × DV)) {bs : List Nat} {clk : Nat} {es' : List (DV × AV)} (hb : hget h k = some (.mapB bs clk es')) (he : es' = liftE es) (hk : ShiftV cx b l (hset h k (some (.mapD es))) K) : ShiftV cx b l h K :=
  shift_trans (K := fun l' h' => l' = l ∧ h' = hset h k (some (.mapD es))) (shift_unBD k (by rw [hb, he]) ⟨rfl, rfl⟩) fun _ _ ⟨e1, e2⟩ => by subst e1; subst e2; exact hk
theorem shift_unB' {cx : Cx} {b : Nat} {l : List AV} {h : Heap} {K : List AV → Heap → Prop} (k : Nat) {bs : List Nat} {clk : Nat} {es : List (DV × AV)} (hb : hget h k = some (.mapB bs clk es)) (hk : ShiftV cx b l (hset h k (some (.mapA es))) K) : ShiftV cx b l h K :=
  shift_trans (K := fun l' h' => l' = l ∧ h' = hset h k (some (.mapA es))) (shift_unB k hb ⟨rfl, rfl⟩) fun _ _ ⟨e1, e2⟩ => by subst e1; subst e2; exact hk
/-- A loop, from a state with named slots. -/
theorem loop_at {cx : Cx} {n b : Nat} {c : Code} {Kx : Nat → Env → Heap → Prop} {Kr : Env → Heap → Prop} {e : Env} {h : Heap} (is : List Nat) (σ : List Nat) (l : List AV) (h' : Heap) (ha : renTs (ren1 σ h'.length h.length) l = evE e is) (hl : σ.length = h'.length) (hn : namesOK h.length σ = true) (hb : same b 0 σ = true)
    (hin : pickH h σ h' = splice.mapB (ren1 σ h'.length h.length) h') (hk : loopA cx n b c Kx Kr (mkE is l) h') : loopA cx n b c Kx Kr e h :=
  loopA_shift is (shift_ren σ l h' hl hn hb ha (heapIn_of hin) hk)
/-- A call by a contract over a smaller heap. -/
theorem call_at {cx : Cx} {f : Nat} {args args' : List AV} {h H : Heap} {K : AV → Heap → Prop} (σ : List Nat) (c : CallA cx f args h fun a h' => K (renT (ren1 σ h.length H.length) a) (splice (ren1 σ h.length H.length) σ h' H))
    (hargs : renTs (ren1 σ h.length H.length) args = args') (hl : σ.length = h.length) (hσ : namesOK H.length σ = true) (hin : pickH H σ h = splice.mapB (ren1 σ h.length H.length) h) : CallA cx f args' H K :=
  CallA.sub σ hl hσ hargs (heapIn_of hin) c
theorem call_can {cx : Cx} {f : Nat} {args : List AV} {h : Heap} {K : AV → Heap → Prop} (c : CallA cx f (canAs args) h K) : CallA cx f args h K := CallA.shift (shift_can c)

end Go.Abs

namespace Go.Abs

/-! Structs of scalars, as keys and compared: what StructOK asks, off the type's layout. -/
def fldsB (P : Program) (lay : Nat → Option (List CK)) : List Field → Nat → Option (List CK)
  | [], _ => some []
  | f :: fs, o => match (f.name != "_") && Nat.beq f.offset o with
    | true => match lay f.type with
      | some ks => match Nat.beq (P.cellsOf f.type) ks.length && (P.info? f.type).isSome with
        | true => match fldsB P lay fs (o + ks.length) with
          | some rs => some (ks ++ rs)
          | none => none
        | false => none
      | none => none
    | false => none
def layB (P : Program) : Nat → Nat → Option (List CK)
  | 0, _ => none
  | d + 1, t => match P.underlying t with
    | some (.int k) => some [.int k]
    | some .string => some [.str]
    | some .bool => some [.bool]
    | some (.struct fs) => match P.stoodInHeld t with
      | true => none
      | false => fldsB P (layB P d) fs.toList 0
    | _ => none
def isStruct (P : Program) (t : Nat) : Bool := match P.underlying t with
  | some (.struct _) => true
  | _ => false
def valOf (P : Program) (t : Nat) (vs : List Value) : Value := match isStruct P t with
  | true => .agg vs.toArray
  | false => vs.headD undef
theorem kindsV_length : ∀ {ks : List CK} {vs : List Value}, kindsV ks vs → vs.length = ks.length
  | [], [], _ => rfl
  | _ :: ks, _ :: vs, h => by simp [kindsV_length h.2]
  | [], _ :: _, h => h.elim
  | _ :: _, [], h => h.elim
theorem kindsV_split : ∀ {ks rs : List CK} {vs : List Value}, kindsV (ks ++ rs) vs → ∃ a b, vs = a ++ b ∧ kindsV ks a ∧ kindsV rs b ∧ a.length = ks.length
  | [], rs, vs, h => ⟨[], vs, rfl, trivial, h, rfl⟩
  | k :: ks, rs, v :: vs, h => by
    obtain ⟨a, b, rfl, h1, h2, h3⟩ := kindsV_split h.2
    exact ⟨v :: a, b, rfl, ⟨h.1, h1⟩, h2, by simp [h3]⟩
  | k :: ks, rs, [], h => h.elim
theorem eqV_append : ∀ {a b c d : List Value}, a.length = c.length → eqV (a ++ b) (c ++ d) = (eqV a c && eqV b d)
  | [], b, [], d, _ => by simp [eqV]
  | x :: a, b, y :: c, d, h => by simp only [List.cons_append, eqV]; rw [eqV_append (by simpa using h), Bool.and_assoc]
  | [], _, _ :: _, _, h => by simp at h
  | _ :: _, _, [], _, h => by simp at h
/-- What layB has found. -/
theorem lay_cases {P : Program} {d t : Nat} {ks : List CK} (h : layB P (d + 1) t = some ks) :
    (∃ k, ks = [k] ∧ isStruct P t = false ∧ ((∃ j, k = .int j ∧ P.underlying t = some (.int j)) ∨ (k = .str ∧ P.underlying t = some .string) ∨ (k = .bool ∧ P.underlying t = some .bool))) ∨
    ∃ fs, P.underlying t = some (.struct fs) ∧ isStruct P t = true ∧ P.stoodInHeld t = false ∧ fldsB P (layB P d) fs.toList 0 = some ks := by
  unfold layB at h
  split at h
  · rename_i k hu; cases h; exact .inl ⟨_, rfl, by simp [isStruct, hu], .inl ⟨k, rfl, hu⟩⟩
  · rename_i hu; cases h; exact .inl ⟨_, rfl, by simp [isStruct, hu], .inr (.inl ⟨rfl, hu⟩)⟩
  · rename_i hu; cases h; exact .inl ⟨_, rfl, by simp [isStruct, hu], .inr (.inr ⟨rfl, hu⟩)⟩
  · rename_i fs hu
    split at h
    · cases h
    · rename_i hst; exact .inr ⟨fs, hu, by simp [isStruct, hu], hst, h⟩
  · cases h
theorem run_isAgg_struct {P : Program} {t : Nat} {d : Nat} {ks : List CK} (h : layB P (d + 1) t = some ks) (w : World) : (isAgg t).run P w = .ok (isStruct P t) w := by
  rcases lay_cases h with ⟨k, _, h2, h3⟩ | ⟨fs, h1, h2, _⟩
  · rw [h2]
    unfold isAgg
    rcases h3 with ⟨j, _, hu⟩ | ⟨_, hu⟩ | ⟨_, hu⟩ <;> simp [run_underlying hu]
  · rw [h2]; unfold isAgg; simp [run_underlying h1]
/-- A part. -/
theorem run_partK {P : Program} {d t : Nat} {ks : List CK} (h : layB P (d + 1) t = some ks) (hc : P.cellsOf t = ks.length) (hi : ∃ i, P.info? t = some i) {a b c : List Value} (hk : kindsV ks b) (w : World) :
    (part t (a ++ b ++ c).toArray a.length).run P w = .ok (valOf P t b) w := by
  obtain ⟨i, hi⟩ := hi
  have hsz : (Go.sizeOf t).run P w = .ok ks.length w := by
    have : P.cellsOf t = i.size := by simp [Program.cellsOf, hi]
    simp [Go.sizeOf, typeInfo, hi, ← hc, this]
  have hl := kindsV_length hk
  unfold part
  simp only [Sem.run_bind, run_isAgg_struct h, Result.andThen_ok]
  cases hs : isStruct P t with
  | true =>
    simp only [if_true, Sem.run_bind, hsz, Result.andThen_ok, Sem.run_pure, valOf, hs]
    congr 1
    congr 1
    apply Array.ext'
    simp [← hl]
  | false =>
    rcases lay_cases h with ⟨k, rfl, _, _⟩ | ⟨fs, h1, h2, _⟩
    · match b, hl with
      | [v], _ => simp [valOf, hs]
    · rw [hs] at h2; cases h2

theorem flds_cases {P : Program} {lay : Nat → Option (List CK)} {f : Field} {fs : List Field} {o : Nat} {ks : List CK} (h : fldsB P lay (f :: fs) o = some ks) :
    ∃ k1 k2, f.name ≠ "_" ∧ f.offset = o ∧ lay f.type = some k1 ∧ P.cellsOf f.type = k1.length ∧ (∃ i, P.info? f.type = some i) ∧ fldsB P lay fs (o + k1.length) = some k2 ∧ ks = k1 ++ k2 := by
  simp only [fldsB] at h
  split at h <;> try cases h
  rename_i h1
  simp only [Bool.and_eq_true, bne_iff_ne, ne_eq] at h1
  split at h <;> try cases h
  rename_i k1 h2
  split at h <;> try cases h
  rename_i h3
  simp only [Bool.and_eq_true] at h3
  split at h <;> try cases h
  rename_i k2 h4
  exact ⟨k1, k2, h1.1, Nat.eq_of_beq_eq_true h1.2, h2, Nat.eq_of_beq_eq_true h3.1, Option.isSome_iff_exists.1 h3.2, h4, rfl⟩

theorem check_lay {P : Program} : ∀ (d t : Nat) (ks : List CK), layB P d t = some ks → ∀ (D : Nat), d ≤ D → ∀ (b : Bool) (vs : List Value) (w : World), kindsV ks vs → (Instr.checkKey b D t (valOf P t vs)).run P w = .ok () w
  | 0, t, ks, h => by simp [layB] at h
  | d + 1, t, ks, h => by
    intro D hD b vs w hk
    obtain ⟨D, rfl⟩ : ∃ D', D = D' + 1 := ⟨D - 1, by omega⟩
    rcases lay_cases h with ⟨k, rfl, hs, h3⟩ | ⟨fs, hu, hs, _, hf⟩
    · simp only [valOf, hs]
      match vs, hk with
      | [v], ⟨hv, _⟩ =>
        rcases h3 with ⟨j, rfl, hu⟩ | ⟨rfl, hu⟩ | ⟨rfl, hu⟩ <;> (obtain ⟨x, rfl⟩ := hv; simp [Instr.checkKey, run_underlying hu])
    · simp only [valOf, hs]
      have loop : ∀ (l : List Field) (o : Nat) (ks : List CK) (a vs : List Value), fldsB P (layB P d) l o = some ks → a.length = o → kindsV ks vs →
          (forIn l PUnit.unit fun f _ => if f.name ≠ "_" then (do
              let x ← part f.type (a ++ vs).toArray f.offset
              Instr.checkKey b D f.type x
              pure (ForInStep.yield PUnit.unit)) else pure (ForInStep.yield PUnit.unit) : Sem PUnit).run P w = .ok PUnit.unit w := by
        intro l
        induction l with
        | nil => intro o ks a vs _ _ _; simp
        | cons f fs ih =>
          intro o ks a vs hf ha hk
          obtain ⟨k1, k2, e1, rfl, e3, e4, e5, e6, rfl⟩ := flds_cases hf
          obtain ⟨v1, v2, rfl, hk1, hk2, hl⟩ := kindsV_split hk
          cases d with
          | zero => simp [layB] at e3
          | succ d =>
            have hp := run_partK e3 e4 e5 (a := a) (b := v1) (c := v2) hk1 w
            rw [ha, List.append_assoc] at hp
            have hc := check_lay (d + 1) f.type k1 e3 D (by omega) b v1 w hk1
            have := ih (f.offset + k1.length) k2 (a ++ v1) v2 e6 (by simp [ha, hl]) hk2
            rw [List.append_assoc] at this
            rw [List.forIn_cons]
            simp only [Sem.run_bind, e1, ne_eq, not_false_eq_true, if_true, hp, Result.andThen_ok, hc, Sem.run_pure]
            exact this
      simp only [Instr.checkKey, Sem.run_bind, run_underlying hu, Result.andThen_ok]
      rw [← Array.forIn_toList]
      have := loop fs.toList 0 ks [] vs hf rfl hk
      rw [List.nil_append] at this
      rw [this]; rfl
theorem equal_lay {P : Program} : ∀ (d t : Nat) (ks : List CK), layB P d t = some ks → ∀ (D : Nat), d ≤ D → ∀ (vs us : List Value) (w : World), kindsV ks vs → kindsV ks us → (Op.equalIn D t (valOf P t vs) (valOf P t us)).run P w = .ok (eqV vs us) w
  | 0, t, ks, h => by simp [layB] at h
  | d + 1, t, ks, h => by
    intro D hD vs us w hk hk'
    obtain ⟨D, rfl⟩ : ∃ D', D = D' + 1 := ⟨D - 1, by omega⟩
    rcases lay_cases h with ⟨k, rfl, hs, h3⟩ | ⟨fs, hu, hs, hst, hf⟩
    · simp only [valOf, hs]
      match vs, us, hk, hk' with
      | [v], [u], ⟨hv, _⟩, ⟨hu', _⟩ =>
        rcases h3 with ⟨j, rfl, hu⟩ | ⟨rfl, hu⟩ | ⟨rfl, hu⟩ <;> (obtain ⟨x, rfl⟩ := hv; obtain ⟨y, rfl⟩ := hu'; simp [Op.equalIn, run_underlying hu, eqV, eq1])
    · simp only [valOf, hs]
      have loop : ∀ (l : List Field) (o : Nat) (ks : List CK) (a c vs us : List Value), fldsB P (layB P d) l o = some ks → a.length = o → c.length = o → kindsV ks vs → kindsV ks us →
          (forIn l ((none : Option Bool), PUnit.unit) fun f _ => if f.name ≠ "_" then (do
              let x ← part f.type (a ++ vs).toArray f.offset
              let y ← part f.type (c ++ us).toArray f.offset
              let r ← Op.equalIn D f.type x y
              if (!r) = true then pure (ForInStep.done (some false, PUnit.unit)) else pure (ForInStep.yield (none, PUnit.unit)))
              else pure (ForInStep.yield (none, PUnit.unit)) : Sem (Option Bool × PUnit)).run P w = .ok (if eqV vs us then none else some false, PUnit.unit) w := by
        intro l
        induction l with
        | nil =>
          intro o ks a c vs us hf _ _ hk hk'
          simp only [fldsB, Option.some.injEq] at hf
          subst hf
          have h1 := kindsV_length hk
          have h2 := kindsV_length hk'
          obtain rfl : vs = [] := by simpa using h1
          obtain rfl : us = [] := by simpa using h2
          simp [eqV]
        | cons f fs ih =>
          intro o ks a c vs us hf ha hc hk hk'
          obtain ⟨k1, k2, e1, rfl, e3, e4, e5, e6, rfl⟩ := flds_cases hf
          obtain ⟨v1, v2, rfl, hk1, hk2, hl⟩ := kindsV_split hk
          obtain ⟨u1, u2, rfl, hj1, hj2, hl'⟩ := kindsV_split hk'
          cases d with
          | zero => simp [layB] at e3
          | succ d =>
            have hp := run_partK e3 e4 e5 (a := a) (b := v1) (c := v2) hk1 w
            rw [ha, List.append_assoc] at hp
            have hq := run_partK e3 e4 e5 (a := c) (b := u1) (c := u2) hj1 w
            rw [hc, List.append_assoc] at hq
            have he := equal_lay (d + 1) f.type k1 e3 D (by omega) v1 u1 w hk1 hj1
            have := ih (f.offset + k1.length) k2 (a ++ v1) (c ++ u1) v2 u2 e6 (by simp [ha, hl]) (by simp [hc, hl']) hk2 hj2
            rw [List.append_assoc, List.append_assoc] at this
            rw [List.forIn_cons]
            simp only [Sem.run_bind, e1, ne_eq, not_false_eq_true, if_true, hp, hq, Result.andThen_ok, he]
            rw [eqV_append (by rw [hl, hl'])]
            cases hE : eqV v1 u1 with
            | true => simp only [Bool.not_true, Bool.false_eq_true, if_false, Sem.run_pure, Result.andThen_ok, Bool.true_and]; exact this
            | false => simp
      simp only [Op.equalIn, Sem.run_bind, run_underlying hu, Result.andThen_ok, run_program, hst, Bool.false_eq_true, if_false]
      rw [← Array.forIn_toList]
      have := loop fs.toList 0 ks [] [] vs us hf rfl rfl hk hk'
      rw [List.nil_append, List.nil_append] at this
      rw [this]
      cases eqV vs us <;> simp
theorem guard_lay {P : Program} : ∀ (d t : Nat) (ks : List CK), layB P d t = some ks → ∀ (D : Nat), d ≤ D → ∀ (vs us : List Value) (w : World), kindsV ks vs → kindsV ks us → (Op.eqGuardIn D t (valOf P t vs) (valOf P t us)).run P w = .ok false w
  | 0, t, ks, h => by simp [layB] at h
  | d + 1, t, ks, h => by
    intro D hD vs us w hk hk'
    obtain ⟨D, rfl⟩ : ∃ D', D = D' + 1 := ⟨D - 1, by omega⟩
    rcases lay_cases h with ⟨k, rfl, hs, h3⟩ | ⟨fs, hu, hs, hst, hf⟩
    · simp only [valOf, hs]
      match vs, us, hk, hk' with
      | [v], [u], ⟨hv, _⟩, ⟨hu', _⟩ =>
        rcases h3 with ⟨j, rfl, hu⟩ | ⟨rfl, hu⟩ | ⟨rfl, hu⟩ <;> (obtain ⟨x, rfl⟩ := hv; obtain ⟨y, rfl⟩ := hu'; simp [Op.eqGuardIn, run_underlying hu])
    · simp only [valOf, hs]
      have loop : ∀ (l : List Field) (o : Nat) (ks : List CK) (a c vs us : List Value), fldsB P (layB P d) l o = some ks → a.length = o → c.length = o → kindsV ks vs → kindsV ks us →
          (forIn l ((none : Option Bool), PUnit.unit) fun f _ => if f.name ≠ "_" then (do
              let x ← part f.type (a ++ vs).toArray f.offset
              let y ← part f.type (c ++ us).toArray f.offset
              let r ← Op.eqGuardIn D f.type x y
              if r = true then pure (ForInStep.done (some true, PUnit.unit)) else pure (ForInStep.yield (none, PUnit.unit)))
              else pure (ForInStep.yield (none, PUnit.unit)) : Sem (Option Bool × PUnit)).run P w = .ok (none, PUnit.unit) w := by
        intro l
        induction l with
        | nil => intro o ks a c vs us _ _ _ _ _; simp
        | cons f fs ih =>
          intro o ks a c vs us hf ha hc hk hk'
          obtain ⟨k1, k2, e1, rfl, e3, e4, e5, e6, rfl⟩ := flds_cases hf
          obtain ⟨v1, v2, rfl, hk1, hk2, hl⟩ := kindsV_split hk
          obtain ⟨u1, u2, rfl, hj1, hj2, hl'⟩ := kindsV_split hk'
          cases d with
          | zero => simp [layB] at e3
          | succ d =>
            have hp := run_partK e3 e4 e5 (a := a) (b := v1) (c := v2) hk1 w
            rw [ha, List.append_assoc] at hp
            have hq := run_partK e3 e4 e5 (a := c) (b := u1) (c := u2) hj1 w
            rw [hc, List.append_assoc] at hq
            have he := guard_lay (d + 1) f.type k1 e3 D (by omega) v1 u1 w hk1 hj1
            have := ih (f.offset + k1.length) k2 (a ++ v1) (c ++ u1) v2 u2 e6 (by simp [ha, hl]) (by simp [hc, hl']) hk2 hj2
            rw [List.append_assoc, List.append_assoc] at this
            rw [List.forIn_cons]
            simp only [Sem.run_bind, e1, ne_eq, not_false_eq_true, if_true, hp, hq, Result.andThen_ok, he, Bool.false_eq_true, if_false, Sem.run_pure]
            exact this
      simp only [Op.eqGuardIn, Sem.run_bind, run_underlying hu, Result.andThen_ok]
      rw [← Array.forIn_toList]
      have := loop fs.toList 0 ks [] [] vs us hf rfl rfl hk hk'
      rw [List.nil_append, List.nil_append] at this
      rw [this]
      rfl
/-- A struct of scalars is a key, and is compared. -/
theorem structOK {P : Program} {t : Nat} {ks : List CK} (h : layB P 9 t = some ks) (hs : isStruct P t = true) : StructOK P t ks where
  desc := by
    unfold isStruct at hs
    split at hs
    · rename_i fs hu; exact ⟨fs, hu⟩
    · cases hs
  check b vs w hk := by
    have := check_lay 9 t ks h 10000 (by omega) b vs.toList w hk
    simpa only [valOf, hs, Array.toArray_toList] using this
  eq vs us w hk hk' := by
    have := equal_lay 9 t ks h Op.maxDepth (by unfold Op.maxDepth; omega) vs.toList us.toList w hk hk'
    simp only [valOf, hs, Array.toArray_toList] at this
    exact this
  guard op x y vs us w hk hk' := by
    have := guard_lay 9 t ks h Op.maxDepth (by unfold Op.maxDepth; omega) vs.toList us.toList w hk hk'
    simp only [valOf, hs, Array.toArray_toList] at this
    have main : ((do
        if !(← program).eqGuardType (← program).depth t then return
        if ← Op.eqGuardIn Op.maxDepth t (.agg vs) (.agg us) then unsupported (.noEntry "binop/eql: two nil values of an interface type with methods, in a part of a struct or an array")) : Sem Unit).run P w = .ok () w := by
      simp only [Sem.run_bind, run_program, Result.andThen_ok]
      split
      · rfl
      · simp only [Sem.run_bind, this, Result.andThen_ok]; rfl
    unfold eqGuard
    split
    · exact main
    · exact main
    · rfl

/-- A loop that counts up. -/
theorem loop_up {cx : Cx} {n b : Nat} {c : Code} {Kx : Nat → Env → Heap → Prop} {Kr : Env → Heap → Prop} (m : Nat) (P : Nat → Prop) (E : Nat → Env) (H : Nat → Heap) (h0 : P 0)
    (step : ∀ i, i < m → P i → (P (i + 1) → loopA cx n b c Kx Kr (E (i + 1)) (H (i + 1))) → loopA cx n b c Kx Kr (E i) (H i)) (last : P m → loopA cx n b c Kx Kr (E m) (H m)) : loopA cx n b c Kx Kr (E 0) (H 0) := by
  have key : ∀ k i, i + k = m → P i → loopA cx n b c Kx Kr (E i) (H i) := by
    intro k
    induction k with
    | zero => intro i hi hp; obtain rfl : i = m := by omega
              exact last hp
    | succ k ih => intro i hi hp; exact step i (by omega) hp fun hp' => ih (i + 1) (by omega) hp'
  exact key m 0 (by omega) h0

/-! The table of such structs. -/
def sGet (l : List (Nat × List CK)) (t : Nat) : Option (List CK) := match l with
  | [] => none
  | (k, ks) :: r => match Nat.beq t k with
    | true => some ks
    | false => sGet r t
def ckB : CK → CK → Bool
  | .int k, .int k' => kB k k'
  | .str, .str => true
  | .bool, .bool => true
  | _, _ => false
def ckBs : List CK → List CK → Bool
  | [], [] => true
  | a :: r, b :: t => ckB a b && ckBs r t
  | _, _ => false
theorem ckBs_eq : ∀ {a b : List CK}, ckBs a b = true → a = b
  | [], [], _ => rfl
  | x :: r, y :: t, h => by
    simp only [ckBs, Bool.and_eq_true] at h
    rw [ckBs_eq h.2]
    have h1 := h.1
    cases x <;> cases y <;> simp only [ckB, reduceCtorEq] at h1 ⊢
    rw [kB_eq h1]
  | [], _ :: _, h => by simp [ckBs] at h
  | _ :: _, [], h => by simp [ckBs] at h
def sB (P : Program) (p : Nat × List CK) : Bool := match layB P 9 p.1 with
  | some ks => ckBs ks p.2 && isStruct P p.1
  | none => false
theorem structs_ok {P : Program} : ∀ {l : List (Nat × List CK)}, l.all (sB P) = true → ∀ t ks, sGet l t = some ks → StructOK P t ks
  | [], _, t, ks, h => by simp [sGet] at h
  | (k, ks') :: r, ha, t, ks, h => by
    simp only [List.all_cons, Bool.and_eq_true] at ha
    simp only [sGet] at h
    split at h
    · rename_i hb
      cases h
      rw [Nat.eq_of_beq_eq_true hb]
      have h1 := ha.1
      unfold sB at h1
      split at h1
      · rename_i ks2 hl
        simp only [Bool.and_eq_true] at h1
        rw [ckBs_eq h1.1] at hl
        exact structOK hl h1.2
      · cases h1
    · exact structs_ok ha.2 t ks h
/-- The regions that draw their order: their rows, by the region's number. -/
def plOf (l : List (Nat × List (Nat × Nat))) (id : Nat) : Option (List (Nat × Nat)) := match l with
  | [] => none
  | (k, p) :: r => match Nat.beq k id with
    | true => some p
    | false => plOf r id
end Go.Abs

namespace Go.Abs.X
open Go.Abs
def tt : TT :=
 (.node (.node (.node (.node (.node (.node (.node (.node .nil 2 ⟨1, 8, .int .i64, .int .i64 0⟩ .nil)
       3 ⟨1, 8, .int .i64, .int .i64 0⟩
       .nil)
      4 ⟨1, 1, .bool, .bool false⟩
      (.node .nil 5 ⟨1, 1, .int .u8, .int .u8 0⟩ .nil))
     6 ⟨1, 1, .int .u8, .int .u8 0⟩
     (.node (.node .nil 7 ⟨4, 24, .st [(0, 2, 1), (1, 3, 1), (2, 4, 1), (3, 6, 1)], .agg [.int .i64 0, .int .i64 0, .bool false, .int .u8 0]⟩ .nil)
      8 ⟨4, 24, .st [(0, 2, 1), (1, 3, 1), (2, 4, 1), (3, 6, 1)], .agg [.int .i64 0, .int .i64 0, .bool false, .int .u8 0]⟩
      (.node .nil 9 ⟨1, 16, .str, .str .empty⟩ .nil)))
    10 ⟨1, 16, .str, .str .empty⟩
    (.node (.node (.node .nil 11 ⟨1, 16, .str, .str .empty⟩ .nil)
      12 ⟨1, 8, .int .u64, .int .u64 0⟩
      (.node .nil 13 ⟨2, 24, .st [(0, 9, 1), (1, 12, 1)], .agg [.str .empty, .int .u64 0]⟩ .nil))
     14 ⟨2, 24, .st [(0, 9, 1), (1, 12, 1)], .agg [.str .empty, .int .u64 0]⟩
     (.node (.node .nil 15 ⟨1, 8, .pt 293, .nilp⟩ .nil)
      16 ⟨1, 8, .pt 296, .nilp⟩
      (.node .nil 17 ⟨1, 8, .pt 303, .nilp⟩ .nil))))
   18 ⟨1, 8, .st [(0, 17, 1)], .agg [.nilp]⟩
   (.node (.node (.node (.node .nil 19 ⟨1, 8, .st [(0, 17, 1)], .agg [.nilp]⟩ .nil)
      20 ⟨1, 16, .ifc, .nili⟩
      (.node .nil 21 ⟨1, 4, .int .i32, .int .i32 0⟩ .nil))
     22 ⟨1, 24, .slc 37, .nils⟩
     (.node (.node .nil 24 ⟨1, 8, .pt 31, .nilp⟩ .nil)
      26 ⟨1, 8, .pt 107, .nilp⟩
      (.node .nil 27 ⟨1, 8, .mp 42 60, .nilm⟩ .nil)))
    28 ⟨1, 8, .mp 51 56, .nilm⟩
    (.node (.node (.node .nil 29 ⟨1, 8, .mp 54 65, .nilm⟩ .nil)
      30 ⟨4, 32, .st [(0, 26, 1), (1, 27, 1), (2, 28, 1), (3, 29, 1)], .agg [.nilp, .nilm, .nilm, .nilm]⟩
      (.node .nil 31 ⟨4, 32, .st [(0, 26, 1), (1, 27, 1), (2, 28, 1), (3, 29, 1)], .agg [.nilp, .nilm, .nilm, .nilm]⟩ .nil))
     32 ⟨1, 8, .int .i64, .int .i64 0⟩
     (.node (.node .nil 35 ⟨1, 24, .slc 54, .nils⟩ .nil)
      36 ⟨10, 104, .st [(0, 3, 1), (1, 9, 1), (2, 9, 1), (3, 3, 1), (4, 3, 1), (5, 3, 1), (6, 3, 1), (7, 4, 1), (8, 4, 1), (9, 35, 1)], .agg [.int .i64 0, .str .empty, .str .empty, .int .i64 0, .int .i64 0, .int .i64 0, .int .i64 0, .bool false, .bool false, .nils]⟩
      (.node .nil 37 ⟨10, 104, .st [(0, 3, 1), (1, 9, 1), (2, 9, 1), (3, 3, 1), (4, 3, 1), (5, 3, 1), (6, 3, 1), (7, 4, 1), (8, 4, 1), (9, 35, 1)], .agg [.int .i64 0, .str .empty, .str .empty, .int .i64 0, .int .i64 0, .int .i64 0, .int .i64 0, .bool false, .bool false, .nils]⟩ .nil)))))
  39 ⟨1, 24, .slc 3, .nils⟩
  (.node (.node (.node (.node (.node .nil 41 ⟨2, 16, .st [(0, 3, 1), (1, 3, 1)], .agg [.int .i64 0, .int .i64 0]⟩ .nil)
      42 ⟨2, 16, .st [(0, 3, 1), (1, 3, 1)], .agg [.int .i64 0, .int .i64 0]⟩
      (.node .nil 44 ⟨3, 40, .st [(0, 3, 1), (1, 9, 1), (2, 9, 1)], .agg [.int .i64 0, .str .empty, .str .empty]⟩ .nil))
     45 ⟨3, 40, .st [(0, 3, 1), (1, 9, 1), (2, 9, 1)], .agg [.int .i64 0, .str .empty, .str .empty]⟩
     (.node (.node .nil 48 ⟨1, 24, .slc 51, .nils⟩ .nil)
      50 ⟨3, 24, .st [(0, 3, 1), (1, 42, 2)], .agg [.int .i64 0, .int .i64 0, .int .i64 0]⟩
      (.node .nil 51 ⟨3, 24, .st [(0, 3, 1), (1, 42, 2)], .agg [.int .i64 0, .int .i64 0, .int .i64 0]⟩ .nil)))
    54 ⟨1, 4, .int .u32, .int .u32 0⟩
    (.node (.node (.node .nil 55 ⟨2, 16, .st [(0, 3, 1), (1, 4, 1)], .agg [.int .i64 0, .bool false]⟩ .nil)
      56 ⟨2, 16, .st [(0, 3, 1), (1, 4, 1)], .agg [.int .i64 0, .bool false]⟩
      (.node .nil 59 ⟨3, 32, .st [(0, 4, 1), (1, 4, 1), (2, 35, 1)], .agg [.bool false, .bool false, .nils]⟩ .nil))
     60 ⟨3, 32, .st [(0, 4, 1), (1, 4, 1), (2, 35, 1)], .agg [.bool false, .bool false, .nils]⟩
     (.node (.node .nil 63 ⟨1, 8, .mp 54 3, .nilm⟩ .nil)
      64 ⟨3, 24, .st [(0, 42, 2), (2, 3, 1)], .agg [.int .i64 0, .int .i64 0, .int .i64 0]⟩
      (.node .nil 65 ⟨3, 24, .st [(0, 42, 2), (2, 3, 1)], .agg [.int .i64 0, .int .i64 0, .int .i64 0]⟩ .nil))))
   72 ⟨1, 24, .slc 120, .nils⟩
   (.node (.node (.node (.node .nil 73 ⟨2, 32, .st [(0, 72, 1), (1, 3, 1)], .agg [.nils, .int .i64 0]⟩ .nil)
      74 ⟨2, 32, .st [(0, 72, 1), (1, 3, 1)], .agg [.nils, .int .i64 0]⟩
      (.node .nil 75 ⟨1, 24, .slc 128, .nils⟩ .nil))
     76 ⟨1, 24, .slc 86, .nils⟩
     (.node (.node .nil 77 ⟨4, 80, .st [(0, 74, 2), (2, 75, 1), (3, 76, 1)], .agg [.nils, .int .i64 0, .nils, .nils]⟩ .nil)
      78 ⟨4, 80, .st [(0, 74, 2), (2, 75, 1), (3, 76, 1)], .agg [.nils, .int .i64 0, .nils, .nils]⟩
      (.node .nil 81 ⟨10, 104, .st [(0, 3, 1), (1, 9, 1), (2, 9, 1), (3, 3, 1), (4, 3, 1), (5, 3, 1), (6, 3, 1), (7, 4, 1), (8, 4, 1), (9, 35, 1)], .agg [.int .i64 0, .str .empty, .str .empty, .int .i64 0, .int .i64 0, .int .i64 0, .int .i64 0, .bool false, .bool false, .nils]⟩ .nil)))
    85 ⟨5, 40, .st [(0, 3, 1), (1, 3, 1), (2, 3, 1), (3, 3, 1), (4, 4, 1)], .agg [.int .i64 0, .int .i64 0, .int .i64 0, .int .i64 0, .bool false]⟩
    (.node (.node (.node .nil 86 ⟨5, 40, .st [(0, 3, 1), (1, 3, 1), (2, 3, 1), (3, 3, 1), (4, 4, 1)], .agg [.int .i64 0, .int .i64 0, .int .i64 0, .int .i64 0, .bool false]⟩ .nil)
      87 ⟨1, 2, .int .u16, .int .u16 0⟩
      (.node .nil 88 ⟨11, 88, .st [(0, 4, 1), (1, 5, 1), (2, 87, 1), (3, 54, 1), (4, 54, 1), (5, 35, 1), (6, 4, 1), (7, 87, 1), (8, 9, 1), (9, 9, 1), (10, 3, 1)], .agg [.bool false, .int .u8 0, .int .u16 0, .int .u32 0, .int .u32 0, .nils, .bool false, .int .u16 0, .str .empty, .str .empty, .int .i64 0]⟩ .nil))
     89 ⟨11, 88, .st [(0, 4, 1), (1, 5, 1), (2, 87, 1), (3, 54, 1), (4, 54, 1), (5, 35, 1), (6, 4, 1), (7, 87, 1), (8, 9, 1), (9, 9, 1), (10, 3, 1)], .agg [.bool false, .int .u8 0, .int .u16 0, .int .u32 0, .int .u32 0, .nils, .bool false, .int .u16 0, .str .empty, .str .empty, .int .i64 0]⟩
     (.node (.node .nil 93 ⟨9, 64, .st [(0, 4, 1), (1, 4, 1), (2, 3, 1), (3, 3, 1), (4, 4, 1), (5, 3, 1), (6, 3, 1), (7, 4, 1), (8, 3, 1)], .agg [.bool false, .bool false, .int .i64 0, .int .i64 0, .bool false, .int .i64 0, .int .i64 0, .bool false, .int .i64 0]⟩ .nil)
      94 ⟨9, 64, .st [(0, 4, 1), (1, 4, 1), (2, 3, 1), (3, 3, 1), (4, 4, 1), (5, 3, 1), (6, 3, 1), (7, 4, 1), (8, 3, 1)], .agg [.bool false, .bool false, .int .i64 0, .int .i64 0, .bool false, .int .i64 0, .int .i64 0, .bool false, .int .i64 0]⟩
      (.node .nil 97 ⟨2, 8, .st [(0, 54, 1), (1, 54, 1)], .agg [.int .u32 0, .int .u32 0]⟩ .nil))))))
 98 ⟨2, 8, .st [(0, 54, 1), (1, 54, 1)], .agg [.int .u32 0, .int .u32 0]⟩
 (.node (.node (.node (.node (.node (.node .nil 105 ⟨1, 8, .mp 3 45, .nilm⟩ .nil)
      106 ⟨2, 16, .st [(0, 105, 1), (1, 3, 1)], .agg [.nilm, .int .i64 0]⟩
      (.node .nil 107 ⟨2, 16, .st [(0, 105, 1), (1, 3, 1)], .agg [.nilm, .int .i64 0]⟩ .nil))
     120 ⟨3, 40, .st [(0, 3, 1), (1, 9, 1), (2, 9, 1)], .agg [.int .i64 0, .str .empty, .str .empty]⟩
     (.node (.node .nil 127 ⟨5, 48, .st [(0, 3, 1), (1, 3, 1), (2, 4, 1), (3, 4, 1), (4, 35, 1)], .agg [.int .i64 0, .int .i64 0, .bool false, .bool false, .nils]⟩ .nil)
      128 ⟨5, 48, .st [(0, 3, 1), (1, 3, 1), (2, 4, 1), (3, 4, 1), (4, 35, 1)], .agg [.int .i64 0, .int .i64 0, .bool false, .bool false, .nils]⟩
      (.node .nil 129 ⟨1, 8, .pt 185, .nilp⟩ .nil)))
    132 ⟨1, 8, .int .u64, .int .u64 0⟩
    (.node (.node (.node .nil 138 ⟨1, 8, .pt 141, .nilp⟩ .nil)
      139 ⟨1, 24, .slc 5, .nils⟩
      (.node .nil 140 ⟨2, 32, .st [(0, 138, 1), (1, 139, 1)], .agg [.nilp, .nils]⟩ .nil))
     141 ⟨2, 32, .st [(0, 138, 1), (1, 139, 1)], .agg [.nilp, .nils]⟩
     (.node (.node .nil 142 ⟨2, 32, .st [(0, 141, 2)], .agg [.nilp, .nils]⟩ .nil)
      143 ⟨2, 32, .st [(0, 141, 2)], .agg [.nilp, .nils]⟩
      (.node .nil 144 ⟨1, 8, .pt 143, .nilp⟩ .nil))))
   150 ⟨1, 24, .slc 152, .nils⟩
   (.node (.node (.node (.node .nil 151 ⟨1, 16, .ifc, .nili⟩ .nil)
      152 ⟨1, 16, .ifc, .nili⟩
      (.node .nil 159 ⟨1, 24, .slc 45, .nils⟩ .nil))
     163 ⟨1, 24, .slc 9, .nils⟩
     (.node (.node .nil 184 ⟨2, 24, .st [(0, 9, 1), (1, 32, 1)], .agg [.str .empty, .int .i64 0]⟩ .nil)
      185 ⟨2, 24, .st [(0, 9, 1), (1, 32, 1)], .agg [.str .empty, .int .i64 0]⟩
      (.node .nil 186 ⟨1, 8, .int .u64, .int .u64 0⟩ .nil)))
    188 ⟨1, 16, .ifc, .nili⟩
    (.node (.node (.node .nil 189 ⟨1, 16, .ifc, .nili⟩ .nil)
      192 ⟨1, 24, .slc 87, .nils⟩
      (.node .nil 195 ⟨1, 16, .ifc, .nili⟩ .nil))
     206 ⟨1, 8, .mp 9 3, .nilm⟩
     (.node (.node .nil 216 ⟨1, 24, .slc 21, .nils⟩ .nil)
      220 ⟨1, 24, .slc 186, .nils⟩
      (.node .nil 221 ⟨1, 8, .pt 5, .nilp⟩ .nil)))))
  228 ⟨1, 8, .int .i64, .int .i64 0⟩
  (.node (.node (.node (.node (.node .nil 241 ⟨1, 8, .pt 258, .nilp⟩ .nil)
      248 ⟨1, 24, .slc 289, .nils⟩
      (.node .nil 249 ⟨1, 8, .int .u64, .int .u64 0⟩ .nil))
     253 ⟨1, 8, .pt 3, .nilp⟩
     (.node (.node .nil 255 ⟨1, 24, .slc 260, .nils⟩ .nil)
      256 ⟨1, 24, .slc 263, .nils⟩
      (.node .nil 257 ⟨3, 56, .st [(0, 255, 1), (1, 256, 1), (2, 3, 1)], .agg [.nils, .nils, .int .i64 0]⟩ .nil)))
    258 ⟨3, 56, .st [(0, 255, 1), (1, 256, 1), (2, 3, 1)], .agg [.nils, .nils, .int .i64 0]⟩
    (.node (.node (.node .nil 259 ⟨3, 6, .st [(0, 87, 1), (1, 87, 1), (2, 87, 1)], .agg [.int .u16 0, .int .u16 0, .int .u16 0]⟩ .nil)
      260 ⟨3, 6, .st [(0, 87, 1), (1, 87, 1), (2, 87, 1)], .agg [.int .u16 0, .int .u16 0, .int .u16 0]⟩
      (.node .nil 262 ⟨3, 12, .st [(0, 54, 1), (1, 54, 1), (2, 54, 1)], .agg [.int .u32 0, .int .u32 0, .int .u32 0]⟩ .nil))
     263 ⟨3, 12, .st [(0, 54, 1), (1, 54, 1), (2, 54, 1)], .agg [.int .u32 0, .int .u32 0, .int .u32 0]⟩
     (.node (.node .nil 275 ⟨1, 8, .pt 289, .nilp⟩ .nil)
      278 ⟨1, 8, .pt 249, .nilp⟩
      (.node .nil 280 ⟨1, 8, .pt 260, .nilp⟩ .nil))))
   281 ⟨1, 8, .pt 263, .nilp⟩
   (.node (.node (.node (.node .nil 286 ⟨3, 12, .arr 3 21, .agg [.int .i32 0, .int .i32 0, .int .i32 0]⟩ .nil)
      287 ⟨3, 12, .arr 3 21, .agg [.int .i32 0, .int .i32 0, .int .i32 0]⟩
      (.node .nil 288 ⟨5, 20, .st [(0, 54, 1), (1, 54, 1), (2, 287, 3)], .agg [.int .u32 0, .int .u32 0, .int .i32 0, .int .i32 0, .int .i32 0]⟩ .nil))
     289 ⟨5, 20, .st [(0, 54, 1), (1, 54, 1), (2, 287, 3)], .agg [.int .u32 0, .int .u32 0, .int .i32 0, .int .i32 0, .int .i32 0]⟩
     (.node (.node .nil 292 ⟨4, 40, .st [(0, 17, 1), (1, 17, 1), (2, 17, 1), (3, 9, 1)], .agg [.nilp, .nilp, .nilp, .str .empty]⟩ .nil)
      293 ⟨4, 40, .st [(0, 17, 1), (1, 17, 1), (2, 17, 1), (3, 9, 1)], .agg [.nilp, .nilp, .nilp, .str .empty]⟩
      (.node .nil 294 ⟨0, 0, .arr 0 16, .agg []⟩ .nil)))
    295 ⟨0, 0, .st [(0, 294, 0)], .agg []⟩
    (.node (.node (.node .nil 296 ⟨0, 0, .st [(0, 294, 0)], .agg []⟩ .nil)
      297 ⟨1, 1, .int .u8, .int .u8 0⟩
      (.node .nil 298 ⟨1, 1, .int .u8, .int .u8 0⟩ .nil))
     300 ⟨1, 4, .int .i32, .int .i32 0⟩
     (.node (.node .nil 301 ⟨1, 4, .int .i32, .int .i32 0⟩ .nil)
      302 ⟨11, 48, .st [(0, 12, 1), (1, 12, 1), (2, 54, 1), (3, 297, 1), (4, 5, 1), (5, 5, 1), (6, 298, 1), (7, 299, 1), (8, 221, 1), (9, 300, 1), (10, 301, 1)], .agg [.int .u64 0, .int .u64 0, .int .u32 0, .int .u8 0, .int .u8 0, .int .u8 0, .int .u8 0, .nilf, .nilp, .int .i32 0, .int .i32 0]⟩
      (.node .nil 303 ⟨11, 48, .st [(0, 12, 1), (1, 12, 1), (2, 54, 1), (3, 297, 1), (4, 5, 1), (5, 5, 1), (6, 298, 1), (7, 299, 1), (8, 221, 1), (9, 300, 1), (10, 301, 1)], .agg [.int .u64 0, .int .u64 0, .int .u32 0, .int .u8 0, .int .u8 0, .int .u8 0, .int .u8 0, .nilf, .nilp, .int .i32 0, .int .i32 0]⟩ .nil)))))))
def ss : List (Nat × List CK) := [(7, [.int .i64, .int .i64, .bool, .int .u8]),
  (8, [.int .i64, .int .i64, .bool, .int .u8]),
  (41, [.int .i64, .int .i64]),
  (42, [.int .i64, .int .i64]),
  (44, [.int .i64, .str, .str]),
  (45, [.int .i64, .str, .str]),
  (50, [.int .i64, .int .i64, .int .i64]),
  (51, [.int .i64, .int .i64, .int .i64]),
  (55, [.int .i64, .bool]),
  (56, [.int .i64, .bool]),
  (64, [.int .i64, .int .i64, .int .i64]),
  (65, [.int .i64, .int .i64, .int .i64]),
  (85, [.int .i64, .int .i64, .int .i64, .int .i64, .bool]),
  (86, [.int .i64, .int .i64, .int .i64, .int .i64, .bool]),
  (93, [.bool, .bool, .int .i64, .int .i64, .bool, .int .i64, .int .i64, .bool, .int .i64]),
  (94, [.bool, .bool, .int .i64, .int .i64, .bool, .int .i64, .int .i64, .bool, .int .i64]),
  (97, [.int .u32, .int .u32]),
  (98, [.int .u32, .int .u32]),
  (120, [.int .i64, .str, .str]),
  (184, [.str, .int .i64]),
  (185, [.str, .int .i64]),
  (259, [.int .u16, .int .u16, .int .u16]),
  (260, [.int .u16, .int .u16, .int .u16]),
  (262, [.int .u32, .int .u32, .int .u32]),
  (263, [.int .u32, .int .u32, .int .u32])]
end Go.Abs.X
