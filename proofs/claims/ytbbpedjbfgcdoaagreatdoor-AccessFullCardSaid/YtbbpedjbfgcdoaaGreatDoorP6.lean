/- A part of the proof behind the last text of this folder: AbsSeq, AbsLoop, M1, C1, C2, C3, S1, AbsSort, XShelf, S2, S3, S4. -/
import Derived.Test.YtbbpedjbfgcdoaaGreatDoorP5
import Derived.Sort.Row
import Derived.Sort.Grow
import Derived.Deep.Draws
import Derived.Shelf.Strings.Builder1
import Derived.Shelf.Small.Bits
import Derived.Shelf.Strings.BuilderF
import Derived.Shelf.Strings.BuilderK
import Derived.Shelf.Strings.BuilderRune
import Derived.Shelf.Strconv.Itoa0
import Derived.Shelf.Strings.Prefix
import Derived.Shelf.Unicode.Latin
import Derived.Shelf.Unicode.Props
import Derived.Shelf.Unicode.Is16White
import Derived.Shelf.Unicode.IsSpaceAny
import Derived.Shelf.Unicode.CaseLookup
import Derived.Shelf.Unicode.CaseConvert
import Derived.Shelf.Unicode.CaseTo
import Derived.Shelf.Unicode.CaseLaid
import Derived.Shelf.Unicode.Is16Any
import Derived.Shelf.Unicode.Is32Any
import Derived.Shelf.Unicode.ExclAny
import Derived.Shelf.Unicode.PredsAny
import Derived.Ground.Names2Prog
import Derived.Shelf.Slices.SearchI
import Derived.Ground.SlgnProg
import Derived.Shelf.SlicesE.Clone
import Derived.Ground.SlgmProg
import Derived.Ground.SlsfProg
import Derived.Shelf.SlSortCmp.NoneTotal
import Derived.Shelf.SortM.Plain
import Derived.Shelf.SortM.SortNone
import Derived.Test.YtbbpedjbfgcdoaaGreatDoorProg
set_option linter.unusedSimpArgs false
set_option linter.unusedSectionVars false

namespace Go.Abs
open Go.RowKit

/-! A range over a function: its rounds, and the function that holds it. -/
def straight : Code → Bool
  | .skip => true
  | .region _ _ d => !d
  | .seq x y => straight x && straight y
  | .block _ c => straight c
  | _ => false

theorem wpC_round {cx : Cx} (ok : CxOK cx) {draw : Nat → Array Oper → (Env → Heap → Prop) → Env → Heap → Prop} {n b : Nat} (ro : Option Nat) {h0 : Heap} {s0 : Wd} (c : Code) (hs : straight c = true) :
    ∀ (K : Env → Heap → Prop) (Kx : Nat → Env → Heap → Prop) (Kr : Env → Heap → Prop) (e : Env) (h : Heap) (s : Wd) (a : Act), wpC cx draw n b c K Kx Kr e h → Ext h0 s0 h s → Sat cx.toGl h s → EnvR s n e a.tmps → a.defers = [] → c.wpIn (wideR ro) 0 cx.P (QS cx n h0 s0 K Kx Kr) a s.w := by
  induction c with
  | skip => intro K Kx Kr e h s a hk ext sat he hd; exact wpIn_skip ⟨e, h, s, rfl, hd, he, sat, ext, hk⟩
  | region id ops d =>
    intro K Kx Kr e h s a hk ext sat he hd
    obtain rfl : d = false := by simpa [straight] using hs
    rw [wpC_region] at hk
    simp only at hk
    split at hk <;> try exact hk.elim
    rename_i hds
    refine wpIn_region ?_
    refine opsA_sound ok (ro := ro) hds (List.range ops.size) ops.toList e h s a ?_ hk sat he hd ?_
    · apply List.ext_getElem?
      intro i
      simp only [List.getElem?_map, Array.getElem?_toList]
      rcases Nat.lt_or_ge i ops.size with hi | hi
      · simp [hi]
      · simp [hi]
    · intro e' h' s' a' k' sat' he' hd' ext'
      exact ⟨e', h', s', rfl, hd', he', sat', ext.trans ext', k'⟩
  | seq x y ihx ihy =>
    intro K Kx Kr e h s a hk ext sat he hd
    simp only [straight, Bool.and_eq_true] at hs
    rw [wpC_seq] at hk
    refine wpIn_seq (wpIn_mono (ihx hs.1 _ _ _ e h s a hk ext sat he hd) fun x a w q => ?_)
    obtain ⟨e', h', s', rfl, q2, q3, q4, q5, q6⟩ := q
    cases x with
    | normal => exact ihy hs.2 K Kx Kr e' h' s' a q6 q5 q4 q3 q2
    | exit i => exact ⟨e', h', s', rfl, q2, q3, q4, q5, q6⟩
    | ret => exact ⟨e', h', s', rfl, q2, q3, q4, q5, q6⟩
    | _ => exact q6.elim
  | block id c ih =>
    intro K Kx Kr e h s a hk ext sat he hd
    rw [wpC_block] at hk
    refine wpIn_block (wpIn_mono (ih hs _ _ _ e h s a hk ext sat he hd) fun x a w q => ?_)
    obtain ⟨e', h', s', rfl, q2, q3, q4, q5, q6⟩ := q
    cases x with
    | normal => exact ⟨e', h', s', rfl, q2, q3, q4, q5, q6⟩
    | exit i =>
      simp only at q6
      simp only [Exit.inBlock]
      split at q6
      · rename_i hb
        rw [if_pos (Nat.eq_of_beq_eq_true hb)]
        exact ⟨e', h', s', rfl, q2, q3, q4, q5, q6⟩
      · rename_i hb
        rw [if_neg (fun e => by subst e; simp at hb)]
        exact ⟨e', h', s', rfl, q2, q3, q4, q5, q6⟩
    | ret => exact ⟨e', h', s', rfl, q2, q3, q4, q5, q6⟩
    | _ => exact q6.elim
  | _ => simp [straight] at hs

theorem envR_init {s : Wd} {l : List AV} {tmps : Array Value} (h : Rels s l tmps.toList) (hl : tmps.size = l.length) : EnvR s l.length (initE l) tmps := by
  refine ⟨hl, fun i => ?_⟩
  unfold initE
  rw [nth_eq]
  rcases Nat.lt_or_ge i l.length with hi | hi
  · obtain ⟨v, h1, h2⟩ := rels_iff.1 h i l[i] (by simp [hi])
    rw [List.getElem?_eq_getElem hi]
    have h1' : tmps[i]? = some v := by simpa using h1
    have : tmps.getD i undef = v := by rw [Array.getD_eq_getD_getElem?, h1']; rfl
    rw [this]; exact h2
  · rw [List.getElem?_eq_none hi]
    have : tmps.getD i undef = undef := by rw [Array.getD_eq_getD_getElem?, Array.getElem?_eq_none (by omega)]; rfl
    rw [this]
    exact ⟨_, rfl, rfl, trivial⟩

theorem sameRow_loop {a b : Loop} : SameRow (.loop a) (.loop b) := by simp [SameRow]

/-- One round: the assignment to the loop's variable, the body; no more is asked of what the walk of these two asks. -/
theorem yieldA {cx : Cx} (ok : CxOK cx) {draw : Nat → Array Oper → (Env → Heap → Prop) → Env → Heap → Prop} (_ : draw = fun _ _ _ _ _ => False) {j fn p : Nat} {l : List AV} {asg bdy : Code} {hx : Heap} {a : AV} {K : AV → Heap → Prop} (hj : hget hx j = some (.lp false fn l [p] asg bdy))
    (hp : p < l.length) (hsa : straight asg = true) (hsb : straight bdy = true)
    (hk : wpC cx draw l.length hx.length asg (fun e1 h1 => ReqA (hget h1 j = some (.lp false fn l [p] asg bdy)) (wpC cx draw l.length hx.length bdy (fun _ h2 => ReqA (hget h2 j = some (.lp true fn l [p] asg bdy)) (K (.dat (.bool true)) (hset h2 j (some (.lp false fn l [p] asg bdy)))))
      (fun _ _ _ => False) (fun _ _ => False) e1 (hset h1 j (some (.lp true fn l [p] asg bdy))))) (fun _ _ _ => False) (fun _ _ => False) (upd (initE l) p a) hx) : YieldA cx j [a] hx K := by
  constructor
  intro s lb vs sat hρ hlen hr
  obtain ⟨n0, o, h1, h2, ⟨tmps, D, rfl, hrl, hsz⟩, h4⟩ := sat.blk j _ hj
  rw [hρ] at h1; cases h1
  obtain ⟨v, hv⟩ : ∃ v, vs = #[v] := by
    simp only [List.length_singleton] at hlen
    exact ⟨vs[0], by apply Array.ext <;> simp [← hlen]; intro i hi; subst hi; rfl⟩
  subst hv
  have hrv : Rel s a v := by simpa [Rels] using hr
  have henv : EnvR s l.length (upd (initE l) p a) (tmps.setIfInBounds p v) := (envR_init hrl hsz).upd hp hrv
  refine ⟨fn, tmps.setIfInBounds p v, asg, bdy, ?_, roundIn_of_wpIn trivial ?_⟩
  · have := run_yield (P := cx.P) (args := #[v]) h2 (by simp)
    simpa using this
  refine wpIn_mono (wpC_round ok (some lb) asg hsa _ _ _ _ hx s ⟨_, []⟩ hk (Ext.refl hx s) sat henv rfl) fun x a1 w1 q => ?_
  obtain ⟨e1, h1, s1, rfl, hd1, he1, sat1, ext1, q6⟩ := q
  cases x with
  | normal =>
    obtain ⟨hj1, hk1⟩ := reqA_elim q6
    have hρ1 : s1.ρ j = some lb := (ext1.names j (hget_lt hj)).trans hρ
    obtain ⟨n1, o1, g1, g2, ⟨tmps1, D1, rfl, hrl1, hsz1⟩, _⟩ := sat1.blk j _ hj1
    rw [hρ1] at g1; cases g1
    let b' : AB := .lp true fn l [p] asg bdy
    let o' : Obj := .loop { state := .busy, pending := none, fn := fn, tmps := tmps1, params := [p].toArray, assign := asg, body := bdy, defers := D1 }
    have sat2 : Sat cx.toGl (hset h1 j (some b')) ⟨s1.ρ, s1.I, wput s1.w lb o'⟩ := sat_put sat1 hj1 hρ1 g2 b' o' sameRow_loop ⟨tmps1, D1, rfl, hrl1, hsz1⟩
    have ext2 : Ext h1 s1 (hset h1 j (some b')) ⟨s1.ρ, s1.I, wput s1.w lb o'⟩ := ext_put hj1 hρ1 g2 (some b') o' sameRow_loop
    refine ⟨wput s1.w lb o', run_beginRound g2 rfl, ?_⟩
    refine wpIn_mono (wpC_round ok (some lb) bdy hsb _ _ _ e1 _ ⟨s1.ρ, s1.I, wput s1.w lb o'⟩ a1 hk1 (ext1.trans ext2) sat2 (he1.mono (ext2.grows sat1)) hd1) fun x a2 w2 q => ?_
    obtain ⟨e2, h2', s2, rfl, hd2, he2, sat3, ext3, q6⟩ := q
    cases x with
    | normal =>
      obtain ⟨hj2, hk2⟩ := reqA_elim q6
      have hρ2 : s2.ρ j = some lb := (ext3.names j (hget_lt hj)).trans hρ
      obtain ⟨n2, o2, f1, f2, ⟨tmps2, D2, rfl, hrl2, hsz2⟩, _⟩ := sat3.blk j _ hj2
      rw [hρ2] at f1; cases f1
      let b3 : AB := .lp false fn l [p] asg bdy
      let o3 : Obj := .loop { state := .ready, pending := none, fn := fn, tmps := tmps2, params := [p].toArray, assign := asg, body := bdy, defers := D2 }
      have sat4 : Sat cx.toGl (hset h2' j (some b3)) ⟨s2.ρ, s2.I, wput s2.w lb o3⟩ := sat_put sat3 hj2 hρ2 f2 b3 o3 sameRow_loop ⟨tmps2, D2, rfl, hrl2, hsz2⟩
      have ext4 : Ext h2' s2 (hset h2' j (some b3)) ⟨s2.ρ, s2.I, wput s2.w lb o3⟩ := ext_put hj2 hρ2 f2 (some b3) o3 sameRow_loop
      refine ⟨.bool true, wput s2.w lb o3, ?_, .bool true, rfl, .dat (.bool true), _, ⟨s2.ρ, s2.I, wput s2.w lb o3⟩, rfl, hk2, by simp only [Rel, RelD], sat4, ext3.trans ext4⟩
      exact run_endRound none f2
    | exit i => exact q6.elim
    | ret => exact q6.elim
    | _ => exact q6.elim
  | exit i => exact q6.elim
  | ret => exact q6.elim
  | _ => exact q6.elim


/-- A loop over a function is at its statement. -/
structure SeqA (cx : Cx) (n : Nat) (g : Operand) (p : Nat) (asg bdy : Code) (e : Env) (h : Heap) (K : Heap → Prop) : Prop where
  k : ∃ gf caps l, evA e g = .func gf caps ∧ evE e (List.range n) = l ∧
    ∀ f, CallA cx gf (.yld h.length :: caps) (h ++ [some (.lp false f l [p] asg bdy)]) fun _ h3 => ReqA (hget h3 h.length = some (.lp false f l [p] asg bdy)) (K (hset h3 h.length none))
theorem seqA {cx : Cx} {n : Nat} {g : Operand} {p : Nat} {asg bdy : Code} {e : Env} {h : Heap} {K : Heap → Prop} {gf : Nat} {caps : List AV} (l : List AV) (hg : evA e g = .func gf caps) (hl : evE e (List.range n) = l)
    (hk : ∀ f, CallA cx gf (.yld h.length :: caps) (h ++ [some (.lp false f l [p] asg bdy)]) fun _ h3 => ReqA (hget h3 h.length = some (.lp false f l [p] asg bdy)) (K (hset h3 h.length none))) : SeqA cx n g p asg bdy e h K := ⟨gf, caps, l, hg, hl, hk⟩
/-- A block that is no-one's and no row of cells turns. -/
theorem grows_other {s : Wd} {D : Nat} {o o' : Obj} (hD : s.w.heap[D]? = some o) (ho : ∀ c e f, o ≠ .cells c e f) (hI : ¬ s.I D) : Grows s ⟨s.ρ, s.I, wput s.w D o'⟩ := by
  have hlt := (Array.getElem?_eq_some_iff.1 hD).1
  have ne : ∀ n, n ≠ D → (wput s.w D o').heap[n]? = s.w.heap[n]? := fun n hn => by rw [wput_get _ _ _ _ hlt, if_neg hn]
  exact ⟨fun _ _ h => h, fun _ h => h, fun n hn => ne n (fun e => hI (e ▸ hn)), fun n c e f h => ⟨c, f, (ne n (fun e' => by subst e'; rw [hD] at h; cases h; exact ho _ _ _ rfl)).trans h, rfl⟩⟩
theorem sat_other {γ : Gl} {h : Heap} {s : Wd} (sat : Sat γ h s) {D : Nat} {o o' : Obj} (hD : s.w.heap[D]? = some o) (ho : ∀ c e f, o ≠ .cells c e f) (hI : ¬ s.I D) (hO : ¬ Owned h s D) : Sat γ h ⟨s.ρ, s.I, wput s.w D o'⟩ := by
  have hlt := (Array.getElem?_eq_some_iff.1 hD).1
  have ne : ∀ n, n ≠ D → (wput s.w D o').heap[n]? = s.w.heap[n]? := fun n hn => by rw [wput_get _ _ _ _ hlt, if_neg hn]
  have g := grows_other (o' := o') hD ho hI
  refine ⟨fun i b hb => ?_, sat.inj, sat.fresh, fun n hn => by simpa using sat.imm n hn, fun gl cs hg => ?_, sat.dr, sat.old.grow g rfl rfl rfl (by simp)⟩
  · obtain ⟨n, o, h1, h2, h3, h4⟩ := sat.blk i b hb
    exact ⟨n, o, h1, (ne n (fun e => hO (e ▸ ⟨i, by rw [hb]; simp, h1⟩))).trans h2, relB_mono g b o h3, h4⟩
  · obtain ⟨h1, c, e, f, h2, h3⟩ := sat.glob gl cs hg
    exact ⟨h1, c, e, f, (ne gl (fun e => hI (e ▸ h1))).trans h2, relDs_mono g.I g.same _ _ h3⟩
theorem ext_other {h h' : Heap} {s s' : Wd} (ext : Ext h s h' s') {D : Nat} {o o' : Obj} (hD : s'.w.heap[D]? = some o) (ho : ∀ c e f, o ≠ .cells c e f) (hI : ¬ s'.I D) (hB : s.w.heap.size ≤ D) : Ext h s h' ⟨s'.ρ, s'.I, wput s'.w D o'⟩ := by
  have hlt := (Array.getElem?_eq_some_iff.1 hD).1
  have ne : ∀ n, n ≠ D → (wput s'.w D o').heap[n]? = s'.w.heap[n]? := fun n hn => by rw [wput_get _ _ _ _ hlt, if_neg hn]
  have g := grows_other (o' := o') hD ho hI
  refine ⟨ext.ρ, ext.I, ext.inew, by simpa using ext.size, fun n hn hO => (ne n (by omega)).trans (ext.keep n hn hO), fun n c e f hn => ?_, ext.own, ext.os, ext.output, ext.tape, ext.len, ext.names⟩
  obtain ⟨c1, f1, h1, h2⟩ := ext.rows n c e f hn
  obtain ⟨c2, f2, h3, h4⟩ := g.rows n c1 e f1 h1
  exact ⟨c2, f2, h3, h4.trans h2⟩
/-- The one loop of an iterator over a map. -/
def loopOf (fn : Func) : Code := match fn.body with
  | some (.seq _ (.block _ (.loop c))) => c
  | _ => .skip
def asgOf (fn : Func) : Code := match fn.body with
  | some (.seq _ (.seq (.seq _ (.block _ (.rangeFunc _ _ a _))) _)) => a
  | _ => .skip
def bdyOf (fn : Func) : Code := match fn.body with
  | some (.seq _ (.seq (.seq _ (.block _ (.rangeFunc _ _ _ b))) _)) => b
  | _ => .skip
theorem evE_length (e : Env) : ∀ is, (evE e is).length = is.length
  | [] => rfl
  | _ :: r => by simp [evE, evE_length e r]

theorem CallA.overSeq {cx : Cx} (ok : CxOK cx) {draw : Nat → Nat → Array Oper → (Env → Heap → Prop) → Env → Heap → Prop} (hdraw : ∀ n id ops K e h, draw n id ops K e h → drawSem cx n id ops K e h) {f : Nat} {fn : Func} (hf : cx.P.funcs[f]? = some fn)
    (hc : ∀ vs w, (callFunc f vs).run cx.P w = .ok (.enter f vs) w) {A M : Code} {b0 idB : Nat} {opsB : Array Oper} {g : Operand} {p : Nat} {asg bdy : Code}
    (hb : fn.body = some (A.seq ((M.seq (.block b0 (.rangeFunc g #[p] asg bdy))).seq ((Code.region idB opsB false).seq .ret)))) {args : List AV} {h : Heap} {K : AV → Heap → Prop}
    (hle : Nat.ble args.length fn.ntmps = true) (hds : dstsOK fn.ntmps opsB.toList = true)
    (hk : wpC cx (draw fn.ntmps) fn.ntmps h.length (A.seq M) (fun e1 h1 => SeqA cx fn.ntmps g p asg bdy e1 h1 fun h2 => opsA cx fn.ntmps opsB.toList (retA cx fn.results.toList K) opsB.toList e1 h2) (fun _ _ _ => False) (fun _ _ => False) (initE args) h) : CallA cx f args h K := by
  have hle : args.length ≤ fn.ntmps := Nat.le_of_ble_eq_true hle
  constructor
  intro s vs sat hl hr
  refine ⟨hc vs s.w, (callsIn_wide (n := 0)).1 (callsIn_of_wp_marks hf hb trivial ?_)⟩
  have henv : EnvR s fn.ntmps (initE args) (vs ++ Array.replicate (fn.ntmps - vs.size) undef) := by
    refine ⟨by simp; omega, fun i => ?_⟩
    unfold initE
    rw [nth_eq]
    rcases Nat.lt_or_ge i args.length with hi | hi
    · obtain ⟨v, h1, h2⟩ := rels_iff.1 hr i args[i] (by simp [hi])
      rw [List.getElem?_eq_getElem hi]
      have h1' : vs[i]? = some v := by simpa using h1
      have : (vs ++ Array.replicate (fn.ntmps - vs.size) undef).getD i undef = v := by
        rw [Array.getD_eq_getD_getElem?, Array.getElem?_append_left (by omega), h1']; rfl
      rw [this]; exact h2
    · rw [List.getElem?_eq_none hi]
      have : (vs ++ Array.replicate (fn.ntmps - vs.size) undef).getD i undef = undef := by
        rw [Array.getD_eq_getD_getElem?, Array.getElem?_append_right (by omega)]
        rw [Array.getElem?_replicate]
        split <;> rfl
      rw [this]
      exact ⟨_, rfl, rfl, trivial⟩
  rw [wpC_seq] at hk
  refine wpIn_seq (wpIn_mono ((wpIn_wide (n := 0)).2 (wpC_sound ok (hdraw fn.ntmps) (b := h.length) ⟨Nat.le_refl _, sat.fresh⟩ A _ _ _ _ h s ⟨_, []⟩ hk (Ext.refl h s) sat henv rfl)) fun x a w q => ?_)
  obtain ⟨e0, h0, s0, rfl, hd0, he0, sat0, ext0, hk⟩ := q
  cases x with
  | normal =>
    refine wpIn_seq (wpIn_seq (wpIn_mono ((wpIn_wide (n := 0)).2 (wpC_sound ok (hdraw fn.ntmps) (b := h.length) ⟨Nat.le_refl _, sat.fresh⟩ M _ _ _ _ h0 s0 a hk ext0 sat0 he0 hd0)) fun x a w q => ?_))
    obtain ⟨e1, h1, s1, rfl, hd1, he1, sat1, ext1, hk⟩ := q
    cases x with
    | normal =>
      obtain ⟨gf, caps, l, hg, hel, hcall⟩ := hk.k
      have hgv : Rel s1 (evA e1 g) (a.eval g) := he1.ev a.defers g
      rw [hg] at hgv
      simp only [Rel] at hgv
      obtain ⟨cvs, hgv, hcl, hcr⟩ := hgv
      refine wpIn_block (wpIn_rangeFunc ?_)
      intro fn' _
      obtain ⟨D, hDe⟩ : ∃ D, s1.w.heap.size = D := ⟨_, rfl⟩
      obtain ⟨rec, hrec⟩ : ∃ rec : Loop, rec = { state := .ready, pending := none, fn := fn', tmps := a.tmps, params := #[p], assign := asg, body := bdy, defers := D } := ⟨_, rfl⟩
      have satD := (sat_below sat1 (w' := s1.w.alloc (.deferred (some []))) ((Below.refl _ _).alloc (Nat.le_refl _) _) sat1.dr)
      let sD : Wd := ⟨s1.ρ, s1.I, s1.w.alloc (.deferred (some []))⟩
      let lp : AB := .lp false fn' l [p] asg bdy
      let s2 : Wd := sD.alloc h1.length (.loop rec)
      have hlD : s2.ρ h1.length = some (D + 1) := by show (if h1.length = h1.length then some sD.w.heap.size else _) = _; simp [sD, hDe]
      have hrl : Rels s2 l a.tmps.toList := by
        have := evE_rel he1.2 (List.range fn.ntmps)
        rw [hel] at this
        have hm : (List.range fn.ntmps).map (fun i => a.tmps.getD i undef) = a.tmps.toList := by
          apply List.ext_getElem?
          intro i
          simp only [List.getElem?_map, Array.getElem?_toList]
          rcases Nat.lt_or_ge i fn.ntmps with hi | hi
          · have hi2 : i < a.tmps.size := by rw [he1.1]; exact hi
            simp [hi, hi2]
          · have hi2 : a.tmps.size ≤ i := by rw [he1.1]; exact hi
            simp [hi, hi2]
        rw [hm] at this
        exact rels_mono (grows_alloc satD.1 _ (satD.1.fresh _ (Nat.le_refl _)) _) _ _ (rels_mono (satD.2.grows sat1) _ _ this)
      have hll : a.tmps.size = l.length := by rw [← hel, evE_length, he1.1]; simp
      have sat2 : Sat cx.toGl (h1 ++ [some lp]) s2 := sat_alloc satD.1 lp (.loop rec) ⟨a.tmps, D, by rw [hrec]; rfl, hrl, hll⟩
      have ext2 : Ext h1 s1 (h1 ++ [some lp]) s2 := satD.2.trans (ext_alloc satD.1 lp (.loop rec))
      have hsz2 : s2.w.heap.size = D + 2 := by simp [s2, sD, Wd.alloc, hDe]
      have hD2 : s2.w.heap[D]? = some (.deferred (some [])) := by
        have h1 : (s1.w.alloc (.deferred (some []))).heap[D]? = some (.deferred (some [])) := by rw [← hDe]; exact World.alloc_heap_new _ _
        exact (Below.heap_alloc _ _ D (by show D < (s1.w.alloc _).heap.size; rw [World.size_alloc]; omega)).trans h1
      have hI2 : ¬ s2.I D := fun h => by have := sat1.imm D h; omega
      have hO2 : ¬ Owned (h1 ++ [some lp]) s2 D := fun ⟨i, hi, hn⟩ => by
        rw [hget_app] at hi
        by_cases e : i = h1.length
        · subst e; rw [hlD] at hn; simp at hn
        · rw [if_neg e] at hi
          have hn' : s1.ρ i = some D := by
            have : s2.ρ i = s1.ρ i := by show (if i = h1.length then _ else _) = _; rw [if_neg e]
            rw [← this]; exact hn
          cases hb' : hget h1 i with
          | none => exact hi hb'
          | some b' =>
            obtain ⟨n', o', x1, x2, _⟩ := sat1.blk i b' hb'
            rw [hn'] at x1; cases x1
            have := (Array.getElem?_eq_some_iff.1 x2).1
            omega
      have hyl : Rels s2 (.yld h1.length :: caps) (#[Value.func (.yield (D + 1)) #[] #[]] ++ cvs).toList := by
        rw [Array.toList_append]
        simp only [List.cons_append, List.nil_append, Rels, Rel]
        exact ⟨⟨D + 1, hlD, rfl⟩, rels_mono (ext2.grows sat1) _ _ hcr⟩
      obtain ⟨c1, c2⟩ := (hcall fn').run s2 (#[Value.func (.yield (D + 1)) #[] #[]] ++ cvs) sat2 (by simp [hcl]; omega) hyl
      have hw2 : s2.w = (s1.w.alloc (.deferred (some []))).alloc (.loop rec) := rfl
      refine ⟨D + 1, [{ target := .collected D, args := #[] }], s2.w, { target := .fn (.func gf) cvs, args := #[.func (.yield (D + 1)) #[] #[]] }, s2.w, gf, #[.func (.yield (D + 1)) #[] #[]] ++ cvs, s2.w, ?_, ?_, fun _ _ => trivial, ?_, fun h => by simp [Fence.wide] at h, ?_⟩
      · have := run_enterLoop_outer (P := cx.P) (w := s1.w) fn' a.tmps #[p] asg bdy
        rw [hDe, ← hrec] at this
        exact this
      · simp only [resolve, hgv]
        simp [go_sem]
      · simp [invoke, go_sem, c1]
      refine (callsIn_wide (n := 0 - 1)).2 (c2.mono ?_)
      rintro e' w' ⟨v, rfl, av, h3, s3, rfl, hk3, hrv, sat3, ext3⟩
      obtain ⟨hj, hk3⟩ := reqA_elim hk3
      obtain ⟨n3, o3, g1, g2, ⟨tmps3, D3, rfl, hrl3, hsz3⟩, _⟩ := sat3.blk _ _ hj
      have hρ3 : s3.ρ h1.length = some (D + 1) := (ext3.names _ (by simp)).trans hlD
      rw [hρ3] at g1; cases g1
      refine ⟨none, _, run_endLoop g2 (by simp [lpSt]), ?_⟩
      let o4 : Obj := .loop { ({ state := lpSt false, pending := none, fn := fn', tmps := tmps3, params := [p].toArray, assign := asg, body := bdy, defers := D3 } : Loop) with state := .exhausted }
      let s4 : Wd := ⟨s3.ρ, s3.I, wput s3.w (D + 1) o4⟩
      have sat4 : Sat cx.toGl (hset h3 h1.length none) s4 := by
        have x := sat_put sat3 hj hρ3 g2 (.obj o4) o4 sameRow_loop rfl
        have y := sat_sub x (sub_none _ h1.length)
        rwa [hset_hset] at y
      have ext4 : Ext h3 s3 (hset h3 h1.length none) s4 := ext_put hj hρ3 g2 none o4 sameRow_loop
      show Exit.inBlock b0 _ _ _ _
      simp only [Exit.inBlock]
      have he4 : EnvR s4 fn.ntmps e1 a.tmps := ((he1.mono (ext2.grows sat1)).mono (ext3.grows sat2)).mono (ext4.grows sat3)
      have ext24 := ext3.trans ext4
      have hkeep : ∀ {h' : Heap} {s' : Wd}, Ext (h1 ++ [some lp]) s2 h' s' → s'.w.heap[D]? = some (.deferred (some [])) ∧ ¬ s'.I D ∧ ¬ Owned h' s' D := fun {h' s'} x => by
        refine ⟨(x.keep D (by omega) hO2).trans hD2, fun h => ?_, fun h => ?_⟩
        · rcases x.inew D h with h | h | h
          · exact hI2 h
          · omega
          · exact hO2 h
        · rcases x.own D h with h | h
          · omega
          · exact hO2 h
      refine wpIn_seq (wpIn_region ?_)
      refine opsA_sound ok (ro := none) (ds := [{ target := .collected D, args := #[] }]) hds (List.range opsB.size) opsB.toList e1 (hset h3 h1.length none) s4 { a with defers := [{ target := .collected D, args := #[] }] ++ a.defers } ?_ hk3 sat4 he4 (by rw [hd1]; rfl) ?_
      · apply List.ext_getElem?
        intro i
        simp only [List.getElem?_map, Array.getElem?_toList]
        rcases Nat.lt_or_ge i opsB.size with hi | hi
        · simp [hi]
        · simp [hi]
      intro e5 h5 s5 a5 k5 sat5 he5 hd5 ext5
      refine wpIn_ret ?_
      show LeavesInM _ _ _ _ _ _ a5.defers .returning s5.w
      rw [hd5]
      obtain ⟨x1, x2, x3⟩ := hkeep (ext24.trans ext5)
      refine ⟨by simp, .inl ⟨D, _, rfl, run_takeDeferred x1, ?_⟩⟩
      have sat6 : Sat cx.toGl h5 ⟨s5.ρ, s5.I, wput s5.w D (.deferred none)⟩ := sat_other sat5 x1 (by intros; simp) x2 x3
      have he6 : EnvR ⟨s5.ρ, s5.I, wput s5.w D (.deferred none)⟩ fn.ntmps e5 a5.tmps := he5.mono (grows_other x1 (by intros; simp) x2)
      have ext6 : Ext h s h5 ⟨s5.ρ, s5.I, wput s5.w D (.deferred none)⟩ := ext_other ((ext1.trans ext2).trans (ext24.trans ext5)) x1 (by intros; simp) x2 (by have := ext1.size; omega)
      obtain ⟨v6, av6, r1, r2, r3⟩ := retA_sound ok sat6 he6 k5
      exact ⟨v6, r1, v6, rfl, av6, h5, _, rfl, r2, r3, sat6, ext6⟩
    | exit i => exact hk.elim
    | ret => exact hk.elim
    | _ => exact hk.elim
  | exit i => exact hk.elim
  | ret => exact hk.elim
  | _ => exact hk.elim
end Go.Abs

namespace Go.Abs

/-- A loop by induction on a measure of its states. -/
theorem loop_ind {cx : Cx} {n b : Nat} {c : Code} {Kx : Nat → Env → Heap → Prop} {Kr : Env → Heap → Prop} {σ : Type} (E : σ → Env) (H : σ → Heap) (P : σ → Prop) (μ : σ → Nat)
    (step : ∀ x, P x → (∀ y, P y → μ y < μ x → loopA cx n b c Kx Kr (E y) (H y)) → loopA cx n b c Kx Kr (E x) (H x)) (x : σ) (hx : P x) : loopA cx n b c Kx Kr (E x) (H x) := by
  suffices h : ∀ k x, P x → μ x < k → loopA cx n b c Kx Kr (E x) (H x) from h _ x hx (Nat.lt_succ_self _)
  intro k
  induction k with
  | zero => intro x _ h; omega
  | succ k ih => intro x hx h; exact step x hx fun y hy hlt => ih y hy (by omega)

/-! What has come of a map that is ranged over. -/
theorem entB_in {bs : List Nat} {es : List (DV × AV)} {b : Nat} {e : DV × AV} (h : entB bs es b = some e) : b ∈ bs ∧ e ∈ es := by
  induction bs generalizing es with
  | nil => simp [entB] at h
  | cons x r ih =>
    cases es with
    | nil => simp [entB] at h
    | cons y t =>
      simp only [entB] at h
      split at h
      · rename_i hb
        cases h
        exact ⟨by rw [Nat.eq_of_beq_eq_true hb]; simp, by simp⟩
      · obtain ⟨h1, h2⟩ := ih h
        exact ⟨by simp [h1], by simp [h2]⟩
theorem filterMap_same {α β : Type} {f g : α → Option β} : ∀ {l : List α}, (∀ x ∈ l, f x = g x) → l.filterMap f = l.filterMap g
  | [], _ => rfl
  | a :: r, h => by
    rw [List.filterMap_cons, List.filterMap_cons, h a (by simp), filterMap_same fun x hx => h x (by simp [hx])]
theorem nodup_le : ∀ {l m : List Nat}, l.Nodup → (∀ x ∈ l, x ∈ m) → l.length ≤ m.length
  | [], _, _, _ => Nat.zero_le _
  | a :: r, m, hn, hs => by
    rw [List.nodup_cons] at hn
    have ha := hs a (by simp)
    have := nodup_le (m := m.erase a) hn.2 fun x hx => (List.mem_erase_of_ne (by rintro rfl; exact hn.1 hx)).2 (hs x (by simp [hx]))
    have h2 := List.length_erase_of_mem ha
    have h3 := List.length_pos_of_mem ha
    simp only [List.length_cons]
    omega
theorem entB_all : ∀ {bs : List Nat} {es : List (DV × AV)}, bs.length = es.length → bs.Pairwise (· < ·) → bs.filterMap (entB bs es) = es
  | [], [], _, _ => rfl
  | b :: r, e :: t, hl, hp => by
    simp only [List.pairwise_cons] at hp
    have h0 : entB (b :: r) (e :: t) b = some e := by simp [entB]
    rw [List.filterMap_cons, h0]
    simp only
    congr 1
    have : ∀ x ∈ r, entB (b :: r) (e :: t) x = entB r t x := fun x hx => by
      have := hp.1 x hx
      have hne : Nat.beq b x = false := by
        cases hb : Nat.beq b x with
        | false => rfl
        | true => have := Nat.eq_of_beq_eq_true hb; omega
      simp [entB, hne]
    rw [filterMap_same this]
    exact entB_all (by simpa using hl) hp.2
  | [], _ :: _, hl, _ => by simp at hl
  | _ :: _, [], hl, _ => by simp at hl
/-- seen: what has come, the newest first. -/
structure Came (bs : List Nat) (seen : List Nat) : Prop where
  nd : seen.Nodup
  sub : ∀ b ∈ seen, b ∈ bs
theorem Came.nil (bs : List Nat) : Came bs [] := ⟨List.nodup_nil, by simp⟩
theorem Came.cons {bs seen : List Nat} (h : Came bs seen) {es : List (DV × AV)} {b : Nat} {e : DV × AV} (he : entB bs es b = some e) (hn : b ∉ seen) : Came bs (b :: seen) :=
  ⟨List.nodup_cons.2 ⟨hn, h.nd⟩, fun x hx => by
    rcases List.mem_cons.1 hx with rfl | hx
    · exact (entB_in he).1
    · exact h.sub x hx⟩
theorem Came.le {bs seen : List Nat} (h : Came bs seen) : seen.length ≤ bs.length := nodup_le h.nd h.sub
theorem Came.perm {bs seen : List Nat} (h : Came bs seen) {es : List (DV × AV)} (hl : bs.length = es.length) (hp : bs.Pairwise (· < ·)) (ha : ∀ b ∈ bs, b ∈ seen) : (seen.reverse.filterMap (entB bs es)).Perm es := by
  have nd : bs.Nodup := hp.imp (fun h => Nat.ne_of_lt h)
  have : seen.reverse.Perm bs := (List.reverse_perm seen).trans ((List.perm_ext_iff_of_nodup h.nd nd).2 fun x => ⟨h.sub x, ha x⟩)
  have := this.filterMap (entB bs es)
  rwa [entB_all hl hp] at this
theorem came_snoc {bs seen : List Nat} {es : List (DV × AV)} {b : Nat} {e : DV × AV} (he : entB bs es b = some e) : (b :: seen).reverse.filterMap (entB bs es) = seen.reverse.filterMap (entB bs es) ++ [e] := by
  rw [List.reverse_cons, List.filterMap_append]
  simp [he]
theorem liftE_length : ∀ es : List (DV × DV), (liftE es).length = es.length
  | [] => rfl
  | _ :: r => by simp [liftE, liftE_length r]
theorem liftE_map : ∀ es : List (DV × DV), liftE es = es.map fun e => (e.1, .dat e.2)
  | [] => rfl
  | _ :: r => by simp [liftE, liftE_map r]
theorem renE_lift (f : Nat → Nat) : ∀ es : List (DV × DV), renE f (liftE es) = liftE es
  | [] => rfl
  | _ :: r => by simp [liftE, renE, renT, renE_lift f r]
theorem renTs_datC {f : Nat → Nat} {cs : List AV} {ds : List DV} (h : cs = ds.map .dat) {e : Nat} {g : Bool} : some (AB.cells cs e g) = some (renB f (.cells (ds.map .dat) e g)) := by simp only [renB, renTs_dat, h]
theorem ren_mapB {f : Nat → Nat} {bs : List Nat} {clk : Nat} {es : List (DV × DV)} : some (AB.mapB bs clk (liftE es)) = some (renB f (.mapB bs clk (liftE es))) := by simp only [renB, renE_lift]
theorem hin_nil {f : Nat → Nat} {H : Heap} : HeapIn f H [] [] := by simp [HeapIn]
theorem hin_cons {f : Nat → Nat} {H : Heap} {j : Nat} {b : AB} {σ : List Nat} {t : Heap} (h : hget H j = some (renB f b)) (r : HeapIn f H σ t) : HeapIn f H (j :: σ) (some b :: t) := ⟨h, r⟩
theorem hin_none {f : Nat → Nat} {H : Heap} {j : Nat} {σ : List Nat} {t : Heap} (r : HeapIn f H σ t) : HeapIn f H (j :: σ) (none :: t) := ⟨trivial, r⟩
/-- A loop, from a state with named slots. -/
theorem loop_in {cx : Cx} {n b : Nat} {c : Code} {Kx : Nat → Env → Heap → Prop} {Kr : Env → Heap → Prop} {e : Env} {h : Heap} (is : List Nat) (σ : List Nat) (l : List AV) (h' : Heap) (ha : renTs (ren1 σ h'.length h.length) l = evE e is) (hl : σ.length = h'.length) (hn : namesOK h.length σ = true) (hb : same b 0 σ = true)
    (hin : HeapIn (ren1 σ h'.length h.length) h σ h') (hk : loopA cx n b c Kx Kr (mkE is l) h') : loopA cx n b c Kx Kr e h :=
  loopA_shift is (shift_ren σ l h' hl hn hb ha hin hk)
theorem leaf_in {cx : Cx} {b : Nat} {a : AV} {h : Heap} {K : AV → Heap → Prop} (σ : List Nat) (a' : AV) (h' : Heap) (ha : renT (ren1 σ h'.length h.length) a' = canA a) (hl : σ.length = h'.length) (hn : namesOK h.length σ = true) (hb : same b 0 σ = true)
    (hin : HeapIn (ren1 σ h'.length h.length) h σ h') (hk : K a' h') : ShiftV cx b [a] h (ret1 K) :=
  shift_trans (K := fun l h1 => l = [canA a] ∧ h1 = h) (shift_can ⟨rfl, rfl⟩) fun l h1 ⟨e1, e2⟩ => by
    subst e1; subst e2
    exact shift_ren σ [a'] h' hl hn hb (by simp [renTs, ha]) hin hk
theorem call_in {cx : Cx} {f : Nat} {args args' : List AV} {h H : Heap} {K : AV → Heap → Prop} (σ : List Nat) (c : CallA cx f args h fun a h' => K (renT (ren1 σ h.length H.length) a) (splice (ren1 σ h.length H.length) σ h' H))
    (hargs : renTs (ren1 σ h.length H.length) args = args') (hl : σ.length = h.length) (hσ : namesOK H.length σ = true) (hin : HeapIn (ren1 σ h.length H.length) H σ h) : CallA cx f args' H K :=
  CallA.sub σ hl hσ hargs hin c
end Go.Abs

namespace Go.Abs.X
open Go.Abs Go Go.Proofs

def i64 (n : Int) : DV := .int .i64 n
def u32 (n : Int) : DV := .int .u32 n
structure LinkT where
  who : Int
  peer : Int
  n : Int
  deriving DecidableEq
def linkD (w p t : Int) : DV := .agg [.int .i64 w, .int .i64 p, .int .i64 t]
def LinkT.dv (l : LinkT) : DV := linkD l.who l.peer l.n
def LinkT.flat (l : LinkT) : List DV := [i64 l.who, i64 l.peer, i64 l.n]
def flatD {α : Type} (f : α → List DV) : List α → List DV
  | [] => []
  | l :: r => f l ++ flatD f r
theorem flatD_append {α : Type} (f : α → List DV) : ∀ l m, flatD f (l ++ m) = flatD f l ++ flatD f m
  | [], _ => rfl
  | _ :: r, m => by simp [flatD, flatD_append f r m]
theorem flatD_one {α : Type} (f : α → List DV) (x : α) : flatD f [x] = f x := by simp [flatD]
theorem flatD_length {α : Type} {f : α → List DV} {z : Nat} (h : ∀ x, (f x).length = z) : ∀ l : List α, (flatD f l).length = l.length * z
  | [] => by simp [flatD]
  | _ :: r => by simp [flatD, flatD_length h r, h, Nat.add_mul, Nat.add_comm]
/-- what the box of the slice holds, and the block of what has come -/
def apSl (z : Nat) (n : Nat) : AV := match n with
  | 0 => .dat .nils
  | n + 1 => .sl 5 0 (n + 1) none z
def apBl (e : Nat) (ds : List DV) (n : Nat) : Heap := match n with
  | 0 => []
  | _ + 1 => [some (.cells (ds.map .dat) e true)]
end Go.Abs.X

namespace Go.Abs.X
open Go.Abs Go Go.Proofs
variable {w0 : World}

set_option maxHeartbeats 1000000 in
theorem appendSeqLink (es : List (DV × DV)) (hk : ∀ e ∈ es, ∃ l : LinkT, e.1 = LinkT.dv l) (hlen : es.length ≤ 1000000) (K : AV → Heap → Prop)
    (h0 : es = [] → K (.dat .nils) [some (.mapD es), some (.cells [.map 0] 28 false)])
    (h1 : ∀ ks : List LinkT, ks ≠ [] → (ks.map LinkT.dv).Perm (es.map (·.1)) → K (.sl 2 0 ks.length none 3) [some (.mapD es), some (.cells [.map 0] 28 false), some (.cells ((flatD LinkT.flat ks).map .dat) 51 true)]) :
    CallA (cx w0) 129 [.dat .nils, .func 93 [.ptr 1 0]] [some (.mapD es), some (.cells [.map 0] 28 false)] K := by
  refine CallA.ret ?_
  refine CallA.overSeq ok (dr (plOf [])) Tryz.func129 Tryz.call129 rfl rfl rfl ?_
  refine seqA [.dat .nils, .func 93 [.ptr 1 0], .ptr 2 0, .dat (.tup []), .dat .nils, .dat (.tup []), .func 93 [.ptr 1 0], .dat (.tup []), .dat (.tup []), .dat (.tup []), .dat (.tup []), .dat (.tup []), .dat (.tup [])] rfl rfl fun f => ?_
  refine CallA.enter ok (dr (plOf [])) Tryz.func93 Tryz.call93 ?_
  let lp : AB := .lp false f [.dat .nils, .func 93 [.ptr 1 0], .ptr 2 0, .dat (.tup []), .dat .nils, .dat (.tup []), .func 93 [.ptr 1 0], .dat (.tup []), .dat (.tup []), .dat (.tup []), .dat (.tup []), .dat (.tup []), .dat (.tup [])] [7] (asgOf Tryz.f129) (bdyOf Tryz.f129)
  refine rangeM fun bs clk hbl hbp hbc => ?_
  let H : List Nat × List LinkT × Nat → Heap := fun x => [some (.mapB bs clk (liftE es)), some (.cells [.map 0] 28 false), some (.cells [apSl 3 x.2.2] 48 false), some lp, some (.miter 0 clk x.1)] ++ apBl 51 (flatD LinkT.flat x.2.1) x.2.2
  refine loop_in [0, 5] [0, 1, 2, 3, 4] [.yld 3, .ptr 4 0] (H ([], [], 0)) rfl rfl rfl rfl (hin_cons ren_mapB (hin_cons rfl (hin_cons rfl (hin_cons rfl (hin_cons rfl hin_nil))))) ?_
  have hel : bs.length = (liftE es).length := by rw [liftE_length]; exact hbl
  refine loop_ind (fun _ => mkE [0, 5] [.yld 3, .ptr 4 0]) H (fun x => Came bs x.1 ∧ x.2.1.map LinkT.dv = (x.1.reverse.filterMap (entB bs (liftE es))).map (·.1) ∧ x.2.1.length = x.2.2 ∧ x.2.2 = x.1.length) (fun x => bs.length - x.1.length) ?_ ([], [], 0) ⟨Came.nil bs, rfl, rfl, rfl⟩
  rintro ⟨seen, ks, n⟩ ⟨came, hks, hlk, hln⟩ ih
  replace hlk : ks.length = n := hlk
  replace hln : n = seen.length := hln
  have key : ∀ b k v, entB bs (liftE es) b = some (k, v) → ∃ x : LinkT, k = LinkT.dv x := fun b k v he => by
    have := (entB_in he).2
    rw [liftE_map, List.mem_map] at this
    obtain ⟨e, he1, he2⟩ := this
    obtain ⟨l, hl⟩ := hk e he1
    cases he2
    exact ⟨l, hl⟩
  have go := fun b (x : LinkT) v (he : entB bs (liftE es) b = some (LinkT.dv x, v)) (hn : b ∉ seen) => ih (b :: seen, ks ++ [x], n + 1) ⟨came.cons he hn, by rw [came_snoc he, List.map_append, List.map_append, ← hks]; rfl, by simp [hlk], by simp [hln]⟩ (by have := (came.cons he hn).le; simp only [List.length_cons] at this ⊢; omega)
  have gol : ∀ b (x : LinkT) v, entB bs (liftE es) b = some (LinkT.dv x, v) → b ∉ seen → n + 1 ≤ 1000000 := fun b x v he hn => by
    have := (came.cons he hn).le; simp only [List.length_cons] at this; omega
  have hpm : (∀ b ∈ bs, b ∈ seen) → (ks.map LinkT.dv).Perm (es.map (·.1)) := fun hall => by
    have := (came.perm hel hbp hall).map (·.1)
    rw [← hks] at this
    rw [liftE_map, List.map_map] at this
    exact this
  clear ih hks came
  cases n with
  | zero =>
    obtain rfl : ks = [] := List.eq_nil_of_length_eq_zero hlk
    refine loopA_round ok (dr (plOf []) _) ?_
    refine req rfl ?_
    refine nextM (fun b k v he hn => ?_) (fun hall => ?_)
    · obtain ⟨x, rfl⟩ := key b k v he
      refine condA_true rfl ?_
      refine req rfl ?_
      refine optA _ he ?_
      refine yieldA ok (draw := fun _ _ _ _ _ => False) rfl rfl (by decide) rfl rfl ?_
      refine req rfl ?_
      refine appA (by decide) ⟨rfl, allCell_iff.1 rfl, by decide, by decide⟩ ?_
      refine req rfl ?_
      refine condA_false rfl ?_
      refine loop_in [0, 5] [0, 1, 2, 3, 4, 8] [.yld 3, .ptr 4 0] (H (b :: seen, [x], 1)) ?_ ?_ ?_ ?_ ?_ (go b x v he hn)
      · kernel_rfl
      · kernel_rfl
      · kernel_rfl
      · kernel_rfl
      · refine hin_cons ren_mapB ?_
        refine hin_cons (by kernel_rfl) (hin_cons (by kernel_rfl) (hin_cons (by kernel_rfl) (hin_cons (by kernel_rfl) (hin_cons (by kernel_rfl) hin_nil))))
    · refine condA_false rfl ?_
      refine req rfl ?_
      have : es = [] := by
        have := (hpm hall).length_eq
        simp at this
        exact List.eq_nil_of_length_eq_zero this.symm
      refine shift_unBD' 0 es rfl rfl ?_
      exact leaf [0, 1] _ [some (.mapD es), some (.cells [.map 0] 28 false)] rfl rfl rfl rfl rfl (h0 this)
  | succ m =>
    refine loopA_round ok (dr (plOf []) _) ?_
    refine req rfl ?_
    refine nextM (fun b k v he hn => ?_) (fun hall => ?_)
    · obtain ⟨x, rfl⟩ := key b k v he
      have hle := gol b x v he hn
      have go := go b x v he hn
      refine condA_true rfl ?_
      refine req rfl ?_
      refine optA _ he ?_
      refine yieldA ok (draw := fun _ _ _ _ _ => False) rfl rfl (by decide) rfl rfl ?_
      refine req rfl ?_
      refine appA (by decide) ⟨?_, rfl, allCell_iff.1 rfl, ?_, ?_⟩ ?_
      · rw [List.length_map, flatD_length (z := 3) (fun _ => rfl), hlk]
      · show (m + 1 + 1) * 24 ≤ _
        omega
      · show m + 1 + 1 ≤ maxLen
        unfold maxLen; omega
      refine req rfl ?_
      refine condA_false rfl ?_
      refine loop_in [0, 5] [0, 1, 2, 3, 4, 9] [.yld 3, .ptr 4 0] (H (b :: seen, ks ++ [x], m + 1 + 1)) ?_ ?_ ?_ ?_ ?_ go
      · kernel_rfl
      · kernel_rfl
      · kernel_rfl
      · kernel_rfl
      · refine hin_cons ren_mapB ?_
        refine hin_cons (by kernel_rfl) (hin_cons (by kernel_rfl) (hin_cons (by kernel_rfl) (hin_cons (by kernel_rfl) (hin_cons (renTs_datC (by rw [flatD_append, flatD_one, List.map_append]; rfl)) hin_nil))))
    · refine condA_false rfl ?_
      refine req rfl ?_
      refine shift_unBD' 0 es rfl rfl ?_
      refine leaf_in [0, 1, 5] (.sl 2 0 (m + 1) none 3) [some (.mapD es), some (.cells [.map 0] 28 false), some (.cells ((flatD LinkT.flat ks).map .dat) 51 true)] rfl rfl rfl rfl (hin_cons rfl (hin_cons rfl (hin_cons (renTs_datC rfl) hin_nil))) ?_
      rw [← hlk]
      exact h1 ks (by intro e; simp [e] at hlk) (hpm hall)

theorem collectLink (es : List (DV × DV)) (hk : ∀ e ∈ es, ∃ l : LinkT, e.1 = LinkT.dv l) (hlen : es.length ≤ 1000000) (K : AV → Heap → Prop)
    (h0 : es = [] → K (.dat .nils) [some (.mapD es), some (.cells [.map 0] 28 false)])
    (h1 : ∀ ks : List LinkT, ks ≠ [] → (ks.map LinkT.dv).Perm (es.map (·.1)) → K (.sl 2 0 ks.length none 3) [some (.mapD es), some (.cells [.map 0] 28 false), some (.cells ((flatD LinkT.flat ks).map .dat) 51 true)]) :
    CallA (cx w0) 91 [.func 93 [.ptr 1 0]] [some (.mapD es), some (.cells [.map 0] 28 false)] K := by
  refine CallA.ret ?_
  refine CallA.enter ok (dr (plOf [])) Tryz.func91 Tryz.call91 ?_
  refine call_at [0, 1] (appendSeqLink es hk hlen _ (fun he => ?_) (fun ks hne hp => ?_)) rfl rfl rfl rfl
  · exact leaf [0, 1] _ [some (.mapD es), some (.cells [.map 0] 28 false)] rfl rfl rfl rfl rfl (h0 he)
  · refine leaf_in [0, 1, 2] (.sl 2 0 ks.length none 3) [some (.mapD es), some (.cells [.map 0] 28 false), some (.cells ((flatD LinkT.flat ks).map .dat) 51 true)] rfl rfl rfl rfl (hin_cons rfl (hin_cons rfl (hin_cons (renTs_datC ?_) hin_nil))) ?_
    · simp only [renTs_dat]
    · exact h1 ks hne hp
end Go.Abs.X

namespace Go.Abs.X
open Go.Abs Go Go.Proofs
variable {w0 : World}

set_option maxHeartbeats 1000000 in
theorem appendSeqInt (es : List (DV × DV)) (hk : ∀ e ∈ es, ∃ l : Int, e.1 = i64 l) (hlen : es.length ≤ 1000000) (K : AV → Heap → Prop)
    (h0 : es = [] → K (.dat .nils) [some (.mapD es), some (.cells [.map 0] 105 false)])
    (h1 : ∀ ks : List Int, ks ≠ [] → (ks.map i64).Perm (es.map (·.1)) → K (.sl 2 0 ks.length none 1) [some (.mapD es), some (.cells [.map 0] 105 false), some (.cells ((flatD (fun x => [i64 x]) ks).map .dat) 3 true)]) :
    CallA (cx w0) 160 [.dat .nils, .func 141 [.ptr 1 0]] [some (.mapD es), some (.cells [.map 0] 105 false)] K := by
  refine CallA.ret ?_
  refine CallA.overSeq ok (dr (plOf [])) Tryz.func160 Tryz.call160 rfl rfl rfl ?_
  refine seqA [.dat .nils, .func 141 [.ptr 1 0], .ptr 2 0, .dat (.tup []), .dat .nils, .dat (.tup []), .func 141 [.ptr 1 0], .dat (.tup []), .dat (.tup []), .dat (.tup []), .dat (.tup []), .dat (.tup []), .dat (.tup [])] rfl rfl fun f => ?_
  refine CallA.enter ok (dr (plOf [])) Tryz.func141 Tryz.call141 ?_
  let lp : AB := .lp false f [.dat .nils, .func 141 [.ptr 1 0], .ptr 2 0, .dat (.tup []), .dat .nils, .dat (.tup []), .func 141 [.ptr 1 0], .dat (.tup []), .dat (.tup []), .dat (.tup []), .dat (.tup []), .dat (.tup []), .dat (.tup [])] [7] (asgOf Tryz.f160) (bdyOf Tryz.f160)
  refine rangeM fun bs clk hbl hbp hbc => ?_
  let H : List Nat × List Int × Nat → Heap := fun x => [some (.mapB bs clk (liftE es)), some (.cells [.map 0] 105 false), some (.cells [apSl 1 x.2.2] 39 false), some lp, some (.miter 0 clk x.1)] ++ apBl 3 (flatD (fun x => [i64 x]) x.2.1) x.2.2
  refine loop_in [0, 5] [0, 1, 2, 3, 4] [.yld 3, .ptr 4 0] (H ([], [], 0)) rfl rfl rfl rfl (hin_cons ren_mapB (hin_cons rfl (hin_cons rfl (hin_cons rfl (hin_cons rfl hin_nil))))) ?_
  have hel : bs.length = (liftE es).length := by rw [liftE_length]; exact hbl
  refine loop_ind (fun _ => mkE [0, 5] [.yld 3, .ptr 4 0]) H (fun x => Came bs x.1 ∧ x.2.1.map i64 = (x.1.reverse.filterMap (entB bs (liftE es))).map (·.1) ∧ x.2.1.length = x.2.2 ∧ x.2.2 = x.1.length) (fun x => bs.length - x.1.length) ?_ ([], [], 0) ⟨Came.nil bs, rfl, rfl, rfl⟩
  rintro ⟨seen, ks, n⟩ ⟨came, hks, hlk, hln⟩ ih
  replace hlk : ks.length = n := hlk
  replace hln : n = seen.length := hln
  have key : ∀ b k v, entB bs (liftE es) b = some (k, v) → ∃ x : Int, k = i64 x := fun b k v he => by
    have := (entB_in he).2
    rw [liftE_map, List.mem_map] at this
    obtain ⟨e, he1, he2⟩ := this
    obtain ⟨l, hl⟩ := hk e he1
    cases he2
    exact ⟨l, hl⟩
  have go := fun b (x : Int) v (he : entB bs (liftE es) b = some (i64 x, v)) (hn : b ∉ seen) => ih (b :: seen, ks ++ [x], n + 1) ⟨came.cons he hn, by rw [came_snoc he, List.map_append, List.map_append, ← hks]; rfl, by simp [hlk], by simp [hln]⟩ (by have := (came.cons he hn).le; simp only [List.length_cons] at this ⊢; omega)
  have gol : ∀ b (x : Int) v, entB bs (liftE es) b = some (i64 x, v) → b ∉ seen → n + 1 ≤ 1000000 := fun b x v he hn => by
    have := (came.cons he hn).le; simp only [List.length_cons] at this; omega
  have hpm : (∀ b ∈ bs, b ∈ seen) → (ks.map i64).Perm (es.map (·.1)) := fun hall => by
    have := (came.perm hel hbp hall).map (·.1)
    rw [← hks] at this
    rw [liftE_map, List.map_map] at this
    exact this
  clear ih hks came
  cases n with
  | zero =>
    obtain rfl : ks = [] := List.eq_nil_of_length_eq_zero hlk
    refine loopA_round ok (dr (plOf []) _) ?_
    refine req rfl ?_
    refine nextM (fun b k v he hn => ?_) (fun hall => ?_)
    · obtain ⟨x, rfl⟩ := key b k v he
      refine condA_true rfl ?_
      refine req rfl ?_
      refine optA _ he ?_
      refine yieldA ok (draw := fun _ _ _ _ _ => False) rfl rfl (by decide) rfl rfl ?_
      refine req rfl ?_
      refine appA (by decide) ⟨rfl, allCell_iff.1 rfl, by decide, by decide⟩ ?_
      refine req rfl ?_
      refine condA_false rfl ?_
      refine loop_in [0, 5] [0, 1, 2, 3, 4, 6] [.yld 3, .ptr 4 0] (H (b :: seen, [x], 1)) ?_ ?_ ?_ ?_ ?_ (go b x v he hn)
      · kernel_rfl
      · kernel_rfl
      · kernel_rfl
      · kernel_rfl
      · refine hin_cons ren_mapB ?_
        refine hin_cons (by kernel_rfl) (hin_cons (by kernel_rfl) (hin_cons (by kernel_rfl) (hin_cons (by kernel_rfl) (hin_cons (by kernel_rfl) hin_nil))))
    · refine condA_false rfl ?_
      refine req rfl ?_
      have : es = [] := by
        have := (hpm hall).length_eq
        simp at this
        exact List.eq_nil_of_length_eq_zero this.symm
      refine shift_unBD' 0 es rfl rfl ?_
      exact leaf [0, 1] _ [some (.mapD es), some (.cells [.map 0] 105 false)] rfl rfl rfl rfl rfl (h0 this)
  | succ m =>
    refine loopA_round ok (dr (plOf []) _) ?_
    refine req rfl ?_
    refine nextM (fun b k v he hn => ?_) (fun hall => ?_)
    · obtain ⟨x, rfl⟩ := key b k v he
      have hle := gol b x v he hn
      have go := go b x v he hn
      refine condA_true rfl ?_
      refine req rfl ?_
      refine optA _ he ?_
      refine yieldA ok (draw := fun _ _ _ _ _ => False) rfl rfl (by decide) rfl rfl ?_
      refine req rfl ?_
      refine appA (by decide) ⟨?_, rfl, allCell_iff.1 rfl, ?_, ?_⟩ ?_
      · rw [List.length_map, flatD_length (z := 1) (fun _ => rfl), hlk]
      · show (m + 1 + 1) * 8 ≤ _
        omega
      · show m + 1 + 1 ≤ maxLen
        unfold maxLen; omega
      refine req rfl ?_
      refine condA_false rfl ?_
      refine loop_in [0, 5] [0, 1, 2, 3, 4, 7] [.yld 3, .ptr 4 0] (H (b :: seen, ks ++ [x], m + 1 + 1)) ?_ ?_ ?_ ?_ ?_ go
      · kernel_rfl
      · kernel_rfl
      · kernel_rfl
      · kernel_rfl
      · refine hin_cons ren_mapB ?_
        refine hin_cons (by kernel_rfl) (hin_cons (by kernel_rfl) (hin_cons (by kernel_rfl) (hin_cons (by kernel_rfl) (hin_cons (renTs_datC (by rw [flatD_append, flatD_one, List.map_append]; rfl)) hin_nil))))
    · refine condA_false rfl ?_
      refine req rfl ?_
      refine shift_unBD' 0 es rfl rfl ?_
      refine leaf_in [0, 1, 5] (.sl 2 0 (m + 1) none 1) [some (.mapD es), some (.cells [.map 0] 105 false), some (.cells ((flatD (fun x => [i64 x]) ks).map .dat) 3 true)] rfl rfl rfl rfl (hin_cons rfl (hin_cons rfl (hin_cons (renTs_datC rfl) hin_nil))) ?_
      rw [← hlk]
      exact h1 ks (by intro e; simp [e] at hlk) (hpm hall)

theorem collectInt (es : List (DV × DV)) (hk : ∀ e ∈ es, ∃ l : Int, e.1 = i64 l) (hlen : es.length ≤ 1000000) (K : AV → Heap → Prop)
    (h0 : es = [] → K (.dat .nils) [some (.mapD es), some (.cells [.map 0] 105 false)])
    (h1 : ∀ ks : List Int, ks ≠ [] → (ks.map i64).Perm (es.map (·.1)) → K (.sl 2 0 ks.length none 1) [some (.mapD es), some (.cells [.map 0] 105 false), some (.cells ((flatD (fun x => [i64 x]) ks).map .dat) 3 true)]) :
    CallA (cx w0) 139 [.func 141 [.ptr 1 0]] [some (.mapD es), some (.cells [.map 0] 105 false)] K := by
  refine CallA.ret ?_
  refine CallA.enter ok (dr (plOf [])) Tryz.func139 Tryz.call139 ?_
  refine call_at [0, 1] (appendSeqInt es hk hlen _ (fun he => ?_) (fun ks hne hp => ?_)) rfl rfl rfl rfl
  · exact leaf [0, 1] _ [some (.mapD es), some (.cells [.map 0] 105 false)] rfl rfl rfl rfl rfl (h0 he)
  · refine leaf_in [0, 1, 2] (.sl 2 0 ks.length none 1) [some (.mapD es), some (.cells [.map 0] 105 false), some (.cells ((flatD (fun x => [i64 x]) ks).map .dat) 3 true)] rfl rfl rfl rfl (hin_cons rfl (hin_cons rfl (hin_cons (renTs_datC ?_) hin_nil))) ?_
    · simp only [renTs_dat]
    · exact h1 ks hne hp
end Go.Abs.X

namespace Go.Abs.X
open Go.Abs Go Go.Proofs
variable {w0 : World}

set_option maxHeartbeats 1000000 in
theorem appendSeqStr (es : List (DV × DV)) (hk : ∀ e ∈ es, ∃ l : ByteArray, e.1 = DV.str l) (hlen : es.length ≤ 1000000) (K : AV → Heap → Prop)
    (h0 : es = [] → K (.dat .nils) [some (.mapD es), some (.cells [.map 0] 206 false)])
    (h1 : ∀ ks : List ByteArray, ks ≠ [] → (ks.map DV.str).Perm (es.map (·.1)) → K (.sl 2 0 ks.length none 1) [some (.mapD es), some (.cells [.map 0] 206 false), some (.cells ((flatD (fun x => [DV.str x]) ks).map .dat) 9 true)]) :
    CallA (cx w0) 162 [.dat .nils, .func 144 [.ptr 1 0]] [some (.mapD es), some (.cells [.map 0] 206 false)] K := by
  refine CallA.ret ?_
  refine CallA.overSeq ok (dr (plOf [])) Tryz.func162 Tryz.call162 rfl rfl rfl ?_
  refine seqA [.dat .nils, .func 144 [.ptr 1 0], .ptr 2 0, .dat (.tup []), .dat .nils, .dat (.tup []), .func 144 [.ptr 1 0], .dat (.tup []), .dat (.tup []), .dat (.tup []), .dat (.tup []), .dat (.tup []), .dat (.tup [])] rfl rfl fun f => ?_
  refine CallA.enter ok (dr (plOf [])) Tryz.func144 Tryz.call144 ?_
  let lp : AB := .lp false f [.dat .nils, .func 144 [.ptr 1 0], .ptr 2 0, .dat (.tup []), .dat .nils, .dat (.tup []), .func 144 [.ptr 1 0], .dat (.tup []), .dat (.tup []), .dat (.tup []), .dat (.tup []), .dat (.tup []), .dat (.tup [])] [7] (asgOf Tryz.f162) (bdyOf Tryz.f162)
  refine rangeM fun bs clk hbl hbp hbc => ?_
  let H : List Nat × List ByteArray × Nat → Heap := fun x => [some (.mapB bs clk (liftE es)), some (.cells [.map 0] 206 false), some (.cells [apSl 1 x.2.2] 163 false), some lp, some (.miter 0 clk x.1)] ++ apBl 9 (flatD (fun x => [DV.str x]) x.2.1) x.2.2
  refine loop_in [0, 5] [0, 1, 2, 3, 4] [.yld 3, .ptr 4 0] (H ([], [], 0)) rfl rfl rfl rfl (hin_cons ren_mapB (hin_cons rfl (hin_cons rfl (hin_cons rfl (hin_cons rfl hin_nil))))) ?_
  have hel : bs.length = (liftE es).length := by rw [liftE_length]; exact hbl
  refine loop_ind (fun _ => mkE [0, 5] [.yld 3, .ptr 4 0]) H (fun x => Came bs x.1 ∧ x.2.1.map DV.str = (x.1.reverse.filterMap (entB bs (liftE es))).map (·.1) ∧ x.2.1.length = x.2.2 ∧ x.2.2 = x.1.length) (fun x => bs.length - x.1.length) ?_ ([], [], 0) ⟨Came.nil bs, rfl, rfl, rfl⟩
  rintro ⟨seen, ks, n⟩ ⟨came, hks, hlk, hln⟩ ih
  replace hlk : ks.length = n := hlk
  replace hln : n = seen.length := hln
  have key : ∀ b k v, entB bs (liftE es) b = some (k, v) → ∃ x : ByteArray, k = DV.str x := fun b k v he => by
    have := (entB_in he).2
    rw [liftE_map, List.mem_map] at this
    obtain ⟨e, he1, he2⟩ := this
    obtain ⟨l, hl⟩ := hk e he1
    cases he2
    exact ⟨l, hl⟩
  have go := fun b (x : ByteArray) v (he : entB bs (liftE es) b = some (DV.str x, v)) (hn : b ∉ seen) => ih (b :: seen, ks ++ [x], n + 1) ⟨came.cons he hn, by rw [came_snoc he, List.map_append, List.map_append, ← hks]; rfl, by simp [hlk], by simp [hln]⟩ (by have := (came.cons he hn).le; simp only [List.length_cons] at this ⊢; omega)
  have gol : ∀ b (x : ByteArray) v, entB bs (liftE es) b = some (DV.str x, v) → b ∉ seen → n + 1 ≤ 1000000 := fun b x v he hn => by
    have := (came.cons he hn).le; simp only [List.length_cons] at this; omega
  have hpm : (∀ b ∈ bs, b ∈ seen) → (ks.map DV.str).Perm (es.map (·.1)) := fun hall => by
    have := (came.perm hel hbp hall).map (·.1)
    rw [← hks] at this
    rw [liftE_map, List.map_map] at this
    exact this
  clear ih hks came
  cases n with
  | zero =>
    obtain rfl : ks = [] := List.eq_nil_of_length_eq_zero hlk
    refine loopA_round ok (dr (plOf []) _) ?_
    refine req rfl ?_
    refine nextM (fun b k v he hn => ?_) (fun hall => ?_)
    · obtain ⟨x, rfl⟩ := key b k v he
      refine condA_true rfl ?_
      refine req rfl ?_
      refine optA _ he ?_
      refine yieldA ok (draw := fun _ _ _ _ _ => False) rfl rfl (by decide) rfl rfl ?_
      refine req rfl ?_
      refine appA (by decide) ⟨rfl, allCell_iff.1 rfl, by decide, by decide⟩ ?_
      refine req rfl ?_
      refine condA_false rfl ?_
      refine loop_in [0, 5] [0, 1, 2, 3, 4, 6] [.yld 3, .ptr 4 0] (H (b :: seen, [x], 1)) ?_ ?_ ?_ ?_ ?_ (go b x v he hn)
      · kernel_rfl
      · kernel_rfl
      · kernel_rfl
      · kernel_rfl
      · refine hin_cons ren_mapB ?_
        refine hin_cons (by kernel_rfl) (hin_cons (by kernel_rfl) (hin_cons (by kernel_rfl) (hin_cons (by kernel_rfl) (hin_cons (by kernel_rfl) hin_nil))))
    · refine condA_false rfl ?_
      refine req rfl ?_
      have : es = [] := by
        have := (hpm hall).length_eq
        simp at this
        exact List.eq_nil_of_length_eq_zero this.symm
      refine shift_unBD' 0 es rfl rfl ?_
      exact leaf [0, 1] _ [some (.mapD es), some (.cells [.map 0] 206 false)] rfl rfl rfl rfl rfl (h0 this)
  | succ m =>
    refine loopA_round ok (dr (plOf []) _) ?_
    refine req rfl ?_
    refine nextM (fun b k v he hn => ?_) (fun hall => ?_)
    · obtain ⟨x, rfl⟩ := key b k v he
      have hle := gol b x v he hn
      have go := go b x v he hn
      refine condA_true rfl ?_
      refine req rfl ?_
      refine optA _ he ?_
      refine yieldA ok (draw := fun _ _ _ _ _ => False) rfl rfl (by decide) rfl rfl ?_
      refine req rfl ?_
      refine appA (by decide) ⟨?_, rfl, allCell_iff.1 rfl, ?_, ?_⟩ ?_
      · rw [List.length_map, flatD_length (z := 1) (fun _ => rfl), hlk]
      · show (m + 1 + 1) * 16 ≤ _
        omega
      · show m + 1 + 1 ≤ maxLen
        unfold maxLen; omega
      refine req rfl ?_
      refine condA_false rfl ?_
      refine loop_in [0, 5] [0, 1, 2, 3, 4, 7] [.yld 3, .ptr 4 0] (H (b :: seen, ks ++ [x], m + 1 + 1)) ?_ ?_ ?_ ?_ ?_ go
      · kernel_rfl
      · kernel_rfl
      · kernel_rfl
      · kernel_rfl
      · refine hin_cons ren_mapB ?_
        refine hin_cons (by kernel_rfl) (hin_cons (by kernel_rfl) (hin_cons (by kernel_rfl) (hin_cons (by kernel_rfl) (hin_cons (renTs_datC (by rw [flatD_append, flatD_one, List.map_append]; rfl)) hin_nil))))
    · refine condA_false rfl ?_
      refine req rfl ?_
      refine shift_unBD' 0 es rfl rfl ?_
      refine leaf_in [0, 1, 5] (.sl 2 0 (m + 1) none 1) [some (.mapD es), some (.cells [.map 0] 206 false), some (.cells ((flatD (fun x => [DV.str x]) ks).map .dat) 9 true)] rfl rfl rfl rfl (hin_cons rfl (hin_cons rfl (hin_cons (renTs_datC rfl) hin_nil))) ?_
      rw [← hlk]
      exact h1 ks (by intro e; simp [e] at hlk) (hpm hall)

theorem collectStr (es : List (DV × DV)) (hk : ∀ e ∈ es, ∃ l : ByteArray, e.1 = DV.str l) (hlen : es.length ≤ 1000000) (K : AV → Heap → Prop)
    (h0 : es = [] → K (.dat .nils) [some (.mapD es), some (.cells [.map 0] 206 false)])
    (h1 : ∀ ks : List ByteArray, ks ≠ [] → (ks.map DV.str).Perm (es.map (·.1)) → K (.sl 2 0 ks.length none 1) [some (.mapD es), some (.cells [.map 0] 206 false), some (.cells ((flatD (fun x => [DV.str x]) ks).map .dat) 9 true)]) :
    CallA (cx w0) 142 [.func 144 [.ptr 1 0]] [some (.mapD es), some (.cells [.map 0] 206 false)] K := by
  refine CallA.ret ?_
  refine CallA.enter ok (dr (plOf [])) Tryz.func142 Tryz.call142 ?_
  refine call_at [0, 1] (appendSeqStr es hk hlen _ (fun he => ?_) (fun ks hne hp => ?_)) rfl rfl rfl rfl
  · exact leaf [0, 1] _ [some (.mapD es), some (.cells [.map 0] 206 false)] rfl rfl rfl rfl rfl (h0 he)
  · refine leaf_in [0, 1, 2] (.sl 2 0 ks.length none 1) [some (.mapD es), some (.cells [.map 0] 206 false), some (.cells ((flatD (fun x => [DV.str x]) ks).map .dat) 9 true)] rfl rfl rfl rfl (hin_cons rfl (hin_cons rfl (hin_cons (renTs_datC ?_) hin_nil))) ?_
    · simp only [renTs_dat]
    · exact h1 ks hne hp
end Go.Abs.X

namespace Go.Abs.X
open Go.Abs Go Go.Proofs
variable {w0 : World} {d : Nat}

theorem isNaN_ok (a : Int) (K : AV → Heap → Prop) (hk : K (.dat (.bool false)) []) : CallA (cxd w0 d) 94 [.dat (.int .i64 a)] [] K := by
  refine CallA.enter (okd d) (drd d (plOf [])) Tryz.func94 Tryz.call94 ?_
  suffices h : K (.dat (.bool (a != a))) [] from h
  simpa using hk
def cmpI (a b : Int) : Int := if a < b then -1 else if b < a then 1 else 0
def orI (a b c : Int) : Int := if a ≠ 0 then a else if b ≠ 0 then b else c
theorem or3_ok (a b c : Int) (K : AV → Heap → Prop) (hk : K (.dat (.int .i64 (orI a b c))) []) : CallA (cxd w0 d) 45 [.dat (.ros [.int .i64 a, .int .i64 b, .int .i64 c] 3 (some 3))] [] K := by
  refine CallA.enter (okd d) (drd d (plOf [])) Tryz.func45 Tryz.call45 ?_
  unfold orI at hk
  refine loopA_round (okd d) (drd d (plOf []) _) ?_
  refine condA_true rfl ?_
  refine req (by decide) ?_
  refine optA _ rfl ?_
  by_cases h1 : a ≠ 0
  · rw [if_pos h1] at hk
    refine condA_true (by simpa using h1) ?_
    exact hk
  rw [if_neg h1] at hk
  refine condA_false (by simpa using h1) ?_
  refine loopA_round (okd d) (drd d (plOf []) _) ?_
  refine condA_true rfl ?_
  refine req (by decide) ?_
  refine optA _ rfl ?_
  by_cases h2 : b ≠ 0
  · rw [if_pos h2] at hk
    refine condA_true (by simpa using h2) ?_
    exact hk
  rw [if_neg h2] at hk
  refine condA_false (by simpa using h2) ?_
  refine loopA_round (okd d) (drd d (plOf []) _) ?_
  refine condA_true rfl ?_
  refine req (by decide) ?_
  refine optA _ rfl ?_
  by_cases h3 : c ≠ 0
  · refine condA_true (by simpa using h3) ?_
    exact hk
  refine condA_false (by simpa using h3) ?_
  refine loopA_round (okd d) (drd d (plOf []) _) ?_
  refine condA_false rfl ?_
  obtain rfl : c = 0 := by simpa using h3
  exact hk
theorem compare_ok (a b : Int) (K : AV → Heap → Prop) (hk : K (.dat (.int .i64 (cmpI a b))) []) : CallA (cxd w0 d) 46 [.dat (.int .i64 a), .dat (.int .i64 b)] [] K := by
  refine CallA.ret ?_
  refine CallA.enter (okd d) (drd d (plOf [])) Tryz.func46 Tryz.call46 ?_
  have fin : ∀ n, cmpI a b = n → K (.dat (.int .i64 n)) [] := fun n h => h ▸ hk
  refine call_at [] (isNaN_ok a _ ?_) rfl rfl rfl rfl
  refine call_at [] (isNaN_ok b _ ?_) rfl rfl rfl rfl
  refine condA_false rfl ?_
  refine condA_false rfl ?_
  by_cases h1 : a < b
  · refine condA_true (by simpa using h1) ?_
    exact leaf [] _ [] rfl rfl rfl rfl rfl (fin (-1) (by simp [cmpI, h1]))
  refine condA_false (by simpa using h1) ?_
  by_cases h2 : b < a
  · refine condA_true (by simpa using h2) ?_
    exact leaf [] _ [] rfl rfl rfl rfl rfl (fin 1 (by simp [cmpI, h1, h2]))
  refine condA_false (by simpa using h2) ?_
  exact leaf [] _ [] rfl rfl rfl rfl rfl (fin 0 (by simp [cmpI, h1, h2]))
def cmpL (x y : LinkT) : Int := orI (cmpI x.who y.who) (cmpI x.peer y.peer) (cmpI x.n y.n)
theorem linksCmp_ok (x y : LinkT) (K : AV → Heap → Prop) (hk : K (.dat (.int .i64 (cmpL x y))) []) : CallA (cxd w0 d) 44 [.dat x.dv, .dat y.dv] [] K := by
  refine CallA.ret ?_
  refine CallA.enter (okd d) (drd d (plOf pl44)) Tryz.func44 Tryz.call44 ?_
  refine req (by decide +kernel) ?_
  refine call_at [] (compare_ok x.who y.who _ ?_) rfl rfl rfl rfl
  repeat refine eqA ?_
  refine call_at [] (compare_ok x.peer y.peer _ ?_) rfl rfl rfl rfl
  repeat refine eqA ?_
  refine call_at [] (compare_ok x.n y.n _ ?_) rfl rfl rfl rfl
  repeat refine eqA ?_
  refine CallA.shift (shift_frz' 2 [.int .i64 (cmpI x.who y.who), .int .i64 (cmpI x.peer y.peer), .int .i64 (cmpI x.n y.n)] rfl rfl (shift_id ?_))
  refine call_at [] (or3_ok (cmpI x.who y.who) (cmpI x.peer y.peer) (cmpI x.n y.n) _ ?_) rfl rfl rfl rfl
  repeat refine eqA ?_
  exact leaf [] _ [] rfl rfl rfl rfl rfl hk
theorem cmpL_lt (x y : LinkT) : cmpL x y < 0 ↔ x.who < y.who ∨ x.who = y.who ∧ (x.peer < y.peer ∨ x.peer = y.peer ∧ x.n < y.n) := by
  unfold cmpL orI cmpI
  repeat' split
  all_goals omega
end Go.Abs.X

namespace Go.Abs
open Go.RowKit Go.Sort

/-- A contract over no heap, at a world that is begun with. -/
theorem calls_of_callA {cx : Cx} {W : World} (hw : cx.w0 = W) (hd : cx.d ≤ W.drawn) (hg : ∀ g, cx.Γ g = none) {f : Nat} {args : List DV} {vs : Array Value} (hl : args.length = vs.size)
    (hr : RelDs (fun n => n < W.heap.size) W args vs.toList) {K : AV → Heap → Prop} (c : CallA cx f (args.map .dat) [] K) :
    Calls cx.P f vs W fun e w' => ∃ v a h' s', e = .returned v ∧ K a h' ∧ Rel s' a v ∧ s'.w = w' ∧ Below W.heap.size W w' ∧ cx.d ≤ w'.drawn := by
  let s : Wd := ⟨fun _ => none, fun n => n < W.heap.size, W⟩
  have sat : Sat cx.toGl [] s := by
    refine ⟨fun i b hb => by simp [hget] at hb, fun i j n hi => by simp [hget] at hi, fun _ _ => rfl, fun n hn => hn, fun g cs h => (by rw [hg g] at h; cases h), hd, ⟨?_, fun n hn => ?_⟩⟩
    · rw [hw]; exact Below.refl _ _
    · rw [hw] at hn; exact hn
  obtain ⟨_, h2⟩ := c.run s vs sat (by simpa using hl) (rels_dat.2 hr)
  refine h2.mono fun e w' ⟨v, he, a, h', s', hw', hk, hrel, sat', ext⟩ => ⟨v, a, h', s', he, hk, hrel, hw', ?_, ?_⟩
  · have := sat'.old.b
    rw [hw', hw] at this; exact this
  · rw [← hw']; exact sat'.dr
theorem grow_of {W w' : World} (hb : Below W.heap.size W w') (hd : W.drawn ≤ w'.drawn) : ∃ q os, w' = grow (W.drewN q) os := by
  refine ⟨w'.drawn - W.drawn, w'.heap.extract W.heap.size w'.heap.size, ?_⟩
  have hh : w'.heap = W.heap ++ w'.heap.extract W.heap.size w'.heap.size := by
    apply Array.ext_getElem?
    intro k
    rcases Nat.lt_or_ge k W.heap.size with hk | hk
    · rw [Array.getElem?_append_left hk]; exact hb.block k hk
    · rw [Array.getElem?_append_right hk, Array.getElem?_extract]
      split
      · congr 1; omega
      · exact Array.getElem?_eq_none (by omega)
  obtain ⟨h, t, d, os, o⟩ := w'
  simp only [grow, World.drewN]
  simp only at hh hd
  have h1 := hb.os; have h2 := hb.tape; have h3 := hb.output
  simp only at h1 h2 h3
  subst h1 h2 h3
  congr 1
  omega

/-- A value that data stands for, if it is plain. -/
def valD : DV → Value
  | .int k n => .int k n
  | .bool b => .bool b
  | .str s => .string s
  | _ => undef
def plainD : DV → Bool
  | .int _ _ | .bool _ | .str _ => true
  | _ => false
theorem relD_val {I : Nat → Prop} {w : World} {d : DV} {v : Value} (hp : plainD d = true) : RelD I w d v ↔ v = valD d := by
  cases d <;> simp_all [plainD, RelD, valD]
theorem relDs_vals {I : Nat → Prop} {w : World} : ∀ {ds : List DV} {l : List Value}, (∀ d ∈ ds, plainD d = true) → RelDs I w ds l → l.take ds.length = ds.map valD
  | [], _, _, _ => by simp
  | d :: r, [], _, h => by simp [RelDs] at h
  | d :: r, v :: l, hp, h => by
    simp only [RelDs] at h
    simp only [List.length_cons, List.take_succ_cons, List.map_cons]
    rw [(relD_val (hp d (by simp))).1 h.1, relDs_vals (fun x hx => hp x (by simp [hx])) h.2]
theorem relDs_of_vals {I : Nat → Prop} {w : World} : ∀ {ds : List DV} {l : List Value}, (∀ d ∈ ds, plainD d = true) → RelDs I w ds (ds.map valD ++ l)
  | [], _, _ => by simp [RelDs]
  | d :: r, l, hp => by
    simp only [List.map_cons, List.cons_append, RelDs]
    exact ⟨(relD_val (hp d (by simp))).2 rfl, relDs_of_vals fun x hx => hp x (by simp [hx])⟩

theorem putCells_list {α : Type} [Inhabited α] (enc : α → Value) (d : Array α) (c : Array Value) (h : d.size ≤ c.size) : (putCells enc 0 d c).toList = d.toList.map enc ++ c.toList.drop d.size := by
  apply List.ext_getElem?
  intro k
  simp only [putCells, Array.getElem?_toList, Array.getElem?_mapIdx, Nat.zero_le, true_and, Nat.zero_add, Nat.sub_zero]
  rcases Nat.lt_or_ge k d.size with hk | hk
  · rw [List.getElem?_append_left (by simpa using hk)]
    have : k < c.size := by omega
    simp [hk, this]
  · rw [List.getElem?_append_right (by simpa using hk)]
    simp only [List.length_map, Array.length_toList, List.getElem?_drop, Array.getElem?_toList, show ¬ k < d.size from by omega, if_false, Option.map_id']
    rw [show d.size + (k - d.size) = k from by omega]

/-- A row of one's own whose head was laid anew; blocks behind, draws. -/
theorem post_row {γ : Gl} {h : Heap} {s : Wd} (sat : Sat γ h s) {i n e : Nat} {cs : List AV} (hb : hget h i = some (.cells cs e true)) (hρ : s.ρ i = some n) {c : Array Value} (hn : s.w.heap[n]? = some (.cells c e (0, 0)))
    {α : Type} [Inhabited α] (enc : α → Value) (d : Array α) (ds : List DV) (hp : ∀ x ∈ ds, plainD x = true) (hd : d.toList.map enc = ds.map valD) (hl : d.size ≤ c.size) (m : Nat) (os : Array Obj) :
    Sat γ (hset h i (some (.cells (ds.map .dat) e true))) ⟨s.ρ, s.I, grow (putRow enc (Sort.ahead s.w m) n 0 d) os⟩ ∧ Ext h s (hset h i (some (.cells (ds.map .dat) e true))) ⟨s.ρ, s.I, grow (putRow enc (Sort.ahead s.w m) n 0 d) os⟩ := by
  have hlt := (Array.getElem?_eq_some_iff.1 hn).1
  let c' := putCells enc 0 d c
  let o' : Obj := .cells c' e (0, 0)
  have hsz : c'.size = c.size := by simp [c', putCells]
  have hrow : SameRow (.cells c e (0, 0)) o' := sameRow hsz
  have hc' : RelDs s.I s.w ds c'.toList := by
    show RelDs s.I s.w ds (putCells enc 0 d c).toList
    rw [putCells_list enc d c hl, hd]; exact relDs_of_vals hp
  have s1 := sat_put sat hb hρ hn (.cells (ds.map .dat) e true) o' hrow ⟨c', rfl, rels_dat.2 hc', by simp⟩
  have e1 := ext_put hb hρ hn (some (.cells (ds.map .dat) e true)) o' hrow
  have hb2 : Below (wput s.w n o').heap.size (wput s.w n o') (grow (putRow enc (Sort.ahead s.w m) n 0 d) os) := by
    refine ⟨rfl, rfl, rfl, ?_, fun k hk => ?_⟩
    · simp [grow, putRow, mapBlock, Sort.ahead]
    · have hk' : k < s.w.heap.size := by simpa using hk
      show ((s.w.heap.modify n (onCells (putCells enc 0 d))) ++ os)[k]? = _
      rw [Array.getElem?_append_left (by simpa using hk'), wput_get _ _ _ _ hlt, Array.getElem?_modify]
      by_cases e : n = k
      · subst e; simp [hn, onCells, o', c']
      · rw [if_neg e, if_neg (Ne.symm e)]
  obtain ⟨s2, e2⟩ := sat_below s1 hb2 (Nat.le_trans sat.dr (by show _ ≤ s.w.drawn + m; omega))
  exact ⟨s2, e1.trans e2⟩
theorem holds_row {s : Wd} {n e : Nat} {c : Array Value} (hn : s.w.heap[n]? = some (.cells c e (0, 0))) {α : Type} [Inhabited α] (enc : α → Value) (d : Array α) {ds : List DV} (hp : ∀ x ∈ ds, plainD x = true) (hd : d.toList.map enc = ds.map valD) (hr : RelDs s.I s.w ds c.toList) :
    Holds enc s.w n 0 d ∧ d.size ≤ c.size := by
  have hv := relDs_vals hp hr
  rw [← hd] at hv
  have hlen : d.size ≤ c.size := by
    have h1 := congrArg List.length hd
    have h2 := relDs_length hr
    simp at h1
    have h3 : ds.length ≤ c.size := by simpa using h2
    omega
  refine ⟨fun j hj => ?_, hlen⟩
  have hc : c[j]? = some (enc d[j]!) := by
    have h0 : ds.length = d.size := by have := congrArg List.length hd; simpa using this.symm
    have := congrArg (fun l => l[j]?) hv
    simp only [List.getElem?_map, Array.getElem?_toList] at this
    rw [List.getElem?_take_of_lt (by omega), Array.getElem?_toList] at this
    rw [this]
    simp [hj]
  constructor
  · simp only [World.cell?, hn, Nat.zero_add]
    simpa using hc
  · simp [World.frozen?, hn]
end Go.Abs

/-
  DERIVED: THE SHELF's CONTRACTS AT THIS DUMP, IN PLAIN WORDS (tools/lay-plain.mjs out of 'TryzShelf.lean', which tools/lay-shelf.mjs wrote): THE SAME DECLARATIONS UNDER THE SAME NAMES: 'import', 'namespace', 'open', 'def', 'theorem' AND NOTHING ELSE: no command of the shelf's: FOR A HAND-IN. Each laying: the table of numbers ('.._ren') and one theorem, a field a fact of the dump's own or the kernel's comparison; each contract: ONE APPLICATION.
-/
namespace Go.Proofs
open Go.Shelf
def Tryz.lays169_ren : Go.Shelf.Ren := ⟨fun | 169 => 115 | n => n, fun | 70 => 138 | 9 => 9 | 0 => 0 | 72 => 141 | 37 => 139 | 127 => 221 | 3 => 3 | 5 => 5 | n => n, fun | n => n⟩
theorem Tryz.lays169 : Go.Proofs.Lays.n169 Tryz.prog Tryz.lays169_ren := {
  mixed := by kernel_rfl
  f169 := Tryz.func115.trans (congrArg some (by kernel_rfl))
  t0 := Tryz.underlying0
  a0 := Tryz.isAgg0
  z0 := Tryz.sizeOf0
  v0 := Tryz.zeroValue0
  t3 := Tryz.underlying3
  a3 := Tryz.isAgg3
  z3 := Tryz.sizeOf3
  v3 := Tryz.zeroValue3
  t9 := Tryz.underlying9
  a9 := Tryz.isAgg9
  z9 := Tryz.sizeOf9
  v9 := Tryz.zeroValue9
  t37 := Tryz.underlying139
  a37 := Tryz.isAgg139
  z37 := Tryz.sizeOf139
  v37 := Tryz.zeroValue139
  t70 := Tryz.underlying138
  a70 := Tryz.isAgg138
  z70 := Tryz.sizeOf138
  v70 := Tryz.zeroValue138
  t72 := Tryz.underlying141
  a72 := Tryz.isAgg141
  z72 := Tryz.sizeOf141
  v72 := Tryz.zeroValue141
  t127 := Tryz.underlying221
  a127 := Tryz.isAgg221
  z127 := Tryz.sizeOf221
  v127 := Tryz.zeroValue221 }
theorem Tryz.Builder_Extra_169 : Builder.Extra Tryz.prog Tryz.lays169_ren := {
  sizeBuilder := by kernel_rfl
  liesBuilder := by kernel_rfl
  t5 := Tryz.underlying5
  a5 := Tryz.isAgg5
  z5 := Tryz.sizeOf5
  v5 := Tryz.zeroValue5
  infoByte := by kernel_rfl
  cellsByte := by kernel_rfl
  sizeByte := by kernel_rfl
  neB5 := by decide }
open Go.RowKit in
/-- (*strings.Builder).String: "String returns the accumulated string.": WHATEVER THE BUILDER HOLDS; THE FORM '_k': OVER 'Lib.IsBuilderF' (a builder that 'String()' may have read), AND WITH THE FRAME THAT REACHES ABOVE THE BUILDER: 'Lib.OthersKept': every block that is not b and is no row of uint8's stands as it stood: the iterator of a range among them. (LAID: no walk: one application.) -/
theorem Tryz.Builder_String_any_k (B b : Nat) (l : List UInt8) (w : World) (h : Lib.IsBuilderF 141 5 B b (Lib.byteCells l) w) (hBw : B ≤ w.heap.size) :
    Calls Tryz.prog 115 #[.pointer (some ⟨b, 0, none⟩)] w fun e w' => e = .returned (.string ⟨l.toArray⟩) ∧ (Lib.IsBuilderF 141 5 B b (Lib.byteCells l) w' ∧ Below B w w' ∧ Lib.OthersKept 5 (some b) w w') := Any.Builder_String_any_k Tryz.lays169 Tryz.Builder_Extra_169 B b l w h hBw
def Tryz.lays99_ren : Go.Shelf.Ren := ⟨fun | 99 => 120 | 206 => 138 | n => n, fun | 9 => 9 | 4 => 4 | 3 => 3 | n => n, fun | n => n⟩
theorem Tryz.lays99 : Go.Proofs.Lays.n99 Tryz.prog Tryz.lays99_ren := {
  mixed := by kernel_rfl
  f99 := Tryz.func120.trans (congrArg some (by kernel_rfl))
  f206 := Tryz.func138.trans (congrArg some (by kernel_rfl))
  t3 := Tryz.underlying3
  a3 := Tryz.isAgg3
  z3 := Tryz.sizeOf3
  v3 := Tryz.zeroValue3
  t4 := Tryz.underlying4
  a4 := Tryz.isAgg4
  z4 := Tryz.sizeOf4
  v4 := Tryz.zeroValue4
  t9 := Tryz.underlying9
  a9 := Tryz.isAgg9
  z9 := Tryz.sizeOf9
  v9 := Tryz.zeroValue9 }
open Go.RowKit Go.Lib in
/-- strings.HasPrefix: "HasPrefix reports whether the string s begins with prefix.": IT RETURNS 'Lib.hasPrefix s prefix'; the world is as it was. (LAID: no walk: one application.) -/
theorem Tryz.strings_HasPrefix (s p : ByteArray) (w : World) :
    Calls Tryz.prog 120 #[.string s, .string p] w fun e w' => e = .returned (.bool (Lib.hasPrefix s.data.toList p.data.toList)) ∧ w' = w := Any.strings_HasPrefix Tryz.lays99 s p w
def Tryz.lays198_ren : Go.Shelf.Ren := ⟨fun | 198 => 137 | 261 => 159 | 311 => 171 | 312 => 172 | n => n, fun | 21 => 21 | 4 => 4 | 141 => 241 | 0 => 0 | 196 => 258 | 193 => 255 | 3 => 3 | 51 => 54 | 198 => 260 | 49 => 87 | 194 => 256 | 201 => 263 | 226 => 280 | 46 => 132 | 227 => 281 | n => n, fun | 5 => 2 | n => n⟩
theorem Tryz.lays198 : Go.Proofs.Lays.n198 Tryz.prog Tryz.lays198_ren := {
  mixed := by kernel_rfl
  f198 := Tryz.func137.trans (congrArg some (by kernel_rfl))
  f261 := Tryz.func159.trans (congrArg some (by kernel_rfl))
  f311 := Tryz.func171.trans (congrArg some (by kernel_rfl))
  f312 := Tryz.func172.trans (congrArg some (by kernel_rfl))
  t0 := Tryz.underlying0
  a0 := Tryz.isAgg0
  z0 := Tryz.sizeOf0
  v0 := Tryz.zeroValue0
  t3 := Tryz.underlying3
  a3 := Tryz.isAgg3
  z3 := Tryz.sizeOf3
  v3 := Tryz.zeroValue3
  t4 := Tryz.underlying4
  a4 := Tryz.isAgg4
  z4 := Tryz.sizeOf4
  v4 := Tryz.zeroValue4
  t21 := Tryz.underlying21
  a21 := Tryz.isAgg21
  z21 := Tryz.sizeOf21
  v21 := Tryz.zeroValue21
  t46 := Tryz.underlying132
  a46 := Tryz.isAgg132
  z46 := Tryz.sizeOf132
  v46 := Tryz.zeroValue132
  t49 := Tryz.underlying87
  a49 := Tryz.isAgg87
  z49 := Tryz.sizeOf87
  v49 := Tryz.zeroValue87
  t51 := Tryz.underlying54
  a51 := Tryz.isAgg54
  z51 := Tryz.sizeOf54
  v51 := Tryz.zeroValue54
  t141 := Tryz.underlying241
  a141 := Tryz.isAgg241
  z141 := Tryz.sizeOf241
  v141 := Tryz.zeroValue241
  t193 := Tryz.underlying255
  a193 := Tryz.isAgg255
  z193 := Tryz.sizeOf255
  v193 := Tryz.zeroValue255
  t194 := Tryz.underlying256
  a194 := Tryz.isAgg256
  z194 := Tryz.sizeOf256
  v194 := Tryz.zeroValue256
  t196 := Tryz.underlying258
  a196 := Tryz.isAgg258
  z196 := Tryz.sizeOf258
  v196 := Tryz.zeroValue258
  t198 := Tryz.underlying260
  a198 := Tryz.isAgg260
  z198 := Tryz.sizeOf260
  v198 := Tryz.zeroValue260
  t201 := Tryz.underlying263
  a201 := Tryz.isAgg263
  z201 := Tryz.sizeOf263
  v201 := Tryz.zeroValue263
  t226 := Tryz.underlying280
  a226 := Tryz.isAgg280
  z226 := Tryz.sizeOf280
  v226 := Tryz.zeroValue280
  t227 := Tryz.underlying281
  a227 := Tryz.isAgg281
  z227 := Tryz.sizeOf281
  v227 := Tryz.zeroValue281
  g5 := by kernel_rfl }
def Tryz.lays204_ren : Go.Shelf.Ren := ⟨fun | 204 => 128 | 262 => 146 | 313 => 165 | 274 => 191 | 275 => 192 | n => n, fun | 21 => 21 | 4 => 4 | 3 => 3 | 162 => 248 | 203 => 246 | 160 => 275 | 46 => 132 | 0 => 0 | 208 => 289 | 51 => 54 | 206 => 287 | n => n, fun | 13 => 3 | n => n⟩
theorem Tryz.lays204 : Go.Proofs.Lays.n204 Tryz.prog Tryz.lays204_ren := {
  mixed := by kernel_rfl
  f204 := Tryz.func128.trans (congrArg some (by kernel_rfl))
  f262 := Tryz.func146.trans (congrArg some (by kernel_rfl))
  f274 := Tryz.func191.trans (congrArg some (by kernel_rfl))
  f275 := Tryz.func192.trans (congrArg some (by kernel_rfl))
  f313 := Tryz.func165.trans (congrArg some (by kernel_rfl))
  t0 := Tryz.underlying0
  a0 := Tryz.isAgg0
  z0 := Tryz.sizeOf0
  v0 := Tryz.zeroValue0
  t3 := Tryz.underlying3
  a3 := Tryz.isAgg3
  z3 := Tryz.sizeOf3
  v3 := Tryz.zeroValue3
  t4 := Tryz.underlying4
  a4 := Tryz.isAgg4
  z4 := Tryz.sizeOf4
  v4 := Tryz.zeroValue4
  t21 := Tryz.underlying21
  a21 := Tryz.isAgg21
  z21 := Tryz.sizeOf21
  v21 := Tryz.zeroValue21
  t46 := Tryz.underlying132
  a46 := Tryz.isAgg132
  z46 := Tryz.sizeOf132
  v46 := Tryz.zeroValue132
  t51 := Tryz.underlying54
  a51 := Tryz.isAgg54
  z51 := Tryz.sizeOf54
  v51 := Tryz.zeroValue54
  t160 := Tryz.underlying275
  a160 := Tryz.isAgg275
  z160 := Tryz.sizeOf275
  v160 := Tryz.zeroValue275
  t162 := Tryz.underlying248
  a162 := Tryz.isAgg248
  z162 := Tryz.sizeOf248
  v162 := Tryz.zeroValue248
  t203 := Tryz.underlying246
  a203 := Tryz.isAgg246
  z203 := Tryz.sizeOf246
  v203 := Tryz.zeroValue246
  t206 := Tryz.underlying287
  a206 := Tryz.isAgg287
  z206 := Tryz.sizeOf287
  v206 := Tryz.zeroValue287
  t208 := Tryz.underlying289
  a208 := Tryz.isAgg289
  z208 := Tryz.sizeOf289
  v208 := Tryz.zeroValue289
  g13 := by kernel_rfl }
def Tryz.lays200_ren : Go.Shelf.Ren := ⟨fun | 200 => 136 | 261 => 159 | 311 => 171 | 312 => 172 | n => n, fun | 21 => 21 | 4 => 4 | 51 => 54 | 5 => 5 | 119 => 239 | 0 => 0 | 141 => 241 | 196 => 258 | 193 => 255 | 3 => 3 | 198 => 260 | 49 => 87 | 194 => 256 | 201 => 263 | 226 => 280 | 46 => 132 | 227 => 281 | n => n, fun | 7 => 0 | 8 => 1 | n => n⟩
theorem Tryz.lays200 : Go.Proofs.Lays.n200 Tryz.prog Tryz.lays200_ren := {
  mixed := by kernel_rfl
  f200 := Tryz.func136.trans (congrArg some (by kernel_rfl))
  f261 := Tryz.func159.trans (congrArg some (by kernel_rfl))
  f311 := Tryz.func171.trans (congrArg some (by kernel_rfl))
  f312 := Tryz.func172.trans (congrArg some (by kernel_rfl))
  t0 := Tryz.underlying0
  a0 := Tryz.isAgg0
  z0 := Tryz.sizeOf0
  v0 := Tryz.zeroValue0
  t3 := Tryz.underlying3
  a3 := Tryz.isAgg3
  z3 := Tryz.sizeOf3
  v3 := Tryz.zeroValue3
  t4 := Tryz.underlying4
  a4 := Tryz.isAgg4
  z4 := Tryz.sizeOf4
  v4 := Tryz.zeroValue4
  t5 := Tryz.underlying5
  a5 := Tryz.isAgg5
  z5 := Tryz.sizeOf5
  v5 := Tryz.zeroValue5
  t21 := Tryz.underlying21
  a21 := Tryz.isAgg21
  z21 := Tryz.sizeOf21
  v21 := Tryz.zeroValue21
  t46 := Tryz.underlying132
  a46 := Tryz.isAgg132
  z46 := Tryz.sizeOf132
  v46 := Tryz.zeroValue132
  t49 := Tryz.underlying87
  a49 := Tryz.isAgg87
  z49 := Tryz.sizeOf87
  v49 := Tryz.zeroValue87
  t51 := Tryz.underlying54
  a51 := Tryz.isAgg54
  z51 := Tryz.sizeOf54
  v51 := Tryz.zeroValue54
  t119 := Tryz.underlying239
  a119 := Tryz.isAgg239
  z119 := Tryz.sizeOf239
  t141 := Tryz.underlying241
  a141 := Tryz.isAgg241
  z141 := Tryz.sizeOf241
  v141 := Tryz.zeroValue241
  t193 := Tryz.underlying255
  a193 := Tryz.isAgg255
  z193 := Tryz.sizeOf255
  v193 := Tryz.zeroValue255
  t194 := Tryz.underlying256
  a194 := Tryz.isAgg256
  z194 := Tryz.sizeOf256
  v194 := Tryz.zeroValue256
  t196 := Tryz.underlying258
  a196 := Tryz.isAgg258
  z196 := Tryz.sizeOf258
  v196 := Tryz.zeroValue258
  t198 := Tryz.underlying260
  a198 := Tryz.isAgg260
  z198 := Tryz.sizeOf260
  v198 := Tryz.zeroValue260
  t201 := Tryz.underlying263
  a201 := Tryz.isAgg263
  z201 := Tryz.sizeOf263
  v201 := Tryz.zeroValue263
  t226 := Tryz.underlying280
  a226 := Tryz.isAgg280
  z226 := Tryz.sizeOf280
  v226 := Tryz.zeroValue280
  t227 := Tryz.underlying281
  a227 := Tryz.isAgg281
  z227 := Tryz.sizeOf281
  v227 := Tryz.zeroValue281
  g7 := by kernel_rfl
  g8 := by kernel_rfl }
open Go.RowKit Go.Lib in
theorem Tryz.unicode_ToLower_laid (r : Int) (w : World) (hV : CaseVar 3 caseA w) :
    Calls Tryz.prog 128 #[.int .i32 r] w fun e w' => e = .returned (.int .i32 (toLowerU r)) ∧ ∃ q, w' = w.drewN q := Any.unicode_ToLower_laid Tryz.lays204 r w hV
open Go.RowKit Go.Lib in
/-- unicode.IsLetter(r) AT EVERY int32, over whatever table the variable unicode.Letter leads to. (LAID: no walk: one application.) -/
theorem Tryz.unicode_IsLetter_any (T : RTab) (r : Int) (w : World) (hlo : -2147483648 ≤ r) (hhi : r ≤ 2147483647) (htab : Lib.TabIs Tryz.prog w "unicode.properties" .u8 Lib.propertiesTab) (hV : RVar 1 T w) (hok : RTabOk T) :
    Calls Tryz.prog 136 #[.int .i32 r] w fun e w' => e = .returned (.bool (if latin1 r then isLetterL r else exclGo T r)) ∧ Below w.heap.size w w' := Any.unicode_IsLetter_any Tryz.lays200 (by kernel_rfl) T r w hlo hhi htab hV hok
open Go.RowKit Go.Lib in
/-- unicode.IsDigit(r) AT EVERY int32, over whatever table the variable unicode.Digit leads to. (LAID: no walk: one application.) -/
theorem Tryz.unicode_IsDigit_any (T : RTab) (r : Int) (w : World) (hlo : -2147483648 ≤ r) (hhi : r ≤ 2147483647) (hV : RVar 2 T w) (hok : RTabOk T) :
    Calls Tryz.prog 137 #[.int .i32 r] w fun e w' => e = .returned (.bool (if r ≤ 255 then isDigitL r else exclGo T r)) ∧ Below w.heap.size w w' := Any.unicode_IsDigit_any Tryz.lays198 T r w hlo hhi hV hok
def Tryz.laysSlM5_f140_ren : Go.Shelf.Ren := ⟨fun | 5 => 140 | 8 => 131 | 7 => 161 | 19 => 155 | 20 => 156 | 10 => 173 | 11 => 174 | 12 => 175 | 13 => 176 | 14 => 177 | 15 => 178 | 16 => 179 | 17 => 180 | 18 => 181 | 30 => 194 | 31 => 167 | 32 => 168 | 33 => 195 | 34 => 196 | 35 => 94 | 40 => 201 | n => n, fun | 23 => 39 | 25 => 3 | 3 => 3 | 32 => 132 | 22 => 39 | 0 => 0 | 44 => 54 | 46 => 186 | 4 => 4 | 36 => 229 | 35 => 228 | 41 => 233 | 5 => 5 | 9 => 9 | 53 => 249 | 57 => 253 | 63 => 278 | 64 => 179 | n => n, fun | n => n⟩
theorem Tryz.laysSlM5_f140 : Go.Proofs.SlLaysM.n5 Tryz.prog Tryz.laysSlM5_f140_ren := {
  mixed := by kernel_rfl
  f5 := ⟨Tryz.f140.name, by decide, Tryz.func140.trans (congrArg some (by kernel_rfl))⟩
  f7 := ⟨Tryz.f161.name, by decide, Tryz.func161.trans (congrArg some (by kernel_rfl))⟩
  f8 := Tryz.func131.trans (congrArg some (by kernel_rfl))
  f10 := ⟨Tryz.f173.name, by decide, Tryz.func173.trans (congrArg some (by kernel_rfl))⟩
  f11 := ⟨Tryz.f174.name, by decide, Tryz.func174.trans (congrArg some (by kernel_rfl))⟩
  f12 := ⟨Tryz.f175.name, by decide, Tryz.func175.trans (congrArg some (by kernel_rfl))⟩
  f13 := ⟨Tryz.f176.name, by decide, Tryz.func176.trans (congrArg some (by kernel_rfl))⟩
  f14 := ⟨Tryz.f177.name, by decide, Tryz.func177.trans (congrArg some (by kernel_rfl))⟩
  f15 := ⟨Tryz.f178.name, by decide, Tryz.func178.trans (congrArg some (by kernel_rfl))⟩
  f16 := ⟨Tryz.f179.name, by decide, Tryz.func179.trans (congrArg some (by kernel_rfl))⟩
  f17 := ⟨Tryz.f180.name, by decide, Tryz.func180.trans (congrArg some (by kernel_rfl))⟩
  f18 := ⟨Tryz.f181.name, by decide, Tryz.func181.trans (congrArg some (by kernel_rfl))⟩
  f19 := Tryz.func155.trans (congrArg some (by kernel_rfl))
  f20 := Tryz.func156.trans (congrArg some (by kernel_rfl))
  f30 := ⟨Tryz.f194.name, by decide, Tryz.func194.trans (congrArg some (by kernel_rfl))⟩
  f31 := Tryz.func167.trans (congrArg some (by kernel_rfl))
  f32 := Tryz.func168.trans (congrArg some (by kernel_rfl))
  f33 := ⟨Tryz.f195.name, by decide, Tryz.func195.trans (congrArg some (by kernel_rfl))⟩
  f34 := ⟨Tryz.f196.name, by decide, Tryz.func196.trans (congrArg some (by kernel_rfl))⟩
  f35 := ⟨Tryz.f94.name, by decide, Tryz.func94.trans (congrArg some (by kernel_rfl))⟩
  f40 := ⟨Tryz.f201.name, by decide, Tryz.func201.trans (congrArg some (by kernel_rfl))⟩
  t0 := Tryz.underlying0
  a0 := Tryz.isAgg0
  z0 := Tryz.sizeOf0
  v0 := Tryz.zeroValue0
  t3 := Tryz.underlying3
  a3 := Tryz.isAgg3
  z3 := Tryz.sizeOf3
  v3 := Tryz.zeroValue3
  t4 := Tryz.underlying4
  a4 := Tryz.isAgg4
  z4 := Tryz.sizeOf4
  v4 := Tryz.zeroValue4
  t5 := Tryz.underlying5
  a5 := Tryz.isAgg5
  z5 := Tryz.sizeOf5
  v5 := Tryz.zeroValue5
  t9 := Tryz.underlying9
  a9 := Tryz.isAgg9
  z9 := Tryz.sizeOf9
  v9 := Tryz.zeroValue9
  t22 := Tryz.underlying39
  a22 := Tryz.isAgg39
  z22 := Tryz.sizeOf39
  v22 := Tryz.zeroValue39
  t23 := Tryz.underlying39
  a23 := Tryz.isAgg39
  z23 := Tryz.sizeOf39
  v23 := Tryz.zeroValue39
  t25 := Tryz.underlying3
  a25 := Tryz.isAgg3
  z25 := Tryz.sizeOf3
  v25 := Tryz.zeroValue3
  t32 := Tryz.underlying132
  a32 := Tryz.isAgg132
  z32 := Tryz.sizeOf132
  v32 := Tryz.zeroValue132
  t35 := Tryz.underlying228
  a35 := Tryz.isAgg228
  z35 := Tryz.sizeOf228
  v35 := Tryz.zeroValue228
  t36 := Tryz.underlying229
  a36 := Tryz.isAgg229
  z36 := Tryz.sizeOf229
  v36 := Tryz.zeroValue229
  t41 := Tryz.underlying233
  a41 := Tryz.isAgg233
  z41 := Tryz.sizeOf233
  v41 := Tryz.zeroValue233
  t44 := Tryz.underlying54
  a44 := Tryz.isAgg54
  z44 := Tryz.sizeOf54
  v44 := Tryz.zeroValue54
  t46 := Tryz.underlying186
  a46 := Tryz.isAgg186
  z46 := Tryz.sizeOf186
  v46 := Tryz.zeroValue186
  t53 := Tryz.underlying249
  a53 := Tryz.isAgg249
  z53 := Tryz.sizeOf249
  v53 := Tryz.zeroValue249
  t57 := Tryz.underlying253
  a57 := Tryz.isAgg253
  z57 := Tryz.sizeOf253
  v57 := Tryz.zeroValue253
  t63 := Tryz.underlying278
  a63 := Tryz.isAgg278
  z63 := Tryz.sizeOf278
  v63 := Tryz.zeroValue278
  t64 := Tryz.underlying179
  a64 := Tryz.isAgg179
  z64 := Tryz.sizeOf179
  v64 := Tryz.zeroValue179 }
open Go.Sort Go.RowKit in
theorem Tryz.slices_Sort_int (blk off cap : Nat) (zs : List Int) (w : World) (hH : Holds (Value.int .i64) w blk off zs.toArray) (hblk : blk < w.heap.size) (hsz : zs.length < 4611686018427387904) :
    Calls Tryz.prog 140 #[.slice (some ⟨blk, off, none⟩) zs.length cap] w fun e w' =>
      e = .returned (.tuple #[]) ∧ ∃ n os, w' = grow (putRow (Value.int .i64) (Sort.ahead w n) blk off (zs.mergeSort fun x y => decide (x ≤ y)).toArray) os := AnyM.slices_Sort_int Tryz.laysSlM5_f140 blk off cap zs w hH hblk hsz
def Tryz.laysSlM6_f143_ren : Go.Shelf.Ren := ⟨fun | 6 => 143 | 8 => 131 | 9 => 163 | 19 => 155 | 20 => 156 | 21 => 182 | 22 => 183 | 23 => 184 | 24 => 185 | 25 => 186 | 26 => 187 | 27 => 188 | 28 => 189 | 29 => 190 | 36 => 197 | 31 => 167 | 32 => 168 | 37 => 198 | 38 => 199 | 39 => 200 | 41 => 202 | n => n, fun | 27 => 163 | 29 => 9 | 3 => 3 | 32 => 132 | 26 => 163 | 0 => 0 | 44 => 54 | 46 => 186 | 4 => 4 | 36 => 229 | 35 => 228 | 41 => 233 | 5 => 5 | 9 => 9 | 53 => 249 | 57 => 253 | 63 => 278 | 64 => 179 | n => n, fun | n => n⟩
theorem Tryz.laysSlM6_f143 : Go.Proofs.SlLaysM.n6 Tryz.prog Tryz.laysSlM6_f143_ren := {
  mixed := by kernel_rfl
  f6 := ⟨Tryz.f143.name, by decide, Tryz.func143.trans (congrArg some (by kernel_rfl))⟩
  f8 := Tryz.func131.trans (congrArg some (by kernel_rfl))
  f9 := ⟨Tryz.f163.name, by decide, Tryz.func163.trans (congrArg some (by kernel_rfl))⟩
  f19 := Tryz.func155.trans (congrArg some (by kernel_rfl))
  f20 := Tryz.func156.trans (congrArg some (by kernel_rfl))
  f21 := ⟨Tryz.f182.name, by decide, Tryz.func182.trans (congrArg some (by kernel_rfl))⟩
  f22 := ⟨Tryz.f183.name, by decide, Tryz.func183.trans (congrArg some (by kernel_rfl))⟩
  f23 := ⟨Tryz.f184.name, by decide, Tryz.func184.trans (congrArg some (by kernel_rfl))⟩
  f24 := ⟨Tryz.f185.name, by decide, Tryz.func185.trans (congrArg some (by kernel_rfl))⟩
  f25 := ⟨Tryz.f186.name, by decide, Tryz.func186.trans (congrArg some (by kernel_rfl))⟩
  f26 := ⟨Tryz.f187.name, by decide, Tryz.func187.trans (congrArg some (by kernel_rfl))⟩
  f27 := ⟨Tryz.f188.name, by decide, Tryz.func188.trans (congrArg some (by kernel_rfl))⟩
  f28 := ⟨Tryz.f189.name, by decide, Tryz.func189.trans (congrArg some (by kernel_rfl))⟩
  f29 := ⟨Tryz.f190.name, by decide, Tryz.func190.trans (congrArg some (by kernel_rfl))⟩
  f31 := Tryz.func167.trans (congrArg some (by kernel_rfl))
  f32 := Tryz.func168.trans (congrArg some (by kernel_rfl))
  f36 := ⟨Tryz.f197.name, by decide, Tryz.func197.trans (congrArg some (by kernel_rfl))⟩
  f37 := ⟨Tryz.f198.name, by decide, Tryz.func198.trans (congrArg some (by kernel_rfl))⟩
  f38 := ⟨Tryz.f199.name, by decide, Tryz.func199.trans (congrArg some (by kernel_rfl))⟩
  f39 := ⟨Tryz.f200.name, by decide, Tryz.func200.trans (congrArg some (by kernel_rfl))⟩
  f41 := ⟨Tryz.f202.name, by decide, Tryz.func202.trans (congrArg some (by kernel_rfl))⟩
  t0 := Tryz.underlying0
  a0 := Tryz.isAgg0
  z0 := Tryz.sizeOf0
  v0 := Tryz.zeroValue0
  t3 := Tryz.underlying3
  a3 := Tryz.isAgg3
  z3 := Tryz.sizeOf3
  v3 := Tryz.zeroValue3
  t4 := Tryz.underlying4
  a4 := Tryz.isAgg4
  z4 := Tryz.sizeOf4
  v4 := Tryz.zeroValue4
  t5 := Tryz.underlying5
  a5 := Tryz.isAgg5
  z5 := Tryz.sizeOf5
  v5 := Tryz.zeroValue5
  t9 := Tryz.underlying9
  a9 := Tryz.isAgg9
  z9 := Tryz.sizeOf9
  v9 := Tryz.zeroValue9
  t26 := Tryz.underlying163
  a26 := Tryz.isAgg163
  z26 := Tryz.sizeOf163
  v26 := Tryz.zeroValue163
  t27 := Tryz.underlying163
  a27 := Tryz.isAgg163
  z27 := Tryz.sizeOf163
  v27 := Tryz.zeroValue163
  t29 := Tryz.underlying9
  a29 := Tryz.isAgg9
  z29 := Tryz.sizeOf9
  v29 := Tryz.zeroValue9
  t32 := Tryz.underlying132
  a32 := Tryz.isAgg132
  z32 := Tryz.sizeOf132
  v32 := Tryz.zeroValue132
  t35 := Tryz.underlying228
  a35 := Tryz.isAgg228
  z35 := Tryz.sizeOf228
  v35 := Tryz.zeroValue228
  t36 := Tryz.underlying229
  a36 := Tryz.isAgg229
  z36 := Tryz.sizeOf229
  v36 := Tryz.zeroValue229
  t41 := Tryz.underlying233
  a41 := Tryz.isAgg233
  z41 := Tryz.sizeOf233
  v41 := Tryz.zeroValue233
  t44 := Tryz.underlying54
  a44 := Tryz.isAgg54
  z44 := Tryz.sizeOf54
  v44 := Tryz.zeroValue54
  t46 := Tryz.underlying186
  a46 := Tryz.isAgg186
  z46 := Tryz.sizeOf186
  v46 := Tryz.zeroValue186
  t53 := Tryz.underlying249
  a53 := Tryz.isAgg249
  z53 := Tryz.sizeOf249
  v53 := Tryz.zeroValue249
  t57 := Tryz.underlying253
  a57 := Tryz.isAgg253
  z57 := Tryz.sizeOf253
  v57 := Tryz.zeroValue253
  t63 := Tryz.underlying278
  a63 := Tryz.isAgg278
  z63 := Tryz.sizeOf278
  v63 := Tryz.zeroValue278
  t64 := Tryz.underlying179
  a64 := Tryz.isAgg179
  z64 := Tryz.sizeOf179
  v64 := Tryz.zeroValue179 }
open Go.Sort Go.RowKit in
theorem Tryz.slices_Sort_string (blk off cap : Nat) (ss : List (List UInt8)) (w : World) (hH : Holds encStr w blk off ss.toArray) (hblk : blk < w.heap.size) (hsz : ss.length < 4611686018427387904) :
    Calls Tryz.prog 143 #[.slice (some ⟨blk, off, none⟩) ss.length cap] w fun e w' =>
      e = .returned (.tuple #[]) ∧ ∃ n os, w' = grow (putRow encStr (Sort.ahead w n) blk off (ss.mergeSort fun x y => decide (x ≤ y)).toArray) os := AnyM.slices_Sort_string Tryz.laysSlM6_f143 blk off cap ss w hH hblk hsz
open Go.RowKit Go.Sort in
/-- .. and plain. (LAID AT THE INSTANCE 'slices.Sort[[]string,string]': no walk: one application.) -/
theorem Tryz.slices_Sort_string_none (p : Option Addr) (cap : Nat) (w : World) :
    Calls Tryz.prog 143 #[.slice p 0 cap] w fun e w' => e = .returned (.tuple #[]) ∧ w' = w := AnyM.slices_Sort_string_none Tryz.laysSlM6_f143 p cap w
open Go.RowKit Go.Sort in
/-- .. and plain. (LAID AT THE INSTANCE 'slices.Sort[[]int,int]': no walk: one application.) -/
theorem Tryz.slices_Sort_int_none (p : Option Addr) (cap : Nat) (w : World) :
    Calls Tryz.prog 140 #[.slice p 0 cap] w fun e w' => e = .returned (.tuple #[]) ∧ w' = w := AnyM.slices_Sort_int_none Tryz.laysSlM5_f140 p cap w
def Tryz.laysSlF06_f92_ren : Go.Shelf.Ren := ⟨fun | 6 => 92 | 15 => 131 | 14 => 130 | 28 => 155 | 29 => 156 | 20 => 147 | 21 => 148 | 22 => 149 | 23 => 150 | 24 => 151 | 25 => 152 | 26 => 153 | 27 => 154 | 46 => 166 | 47 => 167 | 48 => 168 | 49 => 169 | 50 => 170 | 57 => 193 | n => n, fun | 22 => 48 | 24 => 51 | 25 => 115 | 3 => 3 | 39 => 132 | 0 => 0 | 53 => 54 | 55 => 186 | 4 => 4 | 46 => 229 | 45 => 228 | 50 => 233 | 5 => 5 | 9 => 9 | 66 => 249 | 70 => 253 | 76 => 278 | 77 => 179 | n => n, fun | n => n⟩
theorem Tryz.laysSlF06_f92 : Go.Proofs.SlLaysF0.n6 Tryz.prog Tryz.laysSlF06_f92_ren := {
  mixed := by kernel_rfl
  f6 := ⟨Tryz.f92.name, by decide, Tryz.func92.trans (congrArg some (by kernel_rfl))⟩
  f14 := ⟨Tryz.f130.name, by decide, Tryz.func130.trans (congrArg some (by kernel_rfl))⟩
  f15 := Tryz.func131.trans (congrArg some (by kernel_rfl))
  f20 := ⟨Tryz.f147.name, by decide, Tryz.func147.trans (congrArg some (by kernel_rfl))⟩
  f21 := ⟨Tryz.f148.name, by decide, Tryz.func148.trans (congrArg some (by kernel_rfl))⟩
  f22 := ⟨Tryz.f149.name, by decide, Tryz.func149.trans (congrArg some (by kernel_rfl))⟩
  f23 := ⟨Tryz.f150.name, by decide, Tryz.func150.trans (congrArg some (by kernel_rfl))⟩
  f24 := ⟨Tryz.f151.name, by decide, Tryz.func151.trans (congrArg some (by kernel_rfl))⟩
  f25 := ⟨Tryz.f152.name, by decide, Tryz.func152.trans (congrArg some (by kernel_rfl))⟩
  f26 := ⟨Tryz.f153.name, by decide, Tryz.func153.trans (congrArg some (by kernel_rfl))⟩
  f27 := ⟨Tryz.f154.name, by decide, Tryz.func154.trans (congrArg some (by kernel_rfl))⟩
  f28 := Tryz.func155.trans (congrArg some (by kernel_rfl))
  f29 := Tryz.func156.trans (congrArg some (by kernel_rfl))
  f46 := ⟨Tryz.f166.name, by decide, Tryz.func166.trans (congrArg some (by kernel_rfl))⟩
  f47 := Tryz.func167.trans (congrArg some (by kernel_rfl))
  f48 := Tryz.func168.trans (congrArg some (by kernel_rfl))
  f49 := ⟨Tryz.f169.name, by decide, Tryz.func169.trans (congrArg some (by kernel_rfl))⟩
  f50 := ⟨Tryz.f170.name, by decide, Tryz.func170.trans (congrArg some (by kernel_rfl))⟩
  f57 := ⟨Tryz.f193.name, by decide, Tryz.func193.trans (congrArg some (by kernel_rfl))⟩
  t0 := Tryz.underlying0
  a0 := Tryz.isAgg0
  z0 := Tryz.sizeOf0
  v0 := Tryz.zeroValue0
  t3 := Tryz.underlying3
  a3 := Tryz.isAgg3
  z3 := Tryz.sizeOf3
  v3 := Tryz.zeroValue3
  t4 := Tryz.underlying4
  a4 := Tryz.isAgg4
  z4 := Tryz.sizeOf4
  v4 := Tryz.zeroValue4
  t5 := Tryz.underlying5
  a5 := Tryz.isAgg5
  z5 := Tryz.sizeOf5
  v5 := Tryz.zeroValue5
  t9 := Tryz.underlying9
  a9 := Tryz.isAgg9
  z9 := Tryz.sizeOf9
  v9 := Tryz.zeroValue9
  t22 := Tryz.underlying48
  a22 := Tryz.isAgg48
  z22 := Tryz.sizeOf48
  v22 := Tryz.zeroValue48
  t25 := Tryz.underlying115
  a25 := Tryz.isAgg115
  z25 := Tryz.sizeOf115
  v25 := Tryz.zeroValue115
  t39 := Tryz.underlying132
  a39 := Tryz.isAgg132
  z39 := Tryz.sizeOf132
  v39 := Tryz.zeroValue132
  t45 := Tryz.underlying228
  a45 := Tryz.isAgg228
  z45 := Tryz.sizeOf228
  v45 := Tryz.zeroValue228
  t46 := Tryz.underlying229
  a46 := Tryz.isAgg229
  z46 := Tryz.sizeOf229
  v46 := Tryz.zeroValue229
  t50 := Tryz.underlying233
  a50 := Tryz.isAgg233
  z50 := Tryz.sizeOf233
  v50 := Tryz.zeroValue233
  t53 := Tryz.underlying54
  a53 := Tryz.isAgg54
  z53 := Tryz.sizeOf54
  v53 := Tryz.zeroValue54
  t55 := Tryz.underlying186
  a55 := Tryz.isAgg186
  z55 := Tryz.sizeOf186
  v55 := Tryz.zeroValue186
  t66 := Tryz.underlying249
  a66 := Tryz.isAgg249
  z66 := Tryz.sizeOf249
  v66 := Tryz.zeroValue249
  t70 := Tryz.underlying253
  a70 := Tryz.isAgg253
  z70 := Tryz.sizeOf253
  v70 := Tryz.zeroValue253
  t76 := Tryz.underlying278
  a76 := Tryz.isAgg278
  z76 := Tryz.sizeOf278
  v76 := Tryz.zeroValue278
  t77 := Tryz.underlying179
  a77 := Tryz.isAgg179
  z77 := Tryz.sizeOf179
  v77 := Tryz.zeroValue179 }
end Go.Proofs

namespace Go.Abs.X
open Go.Abs Go Go.Proofs Go.Sort Go.RowKit
variable {w0 : World}

/-- A slice of one's own and its block, as the world has them. -/
theorem own_slice {γ : Gl} {s : Wd} {cs : List AV} {e n z : Nat} {vs : Array Value} (sat : Sat γ [some (.cells cs e true)] s) (hl : [AV.sl 0 0 n none z].length = vs.size) (hr : Rels s [.sl 0 0 n none z] vs.toList) :
    ∃ b m c, s.ρ 0 = some b ∧ vs = #[.slice (some ⟨b, 0, none⟩) n m] ∧ s.w.heap[b]? = some (.cells c e (0, 0)) ∧ Rels s cs c.toList := by
  have hv : ∃ v, vs = #[v] := by
    simp only [List.length_singleton] at hl
    exact ⟨vs[0], by apply Array.ext <;> simp [← hl]; intro i hi; subst hi; rfl⟩
  obtain ⟨v, rfl⟩ := hv
  simp only [Rels, Rel] at hr
  obtain ⟨⟨b, m, c0, e0, f0, hρ, rfl, _⟩, _⟩ := hr
  obtain ⟨nb, o, k1, k2, ⟨c, rfl, hrel, _⟩, _⟩ := sat.blk 0 _ rfl
  rw [hρ] at k1; cases k1
  exact ⟨b, m, c, hρ, rfl, k2, hrel⟩

def sortI (ks : List Int) : List Int := ks.mergeSort fun x y => decide (x ≤ y)
def intsD (ks : List Int) : List DV := flatD (fun x => [i64 x]) ks
theorem intsD_plain : ∀ ks, ∀ x ∈ intsD ks, plainD x = true
  | [], x, h => by simp [intsD, flatD] at h
  | k :: r, x, h => by
    simp only [intsD, flatD, List.cons_append, List.nil_append, List.mem_cons] at h
    rcases h with rfl | h
    · rfl
    · exact intsD_plain r x h
theorem intsD_vals : ∀ ks : List Int, (intsD ks).map valD = ks.map (Value.int .i64)
  | [] => rfl
  | k :: r => by
    have := intsD_vals r
    simp only [intsD, flatD, List.cons_append, List.nil_append, List.map_cons] at this ⊢
    rw [this]; rfl
theorem sortInt_ok (ks : List Int) (hl : ks.length ≤ 1000000) (K : AV → Heap → Prop) (hk : K (.dat (.tup [])) [some (.cells ((intsD (sortI ks)).map .dat) 3 true)]) :
    CallA (cx w0) 140 [.sl 0 0 ks.length none 1] [some (.cells ((intsD ks).map .dat) 3 true)] K := by
  constructor
  intro s vs sat hlv hr
  obtain ⟨b, m, c, hρ, rfl, hb, hrel⟩ := own_slice sat hlv hr
  obtain ⟨hH, hsz⟩ := holds_row (s := s) hb (Value.int .i64) ks.toArray (intsD_plain ks) (by rw [intsD_vals]) (rels_dat.1 hrel)
  refine ⟨Tryz.call140 _ _, (Tryz.slices_Sort_int b 0 m ks s.w hH (Array.getElem?_eq_some_iff.1 hb).1 (by omega)).mono ?_⟩
  rintro e w' ⟨rfl, n, os, rfl⟩
  have hlen : (sortI ks).length = ks.length := by simp [sortI]
  obtain ⟨s2, e2⟩ := post_row sat (i := 0) rfl hρ hb (Value.int .i64) (sortI ks).toArray (intsD (sortI ks)) (intsD_plain _) (by rw [intsD_vals]) (by simpa [hlen] using hsz) n os
  exact ⟨_, rfl, .dat (.tup []), _, _, rfl, hk, by simp [Rel, RelD, RelDs], s2, e2⟩

def bytesL (s : ByteArray) : List UInt8 := s.data.toList
def sortS (ks : List ByteArray) : List ByteArray := (((ks.map bytesL).mergeSort fun x y => decide (x ≤ y)).map fun l => ⟨l.toArray⟩)
def strsD (ks : List ByteArray) : List DV := flatD (fun x => [DV.str x]) ks
theorem strsD_plain : ∀ ks, ∀ x ∈ strsD ks, plainD x = true
  | [], x, h => by simp [strsD, flatD] at h
  | k :: r, x, h => by
    simp only [strsD, flatD, List.cons_append, List.nil_append, List.mem_cons] at h
    rcases h with rfl | h
    · rfl
    · exact strsD_plain r x h
theorem strsD_vals : ∀ ks : List ByteArray, (strsD ks).map valD = (ks.map bytesL).map encStr
  | [] => rfl
  | k :: r => by
    have := strsD_vals r
    simp only [strsD, flatD, List.cons_append, List.nil_append, List.map_cons] at this ⊢
    rw [this]; rfl
theorem bytesL_back (l : List UInt8) : bytesL ⟨l.toArray⟩ = l := rfl
theorem sortStr_ok (ks : List ByteArray) (hl : ks.length ≤ 1000000) (K : AV → Heap → Prop) (hk : K (.dat (.tup [])) [some (.cells ((strsD (sortS ks)).map .dat) 9 true)]) :
    CallA (cx w0) 143 [.sl 0 0 ks.length none 1] [some (.cells ((strsD ks).map .dat) 9 true)] K := by
  constructor
  intro s vs sat hlv hr
  obtain ⟨b, m, c, hρ, rfl, hb, hrel⟩ := own_slice sat hlv hr
  obtain ⟨hH, hsz⟩ := holds_row (s := s) hb encStr (ks.map bytesL).toArray (strsD_plain ks) (by rw [strsD_vals]) (rels_dat.1 hrel)
  have hL : (ks.map bytesL).length = ks.length := by simp
  refine ⟨Tryz.call143 _ _, ?_⟩
  have := Tryz.slices_Sort_string b 0 m (ks.map bytesL) s.w hH (Array.getElem?_eq_some_iff.1 hb).1 (by rw [hL]; omega)
  rw [hL] at this
  refine this.mono ?_
  rintro e w' ⟨rfl, n, os, rfl⟩
  have hmap : (sortS ks).map bytesL = (ks.map bytesL).mergeSort fun x y => decide (x ≤ y) := by
    unfold sortS
    rw [List.map_map]
    exact List.map_id _
  have hlen : (sortS ks).length = ks.length := by simp [sortS]
  obtain ⟨s2, e2⟩ := post_row sat (i := 0) rfl hρ hb encStr ((sortS ks).map bytesL).toArray (strsD (sortS ks)) (strsD_plain _) (by rw [strsD_vals]) (by simpa [hlen] using hsz) n os
  rw [hmap] at s2 e2
  exact ⟨_, rfl, .dat (.tup []), _, _, rfl, hk, by simp [Rel, RelD, RelDs], s2, e2⟩

def encL (x : LinkT) : List Value := [.int .i64 x.who, .int .i64 x.peer, .int .i64 x.n]
instance : Inhabited LinkT := ⟨⟨0, 0, 0⟩⟩
def linksD (ks : List LinkT) : List DV := flatD LinkT.flat ks
theorem linksD_plain : ∀ ks, ∀ x ∈ linksD ks, plainD x = true
  | [], x, h => by simp [linksD, flatD] at h
  | k :: r, x, h => by
    simp only [linksD, flatD, LinkT.flat, List.cons_append, List.nil_append, List.mem_cons] at h
    rcases h with rfl | rfl | rfl | h
    · rfl
    · rfl
    · rfl
    · exact linksD_plain r x h
theorem linksD_vals : ∀ ks : List LinkT, (linksD ks).map valD = ks.flatMap encL
  | [] => rfl
  | k :: r => by
    have := linksD_vals r
    simp only [linksD, flatD, LinkT.flat, List.cons_append, List.nil_append, List.map_cons, List.flatMap_cons] at this ⊢
    rw [this]; rfl
theorem flat_get : ∀ (l : List LinkT) (t : Nat), t < l.length * 3 → (l.flatMap encL)[t]? = some ((encL (l[t / 3]!))[t % 3]!)
  | [], t, h => by simp at h
  | x :: r, t, h => by
    rw [List.flatMap_cons]
    rcases Nat.lt_or_ge t 3 with h3 | h3
    · rw [List.getElem?_append_left (by simpa [encL] using h3)]
      have : t / 3 = 0 := by omega
      rw [this, Nat.mod_eq_of_lt h3]
      rcases t with _ | _ | _ | t
      · rfl
      · rfl
      · rfl
      · omega
    · rw [List.getElem?_append_right (by simpa [encL] using h3)]
      have hl : (encL x).length = 3 := rfl
      rw [hl, flat_get r (t - 3) (by simp at h; omega)]
      have h1 : (t - 3) / 3 + 1 = t / 3 := by omega
      have h2 : (t - 3) % 3 = t % 3 := by omega
      rw [h2, ← h1]
      rfl
theorem flat_len : ∀ l : List LinkT, (l.flatMap encL).length = l.length * 3
  | [] => rfl
  | x :: r => by rw [List.flatMap_cons, List.length_append, flat_len r]; simp [encL]; omega
theorem flatK_list (d : Array LinkT) : (flatK encL 3 d).toList = d.toList.flatMap encL := by
  apply List.ext_getElem?
  intro t
  rcases Nat.lt_or_ge t (d.size * 3) with h | h
  · rw [flat_get _ t (by simpa using h)]
    have h1 := get_flatK encL 3 d t h
    rw [Array.getElem?_toList, Array.getElem?_eq_getElem (by simpa using h), ← getElem!_pos _ t (by simpa using h), h1]
    have : d[t / 3]! = d.toList[t / 3]! := by
      have hq : t / 3 < d.size := by omega
      rw [getElem!_pos d _ hq, getElem!_pos d.toList _ (by simpa using hq)]
      simp
    rw [this]
  · rw [List.getElem?_eq_none (by simpa using h), List.getElem?_eq_none]
    rw [flat_len]; simpa using h
def leL (x y : LinkT) : Bool := !(ltOf cmpL) y x
def sortL (ks : List LinkT) : List LinkT := ks.mergeSort leL
theorem swo_cmpL : SWO (ltOf cmpL) := by
  refine ⟨fun x => ?_, fun x y z h1 h2 => ?_, fun x y z h1 h2 => ?_⟩
  · simp only [ltOf, decide_eq_false_iff_not, cmpL_lt]; omega
  · simp only [ltOf, decide_eq_true_eq, cmpL_lt] at h1 h2 ⊢; omega
  · simp only [ltOf, decide_eq_false_iff_not, cmpL_lt] at h1 h2 ⊢; omega
theorem tot_cmpL (x y : LinkT) (h1 : ltOf cmpL x y = false) (h2 : ltOf cmpL y x = false) : x = y := by
  simp only [ltOf, decide_eq_false_iff_not, cmpL_lt] at h1 h2
  obtain ⟨a, b, c⟩ := x
  obtain ⟨a', b', c'⟩ := y
  simp only at h1 h2
  have e1 : a = a' := by omega
  have e2 : b = b' := by omega
  have e3 : c = c' := by omega
  rw [e1, e2, e3]
theorem linksCmp_calls (x y : LinkT) (W : World) : Calls Tryz.prog 44 #[.agg (encL x).toArray, .agg (encL y).toArray] W fun e w' => e = .returned (.int .i64 (cmpL x y)) ∧ ∃ q os', w' = Sort.grow (W.drewN q) os' := by
  have h := calls_of_callA (cx := cxd W W.drawn) (W := W) rfl (Nat.le_refl _) (fun _ => rfl) (f := 44) (args := [x.dv, y.dv]) (vs := #[.agg (encL x).toArray, .agg (encL y).toArray]) rfl ?_ (linksCmp_ok x y (fun a _ => a = .dat (.int .i64 (cmpL x y))) rfl)
  · refine h.mono ?_
    rintro e w' ⟨v, a, h', s', rfl, rfl, hr, hw, hb, hd⟩
    simp only [Rel, RelD] at hr
    subst hr
    exact ⟨rfl, grow_of hb hd⟩
  · have one : ∀ x : LinkT, RelD (fun n => n < W.heap.size) W x.dv (.agg (encL x).toArray) := fun x => by
      simp only [LinkT.dv, linkD, RelD]
      exact ⟨_, rfl, rfl, ⟨rfl, rfl, rfl, trivial⟩⟩
    exact ⟨one x, one y, trivial⟩
theorem sortLink_ok (ks : List LinkT) (hl : ks.length ≤ 1000000) (K : AV → Heap → Prop) (hk : K (.dat (.tup [])) [some (.cells ((linksD (sortL ks)).map .dat) 51 true)]) :
    CallA (cx w0) 92 [.sl 0 0 ks.length none 3, .dat (.fn 44)] [some (.cells ((linksD ks).map .dat) 51 true)] K := by
  constructor
  intro s vs sat hlv hr
  obtain ⟨v1, t, e1, h1, h2⟩ := rels_cons.1 hr
  obtain ⟨v2, t2, e2, h3, h4⟩ := rels_cons.1 h2
  have ht2 : t2 = [] := by
    have := congrArg List.length e1
    simp [e2] at this
    simp only [List.length_cons, List.length_nil] at hlv
    exact List.eq_nil_of_length_eq_zero (by omega)
  subst ht2
  simp only [Rel, RelD] at h3
  subst h3
  obtain ⟨b, m, c, hρ, hv, hb, hrel⟩ := own_slice (vs := #[v1]) sat rfl (by simpa [Rels] using h1)
  obtain rfl : v1 = .slice (some ⟨b, 0, none⟩) ks.length m := by simpa using hv
  have hvs : vs = #[.slice (some ⟨b, 0, none⟩) ks.length m, .func (.func 44) #[] #[]] := by
    apply Array.ext'; rw [e1, e2]
  subst hvs
  have hF := flatK_list ks.toArray
  obtain ⟨hH, hsz⟩ := holds_row (s := s) hb id (flatK encL 3 ks.toArray) (linksD_plain ks) (by rw [linksD_vals, hF]; simp) (rels_dat.1 hrel)
  refine ⟨Tryz.call92 _ _, ?_⟩
  have := AnyQ.slices_SortFunc_total (P := Tryz.prog) (ρ := Tryz.laysSlF06_f92_ren) Tryz.laysSlF06_f92 3 (fun _ => Tryz.isAgg51 _) (fun _ => Tryz.sizeOf51 _) encL (fun _ => rfl) (fun x v hv => by
    simp only [encL, List.mem_cons, List.not_mem_nil, or_false] at hv
    rcases hv with rfl | rfl | rfl <;> rfl) cmpL swo_cmpL 44 #[] b 0 m ks.toArray s.w (fun args w => Tryz.call44 args w) (fun _ _ _ _ x y => linksCmp_calls x y _) hH (Array.getElem?_eq_some_iff.1 hb).1 (by simp; omega) tot_cmpL
  refine Calls.mono this ?_
  rintro e w' ⟨rfl, n, os, rfl⟩
  have hlen : (sortL ks).length = ks.length := by simp [sortL]
  obtain ⟨s2, e2⟩ := post_row sat (i := 0) rfl hρ hb id (flatK encL 3 (sortL ks).toArray) (linksD (sortL ks)) (linksD_plain _) (by rw [linksD_vals, flatK_list]; simp) (by simpa [hlen] using hsz) n os
  exact ⟨_, rfl, .dat (.tup []), _, _, rfl, hk, by simp [Rel, RelD, RelDs], s2, e2⟩
end Go.Abs.X

namespace Go.Abs.X
open Go.Abs Go Go.Proofs Go.Sort Go.RowKit
variable {w0 : World}
def valLink (ks : List LinkT) : DV := match ks with
  | [] => .nils
  | k :: r => .ros (linksD (k :: r)) (k :: r).length none
theorem valLink_cons (ks : List LinkT) (h : ks ≠ []) : valLink ks = .ros (linksD ks) ks.length none := by
  cases ks with
  | nil => exact absurd rfl h
  | cons k r => rfl
theorem keysLink_ok (es : List (DV × DV)) (K : AV → Heap → Prop) (hk : K (.func 93 [.ptr 1 0]) [some (.mapD es), some (.cells [.map 0] 28 false)]) :
    CallA (cx w0) 43 [.map 0] [some (.mapD es)] K := by
  refine CallA.enter ok (dr (plOf [])) Tryz.func43 Tryz.call43 ?_
  exact hk
theorem sortLink_none (K : AV → Heap → Prop) (hk : K (.dat (.tup [])) []) : CallA (cx w0) 92 [.dat .nils, .dat (.fn 44)] [] K := by
  refine CallA.of_below rfl (.tup []) (fun st vs sat hl hr => ?_) hk
  have hv : vs = #[.slice none 0 0, .func (.func 44) #[] #[]] := by
    obtain ⟨v1, t, e1, h1, h2⟩ := rels_cons.1 hr
    obtain ⟨v2, t2, e2, h3, h4⟩ := rels_cons.1 h2
    simp only [Rel, RelD] at h1 h3
    subst h1 h3
    have : t2 = [] := by
      have := congrArg List.length e1
      simp [e2] at this
      simp only [List.length_cons, List.length_nil] at hl
      exact List.eq_nil_of_length_eq_zero (by omega)
    subst this
    apply Array.ext'
    rw [e1, e2]
  subst hv
  refine ⟨Tryz.call92 _ _, ?_⟩
  have := AnyF.slices_SortFunc_none (P := Tryz.prog) (ρ := Tryz.laysSlF06_f92_ren) Tryz.laysSlF06_f92 none 0 (.func (.func 44) #[] #[]) st.w
  refine Calls.mono this ?_
  rintro e w' ⟨rfl, rfl⟩
  exact ⟨_, rfl, RowKit.Below.refl _ _, fun _ _ => by simp [RelD, RelDs]⟩
theorem sortedLink_ok (es : List (DV × DV)) (hk : ∀ e ∈ es, ∃ l : LinkT, e.1 = LinkT.dv l) (hlen : es.length ≤ 1000000) (K : AV → Heap → Prop)
    (h1 : ∀ ks : List LinkT, (ks.map LinkT.dv).Perm (es.map (·.1)) → K (.dat (valLink (sortL ks))) [some (.mapD es), some (.cells [.map 0] 28 false)]) :
    CallA (cx w0) 42 [.func 93 [.ptr 1 0], .dat (.fn 44)] [some (.mapD es), some (.cells [.map 0] 28 false)] K := by
  refine CallA.ret ?_
  refine CallA.enter ok (dr (plOf [])) Tryz.func42 Tryz.call42 ?_
  refine call_at [0, 1] (collectLink es hk hlen _ (fun he => ?_) (fun ks hne hp => ?_)) rfl rfl rfl rfl
  · refine call_at [] (sortLink_none _ ?_) rfl rfl rfl rfl
    have h1 := h1 [] (by rw [he]; exact List.Perm.refl _)
    rw [show sortL [] = [] by simp [sortL]] at h1
    exact leaf [0, 1] (.dat .nils) [some (.mapD es), some (.cells [.map 0] 28 false)] rfl rfl rfl rfl rfl h1
  · have hl : ks.length ≤ 1000000 := by
      have := hp.length_eq
      simp at this
      omega
    have hls : (sortL ks).length = ks.length := by simp [sortL]
    have hne2 : sortL ks ≠ [] := fun h => by
      rw [h] at hls
      exact hne (List.eq_nil_of_length_eq_zero hls.symm)
    refine call_in [2] (sortLink_ok ks hl _ ?_) rfl rfl rfl (hin_cons (renTs_datC ?_) hin_nil) 
    · refine shift_frz' 2 (linksD (sortL ks)) rfl ?_ ?_
      · simp only [renTs_dat]
      refine leaf [0, 1] _ [some (.mapD es), some (.cells [.map 0] 28 false)] ?_ rfl rfl rfl rfl (h1 ks hp)
      rw [valLink_cons _ hne2, hls]
      rfl
    · simp only [renTs_dat]; rfl
end Go.Abs.X

namespace Go.Abs.X
open Go.Abs Go Go.Proofs Go.Sort Go.RowKit
variable {w0 : World}
def valInt (ks : List Int) : DV := match ks with
  | [] => .nils
  | k :: r => .ros (intsD (k :: r)) (k :: r).length none
theorem valInt_cons (ks : List Int) (h : ks ≠ []) : valInt ks = .ros (intsD ks) ks.length none := by
  cases ks with
  | nil => exact absurd rfl h
  | cons k r => rfl
theorem keysInt_ok (es : List (DV × DV)) (K : AV → Heap → Prop) (hk : K (.func 141 [.ptr 1 0]) [some (.mapD es), some (.cells [.map 0] 105 false)]) :
    CallA (cx w0) 122 [.map 0] [some (.mapD es)] K := by
  refine CallA.enter ok (dr (plOf [])) Tryz.func122 Tryz.call122 ?_
  exact hk
theorem sortInt_none (K : AV → Heap → Prop) (hk : K (.dat (.tup [])) []) : CallA (cx w0) 140 [.dat .nils] [] K := by
  refine CallA.of_below rfl (.tup []) (fun st vs sat hl hr => ?_) hk
  have hv : vs = #[.slice none 0 0] := by
    obtain ⟨v1, t, e1, h1, h2⟩ := rels_cons.1 hr
    simp only [Rel, RelD] at h1
    subst h1
    have : t = [] := by
      have := congrArg List.length e1
      simp at this
      simp only [List.length_cons, List.length_nil] at hl
      exact List.eq_nil_of_length_eq_zero (by omega)
    subst this
    apply Array.ext'
    rw [e1]
  subst hv
  refine ⟨Tryz.call140 _ _, ?_⟩
  have := Tryz.slices_Sort_int_none none 0 st.w
  refine Calls.mono this ?_
  rintro e w' ⟨rfl, rfl⟩
  exact ⟨_, rfl, RowKit.Below.refl _ _, fun _ _ => by simp [RelD, RelDs]⟩
theorem sortedInt_ok (es : List (DV × DV)) (hk : ∀ e ∈ es, ∃ l : Int, e.1 = i64 l) (hlen : es.length ≤ 1000000) (K : AV → Heap → Prop)
    (h1 : ∀ ks : List Int, (ks.map i64).Perm (es.map (·.1)) → K (.dat (valInt (sortI ks))) [some (.mapD es), some (.cells [.map 0] 105 false)]) :
    CallA (cx w0) 121 [.func 141 [.ptr 1 0]] [some (.mapD es), some (.cells [.map 0] 105 false)] K := by
  refine CallA.ret ?_
  refine CallA.enter ok (dr (plOf [])) Tryz.func121 Tryz.call121 ?_
  refine call_at [0, 1] (collectInt es hk hlen _ (fun he => ?_) (fun ks hne hp => ?_)) rfl rfl rfl rfl
  · refine call_at [] (sortInt_none _ ?_) rfl rfl rfl rfl
    have h1 := h1 [] (by rw [he]; exact List.Perm.refl _)
    rw [show sortI [] = [] by simp [sortI]] at h1
    exact leaf [0, 1] (.dat .nils) [some (.mapD es), some (.cells [.map 0] 105 false)] rfl rfl rfl rfl rfl h1
  · have hl : ks.length ≤ 1000000 := by
      have := hp.length_eq
      simp at this
      omega
    have hls : (sortI ks).length = ks.length := by simp [sortI]
    have hne2 : sortI ks ≠ [] := fun h => by
      rw [h] at hls
      exact hne (List.eq_nil_of_length_eq_zero hls.symm)
    refine call_in [2] (sortInt_ok ks hl _ ?_) rfl rfl rfl (hin_cons (renTs_datC ?_) hin_nil) 
    · refine shift_frz' 2 (intsD (sortI ks)) rfl ?_ ?_
      · simp only [renTs_dat]
      refine leaf [0, 1] _ [some (.mapD es), some (.cells [.map 0] 105 false)] ?_ rfl rfl rfl rfl (h1 ks hp)
      rw [valInt_cons _ hne2, hls]
      rfl
    · simp only [renTs_dat]; rfl
end Go.Abs.X
