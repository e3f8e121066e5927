/- A part of the proof behind the last text of this folder: AbsDraw1, AbsDraw2, AbsDraw3, AbsDraw4, AbsDraw5. -/
import Derived.Test.YtbbpedjbfgcdoaaGreatDoorP3
set_option linter.unusedSimpArgs false
set_option linter.unusedSectionVars false

namespace Go.Abs

/-- A continuation's formula that hands on one value. -/
def Det (F : (AV → Prop) → Prop) : Prop := ∀ K, F K → ∃ v, K v ∧ ∀ K' : AV → Prop, K' v → F K'
theorem det_pure (a : AV) : Det fun K => K a := fun _ h => ⟨a, h, fun _ h => h⟩
theorem det_false : Det fun _ => False := fun _ h => h.elim
theorem det_req {c : Prop} {F : (AV → Prop) → Prop} (h : Det F) : Det fun K => ReqA c (F K) := fun K hk => by
  obtain ⟨h1, h2⟩ := reqA_elim hk
  obtain ⟨v, h3, h4⟩ := h K h2
  exact ⟨v, h3, fun K' hk' => req h1 (h4 K' hk')⟩
theorem det_optA {α : Type} {x : Option α} {F : α → (AV → Prop) → Prop} (h : ∀ a, Det (F a)) : Det fun K => OptA x fun a => F a K := fun K hk => by
  obtain ⟨a, h1, h2⟩ := optA_elim hk
  obtain ⟨v, h3, h4⟩ := h a K h2
  exact ⟨v, h3, fun K' hk' => optA a h1 (h4 K' hk')⟩
theorem det_optR {α : Type} {x : Option α} {F : α → (AV → Prop) → Prop} (h : ∀ a, Det (F a)) : Det fun K => optR x fun a => F a K := fun K hk => by
  obtain ⟨a, h1, h2⟩ := optR_elim hk
  obtain ⟨v, h3, h4⟩ := h a K h2
  exact ⟨v, h3, fun K' hk' => by rw [h1]; exact h4 K' hk'⟩
theorem det_cond {b : Bool} {F G : (AV → Prop) → Prop} (h : Det F) (g : Det G) : Det fun K => condA b (F K) (G K) := fun K hk => by
  rcases condA_elim hk with ⟨h1, h2⟩ | ⟨h1, h2⟩
  · obtain ⟨v, h3, h4⟩ := h K h2
    exact ⟨v, h3, fun K' hk' => condA_true h1 (h4 K' hk')⟩
  · obtain ⟨v, h3, h4⟩ := g K h2
    exact ⟨v, h3, fun K' hk' => condA_false h1 (h4 K' hk')⟩
theorem det_hasTy {cx : Cx} {t : Nat} {F : TyI → (AV → Prop) → Prop} (h : ∀ a, Det (F a)) : Det fun K => hasTy cx t fun ti => F ti K := fun K hk => by
  obtain ⟨a, h1, h2⟩ := hasTy_elim hk
  obtain ⟨v, h3, h4⟩ := h a K h2
  exact ⟨v, h3, fun K' hk' => by unfold hasTy; rw [h1]; exact h4 K' hk'⟩
theorem det_look {α : Type} {es : List (DV × α)} {k : DV} {F : Option α → (AV → Prop) → Prop} (h : ∀ a, Det (F a)) : Det fun K => LookA es k fun r => F r K := fun K hk => by
  obtain ⟨a, h1, h2⟩ := lookA_elim hk
  obtain ⟨v, h3, h4⟩ := h a K h2
  exact ⟨v, h3, fun K' hk' => lookA a h1 (h4 K' hk')⟩
theorem det_both {a b : Option Int} {F : Int → Int → (AV → Prop) → Prop} (h : ∀ x y, Det (F x y)) : Det fun K => both a b fun x y => F x y K := fun K hk => by
  obtain ⟨x, y, h1, h2, h3⟩ := both_elim hk
  obtain ⟨v, h4, h5⟩ := h x y K h3
  exact ⟨v, h4, fun K' hk' => by rw [h1, h2]; exact h5 K' hk'⟩
theorem det_key {cx : Cx} {kt : Nat} {k : DV} {F : (AV → Prop) → Prop} (h : Det F) : Det fun K => keyA cx kt k (F K) := by
  unfold keyA
  cases keyB cx kt k with
  | true => exact h
  | false => exact det_false

theorem det_cut {ti : TyI} {cs : List AV} {o : Nat} : Det fun K => cutA ti cs o K := by
  unfold cutA
  cases ti.k.isAgg with
  | true =>
    cases Nat.beq (ltake (ldrop cs o) ti.size).length ti.size with
    | true => exact det_pure _
    | false => exact det_false
  | false =>
    cases nth cs o with
    | some v => exact det_pure _
    | none => exact det_false
theorem det_eqRes {op : BinOp} {r : Bool} : Det fun K => eqRes op r K := by
  cases op <;> first | exact det_pure _ | exact det_false
theorem det_nilCmp {cx : Cx} {op : BinOp} {t : Nat} {yo : Operand} {x y : AV} : Det fun K => nilCmp cx op t yo x y K := by
  unfold nilCmp
  cases isConstA yo with
  | false => exact det_false
  | true =>
    refine det_hasTy fun ti => ?_
    cases ti.k <;> try exact det_false
    all_goals
      cases y <;> try exact det_false
      rename_i d
      cases d <;> try exact det_false
      cases x <;> try exact det_false
      all_goals first | exact det_eqRes | (rename_i d; cases d <;> first | exact det_false | exact det_eqRes)
theorem det_bin {cx : Cx} {op : BinOp} {t : Nat} {yo : Operand} {x y : AV} : Det fun K => binA cx op t yo x y K := by
  unfold binA
  have st : ∀ (a : Option (List DV)), Det fun K => (match a, toD y, cx.S t with
    | some ds, some (.agg ys), some ks => match kindsD ks ds with
      | true => optR (keyEqs ds ys) fun r => eqRes op r K
      | false => False
    | _, _, _ => False) := by
    intro a
    cases a with
    | none => exact det_false
    | some ds =>
      cases toD y with
      | none => exact det_false
      | some d =>
        cases d <;> try exact det_false
        cases cx.S t with
        | none => exact det_false
        | some ks =>
          show Det fun K => match kindsD ks ds with
            | true => optR (keyEqs ds _) fun r => eqRes op r K
            | false => False
          cases kindsD ks ds with
          | false => exact det_false
          | true => exact det_optR fun r => det_eqRes
  have st2 : ∀ (ds : List DV), Det fun K => (match toD y, cx.S t with
    | some (.agg ys), some ks => match kindsD ks ds with
      | true => optR (keyEqs ds ys) fun r => eqRes op r K
      | false => False
    | _, _ => False) := by
    intro ds
    cases toD y with
    | none => exact det_false
    | some d =>
      cases d <;> try exact det_false
      cases cx.S t with
      | none => exact det_false
      | some ks =>
        show Det fun K => match kindsD ks ds with
          | true => optR (keyEqs ds _) fun r => eqRes op r K
          | false => False
        cases kindsD ks ds with
        | false => exact det_false
        | true => exact det_optR fun r => det_eqRes
  cases x with
  | dat d =>
    cases d with
    | int k a =>
      cases y <;> try exact det_false
      rename_i d
      cases d <;> try exact det_false
      rename_i k' b
      show Det fun K => match isShf op with
        | true => ReqA (0 ≤ b) (optR (shfA op k a b) fun d => K (.dat d))
        | false => match kEq k k' with
          | true => match isDiv op with
            | true => ReqA (b ≠ 0) (optR (divA op k a b) fun d => K (.dat d))
            | false => optR (intA op k a b) fun d => K (.dat d)
          | false => False
      cases isShf op with
      | true => exact det_req (det_optR fun d => det_pure _)
      | false =>
        cases kEq k k' with
        | false => exact det_false
        | true =>
          cases isDiv op with
          | true => exact det_req (det_optR fun d => det_pure _)
          | false => exact det_optR fun d => det_pure _
    | str a =>
      cases y <;> try exact det_false
      rename_i d
      cases d <;> try exact det_false
      cases op <;> first | exact det_req (det_pure _) | exact det_optR fun d => det_pure _
    | bool a =>
      cases y <;> try exact det_false
      rename_i d
      cases d <;> try exact det_false
      refine det_hasTy fun ti => ?_
      cases ti.k <;> first | exact det_false | exact det_eqRes
    | agg ds => exact st2 ds
    | _ => exact det_nilCmp
  | agg xs => exact st (toDs xs)
  | _ => exact det_nilCmp
theorem det_lookV {te : TyI} {ok : Bool} {r : Option AV} : Det fun K => lookV te ok r K := by
  unfold lookV
  cases ok <;> cases r <;> exact det_pure _
theorem det_slice {cx : Cx} {ti : TyI} {x : AV} {lo hi mx : Option DV} : Det fun K => sliceA cx ti x lo hi mx K := by
  unfold sliceA
  cases ti.k <;> try exact det_false
  · refine det_hasTy fun te => ?_
    cases x <;> try exact det_false
    · rename_i d
      cases d <;> try exact det_false
      · cases mx with
        | none => exact det_both fun _ _ => det_req (det_pure _)
        | some _ => exact det_false
      · refine det_both fun l h => ?_
        cases mx with
        | none => exact det_req (det_pure _)
        | some d =>
          cases d <;> try exact det_false
          cases hi <;> first | exact det_false | exact det_req (det_pure _)
    · rename_i id off n cap z
      show Det fun K => match Nat.beq z te.size with
        | true => both (optI 0 lo) (optI n hi) fun l h => match mx with
          | none => ReqA (0 ≤ l ∧ l ≤ h ∧ h ≤ n ∧ (l = 0 ∨ l < h)) (K (.sl id (off + l.toNat * te.size) (h.toNat - l.toNat) (cutCap cap l.toNat) te.size))
          | some (.int _ m) => match hi with
            | some _ => ReqA (0 ≤ l ∧ l ≤ h ∧ h ≤ m ∧ m ≤ n ∧ (l = 0 ∨ l < h)) (K (.sl id (off + l.toNat * te.size) (h.toNat - l.toNat) (some (m.toNat - l.toNat)) te.size))
            | none => False
          | some _ => False
        | false => False
      cases Nat.beq z te.size with
      | false => exact det_false
      | true =>
        refine det_both fun l h => ?_
        cases mx with
        | none => exact det_req (det_pure _)
        | some d =>
          cases d <;> try exact det_false
          cases hi <;> first | exact det_false | exact det_req (det_pure _)
  · cases x <;> try exact det_false
    rename_i d
    cases d <;> try exact det_false
    cases mx with
    | none => exact det_both fun _ _ => det_req (det_pure _)
    | some _ => exact det_false

theorem opA_det {cx : Cx} {e : Env} {h : Heap} {o : Op} (hc : clsOf o = .quiet) : Det fun K => opA cx e h o fun v _ => K v := by
  cases o <;> simp only [clsOf, reduceCtorEq] at hc
  case move x => exact det_pure _
  case assign x => exact det_pure _
  case pick c a b =>
    show Det fun K => match evA e c with
      | .dat (.bool t) => condA t (K (evA e a)) (K (evA e b))
      | _ => False
    cases evA e c <;> try exact det_false
    rename_i d
    cases d <;> first | exact det_false | exact det_cond (det_pure _) (det_pure _)
  case build t ps =>
    refine det_hasTy fun ti => ?_
    unfold buildA
    cases ti.k <;> try exact det_false
    · rename_i fs
      show Det fun K => match solid (.dat ti.zero) with
        | true => match fillA (placeSt fs) (cellsOf (.dat ti.zero)) (partsA e ps.toList) with
          | some cs => K (.agg cs)
          | none => False
        | false => False
      cases solid (.dat ti.zero) with
      | false => exact det_false
      | true =>
        cases fillA (placeSt fs) (cellsOf (.dat ti.zero)) (partsA e ps.toList) with
        | none => exact det_false
        | some cs => exact det_pure _
    · refine det_hasTy fun te => ?_
      cases solid (.dat ti.zero) with
      | false => exact det_false
      | true =>
        cases fillA (fun i => some (i * te.size, te.size)) (cellsOf (.dat ti.zero)) (partsA e ps.toList) with
        | none => exact det_false
        | some cs => exact det_pure _
  case load t a =>
    refine det_hasTy fun ti => ?_
    unfold loadA
    cases evA e a <;> try exact det_false
    · rename_i d
      cases d <;> try exact det_false
      · rename_i g
        show Det fun K => match cx.Γ g with
          | some cs => OptA (cutD ti cs 0) fun d => K (.dat d)
          | none => False
        cases cx.Γ g with
        | none => exact det_false
        | some cs => exact det_optA fun d => det_pure _
      · exact det_optA fun d => det_pure _
    · rename_i i o
      show Det fun K => match hget h i with
        | some (.cells cs _ _) => cutA ti cs o K
        | _ => False
      cases hget h i with
      | none => exact det_false
      | some b => cases b <;> first | exact det_false | exact det_cut
  case nilCheck x =>
    show Det fun K => match evA e x with
      | .ptr i o => K (.ptr i o)
      | .dat (.rptr cs o) => K (.dat (.rptr cs o))
      | .dat (.gptr g) => K (.dat (.gptr g))
      | _ => False
    cases evA e x <;> first | exact det_false | exact det_pure _ | (rename_i d; cases d <;> first | exact det_false | exact det_pure _)
  case binOp op t x y yt => exact det_bin
  case unOp op t x =>
    show Det fun K => match op, evA e x with
      | .not, .dat (.bool b) => K (.dat (.bool (!b)))
      | .neg, .dat (.int k n) => K (.dat (.int k (k.wrap (0 - n))))
      | _, _ => False
    cases op <;> cases evA e x <;> first | exact det_false | (rename_i d; cases d <;> first | exact det_false | exact det_pure _)
  case convert a b x =>
    refine det_hasTy fun ts => det_hasTy fun td => ?_
    unfold convA
    cases td.k <;> try exact det_false
    all_goals
      cases evA e x <;> try exact det_false
      rename_i d
      cases d <;> first | exact det_false | exact det_pure _
  case makeInterface t x =>
    refine det_hasTy fun ti => ?_
    unfold mkifcA
    cases ti.k <;> first | exact det_false | exact det_pure _
  case makeFunc fn first caps =>
    show Det fun K => match fn, first.toList with
      | .func f, [] => K (.func f (evs e caps.toList))
      | _, _ => False
    cases fn <;> cases first.toList <;> first | exact det_false | exact det_pure _
  case slice t x lo hi mx =>
    refine det_hasTy fun ti => ?_
    cases opdD e lo <;> cases opdD e hi <;> cases opdD e mx <;> first | exact det_false | exact det_slice
  case fieldAddr t x f =>
    refine det_hasTy fun ti => ?_
    unfold faddrA
    cases ti.k <;> try exact det_false
    rename_i fs
    show Det fun K => match nth fs f with
      | some (off, _, sz) => match sz with
        | 0 => False
        | _ + 1 => match evA e x with
          | .ptr i o => K (.ptr i (o + off))
          | .dat (.rptr cs o) => K (.dat (.rptr cs (o + off)))
          | _ => False
      | none => False
    cases nth fs f with
    | none => exact det_false
    | some p =>
      obtain ⟨off, ft, sz⟩ := p
      cases sz with
      | zero => exact det_false
      | succ n => cases evA e x <;> first | exact det_false | exact det_pure _ | (rename_i d; cases d <;> first | exact det_false | exact det_pure _)
  case field t x f =>
    refine det_hasTy fun ti => ?_
    unfold fieldA
    cases ti.k <;> try exact det_false
    rename_i fs
    show Det fun K => match nth fs f with
      | some (off, ft, _) => hasTy cx ft fun tf => match evA e x with
        | .agg cs => cutA tf cs off K
        | .dat (.agg cs) => cutA tf (cs.map .dat) off K
        | _ => False
      | none => False
    cases nth fs f with
    | none => exact det_false
    | some p =>
      refine det_hasTy fun tf => ?_
      cases evA e x <;> first | exact det_false | exact det_cut | (rename_i d; cases d <;> first | exact det_false | exact det_cut)
  case indexAddr t x i =>
    show Det fun K => match evA e i with
      | .dat d => hasTy cx t fun ti => iaddrA cx ti (evA e x) d fun v => K v
      | _ => False
    cases evA e i <;> try exact det_false
    rename_i d
    refine det_hasTy fun ti => ?_
    unfold iaddrA
    cases d <;> try exact det_false
    cases ti.k <;> try exact det_false
    all_goals
      refine det_hasTy fun te => ?_
      cases evA e x <;> first
        | exact det_false
        | exact det_req (det_pure _)
        | (rename_i d; cases d <;> first
            | exact det_false
            | exact det_req (det_pure _)
            | (rename_i g
               show Det fun K => match cx.Γ g with
                 | some cs => ReqA _ (K (.dat (.rptr cs _)))
                 | none => False
               cases cx.Γ g <;> first | exact det_false | exact det_req (det_pure _)))
  case index t x i =>
    show Det fun K => match evA e x, evA e i with
      | .dat d, .dat j => hasTy cx t fun ti => match ti.k with
        | .str => indexA d j fun v => K v
        | _ => False
      | _, _ => False
    cases evA e x <;> try exact det_false
    cases evA e i <;> try exact det_false
    refine det_hasTy fun ti => ?_
    cases ti.k <;> try exact det_false
    rename_i d j
    cases d <;> try exact det_false
    cases j <;> first | exact det_false | exact det_req (det_pure _)
  case lookup t m k ok =>
    refine det_hasTy fun ti => ?_
    cases toD (evA e k) with
    | none => exact det_false
    | some d =>
      show Det fun K => lookupA cx ti (evA e m) d ok h K
      unfold lookupA
      cases ti.k <;> try exact det_false
      refine det_hasTy fun te => ?_
      cases evA e m <;> try exact det_false
      · rename_i d
        cases d <;> first | exact det_false | exact det_key det_lookV
      · rename_i id
        show Det fun K => match hget h id with
          | some (.mapD es) => keyA cx _ d (LookA es d fun r => lookV te ok (match r with | some d => some (.dat d) | none => none) K)
          | some (.mapA es) => keyA cx _ d (LookA es d fun r => lookV te ok r K)
          | some (.mapB _ _ es) => keyA cx _ d (LookA es d fun r => lookV te ok r K)
          | _ => False
        cases hget h id with
        | none => exact det_false
        | some b => cases b <;> first | exact det_false | exact det_key (det_look fun r => det_lookV)
  case typeAssert x a b ok =>
    refine det_hasTy fun te => ?_
    show Det fun K => tassA te b (evA e x) ok K
    have hv : Det fun K => tassV te b (evA e x) ok K := by
      unfold tassV
      have hok : ∀ u v, Det fun K => tassOk te u b v ok K := by
        intro u v
        unfold tassOk
        cases Nat.beq u b <;> cases ok <;> first | exact det_false | exact det_pure _
      cases evA e x <;> try exact det_false
      · rename_i d
        cases d <;> try exact det_false
        · cases ok <;> first | exact det_false | exact det_pure _
        · exact hok _ _
      · exact hok _ _
    unfold tassA
    cases te.k <;> first | exact det_false | exact hv
  case extract x i =>
    show Det fun K => extractA (evA e x) i K
    unfold extractA
    cases evA e x <;> first
      | exact det_false
      | exact det_optR fun v => det_pure v
      | (rename_i d; cases d <;> first | exact det_false | exact det_optR fun v => det_pure _)
  case call c =>
    obtain ⟨callee, args, ts⟩ := c
    cases callee with
    | value f => simp at hc
    | invoke r m => simp at hc
    | builtin b =>
      cases b <;> simp only [reduceCtorEq] at hc
      · show Det fun K => match ts.toList, args.toList with
          | [t], [x] => hasTy cx t fun ti => lenA ti (evA e x) h fun a => K a
          | _, _ => False
        generalize ts.toList = tl
        generalize args.toList = al
        match tl, al with
        | [t], [x] =>
          refine det_hasTy fun ti => ?_
          unfold lenA
          cases ti.k <;> try exact det_false
          all_goals
            cases evA e x <;> first
              | exact det_false
              | exact det_pure _
              | (rename_i d; cases d <;> first | exact det_false | exact det_pure _)
              | (rename_i id
                 show Det fun K => match hget h id with
                   | some (.mapD es) => K (.dat (.int .i64 es.length))
                   | some (.mapA es) => K (.dat (.int .i64 es.length))
                   | _ => False
                 cases hget h id with
                 | none => exact det_false
                 | some b => cases b <;> first | exact det_false | exact det_pure _)
        | [], _ => exact det_false
        | [_], [] => exact det_false
        | [_], _ :: _ :: _ => exact det_false
        | _ :: _ :: _, _ => exact det_false
      · exact det_optR fun v => det_pure v
      · exact det_optR fun v => det_pure v

end Go.Abs

namespace Go.Abs

/-! Operations that make a block. -/
def allocV (cx : Cx) (e : Env) (o : Op) : Option ((Nat → AV) × AB) := match o with
  | .alloc t => match cx.T t with
    | some ti => match solid (.dat ti.zero) with
      | true => some (fun i => .ptr i 0, .cells (cellsOf (.dat ti.zero)) t false)
      | false => none
    | none => none
  | .box t x => match solid (evA e x) with
    | true => some (fun i => .ptr i 0, .cells (cellsOf (evA e x)) t false)
    | false => none
  | .buildSlice t n ps => match cx.T t with
    | some ti => match ti.k with
      | .slc el => match cx.T el with
        | some te => match bsliceC te n (partsA e ps.toList) with
          | some cs => some (fun i => .sl i 0 n (some n) te.size, .cells cs el false)
          | none => none
        | none => none
      | _ => none
    | none => none
  | .makeMap _ r => match r with
    | none => some (fun i => .map i, .mapD [])
    | some _ => none
  | _ => none
theorem allocV_congr {cx : Cx} {e e' : Env} {o : Op} (hq : ∀ x ∈ o.operands, evA e x = evA e' x) : allocV cx e o = allocV cx e' o := by
  cases o with
  | box t x => simp only [allocV, hq x (by simp [Op.operands])]
  | buildSlice t n ps => simp only [allocV, partsA_congr (e := e) (e' := e') (l := ps.toList) (fun p hp => hq p.2 (by simp [Op.operands]; exact ⟨p.1, by simpa using hp⟩))]
  | _ => rfl
theorem allocV_sound {cx : Cx} (ok : CxOK cx) {e : Env} {oper : Oper} {mk : Nat → AV} {b : AB} (ha : allocV cx e oper.op = some (mk, b)) {s : Wd} {ev : Operand → Value} (himm : ∀ n, s.I n → n < s.w.heap.size) (he : EvR s e ev) :
    ∃ v ob, (execOp ev oper).run cx.P s.w = .ok (.value v) (s.w.alloc ob) ∧ ∀ i, s.ρ i = none → Rel (s.alloc i ob) (mk i) v ∧ RelB (s.alloc i ob) b ob := by
  obtain ⟨dst, op, ty, pos, after, guard⟩ := oper
  simp only at ha
  unfold execOp
  have cells : ∀ (a : AV) (u : Value) (t : Nat), Rel s a u → solid a = true → ∀ i, s.ρ i = none →
      Rel (s.alloc i (.cells u.cells t)) (.ptr i 0) (.pointer (some ⟨s.w.heap.size, 0, none⟩)) ∧ RelB (s.alloc i (.cells u.cells t)) (.cells (cellsOf a) t false) (.cells u.cells t) := by
    intro a u t hr hs i hi
    obtain ⟨hc1, hc2⟩ := rel_cells hr hs
    have g := grows_alloc' himm i hi (.cells u.cells t)
    exact ⟨by simp only [Rel]; exact ⟨_, by simp [Wd.alloc], rfl⟩, ⟨_, rfl, rels_mono g _ _ hc2, fun _ => hc1.symm⟩⟩
  unfold allocV at ha
  split at ha <;> try cases ha
  all_goals simp only
  · rename_i t
    split at ha <;> try cases ha
    rename_i ti hti
    split at ha <;> try cases ha
    rename_i hs
    obtain ⟨info, desc, z, hi, hu, _, _, hz, hzr, _⟩ := ok.types t ti hti
    refine ⟨_, _, ?_, cells (.dat ti.zero) z t (by simpa [Rel] using hzr s.I s.w) hs⟩
    simp [Instr.alloc, zeroValue, typeInfo, hi, hz, newVar, newRow]
  · rename_i t x
    split at ha <;> try cases ha
    rename_i hs
    refine ⟨_, _, ?_, cells (evA e x) (ev x) t (he x) hs⟩
    simp [Instr.box, newVar, newRow]
  · rename_i t n ps
    split at ha <;> try cases ha
    rename_i ti hti
    split at ha <;> try cases ha
    rename_i el hk
    split at ha <;> try cases ha
    rename_i te hte
    split at ha <;> try cases ha
    rename_i cs hc
    obtain ⟨out, hrun, hr, hrl, hos, hmx⟩ := bslice_run ok hti he n ps hk hte hc
    refine ⟨.slice (some ⟨s.w.heap.size, 0, none⟩) n n, .cells out el, by rw [Sem.run_bind, hrun]; rfl, fun i hi => ?_⟩
    have g := grows_alloc' himm i hi (.cells out el)
    refine ⟨?_, ⟨_, rfl, rels_mono g _ _ hr, fun _ => hrl.symm⟩⟩
    simp only [Rel]
    exact ⟨s.w.heap.size, n, out, el, (0, 0), by simp [Wd.alloc], rfl, Nat.le_refl _, hmx, by simp, heap_alloc_new s.w _, by rw [hos]; simp⟩
  · split at ha <;> try cases ha
    refine ⟨.map (some s.w.heap.size), .map #[] 0, by simp [Instr.makeMap], fun i hi => ⟨by simp only [Rel]; exact ⟨_, by simp [Wd.alloc], rfl⟩, ⟨#[], 0, rfl, trivial, by simp, by simp⟩⟩⟩

/-! The plan of a region: its operations in a row, each with the operations that must come before it. -/
def isBind (g : Ground) : Bool := match g with
  | .textOnly _ => false
  | .gcOnly _ => false
  | _ => true
theorem isBind_eq (e : Edge) : isBind e.ground = Region.binds .any e := by
  obtain ⟨on, g⟩ := e; cases g <;> rfl
def has (m i : Nat) : Bool := Nat.beq (Nat.land (Nat.shiftRight m i) 1) 1
theorem has_eq (m i : Nat) : has m i = Nat.testBit m i := by
  unfold has
  rw [Nat.testBit_eq_decide_div_mod_eq]
  have h1 : Nat.land (Nat.shiftRight m i) 1 = m / 2 ^ i % 2 := by
    show (m >>> i) &&& 1 = _
    rw [Nat.and_one_is_mod, Nat.shiftRight_eq_div_pow]
  rw [h1]
  rw [Bool.eq_iff_iff]
  simp [Nat.beq_eq]
theorem has_lor (a b i : Nat) : has (Nat.lor a b) i = (has a i || has b i) := by
  simp only [has_eq]; exact Nat.testBit_or a b i
theorem has_one (k i : Nat) : has (Nat.shiftLeft 1 k) i = Nat.beq i k := by
  rw [has_eq]
  show Nat.testBit (1 <<< k) i = _
  rw [Nat.one_shiftLeft, Nat.testBit_two_pow, Bool.eq_iff_iff]
  simp only [decide_eq_true_eq, Nat.beq_eq]
  exact ⟨Eq.symm, Eq.symm⟩
theorem has_zero (i : Nat) : has 0 i = false := by rw [has_eq]; simp
theorem has_sub {a b i : Nat} (h : Nat.land a b = a) (hi : has a i = true) : has b i = true := by
  have : has (Nat.land a b) i = (has a i && has b i) := by simp only [has_eq]; exact Nat.testBit_and a b i
  rw [h, hi] at this
  simpa using this.symm
structure Info where
  i : Nat
  o : Oper
  m : Nat
noncomputable def mkInfos (all : List Oper) (l : List (Nat × Nat)) : List Info :=
  List.rec (motive := fun _ => List Info) [] (fun q _ ih => match nth all q.1 with
    | some o => ⟨q.1, o, q.2⟩ :: ih
    | none => ih) l
theorem mkInfos_cons {all : List Oper} {q : Nat × Nat} {r : List (Nat × Nat)} : mkInfos all (q :: r) = (match nth all q.1 with
    | some o => ⟨q.1, o, q.2⟩ :: mkInfos all r
    | none => mkInfos all r) := rfl
theorem mkInfos_mem {all : List Oper} : ∀ {p : List (Nat × Nat)} {x : Info}, x ∈ mkInfos all p → all[x.i]? = some x.o
  | [], x, h => by simp [mkInfos] at h
  | (i, m) :: r, x, h => by
    rw [mkInfos_cons] at h
    split at h
    · rename_i o ho
      simp only [List.mem_cons] at h
      rcases h with rfl | h
      · rw [nth_eq] at ho; exact ho
      · exact mkInfos_mem h
    · exact mkInfos_mem h
def isEv (o : Oper) : Bool := match clsOf o.op with
  | .event => true
  | _ => false
def usesTmp (o : Oper) (t : Nat) : Bool := o.op.operands.toList.any fun x => match x with
  | .tmp u => Nat.beq u t
  | _ => false
def maskOf (l : List Info) (j : Nat) : Nat := match l with
  | [] => 0
  | y :: r => match Nat.beq y.i j with
    | true => y.m
    | false => maskOf r j
def emask (l : List Info) : List Edge → Nat
  | [] => 0
  | e :: r => match isBind e.ground with
    | true => Nat.lor (Nat.lor (Nat.shiftLeft 1 e.on) (maskOf l e.on)) (emask l r)
    | false => emask l r
def chk1 (n : Nat) (l : List Info) (x : Info) : Bool :=
  Nat.beq x.m (emask l x.o.after.toList) &&
  (match x.o.dst with | some d => Nat.blt d n | none => true) &&
  (match x.o.guard with | none => true | some (g, _) => has x.m g)
def chk2 (x y : Info) : Bool :=
  match y.o.dst with
    | none => true
    | some d => (Nat.beq y.i x.i || (match x.o.dst with | some d' => !Nat.beq d d' | none => true)) && (!usesTmp x.o d || has x.m y.i)
/-- The row is laid so that each comes after what it waits for; what comes after an event waits for it. -/
def chkS (seen : Nat) : List Info → Bool
  | [] => true
  | x :: r => Nat.beq (Nat.land x.m seen) x.m && !has seen x.i && (!isEv x.o || r.all fun y => has y.m x.i) && chkS (Nat.lor seen (Nat.shiftLeft 1 x.i)) r
def seenOf (l : List Info) : Nat := match l with
  | [] => 0
  | x :: r => Nat.lor (Nat.shiftLeft 1 x.i) (seenOf r)
def chk (n size : Nat) (l : List Info) : Bool :=
  Nat.beq (Nat.shiftLeft 1 size) (Nat.succ (seenOf l)) && chkS 0 l && l.all fun x => chk1 n l x && l.all fun y => chk2 x y

structure Plan (n : Nat) (ops : Array Oper) (l : List Info) : Prop where
  mem : ∀ x ∈ l, ops[x.i]? = some x.o
  ex : ∀ i o, ops[i]? = some o → ∃ x ∈ l, x.i = i ∧ x.o = o
  inj : ∀ x ∈ l, ∀ y ∈ l, x.i = y.i → x = y
  edge : ∀ x ∈ l, ∀ e ∈ x.o.after.toList, isBind e.ground = true → has x.m e.on = true
  mask : ∀ x ∈ l, ∀ j, has x.m j = true → ∃ e ∈ x.o.after.toList, isBind e.ground = true ∧ (j = e.on ∨ ∃ y ∈ l, y.i = e.on ∧ has y.m j = true)
  dstn : ∀ x ∈ l, ∀ d, x.o.dst = some d → d < n
  guard : ∀ x ∈ l, ∀ g b, x.o.guard = some (g, b) → has x.m g = true
  dsts : ∀ x ∈ l, ∀ y ∈ l, ∀ d, x.o.dst = some d → y.o.dst = some d → x = y
  uses : ∀ x ∈ l, ∀ y ∈ l, ∀ d, y.o.dst = some d → .tmp d ∈ x.o.op.operands.toList → has x.m y.i = true
  row : ∀ pre x post, l = pre ++ x :: post → (∀ j, has x.m j = true → ∃ y ∈ pre, y.i = j) ∧ (∀ y ∈ pre, y.i ≠ x.i) ∧ (isEv x.o = true → ∀ y ∈ post, has y.m x.i = true)

theorem maskOf_mem {l : List Info} {j k : Nat} (h : has (maskOf l j) k = true) : ∃ y ∈ l, y.i = j ∧ has y.m k = true := by
  induction l with
  | nil => simp [maskOf, has_zero] at h
  | cons y r ih =>
    simp only [maskOf] at h
    split at h
    · rename_i hb; exact ⟨y, by simp, Nat.eq_of_beq_eq_true hb, h⟩
    · obtain ⟨z, h1, h2⟩ := ih h; exact ⟨z, by simp [h1], h2⟩
theorem emask_edge {l : List Info} {es : List Edge} {e : Edge} (h : e ∈ es) (hb : isBind e.ground = true) : has (emask l es) e.on = true := by
  induction es with
  | nil => simp at h
  | cons e' r ih =>
    simp only [emask]
    simp only [List.mem_cons] at h
    rcases h with rfl | h
    · rw [hb]; simp only; rw [has_lor, has_lor, has_one, Nat.beq_refl]; rfl
    · split
      · rw [has_lor, ih h, Bool.or_true]
      · exact ih h
theorem emask_mem {l : List Info} {es : List Edge} {j : Nat} (h : has (emask l es) j = true) : ∃ e ∈ es, isBind e.ground = true ∧ (j = e.on ∨ ∃ y ∈ l, y.i = e.on ∧ has y.m j = true) := by
  induction es with
  | nil => simp [emask, has_zero] at h
  | cons e' r ih =>
    simp only [emask] at h
    split at h
    · rename_i hb
      rw [has_lor, has_lor, has_one] at h
      simp only [Bool.or_eq_true] at h
      rcases h with (h | h) | h
      · exact ⟨e', by simp, hb, .inl (Nat.eq_of_beq_eq_true h)⟩
      · exact ⟨e', by simp, hb, .inr (maskOf_mem h)⟩
      · obtain ⟨e, h1, h2⟩ := ih h; exact ⟨e, by simp [h1], h2⟩
    · obtain ⟨e, h1, h2⟩ := ih h; exact ⟨e, by simp [h1], h2⟩
theorem seenOf_mem {l : List Info} {j : Nat} : has (seenOf l) j = true ↔ ∃ y ∈ l, y.i = j := by
  induction l with
  | nil => simp [seenOf, has_zero]
  | cons y r ih =>
    simp only [seenOf, has_lor, has_one, Bool.or_eq_true, ih, List.mem_cons]
    constructor
    · rintro (h | ⟨z, h1, h2⟩)
      · exact ⟨y, .inl rfl, (Nat.eq_of_beq_eq_true h).symm⟩
      · exact ⟨z, .inr h1, h2⟩
    · rintro ⟨z, rfl | h1, h2⟩
      · left; rw [h2]; simp
      · exact .inr ⟨z, h1, h2⟩
theorem chkS_row : ∀ {l : List Info} {seen : Nat}, chkS seen l = true → ∀ pre x post, l = pre ++ x :: post →
    (∀ j, has x.m j = true → has seen j = true ∨ ∃ y ∈ pre, y.i = j) ∧ (has seen x.i = false ∧ ∀ y ∈ pre, y.i ≠ x.i) ∧ (isEv x.o = true → ∀ y ∈ post, has y.m x.i = true)
  | [], seen, _, pre, x, post, e => by cases pre <;> cases e
  | z :: r, seen, h, pre, x, post, e => by
    simp only [chkS, Bool.and_eq_true, Bool.not_eq_true', Bool.or_eq_true, List.all_eq_true] at h
    obtain ⟨⟨⟨h1, h2⟩, h3⟩, h4⟩ := h
    cases pre with
    | nil =>
      simp only [List.nil_append, List.cons.injEq] at e
      obtain ⟨rfl, rfl⟩ := e
      refine ⟨fun j hj => .inl (has_sub (Nat.eq_of_beq_eq_true h1) hj), ⟨h2, by simp⟩, fun he => ?_⟩
      rcases h3 with h3 | h3
      · rw [he] at h3; cases h3
      · exact h3
    | cons p pre =>
      simp only [List.cons_append, List.cons.injEq] at e
      obtain ⟨rfl, e⟩ := e
      obtain ⟨k1, k2, k3⟩ := chkS_row h4 pre x post e
      refine ⟨fun j hj => ?_, ⟨?_, fun y hy => ?_⟩, k3⟩
      · rcases k1 j hj with k | ⟨y, hy, hyj⟩
        · rw [has_lor, has_one] at k
          simp only [Bool.or_eq_true] at k
          rcases k with k | k
          · exact .inl k
          · exact .inr ⟨z, by simp, (Nat.eq_of_beq_eq_true k).symm⟩
        · exact .inr ⟨y, by simp [hy], hyj⟩
      · have := k2.1
        rw [has_lor] at this
        simp only [Bool.or_eq_false_iff] at this
        exact this.1
      · simp only [List.mem_cons] at hy
        rcases hy with rfl | hy
        · intro e2
          have := k2.1
          rw [has_lor, has_one, e2] at this
          simp at this
        · exact k2.2 y hy

theorem plan_of_chk {n : Nat} {ops : Array Oper} {p : List (Nat × Nat)} (h : chk n ops.size (mkInfos ops.toList p) = true) : Plan n ops (mkInfos ops.toList p) := by
  simp only [chk, Bool.and_eq_true] at h
  obtain ⟨⟨h0, hS⟩, hall⟩ := h
  generalize hl : mkInfos ops.toList p = l at *
  have h1 : ∀ x ∈ l, chk1 n l x = true ∧ ∀ y ∈ l, chk2 x y = true := fun x hx => by
    have := List.all_eq_true.1 hall x hx
    simp only [Bool.and_eq_true] at this
    exact ⟨this.1, fun y hy => List.all_eq_true.1 this.2 y hy⟩
  have hmem : ∀ x ∈ l, ops[x.i]? = some x.o := fun x hx => by rw [← hl] at hx; simpa using mkInfos_mem hx
  have row := chkS_row hS
  have inj : ∀ x ∈ l, ∀ y ∈ l, x.i = y.i → x = y := fun x hx y hy e => by
    obtain ⟨p1, s1, rfl⟩ := List.append_of_mem hx
    have := (row p1 x s1 rfl).2.1.2
    simp only [List.mem_append, List.mem_cons] at hy
    rcases hy with hy | rfl | hy
    · exact absurd e.symm (this y hy)
    · rfl
    · obtain ⟨p2, s2, hs⟩ := List.append_of_mem hy
      have := (row (p1 ++ x :: p2) y s2 (by rw [hs]; simp)).2.1.2 x (by simp)
      exact absurd e this
  have hmask : ∀ x ∈ l, x.m = emask l x.o.after.toList := fun x hx => by
    have := (h1 x hx).1
    simp only [chk1, Bool.and_eq_true] at this
    exact Nat.eq_of_beq_eq_true this.1.1
  refine ⟨hmem, fun i o ho => ?_, inj, fun x hx e he hb => by rw [hmask x hx]; exact emask_edge he hb, fun x hx j hj => by rw [hmask x hx] at hj; exact emask_mem hj, fun x hx d hd => ?_, fun x hx g b hg => ?_, fun x hx y hy d hd1 hd2 => ?_, fun x hx y hy d hd hu => ?_, fun pre x post e => ?_⟩
  · have hi : i < ops.size := (Array.getElem?_eq_some_iff.1 ho).1
    have hs : seenOf l = 2 ^ ops.size - 1 := by
      have := Nat.eq_of_beq_eq_true h0
      have h2 : (1 <<< ops.size : Nat) = seenOf l + 1 := this
      rw [Nat.one_shiftLeft] at h2
      omega
    have : has (seenOf l) i = true := by
      rw [has_eq, hs, Nat.testBit_two_pow_sub_one]; simpa using hi
    obtain ⟨y, hy, rfl⟩ := seenOf_mem.1 this
    exact ⟨y, hy, rfl, by rw [hmem y hy] at ho; exact Option.some.inj ho⟩
  · have := (h1 x hx).1
    simp only [chk1, Bool.and_eq_true] at this
    have := this.1.2
    rw [hd] at this
    simp only at this
    rwa [Nat.blt_eq] at this
  · have := (h1 x hx).1
    simp only [chk1, Bool.and_eq_true] at this
    have := this.2
    rw [hg] at this
    exact this
  · have := (h1 x hx).2 y hy
    simp only [chk2] at this
    rw [hd2, hd1] at this
    simp only [Bool.and_eq_true, Bool.or_eq_true] at this
    rcases this.1 with h | h
    · exact inj x hx y hy (Nat.eq_of_beq_eq_true h).symm
    · simp at h
  · have := (h1 x hx).2 y hy
    simp only [chk2] at this
    rw [hd] at this
    simp only [Bool.and_eq_true, Bool.or_eq_true, Bool.not_eq_true'] at this
    rcases this.2 with h | h
    · exfalso
      have : usesTmp x.o d = true := by
        unfold usesTmp
        exact List.any_eq_true.2 ⟨.tmp d, hu, by simp⟩
      rw [h] at this; cases this
    · exact h
  · obtain ⟨k1, k2, k3⟩ := row pre x post e
    refine ⟨fun j hj => ?_, k2.2, k3⟩
    rcases k1 j hj with k | k
    · simp [has_zero] at k
    · exact k

end Go.Abs

namespace Go.Abs

/-! Heaps with blocks taken out and put back. -/
def hideP (p : Nat → Bool) (h : Heap) : List (Nat × Nat) → Heap
  | [] => h
  | (y, id) :: r => match p y with
    | true => hideP p h r
    | false => hset (hideP p h r) id none
def refillP (p : Nat → Bool) (h h' : Heap) : List (Nat × Nat) → Heap
  | [] => h'
  | (y, id) :: r => match p y with
    | true => refillP p h h' r
    | false => match hget h id with
      | some b => hset (refillP p h h' r) id (some b)
      | none => refillP p h h' r
theorem hideP_length (p : Nat → Bool) (h : Heap) (al : List (Nat × Nat)) : (hideP p h al).length = h.length := by
  induction al with
  | nil => rfl
  | cons q r ih =>
    obtain ⟨y, id⟩ := q
    simp only [hideP]; split
    · exact ih
    · rw [hset_length]; exact ih
theorem hideP_out {p : Nat → Bool} {h : Heap} {al : List (Nat × Nat)} {i : Nat} (hl : ∀ q ∈ al, q.2 < h.length) (hx : ∃ y, (y, i) ∈ al ∧ p y = false) : hget (hideP p h al) i = none := by
  induction al with
  | nil => obtain ⟨y, h, _⟩ := hx; simp at h
  | cons q r ih =>
    obtain ⟨y', id⟩ := q
    have hl' : ∀ q ∈ r, q.2 < h.length := fun q hq => hl q (by simp [hq])
    have hid : id < (hideP p h r).length := by rw [hideP_length]; exact hl (y', id) (by simp)
    simp only [hideP]
    obtain ⟨y, hm, hp⟩ := hx
    simp only [List.mem_cons] at hm
    rcases hm with e | hm
    · cases e; rw [hp]; simp only; rw [hget_hset _ _ _ _ hid]; simp
    · have := ih hl' ⟨y, hm, hp⟩
      split
      · exact this
      · rw [hget_hset _ _ _ _ hid]; split
        · rfl
        · exact this
theorem hideP_in {p : Nat → Bool} {h : Heap} {al : List (Nat × Nat)} {i : Nat} (hl : ∀ q ∈ al, q.2 < h.length) (hx : ∀ y, (y, i) ∈ al → p y = true) : hget (hideP p h al) i = hget h i := by
  induction al with
  | nil => rfl
  | cons q r ih =>
    obtain ⟨y', id⟩ := q
    have hl' : ∀ q ∈ r, q.2 < h.length := fun q hq => hl q (by simp [hq])
    have hid : id < (hideP p h r).length := by rw [hideP_length]; exact hl (y', id) (by simp)
    have := ih hl' (fun y hy => hx y (by simp [hy]))
    simp only [hideP]
    split
    · exact this
    · rename_i hf
      rw [hget_hset _ _ _ _ hid, if_neg, this]
      intro e; subst e
      have := hx y' (by simp); rw [hf] at this; cases this
theorem hideP_cases (p : Nat → Bool) (h : Heap) (al : List (Nat × Nat)) (hl : ∀ q ∈ al, q.2 < h.length) (i : Nat) :
    ((∃ y, (y, i) ∈ al ∧ p y = false) ∧ hget (hideP p h al) i = none) ∨ ((∀ y, (y, i) ∈ al → p y = true) ∧ hget (hideP p h al) i = hget h i) := by
  by_cases hx : ∃ y, (y, i) ∈ al ∧ p y = false
  · exact .inl ⟨hx, hideP_out hl hx⟩
  · have : ∀ y, (y, i) ∈ al → p y = true := fun y hy => by
      cases hp : p y with
      | true => rfl
      | false => exact absurd ⟨y, hy, hp⟩ hx
    exact .inr ⟨this, hideP_in hl this⟩
theorem hideP_sub {p p' : Nat → Bool} (hpp : ∀ y, p y = true → p' y = true) (h : Heap) (al : List (Nat × Nat)) (hl : ∀ q ∈ al, q.2 < h.length) : Sub (hideP p h al) (hideP p' h al) := by
  refine ⟨by rw [hideP_length, hideP_length], fun i b hb => ?_⟩
  rcases hideP_cases p h al hl i with ⟨_, e⟩ | ⟨h1, e⟩
  · rw [e] at hb; cases hb
  · rw [hideP_in hl (fun y hy => hpp y (h1 y hy)), ← e]; exact hb
theorem refillP_length (p : Nat → Bool) (h h' : Heap) (al : List (Nat × Nat)) : (refillP p h h' al).length = h'.length := by
  induction al with
  | nil => rfl
  | cons q r ih =>
    obtain ⟨y, id⟩ := q
    simp only [refillP]; split
    · exact ih
    · split
      · rw [hset_length]; exact ih
      · exact ih
theorem refillP_in {p : Nat → Bool} {h h' : Heap} {al : List (Nat × Nat)} {i : Nat} (hl : ∀ q ∈ al, q.2 < h'.length) (hx : ∃ y, (y, i) ∈ al ∧ p y = false) {b : AB} (hb : hget h i = some b) : hget (refillP p h h' al) i = some b := by
  induction al with
  | nil => obtain ⟨y, h, _⟩ := hx; simp at h
  | cons q r ih =>
    obtain ⟨y', id⟩ := q
    have hl' : ∀ q ∈ r, q.2 < h'.length := fun q hq => hl q (by simp [hq])
    have hid : id < (refillP p h h' r).length := by rw [refillP_length]; exact hl (y', id) (by simp)
    simp only [refillP]
    obtain ⟨y, hm, hp⟩ := hx
    simp only [List.mem_cons] at hm
    rcases hm with e | hm
    · cases e; rw [hp]; simp only; rw [hb]; simp only; rw [hget_hset _ _ _ _ hid]; simp
    · have := ih hl' ⟨y, hm, hp⟩
      split
      · exact this
      · split
        · rename_i b' hb'
          rw [hget_hset _ _ _ _ hid]; split
          · rename_i e; subst e; rw [hb] at hb'; cases hb'; rfl
          · exact this
        · exact this
theorem refillP_out {p : Nat → Bool} {h h' : Heap} {al : List (Nat × Nat)} {i : Nat} (hl : ∀ q ∈ al, q.2 < h'.length) (hx : (∀ y, (y, i) ∈ al → p y = true) ∨ hget h i = none) : hget (refillP p h h' al) i = hget h' i := by
  induction al with
  | nil => rfl
  | cons q r ih =>
    obtain ⟨y', id⟩ := q
    have hl' : ∀ q ∈ r, q.2 < h'.length := fun q hq => hl q (by simp [hq])
    have hid : id < (refillP p h h' r).length := by rw [refillP_length]; exact hl (y', id) (by simp)
    have := ih hl' (hx.imp (fun hx y hy => hx y (by simp [hy])) _root_.id)
    simp only [refillP]
    split
    · exact this
    · rename_i hf
      split
      · rename_i b hb
        rw [hget_hset _ _ _ _ hid, if_neg, this]
        intro e; subst e
        rcases hx with hx | hx
        · have := hx y' (by simp); rw [hf] at this; cases this
        · rw [hb] at hx; cases hx
      · exact this

/-! The formula. -/
def readsH (o : Op) : Bool := match o with
  | .load .. => true
  | .lookup .. => true
  | .call _ => true
  | _ => false
structure EqA (a b : AV) (rest : Prop) : Prop where
  h : a = b
  k : rest
theorem eqA {a : AV} {rest : Prop} (h : rest) : EqA a a rest := ⟨rfl, h⟩
theorem eqA_elim {a b : AV} {rest : Prop} (h : EqA a b rest) : a = b ∧ rest := ⟨h.h, h.k⟩
def eqS (v : AV) (d : Option Nat) (e : Env) (rest : Prop) : Prop := match d with
  | none => rest
  | some d => EqA v (e d) rest
def slotIs (v : AV) (d : Option Nat) (e : Env) : Prop := match d with
  | none => True
  | some d => e d = v
theorem eqS_elim {v : AV} {d : Option Nat} {e : Env} {rest : Prop} (h : eqS v d e rest) : slotIs v d e ∧ rest := by
  cases d with
  | none => exact ⟨trivial, h⟩
  | some d => obtain ⟨h1, h2⟩ := eqA_elim h; exact ⟨h1.symm, h2⟩
def pendA (cx : Cx) (all : List Oper) (m : Nat) (e : Env) (h : Heap) (rest : Prop) (l : List Info) : Prop :=
  List.rec (motive := fun _ => Prop) rest (fun y _ ih => match has m y.i with
    | true => ih
    | false => guardA all y.o.guard e (opA cx e h y.o.op fun v _ => eqS v y.o.dst e ih) ih) l
theorem pendA_cons {cx : Cx} {all : List Oper} {m : Nat} {e : Env} {h : Heap} {rest : Prop} {y : Info} {r : List Info} : pendA cx all m e h rest (y :: r) = (match has m y.i with
    | true => pendA cx all m e h rest r
    | false => guardA all y.o.guard e (opA cx e h y.o.op fun v _ => eqS v y.o.dst e (pendA cx all m e h rest r)) (pendA cx all m e h rest r)) := rfl
def consIf (b : Bool) (x : Info) (l : List Info) : List Info := match b with
  | true => x :: l
  | false => l
def drawA (cx : Cx) (n : Nat) (all : List Oper) (K : Env → Heap → Prop) (l : List Info) : Env → Heap → List (Nat × Nat) → List Info → Prop :=
  List.rec (motive := fun _ => Env → Heap → List (Nat × Nat) → List Info → Prop) (fun e h _ _ => K e h) (fun x _ ih e h al rd => match clsOf x.o.op with
    | .quiet => guardA all x.o.guard e
        (opA cx e h x.o.op fun v _ => putA n x.o.dst v e fun e' => ih e' h al (consIf (readsH x.o.op) x rd))
        (putA n x.o.dst (.dat (.tup [])) e fun e' => ih e' h al (consIf (readsH x.o.op) x rd))
    | .alloc => guardA all x.o.guard e
        (match allocV cx e x.o.op with
          | some (mk, b) => putA n x.o.dst (mk h.length) e fun e' => forceH (h ++ [some b]) fun h2 => ih e' h2 ((x.i, h.length) :: al) rd
          | none => False)
        (putA n x.o.dst (.dat (.tup [])) e fun e' => ih e' h al rd)
    | .event => guardA all x.o.guard e
        (forceH (hideP (has x.m) h al) fun hh => opA cx e hh x.o.op fun v h' => putA n x.o.dst v e fun e' =>
          forceH (refillP (has x.m) h h' al) fun h2 => pendA cx all x.m e' h2 (ih e' h2 al rd) rd)
        (putA n x.o.dst (.dat (.tup [])) e fun e' => ih e' h al rd)) l
theorem drawA_cons {cx : Cx} {n : Nat} {all : List Oper} {K : Env → Heap → Prop} {x : Info} {r : List Info} {e : Env} {h : Heap} {al : List (Nat × Nat)} {rd : List Info} : drawA cx n all K (x :: r) e h al rd = (match clsOf x.o.op with
    | .quiet => guardA all x.o.guard e
        (opA cx e h x.o.op fun v _ => putA n x.o.dst v e fun e' => drawA cx n all K r e' h al (consIf (readsH x.o.op) x rd))
        (putA n x.o.dst (.dat (.tup [])) e fun e' => drawA cx n all K r e' h al (consIf (readsH x.o.op) x rd))
    | .alloc => guardA all x.o.guard e
        (match allocV cx e x.o.op with
          | some (mk, b) => putA n x.o.dst (mk h.length) e fun e' => drawA cx n all K r e' (h ++ [some b]) ((x.i, h.length) :: al) rd
          | none => False)
        (putA n x.o.dst (.dat (.tup [])) e fun e' => drawA cx n all K r e' h al rd)
    | .event => guardA all x.o.guard e
        (opA cx e (hideP (has x.m) h al) x.o.op fun v h' => putA n x.o.dst v e fun e' =>
          pendA cx all x.m e' (refillP (has x.m) h h' al) (drawA cx n all K r e' (refillP (has x.m) h h' al) al rd) rd)
        (putA n x.o.dst (.dat (.tup [])) e fun e' => drawA cx n all K r e' h al rd)) := by
  have e1 : drawA cx n all K (x :: r) e h al rd = (match clsOf x.o.op with
        | .quiet => guardA all x.o.guard e
            (opA cx e h x.o.op fun v _ => putA n x.o.dst v e fun e' => drawA cx n all K r e' h al (consIf (readsH x.o.op) x rd))
            (putA n x.o.dst (.dat (.tup [])) e fun e' => drawA cx n all K r e' h al (consIf (readsH x.o.op) x rd))
        | .alloc => guardA all x.o.guard e
            (match allocV cx e x.o.op with
              | some (mk, b) => putA n x.o.dst (mk h.length) e fun e' => forceH (h ++ [some b]) fun h2 => drawA cx n all K r e' h2 ((x.i, h.length) :: al) rd
              | none => False)
            (putA n x.o.dst (.dat (.tup [])) e fun e' => drawA cx n all K r e' h al rd)
        | .event => guardA all x.o.guard e
            (forceH (hideP (has x.m) h al) fun hh => opA cx e hh x.o.op fun v h' => putA n x.o.dst v e fun e' =>
              forceH (refillP (has x.m) h h' al) fun h2 => pendA cx all x.m e' h2 (drawA cx n all K r e' h2 al rd) rd)
            (putA n x.o.dst (.dat (.tup [])) e fun e' => drawA cx n all K r e' h al rd)) := rfl
  rw [e1]
  simp only [forceH_eq]

/-! Small laws. -/
theorem opA_noheap {cx : Cx} {e : Env} {h h' : Heap} {o : Op} (hc : clsOf o = .quiet) (hr : readsH o = false) {K : AV → Prop} (hk : opA cx e h o fun v _ => K v) : opA cx e h' o fun v _ => K v := by
  cases o <;> simp only [clsOf, readsH, reduceCtorEq] at hc hr <;> exact hk
theorem opA_quiet {cx : Cx} {e : Env} {h : Heap} {o : Op} (hc : clsOf o = .quiet) {K : AV → Heap → Prop} (hk : opA cx e h o fun v _ => K v h) : opA cx e h o K := by
  cases o <;> simp only [clsOf, reduceCtorEq] at hc <;> try exact hk
  case call c =>
    obtain ⟨callee, args, ts⟩ := c
    cases callee with
    | value f => simp at hc
    | invoke r m => simp at hc
    | builtin b => cases b <;> simp only [reduceCtorEq] at hc <;> exact hk
theorem opA_more {cx : Cx} {e : Env} {h h' : Heap} {o : Op} (hc : clsOf o = .quiet) {K : AV → Prop}
    (hg : ∀ x ∈ o.operands, ∀ id, ((∃ off, evA e x = .ptr id off) ∨ evA e x = .map id) → ∀ b, hget h id = some b → hget h' id = some b) (hk : opA cx e h o fun v _ => K v) : opA cx e h' o fun v _ => K v := by
  cases o <;> simp only [clsOf, reduceCtorEq] at hc <;> try exact hk
  case load t a =>
    simp only [opA] at hk ⊢
    obtain ⟨ti, hti, hk⟩ := hasTy_elim hk
    have : hasTy cx t = fun K => K ti := by funext K; simp [hasTy, hti]
    rw [this]
    show loadA cx ti (evA e a) h' K
    unfold loadA at hk ⊢
    split at hk <;> try exact hk
    rename_i i o hv
    cases hb : hget h i with
    | none => simp only [hb] at hk
    | some b =>
      simp only [hb] at hk
      rw [hg a (by simp [Op.operands]) i (.inl ⟨o, hv⟩) b hb]
      exact hk
  case lookup t m k ok =>
    simp only [opA] at hk ⊢
    obtain ⟨ti, hti, hk⟩ := hasTy_elim hk
    have : hasTy cx t = fun K => K ti := by funext K; simp [hasTy, hti]
    rw [this]
    show (match toD (evA e k) with | some d => lookupA cx ti (evA e m) d ok h' K | none => False)
    split at hk <;> try exact hk.elim
    rename_i d hd
    try simp only [hd]
    unfold lookupA at hk ⊢
    split at hk <;> try exact hk
    rename_i kt et _
    obtain ⟨te, hte, hk⟩ := hasTy_elim hk
    have : hasTy cx et = fun K => K te := by funext K; simp [hasTy, hte]
    rw [this]
    simp only
    split at hk <;> try exact hk
    rename_i id hv
    cases hb : hget h id with
    | none => simp only [hb] at hk
    | some b =>
      simp only [hb] at hk
      rw [hg m (by simp [Op.operands]) id (.inr hv) b hb]
      exact hk
  case call c =>
    obtain ⟨callee, args, ts⟩ := c
    cases callee with
    | value f => simp at hc
    | invoke r m => simp at hc
    | builtin b =>
      cases b <;> simp only [reduceCtorEq] at hc <;> try exact hk
      simp only [opA, callA, builtinA] at hk ⊢
      split at hk <;> try exact hk.elim
      rename_i t x hts hargs
      obtain ⟨ti, hti, hk⟩ := hasTy_elim hk
      have : hasTy cx t = fun K => K ti := by funext K; simp [hasTy, hti]
      rw [this]
      show lenA ti (evA e x) h' K
      unfold lenA at hk ⊢
      split at hk <;> try exact hk
      split at hk <;> try exact hk
      rename_i id hv
      have hm : args = #[x] := by apply Array.ext'; simpa using hargs
      cases hb : hget h id with
      | none => simp only [hb] at hk
      | some b =>
        simp only [hb] at hk
        rw [hg x (by simp [Op.operands, Call.operands, hm]) id (.inr hv) b hb]
        exact hk
theorem guardA_cases {all : List Oper} {g : Option (Nat × Bool)} {e : Env} {yes no : Prop} (h : guardA all g e yes no) :
    (yes ∧ ∀ y' n' : Prop, y' → guardA all g e y' n') ∨ (no ∧ ∀ y' n' : Prop, n' → guardA all g e y' n') := by
  unfold guardA at h ⊢
  split at h
  · exact .inl ⟨h, fun _ _ k => k⟩
  · split at h <;> try exact h.elim
    split at h <;> try exact h.elim
    · rcases condA_elim h with ⟨h1, h2⟩ | ⟨h1, h2⟩
      · exact .inl ⟨h2, fun _ _ k => condA_true h1 k⟩
      · exact .inr ⟨h2, fun _ _ k => condA_false h1 k⟩
    · exact .inr ⟨h, fun _ _ k => k⟩
theorem guardA_not {all : List Oper} {g : Option (Nat × Bool)} {e : Env} {p : Prop} (h1 : guardA all g e p False) (h2 : guardA all g e False p) : False := by
  unfold guardA at h1 h2
  cases g with
  | none => exact h2
  | some q =>
    obtain ⟨j, want⟩ := q
    simp only at h1 h2
    cases hd : dstOf all j with
    | none => simp only [hd] at h1
    | some d =>
      simp only [hd] at h1 h2
      split at h1 <;> try exact h1.elim
      rename_i b hb
      simp only [hb] at h2
      rcases condA_elim h1 with ⟨h1, h3⟩ | ⟨h1, h3⟩
      · rcases condA_elim h2 with ⟨h4, h5⟩ | ⟨h4, h5⟩
        · exact h5
        · rw [h1] at h4; cases h4
      · exact h3
theorem guardA_congr {all : List Oper} {g : Option (Nat × Bool)} {e e' : Env} (hg : ∀ j w d, g = some (j, w) → dstOf all j = some d → e' d = e d) {yes no : Prop} : guardA all g e' yes no = guardA all g e yes no := by
  unfold guardA
  cases g with
  | none => rfl
  | some p =>
    obtain ⟨j, w⟩ := p
    simp only
    cases hd : dstOf all j with
    | none => rfl
    | some d => simp only [hg j w d rfl hd]
theorem putA_elim {n : Nat} {d : Option Nat} {v : AV} {e : Env} {K : Env → Prop} (h : putA n d v e K) : ∃ e', K e' ∧ slotIs v d e' ∧ ∀ i, d ≠ some i → e' i = e i := by
  unfold putA at h
  split at h
  · exact ⟨e, h, trivial, fun _ _ => rfl⟩
  · rename_i d
    split at h
    · rw [forceA_eq] at h
      refine ⟨_, h, by simp [slotIs, upd], fun i hi => ?_⟩
      unfold upd
      cases hb : Nat.beq i d with
      | true => exact absurd (by rw [Nat.eq_of_beq_eq_true hb]) hi
      | false => rfl
    · exact h.elim
theorem dstOf_get {ops : Array Oper} {j d : Nat} (h : dstOf ops.toList j = some d) : ∃ o, ops[j]? = some o ∧ o.dst = some d := by
  unfold dstOf at h
  rw [nth_eq, Array.getElem?_toList] at h
  split at h
  · rename_i o' ho; exact ⟨o', ho, h⟩
  · cases h

/-- A quiet operation that the text has done and the run has not: it would give what the text has. -/
def Good (cx : Cx) (all : List Oper) (x : Info) (e : Env) (h : Heap) : Prop :=
  guardA all x.o.guard e (opA cx e h x.o.op fun v _ => slotIs v x.o.dst e) (slotIs (.dat (.tup [])) x.o.dst e)
theorem pendA_elim {cx : Cx} {all : List Oper} {m : Nat} {e : Env} {h : Heap} {rest : Prop} : ∀ {rd : List Info}, (∀ y ∈ rd, clsOf y.o.op = .quiet) → pendA cx all m e h rest rd →
    rest ∧ ∀ y ∈ rd, has m y.i = false → (guardA all y.o.guard e True False ∧ opA cx e h y.o.op fun v _ => slotIs v y.o.dst e) ∨ guardA all y.o.guard e False True
  | [], _, hk => ⟨hk, by simp⟩
  | y :: r, hq, hk => by
    have hq' : ∀ y ∈ r, clsOf y.o.op = .quiet := fun z hz => hq z (by simp [hz])
    rw [pendA_cons] at hk
    split at hk
    · rename_i hm
      obtain ⟨h1, h2⟩ := pendA_elim hq' hk
      refine ⟨h1, fun z hz hzm => ?_⟩
      simp only [List.mem_cons] at hz
      rcases hz with rfl | hz
      · rw [hm] at hzm; cases hzm
      · exact h2 z hz hzm
    · rcases guardA_cases hk with ⟨k1, k2⟩ | ⟨k1, k2⟩
      · obtain ⟨v, k3, k4⟩ := opA_det (hq y (by simp)) _ k1
        obtain ⟨k5, k6⟩ := eqS_elim k3
        obtain ⟨h1, h2⟩ := pendA_elim hq' k6
        refine ⟨h1, fun z hz hzm => ?_⟩
        simp only [List.mem_cons] at hz
        rcases hz with rfl | hz
        · exact .inl ⟨k2 _ _ trivial, k4 _ k5⟩
        · exact h2 z hz hzm
      · obtain ⟨h1, h2⟩ := pendA_elim hq' k1
        refine ⟨h1, fun z hz hzm => ?_⟩
        simp only [List.mem_cons] at hz
        rcases hz with rfl | hz
        · exact .inr (k2 _ _ trivial)
        · exact h2 z hz hzm

end Go.Abs

namespace Go.Abs

abbrev lst (L : Array Bool) (j : Nat) : Prop := L.getD j false = true
abbrev lp (L : Array Bool) : Nat → Bool := fun y => L.getD y false

theorem heap_ext {h h' : Heap} (hl : h.length = h'.length) (hg : ∀ i, hget h i = hget h' i) : h = h' := by
  apply List.ext_getElem? 
  intro i
  have := hg i
  rw [hget_eq, hget_eq] at this
  rcases Nat.lt_or_ge i h.length with hi | hi
  · have hi' : i < h'.length := by omega
    simp [hi, hi'] at this ⊢; exact this
  · have hi' : h'.length ≤ i := by omega
    simp [hi, hi']
theorem hget_ge {h : Heap} {i : Nat} (hi : h.length ≤ i) : hget h i = none := by rw [hget_eq]; simp [hi]
theorem hideP_congr {p p' : Nat → Bool} {h : Heap} {al : List (Nat × Nat)} (hp : ∀ q ∈ al, p q.1 = p' q.1) : hideP p h al = hideP p' h al := by
  induction al with
  | nil => rfl
  | cons q r ih =>
    obtain ⟨y, id⟩ := q
    simp only [hideP, hp (y, id) (by simp), ih (fun q hq => hp q (by simp [hq]))]
theorem sat_longer {γ : Gl} {h h' : Heap} {s : Wd} (sat : Sat γ h s) (hl : h.length ≤ h'.length) (hg : ∀ i, hget h' i = hget h i) : Sat γ h' s :=
  ⟨fun i b hb => sat.blk i b (by rw [← hg]; exact hb), fun i j n hi hj => sat.inj i j n (by rw [← hg]; exact hi) (by rw [← hg]; exact hj), fun i hi => sat.fresh i (Nat.le_trans hl hi), sat.imm, sat.glob, sat.dr, sat.old⟩
theorem ext_longer {h h' : Heap} {s : Wd} (hl : h.length ≤ h'.length) (hg : ∀ i, hget h' i = hget h i) : Ext h s h' s :=
  ⟨fun _ _ h => h, fun _ h => h, fun _ h => .inl h, Nat.le_refl _, fun _ _ _ => rfl, fun _ c _ f h => ⟨c, f, h, rfl⟩, fun _ ⟨i, hi, hρ⟩ => .inr ⟨i, by rw [← hg]; exact hi, hρ⟩, rfl, rfl, rfl, hl, fun _ _ => rfl⟩

def GoodA (cx : Cx) (all : List Oper) (x : Info) (e : Env) (h : Heap) (al : List (Nat × Nat)) : Prop :=
  guardA all x.o.guard e (∃ mk b id, (x.i, id) ∈ al ∧ allocV cx e x.o.op = some (mk, b) ∧ hget h id = some b ∧ slotIs (mk id) x.o.dst e) (slotIs (.dat (.tup [])) x.o.dst e ∧ ∀ q ∈ al, q.1 ≠ x.i)

structure Inv (cx : Cx) (n : Nat) (ops : Array Oper) (l : List Info) (K : Env → Heap → Prop) (h0 : Heap) (s0 : Wd) (pre post : List Info) (L : Array Bool) (e : Env) (h : Heap) (al : List (Nat × Nat)) (rd : List Info) (s : Wd) (a : Act) : Prop where
  split : l = pre ++ post
  sz : L.size = ops.size
  closed : ∀ x ∈ l, lst L x.i → ∀ j, has x.m j = true → lst L j
  inpre : ∀ x ∈ post, ¬ lst L x.i
  evs : ∀ x ∈ pre, isEv x.o = true → lst L x.i
  good : ∀ x ∈ pre, clsOf x.o.op = .quiet → ¬ lst L x.i → Good cx ops.toList x e h
  goodA : ∀ x ∈ pre, clsOf x.o.op = .alloc → ¬ lst L x.i → GoodA cx ops.toList x e h al
  alok : ∀ q ∈ al, h0.length ≤ q.2 ∧ q.2 < h.length ∧ (∃ x ∈ pre, x.i = q.1 ∧ clsOf x.o.op = .alloc) ∧ (¬ lst L q.1 → s.ρ q.2 = none)
  alinj : ∀ q ∈ al, ∀ q' ∈ al, (q.1 = q'.1 ∨ q.2 = q'.2) → q = q'
  rdq : ∀ y ∈ rd, clsOf y.o.op = .quiet
  rdin : ∀ x ∈ pre, clsOf x.o.op = .quiet → readsH x.o.op = true → x ∈ rd
  size : a.tmps.size = n
  env : ∀ i, (∀ x ∈ l, x.o.dst = some i → lst L x.i) → Rel s (e i) (a.tmps.getD i undef)
  defers : a.defers = []
  sat : Sat cx.toGl (hideP (lp L) h al) s
  ext : Ext h0 s0 (hideP (lp L) h al) s
  form : drawA cx n ops.toList K post e h al rd

open Classical in
noncomputable def eD (l : List Info) (L : Array Bool) (e : Env) : Env := fun i => if ∀ x ∈ l, x.o.dst = some i → lst L x.i then e i else .dat .bad

section
variable {cx : Cx} {n : Nat} {ops : Array Oper} {l : List Info} {K : Env → Heap → Prop} {h0 : Heap} {s0 : Wd} {pre post : List Info} {L : Array Bool} {e : Env} {h : Heap} {al : List (Nat × Nat)} {rd : List Info} {s : Wd} {a : Act}

theorem Inv.envR (v : Inv cx n ops l K h0 s0 pre post L e h al rd s a) : EnvR s n (eD l L e) a.tmps := by
  refine ⟨v.size, fun i => ?_⟩
  unfold eD
  split
  · rename_i hx; exact v.env i hx
  · simp [Rel, RelD]
theorem eD_ev (p : Plan n ops l) {x : Info} (hx : x ∈ l) (hm : ∀ j, has x.m j = true → lst L j) : ∀ o ∈ x.o.op.operands, evA (eD l L e) o = evA e o := by
  intro o ho
  cases o with
  | tmp t =>
    simp only [evA, eD]
    rw [if_pos]
    intro y hy hd
    exact hm _ (p.uses x hx y hy t hd (by simpa using ho))
  | _ => rfl
theorem guard_slot (p : Plan n ops l) {x : Info} (hx : x ∈ l) {j : Nat} {w : Bool} {d : Nat} (hg : x.o.guard = some (j, w)) (hd : dstOf ops.toList j = some d) : ∃ y ∈ l, y.o.dst = some d ∧ has x.m y.i = true := by
  obtain ⟨o, h1, h2⟩ := dstOf_get hd
  obtain ⟨y, h3, h4, h5⟩ := p.ex j o h1
  exact ⟨y, h3, by rw [h5]; exact h2, by rw [h4]; exact p.guard x hx j w hg⟩
theorem eD_guard (p : Plan n ops l) {x : Info} (hx : x ∈ l) (hm : ∀ j, has x.m j = true → lst L j) {yes no : Prop} : guardA ops.toList x.o.guard (eD l L e) yes no = guardA ops.toList x.o.guard e yes no := by
  apply guardA_congr
  intro j w d hg hd
  obtain ⟨y, hy, hyd, hym⟩ := guard_slot p hx hg hd
  unfold eD
  rw [if_pos]
  intro z hz hzd
  rw [p.dsts z hz y hy d hzd hyd]
  exact hm _ hym
theorem Plan.hsz (p : Plan n ops l) : ∀ j d, dstOf ops.toList j = some d → d < n := by
  intro j d hd
  obtain ⟨o, h1, h2⟩ := dstOf_get hd
  obtain ⟨y, h3, h4, h5⟩ := p.ex j o h1
  exact p.dstn y h3 d (by rw [h5]; exact h2)
/-- What stands at x or ahead of it does not wait for x. -/
theorem Plan.ahead (p : Plan n ops l) {x : Info} (hs : l = pre ++ x :: post) {y : Info} (hy : y ∈ pre ++ [x]) : has y.m x.i = false := by
  cases hb : has y.m x.i with
  | false => rfl
  | true =>
    exfalso
    simp only [List.mem_append, List.mem_singleton] at hy
    obtain ⟨r1, r2, r3⟩ := p.row pre x post hs
    rcases hy with hy | rfl
    · obtain ⟨p1, p2, rfl⟩ := List.append_of_mem hy
      obtain ⟨z, hz, hzi⟩ := (p.row p1 y (p2 ++ x :: post) (by rw [hs]; simp)).1 _ hb
      exact r2 z (by simp [hz]) hzi
    · obtain ⟨z, hz, hzi⟩ := r1 _ hb
      exact r2 z hz hzi
/-- Another's slot is filled. -/
theorem ev_other (p : Plan n ops l) {x y : Info} (hx : x ∈ l) (hy : y ∈ l) (hm : has y.m x.i = false) {e e' : Env} (hag : ∀ i, x.o.dst ≠ some i → e' i = e i) : ∀ o ∈ y.o.op.operands, evA e' o = evA e o := by
  intro o ho
  cases o with
  | tmp t =>
    simp only [evA]
    apply hag
    intro hd
    have := p.uses y hy x hx t hd (by simpa using ho)
    rw [hm] at this; cases this
  | _ => rfl
theorem guard_other (p : Plan n ops l) {x y : Info} (hx : x ∈ l) (hy : y ∈ l) (hm : has y.m x.i = false) {e e' : Env} (hag : ∀ i, x.o.dst ≠ some i → e' i = e i) {yes no : Prop} : guardA ops.toList y.o.guard e' yes no = guardA ops.toList y.o.guard e yes no := by
  apply guardA_congr
  intro j w d hg hd
  obtain ⟨z, hz, hzd, hzm⟩ := guard_slot p hy hg hd
  apply hag
  intro hxd
  have := p.dsts x hx z hz d hxd hzd
  subst this
  rw [hm] at hzm; cases hzm
theorem slot_other (p : Plan n ops l) {x y : Info} (hx : x ∈ l) (hy : y ∈ l) (hne : y ≠ x) {e e' : Env} (hag : ∀ i, x.o.dst ≠ some i → e' i = e i) {v : AV} : slotIs v y.o.dst e' ↔ slotIs v y.o.dst e := by
  unfold slotIs
  cases hd : y.o.dst with
  | none => simp
  | some d =>
    simp only
    rw [hag d (fun hxd => hne (p.dsts y hy x hx d hd hxd))]
theorem guardA_mono {all : List Oper} {g : Option (Nat × Bool)} {e : Env} {yes no yes' no' : Prop} (h : guardA all g e yes no) (h1 : yes → yes') (h2 : no → no') : guardA all g e yes' no' := by
  rcases guardA_cases h with ⟨k1, k2⟩ | ⟨k1, k2⟩
  · exact k2 _ _ (h1 k1)
  · exact k2 _ _ (h2 k1)
theorem opA_monoQ {h : Heap} {o : Op} (hc : clsOf o = .quiet) {F G : AV → Prop} (hk : opA cx e h o fun v _ => F v) (hfg : ∀ v, F v → G v) : opA cx e h o fun v _ => G v := by
  obtain ⟨v, h1, h2⟩ := opA_det hc _ hk
  exact h2 _ (hfg v h1)
theorem good_other (p : Plan n ops l) {x y : Info} (hx : x ∈ l) (hy : y ∈ l) (hc : clsOf y.o.op = .quiet) (hne : y ≠ x) (hm : has y.m x.i = false) {e e' : Env} (hag : ∀ i, x.o.dst ≠ some i → e' i = e i) {h h' : Heap}
    (hh : readsH y.o.op = true → ∀ i b, hget h i = some b → hget h' i = some b) (g : Good cx ops.toList y e h) : Good cx ops.toList y e' h' := by
  unfold Good at g ⊢
  rw [guard_other p hx hy hm hag]
  refine guardA_mono g (fun g => ?_) (fun g => (slot_other p hx hy hne hag).2 g)
  have g2 := opA_monoQ hc g (G := fun v => slotIs v y.o.dst e') (fun v hv => (slot_other p hx hy hne hag).2 hv)
  rw [opA_congr (e := e) (e' := e') (fun o ho => (ev_other p hx hy hm hag o ho).symm)] at g2
  cases hr : readsH y.o.op with
  | false => exact opA_noheap hc hr g2
  | true => exact opA_more hc (fun _ _ id _ b hb => hh hr id b hb) g2
theorem goodA_other (p : Plan n ops l) {x y : Info} (hx : x ∈ l) (hy : y ∈ l) (hne : y ≠ x) (hm : has y.m x.i = false) {e e' : Env} (hag : ∀ i, x.o.dst ≠ some i → e' i = e i) {h h' : Heap} {al al' : List (Nat × Nat)}
    (hh : ∀ id b, (y.i, id) ∈ al → hget h id = some b → hget h' id = some b) (ha : ∀ q ∈ al, q ∈ al') (ha' : ∀ q ∈ al', q ∈ al ∨ q.1 ≠ y.i) (g : GoodA cx ops.toList y e h al) : GoodA cx ops.toList y e' h' al' := by
  unfold GoodA at g ⊢
  rw [guard_other p hx hy hm hag]
  refine guardA_mono g (fun ⟨mk, b, id, g1, g2, g3, g4⟩ => ⟨mk, b, id, ha _ g1, ?_, hh _ _ g1 g3, (slot_other p hx hy hne hag).2 g4⟩) (fun g => ⟨(slot_other p hx hy hne hag).2 g.1, fun q hq => (ha' q hq).elim (g.2 q) id⟩)
  rw [allocV_congr (e := e') (e' := e) (fun o ho => ev_other p hx hy hm hag o ho)]
  exact g2

/-- The text goes on past what is no event. -/
theorem Inv.step (p : Plan n ops l) {x : Info} (v : Inv cx n ops l K h0 s0 pre (x :: post) L e h al rd s a) (hx : isEv x.o = false) :
    ∃ e' h' al' rd', Inv cx n ops l K h0 s0 (pre ++ [x]) post L e' h' al' rd' s a := by
  have hxl : x ∈ l := by rw [v.split]; simp
  have hpl : ∀ y ∈ pre, y ∈ l := fun y hy => by rw [v.split]; simp [hy]
  have hunl : ¬ lst L x.i := v.inpre x (by simp)
  have hne : ∀ y ∈ pre, y ≠ x := fun y hy e => (p.row pre x post v.split).2.1 y hy (by rw [e])
  have hah : ∀ y ∈ pre, has y.m x.i = false := fun y hy => p.ahead v.split (by simp [hy])
  have hxx : has x.m x.i = false := p.ahead v.split (by simp)
  have henv : ∀ e' : Env, (∀ i, x.o.dst ≠ some i → e' i = e i) → ∀ i, (∀ x ∈ l, x.o.dst = some i → lst L x.i) → Rel s (e' i) (a.tmps.getD i undef) := fun e' hag i hi => by
    rw [hag i (fun hd => hunl (hi x hxl hd))]; exact v.env i hi
  have hsp : l = (pre ++ [x]) ++ post := by rw [v.split]; simp
  have hevs : ∀ y ∈ pre ++ [x], isEv y.o = true → lst L y.i := fun y hy he => by
    simp only [List.mem_append, List.mem_singleton] at hy
    rcases hy with hy | rfl
    · exact v.evs y hy he
    · rw [hx] at he; cases he
  have hform := v.form
  rw [drawA_cons] at hform
  cases hc : clsOf x.o.op with
  | event => simp [isEv, hc] at hx
  | quiet =>
    simp only [hc] at hform
    have key : ∀ (e' : Env) (v' : AV), slotIs v' x.o.dst e' → (∀ i, x.o.dst ≠ some i → e' i = e i) → Good cx ops.toList x e' h → drawA cx n ops.toList K post e' h al (consIf (readsH x.o.op) x rd) → ∃ e' h' al' rd', Inv cx n ops l K h0 s0 (pre ++ [x]) post L e' h' al' rd' s a := by
      intro e' v' hs hag hg hf
      refine ⟨e', h, al, consIf (readsH x.o.op) x rd, hsp, v.sz, v.closed, fun y hy => v.inpre y (by simp [hy]), hevs, fun y hy hcy hyl => ?_, fun y hy hcy hyl => ?_, fun q hq => ?_, v.alinj, fun y hy => ?_, fun y hy hcy hr => ?_, v.size, henv e' hag, v.defers, v.sat, v.ext, hf⟩
      · simp only [List.mem_append, List.mem_singleton] at hy
        rcases hy with hy | rfl
        · exact good_other p hxl (hpl y hy) hcy (hne y hy) (hah y hy) hag (fun _ _ _ hb => hb) (v.good y hy hcy hyl)
        · exact hg
      · simp only [List.mem_append, List.mem_singleton] at hy
        rcases hy with hy | rfl
        · exact goodA_other p hxl (hpl y hy) (hne y hy) (hah y hy) hag (fun _ _ _ hb => hb) (fun _ hq => hq) (fun _ hq => .inl hq) (v.goodA y hy hcy hyl)
        · rw [hc] at hcy; cases hcy
      · obtain ⟨h1, h2, ⟨z, h3, h4⟩, h5⟩ := v.alok q hq
        exact ⟨h1, h2, ⟨z, by simp [h3], h4⟩, h5⟩
      · unfold consIf at hy
        split at hy
        · simp only [List.mem_cons] at hy
          rcases hy with rfl | hy
          · exact hc
          · exact v.rdq y hy
        · exact v.rdq y hy
      · simp only [List.mem_append, List.mem_singleton] at hy
        unfold consIf
        rcases hy with hy | rfl
        · have := v.rdin y hy hcy hr
          split <;> simp [this]
        · rw [hr]; simp
    rcases guardA_cases hform with ⟨k1, k2⟩ | ⟨k1, k2⟩
    · obtain ⟨v', k3, k4⟩ := opA_det hc _ k1
      obtain ⟨e', k5, k6, k7⟩ := putA_elim k3
      refine key e' v' k6 k7 ?_ k5
      unfold Good
      rw [guard_other p hxl hxl hxx k7]
      refine k2 _ _ ?_
      rw [opA_congr (e := e') (e' := e) (fun o ho => ev_other p hxl hxl hxx k7 o ho)]
      exact k4 _ k6
    · obtain ⟨e', k5, k6, k7⟩ := putA_elim k1
      refine key e' _ k6 k7 ?_ k5
      unfold Good
      rw [guard_other p hxl hxl hxx k7]
      exact k2 _ _ k6
  | alloc =>
    simp only [hc] at hform
    rcases guardA_cases hform with ⟨k1, k2⟩ | ⟨k1, k2⟩
    · split at k1 <;> try exact k1.elim
      rename_i mk b hab
      obtain ⟨e', k5, k6, k7⟩ := putA_elim k1
      have hal : ∀ q ∈ al, q.2 < h.length := fun q hq => (v.alok q hq).2.1
      have hgrow : ∀ i b', hget h i = some b' → hget (h ++ [some b]) i = some b' := fun i b' hb => by
        rw [hget_app, if_neg, hb]
        intro e; subst e; rw [hget_ge (Nat.le_refl _)] at hb; cases hb
      have hhid : ∀ i, hget (hideP (lp L) (h ++ [some b]) ((x.i, h.length) :: al)) i = hget (hideP (lp L) h al) i := by
        intro i
        have hal' : ∀ q ∈ (x.i, h.length) :: al, q.2 < (h ++ [some b]).length := fun q hq => by
          simp only [List.mem_cons] at hq
          rcases hq with rfl | hq
          · simp
          · have := hal q hq; simp; omega
        have hpx : lp L x.i = false := by
          cases hb : lp L x.i with
          | false => rfl
          | true => exact absurd hb hunl
        rcases hideP_cases (lp L) (h ++ [some b]) _ hal' i with ⟨⟨y, hy, hpy⟩, e1⟩ | ⟨hy, e1⟩
        · rw [e1]
          simp only [List.mem_cons, Prod.mk.injEq] at hy
          rcases hy with ⟨rfl, rfl⟩ | hy
          · exact (hget_ge (by rw [hideP_length]; exact Nat.le_refl _)).symm
          · exact (hideP_out hal ⟨y, hy, hpy⟩).symm
        · rw [e1, hideP_in hal (fun y hyal => hy y (by simp [hyal])), hget_app, if_neg]
          intro e; subst e
          have := hy x.i (by simp)
          rw [hpx] at this; cases this
      have hlen : h0.length ≤ h.length := by have := v.ext.len; rwa [hideP_length] at this
      refine ⟨e', h ++ [some b], (x.i, h.length) :: al, rd, hsp, v.sz, v.closed, fun y hy => v.inpre y (by simp [hy]), hevs, fun y hy hcy hyl => ?_, fun y hy hcy hyl => ?_, fun q hq => ?_, fun q hq q' hq' hqq => ?_, v.rdq, fun y hy hcy hr => ?_, v.size, henv e' k7, v.defers,
        sat_longer v.sat (by rw [hideP_length, hideP_length]; simp) hhid, v.ext.trans (ext_longer (by rw [hideP_length, hideP_length]; simp) hhid), k5⟩
      · simp only [List.mem_append, List.mem_singleton] at hy
        rcases hy with hy | rfl
        · exact good_other p hxl (hpl y hy) hcy (hne y hy) (hah y hy) k7 (fun _ i b' hb => hgrow i b' hb) (v.good y hy hcy hyl)
        · rw [hc] at hcy; cases hcy
      · simp only [List.mem_append, List.mem_singleton] at hy
        rcases hy with hy | rfl
        · exact goodA_other p hxl (hpl y hy) (hne y hy) (hah y hy) k7 (fun _ _ _ hb => hgrow _ _ hb) (fun q hq => by simp [hq]) (fun q hq => by
            simp only [List.mem_cons] at hq
            rcases hq with rfl | hq
            · exact .inr (fun e => (p.row pre x post v.split).2.1 y hy e.symm)
            · exact .inl hq) (v.goodA y hy hcy hyl)
        · unfold GoodA
          rw [guard_other p hxl hxl hxx k7]
          refine k2 _ _ ⟨mk, b, h.length, by simp, ?_, by rw [hget_app]; simp, k6⟩
          rw [allocV_congr (e := e') (e' := e) (fun o ho => ev_other p hxl hxl hxx k7 o ho)]
          exact hab
      · simp only [List.mem_cons] at hq
        rcases hq with rfl | hq
        · refine ⟨hlen, by simp, ⟨x, by simp, rfl, hc⟩, fun _ => v.sat.fresh _ (by rw [hideP_length]; exact Nat.le_refl _)⟩
        · obtain ⟨h1, h2, ⟨z, h3, h4⟩, h5⟩ := v.alok q hq
          exact ⟨h1, by simp; omega, ⟨z, by simp [h3], h4⟩, h5⟩
      · have cross : ∀ q ∈ al, ¬ (x.i = q.1 ∨ h.length = q.2) := fun q hq hor => by
          obtain ⟨h1, h2, ⟨z, h3, h4, _⟩, h5⟩ := v.alok q hq
          rcases hor with e | e
          · exact (p.row pre x post v.split).2.1 z h3 (by rw [h4, e])
          · omega
        simp only [List.mem_cons] at hq hq'
        rcases hq with rfl | hq <;> rcases hq' with rfl | hq'
        · rfl
        · exact absurd hqq (cross q' hq')
        · exact absurd (hqq.imp Eq.symm Eq.symm) (cross q hq)
        · exact v.alinj q hq q' hq' hqq
      · simp only [List.mem_append, List.mem_singleton] at hy
        rcases hy with hy | rfl
        · exact v.rdin y hy hcy hr
        · rw [hc] at hcy; cases hcy
    · obtain ⟨e', k5, k6, k7⟩ := putA_elim k1
      refine ⟨e', h, al, rd, hsp, v.sz, v.closed, fun y hy => v.inpre y (by simp [hy]), hevs, fun y hy hcy hyl => ?_, fun y hy hcy hyl => ?_, fun q hq => ?_, v.alinj, v.rdq, fun y hy hcy hr => ?_, v.size, henv e' k7, v.defers, v.sat, v.ext, k5⟩
      · simp only [List.mem_append, List.mem_singleton] at hy
        rcases hy with hy | rfl
        · exact good_other p hxl (hpl y hy) hcy (hne y hy) (hah y hy) k7 (fun _ _ _ hb => hb) (v.good y hy hcy hyl)
        · rw [hc] at hcy; cases hcy
      · simp only [List.mem_append, List.mem_singleton] at hy
        rcases hy with hy | rfl
        · exact goodA_other p hxl (hpl y hy) (hne y hy) (hah y hy) k7 (fun _ _ _ hb => hb) (fun _ hq => hq) (fun _ hq => .inl hq) (v.goodA y hy hcy hyl)
        · unfold GoodA
          rw [guard_other p hxl hxl hxx k7]
          exact k2 _ _ ⟨k6, fun q hq => by
            obtain ⟨_, _, ⟨z, h3, h4, _⟩, _⟩ := v.alok q hq
            rw [← h4]; exact (p.row pre y post v.split).2.1 z h3⟩
      · obtain ⟨h1, h2, ⟨z, h3, h4⟩, h5⟩ := v.alok q hq
        exact ⟨h1, h2, ⟨z, by simp [h3], h4⟩, h5⟩
      · simp only [List.mem_append, List.mem_singleton] at hy
        rcases hy with hy | rfl
        · exact v.rdin y hy hcy hr
        · rw [hc] at hcy; cases hcy

/-- The text stands at an event, or at its end. -/
def atEv (post : List Info) : Prop := ∀ z r, post = z :: r → isEv z.o = true
theorem Inv.advance (p : Plan n ops l) : ∀ (post pre : List Info) (e : Env) (h : Heap) (al : List (Nat × Nat)) (rd : List Info), Inv cx n ops l K h0 s0 pre post L e h al rd s a →
    ∃ pre' post' e' h' al' rd', atEv post' ∧ Inv cx n ops l K h0 s0 pre' post' L e' h' al' rd' s a
  | [], pre, e, h, al, rd, v => ⟨pre, [], e, h, al, rd, fun z r h => (by cases h), v⟩
  | x :: r, pre, e, h, al, rd, v => by
    cases hx : isEv x.o with
    | true => exact ⟨pre, x :: r, e, h, al, rd, fun z r h => (by cases h; exact hx), v⟩
    | false =>
      obtain ⟨e', h', al', rd', v'⟩ := v.step p hx
      exact Inv.advance p r _ _ _ _ _ v'
end

end Go.Abs

namespace Go.Abs
section
variable {cx : Cx} {n : Nat} {ops : Array Oper} {l : List Info} {K : Env → Heap → Prop} {h0 : Heap} {s0 : Wd} {pre post : List Info} {L : Array Bool} {e : Env} {h : Heap} {al : List (Nat × Nat)} {rd : List Info} {s : Wd} {a : Act}

theorem lst_set {L : Array Bool} {i j : Nat} (hi : i < L.size) : lst (L.setIfInBounds i true) j ↔ (j = i ∨ lst L j) := by
  unfold lst
  by_cases e : i = j
  · subst e; simp [hi]
  · rw [getD_set_ne false e]
    exact ⟨.inr, fun h => h.resolve_left (fun e' => e e'.symm)⟩
/-- A ready operation: what it waits for is done. -/
theorem Inv.ready (p : Plan n ops l) (v : Inv cx n ops l K h0 s0 pre post L e h al rd s a) {i : Nat} (hi : i ∈ Region.ready .any ops L) :
    ∃ x ∈ l, x.i = i ∧ ¬ lst L x.i ∧ (∀ j, has x.m j = true → lst L j) ∧ i < L.size := by
  rw [mem_ready] at hi
  obtain ⟨h1, o, ho, hall⟩ := hi
  obtain ⟨x, hx, hxi, hxo⟩ := p.ex i o ho
  have hlt : i < L.size := by rw [v.sz]; exact (Array.getElem?_eq_some_iff.1 ho).1
  refine ⟨x, hx, hxi, ?_, fun j hj => ?_, hlt⟩
  · rw [hxi]; unfold lst
    simp [hlt] at h1 ⊢; exact h1
  · obtain ⟨ed, he1, he2, he3⟩ := p.mask x hx j hj
    rw [hxo] at he1
    have := hall ed (by simpa using he1) (by rw [← isBind_eq]; exact he2)
    rcases he3 with rfl | ⟨y, hy, hyi, hyj⟩
    · exact this
    · exact v.closed y hy (by rw [hyi]; exact this) j hyj
/-- The run does what the text has done. -/
theorem Inv.done (p : Plan n ops l) (v : Inv cx n ops l K h0 s0 pre post L e h al rd s a) {x : Info} (hx : x ∈ pre) (hxl : ¬ lst L x.i) (hm : ∀ j, has x.m j = true → lst L j) {s' : Wd} {u : Value} {w : AV}
    (hs : slotIs w x.o.dst e) (hr : Rel s' w u) (g : Grows s s') (hn : ∀ q ∈ al, q.1 ≠ x.i → s'.ρ q.2 = s.ρ q.2)
    (sat : Sat cx.toGl (hideP (lp (L.setIfInBounds x.i true)) h al) s') (ext : Ext h0 s0 (hideP (lp (L.setIfInBounds x.i true)) h al) s') :
    Inv cx n ops l K h0 s0 pre post (L.setIfInBounds x.i true) e h al rd s' (a.put x.o.dst u) := by
  have hxll : x ∈ l := by rw [v.split]; simp [hx]
  have hlt : x.i < L.size := by rw [v.sz]; exact (Array.getElem?_eq_some_iff.1 (p.mem x hxll)).1
  have set := fun j => lst_set (j := j) hlt
  refine ⟨v.split, by simpa using v.sz, fun y hy hyl j hj => ?_, fun y hy hyl => ?_, fun y hy he => (set _).2 (.inr (v.evs y hy he)), fun y hy hc hyl => v.good y hy hc (fun h => hyl ((set _).2 (.inr h))), fun y hy hc hyl => v.goodA y hy hc (fun h => hyl ((set _).2 (.inr h))),
    fun q hq => ?_, v.alinj, v.rdq, v.rdin, ?_, fun i hi => ?_, ?_, sat, ext, v.form⟩
  · rw [set] at hyl ⊢
    rcases hyl with hyl | hyl
    · have := p.inj y hy x hxll hyl; subst this; exact .inr (hm j hj)
    · exact .inr (v.closed y hy hyl j hj)
  · rw [set] at hyl
    rcases hyl with hyl | hyl
    · obtain ⟨p1, p2, rfl⟩ := List.append_of_mem hy
      have := (p.row (pre ++ p1) y p2 (by rw [v.split]; simp)).2.1 x (by simp [hx])
      exact this hyl.symm
    · exact v.inpre y hy hyl
  · obtain ⟨h1, h2, h3, h4⟩ := v.alok q hq
    refine ⟨h1, h2, h3, fun hu => ?_⟩
    rw [set] at hu
    rw [hn q hq (fun e => hu (.inl e))]
    exact h4 (fun h => hu (.inr h))
  · cases x.o.dst with
    | none => exact v.size
    | some d => simp only [Act.put, Array.size_setIfInBounds]; exact v.size
  · by_cases hd : x.o.dst = some i
    · have hdn : i < n := p.dstn x hxll i hd
      have : i < a.tmps.size := by rw [v.size]; exact hdn
      rw [hd]
      simp only [Act.put]
      unfold slotIs at hs
      rw [hd] at hs
      simp only at hs
      rw [hs]
      simpa [this] using hr
    · have hold : ∀ y ∈ l, y.o.dst = some i → lst L y.i := fun y hy hyd => by
        have := hi y hy hyd
        rw [set] at this
        rcases this with h | h
        · have := p.inj y hy x hxll h; subst this; exact absurd hyd hd
        · exact h
      have := rel_mono g _ _ (v.env i hold)
      have heq : (a.put x.o.dst u).tmps.getD i undef = a.tmps.getD i undef := by
        cases hdd : x.o.dst with
        | none => rfl
        | some d =>
          simp only [Act.put, Array.getD_eq_getD_getElem?]
          rw [Array.getElem?_setIfInBounds_ne (fun e => hd (by rw [hdd, e]))]
      rw [heq]; exact this
  · cases x.o.dst <;> exact v.defers

theorem Inv.lp_al (v : Inv cx n ops l K h0 s0 pre post L e h al rd s a) : ∀ q ∈ al, q.2 < h.length := fun q hq => (v.alok q hq).2.1
/-- An operand that is done names no block that the run has yet to make. -/
theorem Inv.named (v : Inv cx n ops l K h0 s0 pre post L e h al rd s a) {id : Nat} (hρ : s.ρ id ≠ none) : hget (hideP (lp L) h al) id = hget h id := by
  refine hideP_in v.lp_al fun y hy => ?_
  cases hb : lp L y with
  | true => rfl
  | false =>
    exfalso
    exact hρ ((v.alok (y, id) hy).2.2.2 (fun h => by unfold lst at h; rw [show lp L y = L.getD y false from rfl] at hb; rw [h] at hb; cases hb))

theorem Inv.runQuiet (ok : CxOK cx) (p : Plan n ops l) (v : Inv cx n ops l K h0 s0 pre post L e h al rd s a) {x : Info} (hx : x ∈ pre) (hxl : ¬ lst L x.i) (hm : ∀ j, has x.m j = true → lst L j) (hc : clsOf x.o.op = .quiet)
    {Q : Exit → Act → World → Prop} {K' : Act → World → Prop} (hk : ∀ s' a', Inv cx n ops l K h0 s0 pre post (L.setIfInBounds x.i true) e h al rd s' a' → K' a' s'.w) : wpOp cx.P ops Q x.i K' a s.w := by
  have hxll : x ∈ l := by rw [v.split]; simp [hx]
  have hlt : x.i < L.size := by rw [v.sz]; exact (Array.getElem?_eq_some_iff.1 (p.mem x hxll)).1
  have hidc : hideP (lp (L.setIfInBounds x.i true)) h al = hideP (lp L) h al := by
    refine hideP_congr fun q hq => ?_
    obtain ⟨_, _, ⟨z, hz, hzq, hzc⟩, _⟩ := v.alok q hq
    have : q.1 ≠ x.i := fun e => by
      have := p.inj z (by rw [v.split]; simp [hz]) x hxll (hzq.trans e)
      subst this; rw [hc] at hzc; cases hzc
    exact getD_set_ne false (fun e => this e.symm)
  unfold wpOp
  rw [p.mem x hxll]
  simp only
  have hev := v.envR
  have g := v.good x hx hc hxl
  unfold Good at g
  rw [← eD_guard p hxll hm] at g
  rcases guardA_elim (ops := ops) (o := x.o) hev p.hsz g with ⟨hw, g⟩ | ⟨hw, g⟩
  · simp only [hw, if_true]
    left
    have g1 : opA cx e (hideP (lp L) h al) x.o.op fun w _ => slotIs w x.o.dst e := by
      refine opA_more hc (fun o ho id hid b hb => ?_) g
      have hr : Rel s (evA e o) (a.eval o) := by rw [← eD_ev p hxll hm o ho]; exact hev.ev a.defers o
      rw [v.named, hb]
      rcases hid with ⟨off, hid⟩ | hid
      · rw [hid] at hr; simp only [Rel] at hr
        obtain ⟨b', h1, _⟩ := hr
        rw [h1]; simp
      · rw [hid] at hr; simp only [Rel] at hr
        obtain ⟨b', h1, _⟩ := hr
        rw [h1]; simp
    rw [← opA_congr (eD_ev p hxll hm)] at g1
    have g2 := opA_quiet hc (K := fun w h' => h' = hideP (lp L) h al ∧ slotIs w x.o.dst e) (opA_monoQ hc g1 (fun w hw => ⟨rfl, hw⟩))
    refine OpOut.wp (opA_sound ok v.sat (hev.ev a.defers) g2) fun u w' hp => ?_
    obtain ⟨w, h', s', rfl, ⟨rfl, hs⟩, hr, sat', hext⟩ := hp
    refine hk s' _ (v.done p hx hxl hm hs hr (hext.grows v.sat) (fun q hq _ => ?_) (by rw [hidc]; exact sat') (by rw [hidc]; exact v.ext.trans hext))
    exact hext.names _ (by rw [hideP_length]; exact v.lp_al q hq)
  · simp only [hw]
    refine hk s _ (v.done p hx hxl hm g (by simp [Rel, RelD, undef, RelDs]) ⟨fun _ _ h => h, fun _ h => h, fun _ _ => rfl, fun _ c _ f h => ⟨c, f, h, rfl⟩⟩ (fun _ _ _ => rfl) (by rw [hidc]; exact v.sat) (by rw [hidc]; exact v.ext))

theorem Inv.runAlloc (ok : CxOK cx) (p : Plan n ops l) (v : Inv cx n ops l K h0 s0 pre post L e h al rd s a) {x : Info} (hx : x ∈ pre) (hxl : ¬ lst L x.i) (hm : ∀ j, has x.m j = true → lst L j) (hc : clsOf x.o.op = .alloc)
    {Q : Exit → Act → World → Prop} {K' : Act → World → Prop} (hk : ∀ s' a', Inv cx n ops l K h0 s0 pre post (L.setIfInBounds x.i true) e h al rd s' a' → K' a' s'.w) : wpOp cx.P ops Q x.i K' a s.w := by
  have hxll : x ∈ l := by rw [v.split]; simp [hx]
  have hlt : x.i < L.size := by rw [v.sz]; exact (Array.getElem?_eq_some_iff.1 (p.mem x hxll)).1
  have hpx : lp L x.i = false := by
    cases hb : lp L x.i with
    | false => rfl
    | true => exact absurd hb hxl
  unfold wpOp
  rw [p.mem x hxll]
  simp only
  have hev := v.envR
  have g := v.goodA x hx hc hxl
  unfold GoodA at g
  rw [← eD_guard p hxll hm] at g
  rcases guardA_elim (ops := ops) (o := x.o) hev p.hsz g with ⟨hw, g⟩ | ⟨hw, g⟩
  · simp only [hw, if_true]
    left
    obtain ⟨mk, b, id, g1, g2, g3, g4⟩ := g
    rw [← allocV_congr (eD_ev p hxll hm)] at g2
    obtain ⟨u, ob, hrun, hrel⟩ := allocV_sound ok g2 v.sat.imm (hev.ev a.defers)
    have hid : id < h.length := v.lp_al _ g1
    have hρ : s.ρ id = none := (v.alok _ g1).2.2.2 hxl
    obtain ⟨hr, hrb⟩ := hrel id hρ
    have hidr : id < (hideP (lp L) h al).length := by rw [hideP_length]; exact hid
    have hnone : hget (hideP (lp L) h al) id = none := hideP_out v.lp_al ⟨x.i, g1, hpx⟩
    have heq : hideP (lp (L.setIfInBounds x.i true)) h al = hset (hideP (lp L) h al) id (some b) := by
      refine heap_ext (by rw [hset_length, hideP_length, hideP_length]) fun i => ?_
      rw [hget_hset _ _ _ _ hidr]
      have hset : ∀ y, lp (L.setIfInBounds x.i true) y = true ↔ (y = x.i ∨ lp L y = true) := fun y => lst_set hlt
      split
      · rename_i e; subst e
        rw [hideP_in v.lp_al, g3]
        intro y hy
        have := v.alinj _ hy _ g1 (.inr rfl)
        cases this
        rw [hset]; exact .inl rfl
      · rename_i hne
        rcases hideP_cases (lp L) h al v.lp_al i with ⟨⟨y, hy, hpy⟩, e1⟩ | ⟨hy, e1⟩
        · rw [e1]
          refine hideP_out v.lp_al ⟨y, hy, ?_⟩
          cases hb : lp (L.setIfInBounds x.i true) y with
          | false => rfl
          | true =>
            rw [hset] at hb
            rcases hb with hb | hb
            · subst hb
              have := v.alinj _ hy _ g1 (.inl rfl)
              cases this
              exact absurd rfl hne
            · rw [hpy] at hb; cases hb
        · rw [e1]
          exact hideP_in v.lp_al fun y hyal => (hset y).2 (.inr (hy y hyal))
    refine OpOut.wp (R := fun u' w' => u' = u ∧ w' = s.w.alloc ob) (by rw [hrun]; exact ⟨rfl, rfl⟩) fun u' w' hp => ?_
    obtain ⟨rfl, rfl⟩ := hp
    refine hk (s.alloc id ob) _ (v.done p hx hxl hm g4 hr (grows_alloc v.sat id hρ ob) (fun q hq hne => ?_) (by rw [heq]; exact sat_alloc_at v.sat hidr hnone hρ b ob hrb) (by rw [heq]; exact ext_alloc_at v.ext v.sat (v.alok _ g1).1 hidr hρ b ob))
    show (if q.2 = id then _ else _) = _
    rw [if_neg]
    intro e2
    have := v.alinj q hq _ g1 (.inr e2)
    subst this
    exact hne rfl
  · simp only [hw]
    have hidc : hideP (lp (L.setIfInBounds x.i true)) h al = hideP (lp L) h al := by
      refine hideP_congr fun q hq => ?_
      exact getD_set_ne false (fun e => g.2 q hq e.symm)
    refine hk s _ (v.done p hx hxl hm g.1 (by simp [Rel, RelD, undef, RelDs]) ⟨fun _ _ h => h, fun _ h => h, fun _ _ => rfl, fun _ c _ f h => ⟨c, f, h, rfl⟩⟩ (fun _ _ _ => rfl) (by rw [hidc]; exact v.sat) (by rw [hidc]; exact v.ext))

theorem Inv.runEvent (ok : CxOK cx) (p : Plan n ops l) {x : Info} (v : Inv cx n ops l K h0 s0 pre (x :: post) L e h al rd s a) (hm : ∀ j, has x.m j = true → lst L j) (hc : clsOf x.o.op = .event)
    {Q : Exit → Act → World → Prop} {K' : Act → World → Prop} (hk : ∀ pre' post' e' h' al' rd' s' a', atEv post' → Inv cx n ops l K h0 s0 pre' post' (L.setIfInBounds x.i true) e' h' al' rd' s' a' → K' a' s'.w) : wpOp cx.P ops Q x.i K' a s.w := by
  have hxll : x ∈ l := by rw [v.split]; simp
  have hpl : ∀ y ∈ pre, y ∈ l := fun y hy => by rw [v.split]; simp [hy]
  have hlt : x.i < L.size := by rw [v.sz]; exact (Array.getElem?_eq_some_iff.1 (p.mem x hxll)).1
  have hxl : ¬ lst L x.i := v.inpre x (by simp)
  have set := fun j => lst_set (j := j) hlt
  have hne : ∀ y ∈ pre, y ≠ x := fun y hy e => (p.row pre x post v.split).2.1 y hy (by rw [e])
  have hah : ∀ y ∈ pre, has y.m x.i = false := fun y hy => p.ahead v.split (by simp [hy])
  have hxx : has x.m x.i = false := p.ahead v.split (by simp)
  have hidc : ∀ h : Heap, hideP (lp (L.setIfInBounds x.i true)) h al = hideP (lp L) h al := fun h => by
    refine hideP_congr fun q hq => ?_
    obtain ⟨_, _, ⟨z, hz, hzq, _⟩, _⟩ := v.alok q hq
    exact getD_set_ne false (fun e => (p.row pre x post v.split).2.1 z hz (by rw [hzq, e]))
  have hsp : l = (pre ++ [x]) ++ post := by rw [v.split]; simp
  have hmem : ∀ {y}, y ∈ pre ++ [x] → y ∈ pre ∨ y = x := fun hy => by simpa using hy
  have hev := v.envR
  have hform := v.form
  rw [drawA_cons] at hform
  simp only [hc] at hform
  rw [← eD_guard p hxll hm] at hform
  unfold wpOp
  rw [p.mem x hxll]
  simp only
  -- what both ways share
  have fin : ∀ (e' : Env) (h' : Heap) (w : AV) (s' : Wd) (u : Value), slotIs w x.o.dst e' → (∀ i, x.o.dst ≠ some i → e' i = e i) → Rel s' w u → Grows s s' → (∀ q ∈ al, ¬ lst L q.1 → s'.ρ q.2 = s.ρ q.2) → h.length ≤ h'.length →
      (∀ y ∈ pre, clsOf y.o.op = .quiet → ¬ lst L y.i → Good cx ops.toList y e' h') → (∀ id b y, (y, id) ∈ al → ¬ lst L y → hget h id = some b → hget h' id = some b) →
      Sat cx.toGl (hideP (lp L) h' al) s' → Ext h0 s0 (hideP (lp L) h' al) s' → drawA cx n ops.toList K post e' h' al rd → K' (a.put x.o.dst u) s'.w := by
    intro e' h' w s' u hs hag hr g hn hlen hgood hblk sat ext hf
    have v' : Inv cx n ops l K h0 s0 (pre ++ [x]) post (L.setIfInBounds x.i true) e' h' al rd s' (a.put x.o.dst u) := by
      refine ⟨hsp, by simpa using v.sz, fun y hy hyl j hj => ?_, fun y hy hyl => ?_, fun y hy he => ?_, fun y hy hcy hyl => ?_, fun y hy hcy hyl => ?_, fun q hq => ?_, v.alinj, v.rdq, fun y hy hcy hr => ?_, ?_, fun i hi => ?_, ?_, by rw [hidc]; exact sat, by rw [hidc]; exact ext, hf⟩
      · rw [set] at hyl ⊢
        rcases hyl with hyl | hyl
        · have := p.inj y hy x hxll hyl; subst this; exact .inr (hm j hj)
        · exact .inr (v.closed y hy hyl j hj)
      · rw [set] at hyl
        rcases hyl with hyl | hyl
        · obtain ⟨p1, p2, rfl⟩ := List.append_of_mem hy
          exact (p.row (pre ++ x :: p1) y p2 (by rw [v.split]; simp)).2.1 x (by simp) hyl.symm
        · exact v.inpre y (by simp [hy]) hyl
      · rw [set]
        rcases hmem hy with hy | rfl
        · exact .inr (v.evs y hy he)
        · exact .inl rfl
      · rw [set] at hyl
        rcases hmem hy with hy | rfl
        · exact hgood y hy hcy (fun h => hyl (.inr h))
        · exact absurd (.inl rfl) hyl
      · rw [set] at hyl
        rcases hmem hy with hy | rfl
        · exact goodA_other p hxll (hpl y hy) (hne y hy) (hah y hy) hag (fun id b hid hb => hblk id b _ hid (fun h => hyl (.inr h)) hb) (fun _ hq => hq) (fun _ hq => .inl hq) (v.goodA y hy hcy (fun h => hyl (.inr h)))
        · exact absurd (.inl rfl) hyl
      · obtain ⟨h1, h2, ⟨z, h3, h4⟩, h5⟩ := v.alok q hq
        refine ⟨h1, Nat.lt_of_lt_of_le h2 hlen, ⟨z, by simp [h3], h4⟩, fun hu => ?_⟩
        rw [set] at hu
        rw [hn q hq (fun h => hu (.inr h))]
        exact h5 (fun h => hu (.inr h))
      · rcases hmem hy with hy | rfl
        · exact v.rdin y hy hcy hr
        · rw [hc] at hcy; cases hcy
      · cases x.o.dst with
        | none => exact v.size
        | some d => simp only [Act.put, Array.size_setIfInBounds]; exact v.size
      · by_cases hd : x.o.dst = some i
        · have hdn : i < n := p.dstn x hxll i hd
          have : i < a.tmps.size := by rw [v.size]; exact hdn
          rw [hd]
          simp only [Act.put]
          unfold slotIs at hs
          rw [hd] at hs
          simp only at hs
          rw [hs]
          simpa [this] using hr
        · have hold : ∀ y ∈ l, y.o.dst = some i → lst L y.i := fun y hy hyd => by
            have := hi y hy hyd
            rw [set] at this
            rcases this with h | h
            · have := p.inj y hy x hxll h; subst this; exact absurd hyd hd
            · exact h
          have := rel_mono g _ _ (v.env i hold)
          rw [hag i hd]
          have heq : (a.put x.o.dst u).tmps.getD i undef = a.tmps.getD i undef := by
            cases hdd : x.o.dst with
            | none => rfl
            | some d =>
              simp only [Act.put, Array.getD_eq_getD_getElem?]
              rw [Array.getElem?_setIfInBounds_ne (fun e => hd (by rw [hdd, e]))]
          rw [heq]; exact this
      · cases x.o.dst <;> exact v.defers
    obtain ⟨pre', post', e2, h2, al2, rd2, hat, v2⟩ := Inv.advance p _ _ _ _ _ _ v'
    exact hk _ _ _ _ _ _ _ _ hat v2
  rcases guardA_elim (ops := ops) (o := x.o) hev p.hsz hform with ⟨hw, g⟩ | ⟨hw, g⟩
  · simp only [hw, if_true]
    left
    rw [← opA_congr (eD_ev p hxll hm)] at g
    have hsub : Sub (hideP (has x.m) h al) (hideP (lp L) h al) := hideP_sub (fun y hy => hm y hy) h al v.lp_al
    refine OpOut.wp (opA_sound ok (sat_sub v.sat hsub) (hev.ev a.defers) g) fun u w' hp => ?_
    obtain ⟨w, h', s', rfl, hk2, hr, sat', hext⟩ := hp
    obtain ⟨e', k5, k6, k7⟩ := putA_elim hk2
    obtain ⟨k8, k9⟩ := pendA_elim v.rdq k5
    have hl' : ∀ q ∈ al, q.2 < h'.length := fun q hq => by
      have h1 := hext.len; rw [hideP_length] at h1
      exact Nat.lt_of_lt_of_le (v.lp_al q hq) h1
    have hlR : ∀ q ∈ al, q.2 < (refillP (has x.m) h h' al).length := fun q hq => by rw [refillP_length]; exact hl' q hq
    have unl : ∀ y, lp L y = false → ¬ lst L y := fun y hy h => by
      have : lp L y = true := h
      rw [hy] at this; cases this
    have hnm : ∀ y, ¬ lst L y → has x.m y = false := fun y hy => by
      cases hb : has x.m y with
      | false => rfl
      | true => exact absurd (hm y hb) hy
    have hmerge : Merge (hideP (lp L) h al) (hideP (has x.m) h al) h' (hideP (lp L) (refillP (has x.m) h h' al) al) := by
      refine ⟨by rw [hideP_length, refillP_length], fun i hi h1 h2 => ?_, fun i hi => ?_⟩
      · rcases hideP_cases (lp L) h al v.lp_al i with ⟨_, e1⟩ | ⟨hy, e1⟩
        · exact absurd e1 h2
        · rw [hideP_in hlR hy, e1]
          cases hb : hget h i with
          | none => rw [e1, hb] at h2; exact absurd rfl h2
          | some b =>
            rcases hideP_cases (has x.m) h al v.lp_al i with ⟨hx2, _⟩ | ⟨_, e2⟩
            · exact refillP_in hl' hx2 hb
            · rw [e2, hb] at h1; cases h1
      · rcases hideP_cases (lp L) (refillP (has x.m) h h' al) al hlR i with ⟨⟨y, hy, hpy⟩, e1⟩ | ⟨hy, e1⟩
        · rw [e1]
          cases hb : hget h' i with
          | none => rfl
          | some b =>
            exfalso
            obtain ⟨m, o, h1, _⟩ := sat'.blk i b hb
            have hil : i < (hideP (has x.m) h al).length := by rw [hideP_length]; exact v.lp_al _ hy
            rw [hext.names i hil, (v.alok _ hy).2.2.2 (unl y hpy)] at h1
            cases h1
        · rw [e1]
          by_cases hall : ∀ y, (y, i) ∈ al → has x.m y = true
          · exact refillP_out hl' (.inl hall)
          · cases hb : hget h i with
            | none => exact refillP_out hl' (.inr hb)
            | some b =>
              exfalso
              have hex : ∃ y, (y, i) ∈ al ∧ has x.m y = false := by
                simp only [Classical.not_forall] at hall
                obtain ⟨y, hy1, hy2⟩ := hall
                exact ⟨y, hy1, by simpa using hy2⟩
              obtain ⟨y, hy1, hy2⟩ := hex
              refine hi ⟨by rw [hideP_length]; exact v.lp_al _ hy1, hideP_out v.lp_al ⟨y, hy1, hy2⟩, ?_⟩
              rw [hideP_in v.lp_al hy, hb]; simp
    obtain ⟨satR, extR⟩ := sat_frame v.sat hsub hext sat' hmerge
    refine fin e' _ w s' u k6 k7 hr (extR.grows v.sat) (fun q hq _ => hext.names _ (by rw [hideP_length]; exact v.lp_al q hq)) (by rw [refillP_length]; have h1 := hext.len; rwa [hideP_length] at h1) (fun y hy hcy hyl => ?_) (fun id b y hid hyl hb => refillP_in hl' ⟨y, hid, hnm y hyl⟩ hb) satR (v.ext.trans extR) k8
    have old := v.good y hy hcy hyl
    cases hrd : readsH y.o.op with
    | false => exact good_other p hxll (hpl y hy) hcy (hne y hy) (hah y hy) k7 (fun h => by rw [hrd] at h; cases h) old
    | true =>
      unfold Good at old ⊢
      rcases k9 y (v.rdin y hy hcy hrd) (hnm _ hyl) with ⟨j1, j2⟩ | j1
      · exact guardA_mono j1 (fun _ => j2) (fun h => h.elim)
      · rcases guardA_cases old with ⟨i1, i2⟩ | ⟨i1, i2⟩
        · exfalso
          refine guardA_not (p := True) (i2 _ _ trivial) ?_
          rw [← guard_other p hxll (hpl y hy) (hah y hy) k7]
          exact j1
        · exact guardA_mono j1 (fun h => h.elim) (fun _ => (slot_other p hxll (hpl y hy) (hne y hy) k7).2 i1)
  · simp only [hw]
    obtain ⟨e', k5, k6, k7⟩ := putA_elim g
    refine fin e' h _ s undef k6 k7 (by simp [Rel, RelD, undef, RelDs]) ⟨fun _ _ h => h, fun _ h => h, fun _ _ => rfl, fun _ c _ f h => ⟨c, f, h, rfl⟩⟩ (fun _ _ _ => rfl) (Nat.le_refl _) (fun y hy hcy hyl => good_other p hxll (hpl y hy) hcy (hne y hy) (hah y hy) k7 (fun _ _ _ hb => hb) (v.good y hy hcy hyl)) (fun _ _ _ _ _ hb => hb) v.sat v.ext k5

/-! The whole region. -/
def cnt (m : Nat) (L : Array Bool) : Nat := (List.range m).countP fun i => !(L.getD i false)
theorem countP_lt {α : Type} {p q : α → Bool} : ∀ {l : List α} {x : α}, x ∈ l → (∀ y ∈ l, q y = true → p y = true) → p x = true → q x = false → l.countP q < l.countP p
  | [], _, h, _, _, _ => by simp at h
  | y :: r, x, hx, hpq, h1, h2 => by
    have hle : r.countP q ≤ r.countP p := List.countP_mono_left (fun z hz => hpq z (by simp [hz]))
    simp only [List.mem_cons] at hx
    rcases hx with rfl | hx
    · rw [List.countP_cons_of_neg (by simp [h2]), List.countP_cons_of_pos h1]; omega
    · have := countP_lt hx (fun z hz => hpq z (by simp [hz])) h1 h2
      cases hq : q y with
      | true => rw [List.countP_cons_of_pos hq, List.countP_cons_of_pos (hpq y (by simp) hq)]; omega
      | false =>
        rw [List.countP_cons_of_neg (by simp [hq])]
        cases hp : p y with
        | true => rw [List.countP_cons_of_pos hp]; omega
        | false => rw [List.countP_cons_of_neg (by simp [hp])]; omega
theorem cnt_set {m i : Nat} {L : Array Bool} (hs : L.size = m) (hi : i < m) (hl : ¬ lst L i) : cnt m (L.setIfInBounds i true) < cnt m L := by
  refine countP_lt (x := i) (by simpa using hi) (fun y hy h => ?_) (by simpa [lst] using hl) (by simp [hs, hi])
  simp only [Bool.not_eq_true'] at h ⊢
  by_cases e : i = y
  · subst e; simp [hs, hi] at h
  · rwa [getD_set_ne false e] at h
theorem Inv.finish (p : Plan n ops l) (v : Inv cx n ops l K h0 s0 pre post L e h al rd s a) (hr : Region.ready .any ops L = []) : ∀ x ∈ l, lst L x.i := by
  have aux : ∀ (m : Nat) (q : List Info) (x : Info) (r : List Info), q.length = m → l = q ++ x :: r → lst L x.i := by
    intro m
    induction m using Nat.strongRecOn with
    | ind m ih =>
      intro q x r hq hl
      by_cases hxl : lst L x.i
      · exact hxl
      · exfalso
        have hxll : x ∈ l := by rw [hl]; simp
        have hlt : x.i < L.size := by rw [v.sz]; exact (Array.getElem?_eq_some_iff.1 (p.mem x hxll)).1
        have : x.i ∈ Region.ready .any ops L := by
          rw [mem_ready]
          refine ⟨?_, x.o, p.mem x hxll, fun ed he hb => ?_⟩
          · unfold lst at hxl
            simp [hlt] at hxl ⊢; exact hxl
          · have := p.edge x hxll ed (by simpa using he) (by rw [isBind_eq]; exact hb)
            obtain ⟨z, hz, hzi⟩ := (p.row q x r hl).1 _ this
            obtain ⟨q1, q2, rfl⟩ := List.append_of_mem hz
            rw [← hzi]
            exact ih q1.length (by rw [← hq]; simp) q1 z (q2 ++ x :: r) rfl (by rw [hl]; simp)
        rw [hr] at this; cases this
  intro x hx
  obtain ⟨q, r, hl⟩ := List.append_of_mem hx
  exact aux _ q x r rfl hl
theorem Inv.close (p : Plan n ops l) (v : Inv cx n ops l K h0 s0 pre post L e h al rd s a) (hat : atEv post) (hr : Region.ready .any ops L = []) :
    QS cx n h0 s0 K (fun _ _ _ => False) (fun _ _ => False) .normal a s.w := by
  have hall := v.finish p hr
  have hpost : post = [] := by
    cases post with
    | nil => rfl
    | cons z r => exact absurd (hall z (by rw [v.split]; simp)) (v.inpre z (by simp))
  subst hpost
  have hid : hideP (lp L) h al = h := heap_ext (hideP_length _ _ _) fun i => hideP_in v.lp_al fun y hy => by
    obtain ⟨_, _, ⟨z, hz, hzq, _⟩, _⟩ := v.alok _ hy
    have := hall z (by rw [v.split]; simp [hz])
    rw [hzq] at this; exact this
  exact ⟨e, h, s, rfl, v.defers, ⟨v.size, fun i => v.env i (fun x hx _ => hall x hx)⟩, by rw [← hid]; exact v.sat, by rw [← hid]; exact v.ext, v.form⟩
theorem any_sound (ok : CxOK cx) (p : Plan n ops l) : ∀ (fuel : Nat) (pre post : List Info) (L : Array Bool) (e : Env) (h : Heap) (al : List (Nat × Nat)) (rd : List Info) (s : Wd) (a : Act),
    atEv post → Inv cx n ops l K h0 s0 pre post L e h al rd s a → cnt ops.size L ≤ fuel → wpAny cx.P .any ops (QS cx n h0 s0 K (fun _ _ _ => False) (fun _ _ => False)) fuel L a s.w
  | fuel, pre, post, L, e, h, al, rd, s, a, hat, v, hf => by
    have run : ∀ i ∈ Region.ready .any ops L, ∀ K' : Act → World → Prop, (∀ pre' post' e' h' al' rd' s' a', atEv post' → Inv cx n ops l K h0 s0 pre' post' (L.setIfInBounds i true) e' h' al' rd' s' a' → K' a' s'.w) → wpOp cx.P ops (QS cx n h0 s0 K (fun _ _ _ => False) (fun _ _ => False)) i K' a s.w := by
      intro i hi K' hk
      obtain ⟨x, hx, rfl, hxl, hm, hlt⟩ := v.ready p hi
      rw [v.split] at hx
      have later : x ∈ post → ∃ r, post = x :: r := fun hp => by
        cases post with
        | nil => simp at hp
        | cons z r =>
          simp only [List.mem_cons] at hp
          rcases hp with rfl | hp
          · exact ⟨r, rfl⟩
          · exfalso
            have := (p.row pre z r v.split).2.2 (hat z r rfl) x hp
            exact v.inpre z (by simp) (hm _ this)
      simp only [List.mem_append] at hx
      cases hc : clsOf x.o.op with
      | event =>
        rcases hx with hx | hx
        · exact absurd (v.evs x hx (by simp [isEv, hc])) hxl
        · obtain ⟨r, rfl⟩ := later hx
          exact v.runEvent ok p hm hc hk
      | quiet =>
        rcases hx with hx | hx
        · exact v.runQuiet ok p hx hxl hm hc (fun s' a' v' => hk _ _ _ _ _ _ _ _ hat v')
        · obtain ⟨r, rfl⟩ := later hx
          have := hat x r rfl
          simp [isEv, hc] at this
      | alloc =>
        rcases hx with hx | hx
        · exact v.runAlloc ok p hx hxl hm hc (fun s' a' v' => hk _ _ _ _ _ _ _ _ hat v')
        · obtain ⟨r, rfl⟩ := later hx
          have := hat x r rfl
          simp [isEv, hc] at this
    match fuel with
    | 0 =>
      refine ⟨?_, ?_⟩
      all_goals
        have hr : Region.ready .any ops L = [] := by
          cases hq : Region.ready .any ops L with
          | nil => rfl
          | cons i r =>
            exfalso
            obtain ⟨x, hx, rfl, hxl, hm, hlt⟩ := v.ready p (i := i) (by rw [hq]; simp)
            have := cnt_set (m := ops.size) v.sz (by rw [← v.sz]; exact hlt) hxl
            omega
      · exact hr
      · exact v.close p hat hr
    | fuel + 1 =>
      refine ⟨fun hr => v.close p hat hr, fun i hi => run i hi _ fun pre' post' e' h' al' rd' s' a' hat' v' => any_sound ok p fuel pre' post' _ e' h' al' rd' s' a' hat' v' ?_⟩
      obtain ⟨x, hx, rfl, hxl, hm, hlt⟩ := v.ready p hi
      have := cnt_set (m := ops.size) v.sz (by rw [← v.sz]; exact hlt) hxl
      omega
end

/-- The region's formula: pl lays its operations in a row. -/
def drawP (cx : Cx) (pl : Nat → Option (List (Nat × Nat))) (n : Nat) (id : Nat) (ops : Array Oper) (K : Env → Heap → Prop) (e : Env) (h : Heap) : Prop := match pl id with
  | some p => ReqA (chk n ops.size (mkInfos ops.toList p) = true) (drawA cx n ops.toList K (mkInfos ops.toList p) e h [] [])
  | none => False
theorem drawP_sound {cx : Cx} (ok : CxOK cx) (hmo : cx.P.follows .mixedOrders = true) {pl : Nat → Option (List (Nat × Nat))} {n id : Nat} {ops : Array Oper} {K : Env → Heap → Prop} {e : Env} {h : Heap} (hk : drawP cx pl n id ops K e h) : drawSem cx n id ops K e h := by
  intro s a sat he hd
  unfold drawP at hk
  split at hk <;> try exact hk.elim
  rename_i p _
  obtain ⟨h1, h2⟩ := reqA_elim hk
  have plan := plan_of_chk h1
  refine wp_region_any hmo ?_
  have hsame : Grows s ⟨s.ρ, s.I, { s.w with drawn := s.w.drawn + 1 }⟩ := ⟨fun _ _ h => h, fun _ h => h, fun _ _ => rfl, fun _ c _ f h => ⟨c, f, h, rfl⟩⟩
  have sat' : Sat cx.toGl h ⟨s.ρ, s.I, { s.w with drawn := s.w.drawn + 1 }⟩ := by
    refine ⟨fun i b hb => ?_, sat.inj, sat.fresh, sat.imm, fun g cs hg => ?_, Nat.le_succ_of_le sat.dr, ⟨⟨sat.old.b.os, sat.old.b.tape, sat.old.b.output, sat.old.b.size, sat.old.b.block⟩, sat.old.I⟩⟩
    · obtain ⟨m, o, k1, k2, k3, k4⟩ := sat.blk i b hb
      exact ⟨m, o, k1, k2, relB_mono hsame _ _ k3, k4⟩
    · obtain ⟨k1, c, ee, f, k2, k3⟩ := sat.glob g cs hg
      exact ⟨k1, c, ee, f, k2, relDs_mono hsame.I hsame.same _ _ k3⟩
  have ext' : Ext h s h ⟨s.ρ, s.I, { s.w with drawn := s.w.drawn + 1 }⟩ := ⟨fun _ _ h => h, fun _ h => h, fun _ h => .inl h, Nat.le_refl _, fun _ _ _ => rfl, fun _ c _ f h => ⟨c, f, h, rfl⟩, fun _ h => .inr h, rfl, rfl, rfl, Nat.le_refl _, fun _ _ => rfl⟩
  have nol : ∀ j, ¬ lst (Array.replicate ops.size false) j := fun j hj => by
    unfold lst at hj
    simp only [Array.getD_eq_getD_getElem?, Array.getElem?_replicate] at hj
    split at hj <;> simp at hj
  have v : Inv cx n ops (mkInfos ops.toList p) K h s [] (mkInfos ops.toList p) (Array.replicate ops.size false) e h [] [] ⟨s.ρ, s.I, { s.w with drawn := s.w.drawn + 1 }⟩ a := by
    refine ⟨rfl, by simp, fun x _ hx => absurd hx (nol _), fun x _ => nol _, fun x hx => by simp at hx, fun x hx => by simp at hx, fun x hx => by simp at hx, fun q hq => by simp at hq, fun q hq => by simp at hq, fun q hq => by simp at hq, fun x hx => by simp at hx, he.1, fun i _ => rel_mono hsame _ _ (he.2 i), hd, sat', ext', h2⟩
  obtain ⟨pre', post', e', h', al', rd', hat, v'⟩ := Inv.advance plan _ _ _ _ _ _ v
  refine any_sound ok plan ops.size _ _ _ _ _ _ _ _ _ hat v' ?_
  unfold cnt
  exact Nat.le_trans List.countP_le_length (by simp)

end Go.Abs
