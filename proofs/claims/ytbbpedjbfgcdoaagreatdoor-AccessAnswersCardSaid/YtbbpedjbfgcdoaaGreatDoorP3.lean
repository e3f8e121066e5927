/- A part of the proof behind the last text of this folder: AbsStep7, AbsIter, AbsOps, AbsCode, AbsDraw0. -/
import Derived.Test.YtbbpedjbfgcdoaaGreatDoorP2
import Derived.RangeFuncSeq
import Derived.RangeFuncIn
import Derived.RangeFuncRecord
import Derived.RangeFuncLeaves
set_option linter.unusedSimpArgs false
set_option linter.unusedSectionVars false

namespace Go.Abs

/-! Conversions. -/
def convA (td : TyI) (x : AV) (K : AV → Prop) : Prop := match td.k with
  | .int k => match x with
    | .dat (.int _ n) => K (.dat (.int k (k.wrap n)))
    | _ => False
  | .str => match x with
    | .dat (.int _ n) => K (.dat (.str (Utf8.encode n)))
    | .dat (.str s) => K (.dat (.str s))
    | _ => False
  | _ => False
theorem optA_elim {α : Type} {x : Option α} {K : α → Prop} (h : OptA x K) : ∃ v, x = some v ∧ K v := by obtain ⟨v, h1, h2⟩ := h; exact ⟨v, h1, h2⟩
theorem conv_ints {P : Program} {src dst : Nat} {d : TypeDesc} {k k' : IntKind} {n : Int} (hs : P.underlying src = some d) (hd : P.underlying dst = some (.int k)) (w : World) : (convert src dst (.int k' n)).run P w = .ok (.int k (k.wrap n)) w := by
  simp only [convert, Sem.run_bind, run_underlying hs, run_underlying hd, Result.andThen_ok, Conv.intToInt]
  cases d <;> rfl
theorem conv_int_str {P : Program} {src dst : Nat} {d : TypeDesc} {k' : IntKind} {n : Int} (hs : P.underlying src = some d) (hd : P.underlying dst = some .string) (w : World) : (convert src dst (.int k' n)).run P w = .ok (.string (Utf8.encode n)) w := by
  simp only [convert, Sem.run_bind, run_underlying hs, run_underlying hd, Result.andThen_ok, Conv.intToString]
  cases d <;> rfl
theorem conv_str_str {P : Program} {src dst : Nat} {d : TypeDesc} {x : ByteArray} (hs : P.underlying src = some d) (hd : P.underlying dst = some .string) (w : World) : (convert src dst (.string x)).run P w = .ok (.string x) w := by
  simp only [convert, Sem.run_bind, run_underlying hs, run_underlying hd, Result.andThen_ok]
  cases d <;> rfl
theorem convA_sound {cx : Cx} {src dst : Nat} {ts td : TyI} (ok : CxOK cx) (hts : cx.T src = some ts) (htd : cx.T dst = some td) {s : Wd} {x : AV} {u : Value} (hr : Rel s x u) {K : AV → Prop} (hk : convA td x K) :
    ∃ v r, (convert src dst u).run cx.P s.w = .ok v s.w ∧ K r ∧ Rel s r v := by
  obtain ⟨_, ds, _, _, hus, _⟩ := ok.types src ts hts
  obtain ⟨_, dd, _, _, hud, _, _, _, _, hkd⟩ := ok.types dst td htd
  unfold convA at hk
  cases hk' : td.k with
  | int k =>
    rw [hk'] at hkd hk
    obtain rfl := tk_int hkd
    cases x with
    | dat d =>
      cases d with
      | int k' n =>
        simp only [Rel, RelD] at hr; subst hr
        exact ⟨_, _, conv_ints hus hud s.w, hk, by simp only [Rel, RelD]⟩
      | _ => exact False.elim hk
    | _ => exact False.elim hk
  | str =>
    rw [hk'] at hkd hk
    obtain rfl := tk_str hkd
    cases x with
    | dat d =>
      cases d with
      | int k' n =>
        simp only [Rel, RelD] at hr; subst hr
        exact ⟨_, _, conv_int_str hus hud s.w, hk, by simp only [Rel, RelD]⟩
      | str y =>
        simp only [Rel, RelD] at hr; subst hr
        exact ⟨_, _, conv_str_str hus hud s.w, hk, by simp only [Rel, RelD]⟩
      | _ => exact False.elim hk
    | _ => exact False.elim hk
  | _ => rw [hk'] at hk; exact False.elim hk

/-! Operators. -/
def isNilA : AV → Option Bool
  | .dat .nilp | .dat .nils | .dat .nilm | .dat .nili | .dat .nilf => some true
  | .ptr _ _ | .map _ | .sl .. | .iface _ _ | .func _ _ => some false
  | .dat (.ros ..) | .dat (.rptr ..) | .dat (.iface ..) | .dat (.gptr _) | .dat (.fn _) => some false
  | _ => none
def isConstA : Operand → Bool
  | .const _ => true
  | _ => false
def divA (op : BinOp) (k : IntKind) (a b : Int) : Option DV := match op with
  | .quo => some (.int k (k.wrap (a.tdiv b)))
  | .rem => some (.int k (a.tmod b))
  | _ => none
def shfA (op : BinOp) (k : IntKind) (a b : Int) : Option DV := match op with
  | .shl => some (.int k (k.wrap (a * 2 ^ (min b.toNat k.bits))))
  | .shr => some (.int k (a.fdiv (2 ^ (min b.toNat k.bits))))
  | _ => none
def isDiv : BinOp → Bool
  | .quo | .rem => true
  | _ => false
def isShf : BinOp → Bool
  | .shl | .shr => true
  | _ => false
def eqRes (op : BinOp) (r : Bool) (K : AV → Prop) : Prop := match op with
  | .eql => K (.dat (.bool r))
  | .neq => K (.dat (.bool (!r)))
  | _ => False
theorem run_int_int {P : Program} {op : BinOp} {k k' : IntKind} {a b : Int} (t : Nat) (w : World) (hs : isShf op = false) (hk : k = k') :
    (binOp op t (.int k a) (.int k' b)).run P w = (match op with
    | .add | .sub | .mul => Op.intArith op k a b
    | .quo | .rem => Op.intDiv op k a b
    | .and | .or | .xor | .andNot => Op.intBits op k a b
    | _ => Op.intCmp op a b).run P w := by
  subst hk
  cases op <;> simp [isShf] at hs <;> simp [binOp]
theorem run_divA {P : Program} {op : BinOp} {k : IntKind} {a b : Int} {d : DV} (h : divA op k a b = some d) (hb : b ≠ 0) (t : Nat) (w : World) :
    ∃ v, (binOp op t (.int k a) (.int k b)).run P w = .ok v w ∧ ∀ I w, RelD I w d v := by
  cases op <;> simp only [divA, Option.some.injEq, reduceCtorEq] at h <;> subst h <;>
    simp [binOp, Op.intDiv, hb, RelD]
theorem run_shfA {P : Program} {op : BinOp} {k k' : IntKind} {a b : Int} {d : DV} (h : shfA op k a b = some d) (hb : 0 ≤ b) (t : Nat) (w : World) :
    ∃ v, (binOp op t (.int k a) (.int k' b)).run P w = .ok v w ∧ ∀ I w, RelD I w d v := by
  have : ¬ b < 0 := by omega
  cases op <;> simp only [shfA, Option.some.injEq, reduceCtorEq] at h <;> subst h <;>
    simp [binOp, Op.shift, this, RelD]
theorem run_guard_int {P : Program} (op : BinOp) (t : Nat) (x y : Operand) (k k' : IntKind) (a b : Int) (w : World) : (eqGuard op t x y (.int k a) (.int k' b)).run P w = .ok () w := by
  unfold eqGuard; split <;> rfl
theorem run_guard_str {P : Program} (op : BinOp) (t : Nat) (x y : Operand) (a b : ByteArray) (w : World) : (eqGuard op t x y (.string a) (.string b)).run P w = .ok () w := by
  unfold eqGuard; split <;> rfl
theorem run_guard_bool {P : Program} (op : BinOp) (t : Nat) (x y : Operand) (a b : Bool) (w : World) : (eqGuard op t x y (.bool a) (.bool b)).run P w = .ok () w := by
  unfold eqGuard; split <;> rfl

/-- x == nil: the constant stands on the right. -/
def nilCmp (cx : Cx) (op : BinOp) (t : Nat) (yo : Operand) (x y : AV) (K : AV → Prop) : Prop := match isConstA yo with
  | true => hasTy cx t fun ti => match ti.k with
    | .pt _ => match y with
      | .dat .nilp => match x with
        | .dat .nilp => eqRes op true K
        | .ptr _ _ => eqRes op false K
        | .dat (.rptr _ _) => eqRes op false K
        | .dat (.gptr _) => eqRes op false K
        | _ => False
      | _ => False
    | .slc _ => match y with
      | .dat .nils => match x with
        | .dat .nils => eqRes op true K
        | .dat (.ros _ _ _) => eqRes op false K
        | .sl _ _ _ _ _ => eqRes op false K
        | _ => False
      | _ => False
    | .ifc => match y with
      | .dat .nili => match x with
        | .dat .nili => eqRes op true K
        | .dat (.iface _ _) => eqRes op false K
        | .iface _ _ => eqRes op false K
        | _ => False
      | _ => False
    | _ => False
  | false => False
def binA (cx : Cx) (op : BinOp) (t : Nat) (yo : Operand) (x y : AV) (K : AV → Prop) : Prop := match x with
  | .dat (.int k a) => match y with
    | .dat (.int k' b) => match isShf op with
      | true => ReqA (0 ≤ b) (optR (shfA op k a b) fun d => K (.dat d))
      | false => match kEq k k' with
        | true => match isDiv op with
          | true => ReqA (b ≠ 0) (optR (divA op k a b) fun d => K (.dat d))
          | false => optR (intA op k a b) fun d => K (.dat d)
        | false => False
    | _ => False
  | .dat (.str a) => match y with
    | .dat (.str b) => match op with
      | .add => ReqA (a.size + b.size ≤ maxLen) (K (.dat (.str (a ++ b))))
      | _ => optR (strA op a b) fun d => K (.dat d)
    | _ => False
  | .dat (.bool a) => match y with
    | .dat (.bool b) => hasTy cx t fun ti => match ti.k with
      | .bool => eqRes op (a == b) K
      | _ => False
    | _ => False
  | .agg xs => match toDs xs, toD y, cx.S t with
    | some ds, some (.agg ys), some ks => match kindsD ks ds with
      | true => optR (keyEqs ds ys) fun r => eqRes op r K
      | false => False
    | _, _, _ => False
  | .dat (.agg ds) => match toD y, cx.S t with
    | some (.agg ys), some ks => match kindsD ks ds with
      | true => optR (keyEqs ds ys) fun r => eqRes op r K
      | false => False
    | _, _ => False
  | x => nilCmp cx op t yo x y K

/-- The operation as the model runs it: the guard, then the operator. -/
def binRun (op : BinOp) (t : Nat) (x y : Operand) (a b : Value) : Sem Value := do eqGuard op t x y a b; binOp op t a b

theorem eqRes_elim {op : BinOp} {r : Bool} {K : AV → Prop} (h : eqRes op r K) : (op = .eql ∧ K (.dat (.bool r))) ∨ (op = .neq ∧ K (.dat (.bool (!r)))) := by
  cases op <;> simp_all [eqRes]
theorem eqRes_run {P : Program} {s : Wd} {op : BinOp} {t : Nat} {r : Bool} {K : AV → Prop} (h : eqRes op r K) {a b : Value} (hq : (Op.equal t a b).run P s.w = .ok r s.w)
    (hb : ∀ op, (op = .eql ∨ op = .neq) → binOp op t a b = (match op with | .neq => (do pure (.bool (!(← Op.equal t a b))) : Sem Value) | _ => do pure (.bool (← Op.equal t a b)))) :
    ∃ v x, (binOp op t a b).run P s.w = .ok v s.w ∧ K x ∧ Rel s x v := by
  rcases eqRes_elim h with ⟨rfl, h⟩ | ⟨rfl, h⟩
  · exact ⟨.bool r, _, by rw [hb _ (.inl rfl)]; simp [hq], h, by simp only [Rel, RelD]⟩
  · exact ⟨.bool (!r), _, by rw [hb _ (.inr rfl)]; simp [hq], h, by simp only [Rel, RelD]⟩

theorem struct_run {cx : Cx} {t : Nat} (ok : CxOK cx) {s : Wd} {ds ys : List DV} {u v : Value} (hx : RelD s.I s.w (.agg ds) u) (hy : RelD s.I s.w (.agg ys) v) {ks : List CK} (hks : cx.S t = some ks) (hkd : kindsD ks ds = true) {op : BinOp} {K : AV → Prop} {r : Bool} (hr : keyEqs ds ys = some r)
    (h : eqRes op r K) (xo yo : Operand) : ∃ w x, (binRun op t xo yo u v).run cx.P s.w = .ok w s.w ∧ K x ∧ Rel s x w := by
  have so := ok.structs t ks hks
  simp only [RelD] at hx hy
  obtain ⟨us, rfl, h1, h2⟩ := hx
  obtain ⟨vs, rfl, h3, h4⟩ := hy
  have k1 := kindsD_ok hkd (by simpa using h1) h2
  have k2 := kindsD_ok (keyEqs_kinds hkd hr) (by simpa using h3) h4
  have e := keyEqs_eqV hr (by simpa using h1) (by simpa using h3) h2 h4
  obtain ⟨w, x, h5, h6⟩ := eqRes_run (t := t) (a := .agg us) (b := .agg vs) (P := cx.P) (s := s) h (by rw [so.eq us vs s.w k1 k2, e]) (by intro op hop; rcases hop with rfl | rfl <;> rfl)
  exact ⟨w, x, by simp only [binRun, Sem.run_bind, so.guard op xo yo us vs s.w k1 k2, Result.andThen_ok]; exact h5, h6⟩

theorem optR_run {cx : Cx} {s : Wd} {o : Option DV} {K : AV → Prop} (h : optR o fun d => K (.dat d)) {x : Sem Value} (hx : ∀ d, o = some d → ∃ v, x.run cx.P s.w = .ok v s.w ∧ ∀ I w, RelD I w d v) :
    ∃ v a, x.run cx.P s.w = .ok v s.w ∧ K a ∧ Rel s a v := by
  obtain ⟨d, hd, hk⟩ := optR_elim h
  obtain ⟨v, h1, h2⟩ := hx d hd
  exact ⟨v, _, h1, hk, by simpa [Rel] using h2 s.I s.w⟩

theorem eq_ptr_nil {P : Program} {t e : Nat} (hu : P.underlying t = some (.pointer e)) (d : Nat) (p : Option Addr) (w : World) : (Op.equalIn (d + 1) t (.pointer p) (.pointer none)).run P w = .ok p.isNone w := by
  cases p <;> simp [Op.equalIn, run_underlying hu]
theorem eq_slc_nil {P : Program} {t e : Nat} (hu : P.underlying t = some (.slice e)) (d : Nat) (p : Option Addr) (n m : Nat) (w : World) : (Op.equalIn (d + 1) t (.slice p n m) (.slice none 0 0)).run P w = .ok p.isNone w := by
  cases p <;> simp [Op.equalIn, run_underlying hu]
theorem eq_ifc_nil {P : Program} {t : Nat} {ms : Array (String × TypeId)} (hu : P.underlying t = some (.interface ms)) (d : Nat) (w : World) : (Op.equalIn (d + 1) t .nilIface .nilIface).run P w = .ok true w := by
  simp [Op.equalIn, run_underlying hu]
theorem eq_ifc_val {P : Program} {t : Nat} {ms : Array (String × TypeId)} (hu : P.underlying t = some (.interface ms)) (d : Nat) (u : Nat) (v : Value) (w : World) : (Op.equalIn (d + 1) t (.iface u v) .nilIface).run P w = .ok false w := by
  simp [Op.equalIn, run_underlying hu]
theorem eq_bool {P : Program} {t : Nat} (hu : P.underlying t = some .bool) (d : Nat) (a b : Bool) (w : World) : (Op.equalIn (d + 1) t (.bool a) (.bool b)).run P w = .ok (a == b) w := by
  simp [Op.equalIn, run_underlying hu]
theorem nilCmp_sound {cx : Cx} (ok : CxOK cx) {s : Wd} {op : BinOp} {t : Nat} {xo yo : Operand} {x y : AV} {u v : Value} (hx : Rel s x u) (hy : Rel s y v) {K : AV → Prop} (h : nilCmp cx op t yo x y K) :
    ∃ w a, (binRun op t xo yo u v).run cx.P s.w = .ok w s.w ∧ K a ∧ Rel s a w := by
  unfold nilCmp at h
  cases hyo : isConstA yo with
  | false => rw [hyo] at h; exact False.elim h
  | true =>
    rw [hyo] at h
    obtain ⟨ti, hti, h⟩ := hasTy_elim h
    obtain ⟨_, desc, _, _, hu, _, _, _, _, hk⟩ := ok.types t ti hti
    obtain ⟨cv, rfl⟩ : ∃ v, yo = .const v := by cases yo <;> first | exact ⟨_, rfl⟩ | simp [isConstA] at hyo
    cases hk' : ti.k with
    | pt e =>
      rw [hk'] at h hk
      obtain rfl := tk_pt hk
      simp only at h
      split at h <;> try exact h.elim
      simp only [Rel, RelD] at hy; subst hy
      have go : ∀ (p : Option Addr), u = .pointer p → eqRes op p.isNone K → ∃ w a, (binRun op t xo (.const cv) u (.pointer none)).run cx.P s.w = .ok w s.w ∧ K a ∧ Rel s a w := by
        intro p hp h
        subst hp
        obtain ⟨w, a, h5, h6⟩ := eqRes_run (t := t) (a := .pointer p) (b := .pointer none) (P := cx.P) (s := s) h (eq_ptr_nil hu 9999 p s.w) (by intro op hop; rcases hop with rfl | rfl <;> cases p <;> rfl)
        refine ⟨w, a, ?_, h6⟩
        have hg : (eqGuard op t xo (.const cv) (.pointer p) (.pointer none)).run cx.P s.w = .ok () s.w := by unfold eqGuard; split <;> rfl
        simp only [binRun, Sem.run_bind, hg, Result.andThen_ok]; exact h5
      split at h <;> try exact h.elim
      · simp only [Rel, RelD] at hx; exact go none hx h
      · simp only [Rel] at hx; obtain ⟨_, _, hx⟩ := hx; exact go _ hx h
      · simp only [Rel, RelD] at hx; obtain ⟨_, _, _, _, _, hx, _⟩ := hx; exact go _ hx h
      · simp only [Rel, RelD] at hx; exact go _ hx h
    | slc e =>
      rw [hk'] at h hk
      obtain rfl := tk_slc hk
      simp only at h
      split at h <;> try exact h.elim
      simp only [Rel, RelD] at hy; subst hy
      have go : ∀ (p : Option Addr) n m, u = .slice p n m → eqRes op p.isNone K → ∃ w a, (binRun op t xo (.const cv) u (.slice none 0 0)).run cx.P s.w = .ok w s.w ∧ K a ∧ Rel s a w := by
        intro p n m hp h
        subst hp
        obtain ⟨w, a, h5, h6⟩ := eqRes_run (t := t) (a := .slice p n m) (b := .slice none 0 0) (P := cx.P) (s := s) h (eq_slc_nil hu 9999 p n m s.w) (by intro op hop; rcases hop with rfl | rfl <;> rfl)
        refine ⟨w, a, ?_, h6⟩
        have hg : (eqGuard op t xo (.const cv) (.slice p n m) (.slice none 0 0)).run cx.P s.w = .ok () s.w := by unfold eqGuard; split <;> rfl
        simp only [binRun, Sem.run_bind, hg, Result.andThen_ok]; exact h5
      split at h <;> try exact h.elim
      · simp only [Rel, RelD] at hx; exact go none _ _ hx h
      · simp only [Rel, RelD] at hx; rcases hx with ⟨_, _, _, _, hx⟩ | ⟨_, _, _, _, _, _, hx, _⟩ <;> exact go _ _ _ hx h
      · simp only [Rel] at hx; obtain ⟨_, _, _, _, _, _, hx, _⟩ := hx; exact go _ _ _ hx h
    | ifc =>
      rw [hk'] at h hk
      obtain ⟨ms, rfl⟩ := tk_ifc hk
      simp only at h
      split at h <;> try exact h.elim
      simp only [Rel, RelD] at hy; subst hy
      have go : ∀ b, (∃ t' v', u = .iface t' v' ∧ b = false) ∨ (u = .nilIface ∧ b = true) → eqRes op b K → ∃ w a, (binRun op t xo (.const cv) u .nilIface).run cx.P s.w = .ok w s.w ∧ K a ∧ Rel s a w := by
        intro b hp h
        have hq : (Op.equal t u .nilIface).run cx.P s.w = .ok b s.w := by
          rcases hp with ⟨t', v', rfl, rfl⟩ | ⟨rfl, rfl⟩ <;> first | exact eq_ifc_val hu 9999 _ _ s.w | exact eq_ifc_nil hu 9999 s.w
        obtain ⟨w, a, h5, h6⟩ := eqRes_run (t := t) (a := u) (b := .nilIface) (P := cx.P) (s := s) h hq (by intro op hop; rcases hp with ⟨t', v', rfl, rfl⟩ | ⟨rfl, rfl⟩ <;> rcases hop with rfl | rfl <;> rfl)
        refine ⟨w, a, ?_, h6⟩
        have hg : (eqGuard op t xo (.const cv) u .nilIface).run cx.P s.w = .ok () s.w := by
          rcases hp with ⟨t', v', rfl, rfl⟩ | ⟨rfl, rfl⟩
          · unfold eqGuard; split <;> rfl
          · cases op <;> simp [eqGuard]
        simp only [binRun, Sem.run_bind, hg, Result.andThen_ok]; exact h5
      split at h <;> try exact h.elim
      · simp only [Rel, RelD] at hx; exact go _ (.inr ⟨hx, rfl⟩) h
      · simp only [Rel, RelD] at hx; obtain ⟨_, hx, _⟩ := hx; exact go _ (.inl ⟨_, _, hx, rfl⟩) h
      · simp only [Rel] at hx; obtain ⟨_, hx, _⟩ := hx; exact go _ (.inl ⟨_, _, hx, rfl⟩) h
    | _ => rw [hk'] at h; exact False.elim h

theorem binA_sound {cx : Cx} (ok : CxOK cx) {s : Wd} {op : BinOp} {t : Nat} {xo yo : Operand} {x y : AV} {u v : Value} (hx : Rel s x u) (hy : Rel s y v) {K : AV → Prop} (h : binA cx op t yo x y K) :
    ∃ w a, (binRun op t xo yo u v).run cx.P s.w = .ok w s.w ∧ K a ∧ Rel s a w := by
  unfold binA at h
  split at h
  · -- ints
    split at h <;> try exact h.elim
    rename_i k a _ k' b
    simp only [Rel, RelD] at hx hy; subst hx hy
    have fin : ∀ o, (optR o fun d => K (.dat d)) → (∀ d, o = some d → ∃ v, (binOp op t (.int k a) (.int k' b)).run cx.P s.w = .ok v s.w ∧ ∀ I w, RelD I w d v) → ∃ w a_1, (binRun op t xo yo (.int k a) (.int k' b)).run cx.P s.w = .ok w s.w ∧ K a_1 ∧ Rel s a_1 w := by
      intro o ho hx
      obtain ⟨w, a1, h1, h2⟩ := optR_run (cx := cx) (s := s) ho hx
      exact ⟨w, a1, by simp only [binRun, Sem.run_bind, run_guard_int, Result.andThen_ok]; exact h1, h2⟩
    split at h
    · obtain ⟨hb, h⟩ := reqA_elim h
      exact fin _ h fun d hd => run_shfA hd hb t s.w
    · split at h <;> try exact h.elim
      rename_i hkk
      have hkk := kEq_iff.1 hkk
      subst hkk
      split at h
      · obtain ⟨hb, h⟩ := reqA_elim h
        exact fin _ h fun d hd => run_divA hd hb t s.w
      · exact fin _ h fun d hd => run_intA hd t s.w
  · -- strings
    split at h <;> try exact h.elim
    rename_i a _ b
    simp only [Rel, RelD] at hx hy; subst hx hy
    split at h
    · obtain ⟨hb, h⟩ := reqA_elim h
      refine ⟨.string (a ++ b), _, ?_, h, by simp only [Rel, RelD]⟩
      have : ¬ ((9223372036854775807 : Int) < ((a.size : Int) + (b.size : Int))) := by unfold maxLen at hb; omega
      simp only [binRun, Sem.run_bind, run_guard_str, Result.andThen_ok]
      simp [binOp, Op.stringOp, IntKind.max, IntKind.signed, IntKind.bits, this]
    · obtain ⟨w, a1, h1, h2⟩ := optR_run (cx := cx) (s := s) h fun d hd => run_strA hd t s.w
      exact ⟨w, a1, by simp only [binRun, Sem.run_bind, run_guard_str, Result.andThen_ok]; exact h1, h2⟩
  · -- bools
    split at h <;> try exact h.elim
    rename_i a _ b
    simp only [Rel, RelD] at hx hy; subst hx hy
    obtain ⟨ti, hti, h⟩ := hasTy_elim h
    obtain ⟨_, desc, _, _, hu, _, _, _, _, hk⟩ := ok.types t ti hti
    split at h <;> try exact h.elim
    rename_i hk'
    rw [hk'] at hk
    obtain rfl := tk_bool hk
    obtain ⟨w, x, h5, h6⟩ := eqRes_run (t := t) (a := .bool a) (b := .bool b) (P := cx.P) (s := s) h (eq_bool hu 9999 a b s.w) (by intro op hop; rcases hop with rfl | rfl <;> rfl)
    exact ⟨w, x, by simp only [binRun, Sem.run_bind, run_guard_bool, Result.andThen_ok]; exact h5, h6⟩
  · -- structs
    split at h <;> try exact h.elim
    rename_i xs _ _ _ ds ys ks h1 h2 h3
    split at h <;> try exact h.elim
    rename_i hkd
    obtain ⟨r, hr, h⟩ := optR_elim h
    have hx' : RelD s.I s.w (.agg ds) u := toD_rel (a := .agg xs) (by simp [toD, h1]) hx
    exact struct_run ok hx' (toD_rel h2 hy) h3 hkd hr h xo yo
  · split at h <;> try exact h.elim
    rename_i ds _ _ _ ys ks h2 h3
    split at h <;> try exact h.elim
    rename_i hkd
    obtain ⟨r, hr, h⟩ := optR_elim h
    exact struct_run ok (by simpa [Rel] using hx) (toD_rel h2 hy) h3 hkd hr h xo yo
  · exact nilCmp_sound ok hx hy h

end Go.Abs

namespace Go.Abs

/-! A range over a map: in whatever order. -/
def entB (bs : List Nat) (es : List (DV × AV)) (b : Nat) : Option (DV × AV) := match bs, es with
  | b' :: bs, e :: es => match Nat.beq b' b with
    | true => some e
    | false => entB bs es b
  | _, _ => none
structure RangeM (n : Nat) (F : List Nat → Nat → Prop) : Prop where
  k : ∀ bs clk, bs.length = n → bs.Pairwise (· < ·) → (∀ b ∈ bs, b < clk) → F bs clk
theorem rangeM {n : Nat} {F : List Nat → Nat → Prop} (h : ∀ bs clk, bs.length = n → bs.Pairwise (· < ·) → (∀ b ∈ bs, b < clk) → F bs clk) : RangeM n F := ⟨h⟩
theorem rangeM_elim {n : Nat} {F : List Nat → Nat → Prop} (h : RangeM n F) : ∀ bs clk, bs.length = n → bs.Pairwise (· < ·) → (∀ b ∈ bs, b < clk) → F bs clk := h.k
structure NextM (bs : List Nat) (es : List (DV × AV)) (seen : List Nat) (F : Nat → DV → AV → Prop) (Z : Prop) : Prop where
  f : ∀ b k v, entB bs es b = some (k, v) → b ∉ seen → F b k v
  z : (∀ b ∈ bs, b ∈ seen) → Z
theorem nextM {bs : List Nat} {es : List (DV × AV)} {seen : List Nat} {F : Nat → DV → AV → Prop} {Z : Prop} (h : ∀ b k v, entB bs es b = some (k, v) → b ∉ seen → F b k v) (hz : (∀ b ∈ bs, b ∈ seen) → Z) : NextM bs es seen F Z := ⟨h, hz⟩
theorem nextM_elim {bs : List Nat} {es : List (DV × AV)} {seen : List Nat} {F : Nat → DV → AV → Prop} {Z : Prop} (h : NextM bs es seen F Z) : (∀ b k v, entB bs es b = some (k, v) → b ∉ seen → F b k v) ∧ ((∀ b ∈ bs, b ∈ seen) → Z) := ⟨h.f, h.z⟩
def rangeMapA (x : AV) (h : Heap) (K : AV → Heap → Prop) : Prop := match x with
  | .dat .nilm => K (.ptr h.length 0) (h ++ [some .miter0])
  | .map id => match hget h id with
    | some (.mapD es) => RangeM es.length fun bs clk => K (.ptr h.length 0) (hset h id (some (.mapB bs clk (liftE es))) ++ [some (.miter id clk [])])
    | some (.mapA es) => RangeM es.length fun bs clk => K (.ptr h.length 0) (hset h id (some (.mapB bs clk es)) ++ [some (.miter id clk [])])
    | some (.mapB _ clk _) => K (.ptr h.length 0) (h ++ [some (.miter id clk [])])
    | _ => False
  | _ => False
def nextMapA (x : AV) (h : Heap) (K : AV → Heap → Prop) : Prop := match x with
  | .ptr it o => match o with
    | 0 => match hget h it with
      | some .miter0 => K (.tup [.dat (.bool false)]) h
      | some (.miter m c seen) => match hget h m with
        | some (.mapB bs clk es) => ReqA (c = clk) (NextM bs es seen (fun b k v => K (.tup [.dat (.bool true), .dat k, v]) (hset h it (some (.miter m c (b :: seen))))) (K (.tup [.dat (.bool false)]) h))
        | _ => False
      | _ => False
    | _ => False
  | _ => False
def entryMapA (x : AV) (h : Heap) (K : AV → Heap → Prop) : Prop := match x with
  | .ptr it o => match o with
    | 0 => match hget h it with
      | some (.miter m c seen) => match seen with
        | b :: _ => match hget h m with
          | some (.mapB bs clk es) => ReqA (c = clk) (OptA (entB bs es b) fun e => K (.tup [.dat e.1, e.2]) h)
          | _ => False
        | [] => False
      | _ => False
    | _ => False
  | _ => False

theorem sat_view {γ : Gl} {h : Heap} {s : Wd} (sat : Sat γ h s) {i : Nat} {b : AB} (hb : hget h i = some b) (b' : AB) (hv : ∀ n o, s.ρ i = some n → s.w.heap[n]? = some o → RelB s b o → RelB s b' o) : Sat γ (hset h i (some b')) s ∧ Ext h s (hset h i (some b')) s := by
  have hil := hget_lt hb
  have live : ∀ j, hget (hset h i (some b')) j ≠ none → hget h j ≠ none := fun j hj => by
    rw [hget_hset _ _ _ _ hil] at hj
    by_cases e : j = i
    · subst e; rw [hb]; simp
    · rwa [if_neg e] at hj
  refine ⟨⟨fun j b2 hb2 => ?_, fun j k m hj hk => sat.inj j k m (live j hj) (live k hk), fun j hj => sat.fresh j (by rwa [hset_length] at hj), sat.imm, sat.glob, sat.dr, sat.old⟩, fun _ _ h => h, fun _ h => h, fun _ h => .inl h, Nat.le_refl _, fun _ _ _ => rfl, fun _ c _ f h => ⟨c, f, h, rfl⟩, fun n ⟨j, hj, hρ⟩ => .inr ⟨j, live j hj, hρ⟩, rfl, rfl, rfl, by rw [hset_length]; exact Nat.le_refl _, fun _ _ => rfl⟩
  rw [hget_hset _ _ _ _ hil] at hb2
  by_cases e : j = i
  · subst e; rw [if_pos rfl] at hb2; cases hb2
    obtain ⟨n, o, h1, h2, h3, h4⟩ := sat.blk j b hb
    exact ⟨n, o, h1, h2, hv n o h1 h2 h3, h4⟩
  · rw [if_neg e] at hb2; exact sat.blk j b2 hb2
theorem relE_lift' {s : Wd} {es : List (DV × DV)} {l : List MapEntry} (h : RelE (RelD s.I s.w) s es l) : RelE (Rel s) s (liftE es) l := relE_lift h

theorem rangeMapA_sound {cx : Cx} {t kt et : Nat} (hu : cx.P.underlying t = some (.map kt et)) {h : Heap} {s : Wd} (sat : Sat cx.toGl h s) {x : AV} {u : Value} (hr : Rel s x u) {K : AV → Heap → Prop} (hk : rangeMapA x h K) :
    ∃ v w', (Instr.range t u).run cx.P s.w = .ok v w' ∧ Post cx h s K v w' := by
  unfold rangeMapA at hk
  have fin : ∀ (h1 : Heap) (id n clk : Nat) (ents : Array MapEntry), h1.length = h.length → Sat cx.toGl h1 s → Ext h s h1 s → s.ρ id = some n → s.w.heap[n]? = some (.map ents clk) → u = .map (some n) → K (.ptr h.length 0) (h1 ++ [some (.miter id clk [])]) →
      ∃ v w', (Instr.range t u).run cx.P s.w = .ok v w' ∧ Post cx h s K v w' := fun h1 id n clk ents hl sat1 ext1 hρ hn hu' hk => by
    subst hu'
    have hg : (getObj n).run cx.P s.w = .ok (.map ents clk) s.w := by simp [getObj, Sem.run, hn]
    have ha := sat_alloc sat1 (.miter id clk []) (.mapIter (some n) clk #[] clk) ⟨n, (grows_alloc sat1 h1.length (sat1.fresh _ (Nat.le_refl _)) _).ρ _ _ hρ, rfl⟩
    refine ⟨.pointer (some ⟨s.w.heap.size, 0, none⟩), s.w.alloc (.mapIter (some n) clk #[] clk), ?_, .ptr h.length 0, _, s.alloc h1.length (.mapIter (some n) clk #[] clk), rfl, hk, ?_, ha, ext1.trans (ext_alloc sat1 _ _)⟩
    · simp only [Instr.range, Sem.run_bind, run_underlying hu, Result.andThen_ok, hg, Sem.run_pure, run_newObj]; rfl
    · simp only [Rel]; exact ⟨_, by rw [← hl]; simp [Wd.alloc], rfl⟩
  split at hk <;> try exact hk.elim
  · simp only [Rel, RelD] at hr
    subst hr
    have ha := sat_alloc sat .miter0 (.mapIter none 0 #[] 0) rfl
    refine ⟨.pointer (some ⟨s.w.heap.size, 0, none⟩), s.w.alloc (.mapIter none 0 #[] 0), ?_, .ptr h.length 0, _, s.alloc h.length (.mapIter none 0 #[] 0), rfl, hk, ?_, ha, ext_alloc sat _ _⟩
    · simp only [Instr.range, Sem.run_bind, run_underlying hu, Result.andThen_ok, Sem.run_pure, run_newObj]; rfl
    · simp only [Rel]; exact ⟨_, by simp [Wd.alloc], rfl⟩
  · rename_i id
    simp only [Rel] at hr
    obtain ⟨n, hρ, rfl⟩ := hr
    split at hk <;> try exact hk.elim
    · rename_i es hg
      obtain ⟨n', o, h1, h2, h3, _⟩ := sat.blk id _ hg
      rw [hρ] at h1; cases h1
      obtain ⟨ents, clk, rfl, hre, hp, hc⟩ := h3
      have hb : ∀ b ∈ ents.toList.map (·.born), b < clk := fun b hb => by
        obtain ⟨e, he, rfl⟩ := List.mem_map.1 hb; exact hc e he
      have hk := rangeM_elim hk (ents.toList.map (·.born)) clk (by rw [List.length_map, relE_length hre]) hp hb
      obtain ⟨sat1, ext1⟩ := sat_view sat hg (.mapB (ents.toList.map (·.born)) clk (liftE es)) (fun m o hm ho _ => by
        rw [hρ] at hm; cases hm
        rw [h2] at ho; cases ho
        exact ⟨ents, rfl, relE_lift hre, rfl, hp, hb⟩)
      exact fin _ id _ clk ents (hset_length _ _ _) sat1 ext1 hρ h2 rfl hk
    · rename_i es hg
      obtain ⟨n', o, h1, h2, h3, _⟩ := sat.blk id _ hg
      rw [hρ] at h1; cases h1
      obtain ⟨ents, clk, rfl, hre, hp, hc⟩ := h3
      have hb : ∀ b ∈ ents.toList.map (·.born), b < clk := fun b hb => by
        obtain ⟨e, he, rfl⟩ := List.mem_map.1 hb; exact hc e he
      have hk := rangeM_elim hk (ents.toList.map (·.born)) clk (by rw [List.length_map, relE_length hre]) hp hb
      obtain ⟨sat1, ext1⟩ := sat_view sat hg (.mapB (ents.toList.map (·.born)) clk es) (fun m o hm ho _ => by
        rw [hρ] at hm; cases hm
        rw [h2] at ho; cases ho
        exact ⟨ents, rfl, hre, rfl, hp, hb⟩)
      exact fin _ id _ clk ents (hset_length _ _ _) sat1 ext1 hρ h2 rfl hk
    · rename_i bs clk es hg
      obtain ⟨n', o, h1, h2, h3, _⟩ := sat.blk id _ hg
      rw [hρ] at h1; cases h1
      obtain ⟨ents, rfl, hre, hp, hc⟩ := h3
      exact fin _ id _ clk ents rfl sat (Ext.refl h s) hρ h2 rfl hk

theorem entB_mem {s : Wd} {R : AV → Value → Prop} : ∀ {es : List (DV × AV)} {l : List MapEntry} {b : Nat} {k : DV} {v : AV}, RelE R s es l → entB (l.map (·.born)) es b = some (k, v) → ∃ e ∈ l, e.born = b ∧ RelD s.I s.w k e.key ∧ R v e.val
  | [], [], _, _, _, _, h => by simp [entB] at h
  | (k', v') :: es, e :: l, b, k, v, hr, h => by
    simp only [List.map_cons, entB] at h
    split at h
    · rename_i hb
      simp only [Option.some.injEq, Prod.mk.injEq] at h
      obtain ⟨rfl, rfl⟩ := h
      exact ⟨e, by simp, Nat.eq_of_beq_eq_true hb, hr.1.1, hr.1.2⟩
    · obtain ⟨e', h1, h2⟩ := entB_mem hr.2 h
      exact ⟨e', by simp [h1], h2⟩
  | [], _ :: _, _, _, _, hr, _ => hr.elim
  | _ :: _, [], _, _, _, hr, _ => hr.elim
theorem entB_of {s : Wd} {R : AV → Value → Prop} : ∀ {es : List (DV × AV)} {l : List MapEntry}, RelE R s es l → (l.map (·.born)).Pairwise (· < ·) → ∀ e ∈ l, ∃ k v, entB (l.map (·.born)) es e.born = some (k, v) ∧ RelD s.I s.w k e.key ∧ R v e.val
  | [], [], _, _, e, he => by simp at he
  | (k', v') :: es, e0 :: l, hr, hp, e, he => by
    simp only [List.mem_cons] at he
    simp only [List.map_cons, entB]
    simp only [List.map_cons, List.pairwise_cons] at hp
    rcases he with rfl | he
    · simp only [Nat.beq_refl]
      exact ⟨k', v', rfl, hr.1.1, hr.1.2⟩
    · have hlt := hp.1 e.born (List.mem_map.2 ⟨e, he, rfl⟩)
      have hne : Nat.beq e0.born e.born = false := by
        cases hb : Nat.beq e0.born e.born with
        | false => rfl
        | true => have := Nat.eq_of_beq_eq_true hb; omega
      rw [hne]
      exact entB_of hr.2 hp.2 e he
  | [], _ :: _, hr, _, _, _ => hr.elim
  | _ :: _, [], hr, _, _, _ => hr.elim

theorem choose_run0 {P : Program} {w : World} {n : Nat} (hn : 0 < n) (hf : ¬ n ≤ 1) : ∃ (j : Nat), j < n ∧ (choose (Question.mapNext n)).run P w = .ok j { w with drawn := w.drawn + 1 } :=
  ⟨_, Nat.mod_lt _ hn, by
      simp only [choose, Sem.run, Question.forced, decide_eq_true_eq, hf, if_false, Question.cut]
      rfl⟩
theorem choose_run {P : Program} {w : World} {n : Nat} (hn : 0 < n) : ∃ (j d : Nat), j < n ∧ (choose (Question.mapNext n)).run P w = .ok j { w with drawn := d } ∧ w.drawn ≤ d := by
  by_cases hf : n ≤ 1
  · exact ⟨0, w.drawn, hn, by simp [choose, Sem.run, Question.forced, hf], Nat.le_refl _⟩
  · obtain ⟨j, h1, h2⟩ := choose_run0 (P := P) (w := w) hn hf
    exact ⟨j, w.drawn + 1, h1, h2, Nat.le_succ _⟩

theorem nextMapA_sound {cx : Cx} {ty : Nat} {h : Heap} {s : Wd} (sat : Sat cx.toGl h s) {x : AV} {u : Value} (hr : Rel s x u) {K : AV → Heap → Prop} (hk : nextMapA x h K) :
    ∃ v w', (Instr.next u false ty).run cx.P s.w = .ok v w' ∧ Post cx h s K v w' := by
  unfold nextMapA at hk
  split at hk <;> try exact hk.elim
  rename_i it o
  split at hk <;> try exact hk.elim
  simp only [Rel] at hr
  obtain ⟨r, hρ, rfl⟩ := hr
  have over : Rel s (.tup [.dat (.bool false)]) (.tuple #[.bool false]) := ⟨_, rfl, rfl, rfl, trivial⟩
  split at hk <;> try exact hk.elim
  · rename_i hg
    obtain ⟨r', o, h1, h2, h3, _⟩ := sat.blk it _ hg
    rw [hρ] at h1; cases h1
    have h3 : o = .mapIter none 0 #[] 0 := h3
    subst h3
    have hgo : (getObj r).run cx.P s.w = .ok (.mapIter none 0 #[] 0) s.w := by simp [getObj, Sem.run, h2]
    exact ⟨_, _, by simp only [Instr.next, Sem.run_bind, hgo, Result.andThen_ok, Sem.run_pure], post_same sat hk over⟩
  · rename_i m c seen hg
    obtain ⟨r', o, h1, h2, h3, _⟩ := sat.blk it _ hg
    rw [hρ] at h1; cases h1
    obtain ⟨n, hmρ, rfl⟩ := h3
    split at hk <;> try exact hk.elim
    rename_i bs clk es hgm
    obtain ⟨n', o, k1, k2, k3, _⟩ := sat.blk m _ hgm
    rw [hmρ] at k1; cases k1
    obtain ⟨ents, rfl, hre, rfl, hp, hc⟩ := k3
    obtain ⟨hcc, hk2⟩ := reqA_elim hk
    subst hcc
    obtain ⟨hF, hZ⟩ := nextM_elim hk2
    have hgo : ∀ d, (getObj r).run cx.P { s.w with drawn := d } = .ok (.mapIter (some n) c seen.reverse.toArray c) { s.w with drawn := d } := fun d => by simp [getObj, Sem.run, h2]
    have hgm' : ∀ d, (getObj n).run cx.P { s.w with drawn := d } = .ok (.map ents c) { s.w with drawn := d } := fun d => by simp [getObj, Sem.run, k2]
    have hbl : ∀ x ∈ ents.toList, x.born < c := fun x hx => hc _ (List.mem_map.2 ⟨x, hx, rfl⟩)
    have htest : (!seen.reverse.toArray.isEmpty && !ents.isEmpty && ents.all (fun x => decide (x.born ≥ c))) = false := by
      cases he : ents.isEmpty with
      | true => simp
      | false =>
        have hall : ents.all (fun x => decide (x.born ≥ c)) = false := by
          rw [Bool.eq_false_iff]
          intro h
          rw [Array.all_eq_true_iff_forall_mem] at h
          have h0 : 0 < ents.size := by
            rcases Nat.eq_zero_or_pos ents.size with h0 | h0
            · simp [Array.isEmpty, h0] at he
            · exact h0
          have hm : ents[0] ∈ ents := Array.getElem_mem h0
          have h1 := h _ hm
          have h2 := hbl ents[0] (by simp)
          simp at h1
          omega
        simp [hall]
    have hgo0 : (getObj r).run cx.P s.w = .ok (.mapIter (some n) c seen.reverse.toArray c) s.w := hgo s.w.drawn
    have hgm0 : (getObj n).run cx.P s.w = .ok (.map ents c) s.w := hgm' s.w.drawn
    simp only [Instr.next, Sem.run_bind, hgo0, hgm0, Result.andThen_ok, htest, Bool.false_eq_true, if_false]
    generalize hL : Array.filter (fun e => !seen.reverse.toArray.contains e.born) ents = L
    have hmem : ∀ x ∈ L.toList, x ∈ ents.toList ∧ x.born ∉ seen := fun x hx => by
      rw [← hL] at hx; simp at hx
      refine ⟨by simpa using hx.1, ?_⟩
      simpa using hx.2
    have hmem' : ∀ x ∈ ents.toList, x.born ∉ seen → x ∈ L.toList := fun x hx hn => by
      rw [← hL]; simp
      exact ⟨by simpa using hx, by simpa using hn⟩
    have e1 : L.filter (fun x => decide (x.born < c)) = L := Array.filter_eq_self.2 (fun x hx => by simpa using hbl x (hmem x (by simpa using hx)).1)
    have e2 : L.filter (fun x => decide (x.born ≥ c)) = #[] := by
      rw [Array.filter_eq_empty_iff]
      intro x hx
      have := hbl x (hmem x (by simpa using hx)).1
      simp
      omega
    simp only [e1, e2, Array.append_empty]
    by_cases h0 : L.size = 0
    · have : L = #[] := Array.eq_empty_of_size_eq_zero h0
      subst this
      refine ⟨_, s.w, by simp [choose, Sem.run, Question.forced], post_same sat (hZ fun b hb => ?_) over⟩
      obtain ⟨e, he, rfl⟩ := List.mem_map.1 hb
      refine Classical.byContradiction fun hn => ?_
      have := hmem' e he hn
      simp at this
    · have hne : L.isEmpty = false := by simp [Array.isEmpty, h0]
      simp only [hne, Bool.false_eq_true, if_false, Array.empty_append, Array.size_map]
      obtain ⟨j, d, hj, hrun, hdj⟩ := choose_run (P := cx.P) (w := s.w) (n := L.size) (by omega)
      have hin := hmem L[j] (by simp)
      obtain ⟨k, v, he, hrk, hrv⟩ := entB_of hre hp L[j] hin.1
      have hrlt : r < s.w.heap.size := (Array.getElem?_eq_some_iff.1 h2).1
      have hset : ∀ o', (setObj r o').run cx.P { s.w with drawn := d } = .ok () { (wput s.w r o') with drawn := d } := fun o' => by simp [setObj, Sem.run, h2, wput]
      simp only [hrun, Array.getElem?_map, Array.getElem?_eq_getElem hj, Option.map_some, Sem.run_bind, hset, Result.andThen_ok, Sem.run_pure]
      refine ⟨_, _, rfl, ?_⟩
      have hrow : SameRow (.mapIter (some n) c seen.reverse.toArray c) (.mapIter (some n) c (seen.reverse.toArray.push L[j].born) c) := fun _ _ _ h => by cases h
      have hs1 := sat_put sat hg hρ h2 (.miter m c (L[j].born :: seen)) (.mapIter (some n) c (seen.reverse.toArray.push L[j].born) c) hrow ⟨n, hmρ, by simp⟩
      have he1 := ext_put hg hρ h2 (some (.miter m c (L[j].born :: seen))) (.mapIter (some n) c (seen.reverse.toArray.push L[j].born) c) hrow
      have gr : Grows s ⟨s.ρ, s.I, { (wput s.w r (.mapIter (some n) c (seen.reverse.toArray.push L[j].born) c)) with drawn := d }⟩ := by
        have := he1.grows sat
        exact ⟨this.ρ, this.I, this.same, this.rows⟩
      have gr2 : Grows ⟨s.ρ, s.I, wput s.w r (.mapIter (some n) c (seen.reverse.toArray.push L[j].born) c)⟩ ⟨s.ρ, s.I, { (wput s.w r (.mapIter (some n) c (seen.reverse.toArray.push L[j].born) c)) with drawn := d }⟩ := ⟨fun _ _ h => h, fun _ h => h, fun _ _ => rfl, fun _ c _ f h => ⟨c, f, h, rfl⟩⟩
      refine ⟨_, _, ⟨s.ρ, s.I, { (wput s.w r (.mapIter (some n) c (seen.reverse.toArray.push L[j].born) c)) with drawn := d }⟩, rfl, hF _ k v he hin.2, ?_, ?_, ?_⟩
      · exact ⟨_, rfl, rfl, rfl, relD_mono gr.I gr.same _ _ hrk, rel_mono gr _ _ hrv, trivial⟩
      · refine ⟨fun i b hb => ?_, hs1.inj, hs1.fresh, hs1.imm, fun g cs hgl => ?_, Nat.le_trans sat.dr hdj, sat.old.grow gr rfl rfl rfl (by simp)⟩
        · obtain ⟨a1, a2, a3, a4, a5, a6⟩ := hs1.blk i b hb
          exact ⟨a1, a2, a3, a4, relB_mono gr2 _ _ a5, a6⟩
        · obtain ⟨a1, a2, a3, a4, a5, a6⟩ := hs1.glob g cs hgl
          exact ⟨a1, a2, a3, a4, a5, relDs_mono gr2.I gr2.same _ _ a6⟩
      · exact ⟨he1.ρ, he1.I, he1.inew, he1.size, he1.keep, he1.rows, he1.own, he1.os, he1.output, he1.tape, he1.len, he1.names⟩

theorem find_born' {b : Nat} : ∀ (l : List MapEntry), (l.map (·.born)).Pairwise (· < ·) → ∀ e ∈ l, e.born = b → l.find? (fun x => x.born == b) = some e
  | x :: l, hp, e, he, hb => by
    simp only [List.map_cons, List.pairwise_cons] at hp
    simp only [List.mem_cons] at he
    rcases he with rfl | he
    · simp [hb]
    · have := hp.1 e.born (List.mem_map.2 ⟨e, he, rfl⟩)
      have hx : (x.born == b) = false := by
        cases hc : x.born == b with
        | false => rfl
        | true => rw [beq_iff_eq] at hc; omega
      rw [List.find?_cons, hx]
      exact find_born' l hp.2 e he hb
theorem entryMapA_sound {cx : Cx} {h : Heap} {s : Wd} (sat : Sat cx.toGl h s) {x : AV} {u : Value} (hr : Rel s x u) {K : AV → Heap → Prop} (hk : entryMapA x h K) :
    ∃ v w', (Instr.entry u).run cx.P s.w = .ok v w' ∧ Post cx h s K v w' := by
  unfold entryMapA at hk
  split at hk <;> try exact hk.elim
  rename_i it o
  split at hk <;> try exact hk.elim
  simp only [Rel] at hr
  obtain ⟨r, hρ, rfl⟩ := hr
  split at hk <;> try exact hk.elim
  rename_i m c seen hg
  obtain ⟨r', o, h1, h2, h3, _⟩ := sat.blk it _ hg
  rw [hρ] at h1; cases h1
  obtain ⟨n, hmρ, rfl⟩ := h3
  split at hk <;> try exact hk.elim
  rename_i b sr
  split at hk <;> try exact hk.elim
  rename_i bs clk es hgm
  obtain ⟨n', o, k1, k2, k3, _⟩ := sat.blk m _ hgm
  rw [hmρ] at k1; cases k1
  obtain ⟨ents, rfl, hre, rfl, hp, hc⟩ := k3
  obtain ⟨hcc, hk2⟩ := reqA_elim hk
  subst hcc
  obtain ⟨⟨k, v⟩, he, hk3⟩ := optA_elim hk2
  obtain ⟨e, hme, heb, hrk, hrv⟩ := entB_mem hre he
  have hgo0 : (getObj r).run cx.P s.w = .ok (.mapIter (some n) c (b :: sr).reverse.toArray c) s.w := by simp [getObj, Sem.run, h2]
  have hgm0 : (getObj n).run cx.P s.w = .ok (.map ents c) s.w := by simp [getObj, Sem.run, k2]
  have hback : (b :: sr).reverse.toArray.back? = some b := by simp
  have hfind : ents.find? (fun x => x.born == b) = some e := by rw [← Array.find?_toList]; exact find_born' ents.toList hp e hme heb
  refine ⟨_, s.w, ?_, post_same (a := .tup [.dat k, v]) sat hk3 ⟨#[e.key, e.val], rfl, rfl, hrk, hrv, trivial⟩⟩
  simp only [Instr.entry, Sem.run_bind, hgo0, hgm0, Result.andThen_ok, hback, Sem.run_pure, bne_self_eq_false, Bool.false_eq_true, if_false, hfind]
end Go.Abs

namespace Go.Abs

/-! len, min, max. -/
def lenA (ti : TyI) (x : AV) (h : Heap) (K : AV → Prop) : Prop := match ti.k with
  | .str => match x with
    | .dat (.str s) => K (.dat (.int .i64 s.size))
    | _ => False
  | .slc _ => match x with
    | .dat .nils => K (.dat (.int .i64 0))
    | .dat (.ros _ n _) => K (.dat (.int .i64 n))
    | .sl _ _ n _ _ => K (.dat (.int .i64 n))
    | _ => False
  | .mp _ _ => match x with
    | .dat .nilm => K (.dat (.int .i64 0))
    | .map id => match hget h id with
      | some (.mapD es) => K (.dat (.int .i64 es.length))
      | some (.mapA es) => K (.dat (.int .i64 es.length))
      | _ => False
    | _ => False
  | _ => False
theorem lenA_sound {cx : Cx} {ts : Array TypeId} {t ty : Nat} (hts : ts[0]? = some t) {ti : TyI} (ok : CxOK cx) (ht : cx.T t = some ti) {h : Heap} {s : Wd} (sat : Sat cx.toGl h s) {x : AV} {u : Value} (hr : Rel s x u) {K : AV → Prop} (hk : lenA ti x h K) :
    ∃ v a, (Builtin.len_ ts ty #[u]).run cx.P s.w = .ok v s.w ∧ K a ∧ Rel s a v := by
  obtain ⟨_, desc, _, _, hu, _, _, _, _, hkk⟩ := ok.types t ti ht
  have int : ∀ (n : Nat), Rel s (.dat (.int .i64 n)) (goInt n) := fun n => by simp only [Rel, RelD]; rfl
  unfold lenA at hk
  cases hk' : ti.k with
  | str =>
    rw [hk'] at hkk hk
    obtain rfl := tk_str hkk
    simp only at hk
    split at hk <;> try exact hk.elim
    rename_i str
    simp only [Rel, RelD] at hr; subst hr
    exact ⟨_, _, by simp [Builtin.len_, hts, run_underlying hu], hk, int _⟩
  | slc e =>
    rw [hk'] at hkk hk
    obtain rfl := tk_slc hkk
    have go : ∀ a n m, u = .slice a n m → K (.dat (.int .i64 n)) → ∃ v a, (Builtin.len_ ts ty #[u]).run cx.P s.w = .ok v s.w ∧ K a ∧ Rel s a v := fun a n m hu' hk => by
      subst hu'; exact ⟨_, _, by simp [Builtin.len_, hts, run_underlying hu], hk, int _⟩
    simp only at hk
    split at hk <;> try exact hk.elim
    · simp only [Rel, RelD] at hr; exact go _ _ _ hr hk
    · simp only [Rel, RelD] at hr; rcases hr with ⟨rfl, _, _, _, hr⟩ | ⟨_, _, _, _, _, _, hr, _⟩ <;> exact go _ _ _ hr hk
    · simp only [Rel] at hr; obtain ⟨_, _, _, _, _, _, hr, _⟩ := hr; exact go _ _ _ hr hk
  | mp k e =>
    rw [hk'] at hkk hk
    obtain rfl := tk_mp hkk
    simp only at hk
    split at hk <;> try exact hk.elim
    · simp only [Rel, RelD] at hr; subst hr
      exact ⟨_, _, by simp [Builtin.len_, hts, run_underlying hu], hk, int 0⟩
    · rename_i id
      simp only [Rel] at hr
      obtain ⟨n, hρ, rfl⟩ := hr
      have go : ∀ ents clk, s.w.heap[n]? = some (.map ents clk) → K (.dat (.int .i64 (ents.size : Nat))) → ∃ v a, (Builtin.len_ ts ty #[.map (some n)]).run cx.P s.w = .ok v s.w ∧ K a ∧ Rel s a v := fun ents clk hn hk => by
        have hg : (getObj n).run cx.P s.w = .ok (.map ents clk) s.w := by simp [getObj, Sem.run, hn]
        exact ⟨_, _, by simp [Builtin.len_, hts, run_underlying hu, hg], hk, int _⟩
      split at hk <;> try exact hk.elim
      · rename_i es hg
        obtain ⟨n', o, h1, h2, h3, _⟩ := sat.blk id _ hg
        rw [hρ] at h1; cases h1
        obtain ⟨ents, clk, rfl, hre, _⟩ := h3
        have := relE_length hre
        exact go ents clk h2 (by rw [show ents.size = es.length from by simpa using this.symm]; exact hk)
      · rename_i es hg
        obtain ⟨n', o, h1, h2, h3, _⟩ := sat.blk id _ hg
        rw [hρ] at h1; cases h1
        obtain ⟨ents, clk, rfl, hre, _⟩ := h3
        have := relE_length hre
        exact go ents clk h2 (by rw [show ents.size = es.length from by simpa using this.symm]; exact hk)
  | _ => rw [hk'] at hk; exact False.elim hk

def max2A (x y : AV) : Option AV := match x, y with
  | .dat (.int k a), .dat (.int _ b) => some (.dat (.int k (if b > a then b else a)))
  | _, _ => none
def min2A (x y : AV) : Option AV := match x, y with
  | .dat (.int k a), .dat (.int _ b) => some (.dat (.int k (if b < a then b else a)))
  | _, _ => none
def foldA (f : AV → AV → Option AV) : AV → List AV → Option AV
  | x, [] => some x
  | x, y :: r => match f x y with
    | some z => foldA f z r
    | none => none
def minmaxA (f : AV → AV → Option AV) (l : List AV) : Option AV := match l with
  | [] => none
  | x :: r => foldA f x r
theorem foldA_run {P : Program} {s : Wd} {f : AV → AV → Option AV} {g : Value → Value → Sem Value} (hf : ∀ x y z u v, f x y = some z → Rel s x u → Rel s y v → ∃ w, (g u v).run P s.w = .ok w s.w ∧ Rel s z w) :
    ∀ (l : List AV) (vs : List Value) (x : AV) (u : Value) (z : AV), Rels s l vs → l.length = vs.length → Rel s x u → foldA f x l = some z → ∃ w, (vs.foldlM g u).run P s.w = .ok w s.w ∧ Rel s z w
  | [], [], x, u, z, _, _, hx, h => by simp [foldA] at h; subst h; exact ⟨u, by simp, hx⟩
  | y :: r, v :: vs, x, u, z, hr, hl, hx, h => by
    simp only [foldA] at h
    split at h
    · rename_i m hm
      simp only [Rels] at hr
      obtain ⟨w, h1, h2⟩ := hf x y m u v hm hx hr.1
      obtain ⟨w2, h3, h4⟩ := foldA_run hf r vs m w z hr.2 (by simpa using hl) h2 h
      exact ⟨w2, by simp [List.foldlM_cons, h1, h3], h4⟩
    · cases h
  | [], _ :: _, _, _, _, _, h, _, _ => by simp at h
  | _ :: _, [], _, _, _, _, h, _, _ => by simp at h
theorem max2_run {P : Program} {s : Wd} : ∀ x y z u v, max2A x y = some z → Rel s x u → Rel s y v → ∃ w, (Builtin.max2 u v).run P s.w = .ok w s.w ∧ Rel s z w := by
  intro x y z u v h hx hy
  unfold max2A at h
  split at h
  · cases h
    simp only [Rel, RelD] at hx hy; subst hx hy
    exact ⟨_, rfl, by simp only [Rel, RelD]⟩
  · cases h
theorem min2_run {P : Program} {s : Wd} : ∀ x y z u v, min2A x y = some z → Rel s x u → Rel s y v → ∃ w, (Builtin.min2 u v).run P s.w = .ok w s.w ∧ Rel s z w := by
  intro x y z u v h hx hy
  unfold min2A at h
  split at h
  · cases h
    simp only [Rel, RelD] at hx hy; subst hx hy
    exact ⟨_, rfl, by simp only [Rel, RelD]⟩
  · cases h

def evs (e : Env) : List Operand → List AV
  | [] => []
  | x :: r => evA e x :: evs e r
theorem evs_eq (e : Env) (l : List Operand) : evs e l = l.map (evA e) := by
  induction l <;> simp [evs, *]
theorem evs_rel {s : Wd} {e : Env} {ev : Operand → Value} (he : EvR s e ev) (l : List Operand) : Rels s (evs e l) (l.map ev) := by
  induction l with
  | nil => simp [evs, Rels]
  | cons x r ih => simp only [evs, List.map_cons, Rels]; exact ⟨he x, ih⟩

def arg (l : List Operand) (i : Nat) : Operand := match l with
  | [] => .const .nilIface
  | x :: r => match i with
    | 0 => x
    | i + 1 => arg r i
/-- The built-in functions. -/
def builtinA (cx : Cx) (e : Env) (h : Heap) (b : Builtin) (ts : List TypeId) (args : List Operand) (K : AV → Heap → Prop) : Prop := match b with
  | .len => match ts, args with
    | [t], [x] => hasTy cx t fun ti => lenA ti (evA e x) h fun a => K a h
    | _, _ => False
  | .append => match ts, args with
    | [t, u], [x, y] => hasTy cx t fun ti => hasTy cx u fun tu => match tu.k with
      | .slc _ => appendA cx ti (evA e x) (evA e y) h K
      | .str => appendA cx ti (evA e x) (evA e y) h K
      | _ => False
    | _, _ => False
  | .delete => match ts, args with
    | t :: _, [m, k] => hasTy cx t fun ti => match toD (evA e k) with
      | some d => mdelA cx ti (evA e m) d h K
      | none => False
    | _, _ => False
  | .max => optR (minmaxA max2A (evs e args)) fun a => K a h
  | .min => optR (minmaxA min2A (evs e args)) fun a => K a h
  | _ => False

def callA (cx : Cx) (e : Env) (h : Heap) (c : Call) (K : AV → Heap → Prop) : Prop := match c.callee with
  | .builtin b => builtinA cx e h b c.argTypes.toList c.args.toList K
  | .value f => match evA e f with
    | .dat (.fn g) => CallA cx g (evs e c.args.toList) h K
    | .func g caps => CallA cx g (evs e c.args.toList ++ caps) h K
    | _ => False
  | .invoke _ _ => False

def rangeStrA (ti : TyI) (x : AV) (h : Heap) (K : AV → Heap → Prop) : Prop := match ti.k with
  | .str => match x with
    | .dat (.str s) => K (.ptr h.length 0) (h ++ [some (.siter s 0)])
    | _ => False
  | .mp _ _ => rangeMapA x h K
  | _ => False
def nextStrA (x : AV) (h : Heap) (K : AV → Heap → Prop) : Prop := match x with
  | .ptr id o => match o with
    | 0 => match hget h id with
      | some (.siter s pos) => condA (decide (pos < s.size))
          (K (.tup [.dat (.bool true), .dat (.int .i64 pos), .dat (.int .i32 (Utf8.decode s pos).1)]) (hset h id (some (.siter s (pos + (Utf8.decode s pos).2)))))
          (K (.tup [.dat (.bool false)]) h)
      | _ => False
    | _ => False
  | _ => False

/-- An operand that may be wanting. -/
def opdD (e : Env) (o : Option Operand) : Option (Option DV) := match o with
  | none => some none
  | some a => match evA e a with
    | .dat d => some (some d)
    | _ => none
/-- One operation. -/
def opA (cx : Cx) (e : Env) (h : Heap) (o : Op) (K : AV → Heap → Prop) : Prop := match o with
  | .move x => K (evA e x) h
  | .assign x => K (evA e x) h
  | .pick c a b => match evA e c with
    | .dat (.bool t) => condA t (K (evA e a) h) (K (evA e b) h)
    | _ => False
  | .alloc t => hasTy cx t fun ti => newA (.dat ti.zero) t h K
  | .box t x => newA (evA e x) t h K
  | .build t ps => hasTy cx t fun ti => buildA cx ti (partsA e ps.toList) fun a => K a h
  | .buildSlice t n ps => hasTy cx t fun ti => bsliceA cx ti n (partsA e ps.toList) h K
  | .load t a => hasTy cx t fun ti => loadA cx ti (evA e a) h fun v => K v h
  | .store t a x => hasTy cx t fun ti => storeA ti (evA e a) (evA e x) h K
  | .nilCheck x => match evA e x with
    | .ptr i o => K (.ptr i o) h
    | .dat (.rptr cs o) => K (.dat (.rptr cs o)) h
    | .dat (.gptr g) => K (.dat (.gptr g)) h
    | _ => False
  | .binOp op t x y _ => binA cx op t y (evA e x) (evA e y) fun v => K v h
  | .unOp op _ x => match op, evA e x with
    | .not, .dat (.bool b) => K (.dat (.bool (!b))) h
    | .neg, .dat (.int k n) => K (.dat (.int k (k.wrap (0 - n)))) h
    | _, _ => False
  | .convert src dst x => hasTy cx src fun _ => hasTy cx dst fun td => convA td (evA e x) fun v => K v h
  | .makeInterface t x => hasTy cx t fun ti => mkifcA ti t (evA e x) fun v => K v h
  | .makeFunc fn first caps => match fn, first.toList with
    | .func f, [] => K (.func f (evs e caps.toList)) h
    | _, _ => False
  | .makeMap _ r => match r with
    | none => newMapA h K
    | some _ => False
  | .slice t x lo hi mx => hasTy cx t fun ti => match opdD e lo with
    | some l => match opdD e hi with
      | some u => match opdD e mx with
        | some m => sliceA cx ti (evA e x) l u m fun v => K v h
        | none => False
      | none => False
    | none => False
  | .fieldAddr t x f => hasTy cx t fun ti => faddrA ti (evA e x) f fun v => K v h
  | .field t x f => hasTy cx t fun ti => fieldA cx ti (evA e x) f fun v => K v h
  | .indexAddr t x i => match evA e i with
    | .dat d => hasTy cx t fun ti => iaddrA cx ti (evA e x) d fun v => K v h
    | _ => False
  | .index t x i => match evA e x, evA e i with
    | .dat d, .dat j => hasTy cx t fun ti => match ti.k with
      | .str => indexA d j fun v => K v h
      | _ => False
    | _, _ => False
  | .lookup t m k ok => hasTy cx t fun ti => match toD (evA e k) with
    | some d => lookupA cx ti (evA e m) d ok h fun v => K v h
    | none => False
  | .mapUpdate t m k v => hasTy cx t fun ti => match toD (evA e k) with
    | some d => updA cx ti (evA e m) d (evA e v) h K
    | none => False
  | .range t x => hasTy cx t fun ti => rangeStrA ti (evA e x) h K
  | .next it isS => match isS with
    | true => nextStrA (evA e it) h K
    | false => nextMapA (evA e it) h K
  | .entry it => entryMapA (evA e it) h K
  | .typeAssert x _ t ok => hasTy cx t fun te => tassA te t (evA e x) ok fun v => K v h
  | .extract x i => extractA (evA e x) i fun v => K v h
  | .call c => callA cx e h c K
  | _ => False

theorem CallA.out {cx : Cx} {f : Nat} {args : List AV} {h : Heap} {K : AV → Heap → Prop} (c : CallA cx f args h K) {s : Wd} (sat : Sat cx.toGl h s) {vs : Array Value} (hl : args.length = vs.size) (hr : Rels s args vs.toList) :
    OpOut cx.P ((callFunc f vs).run cx.P s.w) (Post cx h s K) := by
  obtain ⟨h1, h2⟩ := c.run s vs sat hl hr
  rw [h1]; exact h2

theorem out_value {cx : Cx} {h : Heap} {s : Wd} {K : AV → Heap → Prop} (sat : Sat cx.toGl h s) {x : Sem Value} (hx : ∃ v a, x.run cx.P s.w = .ok v s.w ∧ K a h ∧ Rel s a v) :
    OpOut cx.P ((do pure (Next.value (← x)) : Sem Next).run cx.P s.w) (Post cx h s K) := by
  obtain ⟨v, a, h1, h2, h3⟩ := hx
  simp only [Sem.run_bind, h1, Result.andThen_ok, Sem.run_pure, OpOut]
  exact post_same sat h2 h3
theorem out_post {cx : Cx} {h : Heap} {s : Wd} {K : AV → Heap → Prop} {x : Sem Value} (hx : ∃ v w', x.run cx.P s.w = .ok v w' ∧ Post cx h s K v w') :
    OpOut cx.P ((do pure (Next.value (← x)) : Sem Next).run cx.P s.w) (Post cx h s K) := by
  obtain ⟨v, w', h1, h2⟩ := hx
  simp only [Sem.run_bind, h1, Result.andThen_ok, Sem.run_pure, OpOut]
  exact h2
theorem out_unit {cx : Cx} {h : Heap} {s : Wd} {K : AV → Heap → Prop} {x : Sem Unit} (hx : ∃ w', x.run cx.P s.w = .ok () w' ∧ Post cx h s K undef w') :
    OpOut cx.P ((do x; pure Next.skip : Sem Next).run cx.P s.w) (Post cx h s K) := by
  obtain ⟨w', h1, h2⟩ := hx
  simp only [Sem.run_bind, h1, Result.andThen_ok, Sem.run_pure, OpOut]
  exact h2

theorem optD_rel {s : Wd} {e : Env} {ev : Operand → Value} (he : EvR s e ev) {o : Option Operand} {r : Option DV} (h : opdD e o = some r) : RelO s r (o.map ev) := by
  cases o with
  | none => simp [opdD] at h; subst h; trivial
  | some a =>
    simp only [opdD] at h
    split at h
    · rename_i d hd
      cases h
      have := he a
      rw [hd] at this
      simpa [RelO, Rel] using this
    · cases h

theorem builtinA_sound {cx : Cx} (ok : CxOK cx) {e : Env} {ev : Operand → Value} {h : Heap} {s : Wd} (sat : Sat cx.toGl h s) (he : EvR s e ev) {b : Builtin} {ts : Array TypeId} {args : Array Operand} {ty : TypeId} {cs : Array Bool} {K : AV → Heap → Prop}
    (hk : builtinA cx e h b ts.toList args.toList K) : OpOut cx.P ((builtin b ts ty cs (args.map ev)).run cx.P s.w) (Post cx h s K) := by
  unfold builtinA at hk
  split at hk <;> try exact hk.elim
  · split at hk <;> try exact hk.elim
    rename_i t x hts hargs
    obtain ⟨ti, hti, hk⟩ := hasTy_elim hk
    have h0 : ts[0]? = some t := by rw [← Array.getElem?_toList, hts]; rfl
    have hm : args.map ev = #[ev x] := by apply Array.ext'; simp [hargs]
    rw [hm]
    exact out_value sat (lenA_sound h0 ok hti sat (he x) hk)
  · split at hk <;> try exact hk.elim
    rename_i t u x y hts hargs
    obtain ⟨ti, hti, hk⟩ := hasTy_elim hk
    obtain ⟨tu, htu, hk⟩ := hasTy_elim hk
    have h0 : ts[0]? = some t := by rw [← Array.getElem?_toList, hts]; rfl
    have h1 : ts[1]? = some u := by rw [← Array.getElem?_toList, hts]; rfl
    have hm : args.map ev = #[ev x, ev y] := by apply Array.ext'; simp [hargs]
    rw [hm]
    obtain ⟨_, desc, _, _, hu, _, _, _, _, hkk⟩ := ok.types u tu htu
    split at hk <;> try exact hk.elim
    · rename_i e' hk'
      rw [hk'] at hkk
      obtain rfl := tk_slc hkk
      exact out_post (appendA_sound ok h0 h1 hti hu (by intro k; simp) sat (he x) (he y) hk)
    · rename_i hk'
      rw [hk'] at hkk
      obtain rfl := tk_str hkk
      exact out_post (appendA_sound ok h0 h1 hti hu (by intro k; simp) sat (he x) (he y) hk)
  · split at hk <;> try exact hk.elim
    rename_i t r m k hts hargs
    obtain ⟨ti, hti, hk⟩ := hasTy_elim hk
    split at hk <;> try exact hk.elim
    rename_i d hd
    have h0 : ts[0]? = some t := by rw [← Array.getElem?_toList, hts]; rfl
    have hm : args.map ev = #[ev m, ev k] := by apply Array.ext'; simp [hargs]
    rw [hm]
    exact out_post (mdelA_sound h0 ok hti sat (he m) (toD_rel hd (he k)) hk)
  · obtain ⟨a, ha, hk⟩ := optR_elim hk
    refine out_value sat ?_
    unfold minmaxA at ha
    cases hargs : args.toList with
    | nil => rw [hargs] at ha; simp [evs] at ha
    | cons x r =>
      rw [hargs] at ha
      simp only [evs] at ha
      obtain ⟨w, h1, h2⟩ := foldA_run (P := cx.P) max2_run (evs e r) (r.map ev) (evA e x) (ev x) a (evs_rel he r) (by simp [evs_eq]) (he x) ha
      refine ⟨w, a, ?_, hk, h2⟩
      simp only [Builtin.max_, Array.toList_map, hargs, List.map_cons]
      exact h1
  · obtain ⟨a, ha, hk⟩ := optR_elim hk
    refine out_value sat ?_
    unfold minmaxA at ha
    cases hargs : args.toList with
    | nil => rw [hargs] at ha; simp [evs] at ha
    | cons x r =>
      rw [hargs] at ha
      simp only [evs] at ha
      obtain ⟨w, h1, h2⟩ := foldA_run (P := cx.P) min2_run (evs e r) (r.map ev) (evA e x) (ev x) a (evs_rel he r) (by simp [evs_eq]) (he x) ha
      refine ⟨w, a, ?_, hk, h2⟩
      simp only [Builtin.min_, Array.toList_map, hargs, List.map_cons]
      exact h1

theorem opA_sound {cx : Cx} (ok : CxOK cx) {e : Env} {ev : Operand → Value} {h : Heap} {s : Wd} (sat : Sat cx.toGl h s) (he : EvR s e ev) {o : Oper} {K : AV → Heap → Prop} (hk : opA cx e h o.op K) :
    OpOut cx.P ((execOp ev o).run cx.P s.w) (Post cx h s K) := by
  obtain ⟨dst, op, ty, pos, after, guard⟩ := o
  simp only at hk
  unfold execOp
  unfold opA at hk
  split at hk <;> try exact hk.elim
  all_goals simp only
  · rename_i x; exact post_same sat hk (he x)
  · rename_i x; exact post_same sat hk (he x)
  · rename_i c a b
    have hc := he c
    split at hk <;> try exact hk.elim
    rename_i t ht
    rw [ht] at hc
    simp only [Rel, RelD] at hc
    rw [hc]
    rcases condA_elim hk with ⟨ht2, hk2⟩ | ⟨ht2, hk2⟩
    · rw [ht2]; exact post_same sat hk2 (he a)
    · rw [ht2]; exact post_same sat hk2 (he b)
  · rename_i t
    obtain ⟨ti, hti, hk⟩ := hasTy_elim hk
    obtain ⟨info, desc, z, hi, hu, _, _, hz, hzr, _⟩ := ok.types t ti hti
    refine out_post ⟨_, _, ?_, newA_sound sat (v := .dat ti.zero) (uv := z) (by simpa [Rel] using hzr s.I s.w) hk⟩
    simp [Instr.alloc, zeroValue, typeInfo, hi, hz, newVar, newRow]
  · rename_i t x
    refine out_post ⟨_, _, ?_, newA_sound sat (he x) hk⟩
    simp [Instr.box, newVar, newRow]
  · rename_i t ps
    obtain ⟨ti, hti, hk⟩ := hasTy_elim hk
    obtain ⟨v, r, h1, h2, h3⟩ := buildA_sound ok hti he ps hk
    exact out_value sat ⟨v, r, h1, h2, h3⟩
  · rename_i t n ps
    obtain ⟨ti, hti, hk⟩ := hasTy_elim hk
    exact out_post (bsliceA_sound ok hti sat he n ps hk)
  · rename_i t a
    obtain ⟨ti, hti, hk⟩ := hasTy_elim hk
    exact out_value sat (loadA_sound ok hti sat (he a) hk)
  · rename_i t a x
    obtain ⟨ti, hti, hk⟩ := hasTy_elim hk
    exact out_unit (storeA_sound ok hti sat (he a) (he x) hk)
  · rename_i x
    have hx := he x
    split at hk <;> try exact hk.elim
    · rename_i i o hv
      rw [hv] at hx
      have hx' := hx
      simp only [Rel] at hx
      obtain ⟨b, hρ, hx⟩ := hx
      rw [hx] at hx' ⊢
      exact post_same sat hk hx'
    · rename_i cs o hv
      rw [hv] at hx
      have hx' := hx
      simp only [Rel, RelD] at hx
      obtain ⟨b, o', c, el, f, hx, _⟩ := hx
      rw [hx] at hx' ⊢
      exact post_same sat hk hx'
    · rename_i g hv
      rw [hv] at hx
      have hx' := hx
      simp only [Rel, RelD] at hx
      rw [hx] at hx' ⊢
      exact post_same sat hk hx'
  · rename_i op t x y yt
    obtain ⟨w, a, h1, h2, h3⟩ := binA_sound ok (xo := x) (he x) (he y) hk
    exact out_value sat ⟨w, a, h1, h2, h3⟩
  · rename_i op t x
    have hx := he x
    split at hk <;> try exact hk.elim
    · rename_i b hv
      rw [hv] at hx
      simp only [Rel, RelD] at hx
      rw [hx]
      exact post_same sat hk (by simp only [Rel, RelD])
    · rename_i k n hv
      rw [hv] at hx
      simp only [Rel, RelD] at hx
      rw [hx]
      exact post_same sat hk (by simp only [Rel, RelD])
  · rename_i src dst x
    obtain ⟨ts, hts, hk⟩ := hasTy_elim hk
    obtain ⟨td, htd, hk⟩ := hasTy_elim hk
    exact out_value sat (convA_sound ok hts htd (he x) hk)
  · rename_i t x
    obtain ⟨ti, hti, hk⟩ := hasTy_elim hk
    exact out_value sat (mkifcA_sound ok hti (he x) hk)
  · rename_i fn first caps
    split at hk <;> try exact hk.elim
    rename_i f hf
    have hf' : first = #[] := by apply Array.ext'; simpa using hf
    subst hf'
    refine out_value sat ⟨_, _, by simp [Instr.makeFunc]; rfl, hk, ?_⟩
    simp only [Rel]
    exact ⟨caps.map ev, by simp, by simp [evs_eq], by simpa using evs_rel he caps.toList⟩
  · rename_i t r
    split at hk <;> try exact hk.elim
    exact out_post (newMapA_sound sat hk t)
  · rename_i t x lo hi mx
    obtain ⟨ti, hti, hk⟩ := hasTy_elim hk
    split at hk <;> try exact hk.elim
    rename_i l h1
    split at hk <;> try exact hk.elim
    rename_i u h2
    split at hk <;> try exact hk.elim
    rename_i m h3
    have hsl : ∃ v a, (Instr.slice t (ev x) (lo.map ev) (hi.map ev) (mx.map ev)).run cx.P s.w = .ok v s.w ∧ K a h ∧ Rel s a v := sliceA_sound ok hti (he x) (optD_rel he h1) (optD_rel he h2) (optD_rel he h3) hk
    obtain ⟨_, desc, _, _, hu, _, _, _, _, hkk⟩ := ok.types t ti hti
    have hsame : (Instr.sliceAt t (ev x) (lo.map ev) (hi.map ev) (mx.map ev)).run cx.P s.w = (Instr.slice t (ev x) (lo.map ev) (hi.map ev) (mx.map ev)).run cx.P s.w := by
      have hna : ∀ n el, desc ≠ .array n el := by
        rintro n el rfl
        unfold sliceA at hk
        cases hk' : ti.k <;> rw [hk'] at hkk hk <;> first | exact hk | simp [TKOK] at hkk
      unfold Instr.sliceAt
      rw [Sem.run_bind, run_underlying hu, Result.andThen_ok]
      cases desc <;> first | rfl | exact absurd rfl (hna _ _)
    refine out_value sat ?_
    rw [hsame]; exact hsl
  · rename_i t x f
    obtain ⟨ti, hti, hk⟩ := hasTy_elim hk
    exact out_value sat (faddrA_sound ok hti (he x) f hk)
  · rename_i t x f
    obtain ⟨ti, hti, hk⟩ := hasTy_elim hk
    exact out_value sat (fieldA_sound ok hti (he x) f hk)
  · rename_i t x i
    have hi := he i
    split at hk <;> try exact hk.elim
    rename_i d hd
    rw [hd] at hi
    obtain ⟨ti, hti, hk⟩ := hasTy_elim hk
    exact out_value sat (iaddrA_sound ok hti sat (he x) (by simpa [Rel] using hi) hk)
  · rename_i t x i
    have hx := he x
    have hi := he i
    split at hk <;> try exact hk.elim
    rename_i d j hd hj
    rw [hd] at hx
    rw [hj] at hi
    obtain ⟨ti, hti, hk⟩ := hasTy_elim hk
    split at hk <;> try exact hk.elim
    rename_i hst
    exact out_value sat (indexA_sound ok hti hst (by simpa [Rel] using hx) (by simpa [Rel] using hi) hk)
  · rename_i t m k b
    obtain ⟨ti, hti, hk⟩ := hasTy_elim hk
    split at hk <;> try exact hk.elim
    rename_i d hd
    exact out_value sat (lookupA_sound ok hti sat (he m) (toD_rel hd (he k)) b hk)
  · rename_i t m k v
    obtain ⟨ti, hti, hk⟩ := hasTy_elim hk
    split at hk <;> try exact hk.elim
    rename_i d hd
    exact out_unit (updA_sound ok hti sat (he m) (toD_rel hd (he k)) (he v) hk)
  · rename_i t x
    obtain ⟨ti, hti, hk⟩ := hasTy_elim hk
    obtain ⟨_, desc, _, _, hu, _, _, _, _, hkk⟩ := ok.types t ti hti
    have hx := he x
    unfold rangeStrA at hk
    split at hk <;> try exact hk.elim
    case h_2 kt et hk' =>
      rw [hk'] at hkk
      obtain rfl := tk_mp hkk
      exact out_post (rangeMapA_sound hu sat hx hk)
    rename_i hk'
    rw [hk'] at hkk
    obtain rfl := tk_str hkk
    split at hk <;> try exact hk.elim
    rename_i str hv
    rw [hv] at hx
    simp only [Rel, RelD] at hx
    rw [hx]
    refine out_post ⟨.pointer (some ⟨s.w.heap.size, 0, none⟩), s.w.alloc (.stringIter str 0), by simp [Instr.range, run_underlying hu], ?_⟩
    refine ⟨_, _, s.alloc h.length (.stringIter str 0), rfl, hk, ?_, sat_alloc sat _ _ rfl, ext_alloc sat _ _⟩
    simp only [Rel]; exact ⟨_, by simp [Wd.alloc], rfl⟩
  · rename_i it isS
    have hx := he it
    split at hk <;> try exact hk.elim
    case h_2 => exact out_post (nextMapA_sound sat hx hk)
    unfold nextStrA at hk
    split at hk <;> try exact hk.elim
    rename_i id o hv
    rw [hv] at hx
    simp only [Rel] at hx
    obtain ⟨n, hρ, hx⟩ := hx
    split at hk <;> try exact hk.elim
    split at hk <;> try exact hk.elim
    rename_i str pos hg
    obtain ⟨n', ob, h1, h2, h3, _⟩ := sat.blk id _ hg
    rw [hρ] at h1; cases h1
    simp only [RelB] at h3; subst h3
    rw [hx]
    have hgo : (getObj n).run cx.P s.w = .ok (.stringIter str pos) s.w := by simp [getObj, Sem.run, h2]
    have hset : ∀ o', (setObj n o').run cx.P s.w = .ok () (wput s.w n o') := fun o' => by simp [setObj, Sem.run, h2, wput]
    rcases condA_elim hk with ⟨hp, hk⟩ | ⟨hp, hk⟩
    · have hp := of_decide_eq_true hp
      refine out_post ⟨.tuple #[.bool true, goInt pos, .int .i32 (Utf8.decode str pos).1], wput s.w n (.stringIter str (pos + (Utf8.decode str pos).2)), by simp [Instr.next, hgo, hp, hset], ?_⟩
      have hrow : SameRow (.stringIter str pos) (.stringIter str (pos + (Utf8.decode str pos).2)) := fun _ _ _ h => by cases h
      refine ⟨_, _, ⟨s.ρ, s.I, _⟩, rfl, hk, ?_, sat_put sat hg hρ h2 (.siter str (pos + (Utf8.decode str pos).2)) _ hrow rfl, ext_put hg hρ h2 _ _ hrow⟩
      exact ⟨_, rfl, rfl, rfl, rfl, rfl, trivial⟩
    · have hp := of_decide_eq_false hp
      refine out_value sat ⟨.tuple #[.bool false], _, by simp [Instr.next, hgo, hp], hk, ?_⟩
      exact ⟨_, rfl, rfl, rfl, trivial⟩
  · rename_i it
    exact out_post (entryMapA_sound sat (he it) hk)
  · rename_i x xt t b
    obtain ⟨te, hte, hk⟩ := hasTy_elim hk
    exact out_value sat (tassA_sound ok hte (he x) b hk)
  · rename_i x i
    exact out_value sat (extractA_sound (he x) i hk)
  · rename_i c
    unfold callA at hk
    split at hk <;> try exact hk.elim
    · rename_i b hb
      simp only [resolve, hb, Sem.run_bind, Sem.run_pure, Result.andThen_ok, invoke]
      exact builtinA_sound ok sat he hk
    · rename_i f hf
      have hfv := he f
      split at hk <;> try exact hk.elim
      · rename_i g hg
        rw [hg] at hfv
        simp only [Rel, RelD] at hfv
        simp only [resolve, hf, hfv, Deferred.ofValue, Sem.run_bind, Sem.run_pure, Result.andThen_ok, invoke, Array.empty_append, Array.append_empty]
        exact CallA.out hk sat (by simp [evs_eq]) (by simpa using evs_rel he c.args.toList)
      · rename_i g caps hg
        rw [hg] at hfv
        simp only [Rel] at hfv
        obtain ⟨vs, hfv, hl, hrel⟩ := hfv
        simp only [resolve, hf, hfv, Deferred.ofValue, Sem.run_bind, Sem.run_pure, Result.andThen_ok, invoke, Array.empty_append]
        refine CallA.out hk sat (by simp [evs_eq, hl]) ?_
        rw [Array.toList_append]
        exact rels_append (by simpa using evs_rel he c.args.toList) (by simp [evs_eq]) hrel

end Go.Abs

namespace Go.Abs

def upd (e : Env) (i : Nat) (v : AV) : Env := fun j => match Nat.beq j i with
  | true => v
  | false => e j
def EnvR (s : Wd) (n : Nat) (e : Env) (tmps : Array Value) : Prop := tmps.size = n ∧ ∀ i, Rel s (e i) (tmps.getD i undef)
theorem EnvR.mono {s s' : Wd} {n : Nat} {e : Env} {t : Array Value} (h : EnvR s n e t) (g : Grows s s') : EnvR s' n e t := ⟨h.1, fun i => rel_mono g _ _ (h.2 i)⟩
theorem EnvR.ev {s : Wd} {n : Nat} {e : Env} {t : Array Value} (h : EnvR s n e t) (ds : List Deferred) : EvR s e (Act.eval ⟨t, ds⟩) := by
  intro x
  cases x with
  | tmp i => exact h.2 i
  | const v => simp only [evA, Act.eval, Rel]; exact relD_vD s.I s.w v
  | global g => simp only [evA, Act.eval, Rel, RelD]
  | func f => simp only [evA, Act.eval, Rel, RelD]
theorem EnvR.upd {s : Wd} {n : Nat} {e : Env} {t : Array Value} (h : EnvR s n e t) {d : Nat} (hd : d < n) {a : AV} {v : Value} (hr : Rel s a v) : EnvR s n (upd e d a) (t.setIfInBounds d v) := by
  refine ⟨by simpa using h.1, fun i => ?_⟩
  unfold Abs.upd
  cases hb : Nat.beq i d with
  | true =>
    have := Nat.eq_of_beq_eq_true hb
    subst this
    have : i < t.size := by rw [h.1]; exact hd
    simp [this, hr]
  | false =>
    have hne : d ≠ i := fun e => by subst e; simp at hb
    have := h.2 i
    simp only [Array.getD_eq_getD_getElem?] at this ⊢
    rw [Array.getElem?_setIfInBounds_ne hne]
    exact this

/-- A value's head is reckoned before it is laid by. -/
def forceD (d : DV) (K : DV → Prop) : Prop := match d with
  | .int k n => K (.int k n)
  | .bool b => K (.bool b)
  | .str s => K (.str s)
  | .nilp => K .nilp
  | .nils => K .nils
  | .nilm => K .nilm
  | .nilf => K .nilf
  | .nili => K .nili
  | .gptr g => K (.gptr g)
  | .fn f => K (.fn f)
  | .ros cs n c => K (.ros cs n c)
  | .rptr cs o => K (.rptr cs o)
  | .iface t v => K (.iface t v)
  | .agg cs => K (.agg cs)
  | .tup vs => K (.tup vs)
  | .bad => K .bad
theorem forceD_eq (d : DV) (K : DV → Prop) : forceD d K = K d := by cases d <;> rfl
def forceA (v : AV) (K : AV → Prop) : Prop := match v with
  | .dat d => K (.dat d)
  | .ptr i o => K (.ptr i o)
  | .map i => K (.map i)
  | .yld i => K (.yld i)
  | .sl i o n c z => K (.sl i o n c z)
  | .func f cs => K (.func f cs)
  | .iface t a => K (.iface t a)
  | .agg cs => K (.agg cs)
  | .tup vs => K (.tup vs)
theorem forceA_eq (v : AV) (K : AV → Prop) : forceA v K = K v := by cases v <;> rfl
def putA (n : Nat) (d : Option Nat) (v : AV) (e : Env) (K : Env → Prop) : Prop := match d with
  | none => K e
  | some d => match Nat.blt d n with
    | true => forceA v fun v => K (upd e d v)
    | false => False
theorem putA_sound {s : Wd} {n : Nat} {e : Env} {a : Act} (h : EnvR s n e a.tmps) {d : Option Nat} {v : AV} {u : Value} (hr : Rel s v u) {K : Env → Prop} (hk : putA n d v e K) :
    ∃ e', K e' ∧ EnvR s n e' (a.put d u).tmps ∧ (a.put d u).defers = a.defers := by
  unfold putA at hk
  split at hk
  · exact ⟨e, hk, h, rfl⟩
  · rename_i d
    split at hk
    · rename_i hlt
      have hlt : d < n := by rw [Nat.blt_eq] at hlt; exact hlt
      rw [forceA_eq] at hk
      exact ⟨_, hk, h.upd hlt hr, rfl⟩
    · exact hk.elim

def dstOf (all : List Oper) (j : Nat) : Option Nat := match nth all j with
  | some o => o.dst
  | none => none
/-- Is the operation wanted? -/
def guardA (all : List Oper) (g : Option (Nat × Bool)) (e : Env) (yes no : Prop) : Prop := match g with
  | none => yes
  | some (j, want) => match dstOf all j with
    | some d => match e d with
      | .dat (.bool b) => condA (match want with | true => b | false => !b) yes no
      | .dat (.tup []) => no
      | _ => False
    | none => False
theorem guardA_elim {ops : Array Oper} {o : Oper} {s : Wd} {n : Nat} {e : Env} {tmps : Array Value} (he : EnvR s n e tmps) (hsz : ∀ j d, dstOf ops.toList j = some d → d < n) {yes no : Prop} (h : guardA ops.toList o.guard e yes no) :
    (Region.wanted o (yielded ops tmps) = true ∧ yes) ∨ (Region.wanted o (yielded ops tmps) = false ∧ no) := by
  unfold guardA at h
  unfold Region.wanted
  split at h
  · rename_i hg; rw [hg]; exact .inl ⟨rfl, h⟩
  · rename_i j want hg
    rw [hg]
    split at h <;> try exact h.elim
    rename_i d hd
    have hlt := hsz j d hd
    have hdd : (ops[j]?).bind (·.dst) = some d := by
      unfold dstOf at hd
      rw [nth_eq, Array.getElem?_toList] at hd
      split at hd
      · rename_i o' ho; rw [ho]; exact hd
      · cases hd
    have hr := he.2 d
    have hget : tmps[d]? = some (tmps.getD d undef) := by
      have : d < tmps.size := by rw [he.1]; exact hlt
      simp [this]
    have hy : yielded ops tmps j = (match tmps.getD d undef with | .bool b => some b | _ => none) := by
      unfold yielded
      rw [hdd, Option.bind_some, hget]
      cases tmps.getD d undef <;> rfl
    split at h <;> try exact h.elim
    · rename_i b hb
      rw [hb] at hr
      simp only [Rel, RelD] at hr
      rw [hr] at hy
      simp only at hy
      rcases condA_elim h with ⟨h1, h2⟩ | ⟨h1, h2⟩
      · left; refine ⟨?_, h2⟩
        simp only [hy]
        cases want <;> cases b <;> simp_all
      · right; refine ⟨?_, h2⟩
        simp only [hy]
        cases want <;> cases b <;> simp_all
    · rename_i hb
      rw [hb] at hr
      simp only [Rel, RelD] at hr
      obtain ⟨vs, hr, _⟩ := hr
      rw [hr] at hy
      simp only at hy
      right; refine ⟨?_, h⟩
      simp only [hy]
      rfl

/-- The call of what a range over a function hands over. -/
structure YieldA (cx : Cx) (id : Nat) (args : List AV) (h : Heap) (K : AV → Heap → Prop) : Prop where
  run : ∀ (s : Wd) (l : Nat) (vs : Array Value), Sat cx.toGl h s → s.ρ id = some l → args.length = vs.size → Rels s args vs.toList →
    YieldAt Fence.wide 0 cx.P l vs s.w fun e w' => ∃ v, e = .returned v ∧ Post cx h s K v w'
def stepA (cx : Cx) (e : Env) (h : Heap) (o : Op) (K : AV → Heap → Prop) : Prop := match o with
  | .call c => match c.callee with
    | .value f => match evA e f with
      | .yld id => YieldA cx id (evs e c.args.toList) h K
      | _ => callA cx e h c K
    | _ => callA cx e h c K
  | o => opA cx e h o K
/-- The fence that asks nothing, in a round or not. -/
def wideR (ro : Option Nat) : Fence := { Fence.wide with round := ro }
theorem OpOut.wpIn {P : Program} {ro : Option Nat} {o : Oper} {a : Act} {w : World} {R : Value → World → Prop} {next : Act → World → Prop} {Q : Exit → Act → World → Prop} (hnd : ∀ c, o.op ≠ .defer c) (h : OpOut P ((execOp a.eval o).run P w) R)
    (hn : ∀ v w', R v w' → next (a.put o.dst v) w') : o.wpIn (wideR ro) 0 P a w next Q := by
  refine ⟨fun _ _ => trivial, ?_⟩
  show o.uponIn (wideR ro) 0 P a next Q ((o.semAt ro a.eval).run P w)
  rw [Oper.semAt_eq ro _ o hnd]
  generalize (execOp a.eval o).run P w = r at h
  unfold OpOut at h
  split at h
  · exact hn _ _ h
  · exact hn _ _ h
  · rw [Oper.uponIn_enter]
    exact ⟨fun h => by simp [wideR, Fence.wide] at h, (callsIn_wide (n := 0 - 1)).2 (h.mono fun e w'' ⟨v, he, hr⟩ => by subst he; exact hn _ _ hr)⟩
  · exact h.elim
theorem stepA_wp {cx : Cx} (ok : CxOK cx) {ro : Option Nat} {e : Env} {h : Heap} {s : Wd} (sat : Sat cx.toGl h s) {o : Oper} {a : Act} (he : EvR s e a.eval) {K : AV → Heap → Prop} (hk : stepA cx e h o.op K) {next : Act → World → Prop} {Q : Exit → Act → World → Prop}
    (hn : ∀ v w', Post cx h s K v w' → next (a.put o.dst v) w') : o.wpIn (wideR ro) 0 cx.P a s.w next Q := by
  have other : opA cx e h o.op K → o.wpIn (wideR ro) 0 cx.P a s.w next Q := fun hk => OpOut.wpIn (fun c hc => by rw [hc] at hk; exact hk) (opA_sound ok sat he hk) hn
  unfold stepA at hk
  split at hk
  · rename_i c hc
    have other : callA cx e h c K → o.wpIn (wideR ro) 0 cx.P a s.w next Q := fun hk => other (by rw [hc]; exact hk)
    split at hk
    · rename_i f hf
      split at hk
      · rename_i id hid
        have hfv := he f
        rw [hid] at hfv
        simp only [Rel] at hfv
        obtain ⟨l, hρ, hfv⟩ := hfv
        obtain ⟨fn, tmps, assign, body, hy, hR⟩ := hk.run s l (c.args.map a.eval) sat hρ (by simp [evs_eq]) (by simpa using evs_rel he c.args.toList)
        refine ⟨fun _ _ => trivial, ?_⟩
        show o.uponIn (wideR ro) 0 cx.P a next Q ((o.semAt ro a.eval).run cx.P s.w)
        rw [Oper.semAt_eq ro _ o (fun c' hc' => by rw [hc] at hc'; cases hc')]
        have : (execOp a.eval o).run cx.P s.w = .ok (.round l fn tmps assign body) s.w := by
          unfold execOp
          rw [hc]
          simp only [resolve, hf, hfv, Deferred.ofValue, Sem.run_bind, Sem.run_pure, Result.andThen_ok, invoke, Array.empty_append]
          exact hy
        rw [this, Oper.uponIn_round]
        exact ⟨fun h => by simp [wideR, Fence.wide] at h, hR.mono fun e w'' ⟨v, hv, hp⟩ => by subst hv; exact hn _ _ hp⟩
      · exact other hk
    · exact other hk
  · exact other hk

/-- A heap's row is reckoned before it goes on. -/
def forceH (h : Heap) (K : Heap → Prop) : Prop := List.rec (motive := fun _ => (Heap → Prop) → Prop) (fun K => K []) (fun b _ ih K => ih fun r => K (b :: r)) h K
theorem forceH_eq : ∀ (h : Heap) (K : Heap → Prop), forceH h K = K h
  | [], _ => rfl
  | b :: r, K => by
    show forceH r (fun r => K (b :: r)) = _
    rw [forceH_eq r]
def chgH : Op → Bool
  | .alloc _ | .box _ _ | .buildSlice _ _ _ | .store _ _ _ | .makeMap _ _ | .mapUpdate _ _ _ _ | .range _ _ | .next _ _ | .call _ => true
  | _ => false
def heapK (o : Op) (K : AV → Heap → Prop) (v : AV) (h : Heap) : Prop := match chgH o with
  | true => forceH h fun h => K v h
  | false => K v h
theorem heapK_eq (o : Op) (K : AV → Heap → Prop) : heapK o K = K := by
  funext v h
  unfold heapK
  split
  · exact forceH_eq h _
  · rfl
/- (by the recursor itself: Lean's kernel and its elaborator then unfold it alike) -/
def opsA (cx : Cx) (n : Nat) (all : List Oper) (K : Env → Heap → Prop) (l : List Oper) : Env → Heap → Prop :=
  List.rec (motive := fun _ => Env → Heap → Prop) K (fun o _ ih e h => guardA all o.guard e
      (stepA cx e h o.op (heapK o.op fun v h' => putA n o.dst v e fun e' => ih e' h'))
      (putA n o.dst (.dat (.tup [])) e fun e' => ih e' h)) l
theorem opsA_cons {cx : Cx} {n : Nat} {all : List Oper} {K : Env → Heap → Prop} {o : Oper} {r : List Oper} {e : Env} {h : Heap} : opsA cx n all K (o :: r) e h = guardA all o.guard e
      (stepA cx e h o.op (heapK o.op fun v h' => putA n o.dst v e fun e' => opsA cx n all K r e' h'))
      (putA n o.dst (.dat (.tup [])) e fun e' => opsA cx n all K r e' h) := rfl

/-- Where the function began: its heap, of at most b blocks. -/
structure Base (b : Nat) (h0 : Heap) (s0 : Wd) : Prop where
  len : h0.length ≤ b
  fresh : ∀ i, h0.length ≤ i → s0.ρ i = none
/-- What a piece of code leaves. -/
def QS (cx : Cx) (n : Nat) (h0 : Heap) (s0 : Wd) (K : Env → Heap → Prop) (Kx : Nat → Env → Heap → Prop) (Kr : Env → Heap → Prop) : Exit → Act → World → Prop := fun x a w =>
  ∃ e' h' s', s'.w = w ∧ a.defers = [] ∧ EnvR s' n e' a.tmps ∧ Sat cx.toGl h' s' ∧ Ext h0 s0 h' s' ∧ (match x with
    | .normal => K e' h'
    | .exit i => Kx i e' h'
    | .ret => Kr e' h'
    | _ => False)
theorem QS.ext {cx : Cx} {n : Nat} {h h1 : Heap} {s s1 : Wd} {K Kr : Env → Heap → Prop} {Kx : Nat → Env → Heap → Prop} (he : Ext h s h1 s1) {x : Exit} {a : Act} {w : World} (q : QS cx n h1 s1 K Kx Kr x a w) : QS cx n h s K Kx Kr x a w := by
  obtain ⟨e', h', s', q1, q2, q3, q4, q5, q6⟩ := q
  exact ⟨e', h', s', q1, q2, q3, q4, he.trans q5, q6⟩

theorem OpOut.wp {P : Program} {o : Oper} {a : Act} {w : World} {R : Value → World → Prop} {next : Act → World → Prop} {Q : Exit → Act → World → Prop} (h : OpOut P ((execOp a.eval o).run P w) R)
    (hn : ∀ v w', R v w' → next (a.put o.dst v) w') : o.wp P a w next Q := by
  unfold Oper.wp
  generalize (execOp a.eval o).run P w = r at h
  unfold OpOut at h
  split at h
  · exact hn _ _ h
  · exact hn _ _ h
  · exact h.mono fun e w'' ⟨v, he, hr⟩ => by subst he; exact hn _ _ hr
  · exact h.elim

def dstsOK (n : Nat) : List Oper → Bool
  | [] => true
  | o :: r => match o.dst with
    | none => dstsOK n r
    | some d => match Nat.blt d n with
      | true => dstsOK n r
      | false => false
theorem dstsOK_spec {n : Nat} : ∀ {l : List Oper}, dstsOK n l = true → ∀ j d, dstOf l j = some d → d < n
  | [], _, j, d, h => by simp [dstOf, nth] at h
  | o :: r, h, j, d, hd => by
    simp only [dstsOK] at h
    have hr : dstsOK n r = true := by
      split at h
      · exact h
      · split at h
        · exact h
        · cases h
    cases j with
    | zero =>
      simp only [dstOf, nth] at hd
      rw [hd] at h
      simp only at h
      split at h
      · rename_i hb; rw [Nat.blt_eq] at hb; exact hb
      · cases h
    | succ j => exact dstsOK_spec hr j d (by simpa [dstOf, nth] using hd)

theorem opsA_sound {cx : Cx} (ok : CxOK cx) {ro : Option Nat} {ds : List Deferred} {n : Nat} {ops : Array Oper} (hd : dstsOK n ops.toList = true) {K : Env → Heap → Prop} {Q : Exit → Act → World → Prop} :
    ∀ (l : List Nat) (r : List Oper) (e : Env) (h : Heap) (s : Wd) (a : Act), l.map (ops[·]?) = r.map some → opsA cx n ops.toList K r e h → Sat cx.toGl h s → EnvR s n e a.tmps → a.defers = ds →
      (∀ e' h' s' a', K e' h' → Sat cx.toGl h' s' → EnvR s' n e' a'.tmps → a'.defers = ds → Ext h s h' s' → Q .normal a' s'.w) → wpOpsIn (wideR ro) 0 cx.P ops Q l a s.w
  | [], [], e, h, s, a, _, hk, sat, he, hdf, hq => by simp only [wpOpsIn]; exact hq e h s a hk sat he hdf (Ext.refl h s)
  | i :: l, o :: r, e, h, s, a, hm, hk, sat, he, hdf, hq => by
    simp only [List.map_cons, List.cons.injEq] at hm
    unfold wpOpsIn
    rw [hm.1]
    simp only
    rw [opsA_cons, heapK_eq] at hk
    rcases guardA_elim (ops := ops) (o := o) he (dstsOK_spec hd) hk with ⟨hw, hk⟩ | ⟨hw, hk⟩
    · simp only [hw, if_true]
      have hev : EvR s e a.eval := he.ev a.defers
      refine stepA_wp ok sat hev hk fun v w' hp => ?_
      obtain ⟨av, h', s', rfl, hk', hr, sat', hext⟩ := hp
      obtain ⟨e', hk2, he', hdf'⟩ := putA_sound (he.mono (hext.grows sat)) hr hk'
      exact opsA_sound ok hd l r e' h' s' _ hm.2 hk2 sat' he' (hdf'.trans hdf) fun e2 h2 s2 a2 k2 sat2 he2 d2 ext2 => hq e2 h2 s2 a2 k2 sat2 he2 d2 (hext.trans ext2)
    · simp only [hw]
      refine ⟨fun _ _ => trivial, ?_⟩
      obtain ⟨e', hk2, he', hdf'⟩ := putA_sound (u := undef) he (by simp [Rel, RelD, undef, RelDs]) hk
      exact opsA_sound ok hd l r e' h s _ hm.2 hk2 sat he' (hdf'.trans hdf) hq
  | [], _ :: _, _, _, _, _, hm, _, _, _, _, _ => by simp at hm
  | _ :: _, [], _, _, _, _, hm, _, _, _, _, _ => by simp at hm

/-- A loop that is under way. -/
def LoopSem (P : Program) (c : Code) (Q : Exit → Act → World → Prop) (a : Act) (w : World) : Prop :=
  ∀ (b : Frame) (k : List Item) (cs : List Frame), ∃ e a' w', Q e a' w' ∧ Arrives P (lone (b.at a (.code c :: .inLoop c :: k)) cs w) b k cs e a' w'
theorem LoopSem.unroll {P : Program} {c : Code} {Q : Exit → Act → World → Prop} {a : Act} {w : World} (h : c.wp P (Exit.then (LoopSem P c Q) Q) a w) : LoopSem P c Q a w := by
  intro b k cs
  obtain ⟨e, a₁, w₁, hq, harr⟩ := h b (.inLoop c :: k) cs
  cases e with
  | normal =>
    obtain ⟨e₂, a₂, w₂, hq₂, harr₂⟩ := hq b k cs
    exact ⟨e₂, a₂, w₂, hq₂, .of_steps (Steps.trans harr (.one step_inLoop)) harr₂⟩
  | exit id => exact ⟨_, a₁, w₁, hq, .pass (x := .inLoop c) rfl (fun _ _ => .inl (by simp)) harr⟩
  | goto l => exact ⟨_, a₁, w₁, hq, .pass (x := .inLoop c) rfl (fun _ _ => .inl (by simp)) harr⟩
  | ret => exact ⟨_, a₁, w₁, hq, .pass (x := .inLoop c) rfl (fun _ _ => .inl (by simp)) harr⟩
  | panic ch => exact ⟨_, a₁, w₁, hq, .pass (x := .inLoop c) rfl (fun _ _ => .inl (by simp)) harr⟩
  | outgrown => exact ⟨_, a₁, w₁, hq, .pass (x := .inLoop c) rfl (fun _ _ => .inl (by simp)) harr⟩
theorem LoopSem.wp {P : Program} {c : Code} {Q : Exit → Act → World → Prop} {a : Act} {w : World} (h : LoopSem P c Q a w) : (Code.loop c).wp P Q a w := by
  intro b k cs
  obtain ⟨e, a', w', hq, harr⟩ := h b k cs
  exact ⟨e, a', w', hq, .of_steps (.one step_loop) harr⟩

structure loopA (cx : Cx) (n b : Nat) (c : Code) (Kx : Nat → Env → Heap → Prop) (Kr : Env → Heap → Prop) (e : Env) (h : Heap) : Prop where
  run : ∀ (h0 : Heap) (s0 s : Wd) (a : Act), Base b h0 s0 → Ext h0 s0 h s → Sat cx.toGl h s → EnvR s n e a.tmps → a.defers = [] → LoopSem cx.P c (QS cx n h0 s0 (fun _ _ => False) Kx Kr) a s.w

/-- A region that draws its order (AbsDraw says what it is). -/
def drawSem (cx : Cx) (n : Nat) (id : Nat) (ops : Array Oper) (K : Env → Heap → Prop) (e : Env) (h : Heap) : Prop :=
  ∀ (s : Wd) (a : Act), Sat cx.toGl h s → EnvR s n e a.tmps → a.defers = [] → (Code.region id ops true).wp cx.P (QS cx n h s K (fun _ _ _ => False) (fun _ _ => False)) a s.w

noncomputable def wpC (cx : Cx) (draw : Nat → Array Oper → (Env → Heap → Prop) → Env → Heap → Prop) (n b : Nat) (c : Code) : (Env → Heap → Prop) → (Nat → Env → Heap → Prop) → (Env → Heap → Prop) → Env → Heap → Prop :=
  Code.rec (motive := fun _ => (Env → Heap → Prop) → (Nat → Env → Heap → Prop) → (Env → Heap → Prop) → Env → Heap → Prop)
    (skip := fun K _ _ e h => K e h)
    (region := fun id ops d K _ _ e h => match d with
      | false => match dstsOK n ops.toList with
        | true => opsA cx n ops.toList K ops.toList e h
        | false => False
      | true => draw id ops K e h)
    (seq := fun _ _ x y K Kx Kr e h => x (fun e h => y K Kx Kr e h) Kx Kr e h)
    (cond := fun c _ _ x y K Kx Kr e h => match evA e c with
      | .dat (.bool t) => condA t (x K Kx Kr e h) (y K Kx Kr e h)
      | _ => False)
    (block := fun id _ x K Kx Kr e h => x K (fun i e h => match Nat.beq i id with | true => K e h | false => Kx i e h) Kr e h)
    (loop := fun c _ _ Kx Kr e h => loopA cx n b c Kx Kr e h)
    (rangeFunc := fun _ _ _ _ _ _ _ _ _ _ _ => False)
    (exit := fun id _ Kx _ e h => Kx id e h)
    (scope := fun _ _ _ _ _ _ _ => False)
    (label := fun _ K _ _ e h => K e h)
    (goto := fun _ _ _ _ _ _ => False)
    (ret := fun _ _ Kr e h => Kr e h)
    (refuse := fun _ _ _ _ _ _ => False) c
section
variable {cx : Cx} {draw : Nat → Array Oper → (Env → Heap → Prop) → Env → Heap → Prop} {n b : Nat} {K Kr : Env → Heap → Prop} {Kx : Nat → Env → Heap → Prop} {e : Env} {h : Heap}
theorem wpC_region {id : Nat} {ops : Array Oper} {d : Bool} : wpC cx draw n b (.region id ops d) K Kx Kr e h = (match d with
      | false => match dstsOK n ops.toList with
        | true => opsA cx n ops.toList K ops.toList e h
        | false => False
      | true => draw id ops K e h) := rfl
theorem wpC_seq {x y : Code} : wpC cx draw n b (.seq x y) K Kx Kr e h = wpC cx draw n b x (fun e h => wpC cx draw n b y K Kx Kr e h) Kx Kr e h := rfl
theorem wpC_cond {c : Operand} {x y : Code} : wpC cx draw n b (.cond c x y) K Kx Kr e h = (match evA e c with
      | .dat (.bool t) => condA t (wpC cx draw n b x K Kx Kr e h) (wpC cx draw n b y K Kx Kr e h)
      | _ => False) := rfl
theorem wpC_block {id : Nat} {c : Code} : wpC cx draw n b (.block id c) K Kx Kr e h = wpC cx draw n b c K (fun i e h => match Nat.beq i id with | true => K e h | false => Kx i e h) Kr e h := rfl
theorem wpC_loop {c : Code} : wpC cx draw n b (.loop c) K Kx Kr e h = loopA cx n b c Kx Kr e h := rfl
end

theorem QS.imp {cx : Cx} {n : Nat} {h : Heap} {s : Wd} {K Kr K' Kr' : Env → Heap → Prop} {Kx Kx' : Nat → Env → Heap → Prop} {x : Exit} {a : Act} {w : World} (q : QS cx n h s K Kx Kr x a w)
    (hk : ∀ e h, K e h → K' e h) (hx : ∀ i e h, Kx i e h → Kx' i e h) (hr : ∀ e h, Kr e h → Kr' e h) : QS cx n h s K' Kx' Kr' x a w := by
  obtain ⟨e', h', s', q1, q2, q3, q4, q5, q6⟩ := q
  refine ⟨e', h', s', q1, q2, q3, q4, q5, ?_⟩
  cases x <;> first | exact hk _ _ q6 | exact hx _ _ _ q6 | exact hr _ _ q6 | exact q6.elim

theorem wpC_sound {cx : Cx} (ok : CxOK cx) {draw : Nat → Array Oper → (Env → Heap → Prop) → Env → Heap → Prop} {n b : Nat} (hdraw : ∀ id ops K e h, draw id ops K e h → drawSem cx n id ops K e h) {h0 : Heap} {s0 : Wd} (hb : Base b h0 s0) (c : Code) :
    ∀ (K : Env → Heap → Prop) (Kx : Nat → Env → Heap → Prop) (Kr : Env → Heap → Prop) (e : Env) (h : Heap) (s : Wd) (a : Act), wpC cx draw n b c K Kx Kr e h → Ext h0 s0 h s → Sat cx.toGl h s → EnvR s n e a.tmps → a.defers = [] → c.wp cx.P (QS cx n h0 s0 K Kx Kr) a s.w := by
  induction c with
  | skip => intro K Kx Kr e h s a hk ext sat he hd; exact wp_skip ⟨e, h, s, rfl, hd, he, sat, ext, hk⟩
  | label l => intro K Kx Kr e h s a hk ext sat he hd; exact wp_label ⟨e, h, s, rfl, hd, he, sat, ext, hk⟩
  | region id ops d =>
    intro K Kx Kr e h s a hk ext sat he hd
    rw [wpC_region] at hk
    cases d with
    | false =>
      simp only at hk
      split at hk <;> try exact hk.elim
      rename_i hds
      refine (wpIn_wide (n := 0)).1 (wpIn_region ?_)
      refine opsA_sound ok (ro := none) hds (List.range ops.size) ops.toList e h s a ?_ hk sat he hd ?_
      · apply List.ext_getElem?
        intro i
        simp only [List.getElem?_map, Array.getElem?_toList]
        rcases Nat.lt_or_ge i ops.size with hi | hi
        · simp [hi]
        · simp [hi]
      · intro e' h' s' a' k' sat' he' hd' ext'
        exact ⟨e', h', s', rfl, hd', he', sat', ext.trans ext', k'⟩
    | true => exact wp_mono (hdraw id ops K e h hk s a sat he hd) fun x a w q => (q.ext ext).imp (fun _ _ h => h) (fun _ _ _ h => h.elim) (fun _ _ h => h.elim)
  | seq x y ihx ihy =>
    intro K Kx Kr e h s a hk ext sat he hd
    rw [wpC_seq] at hk
    refine wp_seq (wp_mono (ihx _ _ _ e h s a hk ext sat he hd) fun x a w q => ?_)
    obtain ⟨e', h', s', rfl, q2, q3, q4, q5, q6⟩ := q
    cases x with
    | normal => exact ihy K Kx Kr e' h' s' a q6 q5 q4 q3 q2
    | exit i => exact ⟨e', h', s', rfl, q2, q3, q4, q5, q6⟩
    | ret => exact ⟨e', h', s', rfl, q2, q3, q4, q5, q6⟩
    | _ => exact q6.elim
  | cond c x y ihx ihy =>
    intro K Kx Kr e h s a hk ext sat he hd
    rw [wpC_cond] at hk
    have hc := he.ev a.defers c
    split at hk <;> try exact hk.elim
    rename_i t ht
    rw [ht] at hc
    simp only [Rel, RelD] at hc
    rcases condA_elim hk with ⟨ht2, hk⟩ | ⟨ht2, hk⟩
    · exact wp_cond_true (hc.trans (by rw [ht2])) (ihx K Kx Kr e h s a hk ext sat he hd)
    · exact wp_cond_false (hc.trans (by rw [ht2])) (ihy K Kx Kr e h s a hk ext sat he hd)
  | block id c ih =>
    intro K Kx Kr e h s a hk ext sat he hd
    rw [wpC_block] at hk
    refine wp_block (wp_mono (ih _ _ _ e h s a hk ext sat he hd) fun x a w q => ?_)
    obtain ⟨e', h', s', rfl, q2, q3, q4, q5, q6⟩ := q
    cases x with
    | normal => exact ⟨e', h', s', rfl, q2, q3, q4, q5, q6⟩
    | exit i =>
      simp only at q6
      simp only [Exit.inBlock]
      split at q6
      · rename_i hb
        rw [if_pos (Nat.eq_of_beq_eq_true hb)]
        exact ⟨e', h', s', rfl, q2, q3, q4, q5, q6⟩
      · rename_i hb
        rw [if_neg (fun e => by subst e; simp at hb)]
        exact ⟨e', h', s', rfl, q2, q3, q4, q5, q6⟩
    | ret => exact ⟨e', h', s', rfl, q2, q3, q4, q5, q6⟩
    | _ => exact q6.elim
  | loop c ih =>
    intro K Kx Kr e h s a hk ext sat he hd
    rw [wpC_loop] at hk
    exact LoopSem.wp (fun b k cs => by
      obtain ⟨x, a', w', hq, harr⟩ := hk.run h0 s0 s a hb ext sat he hd b k cs
      exact ⟨x, a', w', hq.imp (fun _ _ h => h.elim) (fun _ _ _ h => h) (fun _ _ h => h), harr⟩)
  | exit id => intro K Kx Kr e h s a hk ext sat he hd; exact wp_exit ⟨e, h, s, rfl, hd, he, sat, ext, hk⟩
  | ret => intro K Kx Kr e h s a hk ext sat he hd; exact wp_ret ⟨e, h, s, rfl, hd, he, sat, ext, hk⟩
  | _ => intro K Kx Kr e h s a hk; exact hk.elim

/-- One round of a loop. -/
theorem loopA_round {cx : Cx} (ok : CxOK cx) {draw : Nat → Array Oper → (Env → Heap → Prop) → Env → Heap → Prop} {n b : Nat} (hdraw : ∀ id ops K e h, draw id ops K e h → drawSem cx n id ops K e h) {c : Code} {Kx : Nat → Env → Heap → Prop} {Kr : Env → Heap → Prop} {e : Env} {h : Heap}
    (hk : wpC cx draw n b c (fun e h => loopA cx n b c Kx Kr e h) Kx Kr e h) : loopA cx n b c Kx Kr e h := by
  constructor
  intro h0 s0 s a hb ext sat he hd
  refine LoopSem.unroll (wp_mono (wpC_sound ok hdraw hb c _ _ _ e h s a hk ext sat he hd) fun x a w q => ?_)
  obtain ⟨e', h', s', rfl, q2, q3, q4, q5, q6⟩ := q
  cases x with
  | normal =>
    intro b k cs
    obtain ⟨x, a', w', hq, harr⟩ := q6.run h0 s0 s' a hb q5 q4 q3 q2 b k cs
    exact ⟨x, a', w', hq, harr⟩
  | exit i => exact ⟨e', h', s', rfl, q2, q3, q4, q5, q6⟩
  | ret => exact ⟨e', h', s', rfl, q2, q3, q4, q5, q6⟩
  | _ => exact q6.elim

/-! Functions. -/
def initE (args : List AV) : Env := fun i => match nth args i with
  | some a => a
  | none => .dat (.tup [])
def resA (cx : Cx) (r : ResultVar) (e : Env) (h : Heap) (K : AV → Prop) : Prop := match r with
  | .tmp t => K (e t)
  | .cell a t => hasTy cx t fun ti => loadA cx ti (e a) h K
def ressA (cx : Cx) (rs : List ResultVar) (e : Env) (h : Heap) : (List AV → Prop) → Prop :=
  List.rec (motive := fun _ => (List AV → Prop) → Prop) (fun K => K []) (fun r _ ih K => resA cx r e h fun v => ih fun vs => K (v :: vs)) rs
theorem ressA_cons {cx : Cx} {r : ResultVar} {rs : List ResultVar} {e : Env} {h : Heap} {K : List AV → Prop} : ressA cx (r :: rs) e h K = resA cx r e h fun v => ressA cx rs e h fun vs => K (v :: vs) := rfl
def oneA (l : List AV) : AV := match l with
  | [v] => v
  | l => .tup l
def retA (cx : Cx) (rs : List ResultVar) (K : AV → Heap → Prop) (e : Env) (h : Heap) : Prop := ressA cx rs e h fun vs => K (oneA vs) h
noncomputable def wpF (cx : Cx) (draw : Nat → Nat → Array Oper → (Env → Heap → Prop) → Env → Heap → Prop) (fn : Func) (args : List AV) (h : Heap) (K : AV → Heap → Prop) : Prop := match fn.body with
  | some c => match Nat.ble args.length fn.ntmps with
    | true => wpC cx (draw fn.ntmps) fn.ntmps h.length c (retA cx fn.results.toList K) (fun _ _ _ => False) (retA cx fn.results.toList K) (initE args) h
    | false => False
  | none => False

/-- How the model reads a result variable. -/
def resV (tmps : Array Value) (r : ResultVar) : Sem Value := match r with
  | .tmp t => pure (tmps.getD t undef)
  | .cell a t => do loadVar t (← asAddr (tmps.getD a undef))
theorem results_eq (fn : Func) (tmps : Array Value) : results fn tmps = (do
    let vs ← fn.results.mapM (resV tmps)
    pure (if h : vs.size = 1 then vs[0] else .tuple vs)) := rfl
theorem resA_sound {cx : Cx} (ok : CxOK cx) {r : ResultVar} {e : Env} {h : Heap} {s : Wd} {n : Nat} {tmps : Array Value} (sat : Sat cx.toGl h s) (he : EnvR s n e tmps) {K : AV → Prop} (hk : resA cx r e h K) :
    ∃ v a, (resV tmps r).run cx.P s.w = .ok v s.w ∧ K a ∧ Rel s a v := by
  cases r with
  | tmp t => exact ⟨_, _, rfl, hk, he.2 t⟩
  | cell a t =>
    obtain ⟨ti, hti, hk⟩ := hasTy_elim hk
    obtain ⟨v, r, h1, h2, h3⟩ := loadA_sound ok hti sat (he.2 a) hk
    refine ⟨v, r, ?_, h2, h3⟩
    have : ∃ ad, tmps.getD a undef = .pointer (some ad) := by
      generalize tmps.getD a undef = u at h1
      cases u with
      | pointer p =>
        cases p with
        | some ad => exact ⟨ad, rfl⟩
        | none => simp [Instr.loadAt, Instr.sureAddr] at h1
      | _ => simp [Instr.loadAt, Instr.sureAddr] at h1
    obtain ⟨ad, had⟩ := this
    rw [had] at h1
    simp only [resV, had]
    simpa [Instr.loadAt, Instr.sureAddr, asAddr] using h1
theorem ressA_sound {cx : Cx} (ok : CxOK cx) {e : Env} {h : Heap} {s : Wd} {n : Nat} {tmps : Array Value} (sat : Sat cx.toGl h s) (he : EnvR s n e tmps) : ∀ (rs : List ResultVar) {K : List AV → Prop}, ressA cx rs e h K →
    ∃ vs as, (rs.mapM (resV tmps)).run cx.P s.w = .ok vs s.w ∧ K as ∧ Rels s as vs ∧ as.length = vs.length
  | [], K, hk => ⟨[], [], by simp, hk, by simp [Rels], rfl⟩
  | r :: rs, K, hk => by
    rw [ressA_cons] at hk
    obtain ⟨v, a, h1, h2, h3⟩ := resA_sound ok sat he hk
    obtain ⟨vs, as, h4, h5, h6, h7⟩ := ressA_sound ok sat he rs h2
    refine ⟨v :: vs, a :: as, ?_, h5, ⟨h3, h6⟩, by simp [h7]⟩
    rw [List.mapM_cons]
    simp only [Sem.run_bind, Sem.run_pure, h1, h4, Result.andThen_ok]

theorem retA_sound {cx : Cx} (ok : CxOK cx) {fn : Func} {e : Env} {h : Heap} {s : Wd} {n : Nat} {tmps : Array Value} (sat : Sat cx.toGl h s) (he : EnvR s n e tmps) {K : AV → Heap → Prop} (hk : retA cx fn.results.toList K e h) :
    ∃ v a, (results fn tmps).run cx.P s.w = .ok v s.w ∧ K a h ∧ Rel s a v := by
  obtain ⟨vs, as, h1, h2, h3, h4⟩ := ressA_sound ok sat he fn.results.toList hk
  have hm : (fn.results.mapM (resV tmps)).run cx.P s.w = .ok vs.toArray s.w := by
    rw [Array.mapM_eq_mapM_toList]
    simp only [Sem.run_map, h1, Result.andThen_ok]
  rw [results_eq]
  simp only [Sem.run_bind, hm, Result.andThen_ok, Sem.run_pure]
  cases hvs : vs with
  | nil =>
    subst hvs
    cases as with
    | nil => exact ⟨_, _, rfl, h2, ⟨_, rfl, rfl, trivial⟩⟩
    | cons => simp at h4
  | cons v r =>
    subst hvs
    cases as with
    | nil => simp at h4
    | cons a as =>
      cases r with
      | nil =>
        cases as with
        | nil => exact ⟨v, a, rfl, h2, h3.1⟩
        | cons => simp at h4
      | cons v2 r =>
        cases as with
        | nil => simp at h4
        | cons a2 as =>
          refine ⟨.tuple (v :: v2 :: r).toArray, .tup (a :: a2 :: as), ?_, h2, ⟨_, rfl, by simpa using h4, by simpa using h3⟩⟩
          rw [dif_neg (by simp)]

/-- A function of the program: its contract by its code. -/
theorem CallA.enter {cx : Cx} (ok : CxOK cx) {draw : Nat → Nat → Array Oper → (Env → Heap → Prop) → Env → Heap → Prop} (hdraw : ∀ n id ops K e h, draw n id ops K e h → drawSem cx n id ops K e h) {f : Nat} {fn : Func} (hf : cx.P.funcs[f]? = some fn)
    (hc : ∀ vs w, (callFunc f vs).run cx.P w = .ok (.enter f vs) w) {args : List AV} {h : Heap} {K : AV → Heap → Prop} (hk : wpF cx draw fn args h K) : CallA cx f args h K := by
  constructor
  intro s vs sat hl hr
  refine ⟨hc vs s.w, ?_⟩
  unfold wpF at hk
  split at hk <;> try exact hk.elim
  rename_i c hb
  split at hk <;> try exact hk.elim
  rename_i hle
  have hle : args.length ≤ fn.ntmps := Nat.le_of_ble_eq_true hle
  have henv : EnvR s fn.ntmps (initE args) (vs ++ Array.replicate (fn.ntmps - vs.size) undef) := by
    refine ⟨by simp; omega, fun i => ?_⟩
    unfold initE
    rw [nth_eq]
    rcases Nat.lt_or_ge i args.length with hi | hi
    · obtain ⟨v, h1, h2⟩ := rels_iff.1 hr i args[i] (by simp [hi])
      rw [List.getElem?_eq_getElem hi]
      have h1' : vs[i]? = some v := by simpa using h1
      have : (vs ++ Array.replicate (fn.ntmps - vs.size) undef).getD i undef = v := by
        rw [Array.getD_eq_getD_getElem?, Array.getElem?_append_left (by omega), h1']; rfl
      rw [this]; exact h2
    · rw [List.getElem?_eq_none hi]
      have : (vs ++ Array.replicate (fn.ntmps - vs.size) undef).getD i undef = undef := by
        rw [Array.getD_eq_getD_getElem?, Array.getElem?_append_right (by omega)]
        rw [Array.getElem?_replicate]
        split <;> rfl
      rw [this]
      exact ⟨_, rfl, rfl, trivial⟩
  refine calls_of_wp hf hb (wp_mono (wpC_sound ok (hdraw fn.ntmps) (b := h.length) ⟨Nat.le_refl _, sat.fresh⟩ c _ _ _ _ h s ⟨_, []⟩ hk (Ext.refl h s) sat henv rfl) fun x a w q => ?_)
  obtain ⟨e', h', s', rfl, q2, q3, q4, q5, q6⟩ := q
  have fin : retA cx fn.results.toList K e' h' → a.defers = [] ∧ ∃ v, (results fn a.tmps).run cx.P s'.w = .ok v s'.w ∧ ∃ v', Ending.returned v = .returned v' ∧ Post cx h s K v' s'.w := fun hk => by
    obtain ⟨v, av, h1, h2, h3⟩ := retA_sound ok q4 q3 hk
    exact ⟨q2, v, h1, v, rfl, av, h', s', rfl, h2, h3, q4, q5⟩
  cases x with
  | normal => exact fin q6
  | ret => exact fin q6
  | _ => exact q6.elim

end Go.Abs

namespace Go.Abs

/-! What an operation hangs on. -/
inductive Cls where
  | quiet | alloc | event
def clsOf : Op → Cls
  | .move _ | .assign _ | .pick .. | .build .. | .load .. | .nilCheck _ | .binOp .. | .unOp .. | .convert .. | .makeInterface .. | .makeFunc .. | .slice .. | .fieldAddr .. | .field .. | .indexAddr .. | .index .. | .lookup .. | .typeAssert .. | .extract .. => .quiet
  | .alloc _ | .box .. | .buildSlice .. | .makeMap .. => .alloc
  | .call { callee := .builtin .len, .. } | .call { callee := .builtin .max, .. } | .call { callee := .builtin .min, .. } => .quiet
  | _ => .event

theorem partsA_congr {e e' : Env} {l : List (Nat × Operand)} (h : ∀ p ∈ l, evA e p.2 = evA e' p.2) : partsA e l = partsA e' l := by
  induction l with
  | nil => rfl
  | cons p r ih =>
    obtain ⟨i, x⟩ := p
    simp only [partsA, h (i, x) (by simp), ih (fun q hq => h q (by simp [hq]))]
theorem evs_congr {e e' : Env} {l : List Operand} (h : ∀ x ∈ l, evA e x = evA e' x) : evs e l = evs e' l := by
  induction l with
  | nil => rfl
  | cons x r ih => simp only [evs, h x (by simp), ih (fun q hq => h q (by simp [hq]))]

theorem opA_congr {cx : Cx} {e e' : Env} {h : Heap} {o : Op} {K : AV → Heap → Prop} (hq : ∀ x ∈ o.operands, evA e x = evA e' x) : opA cx e h o K = opA cx e' h o K := by
  cases o with
  | move x => simp only [opA, hq x (by simp [Op.operands])]
  | assign x => simp only [opA, hq x (by simp [Op.operands])]
  | pick c a b => simp only [opA, hq c (by simp [Op.operands]), hq a (by simp [Op.operands]), hq b (by simp [Op.operands])]
  | alloc t => rfl
  | box t x => simp only [opA, hq x (by simp [Op.operands])]
  | build t ps => simp only [opA, partsA_congr (e := e) (e' := e') (l := ps.toList) (fun p hp => hq p.2 (by simp [Op.operands]; exact ⟨p.1, by simpa using hp⟩))]
  | buildSlice t n ps => simp only [opA, partsA_congr (e := e) (e' := e') (l := ps.toList) (fun p hp => hq p.2 (by simp [Op.operands]; exact ⟨p.1, by simpa using hp⟩))]
  | load t a => simp only [opA, hq a (by simp [Op.operands])]
  | store t a x => simp only [opA, hq a (by simp [Op.operands]), hq x (by simp [Op.operands])]
  | nilCheck x => simp only [opA, hq x (by simp [Op.operands])]
  | binOp op t x y yt => simp only [opA, hq x (by simp [Op.operands]), hq y (by simp [Op.operands])]
  | unOp op t x => simp only [opA, hq x (by simp [Op.operands])]
  | convert a b x => simp only [opA, hq x (by simp [Op.operands])]
  | makeInterface t x => simp only [opA, hq x (by simp [Op.operands])]
  | makeFunc fn first caps => simp only [opA, evs_congr (e := e) (e' := e') (l := caps.toList) (fun x hx => hq x (by simp [Op.operands]; exact .inr (by simpa using hx)))]
  | makeMap t r => rfl
  | slice t x lo hi mx =>
    have h0 := hq x (by simp [Op.operands])
    have h1 : ∀ a, lo = some a → evA e a = evA e' a := fun a ha => hq a (by simp [Op.operands, ha])
    have h2 : ∀ a, hi = some a → evA e a = evA e' a := fun a ha => hq a (by simp [Op.operands, ha])
    have h3 : ∀ a, mx = some a → evA e a = evA e' a := fun a ha => hq a (by simp [Op.operands, ha])
    cases lo <;> cases hi <;> cases mx <;> simp_all [opA, opdD]
  | fieldAddr t x f => simp only [opA, hq x (by simp [Op.operands])]
  | field t x f => simp only [opA, hq x (by simp [Op.operands])]
  | indexAddr t x i => simp only [opA, hq x (by simp [Op.operands]), hq i (by simp [Op.operands])]
  | index t x i => simp only [opA, hq x (by simp [Op.operands]), hq i (by simp [Op.operands])]
  | lookup t m k ok => simp only [opA, hq m (by simp [Op.operands]), hq k (by simp [Op.operands])]
  | mapUpdate t m k v => simp only [opA, hq m (by simp [Op.operands]), hq k (by simp [Op.operands]), hq v (by simp [Op.operands])]
  | range t x => simp only [opA, hq x (by simp [Op.operands])]
  | next it b => cases b <;> simp only [opA, nextStrA, nextMapA, hq it (by simp [Op.operands])]
  | entry it => simp only [opA, entryMapA, hq it (by simp [Op.operands])]
  | typeAssert x a b ok => simp only [opA, hq x (by simp [Op.operands])]
  | extract x i => simp only [opA, hq x (by simp [Op.operands])]
  | call c =>
    have ha : ∀ x ∈ c.args.toList, evA e x = evA e' x := fun x hx => hq x (by simp [Op.operands, Call.operands]; exact .inr (by simpa using hx))
    simp only [opA, callA]
    cases hc : c.callee with
    | builtin b =>
      simp only [builtinA]
      cases b <;> simp only [evs_congr ha]
      all_goals (first | rfl | (generalize c.argTypes.toList = ts; generalize hl : c.args.toList = l at ha; (repeat' (first | rfl | (split <;> simp_all)))))
    | value f =>
      have hf : evA e f = evA e' f := hq f (by simp [Op.operands, Call.operands, hc])
      simp only [hf, evs_congr ha]
    | invoke r m => rfl
  | _ => rfl


/-- A quiet operation, in a heap that agrees on what its operands name. -/
theorem opA_heap {cx : Cx} {e : Env} {h h' : Heap} {o : Op} (hc : clsOf o = .quiet) {K : AV → Prop}
    (hg : ∀ x ∈ o.operands, ∀ id, ((∃ off, evA e x = .ptr id off) ∨ evA e x = .map id) → hget h' id = hget h id) (hk : opA cx e h o fun v _ => K v) : opA cx e h' o fun v _ => K v := by
  cases o <;> simp only [clsOf, reduceCtorEq] at hc <;> try exact hk
  case load t a =>
    simp only [opA] at hk ⊢
    obtain ⟨ti, hti, hk⟩ := hasTy_elim hk
    have : hasTy cx t = fun K => K ti := by funext K; simp [hasTy, hti]
    rw [this]
    show loadA cx ti (evA e a) h' K
    unfold loadA at hk ⊢
    split at hk <;> try exact hk
    rename_i i o hv
    rw [hg a (by simp [Op.operands]) i (.inl ⟨o, hv⟩)]
    exact hk
  case lookup t m k ok =>
    simp only [opA] at hk ⊢
    obtain ⟨ti, hti, hk⟩ := hasTy_elim hk
    have : hasTy cx t = fun K => K ti := by funext K; simp [hasTy, hti]
    rw [this]
    show (match toD (evA e k) with | some d => lookupA cx ti (evA e m) d ok h' K | none => False)
    split at hk <;> try exact hk.elim
    rename_i d hd
    try simp only [hd]
    unfold lookupA at hk ⊢
    split at hk <;> try exact hk
    rename_i kt et _
    obtain ⟨te, hte, hk⟩ := hasTy_elim hk
    have : hasTy cx et = fun K => K te := by funext K; simp [hasTy, hte]
    rw [this]
    simp only
    split at hk <;> try exact hk
    rename_i id hv
    rw [hg m (by simp [Op.operands]) id (.inr hv)]
    exact hk
  case call c =>
    obtain ⟨callee, args, ts⟩ := c
    cases callee with
    | value f => simp at hc
    | invoke r m => simp at hc
    | builtin b =>
      cases b <;> simp only [reduceCtorEq] at hc <;> try exact hk
      simp only [opA, callA, builtinA] at hk ⊢
      split at hk <;> try exact hk.elim
      rename_i t x hts hargs
      obtain ⟨ti, hti, hk⟩ := hasTy_elim hk
      have : hasTy cx t = fun K => K ti := by funext K; simp [hasTy, hti]
      rw [this]
      show lenA ti (evA e x) h' K
      unfold lenA at hk ⊢
      split at hk <;> try exact hk
      split at hk <;> try exact hk
      rename_i id hv
      have hm : args = #[x] := by apply Array.ext'; simpa using hargs
      rw [hg x (by simp [Op.operands, Call.operands, hm]) id (.inr hv)]
      exact hk

end Go.Abs
