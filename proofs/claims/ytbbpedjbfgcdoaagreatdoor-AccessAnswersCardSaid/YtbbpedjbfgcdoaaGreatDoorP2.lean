/- A part of the proof behind the last text of this folder: AbsMaps, AbsApp, AbsStep5, AbsStep6. -/
import Derived.Test.YtbbpedjbfgcdoaaGreatDoorP1
import Derived.Laws.Strings
set_option linter.unusedSimpArgs false
set_option linter.unusedSectionVars false

namespace Go.Abs

/-! Maps. -/
def findE {α : Type} (es : List (DV × α)) (k : DV) : Option (Option α) := match es with
  | [] => some none
  | (k', a) :: r => match keyEq k k' with
    | some true => some (some a)
    | some false => findE r k
    | none => none
/-- Written: in its place, or at the end. -/
def insE {α : Type} (es : List (DV × α)) (k : DV) (v : α) : List (DV × α) := match es with
  | [] => [(k, v)]
  | (k', a) :: r => match keyEq k k' with
    | some true => (k, v) :: r
    | _ => (k', a) :: insE r k v
def delE {α : Type} (es : List (DV × α)) (k : DV) : List (DV × α) := match es with
  | [] => []
  | (k', a) :: r => match keyEq k k' with
    | some true => r
    | _ => (k', a) :: delE r k

/-- May it be a key of this type? -/
def kindD : CK → DV → Bool
  | .int k, .int k' _ => kEq k k'
  | .str, .str _ => true
  | .bool, .bool _ => true
  | _, _ => false
def kindsD : List CK → List DV → Bool
  | [], [] => true
  | k :: ks, d :: ds => match kindD k d with
    | true => kindsD ks ds
    | false => false
  | _, _ => false
def keyB (cx : Cx) (kt : Nat) (k : DV) : Bool := match cx.T kt with
  | some ti => match ti.k with
    | .int _ => match k with
      | .int _ _ => true
      | _ => false
    | .str => match k with
      | .str _ => true
      | _ => false
    | .st _ => match k with
      | .agg cs => match cx.S kt with
        | some ks => kindsD ks cs
        | none => false
      | _ => false
    | _ => false
  | none => false
def keyA (cx : Cx) (kt : Nat) (k : DV) (K : Prop) : Prop := match keyB cx kt k with
  | true => K
  | false => False
theorem keyA_elim {cx : Cx} {kt : Nat} {k : DV} {K : Prop} (h : keyA cx kt k K) : keyB cx kt k = true ∧ K := by
  unfold keyA at h; split at h
  · exact ⟨by assumption, h⟩
  · exact h.elim

theorem kindD_ok {I : Nat → Prop} {w : World} {k : CK} {d : DV} {v : Value} (h : kindD k d = true) (hr : RelD I w d v) : k.ok v := by
  cases k <;> cases d <;> simp [kindD, kEq_iff] at h <;> simp only [RelD] at hr <;> subst hr <;> simp [CK.ok, h]
theorem kindsD_ok {I : Nat → Prop} {w : World} : ∀ {ks : List CK} {ds : List DV} {vs : List Value}, kindsD ks ds = true → ds.length = vs.length → RelDs I w ds vs → kindsV ks vs
  | [], [], [], _, _, _ => trivial
  | [], [], _ :: _, _, h, _ => by simp at h
  | k :: ks, d :: ds, v :: vs, h, hl, hr => by
    simp only [kindsD] at h
    split at h
    · rename_i hk
      simp only [RelDs] at hr
      exact ⟨kindD_ok hk hr.1, kindsD_ok h (by simpa using hl) hr.2⟩
    · cases h
  | _ :: _, _ :: _, [], _, h, _ => by simp at h
  | [], _ :: _, _, h, _, _ => by simp [kindsD] at h
  | _ :: _, [], _, h, _, _ => by simp [kindsD] at h

theorem keyEq1_kind {k : CK} {x y : DV} {r : Bool} (h : kindD k x = true) (he : keyEq1 x y = some r) : kindD k y = true := by
  cases k <;> cases x <;> simp [kindD] at h <;> cases y <;> simp [keyEq1] at he <;> simp [kindD]
  split at he
  · rename_i h2; rw [kEq_iff] at *; subst h; exact h2
  · cases he
theorem keyEqs_kinds : ∀ {ks : List CK} {xs ys : List DV} {r : Bool}, kindsD ks xs = true → keyEqs xs ys = some r → kindsD ks ys = true
  | [], [], [], _, _, _ => rfl
  | [], [], _ :: _, _, _, h => by simp [keyEqs] at h
  | k :: ks, x :: xs, [], _, _, h => by simp [keyEqs] at h
  | k :: ks, x :: xs, y :: ys, r, hk, h => by
    simp only [kindsD] at hk
    split at hk
    · rename_i h1
      simp only [keyEqs] at h
      split at h
      · rename_i a b ha hb
        simp only [kindsD, keyEq1_kind h1 ha]
        exact keyEqs_kinds hk hb
      · cases h
    · cases hk
  | [], _ :: _, _, _, h, _ => by simp [kindsD] at h
  | _ :: _, [], _, _, h, _ => by simp [kindsD] at h

theorem keyEq1_eq1 {I : Nat → Prop} {w : World} {x y : DV} {r : Bool} {v u : Value} (h : keyEq1 x y = some r) (hx : RelD I w x v) (hy : RelD I w y u) : eq1 v u = r := by
  cases x <;> cases y <;> simp [keyEq1] at h <;> simp only [RelD] at hx hy <;> subst hx hy
  · split at h
    · simpa [eq1] using h
    · cases h
  · simpa [eq1] using h
  · simpa [eq1] using h
theorem keyEqs_eqV {I : Nat → Prop} {w : World} : ∀ {xs ys : List DV} {r : Bool} {vs us : List Value}, keyEqs xs ys = some r → xs.length = vs.length → ys.length = us.length → RelDs I w xs vs → RelDs I w ys us → eqV vs us = r
  | [], [], r, [], [], h, _, _, _, _ => by simpa [keyEqs, eqV] using h
  | x :: xs, y :: ys, r, v :: vs, u :: us, h, h1, h2, hx, hy => by
    simp only [keyEqs] at h
    split at h
    · rename_i a b ha hb
      simp only [RelDs] at hx hy
      simp only [Option.some.injEq] at h; subst h
      simp only [eqV, keyEq1_eq1 ha hx.1 hy.1, keyEqs_eqV hb (by simpa using h1) (by simpa using h2) hx.2 hy.2]
    · cases h
  | [], _ :: _, _, _, _, h, _, _, _, _ => by simp [keyEqs] at h
  | _ :: _, [], _, _, _, h, _, _, _, _ => by simp [keyEqs] at h
  | [], [], _, _ :: _, _, _, h, _, _, _ => by simp at h
  | [], [], _, [], _ :: _, _, _, h, _, _ => by simp at h
  | _ :: _, _ :: _, _, [], _, _, h, _, _, _ => by simp at h
  | _ :: _, _ :: _, _, _ :: _, [], _, _, h, _, _ => by simp at h

/-- What is found among the entries, and where. -/
def At {α : Type} (R : α → Value → Prop) (p : Nat) (r : Option α) (x : Option (Nat × Value)) : Prop := match r, x with
  | none, none => True
  | some a, some (j, v) => j = p ∧ R a v
  | _, _ => False
def posE {α : Type} (es : List (DV × α)) (k : DV) : Nat := match es with
  | [] => 0
  | (k', _) :: r => match keyEq k k' with
    | some true => 0
    | _ => posE r k + 1

/-- How a key's equation with each entry's key comes out of the model. -/
structure KeyRun (P : Program) (kt : Nat) (s : Wd) (k : DV) (kv : Value) : Prop where
  check : ∀ b w, (Instr.checkKey b 10000 kt kv).run P w = .ok () w
  eq : (∃ d, P.underlying kt = some d ∧ (∀ k' u r, keyEq k k' = some r → RelD s.I s.w k' u → Instr.sameNow d kv u = some r)) ∨
    (∃ d, P.underlying kt = some d ∧ (∀ u, Instr.sameNow d kv u = none) ∧ (∀ k' u r w, keyEq k k' = some r → RelD s.I s.w k' u → (Op.equal kt kv u).run P w = .ok r w))
  bits : ∀ k' u, keyEq k k' = some true → RelD s.I s.w k' u → Instr.sameBits 10000 u kv = true

theorem ba_beq (a b : ByteArray) : (a == b) = true ↔ a = b := by
  cases a with | mk x => cases b with | mk y =>
  constructor
  · intro h
    have h2 : (x == y) = true := h
    rw [eq_of_beq h2]
  · intro h
    cases h
    exact (beq_self_eq_true x)
theorem eq1_bits {v u : Value} (n : Nat) {k : CK} (hv : k.ok v) (hu : k.ok u) (h : eq1 v u = true) : Instr.sameBits n u v = true := by
  cases k with
  | int k =>
    obtain ⟨a, rfl⟩ := hv; obtain ⟨b, rfl⟩ := hu
    simp only [eq1, beq_iff_eq] at h; subst h
    simp [Instr.sameBits]
  | str =>
    obtain ⟨a, rfl⟩ := hv; obtain ⟨b, rfl⟩ := hu
    simp only [eq1, ba_beq] at h; subst h
    simp only [Instr.sameBits, ba_beq]
  | bool =>
    obtain ⟨a, rfl⟩ := hv; obtain ⟨b, rfl⟩ := hu
    simp only [eq1, beq_iff_eq] at h; subst h
    simp only [Instr.sameBits, beq_self_eq_true]
theorem eqV_bits (n : Nat) : ∀ {ks : List CK} {vs us : List Value}, kindsV ks vs → kindsV ks us → eqV vs us = true → us.length = vs.length ∧ (us.zip vs).all (fun (x, y) => Instr.sameBits n x y) = true
  | [], [], [], _, _, _ => by simp
  | k :: ks, v :: vs, u :: us, hv, hu, h => by
    simp only [eqV, Bool.and_eq_true] at h
    obtain ⟨h1, h2⟩ := eqV_bits n hv.2 hu.2 h.2
    refine ⟨by simp [h1], ?_⟩
    simp only [List.zip_cons_cons, List.all_cons, Bool.and_eq_true]
    exact ⟨eq1_bits n hv.1 hu.1 h.1, h2⟩
  | [], _ :: _, _, h, _, _ => by simp [kindsV] at h
  | [], [], _ :: _, _, h, _ => by simp [kindsV] at h
  | _ :: _, [], _, h, _, _ => by simp [kindsV] at h
  | _ :: _, _ :: _, [], _, h, _ => by simp [kindsV] at h

theorem checkKey_int {P : Program} {kt : Nat} {k k' : IntKind} {a : Int} (hu : P.underlying kt = some (.int k)) (b : Bool) (n : Nat) (w : World) : (Instr.checkKey b (n + 1) kt (.int k' a)).run P w = .ok () w := by
  simp [Instr.checkKey, run_underlying hu]
theorem checkKey_str {P : Program} {kt : Nat} {a : ByteArray} (hu : P.underlying kt = some .string) (b : Bool) (n : Nat) (w : World) : (Instr.checkKey b (n + 1) kt (.string a)).run P w = .ok () w := by
  simp [Instr.checkKey, run_underlying hu]
theorem keyRun {cx : Cx} (ok : CxOK cx) {kt : Nat} {k : DV} {K : Prop} (h : keyA cx kt k K) {s : Wd} {kv : Value} (hr : RelD s.I s.w k kv) : KeyRun cx.P kt s k kv ∧ K := by
  obtain ⟨hb, hK⟩ := keyA_elim h
  unfold keyB at hb
  split at hb <;> try cases hb
  rename_i ti hti
  obtain ⟨info, desc, z, hi, hu, _, _, _, _, hk⟩ := ok.types kt ti hti
  split at hb <;> try cases hb
  · rename_i ik hk'
    split at hb <;> try cases hb
    rename_i k' n
    rw [hk'] at hk
    obtain rfl := tk_int hk
    simp only [RelD] at hr; subst hr
    refine ⟨⟨fun b w => checkKey_int hu b 9999 w, .inl ⟨_, hu, fun k2 u r he hr2 => ?_⟩, fun k2 u he hr2 => ?_⟩, hK⟩
    · cases k2 <;> simp [keyEq, keyEq1] at he
      simp only [RelD] at hr2; subst hr2
      split at he
      · rename_i h2; rw [kEq_iff] at h2; subst h2
        simpa [Instr.sameNow] using he
      · cases he
    · cases k2 <;> simp [keyEq, keyEq1] at he
      simp only [RelD] at hr2; subst hr2
      split at he
      · rename_i h2; rw [kEq_iff] at h2; subst h2
        exact eq1_bits 10000 (k := .int k') ⟨_, rfl⟩ ⟨_, rfl⟩ (by simpa [eq1] using he)
      · cases he
  · rename_i hk'
    split at hb <;> try cases hb
    rename_i str
    rw [hk'] at hk
    obtain rfl := tk_str hk
    simp only [RelD] at hr; subst hr
    refine ⟨⟨fun b w => checkKey_str hu b 9999 w, .inl ⟨_, hu, fun k2 u r he hr2 => ?_⟩, fun k2 u he hr2 => ?_⟩, hK⟩
    · cases k2 <;> simp [keyEq, keyEq1] at he
      simp only [RelD] at hr2; subst hr2
      simpa [Instr.sameNow] using he
    · cases k2 <;> simp [keyEq, keyEq1] at he
      simp only [RelD] at hr2; subst hr2
      exact eq1_bits 10000 (k := .str) ⟨_, rfl⟩ ⟨_, rfl⟩ (by simpa [eq1] using he)
  · rename_i fs hk'
    split at hb <;> try cases hb
    rename_i cs
    split at hb <;> try cases hb
    rename_i ks hks
    have hkd := hb
    have so := ok.structs kt ks hks
    simp only [RelD] at hr
    obtain ⟨vs, rfl, hl, hrel⟩ := hr
    have hkv := kindsD_ok hkd (by simpa using hl) hrel
    have other : ∀ k2 u r, keyEq (.agg cs) k2 = some r → RelD s.I s.w k2 u → ∃ us, u = .agg us ∧ kindsV ks us.toList ∧ eqV vs.toList us.toList = r := by
      intro k2 u r he hr2
      cases k2 <;> simp [keyEq, keyEq1] at he
      simp only [RelD] at hr2
      obtain ⟨us, rfl, hl2, hrel2⟩ := hr2
      exact ⟨us, rfl, kindsD_ok (keyEqs_kinds hkd he) (by simpa using hl2) hrel2, keyEqs_eqV he (by simpa using hl) (by simpa using hl2) hrel hrel2⟩
    obtain ⟨fields, hdesc⟩ := so.desc
    refine ⟨⟨fun b w => so.check b vs w hkv, .inr ⟨_, hdesc, fun u => by cases u <;> simp [Instr.sameNow], fun k2 u r w he hr2 => ?_⟩, fun k2 u he hr2 => ?_⟩, hK⟩
    · obtain ⟨us, rfl, h1, h2⟩ := other k2 u r he hr2
      rw [so.eq vs us w hkv h1, h2]
    · obtain ⟨us, rfl, h1, h2⟩ := other k2 u true he hr2
      obtain ⟨e1, e2⟩ := eqV_bits 9999 hkv h1 h2
      simp only [Instr.sameBits, Bool.and_eq_true, beq_iff_eq]
      exact ⟨by simpa using e1, by simpa using e2⟩

/-- Where a key stands. -/
theorem findNow_run {α : Type} {R : α → Value → Prop} {s : Wd} {d : TypeDesc} {k : DV} {kv : Value} (hd : ∀ k' u r, keyEq k k' = some r → RelD s.I s.w k' u → Instr.sameNow d kv u = some r) :
    ∀ (es : List (DV × α)) (l : List MapEntry) (i : Nat) (r : Option α), RelE R s es l → findE es k = some r → ∃ x, Instr.findNow d kv l i = some x ∧ At R (i + posE es k) r x
  | [], [], i, r, _, h => by simp [findE] at h; subst h; exact ⟨none, rfl, trivial⟩
  | (k', a) :: es, e :: l, i, r, hr, h => by
    simp only [findE] at h
    simp only [RelE] at hr
    split at h
    · rename_i hk
      simp only [Option.some.injEq] at h; subst h
      exact ⟨some (i, e.val), by simp only [Instr.findNow, hd k' e.key true hk hr.1.1], by simp [At, posE, hk, hr.1.2]⟩
    · rename_i hk
      obtain ⟨x, h1, h2⟩ := findNow_run hd es l (i + 1) r hr.2 h
      exact ⟨x, by simp only [Instr.findNow, hd k' e.key false hk hr.1.1]; exact h1, by simp only [posE, hk]; rw [show i + (posE es k + 1) = i + 1 + posE es k from by omega]; exact h2⟩
    · cases h
  | [], _ :: _, _, _, h, _ => h.elim
  | _ :: _, [], _, _, h, _ => h.elim
theorem findAsking_run {α : Type} {R : α → Value → Prop} {P : Program} {s : Wd} {kt : Nat} {k : DV} {kv : Value} (hd : ∀ k' u r w, keyEq k k' = some r → RelD s.I s.w k' u → (Op.equal kt kv u).run P w = .ok r w) :
    ∀ (es : List (DV × α)) (l : List MapEntry) (i : Nat) (r : Option α) (w : World), RelE R s es l → findE es k = some r → ∃ x, (Instr.findAsking kt kv l i).run P w = .ok x w ∧ At R (i + posE es k) r x
  | [], [], i, r, w, _, h => by simp [findE] at h; subst h; exact ⟨none, by simp [Instr.findAsking], trivial⟩
  | (k', a) :: es, e :: l, i, r, w, hr, h => by
    simp only [findE] at h
    simp only [RelE] at hr
    split at h
    · rename_i hk
      simp only [Option.some.injEq] at h; subst h
      exact ⟨some (i, e.val), by simp [Instr.findAsking, hd k' e.key true w hk hr.1.1], by simp [At, posE, hk, hr.1.2]⟩
    · rename_i hk
      obtain ⟨x, h1, h2⟩ := findAsking_run hd es l (i + 1) r w hr.2 h
      exact ⟨x, by simp [Instr.findAsking, hd k' e.key false w hk hr.1.1, h1], by simp only [posE, hk]; rw [show i + (posE es k + 1) = i + 1 + posE es k from by omega]; exact h2⟩
    · cases h
  | [], _ :: _, _, _, _, h, _ => h.elim
  | _ :: _, [], _, _, _, h, _ => h.elim
theorem findKey_run {α : Type} {R : α → Value → Prop} {P : Program} {s : Wd} {kt : Nat} {k : DV} {kv : Value} (kr : KeyRun P kt s k kv) (es : List (DV × α)) (l : List MapEntry) (r : Option α) (w : World)
    (hr : RelE R s es l) (h : findE es k = some r) : ∃ x, (Instr.findKey kt kv l).run P w = .ok x w ∧ At R (posE es k) r x := by
  rcases kr.eq with ⟨d, hu, hd⟩ | ⟨d, hu, hn, hd⟩
  · obtain ⟨x, h1, h2⟩ := findNow_run hd es l 0 r hr h
    exact ⟨x, by simp [Instr.findKey, run_underlying hu, h1], by simpa using h2⟩
  · cases l with
    | nil =>
      cases es with
      | nil => simp [findE] at h; subst h; exact ⟨none, by simp [Instr.findKey, run_underlying hu, Instr.findNow], trivial⟩
      | cons x r => cases x; exact hr.elim
    | cons e l =>
      obtain ⟨x, h1, h2⟩ := findAsking_run hd es (e :: l) 0 r w hr h
      exact ⟨x, by simp [Instr.findKey, run_underlying hu, Instr.findNow, hn, h1], by simpa using h2⟩

theorem relE_length {α : Type} {R : α → Value → Prop} {s : Wd} : ∀ {es : List (DV × α)} {l : List MapEntry}, RelE R s es l → es.length = l.length
  | [], [], _ => rfl
  | (_, _) :: r, _ :: t, h => by simp [relE_length h.2]
  | [], _ :: _, h => h.elim
  | _ :: _, [], h => h.elim

/-- Written: found at its place. -/
theorem relE_ins {α : Type} {R : α → Value → Prop} {s : Wd} {k : DV} {kv uv : Value} {a : α} (hk : RelD s.I s.w k kv) (ha : R a uv) :
    ∀ (es : List (DV × α)) (l : List MapEntry) (r : α), RelE R s es l → findE es k = some (some r) → posE es k < l.length ∧
      RelE R s (insE es k a) (l.modify (posE es k) fun e => { e with key := kv, val := uv })
  | [], _, _, _, h => by simp [findE] at h
  | (k', a') :: es, e :: l, r, hr, h => by
    simp only [findE] at h
    split at h
    · rename_i he
      simp only [insE, posE, he]
      exact ⟨by simp, by simp only [List.modify_zero_cons]; exact ⟨⟨hk, ha⟩, hr.2⟩⟩
    · rename_i he
      obtain ⟨h1, h2⟩ := relE_ins hk ha es l r hr.2 h
      simp only [insE, posE, he]
      exact ⟨by simp; exact h1, by simp only [List.modify_succ_cons]; exact ⟨hr.1, h2⟩⟩
    · cases h
  | _ :: _, [], _, h, _ => h.elim
/-- Written: a new one. -/
theorem relE_new {α : Type} {R : α → Value → Prop} {s : Wd} {k : DV} {kv uv : Value} {a : α} (hk : RelD s.I s.w k kv) (ha : R a uv) (b : Nat) :
    ∀ (es : List (DV × α)) (l : List MapEntry), RelE R s es l → findE es k = some none → RelE R s (insE es k a) (l ++ [{ key := kv, val := uv, born := b }])
  | [], [], _, _ => ⟨⟨hk, ha⟩, trivial⟩
  | (k', a') :: es, e :: l, hr, h => by
    simp only [findE] at h
    split at h
    · simp at h
    · rename_i he
      simp only [insE, he]
      exact ⟨hr.1, relE_new hk ha b es l hr.2 h⟩
    · cases h
  | [], _ :: _, h, _ => h.elim
  | _ :: _, [], h, _ => h.elim
/-- Deleted. -/
theorem relE_del {α : Type} {R : α → Value → Prop} {s : Wd} {k : DV} :
    ∀ (es : List (DV × α)) (l : List MapEntry) (r : α), RelE R s es l → findE es k = some (some r) → RelE R s (delE es k) (l.eraseIdx (posE es k))
  | [], _, _, _, h => by simp [findE] at h
  | (k', a') :: es, e :: l, r, hr, h => by
    simp only [findE] at h
    split at h
    · rename_i he
      simp only [delE, posE, he, List.eraseIdx_cons_zero]
      exact hr.2
    · rename_i he
      simp only [delE, posE, he, List.eraseIdx_cons_succ]
      exact ⟨hr.1, relE_del es l r hr.2 h⟩
    · cases h
  | _ :: _, [], _, h, _ => h.elim
theorem del_none {α : Type} {k : DV} : ∀ (es : List (DV × α)), findE es k = some none → delE es k = es
  | [], _ => rfl
  | (k', a') :: es, h => by
    simp only [findE] at h
    split at h
    · simp at h
    · rename_i he; simp only [delE, he, del_none es h]
    · cases h

inductive LookA {α : Type} (es : List (DV × α)) (k : DV) (K : Option α → Prop) : Prop where
  | mk (r : Option α) (h : findE es k = some r) (k : K r)
theorem lookA {α : Type} {es : List (DV × α)} {k : DV} {K : Option α → Prop} (r : Option α) (h : findE es k = some r) (hk : K r) : LookA es k K := ⟨r, h, hk⟩

/-- Data, where it is. -/
def toD1 : AV → Option DV
  | .dat d => some d
  | .iface t (.dat d) => some (.iface t d)
  | _ => none
def toDs : List AV → Option (List DV)
  | [] => some []
  | c :: r => match toD1 c, toDs r with
    | some d, some ds => some (d :: ds)
    | _, _ => none
def toD : AV → Option DV
  | .agg cs => match toDs cs with
    | some ds => some (.agg ds)
    | none => none
  | v => toD1 v
theorem toD1_rel {s : Wd} {a : AV} {d : DV} {v : Value} (h : toD1 a = some d) (hr : Rel s a v) : RelD s.I s.w d v := by
  unfold toD1 at h
  split at h
  · cases h; simpa [Rel] using hr
  · cases h; simp only [Rel] at hr; simpa only [RelD] using hr
  · cases h
theorem toDs_rel {s : Wd} : ∀ {cs : List AV} {ds : List DV} {vs : List Value}, toDs cs = some ds → Rels s cs vs → RelDs s.I s.w ds vs ∧ ds.length = cs.length
  | [], ds, vs, h, _ => by simp [toDs] at h; subst h; simp [RelDs]
  | c :: cs, ds, [], _, hr => by simp [Rels] at hr
  | c :: cs, ds, v :: vs, h, hr => by
    simp only [toDs] at h
    split at h
    · rename_i d ds' h1 h2
      cases h
      simp only [Rels] at hr
      obtain ⟨h3, h4⟩ := toDs_rel h2 hr.2
      exact ⟨by simp only [RelDs]; exact ⟨toD1_rel h1 hr.1, h3⟩, by simp [h4]⟩
    · cases h
theorem toD_rel {s : Wd} {a : AV} {d : DV} {v : Value} (h : toD a = some d) (hr : Rel s a v) : RelD s.I s.w d v := by
  unfold toD at h
  split at h
  · split at h
    · rename_i ds hds
      cases h
      simp only [Rel] at hr
      obtain ⟨vs, rfl, h1, h2⟩ := hr
      obtain ⟨h3, h4⟩ := toDs_rel hds h2
      simp only [RelD]
      exact ⟨vs, rfl, by rw [h4, h1], h3⟩
    · cases h
  · exact toD1_rel h hr

/-- What a lookup gives. -/
def lookV (te : TyI) (ok : Bool) (r : Option AV) (K : AV → Prop) : Prop := match ok with
  | true => match r with
    | some v => K (.tup [v, .dat (.bool true)])
    | none => K (.tup [.dat te.zero, .dat (.bool false)])
  | false => match r with
    | some v => K v
    | none => K (.dat te.zero)
def lookupA (cx : Cx) (ti : TyI) (m : AV) (k : DV) (ok : Bool) (h : Heap) (K : AV → Prop) : Prop := match ti.k with
  | .mp kt et => hasTy cx et fun te => match m with
    | .map id => match hget h id with
      | some (.mapD es) => keyA cx kt k (LookA es k fun r => lookV te ok (match r with | some d => some (.dat d) | none => none) K)
      | some (.mapA es) => keyA cx kt k (LookA es k fun r => lookV te ok r K)
      | some (.mapB _ _ es) => keyA cx kt k (LookA es k fun r => lookV te ok r K)
      | _ => False
    | .dat .nilm => keyA cx kt k (lookV te ok none K)
    | _ => False
  | _ => False

theorem lookup_run {cx : Cx} {t kt et : Nat} {te : TyI} (ok : CxOK cx) (hu : cx.P.underlying t = some (.map kt et)) (hte : cx.T et = some te) {s : Wd} {k : DV} {kv : Value} (kr : KeyRun cx.P kt s k kv)
    {α : Type} {R : α → Value → Prop} {es : List (DV × α)} {ents : Array MapEntry} (he : RelE R s es ents.toList) {m : Value} (b : Bool)
    (hm : (m = .map none ∧ ents = #[]) ∨ ∃ n clk, m = .map (some n) ∧ s.w.heap[n]? = some (.map ents clk)) (r : Option α) (hf : findE es k = some r) (f : α → AV) (hRf : ∀ a v, R a v → Rel s (f a) v) {K : AV → Prop}
    (hk : lookV te b (r.map f) K) : ∃ v a, (Instr.lookup t m kv b).run cx.P s.w = .ok v s.w ∧ K a ∧ Rel s a v := by
  obtain ⟨info, desc, z, hi, _, hsz, _, hz, hzr, _⟩ := ok.types et te hte
  obtain ⟨x, hx, hat⟩ := findKey_run kr es ents.toList r s.w he hf
  have hzv : (zeroValue et).run cx.P s.w = .ok z s.w := by simp [zeroValue, typeInfo, hi, hz]
  have key : ∀ v okb, (match x with | some (_, v) => (v, true) | none => (z, false)) = (v, okb) → (Instr.lookup t m kv b).run cx.P s.w = .ok (if b then .tuple #[v, .bool okb] else v) s.w := by
    intro v okb hv
    rcases hm with ⟨rfl, rfl⟩ | ⟨n, clk, rfl, hn⟩
    · simp only [Instr.lookup, Sem.run_bind, run_underlying hu, Result.andThen_ok, Sem.run_pure, kr.check]
      simp only [] at hx
      rw [hx]
      cases x with
      | none => simp only [Result.andThen_ok, Sem.run_bind, hzv, Sem.run_pure]; simp only [Prod.mk.injEq] at hv; rw [← hv.1, ← hv.2]
      | some y => simp only [Result.andThen_ok, Sem.run_bind, Sem.run_pure]; simp only [Prod.mk.injEq] at hv; rw [← hv.1, ← hv.2]
    · have hg : (getObj n).run cx.P s.w = .ok (.map ents clk) s.w := by simp [getObj, Sem.run, hn]
      simp only [Instr.lookup, Sem.run_bind, run_underlying hu, Result.andThen_ok, hg, Sem.run_pure, kr.check]
      rw [hx]
      cases x with
      | none => simp only [Result.andThen_ok, Sem.run_bind, hzv, Sem.run_pure]; simp only [Prod.mk.injEq] at hv; rw [← hv.1, ← hv.2]
      | some y => simp only [Result.andThen_ok, Sem.run_bind, Sem.run_pure]; simp only [Prod.mk.injEq] at hv; rw [← hv.1, ← hv.2]
  have tup : ∀ (a : AV) (v : Value) (o : Bool), Rel s a v → Rel s (.tup [a, .dat (.bool o)]) (.tuple #[v, .bool o]) := fun a v o h => by
    exact ⟨_, rfl, rfl, h, rfl, trivial⟩
  cases r with
  | none =>
    cases x with
    | some y => exact hat.elim
    | none =>
      have := key z false rfl
      cases b with
      | true => exact ⟨_, _, this, hk, tup _ _ _ (by simpa [Rel] using hzr s.I s.w)⟩
      | false => exact ⟨_, _, this, hk, by simpa [Rel] using hzr s.I s.w⟩
  | some a =>
    cases x with
    | none => exact hat.elim
    | some y =>
      obtain ⟨j, v⟩ := y
      have := key v true rfl
      cases b with
      | true => exact ⟨_, _, this, hk, tup _ _ _ (hRf _ _ hat.2)⟩
      | false => exact ⟨_, _, this, hk, hRf _ _ hat.2⟩

theorem lookA_elim {α : Type} {es : List (DV × α)} {k : DV} {K : Option α → Prop} (h : LookA es k K) : ∃ r, findE es k = some r ∧ K r := by obtain ⟨r, h1, h2⟩ := h; exact ⟨r, h1, h2⟩

theorem lookupA_sound {cx : Cx} {t : Nat} {ti : TyI} (ok : CxOK cx) (ht : cx.T t = some ti) {h : Heap} {s : Wd} (sat : Sat cx.toGl h s) {m : AV} {k : DV} {um uk : Value} (hm : Rel s m um) (hk : RelD s.I s.w k uk) (b : Bool)
    {K : AV → Prop} (hl : lookupA cx ti m k b h K) : ∃ v a, (Instr.lookup t um uk b).run cx.P s.w = .ok v s.w ∧ K a ∧ Rel s a v := by
  obtain ⟨info, desc, z, hi, hu, hsz, _, hz, hzr, hkk⟩ := ok.types t ti ht
  unfold lookupA at hl
  split at hl <;> try exact hl.elim
  rename_i kt et hk'
  rw [hk'] at hkk
  obtain rfl := tk_mp hkk
  obtain ⟨te, hte, hl⟩ := hasTy_elim hl
  split at hl <;> try exact hl.elim
  · rename_i id _
    simp only [Rel] at hm
    obtain ⟨n, hρ, rfl⟩ := hm
    split at hl <;> try exact hl.elim
    · rename_i es hg
      obtain ⟨kr, hl⟩ := keyRun ok hl hk
      obtain ⟨n', o, h1, h2, h3, _⟩ := sat.blk id _ hg
      rw [hρ] at h1; cases h1
      obtain ⟨ents, clk, rfl, hre, _⟩ := h3
      obtain ⟨r, hf, hl⟩ := lookA_elim hl
      refine lookup_run ok hu hte kr hre b (.inr ⟨_, _, rfl, h2⟩) r hf (.dat ·) (fun a v h => by simpa [Rel] using h) ?_
      cases r <;> exact hl
    · rename_i es hg
      obtain ⟨kr, hl⟩ := keyRun ok hl hk
      obtain ⟨n', o, h1, h2, h3, _⟩ := sat.blk id _ hg
      rw [hρ] at h1; cases h1
      obtain ⟨ents, clk, rfl, hre, _⟩ := h3
      obtain ⟨r, hf, hl⟩ := lookA_elim hl
      refine lookup_run ok hu hte kr hre b (.inr ⟨_, _, rfl, h2⟩) r hf (fun a => a) (fun a v h => h) ?_
      cases r <;> exact hl
    · rename_i es hg
      obtain ⟨kr, hl⟩ := keyRun ok hl hk
      obtain ⟨n', o, h1, h2, h3, _⟩ := sat.blk id _ hg
      rw [hρ] at h1; cases h1
      obtain ⟨ents, rfl, hre, _⟩ := h3
      obtain ⟨r, hf, hl⟩ := lookA_elim hl
      refine lookup_run ok hu hte kr hre b (.inr ⟨_, _, rfl, h2⟩) r hf (fun a => a) (fun a v h => h) ?_
      cases r <;> exact hl
  · simp only [Rel, RelD] at hm
    subst hm
    obtain ⟨kr, hl⟩ := keyRun ok hl hk
    exact lookup_run ok hu hte kr (es := ([] : List (DV × AV))) (R := Rel s) (ents := #[]) trivial b (.inl ⟨rfl, rfl⟩) none rfl id (fun a v h => h) hl

def updK {α : Type} (es : List (DV × α)) (k : DV) (v : α) (mk : List (DV × α) → AB) (id : Nat) (h : Heap) (K : AV → Heap → Prop) : Prop :=
  ReqA ((findE es k).isSome = true) (K (.dat (.tup [])) (hset h id (some (mk (insE es k v)))))
def liftE (es : List (DV × DV)) : List (DV × AV) := match es with
  | [] => []
  | (k, d) :: r => (k, .dat d) :: liftE r
def updA (cx : Cx) (ti : TyI) (m : AV) (k : DV) (v : AV) (h : Heap) (K : AV → Heap → Prop) : Prop := match ti.k with
  | .mp kt _ => match m with
    | .map id => match hget h id with
      | some (.mapD es) => match toD v with
        | some d => keyA cx kt k (updK es k d .mapD id h K)
        | none => keyA cx kt k (updK (liftE es) k v .mapA id h K)
      | some (.mapA es) => keyA cx kt k (updK es k v .mapA id h K)
      | _ => False
    | _ => False
  | _ => False
theorem relE_lift {s : Wd} : ∀ {es : List (DV × DV)} {l : List MapEntry}, RelE (RelD s.I s.w) s es l → RelE (Rel s) s (liftE es) l
  | [], [], _ => trivial
  | (_, _) :: _, _ :: _, h => ⟨⟨h.1.1, by simpa [Rel] using h.1.2⟩, relE_lift h.2⟩
  | [], _ :: _, h => h.elim
  | _ :: _, [], h => h.elim

theorem upd_run {cx : Cx} {t kt et : Nat} (hu : cx.P.underlying t = some (.map kt et)) {h : Heap} {s : Wd} (sat : Sat cx.toGl h s) {k : DV} {kv uv : Value} (kr : KeyRun cx.P kt s k kv) (hkr : RelD s.I s.w k kv)
    {α : Type} {R : α → Value → Prop} {es : List (DV × α)} {ents : Array MapEntry} {clk : Nat} (he : RelE R s es ents.toList) (hp : (ents.toList.map (·.born)).Pairwise (· < ·)) (hclk : ∀ e ∈ ents.toList, e.born < clk)
    {id n : Nat} {b : AB} (hg : hget h id = some b) (hρ : s.ρ id = some n) (hn : s.w.heap[n]? = some (.map ents clk)) {a : α} (hra : R a uv) (mk : List (DV × α) → AB)
    (hmk : ∀ es o, RelM R s es o → RelB s (mk es) o) {K : AV → Heap → Prop} (hk : updK es k a mk id h K) :
    ∃ w', (Instr.mapUpdate t (.map (some n)) kv uv).run cx.P s.w = .ok () w' ∧ Post cx h s K undef w' := by
  obtain ⟨hf, hk⟩ := reqA_elim hk
  obtain ⟨r, hf⟩ := Option.isSome_iff_exists.1 hf
  obtain ⟨x, hx, hat⟩ := findKey_run kr es ents.toList r s.w he hf
  have hgo : (getObj n).run cx.P s.w = .ok (.map ents clk) s.w := by simp [getObj, Sem.run, hn]
  have hlt : n < s.w.heap.size := (Array.getElem?_eq_some_iff.1 hn).1
  have hset : ∀ o', (setObj n o').run cx.P s.w = .ok () (wput s.w n o') := fun o' => by simp [setObj, Sem.run, hn, wput]
  have fin : ∀ ents' clk', RelM R s (insE es k a) (.map ents' clk') → (Instr.mapUpdate t (.map (some n)) kv uv).run cx.P s.w = .ok () (wput s.w n (.map ents' clk')) →
      ∃ w', (Instr.mapUpdate t (.map (some n)) kv uv).run cx.P s.w = .ok () w' ∧ Post cx h s K undef w' := fun ents' clk' hrm hrun =>
    ⟨_, hrun, _, _, ⟨s.ρ, s.I, wput s.w n (.map ents' clk')⟩, rfl, hk, by simp [Rel, RelD, undef, RelDs], sat_put sat hg hρ hn (mk (insE es k a)) _ (fun _ _ _ h => by cases h) (hmk _ _ hrm), ext_put hg hρ hn _ _ (fun _ _ _ h => by cases h)⟩
  cases r with
  | none =>
    cases x with
    | some y => exact hat.elim
    | none =>
      refine fin (ents.push { key := kv, val := uv, born := clk }) (clk + 1) ⟨_, _, rfl, ?_, ?_, ?_⟩ ?_
      · rw [Array.toList_push]; exact relE_new hkr hra clk es _ he hf
      · rw [Array.toList_push, List.map_append, List.pairwise_append]
        refine ⟨hp, by simp, fun x hx y hy => ?_⟩
        simp only [List.map_cons, List.map_nil, List.mem_singleton] at hy; subst hy
        obtain ⟨e, he', rfl⟩ := List.mem_map.1 hx
        exact hclk e he'
      · intro e he'
        rw [Array.toList_push, List.mem_append] at he'
        rcases he' with he' | he'
        · have := hclk e he'; omega
        · simp at he'; subst he'; simp
      · simp [Instr.mapUpdate, run_underlying hu, hgo, kr.check, hx, hset]
  | some a0 =>
    cases x with
    | none => exact hat.elim
    | some y =>
      obtain ⟨j, v⟩ := y
      obtain ⟨rfl, hav⟩ := hat
      obtain ⟨hlt2, hrel⟩ := relE_ins hkr hra es _ a0 he hf
      have hlt3 : posE es k < ents.size := by simpa using hlt2
      have hbits : Instr.sameBits 10000 (((ents[posE es k]?).map (·.key)).getD kv) kv = true := by
        have : ∀ (es : List (DV × α)) (l : List MapEntry) (r : α), RelE R s es l → findE es k = some (some r) → ∃ e k', l[posE es k]? = some e ∧ keyEq k k' = some true ∧ RelD s.I s.w k' e.key := by
          intro es
          induction es with
          | nil => intro l r _ h; simp [findE] at h
          | cons p es ih =>
            intro l r hr h
            obtain ⟨k', a'⟩ := p
            cases l with
            | nil => exact hr.elim
            | cons e l =>
              simp only [findE] at h
              split at h
              · rename_i he2; exact ⟨e, k', by simp [posE, he2], he2, hr.1.1⟩
              · rename_i he2
                obtain ⟨e', k2, h1, h2⟩ := ih l r hr.2 h
                exact ⟨e', k2, by simpa [posE, he2] using h1, h2⟩
              · cases h
        obtain ⟨e, k', h1, h2, h3⟩ := this es ents.toList a0 he hf
        have h1' : ents[posE es k]? = some e := by simpa using h1
        rw [h1']
        exact kr.bits k' e.key h2 h3
      have hstay : ∀ w, (Instr.keyThatStays (((ents[posE es k]?).map (·.key)).getD kv) kv).run cx.P w = .ok kv w := fun w => by simp [Instr.keyThatStays, hbits]
      have hborn : ((ents.modify (posE es k) fun e => { e with key := kv, val := uv }).toList.map (·.born)) = ents.toList.map (·.born) := by
        apply List.ext_getElem?
        intro i
        simp only [List.getElem?_map, Array.getElem?_toList, Array.getElem?_modify]
        split
        · cases ents[i]? <;> simp
        · rfl
      refine fin (ents.modify (posE es k) fun e => { e with key := kv, val := uv }) clk ⟨_, _, rfl, ?_, ?_, ?_⟩ ?_
      · rw [Array.toList_modify]; exact hrel
      · rw [hborn]; exact hp
      · intro e he'
        have : e.born ∈ (ents.modify (posE es k) fun e => { e with key := kv, val := uv }).toList.map (·.born) := List.mem_map.2 ⟨e, he', rfl⟩
        rw [hborn] at this
        obtain ⟨e2, h2, h3⟩ := List.mem_map.1 this
        have := hclk e2 h2; omega
      · simp only [Instr.mapUpdate, Sem.run_bind, run_underlying hu, Result.andThen_ok, hgo, kr.check, hx, hstay, hset]

theorem updA_sound {cx : Cx} {t : Nat} {ti : TyI} (ok : CxOK cx) (ht : cx.T t = some ti) {h : Heap} {s : Wd} (sat : Sat cx.toGl h s) {m v : AV} {k : DV} {um uk uv : Value} (hm : Rel s m um) (hk : RelD s.I s.w k uk) (hv : Rel s v uv)
    {K : AV → Heap → Prop} (hl : updA cx ti m k v h K) : ∃ w', (Instr.mapUpdate t um uk uv).run cx.P s.w = .ok () w' ∧ Post cx h s K undef w' := by
  obtain ⟨info, desc, z, hi, hu, hsz, _, hz, hzr, hkk⟩ := ok.types t ti ht
  unfold updA at hl
  split at hl <;> try exact hl.elim
  rename_i kt et hk'
  rw [hk'] at hkk
  obtain rfl := tk_mp hkk
  split at hl <;> try exact hl.elim
  rename_i id
  simp only [Rel] at hm
  obtain ⟨n, hρ, rfl⟩ := hm
  split at hl <;> try exact hl.elim
  · rename_i es hg
    obtain ⟨n', o, h1, h2, h3, _⟩ := sat.blk id _ hg
    rw [hρ] at h1; cases h1
    obtain ⟨ents, clk, rfl, hre, hp, hc⟩ := h3
    split at hl
    · rename_i d hd
      obtain ⟨kr, hl⟩ := keyRun ok hl hk
      exact upd_run hu sat kr hk hre hp hc hg hρ h2 (toD_rel hd hv) .mapD (fun es o h => h) hl
    · obtain ⟨kr, hl⟩ := keyRun ok hl hk
      exact upd_run hu sat kr hk (relE_lift hre) hp hc hg hρ h2 hv .mapA (fun es o h => h) hl
  · rename_i es hg
    obtain ⟨n', o, h1, h2, h3, _⟩ := sat.blk id _ hg
    rw [hρ] at h1; cases h1
    obtain ⟨ents, clk, rfl, hre, hp, hc⟩ := h3
    obtain ⟨kr, hl⟩ := keyRun ok hl hk
    exact upd_run hu sat kr hk hre hp hc hg hρ h2 hv .mapA (fun es o h => h) hl

/-! Deletion. -/
def delK {α : Type} (es : List (DV × α)) (k : DV) (mk : List (DV × α) → AB) (id : Nat) (h : Heap) (K : AV → Heap → Prop) : Prop :=
  ReqA ((findE es k).isSome = true) (K (.dat (.tup [])) (hset h id (some (mk (delE es k)))))
def mdelA (cx : Cx) (ti : TyI) (m : AV) (k : DV) (h : Heap) (K : AV → Heap → Prop) : Prop := match ti.k with
  | .mp kt _ => match m with
    | .map id => match hget h id with
      | some (.mapD es) => keyA cx kt k (delK es k .mapD id h K)
      | some (.mapA es) => keyA cx kt k (delK es k .mapA id h K)
      | some (.mapB bs clk es) => keyA cx kt k (delK es k (.mapB (bs.eraseIdx (posE es k)) clk) id h K)
      | _ => False
    | _ => False
  | _ => False
theorem pos_none {α : Type} {k : DV} : ∀ (es : List (DV × α)), findE es k = some none → posE es k = es.length
  | [], _ => rfl
  | (k', a) :: r, h => by
    simp only [findE] at h
    simp only [posE]
    split at h
    · cases h
    · rename_i hk; rw [hk]; simp only [List.length_cons]; rw [pos_none r h]
    · cases h
theorem map_eraseIdx' {α β : Type} (f : α → β) : ∀ (l : List α) (i : Nat), (l.eraseIdx i).map f = (l.map f).eraseIdx i
  | [], _ => rfl
  | _ :: _, 0 => rfl
  | x :: r, i + 1 => by simp [List.eraseIdx_cons_succ, map_eraseIdx' f r i]
theorem del_run {cx : Cx} {t kt et ty : Nat} {ts : Array TypeId} (hts : ts[0]? = some t) (hu : cx.P.underlying t = some (.map kt et)) {h : Heap} {s : Wd} (sat : Sat cx.toGl h s) {k : DV} {kv : Value} (kr : KeyRun cx.P kt s k kv)
    {α : Type} {R : α → Value → Prop} {es : List (DV × α)} {ents : Array MapEntry} {clk : Nat} (he : RelE R s es ents.toList)
    {id n : Nat} {b : AB} (hg : hget h id = some b) (hρ : s.ρ id = some n) (hn : s.w.heap[n]? = some (.map ents clk)) (mk : List (DV × α) → AB)
    (hmk : ∀ ents', RelE R s (delE es k) ents'.toList → ents'.toList = ents.toList.eraseIdx (posE es k) → RelB s (mk (delE es k)) (.map ents' clk)) {K : AV → Heap → Prop} (hk : delK es k mk id h K) :
    ∃ v w', (Builtin.delete_ ts ty #[.map (some n), kv]).run cx.P s.w = .ok v w' ∧ Post cx h s K v w' := by
  obtain ⟨hf, hk⟩ := reqA_elim hk
  obtain ⟨r, hf⟩ := Option.isSome_iff_exists.1 hf
  obtain ⟨x, hx, hat⟩ := findKey_run kr es ents.toList r s.w he hf
  have hgo : (getObj n).run cx.P s.w = .ok (.map ents clk) s.w := by simp [getObj, Sem.run, hn]
  have hlt : n < s.w.heap.size := (Array.getElem?_eq_some_iff.1 hn).1
  have hset : ∀ o', (setObj n o').run cx.P s.w = .ok () (wput s.w n o') := fun o' => by simp [setObj, Sem.run, hn, wput]
  have fin : ∀ ents' : Array MapEntry, RelE R s (delE es k) ents'.toList → ents'.toList = ents.toList.eraseIdx (posE es k) → (Builtin.delete_ ts ty #[.map (some n), kv]).run cx.P s.w = .ok (.tuple #[]) (wput s.w n (.map ents' clk)) →
      ∃ v w', (Builtin.delete_ ts ty #[.map (some n), kv]).run cx.P s.w = .ok v w' ∧ Post cx h s K v w' := fun ents' hre her hrun =>
    ⟨_, _, hrun, _, _, ⟨s.ρ, s.I, wput s.w n (.map ents' clk)⟩, rfl, hk, by simp [Rel, RelD, RelDs], sat_put sat hg hρ hn (mk (delE es k)) _ (fun _ _ _ h => by cases h) (hmk _ hre her), ext_put hg hρ hn _ _ (fun _ _ _ h => by cases h)⟩
  cases r with
  | none =>
    cases x with
    | some y => exact hat.elim
    | none =>
      refine fin ents (by rw [del_none es hf]; exact he) ?_ ?_
      · rw [pos_none es hf, List.eraseIdx_of_length_le]
        rw [relE_length he]; exact Nat.le_refl _
      · simp [Builtin.delete_, hts, run_underlying hu, hgo, kr.check, hx, hset]
  | some a0 =>
    cases x with
    | none => exact hat.elim
    | some y =>
      obtain ⟨j, v⟩ := y
      obtain ⟨rfl, hav⟩ := hat
      have hrel := relE_del es _ a0 he hf
      have herase : (ents.eraseIdxIfInBounds (posE es k)).toList = ents.toList.eraseIdx (posE es k) := by
        unfold Array.eraseIdxIfInBounds
        split
        · simp
        · rename_i hge; rw [List.eraseIdx_of_length_le (by simpa using hge)]
      refine fin (ents.eraseIdxIfInBounds (posE es k)) (by rw [herase]; exact hrel) herase ?_
      simp [Builtin.delete_, hts, run_underlying hu, hgo, kr.check, hx, hset]
theorem relM_del {α : Type} {R : α → Value → Prop} {s : Wd} {es : List (DV × α)} {k : DV} {ents : Array MapEntry} {clk : Nat} (hp : (ents.toList.map (·.born)).Pairwise (· < ·)) (hclk : ∀ e ∈ ents.toList, e.born < clk) :
    ∀ ents' : Array MapEntry, RelE R s (delE es k) ents'.toList → ents'.toList = ents.toList.eraseIdx (posE es k) → RelM R s (delE es k) (.map ents' clk) := fun ents' hre her =>
  ⟨ents', clk, rfl, hre, by rw [her]; exact hp.sublist ((List.eraseIdx_sublist _ _).map _), fun e he' => by rw [her] at he'; exact hclk e (List.mem_of_mem_eraseIdx he')⟩
theorem mdelA_sound {cx : Cx} {t ty : Nat} {ts : Array TypeId} (hts : ts[0]? = some t) {ti : TyI} (ok : CxOK cx) (ht : cx.T t = some ti) {h : Heap} {s : Wd} (sat : Sat cx.toGl h s) {m : AV} {k : DV} {um uk : Value} (hm : Rel s m um) (hk : RelD s.I s.w k uk)
    {K : AV → Heap → Prop} (hl : mdelA cx ti m k h K) : ∃ v w', (Builtin.delete_ ts ty #[um, uk]).run cx.P s.w = .ok v w' ∧ Post cx h s K v w' := by
  obtain ⟨info, desc, z, hi, hu, hsz, _, hz, hzr, hkk⟩ := ok.types t ti ht
  unfold mdelA at hl
  split at hl <;> try exact hl.elim
  rename_i kt et hk'
  rw [hk'] at hkk
  obtain rfl := tk_mp hkk
  split at hl <;> try exact hl.elim
  rename_i id
  simp only [Rel] at hm
  obtain ⟨n, hρ, rfl⟩ := hm
  split at hl <;> try exact hl.elim
  · rename_i es hg
    obtain ⟨n', o, h1, h2, h3, _⟩ := sat.blk id _ hg
    rw [hρ] at h1; cases h1
    obtain ⟨ents, clk, rfl, hre, hp, hc⟩ := h3
    obtain ⟨kr, hl⟩ := keyRun ok hl hk
    exact del_run hts hu sat kr hre hg hρ h2 .mapD (relM_del hp hc) hl
  · rename_i es hg
    obtain ⟨n', o, h1, h2, h3, _⟩ := sat.blk id _ hg
    rw [hρ] at h1; cases h1
    obtain ⟨ents, clk, rfl, hre, hp, hc⟩ := h3
    obtain ⟨kr, hl⟩ := keyRun ok hl hk
    exact del_run hts hu sat kr hre hg hρ h2 .mapA (relM_del hp hc) hl
  · rename_i bs clk es hg
    obtain ⟨n', o, h1, h2, h3, _⟩ := sat.blk id _ hg
    rw [hρ] at h1; cases h1
    obtain ⟨ents, rfl, hre, rfl, hp, hc⟩ := h3
    obtain ⟨kr, hl⟩ := keyRun ok hl hk
    refine del_run hts hu sat kr hre hg hρ h2 (.mapB _ clk) (fun ents' hre' her => ⟨ents', rfl, hre', ?_, ?_, ?_⟩) hl
    · rw [her, map_eraseIdx']
    · exact hp.sublist (List.eraseIdx_sublist _ _)
    · exact fun b hb => hc b (List.mem_of_mem_eraseIdx hb)

/-! New maps. -/
def newMapA (h : Heap) (K : AV → Heap → Prop) : Prop := K (.map h.length) (h ++ [some (.mapD [])])
theorem newMapA_sound {cx : Cx} {h : Heap} {s : Wd} (sat : Sat cx.toGl h s) {K : AV → Heap → Prop} (hk : newMapA h K) (t : Nat) :
    ∃ v w', (Instr.makeMap t none).run cx.P s.w = .ok v w' ∧ Post cx h s K v w' := by
  refine ⟨.map (some s.w.heap.size), s.w.alloc (.map #[] 0), by simp [Instr.makeMap], ?_⟩
  refine ⟨_, _, s.alloc h.length (.map #[] 0), rfl, hk, ?_, sat_alloc sat _ _ ⟨#[], 0, rfl, trivial, by simp, by simp⟩, ext_alloc sat _ _⟩
  simp only [Rel]; exact ⟨_, by simp [Wd.alloc], rfl⟩

end Go.Abs

namespace Go.Abs

/-! append. -/
/-- A source of cells: how many elements, which cells, in every world of the same heap. -/
structure Src (P : Program) (w : World) (size : Nat) (x : Value) (n : Nat) (news : List Value) : Prop where
  len : ∀ w', (Builtin.lenOf x).run P w' = .ok n w'
  first : ∀ w', w'.heap = w.heap → (Builtin.firstCells size n x).run P w' = .ok news.toArray w'

theorem firstCells_some {P : Program} {w : World} {size n m k : Nat} {b o : Nat} {c : Array Value} {e : Nat} {f : Nat × Nat} (hb : w.heap[b]? = some (.cells c e f)) {news : List Value}
    (hn : news = (c.toList.drop o).take (n * size)) (hl : news.length = n * size) : (Builtin.firstCells size n (.slice (some ⟨b, o, none⟩) m k)).run P w = .ok news.toArray w := by
  simp only [Builtin.firstCells]
  rw [← hl]
  refine run_loadCells_list (P := P) w ⟨b, o, none⟩ news fun j v hv => ?_
  rw [addr_add, cell_of_row w b (o + j) c e f hb]
  rw [hn, List.getElem?_take] at hv
  split at hv
  · rw [List.getElem?_drop] at hv; simpa using hv
  · cases hv

theorem run_append_same {P : Program} {w : World} {ts : Array TypeId} {t u ty e : TypeId} {i : TypeInfo} (h0 : ts[0]? = some t) (h1 : ts[1]? = some u) (hu : P.underlying t = some (.slice e)) (hi : P.info? e = some i)
    {d : TypeDesc} (hd : P.underlying u = some d) (hnd : ∀ k, d ≠ .int k) {base : Option Addr} {len m : Nat} (hm : len ≤ m) {x : Value} (hx : Src P w i.size x 0 []) :
    (Builtin.append_ ts ty #[.slice base len m, x]).run P w = .ok (.slice base len m) w := by
  have hst : ∀ (a : Addr), (storeCells a []).run P w = .ok () w := fun a => by simp [storeCells]
  simp only [Builtin.append_, h0, h1, List.getElem?_toArray, List.getElem?_cons_zero, List.getElem?_cons_succ, Sem.run_bind, run_underlying hu, run_underlying hd, Result.andThen_ok, sizeOf, typeInfo, run_program, hi, Sem.run_pure]
  simp [hx.len, hx.first w rfl, hm]
  cases base <;> simp [hst]

theorem run_append_room' {P : Program} {w : World} {ts : Array TypeId} {t u ty e : TypeId} {i : TypeInfo} (h0 : ts[0]? = some t) (h1 : ts[1]? = some u) (hu : P.underlying t = some (.slice e)) (hi : P.info? e = some i)
    {d : TypeDesc} (hd : P.underlying u = some d) (hnd : ∀ k, d ≠ .int k) {b len m n : Nat} (hm : len + n ≤ m) {c : Array Value} {e' : Nat} (hb : w.heap[b]? = some (.cells c e' (0, 0))) {x : Value} {news : List Value} (hx : Src P w i.size x n news)
    (hfit : len * i.size + news.length ≤ c.size) (hone : ∀ v ∈ news, v.oneCell' = true) :
    (Builtin.append_ ts ty #[.slice (some ⟨b, 0, none⟩) len m, x]).run P w =
      .ok (.slice (some ⟨b, 0, none⟩) (len + n) m) (wput w b (.cells (c.toList.take (len * i.size) ++ news ++ c.toList.drop (len * i.size + news.length)).toArray e' (0, 0))) := by
  have hst := run_storeCells_at P b (len * i.size) e' news 0 c w hb (by simpa using hfit) hone
  rw [setRow_wput hb] at hst
  simp only [Nat.add_zero] at hst
  simp only [Builtin.append_, h0, h1, List.getElem?_toArray, List.getElem?_cons_zero, List.getElem?_cons_succ, Sem.run_bind, run_underlying hu, run_underlying hd, Result.andThen_ok, sizeOf, typeInfo, run_program, hi, Sem.run_pure]
  simp [hx.len, hx.first w rfl, hm, addr_add, hst]

theorem run_append_grow' {P : Program} {w : World} {ts : Array TypeId} {t u ty e : TypeId} {i : TypeInfo} {z : Value} (h0 : ts[0]? = some t) (h1 : ts[1]? = some u) (hu : P.underlying t = some (.slice e)) (hi : P.info? e = some i) (hz0 : i.zero = some z)
    {d : TypeDesc} (hd : P.underlying u = some d) (hnd : ∀ k, d ≠ .int k) {base : Option Addr} {len m n : Nat} (hm : m < len + n) {olds : List Value} (ho : ∀ w', w'.heap = w.heap → (Builtin.firstCells i.size len (.slice base len m)).run P w' = .ok olds.toArray w')
    {x : Value} {news : List Value} (hx : Src P w i.size x n news) (h63 : len + n ≤ maxLen) (hby : (len + n) * i.bytes ≤ 140737488355328) :
    (Builtin.append_ ts ty #[.slice base len m, x]).run P w =
      .ok (.slice (some ⟨w.heap.size, 0, none⟩) (len + n) (grownCap w (len + n) m e))
        (w.drew.alloc (.cells (olds.toArray ++ news.toArray ++ Builtin.zeroCells z.cells (grownCap w (len + n) m e - (len + n))) e)) := by
  have hn : ¬ (len + n ≤ m) := by omega
  have hmax : len + n ≤ 9223372036854775807 := by unfold maxLen at h63; omega
  have h63' : ¬ (9223372036854775807 < ((len : Int) + (n : Int))) := by omega
  have hfit := growslice_fits (need := len + n) (old := m) hm hby
  have h48' : ¬ (281474976710656 < Builtin.nextslicecap (len + n) m * i.bytes) := by omega
  simp only [Builtin.append_, h0, h1, List.getElem?_toArray, List.getElem?_cons_zero, List.getElem?_cons_succ, Sem.run_bind, run_underlying hu, run_underlying hd, Result.andThen_ok, sizeOf, typeInfo, run_program, hi, Sem.run_pure]
  simp [hx.len, hn, h63', h48', Question.forced, zeroValue, typeInfo, hi, hz0, newRow, ho w.drew rfl, hx.first w.drew rfl, grownCap]
  congr 2
  apply Array.ext'
  simp

inductive AppA (n : Nat) (K0 C K1 : Prop) : Prop where
  | none (h : n = 0) (k : K0)
  | some (h : 0 < n) (c : C) (k : K1)
theorem appA_zero {n : Nat} {K0 C K1 : Prop} (h : n = 0) (k : K0) : AppA n K0 C K1 := .none h k
theorem appA {n : Nat} {K0 C K1 : Prop} (h : 0 < n) (hc : C) (k : K1) : AppA n K0 C K1 := .some h hc k

def bytesA (s : ByteArray) : List AV := s.data.toList.map fun b => .dat (.int .u8 (b.toNat : Nat))
def srcA (h : Heap) (size : Nat) : AV → Option (List AV × Nat)
  | .dat .nils => some ([], 0)
  | .dat (.ros cs n _) => some (cs.map .dat, n)
  | .dat (.str s) => match Nat.beq size 1 with
    | true => some (bytesA s, s.size)
    | false => none
  | .sl id off n _ _ => match hget h id with
    | some (.cells cs _ _) => some (ltake (ldrop cs off) (n * size), n)
    | _ => none
  | _ => none
def capIs (cap : Option Nat) (len : Nat) : Bool := match cap with
  | some c => Nat.beq c len
  | none => false

def appendA (cx : Cx) (ti : TyI) (base src : AV) (h : Heap) (K : AV → Heap → Prop) : Prop := match ti.k with
  | .slc e => hasTy cx e fun te => match srcA h te.size src with
    | none => False
    | some (new, n) => match base with
      | .dat .nils => AppA n (K base h) (new.length = n * te.size ∧ (∀ a ∈ new, isCell a = true) ∧ n * te.bytes ≤ 140737488355328 ∧ n ≤ maxLen)
          (K (.sl h.length 0 n none te.size) (h ++ [some (.cells new e true)]))
      | .dat (.ros cs len cap) => match capIs cap len with
        | true => AppA n (K base h) (cs.length = len * te.size ∧ new.length = n * te.size ∧ (∀ a ∈ new, isCell a = true) ∧ (len + n) * te.bytes ≤ 140737488355328 ∧ len + n ≤ maxLen)
            (K (.sl h.length 0 (len + n) none te.size) (h ++ [some (.cells (cs.map .dat ++ new) e true)]))
        | false => False
      | .sl id off len cap z => match off with
        | 0 => match hget h id with
          | some (.cells cs e' _) => match Nat.beq e' e with
            | true => match Nat.beq z te.size with
              | true => AppA n (K base h) (cs.length = len * te.size ∧ new.length = n * te.size ∧ (∀ a ∈ new, isCell a = true) ∧ (len + n) * te.bytes ≤ 140737488355328 ∧ len + n ≤ maxLen)
                  (K (.sl h.length 0 (len + n) none te.size) ((match capIs cap len with | true => h | false => hset h id none) ++ [some (.cells (cs ++ new) e true)]))
              | false => False
            | false => False
          | _ => False
        | _ => False
      | _ => False
  | _ => False

theorem Src.of {cx : Cx} {h : Heap} {s : Wd} (sat : Sat cx.toGl h s) {size : Nat} {a : AV} {v : Value} (hr : Rel s a v) {new : List AV} {n : Nat} (hs : srcA h size a = some (new, n)) (hl : new.length = n * size) :
    ∃ news, Src cx.P s.w size v n news ∧ Rels s new news ∧ new.length = news.length := by
  unfold srcA at hs
  split at hs
  · simp only [Option.some.injEq, Prod.mk.injEq] at hs
    obtain ⟨rfl, rfl⟩ := hs
    simp only [Rel, RelD] at hr; subst hr
    exact ⟨[], ⟨fun w' => by simp [Builtin.lenOf], fun w' _ => by simp [Builtin.firstCells]⟩, by simp [Rels], rfl⟩
  · rename_i cs n' cap
    simp only [Option.some.injEq, Prod.mk.injEq] at hs
    obtain ⟨rfl, rfl⟩ := hs
    simp only [Rel, RelD] at hr
    rcases hr with ⟨rfl, _, rfl, a, rfl⟩ | ⟨b, o, c, m, e, f, rfl, hI, hb, h1, h2, h3, hrel⟩
    · exact ⟨[], ⟨fun w' => by simp [Builtin.lenOf], fun w' _ => by simp [Builtin.firstCells, loadCells, loadCellsFrom]⟩, by simp [Rels], rfl⟩
    have hlc : cs.length ≤ (c.toList.drop o).length := relDs_length hrel
    simp only [List.length_map] at hl
    have hlen : ((c.toList.drop o).take (n' * size)).length = n' * size := by
      rw [List.length_take]; omega
    refine ⟨(c.toList.drop o).take (n' * size), ⟨fun w' => by simp [Builtin.lenOf], fun w' hw => ?_⟩, ?_, by rw [hlen]; simpa using hl⟩
    · exact firstCells_some (w := w') (by rw [hw]; exact hb) rfl hlen
    · rw [rels_dat]
      have := relDs_take hrel (n' * size)
      rwa [List.take_of_length_le (by omega)] at this
  · rename_i str
    split at hs
    · rename_i hbq
      simp only [Option.some.injEq, Prod.mk.injEq] at hs
      obtain ⟨rfl, rfl⟩ := hs
      have hsz : size = 1 := Nat.eq_of_beq_eq_true hbq
      subst hsz
      simp only [Rel, RelD] at hr; subst hr
      refine ⟨str.data.toList.map fun b => .int .u8 (b.toNat : Nat), ⟨fun w' => by simp [Builtin.lenOf], fun w' _ => ?_⟩, ?_, by simp [bytesA]⟩
      · have he : str.extract 0 str.size = str := by
          cases str with | mk d => simp [ByteArray.extract, ByteArray.copySlice, ByteArray.size]
        simp only [Builtin.firstCells, Sem.run_pure, he]
        congr 1
        apply Array.ext'; simp
      · unfold bytesA
        generalize str.data.toList = l
        induction l with
        | nil => simp [Rels]
        | cons x r ih => simp only [List.map_cons, Rels]; exact ⟨by simp [Rel, RelD], ih⟩
    · cases hs
  · rename_i id off n' cap z
    split at hs
    · rename_i cs e g hg
      simp only [Option.some.injEq, Prod.mk.injEq] at hs
      obtain ⟨rfl, rfl⟩ := hs
      simp only [Rel] at hr
      obtain ⟨b, m, c0, e0, f0, hρ, rfl, _⟩ := hr
      obtain ⟨nb, o, k1, k2, k3, _⟩ := sat.blk id _ hg
      rw [hρ] at k1; cases k1
      obtain ⟨c, rfl, hrel, _⟩ := k3
      have hrel2 := rels_take (rels_drop hrel off) (n' * size)
      rw [ltake_eq, ldrop_eq] at *
      have hlc := rels_length hrel2
      have hlen : ((c.toList.drop off).take (n' * size)).length = n' * size := by
        rw [hl] at hlc
        have := List.length_take_le (n' * size) (c.toList.drop off)
        omega
      refine ⟨(c.toList.drop off).take (n' * size), ⟨fun w' => by simp [Builtin.lenOf], fun w' hw => ?_⟩, hrel2, by rw [hlen]; exact hl⟩
      exact firstCells_some (w := w') (by rw [hw]; exact k2) rfl hlen
    · cases hs
  · cases hs

theorem appA_elim {n : Nat} {K0 C K1 : Prop} (h : AppA n K0 C K1) : (n = 0 ∧ K0) ∨ (0 < n ∧ C ∧ K1) := by
  cases h with
  | none h k => exact .inl ⟨h, k⟩
  | some h c k => exact .inr ⟨h, c, k⟩

theorem hset_hset (h : Heap) (i : Nat) (a b : Option AB) : hset (hset h i a) i b = hset h i b := by
  induction h generalizing i with
  | nil => rfl
  | cons x r ih => cases i <;> simp [hset, ih]
/-- Grown: a new block. -/
theorem grow_post {cx : Cx} {h : Heap} {s : Wd} (sat : Sat cx.toGl h s) {cells : List AV} {vs : List Value} (hr : Rels s cells vs) (hl : cells.length = vs.length) {z : Value} {len need e sz : Nat} (hzs : z.cells.size = sz) (hlen : cells.length = need * sz)
    (h63 : need ≤ maxLen) {h' : Heap} (hsub : Sub h' h) {K : AV → Heap → Prop} (hk : K (.sl h.length 0 need none sz) (h' ++ [some (.cells cells e true)])) :
    Post cx h s K (.slice (some ⟨s.w.heap.size, 0, none⟩) need (grownCap s.w need len e)) (s.w.drew.alloc (.cells (vs.toArray ++ Builtin.zeroCells z.cells (grownCap s.w need len e - need)) e)) := by
  have satd : Sat cx.toGl h' ⟨s.ρ, s.I, s.w.drew⟩ := sat_world (sat_sub sat hsub) s.w.drew rfl (Nat.le_succ _) rfl rfl rfl
  have hge := grownCap_ge s.w need len e
  have hle := grownCap_le_maxLen s.w need len e h63
  have hh : h'.length = h.length := hsub.len
  let o : Obj := .cells (vs.toArray ++ Builtin.zeroCells z.cells (grownCap s.w need len e - need)) e
  have g : Grows ⟨s.ρ, s.I, s.w.drew⟩ (Wd.alloc ⟨s.ρ, s.I, s.w.drew⟩ h'.length o) := grows_alloc satd _ (satd.fresh _ (Nat.le_refl _)) o
  have g0 : Grows s ⟨s.ρ, s.I, s.w.drew⟩ := ⟨fun _ _ h => h, fun _ h => h, fun _ _ => rfl, fun _ c _ f h => ⟨c, f, h, rfl⟩⟩
  have hsize : (vs.toArray ++ Builtin.zeroCells z.cells (grownCap s.w need len e - need)).size = grownCap s.w need len e * sz := by
    rw [Array.size_append, size_zeroCells, hzs]
    simp only [List.size_toArray]
    rw [← hl, hlen, ← Nat.add_mul]
    congr 1; omega
  refine ⟨_, _, Wd.alloc ⟨s.ρ, s.I, s.w.drew⟩ h'.length o, rfl, hk, ?_, sat_alloc satd _ _ ?_, ((ext_sub hsub).trans (ext_world s.w.drew rfl rfl rfl rfl)).trans (ext_alloc satd _ _)⟩
  · simp only [Rel]
    refine ⟨s.w.heap.size, _, _, e, _, by simp [Wd.alloc, hh], rfl, hge, hle, by simp, heap_alloc_new s.w.drew o, ?_⟩
    rw [hsize]; simp
  · refine ⟨_, rfl, ?_, by simp⟩
    rw [Array.toList_append]
    exact rels_weak (rels_mono g _ _ (rels_mono g0 _ _ hr))

theorem appendA_sound {cx : Cx} {ts : Array TypeId} {t u ty : Nat} {ti : TyI} (ok : CxOK cx) (h0 : ts[0]? = some t) (h1 : ts[1]? = some u) (ht : cx.T t = some ti) {d : TypeDesc} (hd : cx.P.underlying u = some d) (hnd : ∀ k, d ≠ .int k)
    {h : Heap} {s : Wd} (sat : Sat cx.toGl h s) {base src : AV} {ub us : Value} (hb : Rel s base ub) (hs : Rel s src us) {K : AV → Heap → Prop} (hk : appendA cx ti base src h K) :
    ∃ v w', (Builtin.append_ ts ty #[ub, us]).run cx.P s.w = .ok v w' ∧ Post cx h s K v w' := by
  obtain ⟨info, desc, z0, hi, hu, hsz, _, _, _, hkk⟩ := ok.types t ti ht
  unfold appendA at hk
  split at hk <;> try exact hk.elim
  rename_i e hk'
  rw [hk'] at hkk
  obtain rfl := tk_slc hkk
  obtain ⟨te, hte, hk⟩ := hasTy_elim hk
  obtain ⟨infe, _, z, hie, _, hse, hbe, hze, hzr, _⟩ := ok.types e te hte
  have hzs : z.cells.size = te.size := ok.zsize e te z hte (by rw [hie]; exact hze)
  split at hk <;> try exact hk.elim
  rename_i new n hsrc
  have none_src : n = 0 → ∃ news, Src cx.P s.w infe.size us 0 news ∧ news = [] := fun hn => by
    subst hn
    unfold srcA at hsrc
    have hst : ∀ (x : Value) (m : Nat), (∀ w', (Builtin.lenOf x).run cx.P w' = .ok 0 w') → (∀ w', (Builtin.firstCells infe.size 0 x).run cx.P w' = .ok #[] w') → us = x → ∃ news, Src cx.P s.w infe.size us 0 news ∧ news = [] :=
      fun x _ hl hf e => by subst e; exact ⟨[], ⟨hl, fun w' _ => by simpa using hf w'⟩, rfl⟩
    split at hsrc
    · simp only [Rel, RelD] at hs
      exact hst _ 0 (fun w' => by simp [Builtin.lenOf]) (fun w' => by simp [Builtin.firstCells]) hs
    · simp only [Option.some.injEq, Prod.mk.injEq] at hsrc
      simp only [Rel, RelD] at hs
      rcases hs with ⟨_, _, _, a, hs⟩ | ⟨b, o, c, m, e, f, hs, _⟩
      · exact hst _ 0 (fun w' => by simp [Builtin.lenOf]) (fun w' => by simp [Builtin.firstCells, loadCells, loadCellsFrom]) hs
      rw [hsrc.2] at hs
      exact hst _ 0 (fun w' => by simp [Builtin.lenOf]) (fun w' => by simp [Builtin.firstCells, loadCells, loadCellsFrom]) hs
    · split at hsrc
      · simp only [Option.some.injEq, Prod.mk.injEq] at hsrc
        simp only [Rel, RelD] at hs
        refine hst _ 0 (fun w' => by simp [Builtin.lenOf, hsrc.2]) (fun w' => ?_) hs
        simp only [Builtin.firstCells, Sem.run_pure]
        congr 1
        apply Array.ext'
        simp [ByteArray.extract, ByteArray.copySlice]
      · cases hsrc
    · split at hsrc
      · simp only [Option.some.injEq, Prod.mk.injEq] at hsrc
        simp only [Rel] at hs
        obtain ⟨b, m, c0, e0, f0, hρ, hs, _⟩ := hs
        rw [hsrc.2] at hs
        exact hst _ 0 (fun w' => by simp [Builtin.lenOf]) (fun w' => by simp [Builtin.firstCells, loadCells, loadCellsFrom]) hs
      · cases hsrc
    · cases hsrc
  have same : ∀ bo len m, ub = .slice bo len m → len ≤ m → n = 0 → K base h → ∃ v w', (Builtin.append_ ts ty #[ub, us]).run cx.P s.w = .ok v w' ∧ Post cx h s K v w' := by
    intro bo len m hub hlm hn hk
    obtain ⟨news, hsr, rfl⟩ := none_src hn
    subst hub
    exact ⟨_, _, run_append_same h0 h1 hu hie hd hnd hlm hsr, post_same sat hk hb⟩
  split at hk <;> try exact hk.elim
  · -- nil
    simp only [Rel, RelD] at hb
    rcases appA_elim hk with ⟨hn, hk⟩ | ⟨hn, ⟨hl, hc, hby, h63⟩, hk⟩
    · exact same _ _ _ hb (Nat.le_refl _) hn hk
    · subst hb
      obtain ⟨news, hsr, hrel, hnl⟩ := Src.of sat hs hsrc hl
      rw [← hse] at hsr
      refine ⟨_, _, run_append_grow' h0 h1 hu hie hze hd hnd (base := none) (len := 0) (m := 0) (n := n) (by omega) (olds := []) (fun w' _ => by simp [Builtin.firstCells]) hsr (by omega) (by rw [hbe, Nat.zero_add]; exact hby), ?_⟩
      have := grow_post (cx := cx) (K := K) (len := 0) (e := e) sat hrel hnl hzs hl h63 (Sub.refl h) hk
      simpa using this
  · -- read-only, full
    rename_i cs len cap _
    split at hk <;> try exact hk.elim
    rename_i hcap
    have hb0 := hb
    simp only [Rel, RelD] at hb
    rcases hb with ⟨rfl, _, rfl, a, hub⟩ | ⟨b, o, c, m, el, f, hub, hI, hbb, hlm, _, hcm, hrelb⟩
    · rcases appA_elim hk with ⟨hn, hk⟩ | ⟨hn, ⟨_, hl, hc, hby, h63⟩, hk⟩
      · exact same _ _ _ hub (Nat.le_refl _) hn hk
      · subst hub
        obtain ⟨news, hsr, hrel, hnl⟩ := Src.of sat hs hsrc hl
        rw [← hse] at hsr
        refine ⟨_, _, run_append_grow' h0 h1 hu hie hze hd hnd (base := some a) (len := 0) (m := 0) (n := n) (by omega) (olds := []) (fun w' _ => by simp [Builtin.firstCells, loadCells, loadCellsFrom]) hsr (by omega) (by rw [hbe]; exact hby), ?_⟩
        have := grow_post (cx := cx) (K := K) (len := 0) (e := e) sat hrel hnl hzs (need := 0 + n) (by rw [Nat.zero_add]; exact hl) h63 (Sub.refl h) hk
        simpa using this
    have hm : m = len := by
      cases cap with
      | none => simp [capIs] at hcap
      | some k => simp only [capIs] at hcap; rw [hcm k rfl]; exact Nat.eq_of_beq_eq_true hcap
    subst hm
    rcases appA_elim hk with ⟨hn, hk⟩ | ⟨hn, ⟨hlo, hl, hc, hby, h63⟩, hk⟩
    · exact same _ _ _ hub (Nat.le_refl _) hn hk
    · subst hub
      obtain ⟨news, hsr, hrel, hnl⟩ := Src.of sat hs hsrc hl
      rw [← hse] at hsr
      have hlc := relDs_length hrelb
      have hlen : ((c.toList.drop o).take (m * infe.size)).length = m * infe.size := by rw [List.length_take, hse]; omega
      refine ⟨_, _, run_append_grow' h0 h1 hu hie hze hd hnd (base := some ⟨b, o, none⟩) (len := m) (m := m) (n := n) (by omega) (olds := (c.toList.drop o).take (m * infe.size))
        (fun w' hw => firstCells_some (w := w') (by rw [hw]; exact hbb) rfl hlen) hsr h63 (by rw [hbe]; exact hby), ?_⟩
      have hro : Rels s (cs.map .dat) ((c.toList.drop o).take (m * infe.size)) := by
        rw [rels_dat]
        have := relDs_take hrelb (m * infe.size)
        rwa [List.take_of_length_le (by rw [hse]; omega)] at this
      have hll : (cs.map AV.dat).length = ((c.toList.drop o).take (m * infe.size)).length := by rw [hlen, hse, List.length_map, hlo]
      have := grow_post (cx := cx) (K := K) (len := m) (e := e) sat (rels_append hro hll hrel) (by rw [List.length_append, List.length_append, hll, hnl]) hzs (need := m + n) (by rw [List.length_append, List.length_map, hlo, hl, Nat.add_mul]) h63 (Sub.refl h) hk
      rw [← List.append_toArray] at this
      exact this
  · -- owned
    rename_i id off len cap zz _
    split at hk <;> try exact hk.elim
    split at hk <;> try exact hk.elim
    rename_i cs e' gr hg
    split at hk <;> try exact hk.elim
    rename_i he'
    have he' := Nat.eq_of_beq_eq_true he'
    subst he'
    split at hk <;> try exact hk.elim
    rename_i hzz
    have hzz := Nat.eq_of_beq_eq_true hzz
    subst hzz
    have hb0 := hb
    simp only [Rel] at hb
    obtain ⟨b, m, c0, e0, f0, hρ, hub, hlm, hmm, hcm, hb00, hroom⟩ := hb
    obtain ⟨nb, o, k1, k2, k3, k4⟩ := sat.blk id _ hg
    rw [hρ] at k1; cases k1
    obtain ⟨c, rfl, hrelb, hgr⟩ := k3
    have hcc := k2.symm.trans hb00
    simp only [Option.some.injEq, Obj.cells.injEq] at hcc
    obtain ⟨rfl, rfl, rfl⟩ := hcc
    rcases appA_elim hk with ⟨hn, hk⟩ | ⟨hn, ⟨hlo, hl, hc, hby, h63⟩, hk⟩
    · exact same _ _ _ hub hlm hn hk
    · subst hub
      obtain ⟨news, hsr, hrel, hnl⟩ := Src.of sat hs hsrc hl
      rw [← hse] at hsr
      have hlc := rels_length hrelb
      have hlen : ((c.toList.drop 0).take (len * infe.size)).length = len * infe.size := by rw [List.length_take, hse]; simp at hlc ⊢; omega
      have hro : Rels s cs ((c.toList.drop 0).take (len * infe.size)) := by
        have := rels_take hrelb (len * infe.size)
        rwa [List.take_of_length_le (l := cs) (by rw [hse]; omega)] at this
      by_cases hfit : len + n ≤ m
      · have hcap : capIs cap len = false := by
          cases cap with
          | none => rfl
          | some k =>
            simp only [capIs]
            have := hcm k rfl
            cases hq : Nat.beq k len with
            | false => rfl
            | true => have := Nat.eq_of_beq_eq_true hq; omega
        rw [hcap] at hk
        have hone := rels_allCell hrel hnl hc
        have hfit2 : len * infe.size + news.length ≤ c.size := by
          have : (len + n) * te.size ≤ m * te.size := Nat.mul_le_mul_right _ hfit
          rw [← hnl, hl, hse, ← Nat.add_mul]; omega
        refine ⟨_, _, run_append_room' h0 h1 hu hie hd hnd hfit k2 hsr hfit2 hone, ?_⟩
        have hsize : (c.toList.take (len * infe.size) ++ news ++ c.toList.drop (len * infe.size + news.length)).toArray.size = c.size := by
          simp only [List.size_toArray, List.length_append, List.length_take, List.length_drop, Array.length_toList]; omega
        have hnew : Rels s (cs ++ new) (c.toList.take (len * infe.size) ++ news ++ c.toList.drop (len * infe.size + news.length)) :=
          rels_weak (rels_append (by simpa using hro) (by rw [List.length_take, hse]; simp at hlc ⊢; omega) hrel)
        have s1 := sat_put sat hg hρ k2 (.cells (cs ++ new) e' true) (.cells (c.toList.take (len * infe.size) ++ news ++ c.toList.drop (len * infe.size + news.length)).toArray e') (sameRow hsize) ⟨_, rfl, hnew, by simp⟩
        have e1 := ext_put (h := h) (s := s) hg hρ k2 (some (.cells (cs ++ new) e' true)) (.cells (c.toList.take (len * infe.size) ++ news ++ c.toList.drop (len * infe.size + news.length)).toArray e') (sameRow hsize)
        have hil := hget_lt hg
        have hg2 : hget (hset h id (some (.cells (cs ++ new) e' true))) id = some (.cells (cs ++ new) e' true) := by rw [hget_hset _ _ _ _ hil, if_pos rfl]
        have s2 := sat_rename s1 hg2 hρ
        have e2 := ext_rename s1 hg2 hρ
        have hss : hset (hset h id (some (.cells (cs ++ new) e' true))) id none = hset h id none := hset_hset _ _ _ _
        rw [hss] at s2 e2
        rw [hset_length] at s2 e2
        refine ⟨_, _, _, rfl, hk, ?_, s2, e1.trans e2⟩
        simp only [Rel]
        have hlt : b < s.w.heap.size := (Array.getElem?_eq_some_iff.1 k2).1
        refine ⟨b, m, _, e', (0, 0), by simp [Wd.rename], rfl, hfit, hmm, by simp, by show (wput s.w b _).heap[b]? = _; rw [wput_get _ _ _ _ hlt, if_pos rfl], ?_⟩
        rw [hsize]; exact hroom
      · refine ⟨_, _, run_append_grow' h0 h1 hu hie hze hd hnd (base := some ⟨b, 0, none⟩) (len := len) (m := m) (n := n) (by omega) (olds := (c.toList.drop 0).take (len * infe.size))
          (fun w' hw => firstCells_some (w := w') (by rw [hw]; exact k2) rfl hlen) hsr h63 (by rw [hbe]; exact hby), ?_⟩
        have hsub : Sub (match capIs cap len with | true => h | false => hset h id none) h := by
          cases capIs cap len
          · exact sub_none h id
          · exact Sub.refl h
        have hll : cs.length = ((c.toList.drop 0).take (len * infe.size)).length := by rw [hlen, hse, hlo]
        have := grow_post (cx := cx) (K := K) (len := m) (e := e') sat (rels_append hro hll hrel) (by rw [List.length_append, List.length_append, hll, hnl]) hzs (need := len + n) (by rw [List.length_append, hlo, hl, Nat.add_mul]) h63 hsub hk
        rw [← List.append_toArray] at this
        exact this

end Go.Abs

namespace Go.Abs

/-! Slice literals. -/
def repA {α : Type} (n : Nat) (l : List α) : List α := match n with
  | 0 => []
  | n + 1 => l ++ repA n l
theorem repA_length {α : Type} (n : Nat) (l : List α) : (repA n l).length = n * l.length := by
  induction n with
  | zero => simp [repA]
  | succ n ih => simp [repA, ih, Nat.add_mul]; omega
theorem repA_get {α : Type} (l : List α) : ∀ (n j : Nat), j < n * l.length → (repA n l)[j]? = l[j % l.length]?
  | 0, j, h => by simp at h
  | n + 1, j, h => by
    simp only [repA]
    rcases Nat.lt_or_ge j l.length with hj | hj
    · rw [List.getElem?_append_left hj, Nat.mod_eq_of_lt hj]
    · rw [List.getElem?_append_right hj, repA_get l n (j - l.length) (by rw [Nat.add_mul] at h; omega)]
      rw [Nat.mod_eq_sub_mod hj]
/-- A slice literal's cells; none: it is refused. -/
def bsliceC (te : TyI) (len : Nat) (ps : List (Nat × AV)) : Option (List AV) := match Nat.ble (len * te.size) 16777216 && Nat.ble len 16777216 with
  | true => match solid (.dat te.zero) with
    | true => match Nat.beq (cellsOf (.dat te.zero)).length te.size with
      | true => fillA (fun i => some (i * te.size, te.size)) (repA len (cellsOf (.dat te.zero))) ps
      | false => none
    | false => none
  | false => none
theorem bslice_run {cx : Cx} {t : Nat} {ti : TyI} (ok : CxOK cx) (ht : cx.T t = some ti) {s : Wd} {e : Env} {ev : Operand → Value} (he : EvR s e ev) (len : Nat) (ps : Array (Nat × Operand)) {el : Nat} (hk' : ti.k = .slc el) {te : TyI} (hte : cx.T el = some te) {cs : List AV}
    (hb : bsliceC te len (partsA e ps.toList) = some cs) : ∃ out, (Instr.buildSlice t len (ps.map fun (i, x) => (i, ev x))).run cx.P s.w = .ok (.slice (some ⟨s.w.heap.size, 0, none⟩) len len) (s.w.alloc (.cells out el)) ∧
      Rels s cs out.toList ∧ cs.length = out.size ∧ out.size = len * te.size ∧ len ≤ maxLen := by
  obtain ⟨info, desc, z0, hi, hu, hsz, _, _, _, hkk⟩ := ok.types t ti ht
  unfold bsliceC at hb
  rw [hk'] at hkk
  obtain rfl := tk_slc hkk
  obtain ⟨infe, _, z, hie, _, hse, hbe, hze, hzr, _⟩ := ok.types el te hte
  split at hb <;> try cases hb
  rename_i hble
  split at hb <;> try cases hb
  rename_i hs
  split at hb <;> try cases hb
  rename_i hbq
  have hf := hb
  have hlen : (cellsOf (.dat te.zero)).length = te.size := Nat.eq_of_beq_eq_true hbq
  rw [Bool.and_eq_true] at hble
  have hsmall : len * te.size ≤ 16777216 := Nat.le_of_ble_eq_true hble.1
  obtain ⟨hz1, hz2⟩ := rel_cells (s := s) (a := .dat te.zero) (v := z) (by simpa [Rel] using hzr s.I s.w) hs
  obtain ⟨hpl, hpr⟩ := parts_rel he ps.toList
  have hbase : Rels s (repA len (cellsOf (.dat te.zero))) ((Array.range (len * te.size)).map (z.cells[· % z.cells.size]!)).toList ∧ (repA len (cellsOf (.dat te.zero))).length = ((Array.range (len * te.size)).map (z.cells[· % z.cells.size]!)).size := by
    refine ⟨?_, by simp [repA_length, hlen]⟩
    rw [rels_iff]
    intro i d hd
    have hil : i < len * te.size := by
      have := (List.getElem?_eq_some_iff.1 hd).1
      rwa [repA_length, hlen] at this
    rw [repA_get _ _ _ (by rw [hlen]; exact hil)] at hd
    obtain ⟨v, hv, hr⟩ := rels_iff.1 hz2 _ d hd
    refine ⟨v, ?_, hr⟩
    rw [hz1] at hv
    have hv' : z.cells[i % z.cells.size]? = some v := by simpa using hv
    simp [hil, hv', getElem!_def]
  obtain ⟨out, ho, hr, hrl⟩ := fillA_sound _ _ _ _ hbase.1 hbase.2 hpl hpr cs hf
  have hmap : (ps.toList.map fun (x : Nat × Operand) => (x.1, ev x.2)) = (ps.map fun (i, x) => (i, ev x)).toList := by simp
  have hrun : (Instr.buildSlice t len (ps.map fun (i, x) => (i, ev x))).run cx.P s.w = .ok (.slice (some ⟨s.w.heap.size, 0, none⟩) len len) (s.w.alloc (.cells out el)) := by
    have hr0 : Array.range 0 = #[] := rfl
    by_cases h0 : len * te.size = 0
    · rw [hmap] at ho
      have ho' : Instr.fill (fun i => some (i * te.size, te.size)) #[] (ps.map fun (i, x) => (i, ev x)).toList = some out := by
        rw [← ho, h0, hr0]; simp
      have hf0 : ((Array.range (len * te.size)).map fun (x : Nat) => ((#[] : Array Value)[x % (#[] : Array Value).size]!)) = #[] := by rw [h0, hr0]; simp
      have hgt : ¬ (len * te.size > 2 ^ 24) := by omega
      simp only [Instr.buildSlice, Sem.run_bind, run_underlying hu, Result.andThen_ok, sizeOf, typeInfo, run_program, hie, Sem.run_pure, hse, if_neg hgt, if_pos h0, hf0, ho', newRow, run_newObj]
      rfl
    · rw [hmap] at ho
      exact run_buildSlice s.w t el len _ out infe z hu hie hze (by rw [hse]; omega) (by rw [hse]; exact h0) (by rw [hse]; exact ho)
  have hmx2 : len ≤ maxLen := by
    have := Nat.le_of_ble_eq_true hble.2
    unfold maxLen; omega
  have hos : out.size = len * te.size := by
    have h1 : ∀ (ps : List (Nat × AV)) (cells : List AV) cs, fillA (fun i => some (i * te.size, te.size)) cells ps = some cs → cs.length = cells.length := by
      intro ps
      induction ps with
      | nil => intro cells cs h; simp [fillA] at h; rw [h]
      | cons p ps ih =>
        intro cells cs h
        obtain ⟨i, v⟩ := p
        simp only [fillA] at h
        split at h
        · cases h
        · split at h
          · cases h
          · split at h
            · cases h
            · rename_i c1 hl
              rw [ih _ _ h]
              obtain ⟨h2, rfl⟩ := lput_eq hl
              simp; omega
    rw [← hrl, h1 _ _ _ hf, repA_length, hlen]
  exact ⟨out, hrun, hr, hrl, hos, hmx2⟩

def bsliceA (cx : Cx) (ti : TyI) (len : Nat) (ps : List (Nat × AV)) (h : Heap) (K : AV → Heap → Prop) : Prop := match ti.k with
  | .slc e => hasTy cx e fun te => optR (bsliceC te len ps) fun cs => K (.sl h.length 0 len (some len) te.size) (h ++ [some (.cells cs e false)])
  | _ => False
theorem bsliceA_sound {cx : Cx} {t : Nat} {ti : TyI} (ok : CxOK cx) (ht : cx.T t = some ti) {h : Heap} {s : Wd} (sat : Sat cx.toGl h s) {e : Env} {ev : Operand → Value} (he : EvR s e ev) (len : Nat) (ps : Array (Nat × Operand)) {K : AV → Heap → Prop}
    (hb : bsliceA cx ti len (partsA e ps.toList) h K) : ∃ v w', (Instr.buildSlice t len (ps.map fun (i, x) => (i, ev x))).run cx.P s.w = .ok v w' ∧ Post cx h s K v w' := by
  unfold bsliceA at hb
  split at hb <;> try exact hb.elim
  rename_i el hk'
  obtain ⟨te, hte, hb⟩ := hasTy_elim hb
  obtain ⟨cs, hc, hb⟩ := optR_elim hb
  obtain ⟨out, hrun, hr, hrl, hos, hmx⟩ := bslice_run ok ht he len ps hk' hte hc
  have g := grows_alloc sat h.length (sat.fresh _ (Nat.le_refl _)) (.cells out el)
  refine ⟨_, _, hrun, _, _, s.alloc h.length (.cells out el), rfl, hb, ?_, sat_alloc sat _ _ ⟨_, rfl, rels_mono g _ _ hr, fun _ => hrl.symm⟩, ext_alloc sat _ _⟩
  simp only [Rel]
  exact ⟨s.w.heap.size, len, out, el, (0, 0), by simp [Wd.alloc], rfl, Nat.le_refl _, hmx, by simp, heap_alloc_new s.w _, by rw [hos]; simp⟩

end Go.Abs

namespace Go.Abs

/-! Slices of strings and slices. -/
def optI (d : Int) : Option DV → Option Int
  | none => some d
  | some (.int _ n) => some n
  | some _ => none
def cutCap (cap : Option Nat) (l : Nat) : Option Nat := match cap with
  | some c => some (c - l)
  | none => none
def both (a b : Option Int) (K : Int → Int → Prop) : Prop := match a, b with
  | some l, some h => K l h
  | _, _ => False
theorem both_elim {a b : Option Int} {K : Int → Int → Prop} (h : both a b K) : ∃ l u, a = some l ∧ b = some u ∧ K l u := by
  cases a <;> cases b <;> simp_all [both]
def sliceA (cx : Cx) (ti : TyI) (x : AV) (lo hi mx : Option DV) (K : AV → Prop) : Prop := match ti.k with
  | .str => match x with
    | .dat (.str s) => match mx with
      | none => both (optI 0 lo) (optI s.size hi) fun l h => ReqA (0 ≤ l ∧ l ≤ h ∧ h ≤ s.size) (K (.dat (.str (s.extract l.toNat h.toNat))))
      | some _ => False
    | _ => False
  | .slc e => hasTy cx e fun te => match x with
    | .dat .nils => match mx with
      | none => both (optI 0 lo) (optI 0 hi) fun l h => ReqA (l = 0 ∧ h = 0) (K (.dat .nils))
      | some _ => False
    | .dat (.ros cs n cap) => both (optI 0 lo) (optI n hi) fun l h => match mx with
      | none => ReqA (0 ≤ l ∧ l ≤ h ∧ h ≤ n) (K (.dat (.ros (ltake (ldrop cs (l.toNat * te.size)) ((h.toNat - l.toNat) * te.size)) (h.toNat - l.toNat) (cutCap cap l.toNat))))
      | some (.int _ m) => match hi with
        | some _ => ReqA (0 ≤ l ∧ l ≤ h ∧ h ≤ m ∧ m ≤ n) (K (.dat (.ros (ltake (ldrop cs (l.toNat * te.size)) ((h.toNat - l.toNat) * te.size)) (h.toNat - l.toNat) (some (m.toNat - l.toNat)))))
        | none => False
      | some _ => False
    | .sl id off n cap z => match Nat.beq z te.size with
      | true => both (optI 0 lo) (optI n hi) fun l h => match mx with
        | none => ReqA (0 ≤ l ∧ l ≤ h ∧ h ≤ n ∧ (l = 0 ∨ l < h)) (K (.sl id (off + l.toNat * te.size) (h.toNat - l.toNat) (cutCap cap l.toNat) te.size))
        | some (.int _ m) => match hi with
          | some _ => ReqA (0 ≤ l ∧ l ≤ h ∧ h ≤ m ∧ m ≤ n ∧ (l = 0 ∨ l < h)) (K (.sl id (off + l.toNat * te.size) (h.toNat - l.toNat) (some (m.toNat - l.toNat)) te.size))
          | none => False
        | some _ => False
      | false => False
    | _ => False
  | _ => False

def RelO (s : Wd) : Option DV → Option Value → Prop
  | none, none => True
  | some d, some v => RelD s.I s.w d v
  | _, _ => False

theorem run_bound {P : Program} {w : World} {d : Int} {o : Option DV} {n : Int} (h : optI d o = some n) {s : Wd} {v : Option Value} (hr : RelO s o v) :
    (v = none ∧ n = d) ∨ ∃ k, v = some (.int k n) ∧ ∀ y code, 0 ≤ n → n ≤ (y : Nat) → (Instr.sliceBound (.int k n) y code).run P w = .ok n.toNat w := by
  cases o with
  | none => cases v <;> simp [optI, RelO] at *; exact h.symm
  | some d' =>
    cases v with
    | none => exact hr.elim
    | some v =>
      cases d' <;> simp [optI] at h
      subst h
      simp only [RelO, RelD] at hr; subst hr
      exact .inr ⟨_, rfl, fun y code h0 h1 => by simp [Instr.sliceBound, asIntOf, h0, h1]⟩

theorem run_bounds {P : Program} {w : World} {s : Wd} {lo hi mx : Option DV} {vl vh vm : Option Value} (hl : RelO s lo vl) (hh : RelO s hi vh) (hm : RelO s mx vm) (b : Bool) (len cap : Nat) (hlc : len ≤ cap) {l h : Int}
    (e1 : optI 0 lo = some l) (e2 : optI len hi = some h) (h1 : 0 ≤ l) (h2 : l ≤ h) {m : Int} (hmx : (mx = none ∧ m = cap ∧ h ≤ len) ∨ (∃ k, mx = some (.int k m) ∧ h ≤ m ∧ m ≤ len ∧ hi ≠ none)) :
    (Instr.sliceBounds b len cap vl vh vm).run P w = .ok (l.toNat, h.toNat, m.toNat) w := by
  rcases hmx with ⟨rfl, rfl, h3⟩ | ⟨k, rfl, h3, h4, h5⟩
  · cases vm with
    | some v => exact hm.elim
    | none =>
      rcases run_bound (P := P) (w := w) e2 hh with ⟨rfl, rfl⟩ | ⟨k2, rfl, hb2⟩ <;> rcases run_bound (P := P) (w := w) e1 hl with ⟨rfl, rfl⟩ | ⟨k1, rfl, hb1⟩
      · simp [Instr.sliceBounds]
      · simp [Instr.sliceBounds, hb1 len .sliceB h1 h2]
      · simp only [Instr.sliceBounds, Sem.run_bind, Sem.run_pure, Result.andThen_ok, hb2 cap _ (by omega) (by omega)]
        simp
      · simp only [Instr.sliceBounds, Sem.run_bind, Sem.run_pure, Result.andThen_ok, hb2 cap _ (by omega) (by omega), hb1 h.toNat _ h1 (by omega)]
        simp
  · cases vm with
    | none => exact hm.elim
    | some v =>
      simp only [RelO, RelD] at hm; subst hm
      have hb3 : ∀ y code, 0 ≤ m → m ≤ (y : Nat) → (Instr.sliceBound (.int k m) y code).run P w = .ok m.toNat w := fun y code h0 h1 => by simp [Instr.sliceBound, asIntOf, h0, h1]
      rcases run_bound (P := P) (w := w) e2 hh with ⟨rfl, rfl⟩ | ⟨k2, rfl, hb2⟩
      · exfalso
        cases hi with
        | none => exact h5 rfl
        | some d => exact hh.elim
      · rcases run_bound (P := P) (w := w) e1 hl with ⟨rfl, rfl⟩ | ⟨k1, rfl, hb1⟩
        · simp only [Instr.sliceBounds, Sem.run_bind, Sem.run_pure, Result.andThen_ok, hb3 cap _ (by omega) (by omega), hb2 m.toNat _ (by omega) (by omega)]
          simp
        · simp only [Instr.sliceBounds, Sem.run_bind, Sem.run_pure, Result.andThen_ok, hb3 cap _ (by omega) (by omega), hb2 m.toNat _ (by omega) (by omega), hb1 h.toNat _ h1 (by omega)]

theorem ros_cut {I : Nat → Prop} {w : World} {cs : List DV} {b o : Nat} {c : Array Value} {e : Nat} {f : Nat × Nat} (hI : I b) (hb : w.heap[b]? = some (.cells c e f)) (hrel : RelDs I w cs (c.toList.drop o)) (l h : Nat) (z : Nat) (m' : Nat)
    (hm : h - l ≤ m' - l) (hmm : m' ≤ maxLen) (hlm : h ≤ m') (cap : Option Nat) (hcap : ∀ k, cap = some k → m' - l = k) (hlh : l ≤ h) :
    RelD I w (.ros (ltake (ldrop cs (l * z)) ((h - l) * z)) (h - l) cap) (.slice (if m' = l then some ⟨b, o, none⟩ else (some ⟨b, o, none⟩ : Option Addr).map (·.add (l * z))) (h - l) (m' - l)) := by
  simp only [RelD]
  refine .inr ?_
  rw [ltake_eq, ldrop_eq]
  by_cases hml : m' = l
  · rw [if_pos hml]
    refine ⟨b, o, c, m' - l, e, f, rfl, hI, hb, hm, by omega, hcap, ?_⟩
    have : h - l = 0 := by omega
    simp [this, RelDs]
  · rw [if_neg hml]
    refine ⟨b, o + l * z, c, m' - l, e, f, by simp [addr_add], hI, hb, hm, by omega, hcap, ?_⟩
    have := relDs_drop hrel (l * z)
    rw [List.drop_drop] at this
    rw [relDs_iff] at this ⊢
    intro i d hd
    rw [List.getElem?_take] at hd
    split at hd
    · exact this i d hd
    · cases hd

theorem sliceA_sound {cx : Cx} {t : Nat} {ti : TyI} (ok : CxOK cx) (ht : cx.T t = some ti) {s : Wd} {x : AV} {u : Value} (hr : Rel s x u) {lo hi mx : Option DV} {vl vh vm : Option Value} (hl : RelO s lo vl) (hh : RelO s hi vh) (hm : RelO s mx vm)
    {K : AV → Prop} (hk : sliceA cx ti x lo hi mx K) : ∃ v a, (Instr.slice t u vl vh vm).run cx.P s.w = .ok v s.w ∧ K a ∧ Rel s a v := by
  obtain ⟨info, desc, z0, hi0, hu, hsz, _, _, _, hkk⟩ := ok.types t ti ht
  unfold sliceA at hk
  cases hk' : ti.k with
  | str =>
    rw [hk'] at hkk hk
    obtain rfl := tk_str hkk
    cases x with
    | dat d =>
      cases d with
      | str str =>
        cases mx with
        | some _ => exact False.elim hk
        | none =>
          obtain ⟨l, h, e1, e2, hk⟩ := both_elim hk
          obtain ⟨⟨h1, h2, h3⟩, hk⟩ := reqA_elim hk
          simp only [Rel, RelD] at hr; subst hr
          cases vm with
          | some v => exact hm.elim
          | none =>
            have hb := run_bounds (P := cx.P) (w := s.w) hl hh hm false str.size str.size (Nat.le_refl _) e1 e2 h1 h2 (m := str.size) (.inl ⟨rfl, rfl, h3⟩)
            refine ⟨.string (str.extract l.toNat h.toNat), _, ?_, hk, by simp only [Rel, RelD]⟩
            simp only [Instr.slice, Sem.run_bind, run_underlying hu, Result.andThen_ok, Option.isSome_none, Bool.false_eq_true, if_false, hb, Sem.run_pure]
      | _ => exact False.elim hk
    | _ => exact False.elim hk
  | slc e =>
    rw [hk'] at hkk hk
    obtain rfl := tk_slc hkk
    obtain ⟨te, hte, hk1⟩ := hasTy_elim hk
    clear hk
    have hk := hk1
    clear hk1
    obtain ⟨infe, _, _, hie, _, hse, _⟩ := ok.types e te hte
    have hsz2 : (sizeOf e).run cx.P s.w = .ok te.size s.w := by simp [sizeOf, typeInfo, hie, hse]
    have run : ∀ (a : Option Addr) (n m : Nat) (l h : Int) (m2 : Int), (Instr.sliceBounds true n m vl vh vm).run cx.P s.w = .ok (l.toNat, h.toNat, m2.toNat) s.w →
        (Instr.slice t (.slice a n m) vl vh vm).run cx.P s.w = .ok (.slice (if m2.toNat = l.toNat then a else a.map (·.add (l.toNat * te.size))) (h.toNat - l.toNat) (m2.toNat - l.toNat)) s.w := by
      intro a n m l h m2 hb
      simp only [Instr.slice, Sem.run_bind, run_underlying hu, Result.andThen_ok, hb, hsz2, Sem.run_pure]
    cases x with
    | dat d =>
      cases d with
      | nils =>
        cases mx with
        | some _ => exact False.elim hk
        | none =>
          obtain ⟨l, h, e1, e2, hk⟩ := both_elim hk
          obtain ⟨⟨el0, eh0⟩, hk2⟩ := reqA_elim hk
          subst el0 eh0
          simp only [Rel, RelD] at hr; subst hr
          have hb := run_bounds (P := cx.P) (w := s.w) hl hh hm true 0 0 (Nat.le_refl _) e1 e2 (Int.le_refl _) (Int.le_refl _) (m := 0) (.inl ⟨rfl, rfl, by simp⟩)
          exact ⟨_, _, run none 0 0 0 0 0 hb, hk2, by simp only [Rel, RelD]; simp⟩
      | ros cs n cap =>
        obtain ⟨l, h, e1, e2, hk⟩ := both_elim hk
        simp only [Rel, RelD] at hr
        rcases hr with ⟨rfl, rfl, rfl, a, rfl⟩ | ⟨b, o, c, m, el, f, rfl, hI, hbb, hnm, hmm, hcm, hrel⟩
        · cases mx with
          | none =>
            obtain ⟨⟨h1, h2, h3⟩, hk⟩ := reqA_elim hk
            obtain rfl : l = 0 := by omega
            obtain rfl : h = 0 := by omega
            have hb := run_bounds (P := cx.P) (w := s.w) hl hh hm true 0 0 (Nat.le_refl _) e1 e2 (Int.le_refl _) (Int.le_refl _) (m := 0) (.inl ⟨rfl, rfl, by simp⟩)
            exact ⟨_, _, run (some a) 0 0 0 0 0 hb, hk, by simp only [Rel, RelD]; exact .inl ⟨rfl, rfl, by simp [ltake, ltakeI], a, by simp⟩⟩
          | some d =>
            cases d with
            | int k m2 =>
              cases hi with
              | none => exact False.elim hk
              | some dh =>
                obtain ⟨⟨h1, h2, h3, h4⟩, hk⟩ := reqA_elim hk
                obtain rfl : l = 0 := by omega
                obtain rfl : h = 0 := by omega
                obtain rfl : m2 = 0 := by omega
                have hb := run_bounds (P := cx.P) (w := s.w) hl hh hm true 0 0 (Nat.le_refl _) e1 e2 (Int.le_refl _) (Int.le_refl _) (m := 0) (.inr ⟨_, rfl, by omega, by omega, by simp⟩)
                exact ⟨_, _, run (some a) 0 0 0 0 0 hb, hk, by simp only [Rel, RelD]; exact .inl ⟨rfl, rfl, by simp [ltake, ltakeI], a, by simp⟩⟩
            | _ => exact False.elim hk
        cases mx with
        | none =>
          obtain ⟨⟨h1, h2, h3⟩, hk⟩ := reqA_elim hk
          have hb := run_bounds (P := cx.P) (w := s.w) hl hh hm true n m hnm e1 e2 h1 h2 (m := m) (.inl ⟨rfl, rfl, h3⟩)
          have hcap : ∀ k, cutCap cap l.toNat = some k → (m : Int).toNat - l.toNat = k := fun k hk => by
            cases cap with
            | none => simp [cutCap] at hk
            | some k0 => simp only [cutCap, Option.some.injEq] at hk; rw [← hk, ← hcm k0 rfl]; simp
          exact ⟨_, _, run _ n m l h m hb, hk, by simp only [Rel]; exact ros_cut hI hbb hrel l.toNat h.toNat te.size (m : Int).toNat (by omega) (by simpa using hmm) (by omega) _ hcap (by omega)⟩
        | some d =>
          cases d with
          | int k m2 =>
            cases hi with
            | none => exact False.elim hk
            | some dh =>
              obtain ⟨⟨h1, h2, h3, h4⟩, hk⟩ := reqA_elim hk
              have hb := run_bounds (P := cx.P) (w := s.w) hl hh hm true n m hnm e1 e2 h1 h2 (m := m2) (.inr ⟨_, rfl, h3, h4, by simp⟩)
              exact ⟨_, _, run _ n m l h m2 hb, hk, by simp only [Rel]; exact ros_cut hI hbb hrel l.toNat h.toNat te.size m2.toNat (by omega) (by omega) (by omega) _ (fun k hk => by simpa using hk) (by omega)⟩
          | _ => exact False.elim hk
      | _ => exact False.elim hk
    | sl id off n cap z =>
      cases hzq : Nat.beq z te.size with
      | false => simp only [hzq] at hk
      | true =>
        simp only [hzq] at hk
        have hz := Nat.eq_of_beq_eq_true hzq
        subst hz
        obtain ⟨l, h, e1, e2, hk⟩ := both_elim hk
        simp only [Rel] at hr
        obtain ⟨b, m, c, el, f, hρ, rfl, hnm, hmm, hcm, hbb, hroom⟩ := hr
        have fin : ∀ (m' : Nat) (cap' : Option Nat), h.toNat ≤ m' → m' ≤ m → (∀ k, cap' = some k → m' - l.toNat = k) → l ≤ h → 0 ≤ l → (l = 0 ∨ l < h) →
            Rel s (.sl id (off + l.toNat * te.size) (h.toNat - l.toNat) cap' te.size) (.slice (if m' = l.toNat then some ⟨b, off, none⟩ else (some ⟨b, off, none⟩ : Option Addr).map (·.add (l.toNat * te.size))) (h.toNat - l.toNat) (m' - l.toNat)) := by
          intro m' cap' h1 h2 h3 h4 h5 h6
          simp only [Rel]
          refine ⟨b, m' - l.toNat, c, el, f, hρ, ?_, by omega, by omega, h3, hbb, ?_⟩
          · split
            · rename_i hml
              have : l = 0 := by omega
              subst this; simp
            · simp [addr_add]
          · have h7 : l.toNat ≤ m' := by omega
            have h8 : m' * te.size ≤ m * te.size := Nat.mul_le_mul_right _ h2
            have h9 : l.toNat * te.size + (m' - l.toNat) * te.size = m' * te.size := by rw [← Nat.add_mul]; congr 1; omega
            omega
        cases mx with
        | none =>
          obtain ⟨⟨h1, h2, h3, h4⟩, hk⟩ := reqA_elim hk
          have hb := run_bounds (P := cx.P) (w := s.w) hl hh hm true n m hnm e1 e2 h1 h2 (m := m) (.inl ⟨rfl, rfl, h3⟩)
          have hcap : ∀ k, cutCap cap l.toNat = some k → (m : Int).toNat - l.toNat = k := fun k hk => by
            cases cap with
            | none => simp [cutCap] at hk
            | some k0 => simp only [cutCap, Option.some.injEq] at hk; rw [← hk, ← hcm k0 rfl]; simp
          exact ⟨_, _, run _ n m l h m hb, hk, fin (m : Int).toNat _ (by omega) (by simp) hcap h2 h1 h4⟩
        | some d =>
          cases d with
          | int k m2 =>
            cases hi with
            | none => exact False.elim hk
            | some dh =>
              obtain ⟨⟨h1, h2, h3, h4, h5⟩, hk⟩ := reqA_elim hk
              have hb := run_bounds (P := cx.P) (w := s.w) hl hh hm true n m hnm e1 e2 h1 h2 (m := m2) (.inr ⟨_, rfl, h3, h4, by simp⟩)
              exact ⟨_, _, run _ n m l h m2 hb, hk, fin m2.toNat _ (by omega) (by omega) (fun k hk => by simpa using hk) h2 h1 h5⟩
          | _ => exact False.elim hk
    | _ => exact False.elim hk
  | _ => rw [hk'] at hk; exact False.elim hk

/-! Interfaces. -/
def mkIfc (t : Nat) : AV → AV
  | .dat d => .dat (.iface t d)
  | v => .iface t v
theorem mkIfc_rel {s : Wd} {t : Nat} {a : AV} {v : Value} (h : Rel s a v) : Rel s (mkIfc t a) (.iface t v) := by
  cases a <;> simp only [mkIfc, Rel, RelD] at * <;> exact ⟨_, rfl, h⟩
def mkifcA (ti : TyI) (t : Nat) (a : AV) (K : AV → Prop) : Prop := match ti.k with
  | .ifc => False
  | _ => K (mkIfc t a)
theorem mkifcA_sound {cx : Cx} {t : Nat} {ti : TyI} (ok : CxOK cx) (ht : cx.T t = some ti) {s : Wd} {a : AV} {u : Value} (hr : Rel s a u) {K : AV → Prop} (hk : mkifcA ti t a K) :
    ∃ v r, (Instr.makeInterface t u).run cx.P s.w = .ok v s.w ∧ K r ∧ Rel s r v := by
  obtain ⟨info, desc, z0, hi0, hu, hsz, _, _, _, hkk⟩ := ok.types t ti ht
  unfold mkifcA at hk
  have hni : ∀ ms, desc ≠ .interface ms := by
    rintro ms rfl
    cases hk' : ti.k <;> rw [hk'] at hkk hk <;> first | exact hk | simp [TKOK] at hkk
  have hk2 : K (mkIfc t a) := by split at hk <;> first | exact hk | exact hk.elim
  refine ⟨_, _, ?_, hk2, mkIfc_rel hr⟩
  simp only [Instr.makeInterface, Sem.run_bind, run_underlying hu, Result.andThen_ok]
  try (cases desc <;> first | rfl | exact absurd rfl (hni _))

/-- x.(T), ok, of a concrete type T. -/
def tassOk (te : TyI) (u t : Nat) (v : AV) (ok : Bool) (K : AV → Prop) : Prop := match Nat.beq u t with
  | true => match ok with
    | true => K (.tup [v, .dat (.bool true)])
    | false => K v
  | false => match ok with
    | true => K (.tup [.dat te.zero, .dat (.bool false)])
    | false => False
def tassV (te : TyI) (t : Nat) (a : AV) (ok : Bool) (K : AV → Prop) : Prop := match a with
  | .dat (.iface u d) => tassOk te u t (.dat d) ok K
  | .iface u d => tassOk te u t d ok K
  | .dat .nili => match ok with
    | true => K (.tup [.dat te.zero, .dat (.bool false)])
    | false => False
  | _ => False
def tassA (te : TyI) (t : Nat) (a : AV) (ok : Bool) (K : AV → Prop) : Prop := match te.k with
  | .ifc => False
  | _ => tassV te t a ok K
theorem tup2 {s : Wd} {a : AV} {v : Value} (o : Bool) (h : Rel s a v) : Rel s (.tup [a, .dat (.bool o)]) (.tuple #[v, .bool o]) :=
  ⟨_, rfl, rfl, h, rfl, trivial⟩
theorem tassA_sound {cx : Cx} {t xt : Nat} {te : TyI} (ok : CxOK cx) (ht : cx.T t = some te) {s : Wd} {a : AV} {u : Value} (hr : Rel s a u) (b : Bool) {K : AV → Prop} (hk : tassA te t a b K) :
    ∃ v r, (Instr.typeAssert u xt t b).run cx.P s.w = .ok v s.w ∧ K r ∧ Rel s r v := by
  obtain ⟨info, desc, z, hi, hu, hsz, _, hz, hzr, hkk⟩ := ok.types t te ht
  unfold tassA at hk
  have hni : ∀ ms, desc ≠ .interface ms := by
    rintro ms rfl
    cases hk' : te.k <;> rw [hk'] at hkk hk <;> first | exact hk | simp [TKOK] at hkk
  have hk2 : tassV te t a b K := by cases hk' : te.k <;> rw [hk'] at hk <;> first | exact hk | exact hk.elim
  clear hk
  have hzv : (zeroValue t).run cx.P s.w = .ok z s.w := by simp [zeroValue, typeInfo, hi, hz]
  have hzr' : Rel s (.dat te.zero) z := by simpa [Rel] using hzr s.I s.w
  have one : ∀ u v a, Rel s a v → tassOk te u t a b K → ∃ v' r, (Instr.typeAssert (.iface u v) xt t b).run cx.P s.w = .ok v' s.w ∧ K r ∧ Rel s r v' := by
    intro u v a hra hk
    unfold tassOk at hk
    cases hbq : Nat.beq u t with
    | true =>
      have : u = t := Nat.eq_of_beq_eq_true hbq
      subst this
      simp only [hbq] at hk
      cases b with
      | true =>
        refine ⟨_, _, ?_, hk, tup2 _ hra⟩
        simp only [Instr.typeAssert, Sem.run_bind, run_underlying hu, Result.andThen_ok]
        cases desc <;> first | (simp; done) | exact absurd rfl (hni _)
      | false =>
        refine ⟨_, _, ?_, hk, hra⟩
        simp only [Instr.typeAssert, Sem.run_bind, run_underlying hu, Result.andThen_ok]
        cases desc <;> first | (simp; done) | exact absurd rfl (hni _)
    | false =>
      have hne : u ≠ t := fun e => by subst e; simp at hbq
      simp only [hbq] at hk
      cases b with
      | true =>
        refine ⟨_, _, ?_, hk, tup2 _ hzr'⟩
        simp only [Instr.typeAssert, Sem.run_bind, run_underlying hu, Result.andThen_ok]
        cases desc <;> first | (simp [hne, hzv]; done) | exact absurd rfl (hni _)
      | false => exact hk.elim
  unfold tassV at hk2
  split at hk2
  · simp only [Rel, RelD] at hr
    obtain ⟨v, rfl, hr⟩ := hr
    exact one _ v _ (by simpa [Rel] using hr) hk2
  · simp only [Rel] at hr
    obtain ⟨v, rfl, hr⟩ := hr
    exact one _ v _ hr hk2
  · simp only [Rel, RelD] at hr; subst hr
    cases b with
    | true =>
      refine ⟨_, _, ?_, hk2, tup2 _ hzr'⟩
      simp only [Instr.typeAssert, Sem.run_bind, run_underlying hu, Result.andThen_ok]
      cases desc <;> first | (simp [hzv]; done) | exact absurd rfl (hni _)
    | false => exact hk2.elim
  · exact hk2.elim

end Go.Abs
