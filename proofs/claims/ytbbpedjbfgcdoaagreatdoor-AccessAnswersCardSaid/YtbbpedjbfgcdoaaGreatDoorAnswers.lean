/- The law AccessAnswers of package antiphonlaw13 answers true at every input, and leaves its arguments as they were. Conditions: the package variables that the row lists hold what the program's text lays (the card ties them). -/
import Derived.Test.YtbbpedjbfgcdoaaGreatDoorP9
import Derived.OpenShut
import Derived.ChangeArms
import Derived.DataReads
import Derived.Carry
set_option linter.unusedSimpArgs false
set_option linter.unusedSectionVars false

namespace Go.Abs.X
open Go.Abs Go Go.Proofs

theorem doM_err (s : St) (c : Cmd) (h : (doM s c).1.2 ≠ 0) : (doM s c).2 = s := by
  unfold doM at h ⊢
  split
  · rfl
  rename_i c0
  rw [if_neg c0] at h
  split
  · rename_i k
    rw [if_pos k] at h
    have : ∀ t room name, (joinM t room name).1.2 ≠ 0 → (joinM t room name).2 = t := fun t room name h => by
      unfold joinM at h ⊢
      split
      · rfl
      rename_i a; rw [if_neg a] at h
      split
      · rfl
      rename_i a; rw [if_neg a] at h
      split
      · rfl
      rename_i a; rw [if_neg a] at h
      exact absurd rfl h
    rw [this s.t c.room c.name h]
  rename_i k; rw [if_neg k] at h
  split
  · rfl
  rename_i k; rw [if_neg k] at h
  split
  · rename_i k; rw [if_pos k] at h
    unfold leaveM at h ⊢
    split
    · rfl
    · rename_i e; rw [e] at h; exact absurd rfl h
  rename_i k; rw [if_neg k] at h
  split
  · rename_i k; rw [if_pos k] at h
    unfold publishM at h ⊢
    split
    · rfl
    rename_i a; rw [if_neg a] at h
    split
    · rfl
    rename_i a; rw [if_neg a] at h
    exact absurd rfl h
  rename_i k; rw [if_neg k] at h
  split
  · rename_i k; rw [if_pos k] at h
    unfold subscribeM at h ⊢
    split
    · rfl
    rename_i a; rw [if_neg a] at h
    split
    · rfl
    rename_i a; rw [if_neg a] at h
    split
    · rfl
    rename_i a; rw [a] at h
    dsimp only at h
    split
    · rename_i b; rw [b] at h
      dsimp only at h
      split
      · rfl
      · rename_i d; rw [if_neg d] at h; exact absurd rfl h
    · rename_i b; rw [b] at h; exact absurd rfl h
  rename_i k; rw [if_neg k] at h
  split
  · rename_i k; rw [if_pos k] at h
    unfold linkM at h ⊢
    split
    · rfl
    rename_i a; rw [a] at h
    dsimp only at h
    split at h
    · exact absurd rfl h
    · exact absurd rfl h
  rename_i k; rw [if_neg k] at h
  unfold trackM at h ⊢
  split
  · rfl
  rename_i a; rw [a] at h
  dsimp only at h
  split at h
  · exact absurd rfl h
  · exact absurd rfl h

/-! Commands that are handed in. -/
def Cmd.flat (c : Cmd) : List DV := [.int .i64 c.kind, .str c.room, .str c.name, .int .i64 c.peer, .int .i64 c.of, .int .i64 c.track, .int .i64 c.layer, .bool c.on, .bool c.video, c.sdv]
def cmdsD (cs : List Cmd) : List DV := flatD Cmd.flat cs
inductive Cl : List Cmd → DV → Prop
  | nil : Cl [] .nils
  | ros (cs : List Cmd) (cap : Option Nat) (h : ∀ c ∈ cs, Sl c.ssrcs c.sdv) : Cl cs (.ros (cmdsD cs) cs.length cap)
end Go.Abs.X

namespace Go.Abs.X
open Go.Abs Go Go.Proofs
variable {w0 : World}

set_option maxHeartbeats 4000000 in
theorem law_walk (L : Laid w0) (n : Int) (cs : List Cmd) (d : DV) (hd : Cl cs d) (hlen : cs.length ≤ maxLen) (K : AV → Heap → Prop) (hk : K (.dat (.bool true)) []) : CallA (cx w0) 6 [.dat (.int .i64 n), .dat d] [] K := by
  refine CallA.ret ?_
  refine CallA.enter ok (dr (plOf pl6)) Tryz.func6 Tryz.call6 ?_
  refine call_at [] (awake_ok L _ ?_) rfl rfl rfl rfl
  repeat (first | (refine condA_true ?_ ?_; focus (first | rfl | (simp; done) | (simp; omega))) | (refine condA_false ?_ ?_; focus (first | rfl | (simp; done) | (simp; omega))))
  refine call_at [] (hall_ok L n _ (fun m hm => ?_)) rfl rfl rfl rfl
  repeat (first | (refine condA_true ?_ ?_; focus (first | rfl | (simp; done) | (simp; omega))) | (refine condA_false ?_ ?_; focus (first | rfl | (simp; done) | (simp; omega))))
  have hm6 : m ≤ 6 := by
    have : clip n ≤ 6 := by unfold clip; split <;> split <;> omega
    omega
  have g0 := (hall_eq m hm6).2
  have g0 : Good (hallM m) (12 + 0) := ⟨g0.ok, g0.sz.mono (by omega), g0.up⟩
  generalize hallM m = s0 at g0 ⊢
  cases hd with
  | nil =>
    refine loopA_round ok (dr (plOf pl6) _) ?_
    repeat (first | (refine condA_true ?_ ?_; focus (first | rfl | (simp; done) | (simp; omega))) | (refine condA_false ?_ ?_; focus (first | rfl | (simp; done) | (simp; omega))))
    exact leaf [] (.dat (.bool true)) [] rfl rfl rfl rfl rfl hk
  | ros _ cap hs =>
  let E : Nat × St → Env := fun x => mkE [1, 5, 6] [.dat (.ros (cmdsD cs) cs.length cap), .ptr 0 0, .dat (.int .i64 (x.1 : Nat))]
  refine loop_in [1, 5, 6] [0, 1, 2, 3, 4, 5] [.dat (.ros (cmdsD cs) cs.length cap), .ptr 0 0, .dat (.int .i64 (0 : Nat))] s0.h rfl rfl rfl rfl (hin_cons rfl (hin_cons rfl (hin_cons rfl (hin_cons rfl (hin_cons rfl (hin_cons rfl hin_nil)))))) ?_
  refine loop_ind E (fun x => x.2.h) (fun x => x.1 ≤ 60 ∧ Good x.2 (12 + x.1)) (fun x => 60 - x.1) ?_ (0, s0) ⟨Nat.zero_le _, g0⟩
  rintro ⟨i, s⟩ ⟨hi, good⟩ ih
  replace hi : i ≤ 60 := hi
  replace good : Good s (12 + i) := good
  refine loopA_round ok (dr (plOf pl6) _) ?_
  by_cases hl : i < cs.length
  · by_cases h60 : i < 60
    · have hw : IntKind.i64.wrap ((i : Int) + 1) = ((i + 1 : Nat) : Int) := by rw [wrap_i64 _ (by omega) (by omega)]; omega
      have hci : cs[i]? = some cs[i] := by simp [hl]
      have hsl := hs cs[i] (by simp)
      have go := fun c => ih (i + 1, (doP s c).2) ⟨h60, good.next (by omega) c⟩ (by show 60 - (i + 1) < 60 - i; omega)
      dsimp only at go
      clear ih
      generalize cs[i] = c0 at hci hsl
      repeat (first | (refine condA_true ?_ ?_; focus (first | rfl | (simp; done) | (simp; omega) | (simp [hl]; done) | (simp [h60]; done) | (simp [hl]; omega) | (simp [h60]; omega) | (simp [hl, h60]; done))) | (refine condA_false ?_ ?_; focus (first | rfl | (simp; done) | (simp; omega) | (simp [hl]; done) | (simp [h60]; done) | (simp [hl]; omega) | (simp [h60]; omega) | (simp [hl, h60]; done))))
      refine req ⟨by omega, by omega⟩ ?_
      refine optA (.agg c0.flat) ?_ ?_
      · exact cutD_flat (z := 10) (fun _ => rfl) rfl rfl hci
      refine call_at [] (few_ok c0 hsl _ (fun sd hsd => ?_)) rfl rfl rfl rfl
      have hc := c0.few_OK sd hsd
      generalize c0.few sd = c at hc ⊢
      replace go := go c
      have hdo := doM_up good.up c
      have herr := doM_err s c
      rw [hdo] at herr
      generalize doP s c = r at go hdo herr
      obtain ⟨⟨rn, re⟩, s'⟩ := r
      dsimp only at go herr
      cases hcc : c with
      | mk kind room name peer of track layer on video ssrcs sdv =>
      subst hcc
      have hsl := hc.sl
      dsimp only at hsl
      have key : ∀ x : (Int × Int) × St, x.1.2 = re → x = ((rn, re), s') → x.2 = s' := fun x _ h => by rw [h]
      cases hsl
      all_goals
        refine req ?_ ?_
        · decide +kernel
        refine call_at [0, 1, 2, 3, 4, 5] (links_ok s good.ok _ ?_) rfl rfl rfl rfl
        repeat refine eqA ?_
        refine call_at [1, 5] (len_ok s.t _ ?_) rfl rfl rfl rfl
        repeat refine eqA ?_
        refine call_can ?_
        refine call_at [0, 1, 2, 3, 4, 5] (track_ok s good.ok (peer, track) _ ?_) rfl rfl rfl rfl
        cases hT : lk s.tracks (peer, track)
        all_goals
          simp only [trackR, hT]
          refine call_can ?_
          refine call_at [0, 1, 2, 3, 4, 5] (do_ok L s good.ok _ hc _ ?_) rfl rfl rfl rfl
          rw [hdo]
          dsimp only
          by_cases he : re = 0
          · repeat (first | (refine condA_true ?_ ?_; focus (first | rfl | (simp; done) | (simp; omega) | (simp [he]; done) | (simp [he]; omega))) | (refine condA_false ?_ ?_; focus (first | rfl | (simp; done) | (simp; omega) | (simp [he]; done) | (simp [he]; omega))))
            exact loop_in [1, 5, 6] [0, 1, 2, 3, 4, 5] [.dat (.ros (cmdsD cs) cs.length cap), .ptr 0 0, .dat (.int .i64 ((i + 1 : Nat) : Int))] s'.h (by rw [← hw]; rfl) rfl rfl rfl (hin_cons rfl (hin_cons rfl (hin_cons rfl (hin_cons rfl (hin_cons rfl (hin_cons rfl hin_nil)))))) go
          · obtain rfl : s' = s := herr he
            repeat (first | (refine condA_true ?_ ?_; focus (first | rfl | (simp; done) | (simp; omega) | (simp [he]; done) | (simp [he]; omega))) | (refine condA_false ?_ ?_; focus (first | rfl | (simp; done) | (simp; omega) | (simp [he]; done) | (simp [he]; omega))))
            refine call_can ?_
            refine call_at [0, 1, 2, 3, 4, 5] (track_ok s' good.ok (peer, track) _ ?_) rfl rfl rfl rfl
            simp only [trackR, hT]
            refine call_at [0, 1, 2, 3, 4, 5] (links_ok s' good.ok _ ?_) rfl rfl rfl rfl
            have hS := links_length s'
            have hS2 := good.ok.len
            generalize s'.links = S at hS ⊢
            by_cases hS0 : S = []
            · subst hS0
              repeat (first | (refine condA_true ?_ ?_; focus (first | rfl | (simp; done) | (simp; omega))) | (refine condA_false ?_ ?_; focus (first | rfl | (simp; done) | (simp; omega))))
              refine call_at [1, 5] (len_ok s'.t _ ?_) rfl rfl rfl rfl
              repeat (first | (refine condA_true ?_ ?_; focus (first | rfl | (simp; done) | (simp; omega))) | (refine condA_false ?_ ?_; focus (first | rfl | (simp; done) | (simp; omega))))
              refine loopA_round ok (dr (plOf pl6) _) ?_
              repeat (first | (refine condA_true ?_ ?_; focus (first | rfl | (simp; done) | (simp; omega))) | (refine condA_false ?_ ?_; focus (first | rfl | (simp; done) | (simp; omega))))
              exact loop_in [1, 5, 6] [0, 1, 2, 3, 4, 5] [.dat (.ros (cmdsD cs) cs.length cap), .ptr 0 0, .dat (.int .i64 ((i + 1 : Nat) : Int))] s'.h (by rw [← hw]; rfl) rfl rfl rfl (hin_cons rfl (hin_cons rfl (hin_cons rfl (hin_cons rfl (hin_cons rfl (hin_cons rfl hin_nil)))))) go
            · rw [valLink_cons S hS0]
              repeat (first | (refine condA_true ?_ ?_; focus (first | rfl | (simp; done) | (simp; omega))) | (refine condA_false ?_ ?_; focus (first | rfl | (simp; done) | (simp; omega))))
              refine call_at [1, 5] (len_ok s'.t _ ?_) rfl rfl rfl rfl
              repeat (first | (refine condA_true ?_ ?_; focus (first | rfl | (simp; done) | (simp; omega))) | (refine condA_false ?_ ?_; focus (first | rfl | (simp; done) | (simp; omega))))
              let E2 : Nat → Env := fun k => mkE [1, 5, 6, 8, 16, 112, 113] [.dat (.ros (cmdsD cs) cs.length cap), .ptr 0 0, .dat (.int .i64 (i : Nat)), .dat (.ros (linksD S) S.length none), .dat (.ros (linksD S) S.length none), .dat (.int .i64 (S.length : Nat)), .dat (.int .i64 (k : Nat))]
              refine loop_in [1, 5, 6, 8, 16, 112, 113] [0, 1, 2, 3, 4, 5] [.dat (.ros (cmdsD cs) cs.length cap), .ptr 0 0, .dat (.int .i64 (i : Nat)), .dat (.ros (linksD S) S.length none), .dat (.ros (linksD S) S.length none), .dat (.int .i64 (S.length : Nat)), .dat (.int .i64 (0 : Nat))] s'.h rfl rfl rfl rfl (hin_cons rfl (hin_cons rfl (hin_cons rfl (hin_cons rfl (hin_cons rfl (hin_cons rfl hin_nil)))))) ?_
              refine loop_ind E2 (fun _ => s'.h) (fun k => k ≤ S.length) (fun k => S.length - k) ?_ 0 (Nat.zero_le _)
              intro k hk2 ih2
              refine loopA_round ok (dr (plOf pl6) _) ?_
              by_cases hlt : k < S.length
              · have go2 := ih2 (k + 1) hlt (by omega)
                have hSk : S[k]? = some S[k] := by simp [hlt]
                have hw2 : IntKind.i64.wrap ((k : Int) + 1) = ((k + 1 : Nat) : Int) := by rw [wrap_i64 _ (by omega) (by omega)]; omega
                refine condA_true (by simpa using hlt) ?_
                refine req ?_ ?_
                · decide +kernel
                refine req ⟨by omega, by omega⟩ ?_
                refine optA (.agg S[k].flat) ?_ ?_
                · exact cutD_flat (z := 3) (fun _ => rfl) rfl rfl hSk
                refine req ⟨by omega, by omega⟩ ?_
                refine optA (.agg S[k].flat) ?_ ?_
                · exact cutD_flat (z := 3) (fun _ => rfl) rfl rfl hSk
                refine condA_false (by simp) ?_
                exact loop_in [1, 5, 6, 8, 16, 112, 113] [0, 1, 2, 3, 4, 5] [.dat (.ros (cmdsD cs) cs.length cap), .ptr 0 0, .dat (.int .i64 (i : Nat)), .dat (.ros (linksD S) S.length none), .dat (.ros (linksD S) S.length none), .dat (.int .i64 (S.length : Nat)), .dat (.int .i64 ((k + 1 : Nat) : Int))] s'.h (by rw [← hw2]; rfl) rfl rfl rfl (hin_cons rfl (hin_cons rfl (hin_cons rfl (hin_cons rfl (hin_cons rfl (hin_cons rfl hin_nil)))))) go2
              · obtain rfl : k = S.length := by omega
                refine condA_false (by simp) ?_
                exact loop_in [1, 5, 6] [0, 1, 2, 3, 4, 5] [.dat (.ros (cmdsD cs) cs.length cap), .ptr 0 0, .dat (.int .i64 ((i + 1 : Nat) : Int))] s'.h (by rw [← hw]; rfl) rfl rfl rfl (hin_cons rfl (hin_cons rfl (hin_cons rfl (hin_cons rfl (hin_cons rfl (hin_cons rfl hin_nil)))))) go
    · repeat (first | (refine condA_true ?_ ?_; focus (first | rfl | (simp; done) | (simp; omega) | (simp [hl]; done) | (simp [h60]; done) | (simp [hl]; omega) | (simp [h60]; omega) | (simp [hl, h60]; done))) | (refine condA_false ?_ ?_; focus (first | rfl | (simp; done) | (simp; omega) | (simp [hl]; done) | (simp [h60]; done) | (simp [hl]; omega) | (simp [h60]; omega) | (simp [hl, h60]; done))))
      exact leaf [] (.dat (.bool true)) [] rfl rfl rfl rfl rfl hk
  · repeat (first | (refine condA_true ?_ ?_; focus (first | rfl | (simp; done) | (simp; omega) | (simp [hl]; done) | (simp [hl]; omega))) | (refine condA_false ?_ ?_; focus (first | rfl | (simp; done) | (simp; omega) | (simp [hl]; done) | (simp [hl]; omega))))
    exact leaf [] (.dat (.bool true)) [] rfl rfl rfl rfl rfl hk
end Go.Abs.X

namespace Go.Abs.X
open Go.Abs Go Go.Proofs

/-! What a handed slice reads as, as data of ours. -/
theorem cell_block {w : World} {a : Addr} {v : Value} (h : w.cell? a = some v) : ∃ c e f, w.heap[a.block]? = some (.cells c e f) ∧ c[a.off]? = some v ∧ a.spot = none := by
  unfold World.cell? at h
  split at h
  · rename_i c e f hb
    cases hs : a.spot with
    | none => rw [hs] at h; exact ⟨c, e, f, hb, by simpa using h, rfl⟩
    | some s => rw [hs] at h; simp at h
  · cases h
/-- the first places of a slice of known room -/
theorem row_of {w : World} {a : Addr} {m : Nat} {vals : Nat → Value} (h0 : 0 < m) (h : ∀ i, i < m → w.cell? (a.add i) = some (vals i)) : ∃ b o c e f, a = ⟨b, o, none⟩ ∧ b < w.heap.size ∧ w.heap[b]? = some (.cells c e f) ∧ ∀ i, i < m → (c.toList.drop o)[i]? = some (vals i) := by
  obtain ⟨c, e, f, hb, _, hs⟩ := cell_block (h 0 h0)
  have hb : w.heap[a.block]? = some (.cells c e f) := hb
  have hs : a.spot = none := hs
  refine ⟨a.block, a.off, c, e, f, by cases a; simp_all, (Array.getElem?_eq_some_iff.1 hb).1, hb, fun i hi => ?_⟩
  obtain ⟨c', e', f', hb', hc', _⟩ := cell_block (h i hi)
  have e1 : (a.add i).block = a.block := by unfold Addr.add; split <;> rfl
  have e2 : (a.add i).off = a.off + i := by unfold Addr.add; split <;> simp_all
  rw [e1] at hb'
  rw [e2] at hc'
  rw [hb] at hb'
  cases hb'
  rw [List.getElem?_drop, Array.getElem?_toList]
  exact hc'
variable {H : Type} {enc : TypeId × Value → H} {P : Program} {W : World} {sp : Nat → Bool} {held : Bool}
theorem open_u32s {t e : TypeId} (ht : P.underlying t = some (.slice e)) (he : P.underlying e = some (.int .u32)) (hc : P.cellsOf e = 1) {fuel : Nat} {v : Value} {x : DataW H × List MemPlace}
    (h : DataW.trod enc P W 0 (fun _ => true) held fuel t [v] = some x) : ∃ xs d, Sl xs d ∧ RelD (fun n => n < W.heap.size) W d v := by
  rcases DataW.trod_slice ht h with ⟨hcs, _⟩ | ⟨a, len, cap, elems, rest, n, _, hcs, _, _, hlc, hcm, hel, helem, hspare, _⟩
  · simp only [List.cons.injEq, and_true] at hcs
    subst hcs
    exact ⟨[], .nils, .nil, by simp [RelD]⟩
  · simp only [List.cons.injEq, and_true] at hcs
    subst hcs
    obtain ⟨hr, hrest⟩ := hspare rfl
    rw [hc] at helem hrest
    rcases Nat.eq_zero_or_pos cap with h0 | h0
    · subst h0
      obtain rfl : len = 0 := by omega
      exact ⟨[], .ros [] 0 (some 0), Sl.ros [] (some 0), by rw [RelD]; exact .inl ⟨rfl, rfl, rfl, a, rfl⟩⟩
    · have one : ∀ j, j < cap → ∃ z : Int, W.cell? (a.add j) = some (.int .u32 z) := by
        intro j hj
        have get : ∀ (y : Option (DataW H × List MemPlace)) (o : Nat), (W.cells? 0 (a.add (o * 1)) 1).bind (DataW.trod enc P W 0 (fun _ => true) held n e) = y → y.isSome = true → ∃ z : Int, W.cell? (a.add o) = some (.int .u32 z) := by
          intro y o hy hs
          rw [Nat.mul_one] at hy
          cases hcl : W.cells? 0 (a.add o) 1 with
          | none => rw [hcl] at hy; simp at hy; subst hy; cases hs
          | some cs =>
            rw [hcl] at hy
            simp only [Option.bind_some] at hy
            obtain ⟨y0, hy0⟩ := Option.isSome_iff_exists.1 hs
            rw [hy0] at hy
            obtain ⟨z, hz, _, _⟩ := DataW.trod_int he hy
            subst hz
            obtain ⟨_, _, h3⟩ := World.cells?_some hcl
            have := h3 0 (by omega)
            refine ⟨z, ?_⟩
            simpa [Addr.add] using this
        by_cases hjl : j < len
        · exact get _ j (helem j hjl) (by rw [List.getElem?_eq_getElem (by omega)]; rfl)
        · obtain ⟨k, rfl⟩ : ∃ k, j = len + k := ⟨j - len, by omega⟩
          exact get _ (len + k) (hrest k (by omega)) (by rw [List.getElem?_eq_getElem (by omega)]; rfl)
      have ⟨zs, hzs⟩ : ∃ zs : Nat → Int, ∀ j, j < cap → W.cell? (a.add j) = some (.int .u32 (zs j)) := by
        refine ⟨fun j => if hj : j < cap then Classical.choose (one j hj) else 0, fun j hj => ?_⟩
        simp only [hj, dif_pos]
        exact Classical.choose_spec (one j hj)
      obtain ⟨b, o, c, e', f, rfl, hbl, hb, hcells⟩ := row_of h0 hzs
      refine ⟨(List.range len).map zs, .ros (u32s ((List.range len).map zs)) ((List.range len).map zs).length none, Sl.ros _ _, ?_⟩
      simp only [RelD]
      refine .inr ⟨b, o, c, cap, e', f, by simp, hbl, hb, by simpa using hlc, hcm, (fun k hk => by cases hk), ?_⟩
      rw [relDs_iff]
      intro i d hd
      rw [u32s_eq, List.map_map, List.getElem?_map, Option.map_eq_some_iff] at hd
      obtain ⟨j, hj, rfl⟩ := hd
      obtain ⟨hi, rfl⟩ := List.getElem?_eq_some_iff.1 hj
      simp only [List.length_range] at hi
      exact ⟨_, hcells i (by omega), by simp [u32, RelD]⟩
end Go.Abs.X

namespace Go.Abs.X
open Go.Abs Go Go.Proofs Go.Lib

theorem flatD_get {α : Type} {f : α → List DV} {z : Nat} (hz : ∀ x, (f x).length = z) (h0 : 0 < z) {l : List α} {q : Nat} {d : DV} (h : (flatD f l)[q]? = some d) : ∃ x, l[q / z]? = some x ∧ (f x)[q % z]? = some d := by
  have e : (flatD f l)[q]? = ((flatD f l).drop (q / z * z))[q % z]? := by
    rw [List.getElem?_drop]; congr 1; rw [Nat.mul_comm]; exact (Nat.div_add_mod q z).symm
  rw [e, drop_flat hz] at h
  cases hd : l.drop (q / z) with
  | nil => rw [hd] at h; simp [flatD] at h
  | cons x r =>
    rw [hd] at h
    refine ⟨x, ?_, ?_⟩
    · have := congrArg (·[0]?) hd
      simpa [List.getElem?_drop] using this
    · simp only [flatD] at h
      rwa [List.getElem?_append_left (by rw [hz]; exact Nat.mod_lt _ h0)] at h
section
variable {H : Type} {enc : TypeId × Value → H} {W : World} {held : Bool}
theorem one_take {cs : List Value} {k : Nat} {v : Value} (h : (cs.drop k).take 1 = [v]) : cs[k]? = some v := at_of_take h
/-- one command's cells -/
theorem open_cmd {fuel : Nat} {cs : List Value} {x : DataW H × List MemPlace} (h : DataW.trod enc Tryz.prog W 0 (fun _ => true) held fuel 37 cs = some x) :
    cs.length = 10 ∧ ∃ c : Cmd, Sl c.ssrcs c.sdv ∧ RelDs (fun n => n < W.heap.size) W c.flat cs := by
  obtain ⟨xs, n, rfl, _, hl, hxl, hall⟩ := DataW.trod_struct Tryz.underlying37 h
  have c10 : Tryz.prog.cellsOf 37 = 10 := by kernel_rfl
  have c3 : Tryz.prog.cellsOf 3 = 1 := by kernel_rfl
  have c9 : Tryz.prog.cellsOf 9 = 1 := by kernel_rfl
  have c4 : Tryz.prog.cellsOf 4 = 1 := by kernel_rfl
  have cU : Tryz.prog.cellsOf 35 = 1 := by kernel_rfl
  rw [c10] at hl
  have some_of : ∀ i, i < 10 → ∃ y, xs[i]? = some y := fun i hi => ⟨xs[i]'(by rw [hxl]; exact hi), List.getElem?_eq_getElem (by rw [hxl]; exact hi)⟩
  have int : ∀ (i : Nat), i < 10 → (∀ y, xs[i]? = some y → DataW.trod enc Tryz.prog W 0 (fun _ => true) held n 3 ((cs.drop i).take 1) = some y) → ∃ z : Int, cs[i]? = some (.int .i64 z) := fun i hi hf => by
    obtain ⟨y, hy⟩ := some_of i hi
    obtain ⟨z, hz, _, _⟩ := DataW.trod_int Tryz.underlying3 (hf y hy)
    exact ⟨z, one_take hz⟩
  have str : ∀ (i : Nat), i < 10 → (∀ y, xs[i]? = some y → DataW.trod enc Tryz.prog W 0 (fun _ => true) held n 9 ((cs.drop i).take 1) = some y) → ∃ z : ByteArray, cs[i]? = some (.string z) := fun i hi hf => by
    obtain ⟨y, hy⟩ := some_of i hi
    obtain ⟨z, hz, _, _⟩ := DataW.trod_string Tryz.underlying9 (hf y hy)
    exact ⟨z, one_take hz⟩
  have bool : ∀ (i : Nat), i < 10 → (∀ y, xs[i]? = some y → DataW.trod enc Tryz.prog W 0 (fun _ => true) held n 4 ((cs.drop i).take 1) = some y) → ∃ z : Bool, cs[i]? = some (.bool z) := fun i hi hf => by
    obtain ⟨y, hy⟩ := some_of i hi
    obtain ⟨z, hz, _⟩ := DataW.trod_bool Tryz.underlying4 (hf y hy)
    exact ⟨z, one_take hz⟩
  have f0 : DataW.trod enc Tryz.prog W 0 (fun _ => true) held n 3 ((cs.drop 0).take (Tryz.prog.cellsOf 3)) = xs[0]? := hall 0 _ rfl
  have f1 : DataW.trod enc Tryz.prog W 0 (fun _ => true) held n 9 ((cs.drop 1).take (Tryz.prog.cellsOf 9)) = xs[1]? := hall 1 _ rfl
  have f2 : DataW.trod enc Tryz.prog W 0 (fun _ => true) held n 9 ((cs.drop 2).take (Tryz.prog.cellsOf 9)) = xs[2]? := hall 2 _ rfl
  have f3 : DataW.trod enc Tryz.prog W 0 (fun _ => true) held n 3 ((cs.drop 3).take (Tryz.prog.cellsOf 3)) = xs[3]? := hall 3 _ rfl
  have f4 : DataW.trod enc Tryz.prog W 0 (fun _ => true) held n 3 ((cs.drop 4).take (Tryz.prog.cellsOf 3)) = xs[4]? := hall 4 _ rfl
  have f5 : DataW.trod enc Tryz.prog W 0 (fun _ => true) held n 3 ((cs.drop 5).take (Tryz.prog.cellsOf 3)) = xs[5]? := hall 5 _ rfl
  have f6 : DataW.trod enc Tryz.prog W 0 (fun _ => true) held n 3 ((cs.drop 6).take (Tryz.prog.cellsOf 3)) = xs[6]? := hall 6 _ rfl
  have f7 : DataW.trod enc Tryz.prog W 0 (fun _ => true) held n 4 ((cs.drop 7).take (Tryz.prog.cellsOf 4)) = xs[7]? := hall 7 _ rfl
  have f8 : DataW.trod enc Tryz.prog W 0 (fun _ => true) held n 4 ((cs.drop 8).take (Tryz.prog.cellsOf 4)) = xs[8]? := hall 8 _ rfl
  have f9 : DataW.trod enc Tryz.prog W 0 (fun _ => true) held n 35 ((cs.drop 9).take (Tryz.prog.cellsOf 35)) = xs[9]? := hall 9 _ rfl
  rw [c3] at f0 f3 f4 f5 f6
  rw [c9] at f1 f2
  rw [c4] at f7 f8
  rw [cU] at f9
  obtain ⟨z0, h0⟩ := int 0 (by decide) (fun y hy => by rw [f0, hy])
  obtain ⟨z1, h1⟩ := str 1 (by decide) (fun y hy => by rw [f1, hy])
  obtain ⟨z2, h2⟩ := str 2 (by decide) (fun y hy => by rw [f2, hy])
  obtain ⟨z3, h3⟩ := int 3 (by decide) (fun y hy => by rw [f3, hy])
  obtain ⟨z4, h4⟩ := int 4 (by decide) (fun y hy => by rw [f4, hy])
  obtain ⟨z5, h5⟩ := int 5 (by decide) (fun y hy => by rw [f5, hy])
  obtain ⟨z6, h6⟩ := int 6 (by decide) (fun y hy => by rw [f6, hy])
  obtain ⟨z7, h7⟩ := bool 7 (by decide) (fun y hy => by rw [f7, hy])
  obtain ⟨z8, h8⟩ := bool 8 (by decide) (fun y hy => by rw [f8, hy])
  obtain ⟨y9, e9⟩ := some_of 9 (by decide)
  rw [e9] at f9
  obtain ⟨v9, h9⟩ : ∃ v, cs[9]? = some v := ⟨cs[9]'(by omega), List.getElem?_eq_getElem (by omega)⟩
  have t9 : (cs.drop 9).take 1 = [v9] := by
    obtain ⟨hlt, rfl⟩ := List.getElem?_eq_some_iff.1 h9
    rw [List.drop_eq_getElem_cons hlt]; rfl
  rw [t9] at f9
  obtain ⟨xs9, d9, hs9, hr9⟩ := open_u32s Tryz.underlying35 Tryz.underlying54 (by kernel_rfl) f9
  refine ⟨hl, ⟨z0, z1, z2, z3, z4, z5, z6, z7, z8, xs9, d9⟩, hs9, ?_⟩
  have e : cs = [.int .i64 z0, .string z1, .string z2, .int .i64 z3, .int .i64 z4, .int .i64 z5, .int .i64 z6, .bool z7, .bool z8, v9] := by
    apply List.ext_getElem?
    intro i
    by_cases hi : i < 10
    · have : i = 0 ∨ i = 1 ∨ i = 2 ∨ i = 3 ∨ i = 4 ∨ i = 5 ∨ i = 6 ∨ i = 7 ∨ i = 8 ∨ i = 9 := by omega
      rcases this with rfl | rfl | rfl | rfl | rfl | rfl | rfl | rfl | rfl | rfl <;> simp only [*] <;> rfl
    · rw [List.getElem?_eq_none (by omega), List.getElem?_eq_none (by simp; omega)]
  rw [e]
  simp only [Cmd.flat, RelDs, RelD, and_true, true_and]
  exact hr9
theorem slice_val {P : Program} {t e : TypeId} (ht : P.underlying t = some (.slice e)) {r : Reach} {base : Nat} {v : Value} (h : Value.okWide P W r base t v) : v.cells.toList = [v] := by
  unfold Value.okWide at h
  rw [ht] at h
  simp only [Cell.okWide, Cell.ok, ht] at h
  cases v <;> simp_all [Value.cells]
theorem trod_one {P : Program} {t e : TypeId} (ht : P.underlying t = some (.slice e)) {r : Reach} {base : Nat} {v : Value} {d : DataW H} {p : List MemPlace} (hv : Value.okWide P W r base t v) (h : DataW.Trod enc P W 0 (fun _ => true) held t v d p) :
    ∃ fuel, DataW.trod enc P W 0 (fun _ => true) held fuel t [v] = some (d, p) := by
  obtain ⟨fuel, h⟩ := h
  rw [slice_val ht hv] at h
  exact ⟨fuel, h⟩
set_option maxRecDepth 100000 in
theorem open_cmds {r : Reach} {base : Nat} {v : Value} {d : DataW H} {p : List MemPlace} (hv : Value.okWide Tryz.prog W r base 22 v) (h : DataW.Trod enc Tryz.prog W 0 (fun _ => true) held 22 v d p) :
    ∃ cs D, Cl cs D ∧ cs.length ≤ maxLen ∧ RelD (fun n => n < W.heap.size) W D v := by
  obtain ⟨fuel, h⟩ := trod_one Tryz.underlying22 hv h
  have c10 : Tryz.prog.cellsOf 37 = 10 := by kernel_rfl
  rcases DataW.trod_slice Tryz.underlying22 h with ⟨hcs, _⟩ | ⟨a, len, cap, elems, rest, n, _, hcs, _, _, hlc, hcm, hel, helem, hspare, _⟩
  · simp only [List.cons.injEq, and_true] at hcs
    subst hcs
    exact ⟨[], .nils, .nil, by simp, by simp [RelD]⟩
  · simp only [List.cons.injEq, and_true] at hcs
    subst hcs
    obtain ⟨hr, hrest⟩ := hspare rfl
    rw [c10] at helem hrest
    rcases Nat.eq_zero_or_pos cap with h0 | h0
    · subst h0
      obtain rfl : len = 0 := by omega
      exact ⟨[], .ros [] 0 (some 0), Cl.ros [] (some 0) (fun _ h => (List.not_mem_nil h).elim), by simp, by rw [RelD]; exact .inl ⟨rfl, rfl, rfl, a, rfl⟩⟩
    · have one : ∀ j, j < cap → ∃ c : Cmd, Sl c.ssrcs c.sdv ∧ ∀ i, i < 10 → ∃ u, W.cell? (a.add (j * 10 + i)) = some u ∧ ∀ dd, c.flat[i]? = some dd → RelD (fun n => n < W.heap.size) W dd u := by
        intro j hj
        have get : ∀ (y : Option (DataW H × List MemPlace)) (o : Nat), (W.cells? 0 (a.add (o * 10)) 10).bind (DataW.trod enc Tryz.prog W 0 (fun _ => true) held n 37) = y → y.isSome = true → ∃ c : Cmd, Sl c.ssrcs c.sdv ∧ ∀ i, i < 10 → ∃ u, W.cell? (a.add (o * 10 + i)) = some u ∧ ∀ dd, c.flat[i]? = some dd → RelD (fun n => n < W.heap.size) W dd u := by
          intro y o hy hs
          cases hcl : W.cells? 0 (a.add (o * 10)) 10 with
          | none => rw [hcl] at hy; simp at hy; subst hy; cases hs
          | some cs =>
            rw [hcl] at hy
            simp only [Option.bind_some] at hy
            obtain ⟨y0, hy0⟩ := Option.isSome_iff_exists.1 hs
            rw [hy0] at hy
            obtain ⟨hlen, c, hsl, hrel⟩ := open_cmd hy
            obtain ⟨_, _, h3⟩ := World.cells?_some hcl
            refine ⟨c, hsl, fun i hi => ?_⟩
            have h4 := h3 i hi
            obtain ⟨u, hu⟩ : ∃ u, cs[i]? = some u := ⟨cs[i]'(by omega), List.getElem?_eq_getElem (by omega)⟩
            rw [hu] at h4
            refine ⟨u, ?_, fun dd hd => ?_⟩
            · rw [← h4]; congr 1
              unfold Addr.add
              split <;> split <;> split <;> simp_all <;> omega
            · obtain ⟨u2, hu2, hr2⟩ := relDs_iff.1 hrel i dd hd
              rw [hu] at hu2; cases hu2; exact hr2
        by_cases hjl : j < len
        · exact get _ j (helem j hjl) (by rw [List.getElem?_eq_getElem (by omega)]; rfl)
        · obtain ⟨k, rfl⟩ : ∃ k, j = len + k := ⟨j - len, by omega⟩
          exact get _ (len + k) (hrest k (by omega)) (by rw [List.getElem?_eq_getElem (by omega)]; rfl)
      have ⟨cm, hcm2⟩ : ∃ cm : Nat → Cmd, ∀ j, j < cap → Sl (cm j).ssrcs (cm j).sdv ∧ ∀ i, i < 10 → ∃ u, W.cell? (a.add (j * 10 + i)) = some u ∧ ∀ dd, (cm j).flat[i]? = some dd → RelD (fun n => n < W.heap.size) W dd u := by
        refine ⟨fun j => if hj : j < cap then Classical.choose (one j hj) else ⟨0, .empty, .empty, 0, 0, 0, 0, false, false, [], .nils⟩, fun j hj => ?_⟩
        simp only [hj, dif_pos]
        exact Classical.choose_spec (one j hj)
      have ⟨vals, hvals⟩ : ∃ vals : Nat → Value, ∀ q, q < cap * 10 → W.cell? (a.add q) = some (vals q) ∧ ∀ dd, (cm (q / 10)).flat[q % 10]? = some dd → RelD (fun n => n < W.heap.size) W dd (vals q) := by
        have ex : ∀ q, q < cap * 10 → ∃ u, W.cell? (a.add q) = some u ∧ ∀ dd, (cm (q / 10)).flat[q % 10]? = some dd → RelD (fun n => n < W.heap.size) W dd u := fun q hq => by
          obtain ⟨u, h1, h2⟩ := (hcm2 (q / 10) (by omega)).2 (q % 10) (by omega)
          have e : q / 10 * 10 + q % 10 = q := by omega
          rw [e] at h1
          exact ⟨u, h1, h2⟩
        refine ⟨fun q => if hq : q < cap * 10 then Classical.choose (ex q hq) else default, fun q hq => ?_⟩
        simp only [hq, dif_pos]
        exact Classical.choose_spec (ex q hq)
      obtain ⟨b, o, c, e', f, rfl, hbl, hb, hcells⟩ := row_of (m := cap * 10) (by omega) (fun q hq => (hvals q hq).1)
      refine ⟨(List.range len).map cm, .ros (cmdsD ((List.range len).map cm)) ((List.range len).map cm).length none, Cl.ros _ _ (fun x hx => ?_), by simp; omega, ?_⟩
      · obtain ⟨j, hj, rfl⟩ := List.mem_map.1 hx
        exact (hcm2 j (by have := List.mem_range.1 hj; omega)).1
      · simp only [RelD]
        refine .inr ⟨b, o, c, cap, e', f, by simp, hbl, hb, by simpa using hlc, hcm, (fun k hk => by cases hk), ?_⟩
        rw [relDs_iff]
        intro q dd hd
        obtain ⟨x, hx, hdd⟩ := flatD_get (f := Cmd.flat) (z := 10) (fun _ => rfl) (by decide) hd
        rw [List.getElem?_map, Option.map_eq_some_iff] at hx
        obtain ⟨j, hj, rfl⟩ := hx
        obtain ⟨hi, rfl⟩ := List.getElem?_eq_some_iff.1 hj
        simp only [List.length_range] at hi
        rw [List.getElem_range] at hdd
        have hq : q < cap * 10 := by omega
        exact ⟨_, hcells q hq, (hvals q hq).2 dd hdd⟩
end
end Go.Abs.X

namespace Go.Abs.X
open Go.Abs Go Go.Proofs Go.Proofs.YtbbpedjbfgcdoaaGreatDoor
open Go.ChangeShapes Go.WideShapes Go.ChangeAt Go.RowKit Go.Shelf Go.Lib

theorem own : ownKnob Tryz.prog.godebug = none := by kernel_rfl
theorem laidOut : laidOutB Tryz.prog = true := by kernel_rfl
noncomputable def laidW (os : Os) : World := World.laidAll Tryz.prog os laidL
theorem laidW_met (os : Os) (args : Array Value) : laidMetH Tryz.prog laidL ((laidW os).forCall (fun _ _ => 0) ⟨#[], args, []⟩).memory := by
  rw [MakeChecks.laidMetH_plain _ _ _ (by kernel_rfl)]
  exact laidMet_laidAll _ (by kernel_rfl) (by kernel_rfl)
theorem law_calls {W : World} (h : laidMetH Tryz.prog laidL W) (n : Int) {cs : List Cmd} {D : DV} (hcl : Cl cs D) (hlen : cs.length ≤ maxLen) {v : Value} (hr : RelD (fun n => n < W.heap.size) W D v) :
    Calls Tryz.prog 6 #[.int .i64 n, v] W fun e w' => e = .returned (.bool true) ∧ Below W.heap.size W w' := by
  have c := law_walk (laid_of h) n cs D hcl hlen (fun a h => a = .dat (.bool true) ∧ h = []) ⟨rfl, rfl⟩
  refine (calls_of_callA (cx := cx W) rfl (Nat.zero_le _) (fun _ => rfl) (args := [.int .i64 n, D]) rfl ?_ c).mono ?_
  · simp only [RelDs, RelD, and_true, true_and]
    exact hr
  rintro e w' ⟨v, a, h', s', he, ⟨ha, hh⟩, hr, hw, hb, _⟩
  subst ha
  simp only [Rel, RelD] at hr
  subst hr
  exact ⟨he, hb⟩
theorem law_reads (os : Os) {H : Type} (enc : TypeId × Value → H) : ∃ places, DataW.whole enc Tryz.prog ((laidW os).forCall (fun _ _ => 0) ⟨#[], #[.int .i64 0, .slice none 0 0], []⟩).memory Tryz.f6.params.toList Rows.accessAnswersSpec.vars false #[Value.int .i64 0, .slice none 0 0].toList 8 = some ([.lit (.int .i64 0), .nil], [], places) :=
  ⟨[], by kernel_rfl⟩
set_option maxRecDepth 100000 in
theorem law_lifted (os : Os) (started : os.Started) (H : Type) (enc : TypeId × Value → H) (F : Stop.Interp) :
    ReturnsInHanded {} Tryz.checked os 6 .any ((OpenSpec.ofChange Rows.accessAnswersSpec).preRow enc Tryz.prog Tryz.f6 Rows.accessAnswersRow.domain false Rows.accessAnswersRow.laid) (((OpenSpec.ofChange Rows.accessAnswersSpec).at F).post enc Tryz.prog Tryz.f6 false true false false) := by
  obtain ⟨places, hx⟩ := law_reads os enc
  refine returnsInHanded_of_row (C := Tryz.checked) (s := OpenSpec.ofChange Rows.accessAnswersSpec) own started (by kernel_rfl) Tryz.func6
    (witness_row_atRef (enc := enc) (C := Tryz.checked) false (laidW os) #[.int .i64 0, .slice none 0 0] (World.laidAll_os _ _ _) (by kernel_rfl) (by kernel_rfl) (by kernel_rfl)
      (OpenSpec.preRow_of_cond 8 hx (by kernel_rfl) (fun k hk => by cases hk) (by kernel_rfl) (laidW_met os _))) ?_
  intro W base args ds gs before hval0 hW _ _ _ hL _ _
  have hval : ∀ (j : Nat) t v, Tryz.f6.params[j]? = some t → args[j]? = some v → Value.okWide Tryz.prog W .any base t v := hval0
  have hW' := hW
  obtain ⟨p, q, hA0, hV, rfl, _, _⟩ := hW
  have hA : DataW.TrodAll enc Tryz.prog W 0 (fun _ => true) true Tryz.f6.params.toList args.toList ds p := hA0
  rw [Tryz.params6] at hA hval
  obtain ⟨v0, vs0, d0, ds0, p0, q0, hargs0, rfl, rfl, h0, r0⟩ := trodAll_cons hA
  obtain ⟨v1, vs1, d1, ds1, p1, q1, hargs1, rfl, rfl, h1, r1⟩ := trodAll_cons r0
  obtain ⟨rfl, rfl, rfl⟩ := trodAll_nil r1
  subst hargs1
  obtain rfl : args = #[v0, v1] := by apply Array.ext'; exact hargs0
  obtain ⟨rfl, rfl⟩ := trodVars_none hV
  obtain ⟨n, rfl, rfl, rfl, w0⟩ := open_int Tryz.underlying3 (hval 0 3 v0 rfl rfl) h0
  have hv1 := hval 1 22 v1 rfl rfl
  simp only [List.append_nil, List.nil_append] at hW'
  have hlt : ∀ x ∈ p1, x.block < W.heap.size := fun x hx => by simpa using hW'.lt x hx
  obtain ⟨cs, D, hcl, hlen, hr⟩ := open_cmds hv1 h1
  refine (law_calls hL n hcl hlen hr).mono fun e W' ⟨he, hb⟩ => ?_
  subst he
  exact ⟨_, rfl, _, _, _, [], _, [], hW', trodAll_mk1 (shut_bool Tryz.underlying4 _), trodAll_cons_mk (shut_int Tryz.underlying3 w0) (trodAll_mk1 (Below.trod laidOut (by kernel_rfl) (of_decide_eq_true (by kernel_rfl)) h1 hb hlt)), rfl, hb.frame _, fun h => by cases h⟩
theorem law_said : Rows.AccessAnswersSaid :=
  OpenClaim.holds_of_cond 6 Tryz.f6 rfl rfl rfl rfl rfl rfl rfl ⟨rfl, rfl, rfl, rfl, rfl⟩ rfl rfl rfl rfl rfl (by kernel_rfl) Tryz.func6 (by kernel_rfl)
    (of_decide_eq_true (by kernel_rfl)) (by unfold Func.isWrapper; first | (rw [if_pos (by decide +kernel)]; kernel_rfl) | (rw [if_neg (by decide +kernel)]; exact ⟨rfl, rfl⟩))
    (fun os started H enc _ F => by rw [OpenClaim.pre_eq_preRow]; exact law_lifted os started H enc F)
theorem law_plain (f : FuncId) (fn : Func) (hf : Tryz.pinned.checked.prog.funcNamed "antiphon/antiphonlaw13.AccessAnswers" = some f) (hfn : Tryz.pinned.checked.prog.funcs[f]? = some fn) :
    true = Tryz.pinned.checked.prog.looks [] ∧ ∀ (j : Nat) t, fn.params[j]? = some t → Tryz.pinned.checked.prog.wantsStandIn t = false := by
  obtain rfl : f = 6 := Option.some.inj ((show Tryz.prog.funcNamed "antiphon/antiphonlaw13.AccessAnswers" = some 6 by kernel_rfl).symm.trans hf) |>.symm
  obtain rfl : fn = Tryz.f6 := (Option.some.inj (Tryz.func6.symm.trans hfn)).symm
  refine ⟨by kernel_rfl, fun j t ht => ?_⟩
  rw [Tryz.params6] at ht
  have hm : t ∈ [3, 22] := by simpa using Array.mem_of_getElem? ht
  have hall : ([3, 22].all fun u => !Tryz.prog.wantsStandIn u) = true := by kernel_rfl
  exact (show Tryz.prog.wantsStandIn t = false by simpa using List.all_eq_true.1 hall t hm)
theorem law_card : Rows.AccessAnswersCardSaid :=
  Claim7.holds_tied_plain_at .later [] _ _ _ _ law_said (fun _ h => by cases h) (by kernel_rfl) (fun _ h => by cases h) accessAnswers_row_tie rfl ⟨rfl, rfl⟩ (by kernel_rfl) rfl law_plain (by kernel_rfl)
end Go.Abs.X
namespace Go.Proofs.YtbbpedjbfgcdoaaGreatDoor
theorem accessAnswers_holds : Rows.AccessAnswersCardSaid := Go.Abs.X.law_card
end Go.Proofs.YtbbpedjbfgcdoaaGreatDoor
