/- A part of the proof behind the last text of this folder: B5, B6, B7, B8, M10, M11, B9, Z1. -/
import Derived.Test.YtbbpedjbfgcdoaaGreatDoorP8
import Derived.Test.YtbbpedjbfgcdoaaGreatDoorP7
import Derived.Test.YtbbpedjbfgcdoaaGreatDoorCards
import Derived.Test.YtbbpedjbfgcdoaaGreatDoorTie
import Derived.WalkKit
import Derived.ProofKit
import Derived.OpenShut
import Derived.Deep.DeepHandedRow
import Derived.Deep.DeepWitnessRowRef
import Derived.Lib.LaidTab
import Derived.Lib.LaidRTab
import Derived.Lib.LaidCase
import Derived.PinnedBridge
import Derived.Lay
import Derived.LaidOnce
import Derived.SevenTiedAt
set_option linter.unusedSimpArgs false
set_option linter.unusedSectionVars false

namespace Go.Abs.X
open Go.Abs Go Go.Proofs
variable {w0 : World}

set_option maxHeartbeats 1000000 in
theorem subscribe_ok (L : Laid w0) (s : St) (hs : StOK s) (c : Cmd) (hc : Sl c.ssrcs c.sdv) (K : AV → Heap → Prop) (hk : K (.dat (.int .i64 (subscribeM s c).1)) (subscribeM s c).2.h) : CallA (cx w0) 37 [.ptr 0 0, .dat c.dv] s.h K := by
  have e : c.link = ⟨c.peer, c.of, c.track⟩ := rfl
  unfold subscribeM at hk
  obtain ⟨kind, room, name, peer, of, track, layer, on, video, ssrcs, sdv⟩ := c
  dsimp only at hc e hk
  generalize Cmd.link _ = l at hk e
  refine CallA.ret ?_
  refine CallA.enter ok (dr (plOf pl37)) Tryz.func37 Tryz.call37 ?_
  by_cases c1 : of = peer
  · rw [if_pos c1] at hk
    cases hc
    all_goals
      repeat (first | (refine condA_true ?_ ?_; focus (first | rfl | (simp; done) | (simp; omega) | (simp [c1]; done) | (simp [c1]; omega))) | (refine condA_false ?_ ?_; focus (first | rfl | (simp; done) | (simp; omega) | (simp [c1]; done) | (simp [c1]; omega))))
      exact leaf [0, 1, 2, 3, 4, 5] (.dat (.int .i64 15)) s.h rfl rfl rfl rfl rfl hk
  rw [if_neg c1] at hk
  have c1' : ¬ peer = of := fun h => c1 h.symm
  cases hc
  all_goals
    repeat (first | (refine condA_true ?_ ?_; focus (first | rfl | (simp; done) | (simp; omega) | (simp [c1]; done) | (simp [c1]; omega))) | (refine condA_false ?_ ?_; focus (first | rfl | (simp; done) | (simp; omega) | (simp [c1]; done) | (simp [c1]; omega))))
    refine req ?_ ?_
    · decide +kernel
    refine call_at [1, 5] (together_ok L s.t hs.t peer of _ ?_) rfl rfl rfl rfl
    repeat refine eqA ?_
    by_cases c2 : togetherM s.t peer of = false
    · rw [if_pos c2] at hk
      repeat (first | (refine condA_true ?_ ?_; focus (first | rfl | (simp; done) | (simp; omega) | (simp [c2]; done) | (simp [c2]; omega))) | (refine condA_false ?_ ?_; focus (first | rfl | (simp; done) | (simp; omega) | (simp [c2]; done) | (simp [c2]; omega))))
      exact leaf [0, 1, 2, 3, 4, 5] (.dat (.int .i64 7)) s.h rfl rfl rfl rfl rfl hk
    rw [if_neg c2] at hk
    have c2 : togetherM s.t peer of = true := by simpa using c2
    repeat (first | (refine condA_true ?_ ?_; focus (first | rfl | (simp; done) | (simp; omega) | (simp [c2]; done) | (simp [c2]; omega))) | (refine condA_false ?_ ?_; focus (first | rfl | (simp; done) | (simp; omega) | (simp [c2]; done) | (simp [c2]; omega))))
    refine req ?_ ?_
    · decide +kernel
    refine look_enc EK (k := (of, track)) (fun h => ?_) (fun t h => ?_)
    · rw [h] at hk
      repeat refine eqA ?_
      repeat (first | (refine condA_true ?_ ?_; focus (first | rfl | (simp; done) | (simp; omega))) | (refine condA_false ?_ ?_; focus (first | rfl | (simp; done) | (simp; omega))))
      exact leaf [0, 1, 2, 3, 4, 5] (.dat (.int .i64 9)) s.h rfl rfl rfl rfl rfl hk
    rw [h] at hk
    dsimp only at hk
    repeat refine eqA ?_
    repeat (first | (refine condA_true ?_ ?_; focus (first | rfl | (simp; done) | (simp; omega))) | (refine condA_false ?_ ?_; focus (first | rfl | (simp; done) | (simp; omega))))
    refine req ?_ ?_
    · decide +kernel
    refine look_enc EL (k := ⟨peer, of, track⟩) (fun h2 => ?_) (fun x h2 => ?_)
    · rw [← e] at h2
      rw [h2] at hk
      subst e
      dsimp only at hk
      repeat refine eqA ?_
      repeat (first | (refine condA_true ?_ ?_; focus (first | rfl | (simp; done) | (simp; omega))) | (refine condA_false ?_ ?_; focus (first | rfl | (simp; done) | (simp; omega))))
      refine call_at [0, 1, 2, 3, 4, 5] (count_ok s hs peer _ ?_) rfl rfl rfl rfl
      by_cases c3 : 16 ≤ cntM s peer
      · rw [if_pos c3] at hk
        repeat (first | (refine condA_true ?_ ?_; focus (first | rfl | (simp; done) | (simp; omega) | (simp [c3]; done) | (simp [c3]; omega))) | (refine condA_false ?_ ?_; focus (first | rfl | (simp; done) | (simp; omega) | (simp [c3]; done) | (simp [c3]; omega))))
        exact leaf [0, 1, 2, 3, 4, 5] (.dat (.int .i64 11)) s.h rfl rfl rfl rfl rfl hk
      · rw [if_neg c3] at hk
        repeat (first | (refine condA_true ?_ ?_; focus (first | rfl | (simp; done) | (simp; omega) | (simp [c3]; done) | (simp [c3]; omega))) | (refine condA_false ?_ ?_; focus (first | rfl | (simp; done) | (simp; omega) | (simp [c3]; done) | (simp [c3]; omega))))
        refine req ?_ ?_
        · decide +kernel
        refine req (isSome_enc EL s.subs ⟨peer, of, track⟩) ?_
        exact leaf_in [0, 1, 2, 3, 4, 5] (.dat (.int .i64 0)) (St.h ⟨s.t, s.tracks, ins s.subs ⟨peer, of, track⟩ (layer, false), s.srcs⟩) rfl rfl rfl rfl (hin_cons rfl (hin_cons rfl (hin_cons rfl (hin_cons (ren_mapD (ins_enc EL s.subs ⟨peer, of, track⟩ (layer, false))) (hin_cons rfl (hin_cons rfl hin_nil)))))) hk
    · rw [← e] at h2
      rw [h2] at hk
      subst e
      dsimp only at hk
      repeat refine eqA ?_
      repeat (first | (refine condA_true ?_ ?_; focus (first | rfl | (simp; done) | (simp; omega))) | (refine condA_false ?_ ?_; focus (first | rfl | (simp; done) | (simp; omega))))
      refine req ?_ ?_
      · decide +kernel
      refine req (isSome_enc EL s.subs ⟨peer, of, track⟩) ?_
      exact leaf_in [0, 1, 2, 3, 4, 5] (.dat (.int .i64 0)) (St.h ⟨s.t, s.tracks, ins s.subs ⟨peer, of, track⟩ (layer, x.2), s.srcs⟩) rfl rfl rfl rfl (hin_cons rfl (hin_cons rfl (hin_cons rfl (hin_cons (ren_mapD (ins_enc EL s.subs ⟨peer, of, track⟩ (layer, x.2))) (hin_cons rfl (hin_cons rfl hin_nil)))))) hk
end Go.Abs.X

namespace Go.Abs.X
open Go.Abs Go Go.Proofs
variable {w0 : World}

theorem isSome_i1 (l : List (Int × SrcV)) (a b : Int) (x : SrcV) : (findE (insE (l.map EU.e) (EU.k a) (EU.v a x)) (EU.k b)).isSome = true := by rw [ins_enc]; exact isSome_enc EU _ _
theorem isSome_i2 (l : List (Int × SrcV)) (a b c : Int) (x y : SrcV) : (findE (insE (insE (l.map EU.e) (EU.k a) (EU.v a x)) (EU.k b) (EU.v b y)) (EU.k c)).isSome = true := by rw [ins_enc, ins_enc]; exact isSome_enc EU _ _
set_option maxHeartbeats 2000000 in
theorem publish_ok (s : St) (c : Cmd) (hc : Sl c.ssrcs c.sdv) (h3 : 1 ≤ c.ssrcs.length ∧ c.ssrcs.length ≤ 3) (K : AV → Heap → Prop) (hk : K (.dat (.int .i64 (publishM s c).1)) (publishM s c).2.h) : CallA (cx w0) 36 [.ptr 0 0, .dat c.dv] s.h K := by
  have e : c.key = (c.peer, c.track) := rfl
  unfold publishM at hk
  obtain ⟨kind, room, name, peer, of, track, layer, on, video, ssrcs, sdv⟩ := c
  dsimp only at hc e hk h3
  rw [e] at hk
  clear e
  cases hc with
  | nil => simp at h3
  | ros xs cap =>
    refine CallA.ret ?_
    refine CallA.enter ok (dr (plOf pl36)) Tryz.func36 Tryz.call36 ?_
    refine req ?_ ?_
    · decide +kernel
    refine look_enc EK (k := (peer, track)) (fun h => ?_) (fun t h => ?_)
    case refine_2 =>
      rw [h, if_pos (by simp)] at hk
      repeat refine eqA ?_
      repeat (first | (refine condA_true ?_ ?_; focus (first | rfl | (simp; done) | (simp; omega))) | (refine condA_false ?_ ?_; focus (first | rfl | (simp; done) | (simp; omega))))
      exact leaf [0, 1, 2, 3, 4, 5] (.dat (.int .i64 10)) s.h rfl rfl rfl rfl rfl hk
    rw [h, if_neg (by simp)] at hk
    repeat refine eqA ?_
    repeat (first | (refine condA_true ?_ ?_; focus (first | rfl | (simp; done) | (simp; omega))) | (refine condA_false ?_ ?_; focus (first | rfl | (simp; done) | (simp; omega))))
    rcases ssrcs with _ | ⟨a, _ | ⟨b, _ | ⟨c, _ | ⟨d, l⟩⟩⟩⟩
    · simp at h3
    · have hl : 0 < [a].length := by simp
      refine loopA_round ok (dr (plOf pl36) _) ?_
      refine condA_true rfl ?_
      refine req (of_decide_eq_true rfl) ?_
      refine optA _ rfl ?_
      refine look_enc EU (k := a) (fun ha => ?_) (fun t ha => ?_)
      case refine_2 =>
        rw [if_pos (by simp [anySrc, ha])] at hk
        repeat (first | (refine condA_true ?_ ?_; focus (first | rfl | (simp; done) | (simp; omega))) | (refine condA_false ?_ ?_; focus (first | rfl | (simp; done) | (simp; omega))))
        exact leaf [0, 1, 2, 3, 4, 5] (.dat (.int .i64 16)) s.h rfl rfl rfl rfl rfl hk
      repeat (first | (refine condA_true ?_ ?_; focus (first | rfl | (simp; done) | (simp; omega))) | (refine condA_false ?_ ?_; focus (first | rfl | (simp; done) | (simp; omega))))
      refine loopA_round ok (dr (plOf pl36) _) ?_
      refine condA_false rfl ?_
      rw [if_neg (by simp [anySrc, ha])] at hk
      refine req ?_ ?_
      · decide +kernel
      refine call_at [] (clone_ok [a] cap hl (by simp) _ ?_) rfl rfl rfl rfl
      repeat refine eqA ?_
      refine req (isSome_enc EK s.tracks (peer, track)) ?_
      refine loopA_round ok (dr (plOf pl36) _) ?_
      refine condA_true rfl ?_
      refine req (of_decide_eq_true rfl) ?_
      refine optA _ rfl ?_
      refine req ?_ ?_
      · decide +kernel
      refine req (isSome_enc EU s.srcs a) ?_
      refine loopA_round ok (dr (plOf pl36) _) ?_
      refine condA_false rfl ?_
      exact leaf_in [0, 1, 2, 3, 4, 5] (.dat (.int .i64 0)) (St.h ⟨s.t, ins s.tracks (peer, track) ⟨video, false, [a]⟩, s.subs, inss s.srcs (peer, track) [a] 0⟩) rfl rfl rfl rfl (hin_cons rfl (hin_cons rfl (hin_cons (ren_mapD (ins_enc EK s.tracks (peer, track) ⟨video, false, [a]⟩)) (hin_cons rfl (hin_cons (ren_mapD (by simp only [inss]; rw [← ins_enc EU]; rfl)) (hin_cons rfl hin_nil)))))) hk
    · have hl : 0 < [a, b].length := by simp
      refine loopA_round ok (dr (plOf pl36) _) ?_
      refine condA_true rfl ?_
      refine req (of_decide_eq_true rfl) ?_
      refine optA _ rfl ?_
      refine look_enc EU (k := a) (fun ha => ?_) (fun t ha => ?_)
      case refine_2 =>
        rw [if_pos (by simp [anySrc, ha])] at hk
        repeat (first | (refine condA_true ?_ ?_; focus (first | rfl | (simp; done) | (simp; omega))) | (refine condA_false ?_ ?_; focus (first | rfl | (simp; done) | (simp; omega))))
        exact leaf [0, 1, 2, 3, 4, 5] (.dat (.int .i64 16)) s.h rfl rfl rfl rfl rfl hk
      repeat (first | (refine condA_true ?_ ?_; focus (first | rfl | (simp; done) | (simp; omega))) | (refine condA_false ?_ ?_; focus (first | rfl | (simp; done) | (simp; omega))))
      refine loopA_round ok (dr (plOf pl36) _) ?_
      refine condA_true rfl ?_
      refine req (of_decide_eq_true rfl) ?_
      refine optA _ rfl ?_
      refine look_enc EU (k := b) (fun hb => ?_) (fun t hb => ?_)
      case refine_2 =>
        rw [if_pos (by simp [anySrc, ha, hb])] at hk
        repeat (first | (refine condA_true ?_ ?_; focus (first | rfl | (simp; done) | (simp; omega))) | (refine condA_false ?_ ?_; focus (first | rfl | (simp; done) | (simp; omega))))
        exact leaf [0, 1, 2, 3, 4, 5] (.dat (.int .i64 16)) s.h rfl rfl rfl rfl rfl hk
      repeat (first | (refine condA_true ?_ ?_; focus (first | rfl | (simp; done) | (simp; omega))) | (refine condA_false ?_ ?_; focus (first | rfl | (simp; done) | (simp; omega))))
      refine loopA_round ok (dr (plOf pl36) _) ?_
      refine condA_false rfl ?_
      rw [if_neg (by simp [anySrc, ha, hb])] at hk
      refine req ?_ ?_
      · decide +kernel
      refine call_at [] (clone_ok [a, b] cap hl (by simp) _ ?_) rfl rfl rfl rfl
      repeat refine eqA ?_
      refine req (isSome_enc EK s.tracks (peer, track)) ?_
      refine loopA_round ok (dr (plOf pl36) _) ?_
      refine condA_true rfl ?_
      refine req (of_decide_eq_true rfl) ?_
      refine optA _ rfl ?_
      refine req ?_ ?_
      · decide +kernel
      refine req (isSome_enc EU s.srcs a) ?_
      refine loopA_round ok (dr (plOf pl36) _) ?_
      refine condA_true rfl ?_
      refine req (of_decide_eq_true rfl) ?_
      refine optA _ rfl ?_
      refine req ?_ ?_
      · decide +kernel
      refine req (isSome_i1 s.srcs a b (peer, track, 0)) ?_
      refine loopA_round ok (dr (plOf pl36) _) ?_
      refine condA_false rfl ?_
      exact leaf_in [0, 1, 2, 3, 4, 5] (.dat (.int .i64 0)) (St.h ⟨s.t, ins s.tracks (peer, track) ⟨video, false, [a, b]⟩, s.subs, inss s.srcs (peer, track) [a, b] 0⟩) rfl rfl rfl rfl (hin_cons rfl (hin_cons rfl (hin_cons (ren_mapD (ins_enc EK s.tracks (peer, track) ⟨video, false, [a, b]⟩)) (hin_cons rfl (hin_cons (ren_mapD (by simp only [inss]; rw [← ins_enc EU, ← ins_enc EU]; rfl)) (hin_cons rfl hin_nil)))))) hk
    · have hl : 0 < [a, b, c].length := by simp
      refine loopA_round ok (dr (plOf pl36) _) ?_
      refine condA_true rfl ?_
      refine req (of_decide_eq_true rfl) ?_
      refine optA _ rfl ?_
      refine look_enc EU (k := a) (fun ha => ?_) (fun t ha => ?_)
      case refine_2 =>
        rw [if_pos (by simp [anySrc, ha])] at hk
        repeat (first | (refine condA_true ?_ ?_; focus (first | rfl | (simp; done) | (simp; omega))) | (refine condA_false ?_ ?_; focus (first | rfl | (simp; done) | (simp; omega))))
        exact leaf [0, 1, 2, 3, 4, 5] (.dat (.int .i64 16)) s.h rfl rfl rfl rfl rfl hk
      repeat (first | (refine condA_true ?_ ?_; focus (first | rfl | (simp; done) | (simp; omega))) | (refine condA_false ?_ ?_; focus (first | rfl | (simp; done) | (simp; omega))))
      refine loopA_round ok (dr (plOf pl36) _) ?_
      refine condA_true rfl ?_
      refine req (of_decide_eq_true rfl) ?_
      refine optA _ rfl ?_
      refine look_enc EU (k := b) (fun hb => ?_) (fun t hb => ?_)
      case refine_2 =>
        rw [if_pos (by simp [anySrc, ha, hb])] at hk
        repeat (first | (refine condA_true ?_ ?_; focus (first | rfl | (simp; done) | (simp; omega))) | (refine condA_false ?_ ?_; focus (first | rfl | (simp; done) | (simp; omega))))
        exact leaf [0, 1, 2, 3, 4, 5] (.dat (.int .i64 16)) s.h rfl rfl rfl rfl rfl hk
      repeat (first | (refine condA_true ?_ ?_; focus (first | rfl | (simp; done) | (simp; omega))) | (refine condA_false ?_ ?_; focus (first | rfl | (simp; done) | (simp; omega))))
      refine loopA_round ok (dr (plOf pl36) _) ?_
      refine condA_true rfl ?_
      refine req (of_decide_eq_true rfl) ?_
      refine optA _ rfl ?_
      refine look_enc EU (k := c) (fun hc => ?_) (fun t hc => ?_)
      case refine_2 =>
        rw [if_pos (by simp [anySrc, ha, hb, hc])] at hk
        repeat (first | (refine condA_true ?_ ?_; focus (first | rfl | (simp; done) | (simp; omega))) | (refine condA_false ?_ ?_; focus (first | rfl | (simp; done) | (simp; omega))))
        exact leaf [0, 1, 2, 3, 4, 5] (.dat (.int .i64 16)) s.h rfl rfl rfl rfl rfl hk
      repeat (first | (refine condA_true ?_ ?_; focus (first | rfl | (simp; done) | (simp; omega))) | (refine condA_false ?_ ?_; focus (first | rfl | (simp; done) | (simp; omega))))
      refine loopA_round ok (dr (plOf pl36) _) ?_
      refine condA_false rfl ?_
      rw [if_neg (by simp [anySrc, ha, hb, hc])] at hk
      refine req ?_ ?_
      · decide +kernel
      refine call_at [] (clone_ok [a, b, c] cap hl (by simp) _ ?_) rfl rfl rfl rfl
      repeat refine eqA ?_
      refine req (isSome_enc EK s.tracks (peer, track)) ?_
      refine loopA_round ok (dr (plOf pl36) _) ?_
      refine condA_true rfl ?_
      refine req (of_decide_eq_true rfl) ?_
      refine optA _ rfl ?_
      refine req ?_ ?_
      · decide +kernel
      refine req (isSome_enc EU s.srcs a) ?_
      refine loopA_round ok (dr (plOf pl36) _) ?_
      refine condA_true rfl ?_
      refine req (of_decide_eq_true rfl) ?_
      refine optA _ rfl ?_
      refine req ?_ ?_
      · decide +kernel
      refine req (isSome_i1 s.srcs a b (peer, track, 0)) ?_
      refine loopA_round ok (dr (plOf pl36) _) ?_
      refine condA_true rfl ?_
      refine req (of_decide_eq_true rfl) ?_
      refine optA _ rfl ?_
      refine req ?_ ?_
      · decide +kernel
      refine req (isSome_i2 s.srcs a b c (peer, track, 0) (peer, track, 1)) ?_
      refine loopA_round ok (dr (plOf pl36) _) ?_
      refine condA_false rfl ?_
      exact leaf_in [0, 1, 2, 3, 4, 5] (.dat (.int .i64 0)) (St.h ⟨s.t, ins s.tracks (peer, track) ⟨video, false, [a, b, c]⟩, s.subs, inss s.srcs (peer, track) [a, b, c] 0⟩) rfl rfl rfl rfl (hin_cons rfl (hin_cons rfl (hin_cons (ren_mapD (ins_enc EK s.tracks (peer, track) ⟨video, false, [a, b, c]⟩)) (hin_cons rfl (hin_cons (ren_mapD (by simp only [inss]; rw [← ins_enc EU, ← ins_enc EU, ← ins_enc EU]; rfl)) (hin_cons rfl hin_nil)))))) hk
    · simp at h3
end Go.Abs.X

namespace Go.Abs.X
open Go.Abs Go Go.Proofs
variable {w0 : World}

set_option maxHeartbeats 2000000 in
theorem do_ok (L : Laid w0) (s : St) (hs : StOK s) (c : Cmd) (hc : c.OK) (K : AV → Heap → Prop) (hk : K (.dat (.tup [.int .i64 (doM s c).1.1, .int .i64 (doM s c).1.2])) (doM s c).2.h) : CallA (cx w0) 11 [.ptr 0 0, .dat c.dv] s.h K := by
  have fin : ∀ r, doM s c = r → K (.dat (.tup [.int .i64 r.1.1, .int .i64 r.1.2])) r.2.h := fun r h => h ▸ hk
  clear hk
  have hpub : c.check = 0 → c.kind = 3 → 1 ≤ c.ssrcs.length ∧ c.ssrcs.length ≤ 3 := fun h k => sourcesM_len (c.check_pub h k)
  unfold doM at fin
  cases hcc : c with
  | mk kind room name peer of track layer on video ssrcs sdv =>
  subst hcc
  have hsl := hc.sl
  refine CallA.ret ?_
  refine CallA.enter ok (dr (plOf pl11)) Tryz.func11 Tryz.call11 ?_
  refine call_can ?_
  refine call_at [] (ccheck_ok L _ hc _ ?_) rfl rfl rfl rfl
  by_cases c0 : Cmd.check ⟨kind, room, name, peer, of, track, layer, on, video, ssrcs, sdv⟩ = 0
  · replace hpub := hpub c0
    rw [c0] at fin
    rw [c0]
    replace fin := fun r (h : _ = r) => fin r (by rw [if_neg (by simp)]; exact h)
    dsimp only at fin hpub hsl
    clear hc
    by_cases k1 : kind = 1
    · replace fin := fun r (h : _ = r) => fin r (by rw [if_pos k1]; exact h)
      cases hsl
      all_goals
        repeat (first | (refine condA_true ?_ ?_; focus (first | rfl | (simp; done) | (simp; omega) | (simp [k1]; done) | (simp [k1]; omega))) | (refine condA_false ?_ ?_; focus (first | rfl | (simp; done) | (simp; omega) | (simp [k1]; done) | (simp [k1]; omega))))
        refine req ?_ ?_
        · decide +kernel
        refine call_at [1, 5] (join_ok L s.t hs.t room name _ ?_) rfl rfl rfl rfl
        repeat refine eqA ?_
        exact leaf [0, 1, 2, 3, 4, 5] (.dat (.tup [.int .i64 (joinM s.t room name).1.1, .int .i64 (joinM s.t room name).1.2])) (St.h ⟨(joinM s.t room name).2, s.tracks, s.subs, s.srcs⟩) rfl rfl rfl rfl rfl (fin _ rfl)
    replace fin := fun r (h : _ = r) => fin r (by rw [if_neg k1]; exact h)
    have hsl' := hsl
    cases hsl
    all_goals
      repeat (first | (refine condA_true ?_ ?_; focus (first | rfl | (simp; done) | (simp; omega) | (simp [k1]; done) | (simp [k1]; omega))) | (refine condA_false ?_ ?_; focus (first | rfl | (simp; done) | (simp; omega) | (simp [k1]; done) | (simp [k1]; omega))))
      refine req ?_ ?_
      · decide +kernel
      refine call_at [1, 5] (peer_ok s.t peer _ ?_) rfl rfl rfl rfl
      cases hp : lk s.t.peers peer with
      | none =>
        replace fin := fun r (h : _ = r) => fin r (by rw [if_pos hp]; exact h)
        simp only [peerM, hp]
        repeat refine eqA ?_
        repeat (first | (refine condA_true ?_ ?_; focus (first | rfl | (simp; done) | (simp; omega))) | (refine condA_false ?_ ?_; focus (first | rfl | (simp; done) | (simp; omega))))
        exact leaf [0, 1, 2, 3, 4, 5] (.dat (.tup [.int .i64 0, .int .i64 8])) s.h rfl rfl rfl rfl rfl (fin _ rfl)
      | some pv =>
        replace fin := fun r (h : _ = r) => fin r (by rw [if_neg (by rw [hp]; simp)]; exact h)
        simp only [peerM, hp]
        repeat refine eqA ?_
        by_cases k2 : kind = 2
        · replace fin := fun r (h : _ = r) => fin r (by rw [if_pos k2]; exact h)
          repeat (first | (refine condA_true ?_ ?_; focus (first | rfl | (simp; done) | (simp; omega) | (simp [k2]; done) | (simp [k2]; omega))) | (refine condA_false ?_ ?_; focus (first | rfl | (simp; done) | (simp; omega) | (simp [k2]; done) | (simp [k2]; omega))))
          refine call_at [0, 1, 2, 3, 4, 5] (aleave_ok s hs peer _ ?_) rfl rfl rfl rfl
          exact leaf [0, 1, 2, 3, 4, 5] (.dat (.tup [.int .i64 0, .int .i64 (leaveM s peer).1])) (leaveM s peer).2.h rfl rfl rfl rfl rfl (fin _ rfl)
        replace fin := fun r (h : _ = r) => fin r (by rw [if_neg k2]; exact h)
        by_cases k3 : kind = 3
        · replace fin := fun r (h : _ = r) => fin r (by rw [if_pos k3]; exact h)
          repeat (first | (refine condA_true ?_ ?_; focus (first | rfl | (simp; done) | (simp; omega) | (simp [k2]; done) | (simp [k3]; done) | (simp [k2]; omega) | (simp [k3]; omega) | (simp [k2, k3]; done))) | (refine condA_false ?_ ?_; focus (first | rfl | (simp; done) | (simp; omega) | (simp [k2]; done) | (simp [k3]; done) | (simp [k2]; omega) | (simp [k3]; omega) | (simp [k2, k3]; done))))
          refine call_can ?_
          refine call_at [0, 1, 2, 3, 4, 5] (publish_ok s _ hsl' (hpub k3) _ ?_) rfl rfl rfl rfl
          exact leaf [0, 1, 2, 3, 4, 5] (.dat (.tup [.int .i64 0, .int .i64 (publishM s _).1])) (publishM s _).2.h rfl rfl rfl rfl rfl (fin _ rfl)
        replace fin := fun r (h : _ = r) => fin r (by rw [if_neg k3]; exact h)
        by_cases k5 : kind = 5
        · replace fin := fun r (h : _ = r) => fin r (by rw [if_pos k5]; exact h)
          repeat (first | (refine condA_true ?_ ?_; focus (first | rfl | (simp; done) | (simp; omega) | (simp [k2]; done) | (simp [k3]; done) | (simp [k5]; done) | (simp [k2]; omega) | (simp [k3]; omega) | (simp [k5]; omega) | (simp [k2, k3]; done) | (simp [k2, k5]; done) | (simp [k3, k5]; done))) | (refine condA_false ?_ ?_; focus (first | rfl | (simp; done) | (simp; omega) | (simp [k2]; done) | (simp [k3]; done) | (simp [k5]; done) | (simp [k2]; omega) | (simp [k3]; omega) | (simp [k5]; omega) | (simp [k2, k3]; done) | (simp [k2, k5]; done) | (simp [k3, k5]; done))))
          refine call_can ?_
          refine call_at [0, 1, 2, 3, 4, 5] (subscribe_ok L s hs _ hsl' _ ?_) rfl rfl rfl rfl
          exact leaf [0, 1, 2, 3, 4, 5] (.dat (.tup [.int .i64 0, .int .i64 (subscribeM s _).1])) (subscribeM s _).2.h rfl rfl rfl rfl rfl (fin _ rfl)
        replace fin := fun r (h : _ = r) => fin r (by rw [if_neg k5]; exact h)
        by_cases k6 : kind = 6
        · replace fin := fun r (h : _ = r) => fin r (by rw [if_pos (Or.inl k6)]; exact h)
          repeat (first | (refine condA_true ?_ ?_; focus (first | rfl | (simp; done) | (simp; omega) | (simp [k2]; done) | (simp [k3]; done) | (simp [k5]; done) | (simp [k6]; done) | (simp [k2]; omega) | (simp [k3]; omega) | (simp [k5]; omega) | (simp [k6]; omega) | (simp [k2, k3]; done) | (simp [k2, k5]; done) | (simp [k2, k6]; done) | (simp [k3, k5]; done) | (simp [k3, k6]; done) | (simp [k5, k6]; done))) | (refine condA_false ?_ ?_; focus (first | rfl | (simp; done) | (simp; omega) | (simp [k2]; done) | (simp [k3]; done) | (simp [k5]; done) | (simp [k6]; done) | (simp [k2]; omega) | (simp [k3]; omega) | (simp [k5]; omega) | (simp [k6]; omega) | (simp [k2, k3]; done) | (simp [k2, k5]; done) | (simp [k2, k6]; done) | (simp [k3, k5]; done) | (simp [k3, k6]; done) | (simp [k5, k6]; done))))
          refine call_can ?_
          refine call_at [0, 1, 2, 3, 4, 5] (link_ok s _ hsl' _ ?_) rfl rfl rfl rfl
          exact leaf [0, 1, 2, 3, 4, 5] (.dat (.tup [.int .i64 0, .int .i64 (linkM s _).1])) (linkM s _).2.h rfl rfl rfl rfl rfl (fin _ rfl)
        by_cases k8 : kind = 8
        · replace fin := fun r (h : _ = r) => fin r (by rw [if_pos (Or.inr k8)]; exact h)
          repeat (first | (refine condA_true ?_ ?_; focus (first | rfl | (simp; done) | (simp; omega) | (simp [k2]; done) | (simp [k3]; done) | (simp [k5]; done) | (simp [k6]; done) | (simp [k8]; done) | (simp [k2]; omega) | (simp [k3]; omega) | (simp [k5]; omega) | (simp [k6]; omega) | (simp [k8]; omega) | (simp [k2, k3]; done) | (simp [k2, k5]; done) | (simp [k2, k6]; done) | (simp [k2, k8]; done) | (simp [k3, k5]; done) | (simp [k3, k6]; done) | (simp [k3, k8]; done) | (simp [k5, k6]; done) | (simp [k5, k8]; done) | (simp [k6, k8]; done))) | (refine condA_false ?_ ?_; focus (first | rfl | (simp; done) | (simp; omega) | (simp [k2]; done) | (simp [k3]; done) | (simp [k5]; done) | (simp [k6]; done) | (simp [k8]; done) | (simp [k2]; omega) | (simp [k3]; omega) | (simp [k5]; omega) | (simp [k6]; omega) | (simp [k8]; omega) | (simp [k2, k3]; done) | (simp [k2, k5]; done) | (simp [k2, k6]; done) | (simp [k2, k8]; done) | (simp [k3, k5]; done) | (simp [k3, k6]; done) | (simp [k3, k8]; done) | (simp [k5, k6]; done) | (simp [k5, k8]; done) | (simp [k6, k8]; done))))
          refine call_can ?_
          refine call_at [0, 1, 2, 3, 4, 5] (link_ok s _ hsl' _ ?_) rfl rfl rfl rfl
          exact leaf [0, 1, 2, 3, 4, 5] (.dat (.tup [.int .i64 0, .int .i64 (linkM s _).1])) (linkM s _).2.h rfl rfl rfl rfl rfl (fin _ rfl)
        replace fin := fun r (h : _ = r) => fin r (by rw [if_neg (by rintro (h | h); exact k6 h; exact k8 h)]; exact h)
        repeat (first | (refine condA_true ?_ ?_; focus (first | rfl | (simp; done) | (simp; omega) | (simp [k2]; done) | (simp [k3]; done) | (simp [k5]; done) | (simp [k6]; done) | (simp [k8]; done) | (simp [k2]; omega) | (simp [k3]; omega) | (simp [k5]; omega) | (simp [k6]; omega) | (simp [k8]; omega) | (simp [k2, k3]; done) | (simp [k2, k5]; done) | (simp [k2, k6]; done) | (simp [k2, k8]; done) | (simp [k3, k5]; done) | (simp [k3, k6]; done) | (simp [k3, k8]; done) | (simp [k5, k6]; done) | (simp [k5, k8]; done) | (simp [k6, k8]; done))) | (refine condA_false ?_ ?_; focus (first | rfl | (simp; done) | (simp; omega) | (simp [k2]; done) | (simp [k3]; done) | (simp [k5]; done) | (simp [k6]; done) | (simp [k8]; done) | (simp [k2]; omega) | (simp [k3]; omega) | (simp [k5]; omega) | (simp [k6]; omega) | (simp [k8]; omega) | (simp [k2, k3]; done) | (simp [k2, k5]; done) | (simp [k2, k6]; done) | (simp [k2, k8]; done) | (simp [k3, k5]; done) | (simp [k3, k6]; done) | (simp [k3, k8]; done) | (simp [k5, k6]; done) | (simp [k5, k8]; done) | (simp [k6, k8]; done))))
        refine call_can ?_
        refine call_at [0, 1, 2, 3, 4, 5] (atrack_ok s hs _ hsl' _ ?_) rfl rfl rfl rfl
        exact leaf [0, 1, 2, 3, 4, 5] (.dat (.tup [.int .i64 0, .int .i64 (trackM s _).1])) (trackM s _).2.h rfl rfl rfl rfl rfl (fin _ rfl)
  · replace fin := fun r (h : _ = r) => fin r (by rw [if_pos c0]; exact h)
    generalize Cmd.check _ = e at c0 fin ⊢
    repeat (first | (refine condA_true ?_ ?_; focus (first | rfl | (simp; done) | (simp; omega) | (simp [c0]; done) | (simp [c0]; omega))) | (refine condA_false ?_ ?_; focus (first | rfl | (simp; done) | (simp; omega) | (simp [c0]; done) | (simp [c0]; omega))))
    exact leaf [0, 1, 2, 3, 4, 5] (.dat (.tup [.int .i64 0, .int .i64 e])) s.h rfl rfl rfl rfl rfl (fin _ rfl)
end Go.Abs.X

namespace Go.Abs.X
open Go.Abs Go Go.Proofs
variable {w0 : World}

def hallB : ByteArray := ⟨#[104, 97, 108, 108]⟩
def nameB (i : Nat) : ByteArray := ⟨#[112]⟩ ++ Utf8.encode (IntKind.i32.wrap (IntKind.i64.wrap (97 + i)))
def joinC (i : Nat) : Cmd := ⟨1, hallB, nameB i, 0, 0, 0, 0, false, false, [], .nils⟩
def trio (i : Nat) : List Int := [IntKind.u32.wrap (IntKind.i64.wrap (IntKind.i64.wrap (100 * i) + 1)), IntKind.u32.wrap (IntKind.i64.wrap (IntKind.i64.wrap (100 * i) + 2)), IntKind.u32.wrap (IntKind.i64.wrap (IntKind.i64.wrap (100 * i) + 3))]
def pubC (i : Nat) : Cmd := ⟨3, .empty, .empty, i, 0, 0, 0, false, true, trio i, .ros (u32s (trio i)) 3 (some 3)⟩
def hallM : Nat → St
  | 0 => St.none
  | i + 1 => (doM (doM (hallM i) (joinC i)).2 (pubC i)).2
def clip (n : Int) : Int := if 6 < (if 0 > n then 0 else n) then 6 else if 0 > n then 0 else n
theorem none_OK : StOK St.none :=
  ⟨⟨(fun _ h => (List.not_mem_nil h).elim), by decide, by decide, by decide⟩, (fun _ h => (List.not_mem_nil h).elim), by decide, by decide, by decide, by decide, by decide, by decide⟩
theorem none_N : StN St.none 0 := ⟨by decide, by decide, by decide, by decide⟩
theorem pubC_OK (i : Nat) : (pubC i).OK := ⟨Nat.le_of_ble_eq_true rfl, Nat.le_of_ble_eq_true rfl, Sl.ros (trio i) (some 3), Nat.le_of_ble_eq_true rfl⟩
theorem joinC_OK {i : Nat} (h : i < 6) : (joinC i).OK := by
  refine ⟨Nat.le_of_ble_eq_true rfl, ?_, Sl.nil, Nat.le_of_ble_eq_true rfl⟩
  have : i = 0 ∨ i = 1 ∨ i = 2 ∨ i = 3 ∨ i = 4 ∨ i = 5 := by omega
  rcases this with rfl | rfl | rfl | rfl | rfl | rfl <;> decide +kernel
theorem hallM_OK (i : Nat) (h : i ≤ 6) : StOK (hallM i) ∧ StN (hallM i) (2 * i) := by
  induction i with
  | zero => exact ⟨none_OK, none_N⟩
  | succ i ih =>
    obtain ⟨h1, h2⟩ := ih (by omega)
    obtain ⟨h3, h4⟩ := doM_OK h1 h2 (by omega) (joinC i)
    obtain ⟨h5, h6⟩ := doM_OK h3 h4 (by omega) (pubC i)
    exact ⟨h5, h6⟩
set_option maxHeartbeats 2000000 in
theorem hall_ok (L : Laid w0) (n : Int) (K : AV → Heap → Prop) (hk : ∀ m : Nat, (m : Int) = clip n → K (.ptr 0 0) (hallM m).h) : CallA (cx w0) 18 [.dat (.int .i64 n)] [] K := by
  refine CallA.ret ?_
  refine CallA.enter ok (dr (plOf [])) Tryz.func18 Tryz.call18 ?_
  refine call_at [] (anew_ok _ ?_) rfl rfl rfl rfl
  repeat (first | (refine condA_true ?_ ?_; focus (first | rfl | (simp; done) | (simp; omega))) | (refine condA_false ?_ ?_; focus (first | rfl | (simp; done) | (simp; omega))))
  have hcl : 0 ≤ clip n ∧ clip n ≤ 6 := by unfold clip; split <;> split <;> omega
  obtain ⟨m, hm⟩ : ∃ m : Nat, (m : Int) = clip n := ⟨(clip n).toNat, by omega⟩
  have hk := hk m hm
  have hm6 : m ≤ 6 := by omega
  refine loop_in [3, 17, 18] [0, 1, 2, 3, 4, 5] [.ptr 0 0, .dat (.int .i64 m), .dat (.int .i64 (0 : Nat))] (hallM 0).h (by rw [hm]; rfl) rfl rfl rfl (hin_cons rfl (hin_cons rfl (hin_cons rfl (hin_cons rfl (hin_cons rfl (hin_cons rfl hin_nil)))))) ?_
  refine loop_ind (fun i : Nat => mkE [3, 17, 18] [.ptr 0 0, .dat (.int .i64 m), .dat (.int .i64 i)]) (fun i => (hallM i).h) (fun i => i ≤ m) (fun i => m - i) ?_ 0 (Nat.zero_le _)
  intro i hi ih
  refine loopA_round ok (dr (plOf []) _) ?_
  by_cases hlt : i < m
  · have go := ih (i + 1) hlt (by omega)
    have ho := (hallM_OK i (by omega)).1
    have ho2 := (doM_OK ho (hallM_OK i (by omega)).2 (by omega) (joinC i)).1
    have e : hallM (i + 1) = (doM (doM (hallM i) (joinC i)).2 (pubC i)).2 := rfl
    dsimp only at go
    rw [e] at go
    clear ih e
    refine condA_true (by simpa using hlt) ?_
    have hw : IntKind.i64.wrap ((i : Int) + 1) = ((i + 1 : Nat) : Int) := by rw [wrap_i64 _ (by omega) (by omega)]; omega
    have hc := joinC_OK (i := i) (by omega)
    have hsz : (1 : Nat) + (Utf8.encode (IntKind.i32.wrap (IntKind.i64.wrap (97 + (i : Int))))).size ≤ maxLen := by
      have : i = 0 ∨ i = 1 ∨ i = 2 ∨ i = 3 ∨ i = 4 ∨ i = 5 := by omega
      rcases this with rfl | rfl | rfl | rfl | rfl | rfl <;> decide +kernel
    generalize hallM i = s at go ho ho2 ⊢
    refine req hsz ?_
    refine call_can ?_
    refine call_at [0, 1, 2, 3, 4, 5] (do_ok L s ho (joinC i) hc _ ?_) rfl rfl rfl rfl
    have hp := pubC_OK i
    generalize doM s (joinC i) = r at go ho2 ⊢
    obtain ⟨⟨r1, r2⟩, s2⟩ := r
    dsimp only at go ho2
    refine CallA.shift (shift_frz' 6 (u32s (trio i)) rfl rfl (shift_id ?_))
    refine call_can ?_
    refine call_at [0, 1, 2, 3, 4, 5] (do_ok L s2 ho2 (pubC i) hp _ ?_) rfl rfl rfl rfl
    generalize doM s2 (pubC i) = r at go ⊢
    obtain ⟨⟨r3, r4⟩, s3⟩ := r
    dsimp only at go
    exact loop_in [3, 17, 18] [0, 1, 2, 3, 4, 5] [.ptr 0 0, .dat (.int .i64 m), .dat (.int .i64 ((i + 1 : Nat) : Int))] s3.h (by rw [← hw]; rfl) rfl rfl rfl (hin_cons rfl (hin_cons rfl (hin_cons rfl (hin_cons rfl (hin_cons rfl (hin_cons rfl hin_nil)))))) go
  · obtain rfl : i = m := by omega
    refine condA_false (by simp) ?_
    exact leaf [0, 1, 2, 3, 4, 5] (.ptr 0 0) (hallM i).h rfl rfl rfl rfl rfl hk
end Go.Abs.X

namespace Go.Abs.X
open Go.Abs Go Go.Proofs

/-! Peers come in rising order: the sorts may be left out. -/
structure Up (t : Tb) : Prop where
  up : (t.peers.map (·.1)).Pairwise (· < ·)
  lt : ∀ p ∈ t.peers, 0 ≤ p.1 ∧ p.1 < t.next
  n0 : 0 ≤ t.next
theorem Up.nd {t : Tb} (h : Up t) : (t.peers.map (·.1)).Nodup := h.up.imp fun h => by omega
theorem Up.keys {t : Tb} (h : Up t) : t.keys = t.peers.map (·.1) :=
  List.mergeSort_of_pairwise (h.up.imp fun h => by simp; omega)
def inP (t : Tb) (room : ByteArray) : List (Int × PeerV) := t.peers.filter fun p => sameM p.2.2 room
theorem inM_up {t : Tb} (h : Up t) (room : ByteArray) : inM t room = inP t room := by
  unfold inM inP
  rw [h.keys]
  have hnd := h.nd
  have : ∀ l : List (Int × PeerV), (∀ p ∈ l, p ∈ t.peers) → (l.map (·.1)).filterMap (inF t room) = l.filter fun p => sameM p.2.2 room := by
    intro l hl
    induction l with
    | nil => rfl
    | cons x r ih =>
      have hx : lk t.peers x.1 = some x.2 := (lk_iff hnd).2 (hl x (by simp))
      simp only [List.map_cons, List.filter_cons]
      have e : inF t room x.1 = if sameM x.2.2 room then some x else none := by simp only [inF, hx]
      by_cases c : sameM x.2.2 room = true
      · rw [List.filterMap_cons_some (by rw [e, if_pos c]), if_pos c, ih fun p hp => hl p (List.mem_cons_of_mem _ hp)]
      · rw [List.filterMap_cons_none (by rw [e, if_neg c]), if_neg c, ih fun p hp => hl p (List.mem_cons_of_mem _ hp)]
  exact this _ fun _ h => h
def roomN (t : Tb) : Nat := (dedup (t.peers.map fun p => foldM p.2.2)).length
theorem roomsM_len (t : Tb) : (roomsM t).length = roomN t := by simp [roomsM, roomN, sortS]
def joinP (t : Tb) (room name : ByteArray) : (Int × Int) × Tb :=
  if checkM room ≠ 0 ∨ checkM name ≠ 0 then ((0, 6), t)
  else if (inP t room).any (fun p => sameM p.2.1 name) = true then ((0, 10), t)
  else if 16 ≤ (inP t room).length ∨ (inP t room).length = 0 ∧ 8 ≤ roomN t ∨ 65535 < t.next then ((0, 11), t)
  else ((t.next, 0), ⟨t.next + 1, t.peers ++ [(t.next, (name, room))]⟩)
theorem ins_new {κ ν : Type} [DecidableEq κ] {l : List (κ × ν)} {k : κ} (h : k ∉ l.map (·.1)) (v : ν) : ins l k v = l ++ [(k, v)] := by
  induction l with
  | nil => rfl
  | cons x r ih =>
    simp only [List.map_cons, List.mem_cons, not_or] at h
    simp only [ins, if_neg h.1, List.cons_append, ih h.2]
theorem Up.fresh {t : Tb} (h : Up t) : t.next ∉ t.peers.map (·.1) := fun hm => by
  obtain ⟨p, hp, e⟩ := List.mem_map.1 hm
  have := (h.lt p hp).2
  omega
theorem joinM_up {t : Tb} (h : Up t) (room name : ByteArray) : joinM t room name = joinP t room name := by
  unfold joinM joinP
  rw [inM_up h, roomsM_len, ins_new h.fresh]
theorem joinP_up {t : Tb} (h : Up t) (room name : ByteArray) : Up (joinP t room name).2 := by
  unfold joinP
  split
  · exact h
  split
  · exact h
  split
  · exact h
  refine ⟨?_, fun p hp => ?_, ?_⟩
  · show ((t.peers ++ [(t.next, (name, room))]).map (·.1)).Pairwise (· < ·)
    rw [List.map_append, List.pairwise_append]
    refine ⟨h.up, by simp, fun a ha b hb => ?_⟩
    obtain ⟨p, hp, rfl⟩ := List.mem_map.1 ha
    simp at hb; subst hb
    exact (h.lt p hp).2
  · have hp : p ∈ t.peers ++ [(t.next, (name, room))] := hp
    show 0 ≤ p.1 ∧ p.1 < t.next + 1
    rcases List.mem_append.1 hp with hp | hp
    · have := h.lt p hp; omega
    · simp at hp; subst hp; have := h.n0; simp; omega
  · have := h.n0
    show 0 ≤ t.next + 1; omega
theorem del_up {t : Tb} (h : Up t) (n : Int) : Up ⟨t.next, del t.peers n⟩ :=
  ⟨h.up.sublist ((del_sub _ _).map _), fun p hp => h.lt p ((del_sub _ _).subset hp), h.n0⟩
def doP (s : St) (c : Cmd) : (Int × Int) × St :=
  if c.check ≠ 0 then ((0, c.check), s)
  else if c.kind = 1 then ((joinP s.t c.room c.name).1, ⟨(joinP s.t c.room c.name).2, s.tracks, s.subs, s.srcs⟩)
  else if lk s.t.peers c.peer = none then ((0, 8), s)
  else if c.kind = 2 then ((0, (leaveM s c.peer).1), (leaveM s c.peer).2)
  else if c.kind = 3 then ((0, (publishM s c).1), (publishM s c).2)
  else if c.kind = 5 then ((0, (subscribeM s c).1), (subscribeM s c).2)
  else if c.kind = 6 ∨ c.kind = 8 then ((0, (linkM s c).1), (linkM s c).2)
  else ((0, (trackM s c).1), (trackM s c).2)
theorem doM_up {s : St} (h : Up s.t) (c : Cmd) : doM s c = doP s c := by
  unfold doM doP; rw [joinM_up h]
theorem doP_up {s : St} (h : Up s.t) (c : Cmd) : Up (doP s c).2.t := by
  unfold doP
  split
  · exact h
  split
  · exact joinP_up h _ _
  split
  · exact h
  split
  · unfold leaveM
    split
    · exact h
    · exact del_up h _
  split
  · unfold publishM
    split
    · exact h
    split <;> exact h
  split
  · unfold subscribeM
    split
    · exact h
    split
    · exact h
    split
    · exact h
    split
    · split <;> exact h
    · exact h
  split
  · unfold linkM
    split
    · exact h
    split <;> exact h
  · unfold trackM
    split
    · exact h
    split <;> exact h

/-! A row of commands. -/
structure Good (s : St) (n : Nat) : Prop where
  ok : StOK s
  sz : StN s n
  up : Up s.t
theorem Good.next {s : St} {n : Nat} (g : Good s n) (h : n + 1 ≤ 200000) (c : Cmd) : Good (doP s c).2 (n + 1) := by
  have := doM_OK g.ok g.sz h c
  rw [doM_up g.up] at this
  exact ⟨this.1, this.2, doP_up g.up c⟩
inductive Run : St → List Cmd → List Int → St → Prop
  | nil (s : St) : Run s [] [] s
  | cons {s s1 s2 : St} {c : Cmd} {n e : Int} {cs : List Cmd} {es : List Int} (g : StOK s) (h : doM s c = ((n, e), s1)) (r : Run s1 cs es s2) : Run s (c :: cs) (e :: es) s2
def runP (s : St) : List Cmd → List Int × St
  | [] => ([], s)
  | c :: cs => ((doP s c).1.2 :: (runP (doP s c).2 cs).1, (runP (doP s c).2 cs).2)
theorem runP_run {s : St} {m : Nat} (g : Good s m) (cs : List Cmd) (h : m + cs.length ≤ 200000) : Run s cs (runP s cs).1 (runP s cs).2 ∧ Good (runP s cs).2 (m + cs.length) := by
  induction cs generalizing s m with
  | nil => exact ⟨Run.nil s, g⟩
  | cons c cs ih =>
    simp only [List.length_cons] at h
    obtain ⟨h1, h2⟩ := ih (g.next (by omega) c) (by omega)
    refine ⟨Run.cons (n := (doP s c).1.1) g.ok (by rw [doM_up g.up]) h1, ?_⟩
    have e : m + (c :: cs).length = m + 1 + cs.length := by simp only [List.length_cons]; omega
    rw [e]; exact h2
theorem Run.append {s s1 s2 : St} {a b : List Cmd} {x y : List Int} (h : Run s a x s1) (h2 : Run s1 b y s2) : Run s (a ++ b) (x ++ y) s2 := by
  induction h with
  | nil => exact h2
  | cons g h r ih => exact Run.cons g h (ih h2)
end Go.Abs.X

namespace Go.Abs.X
open Go.Abs Go Go.Proofs

def subC (p o t l : Int) : Cmd := ⟨5, .empty, .empty, p, o, t, l, false, false, [], .nils⟩
def leaveC (p : Int) : Cmd := ⟨2, .empty, .empty, p, 0, 0, 0, false, false, [], .nils⟩
def hallCs : Nat → List Cmd
  | 0 => []
  | i + 1 => hallCs i ++ [joinC i, pubC i]
theorem none_good : Good St.none 0 := ⟨none_OK, none_N, ⟨by simp [St.none], by simp [St.none], by simp [St.none]⟩⟩
theorem runP_append (s : St) (a b : List Cmd) : runP s (a ++ b) = ((runP s a).1 ++ (runP (runP s a).2 b).1, (runP (runP s a).2 b).2) := by
  induction a generalizing s with
  | nil => rfl
  | cons c a ih => simp only [List.cons_append, runP, ih]
theorem hallCs_length (i : Nat) : (hallCs i).length = 2 * i := by
  induction i with
  | zero => rfl
  | succ i ih => simp only [hallCs, List.length_append, ih, List.length_cons, List.length_nil]; omega
theorem hall_eq (i : Nat) (h : i ≤ 6) : hallM i = (runP St.none (hallCs i)).2 ∧ Good (hallM i) (2 * i) := by
  induction i with
  | zero => exact ⟨rfl, none_good⟩
  | succ i ih =>
    obtain ⟨h1, h2⟩ := ih (by omega)
    have h3 := h2.next (by omega) (joinC i)
    have e : hallM (i + 1) = (doP (doP (hallM i) (joinC i)).2 (pubC i)).2 := by
      show (doM (doM (hallM i) (joinC i)).2 (pubC i)).2 = _
      rw [doM_up h2.up, doM_up h3.up]
    refine ⟨?_, ?_⟩
    · rw [e, hallCs, runP_append, ← h1]; rfl
    · rw [e]; exact h3.next (by omega) (pubC i)
/-- what awake asks -/
def awakeP : Bool :=
  let a0 := (runP St.none (hallCs 2)).2
  let r := doP a0 (subC 1 0 0 0)
  let q := doP r.2 (leaveC 0)
  a0.t.peers.length == 2 && (r.1.2 == 0) && decide (lk r.2.srcs 2 = some (0, 0, 1)) && r.2.subs.length == 1 && q.2.subs.length == 0
theorem awakeP_true : awakeP = true := by decide +kernel
end Go.Abs.X

namespace Go.Abs.X
open Go.Abs Go Go.Proofs
variable {w0 : World}

theorem subC_OK (p o t l : Int) : (subC p o t l).OK := ⟨Nat.le_of_ble_eq_true rfl, Nat.le_of_ble_eq_true rfl, Sl.nil, Nat.le_of_ble_eq_true rfl⟩
theorem leaveC_OK (p : Int) : (leaveC p).OK := ⟨Nat.le_of_ble_eq_true rfl, Nat.le_of_ble_eq_true rfl, Sl.nil, Nat.le_of_ble_eq_true rfl⟩
theorem links_length (s : St) : s.links.length = s.subs.length := by simp [St.links, sortL]
set_option maxHeartbeats 2000000 in
theorem awake_ok (L : Laid w0) (K : AV → Heap → Prop) (hk : K (.dat (.bool true)) []) : CallA (cx w0) 17 [] [] K := by
  have key := awakeP_true
  unfold awakeP at key
  obtain ⟨e0, g0⟩ := hall_eq 2 (by omega)
  rw [← e0] at key
  have g1 := g0.next (by omega) (subC 1 0 0 0)
  have g2 := g1.next (by omega) (leaveC 0)
  have d0 := doM_up g0.up (subC 1 0 0 0)
  have d1 := doM_up g1.up (leaveC 0)
  refine CallA.ret ?_
  refine CallA.enter ok (dr (plOf [])) Tryz.func17 Tryz.call17 ?_
  refine call_at [] (hall_ok L 2 _ (fun m hm => ?_)) rfl rfl rfl rfl
  obtain rfl : m = 2 := by have : clip 2 = 2 := by decide
                           omega
  generalize hallM 2 = a0 at *
  clear e0
  dsimp only at key
  generalize doP a0 (subC 1 0 0 0) = r1 at key g1 g2 d0 d1
  obtain ⟨⟨n1, x1⟩, s1⟩ := r1
  dsimp only at key g1 g2 d1
  generalize doP s1 (leaveC 0) = r2 at key g2 d1
  obtain ⟨⟨n2, x2⟩, s2⟩ := r2
  dsimp only at key g2
  simp only [Bool.and_eq_true, beq_iff_eq, decide_eq_true_eq] at key
  obtain ⟨⟨⟨⟨k1, k2⟩, k3⟩, k4⟩, k5⟩ := key
  have l1 := links_length s1
  have l2 := links_length s2
  rw [k4] at l1
  rw [k5] at l2
  subst k2
  repeat (first | (refine condA_true ?_ ?_; focus (first | rfl | (simp; done) | (simp; omega))) | (refine condA_false ?_ ?_; focus (first | rfl | (simp; done) | (simp; omega))))
  refine call_at [1, 5] (len_ok a0.t _ ?_) rfl rfl rfl rfl
  rw [k1]
  repeat (first | (refine condA_true ?_ ?_; focus (first | rfl | (simp; done) | (simp; omega))) | (refine condA_false ?_ ?_; focus (first | rfl | (simp; done) | (simp; omega))))
  refine call_can ?_
  refine call_at [0, 1, 2, 3, 4, 5] (do_ok L a0 g0.ok (subC 1 0 0 0) (subC_OK _ _ _ _) _ ?_) rfl rfl rfl rfl
  rw [d0]
  dsimp only
  refine call_at [0, 1, 2, 3, 4, 5] (source_ok s1 2 _ ?_) rfl rfl rfl rfl
  simp only [srcR, k3]
  refine call_at [0, 1, 2, 3, 4, 5] (links_ok s1 g1.ok _ ?_) rfl rfl rfl rfl
  obtain ⟨x, hx⟩ := List.length_eq_one_iff.1 l1
  rw [hx]
  refine call_can ?_
  refine call_at [0, 1, 2, 3, 4, 5] (do_ok L s1 g1.ok (leaveC 0) (leaveC_OK _) _ ?_) rfl rfl rfl rfl
  rw [d1]
  dsimp only
  repeat (first | (refine condA_true ?_ ?_; focus (first | rfl | (simp; done) | (simp; omega))) | (refine condA_false ?_ ?_; focus (first | rfl | (simp; done) | (simp; omega))))
  refine call_at [0, 1, 2, 3, 4, 5] (links_ok s2 g2.ok _ ?_) rfl rfl rfl rfl
  rw [List.eq_nil_of_length_eq_zero l2]
  repeat (first | (refine condA_true ?_ ?_; focus (first | rfl | (simp; done) | (simp; omega))) | (refine condA_false ?_ ?_; focus (first | rfl | (simp; done) | (simp; omega))))
  exact leaf [] (.dat (.bool true)) [] rfl rfl rfl rfl rfl hk
end Go.Abs.X

namespace Go.Abs.X
open Go.Abs Go Go.Proofs Go.Proofs.YtbbpedjbfgcdoaaGreatDoor
open Go.RowKit Go.Shelf Go.Lib

/-- what the rows of this seat list -/
def laidL : List (String × DataW Unit) := [("unicode.properties", Rows.laid_unicode_properties), ("unicode.CaseRanges", Rows.laid_unicode_CaseRanges), ("unicode.Digit", Rows.laid_unicode_Digit), ("unicode.Letter", Rows.laid_unicode_Letter)]
theorem xR : RExtra Tryz.prog Tryz.lays198_ren := ⟨by kernel_rfl, by kernel_rfl, by kernel_rfl, by kernel_rfl, by kernel_rfl, by kernel_rfl, by kernel_rfl, by kernel_rfl⟩
theorem xC : CaseExtra Tryz.prog Tryz.lays204_ren := ⟨by kernel_rfl, by kernel_rfl, by kernel_rfl, by kernel_rfl, by kernel_rfl, by kernel_rfl⟩
theorem props_eq : (Rows.laid_unicode_properties : DataW Unit) = tabData .u8 Lib.propertiesTab := by kernel_rfl
theorem laid_of {W : World} (h : laidMetH Tryz.prog laidL W) : Laid W := by
  rw [MakeChecks.laidMetH_plain _ _ _ (by kernel_rfl)] at h
  refine ⟨?_, ?_, ?_, ?_⟩
  · unfold laidL at h
    rw [props_eq] at h
    exact tabIs_of_head (by kernel_rfl) (by kernel_rfl) (g := 0) (t := 239) (e := 5) (n := 256) (by kernel_rfl) (by kernel_rfl) (by kernel_rfl) (by kernel_rfl) h
  · exact rvar_of_reads { Tryz.lays198 with } xR (by kernel_rfl) (by kernel_rfl) ((show Rows.laid_unicode_Letter = rtabData letterT from Pinned.letter_eq) ▸ Lib.laidMet.reads h (.tail _ (.tail _ (.tail _ (.head _)))))
  · exact rvar_of_reads { Tryz.lays198 with } xR (by kernel_rfl) (by kernel_rfl) ((show Rows.laid_unicode_Digit = rtabData digitT from Pinned.digit_eq) ▸ Lib.laidMet.reads h (.tail _ (.tail _ (.head _))))
  · exact caseVar_of_reads { Tryz.lays204 with } Tryz.lays204.t206 xC ((show Rows.laid_unicode_CaseRanges = caseData from Pinned.caseRanges_eq) ▸ Lib.laidMet.reads h (.tail _ (.head _)))
end Go.Abs.X
