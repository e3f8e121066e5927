/- A part of the proof behind the last text of this folder: K4, M6, M7, M8, M9, B1, B2, B3, B4, B5, B6, B7, B8, M10, M11. -/
import Derived.Test.YtbbpedjbfgcdoaaGreatDoorP7
set_option linter.unusedSimpArgs false
set_option linter.unusedSectionVars false

namespace Go.Abs.X
open Go.Abs Go Go.Proofs
variable {w0 : World}

instance (c : Cmd) : Decidable c.bad := by unfold Cmd.bad; infer_instance
def Cmd.out (c : Cmd) : Prop := ¬ (0 ≤ c.peer ∧ c.peer ≤ 65535) ∨ ¬ (0 ≤ c.of ∧ c.of ≤ 65535) ∨ c.track < 0 ∨ 4 ≤ c.track ∨ c.layer < 0 ∨ 3 ≤ c.layer
instance (c : Cmd) : Decidable c.out := by unfold Cmd.out; infer_instance
def Cmd.check (c : Cmd) : Int :=
  if ¬ (1 ≤ c.kind ∧ c.kind ≤ 8) then 3 else if c.bad then 2 else if c.out then 5
  else if c.kind = 1 then (if checkM c.room ≠ 0 ∨ checkM c.name ≠ 0 then 6 else 0)
  else if c.kind = 3 then sourcesM c.ssrcs c.video else 0
theorem hasM_no {k : Int} (h : ¬ (1 ≤ k ∧ k ≤ 8)) : hasM k = ⟨#[]⟩ := by
  unfold hasM hasL
  rw [if_neg (by omega), if_neg (by omega), if_neg (by omega), if_neg (by omega), if_neg (by omega), if_neg (by omega), if_neg (by omega), if_neg (by omega)]
theorem hasM_yes {k : Int} (h : 1 ≤ k ∧ k ≤ 8) : ((hasM k).toList == (⟨#[]⟩ : ByteArray).toList) = false := by
  have : k = 1 ∨ k = 2 ∨ k = 3 ∨ k = 4 ∨ k = 5 ∨ k = 6 ∨ k = 7 ∨ k = 8 := by omega
  rcases this with rfl | rfl | rfl | rfl | rfl | rfl | rfl | rfl <;> rw [Lib.toList_data, Lib.toList_data] <;> rfl
set_option maxHeartbeats 4000000 in
theorem ccheck_ok (L : Laid w0) (c : Cmd) (hc : c.OK) (K : AV → Heap → Prop) (hk : K (.dat (.int .i64 c.check)) []) : CallA (cx w0) 33 [.dat c.dv] [] K := by
  have fin : ∀ e, c.check = e → K (.dat (.int .i64 e)) [] := fun e h => h ▸ hk
  clear hk
  have hr := hc.room
  have hn := hc.name
  cases hcc : c with
  | mk kind room name peer of track layer on video ssrcs sdv =>
  subst hcc
  unfold Cmd.check at fin
  refine CallA.ret ?_
  refine CallA.enter ok (dr (plOf [])) Tryz.func33 Tryz.call33 ?_
  refine call_at [] (has_ok kind _ ?_) rfl rfl rfl rfl
  by_cases c1 : 1 ≤ kind ∧ kind ≤ 8
  · refine condA_false (hasM_yes c1) ?_
    have fin := fun e (h : _ = e) => fin e (by rw [if_neg (by simpa using c1)]; exact h)
    refine call_can ?_
    refine call_at [] (empty_ok _ hc c1.1 c1.2 _ (fun c2 => ?_) (fun c2 => ?_)) rfl rfl rfl rfl
    · repeat (first | (refine condA_true ?_ ?_; focus (first | rfl | (simp; done) | (simp; omega))) | (refine condA_false ?_ ?_; focus (first | rfl | (simp; done) | (simp; omega))))
      exact leaf [] (.dat (.int .i64 2)) [] rfl rfl rfl rfl rfl (fin 2 (if_pos c2))
    have fin := fun e (h : _ = e) => fin e (by rw [if_neg c2]; exact h)
    repeat (first | (refine condA_true ?_ ?_; focus (first | rfl | (simp; done) | (simp; omega))) | (refine condA_false ?_ ?_; focus (first | rfl | (simp; done) | (simp; omega))))
    refine call_at [] (peer_ok' peer _ ?_) rfl rfl rfl rfl
    by_cases o1 : 0 ≤ peer ∧ peer ≤ 65535
    · repeat (first | (refine condA_true ?_ ?_; focus (first | rfl | (simp; done) | (simp; omega) | (simp [o1]; done) | (simp [o1]; omega))) | (refine condA_false ?_ ?_; focus (first | rfl | (simp; done) | (simp; omega) | (simp [o1]; done) | (simp [o1]; omega))))
      refine call_at [] (peer_ok' of _ ?_) rfl rfl rfl rfl
      by_cases o2 : 0 ≤ of ∧ of ≤ 65535
      · by_cases o3 : track < 0
        · repeat (first | (refine condA_true ?_ ?_; focus (first | rfl | (simp; done) | (simp; omega) | (simp [o1]; done) | (simp [o2]; done) | (simp [o3]; done) | (simp [o1]; omega) | (simp [o2]; omega) | (simp [o3]; omega) | (simp [o1, o2]; done) | (simp [o1, o3]; done) | (simp [o2, o3]; done))) | (refine condA_false ?_ ?_; focus (first | rfl | (simp; done) | (simp; omega) | (simp [o1]; done) | (simp [o2]; done) | (simp [o3]; done) | (simp [o1]; omega) | (simp [o2]; omega) | (simp [o3]; omega) | (simp [o1, o2]; done) | (simp [o1, o3]; done) | (simp [o2, o3]; done))))
          exact leaf [] (.dat (.int .i64 5)) [] rfl rfl rfl rfl rfl (fin 5 (if_pos (by simp [Cmd.out, o3])))
        by_cases o4 : 4 ≤ track
        · repeat (first | (refine condA_true ?_ ?_; focus (first | rfl | (simp; done) | (simp; omega) | (simp [o1]; done) | (simp [o2]; done) | (simp [o3]; done) | (simp [o4]; done) | (simp [o1]; omega) | (simp [o2]; omega) | (simp [o3]; omega) | (simp [o4]; omega) | (simp [o1, o2]; done) | (simp [o1, o3]; done) | (simp [o1, o4]; done) | (simp [o2, o3]; done) | (simp [o2, o4]; done) | (simp [o3, o4]; done))) | (refine condA_false ?_ ?_; focus (first | rfl | (simp; done) | (simp; omega) | (simp [o1]; done) | (simp [o2]; done) | (simp [o3]; done) | (simp [o4]; done) | (simp [o1]; omega) | (simp [o2]; omega) | (simp [o3]; omega) | (simp [o4]; omega) | (simp [o1, o2]; done) | (simp [o1, o3]; done) | (simp [o1, o4]; done) | (simp [o2, o3]; done) | (simp [o2, o4]; done) | (simp [o3, o4]; done))))
          exact leaf [] (.dat (.int .i64 5)) [] rfl rfl rfl rfl rfl (fin 5 (if_pos (by simp [Cmd.out, o4])))
        by_cases o5 : layer < 0
        · repeat (first | (refine condA_true ?_ ?_; focus (first | rfl | (simp; done) | (simp; omega) | (simp [o1]; done) | (simp [o2]; done) | (simp [o3]; done) | (simp [o4]; done) | (simp [o5]; done) | (simp [o1]; omega) | (simp [o2]; omega) | (simp [o3]; omega) | (simp [o4]; omega) | (simp [o5]; omega) | (simp [o1, o2]; done) | (simp [o1, o3]; done) | (simp [o1, o4]; done) | (simp [o1, o5]; done) | (simp [o2, o3]; done) | (simp [o2, o4]; done) | (simp [o2, o5]; done) | (simp [o3, o4]; done) | (simp [o3, o5]; done) | (simp [o4, o5]; done))) | (refine condA_false ?_ ?_; focus (first | rfl | (simp; done) | (simp; omega) | (simp [o1]; done) | (simp [o2]; done) | (simp [o3]; done) | (simp [o4]; done) | (simp [o5]; done) | (simp [o1]; omega) | (simp [o2]; omega) | (simp [o3]; omega) | (simp [o4]; omega) | (simp [o5]; omega) | (simp [o1, o2]; done) | (simp [o1, o3]; done) | (simp [o1, o4]; done) | (simp [o1, o5]; done) | (simp [o2, o3]; done) | (simp [o2, o4]; done) | (simp [o2, o5]; done) | (simp [o3, o4]; done) | (simp [o3, o5]; done) | (simp [o4, o5]; done))))
          exact leaf [] (.dat (.int .i64 5)) [] rfl rfl rfl rfl rfl (fin 5 (if_pos (by simp [Cmd.out, o5])))
        by_cases o6 : 3 ≤ layer
        · repeat (first | (refine condA_true ?_ ?_; focus (first | rfl | (simp; done) | (simp; omega) | (simp [o1]; done) | (simp [o2]; done) | (simp [o3]; done) | (simp [o4]; done) | (simp [o5]; done) | (simp [o6]; done) | (simp [o1]; omega) | (simp [o2]; omega) | (simp [o3]; omega) | (simp [o4]; omega) | (simp [o5]; omega) | (simp [o6]; omega) | (simp [o1, o2]; done) | (simp [o1, o3]; done) | (simp [o1, o4]; done) | (simp [o1, o5]; done) | (simp [o1, o6]; done) | (simp [o2, o3]; done) | (simp [o2, o4]; done) | (simp [o2, o5]; done) | (simp [o2, o6]; done) | (simp [o3, o4]; done) | (simp [o3, o5]; done) | (simp [o3, o6]; done) | (simp [o4, o5]; done) | (simp [o4, o6]; done) | (simp [o5, o6]; done))) | (refine condA_false ?_ ?_; focus (first | rfl | (simp; done) | (simp; omega) | (simp [o1]; done) | (simp [o2]; done) | (simp [o3]; done) | (simp [o4]; done) | (simp [o5]; done) | (simp [o6]; done) | (simp [o1]; omega) | (simp [o2]; omega) | (simp [o3]; omega) | (simp [o4]; omega) | (simp [o5]; omega) | (simp [o6]; omega) | (simp [o1, o2]; done) | (simp [o1, o3]; done) | (simp [o1, o4]; done) | (simp [o1, o5]; done) | (simp [o1, o6]; done) | (simp [o2, o3]; done) | (simp [o2, o4]; done) | (simp [o2, o5]; done) | (simp [o2, o6]; done) | (simp [o3, o4]; done) | (simp [o3, o5]; done) | (simp [o3, o6]; done) | (simp [o4, o5]; done) | (simp [o4, o6]; done) | (simp [o5, o6]; done))))
          exact leaf [] (.dat (.int .i64 5)) [] rfl rfl rfl rfl rfl (fin 5 (if_pos (by simp [Cmd.out, o6])))
        have fin := fun e (h : _ = e) => fin e (by rw [if_neg (by simp only [Cmd.out]; omega)]; exact h)
        dsimp only at fin hr hn
        by_cases k1 : kind = 1
        · subst k1
          have fin := fun e (h : _ = e) => fin e (by rw [if_pos rfl]; exact h)
          repeat (first | (refine condA_true ?_ ?_; focus (first | rfl | (simp; done) | (simp; omega) | (simp [o1]; done) | (simp [o2]; done) | (simp [o3]; done) | (simp [o4]; done) | (simp [o5]; done) | (simp [o6]; done) | (simp [o1]; omega) | (simp [o2]; omega) | (simp [o3]; omega) | (simp [o4]; omega) | (simp [o5]; omega) | (simp [o6]; omega) | (simp [o1, o2]; done) | (simp [o1, o3]; done) | (simp [o1, o4]; done) | (simp [o1, o5]; done) | (simp [o1, o6]; done) | (simp [o2, o3]; done) | (simp [o2, o4]; done) | (simp [o2, o5]; done) | (simp [o2, o6]; done) | (simp [o3, o4]; done) | (simp [o3, o5]; done) | (simp [o3, o6]; done) | (simp [o4, o5]; done) | (simp [o4, o6]; done) | (simp [o5, o6]; done))) | (refine condA_false ?_ ?_; focus (first | rfl | (simp; done) | (simp; omega) | (simp [o1]; done) | (simp [o2]; done) | (simp [o3]; done) | (simp [o4]; done) | (simp [o5]; done) | (simp [o6]; done) | (simp [o1]; omega) | (simp [o2]; omega) | (simp [o3]; omega) | (simp [o4]; omega) | (simp [o5]; omega) | (simp [o6]; omega) | (simp [o1, o2]; done) | (simp [o1, o3]; done) | (simp [o1, o4]; done) | (simp [o1, o5]; done) | (simp [o1, o6]; done) | (simp [o2, o3]; done) | (simp [o2, o4]; done) | (simp [o2, o5]; done) | (simp [o2, o6]; done) | (simp [o3, o4]; done) | (simp [o3, o5]; done) | (simp [o3, o6]; done) | (simp [o4, o5]; done) | (simp [o4, o6]; done) | (simp [o5, o6]; done))))
          refine call_at [] (check_ok L room _ ?_) rfl rfl rfl rfl
          by_cases r1 : checkM room = 0
          · repeat (first | (refine condA_true ?_ ?_; focus (first | rfl | (simp; done) | (simp; omega) | (simp [r1]; done) | (simp [r1]; omega))) | (refine condA_false ?_ ?_; focus (first | rfl | (simp; done) | (simp; omega) | (simp [r1]; done) | (simp [r1]; omega))))
            refine call_at [] (check_ok L name _ ?_) rfl rfl rfl rfl
            by_cases r2 : checkM name = 0
            · repeat (first | (refine condA_true ?_ ?_; focus (first | rfl | (simp; done) | (simp; omega) | (simp [r1]; done) | (simp [r2]; done) | (simp [r1]; omega) | (simp [r2]; omega) | (simp [r1, r2]; done))) | (refine condA_false ?_ ?_; focus (first | rfl | (simp; done) | (simp; omega) | (simp [r1]; done) | (simp [r2]; done) | (simp [r1]; omega) | (simp [r2]; omega) | (simp [r1, r2]; done))))
              exact leaf [] (.dat (.int .i64 0)) [] rfl rfl rfl rfl rfl (fin 0 (if_neg (by simp [r1, r2])))
            · repeat (first | (refine condA_true ?_ ?_; focus (first | rfl | (simp; done) | (simp; omega) | (simp [r1]; done) | (simp [r2]; done) | (simp [r1]; omega) | (simp [r2]; omega) | (simp [r1, r2]; done))) | (refine condA_false ?_ ?_; focus (first | rfl | (simp; done) | (simp; omega) | (simp [r1]; done) | (simp [r2]; done) | (simp [r1]; omega) | (simp [r2]; omega) | (simp [r1, r2]; done))))
              exact leaf [] (.dat (.int .i64 6)) [] rfl rfl rfl rfl rfl (fin 6 (if_pos (by simp [r2])))
          · repeat (first | (refine condA_true ?_ ?_; focus (first | rfl | (simp; done) | (simp; omega) | (simp [r1]; done) | (simp [r1]; omega))) | (refine condA_false ?_ ?_; focus (first | rfl | (simp; done) | (simp; omega) | (simp [r1]; done) | (simp [r1]; omega))))
            exact leaf [] (.dat (.int .i64 6)) [] rfl rfl rfl rfl rfl (fin 6 (if_pos (by simp [r1])))
        · have fin := fun e (h : _ = e) => fin e (by rw [if_neg k1]; exact h)
          by_cases k3 : kind = 3
          · have fin := fun e (h : _ = e) => fin e (by rw [if_pos k3]; exact h)
            repeat (first | (refine condA_true ?_ ?_; focus (first | rfl | (simp; done) | (simp; omega) | (simp [o1]; done) | (simp [o2]; done) | (simp [o3]; done) | (simp [o4]; done) | (simp [o5]; done) | (simp [o6]; done) | (simp [k1]; done) | (simp [k3]; done) | (simp [o1]; omega) | (simp [o2]; omega) | (simp [o3]; omega) | (simp [o4]; omega) | (simp [o5]; omega) | (simp [o6]; omega) | (simp [k1]; omega) | (simp [k3]; omega) | (simp [o1, o2]; done) | (simp [o1, o3]; done) | (simp [o1, o4]; done) | (simp [o1, o5]; done) | (simp [o1, o6]; done) | (simp [o1, k1]; done) | (simp [o1, k3]; done) | (simp [o2, o3]; done) | (simp [o2, o4]; done) | (simp [o2, o5]; done) | (simp [o2, o6]; done) | (simp [o2, k1]; done) | (simp [o2, k3]; done) | (simp [o3, o4]; done) | (simp [o3, o5]; done) | (simp [o3, o6]; done) | (simp [o3, k1]; done) | (simp [o3, k3]; done) | (simp [o4, o5]; done) | (simp [o4, o6]; done) | (simp [o4, k1]; done) | (simp [o4, k3]; done) | (simp [o5, o6]; done) | (simp [o5, k1]; done) | (simp [o5, k3]; done) | (simp [o6, k1]; done) | (simp [o6, k3]; done) | (simp [k1, k3]; done))) | (refine condA_false ?_ ?_; focus (first | rfl | (simp; done) | (simp; omega) | (simp [o1]; done) | (simp [o2]; done) | (simp [o3]; done) | (simp [o4]; done) | (simp [o5]; done) | (simp [o6]; done) | (simp [k1]; done) | (simp [k3]; done) | (simp [o1]; omega) | (simp [o2]; omega) | (simp [o3]; omega) | (simp [o4]; omega) | (simp [o5]; omega) | (simp [o6]; omega) | (simp [k1]; omega) | (simp [k3]; omega) | (simp [o1, o2]; done) | (simp [o1, o3]; done) | (simp [o1, o4]; done) | (simp [o1, o5]; done) | (simp [o1, o6]; done) | (simp [o1, k1]; done) | (simp [o1, k3]; done) | (simp [o2, o3]; done) | (simp [o2, o4]; done) | (simp [o2, o5]; done) | (simp [o2, o6]; done) | (simp [o2, k1]; done) | (simp [o2, k3]; done) | (simp [o3, o4]; done) | (simp [o3, o5]; done) | (simp [o3, o6]; done) | (simp [o3, k1]; done) | (simp [o3, k3]; done) | (simp [o4, o5]; done) | (simp [o4, o6]; done) | (simp [o4, k1]; done) | (simp [o4, k3]; done) | (simp [o5, o6]; done) | (simp [o5, k1]; done) | (simp [o5, k3]; done) | (simp [o6, k1]; done) | (simp [o6, k3]; done) | (simp [k1, k3]; done))))
            refine call_can ?_
            refine call_at [] (sources_ok _ hc _ (fun e he => ?_)) rfl rfl rfl rfl
            exact leaf [] (.dat (.int .i64 e)) [] rfl rfl rfl rfl rfl (fin e he.symm)
          · have fin := fun e (h : _ = e) => fin e (by rw [if_neg k3]; exact h)
            repeat (first | (refine condA_true ?_ ?_; focus (first | rfl | (simp; done) | (simp; omega) | (simp [o1]; done) | (simp [o2]; done) | (simp [o3]; done) | (simp [o4]; done) | (simp [o5]; done) | (simp [o6]; done) | (simp [k1]; done) | (simp [k3]; done) | (simp [o1]; omega) | (simp [o2]; omega) | (simp [o3]; omega) | (simp [o4]; omega) | (simp [o5]; omega) | (simp [o6]; omega) | (simp [k1]; omega) | (simp [k3]; omega) | (simp [o1, o2]; done) | (simp [o1, o3]; done) | (simp [o1, o4]; done) | (simp [o1, o5]; done) | (simp [o1, o6]; done) | (simp [o1, k1]; done) | (simp [o1, k3]; done) | (simp [o2, o3]; done) | (simp [o2, o4]; done) | (simp [o2, o5]; done) | (simp [o2, o6]; done) | (simp [o2, k1]; done) | (simp [o2, k3]; done) | (simp [o3, o4]; done) | (simp [o3, o5]; done) | (simp [o3, o6]; done) | (simp [o3, k1]; done) | (simp [o3, k3]; done) | (simp [o4, o5]; done) | (simp [o4, o6]; done) | (simp [o4, k1]; done) | (simp [o4, k3]; done) | (simp [o5, o6]; done) | (simp [o5, k1]; done) | (simp [o5, k3]; done) | (simp [o6, k1]; done) | (simp [o6, k3]; done) | (simp [k1, k3]; done))) | (refine condA_false ?_ ?_; focus (first | rfl | (simp; done) | (simp; omega) | (simp [o1]; done) | (simp [o2]; done) | (simp [o3]; done) | (simp [o4]; done) | (simp [o5]; done) | (simp [o6]; done) | (simp [k1]; done) | (simp [k3]; done) | (simp [o1]; omega) | (simp [o2]; omega) | (simp [o3]; omega) | (simp [o4]; omega) | (simp [o5]; omega) | (simp [o6]; omega) | (simp [k1]; omega) | (simp [k3]; omega) | (simp [o1, o2]; done) | (simp [o1, o3]; done) | (simp [o1, o4]; done) | (simp [o1, o5]; done) | (simp [o1, o6]; done) | (simp [o1, k1]; done) | (simp [o1, k3]; done) | (simp [o2, o3]; done) | (simp [o2, o4]; done) | (simp [o2, o5]; done) | (simp [o2, o6]; done) | (simp [o2, k1]; done) | (simp [o2, k3]; done) | (simp [o3, o4]; done) | (simp [o3, o5]; done) | (simp [o3, o6]; done) | (simp [o3, k1]; done) | (simp [o3, k3]; done) | (simp [o4, o5]; done) | (simp [o4, o6]; done) | (simp [o4, k1]; done) | (simp [o4, k3]; done) | (simp [o5, o6]; done) | (simp [o5, k1]; done) | (simp [o5, k3]; done) | (simp [o6, k1]; done) | (simp [o6, k3]; done) | (simp [k1, k3]; done))))
            exact leaf [] (.dat (.int .i64 0)) [] rfl rfl rfl rfl rfl (fin 0 rfl)
      · repeat (first | (refine condA_true ?_ ?_; focus (first | rfl | (simp; done) | (simp; omega) | (simp [o1]; done) | (simp [o2]; done) | (simp [o1]; omega) | (simp [o2]; omega) | (simp [o1, o2]; done))) | (refine condA_false ?_ ?_; focus (first | rfl | (simp; done) | (simp; omega) | (simp [o1]; done) | (simp [o2]; done) | (simp [o1]; omega) | (simp [o2]; omega) | (simp [o1, o2]; done))))
        exact leaf [] (.dat (.int .i64 5)) [] rfl rfl rfl rfl rfl (fin 5 (if_pos (by simp only [Cmd.out]; omega)))
    · repeat (first | (refine condA_true ?_ ?_; focus (first | rfl | (simp; done) | (simp; omega) | (simp [o1]; done) | (simp [o1]; omega))) | (refine condA_false ?_ ?_; focus (first | rfl | (simp; done) | (simp; omega) | (simp [o1]; done) | (simp [o1]; omega))))
      exact leaf [] (.dat (.int .i64 5)) [] rfl rfl rfl rfl rfl (fin 5 (if_pos (by simp only [Cmd.out]; omega)))
  · have fin := fun e (h : _ = e) => fin e (by rw [if_pos c1]; exact h)
    rw [hasM_no c1]
    refine condA_true (by simp) ?_
    exact leaf [] (.dat (.int .i64 3)) [] rfl rfl rfl rfl rfl (fin 3 rfl)

theorem clone_nil (K : AV → Heap → Prop) (hk : K (.dat .nils) []) : CallA (cx w0) 47 [.dat .nils] [] K := by
  refine CallA.enter ok (dr (plOf [])) Tryz.func47 Tryz.call47 ?_
  refine condA_true rfl ?_
  exact hk
theorem clone_ok (xs : List Int) (cap : Option Nat) (h0 : 0 < xs.length) (hl : xs.length ≤ 1000) (K : AV → Heap → Prop) (hk : K (.dat (.ros (u32s xs) xs.length none)) []) : CallA (cx w0) 47 [.dat (.ros (u32s xs) xs.length cap)] [] K := by
  refine CallA.ret ?_
  refine CallA.enter ok (dr (plOf [])) Tryz.func47 Tryz.call47 ?_
  refine condA_false rfl ?_
  have hk' : K (.dat (.ros (u32s xs) (0 + xs.length) none)) [] := by rw [Nat.zero_add]; exact hk
  refine appA h0 ⟨rfl, ?_, ?_, ?_, ?_⟩ ?_
  · show ((u32s xs).map AV.dat).length = xs.length * 1
    simp [u32s_eq]
  · intro a ha
    have ha : a ∈ (u32s xs).map AV.dat := ha
    simp only [u32s_eq, List.map_map, List.mem_map] at ha
    obtain ⟨x, _, rfl⟩ := ha
    rfl
  · show (0 + xs.length) * 4 ≤ 140737488355328
    omega
  · show 0 + xs.length ≤ maxLen
    unfold maxLen; omega
  · refine shift_frz' 1 (u32s xs) rfl rfl ?_
    refine leaf [] (.dat (.ros (u32s xs) (0 + xs.length) none)) [] ?_ ?_ ?_ ?_ ?_ hk'
    · show renT _ _ = canA (frz 1 (u32s xs) (oneA [AV.sl 1 0 (0 + xs.length) none 1]))
      show renT _ _ = canA (.dat (.ros (ldrop (u32s xs) 0) (0 + xs.length) none))
      show AV.dat (.ros (u32s xs) (0 + xs.length) none) = canA (AV.dat (.ros (u32s xs) (0 + xs.length) none))
      rfl
    all_goals rfl
end Go.Abs.X

namespace Go.Abs.X
open Go.Abs Go Go.Proofs

/-! The state: rooms, tracks, subscriptions, sources. -/
structure TrackV where
  video : Bool
  muted : Bool
  ssrcs : List Int
abbrev KeyT := Int × Int
abbrev SubV := Int × Bool
abbrev SrcV := Int × Int × Int
def keyD (k : KeyT) : DV := .agg [.int .i64 k.1, .int .i64 k.2]
def trackD (t : TrackV) : DV := .agg [.bool t.video, .bool t.muted, .ros (u32s t.ssrcs) t.ssrcs.length none]
def subD (x : SubV) : DV := .agg [.int .i64 x.1, .bool x.2]
def srcD (x : SrcV) : DV := .agg [.int .i64 x.1, .int .i64 x.2.1, .int .i64 x.2.2]
theorem beqI (a b : Int) : (a == b) = decide (a = b) := by rw [Bool.eq_iff_iff]; simp
def EK : Enc KeyT TrackV := ⟨keyD, fun _ t => trackD t, fun a b => by
  simp only [keyD, keyEq, keyEqs, keyEq1, kEq, Bool.and_true, Option.some.injEq, beqI]
  rw [Bool.eq_iff_iff]; simp [Prod.ext_iff]⟩
def EL : Enc LinkT SubV := ⟨LinkT.dv, fun _ x => subD x, fun a b => by
  simp only [LinkT.dv, linkD, keyEq, keyEqs, keyEq1, kEq, Bool.and_true, Option.some.injEq, beqI]
  rw [Bool.eq_iff_iff]
  cases a; cases b; simp⟩
def EU : Enc Int SrcV := ⟨u32, fun _ x => srcD x, fun a b => by simp only [u32, keyEq, keyEq1, kEq]; congr⟩
structure St where
  t : Tb
  tracks : List (KeyT × TrackV)
  subs : List (LinkT × SubV)
  srcs : List (Int × SrcV)
structure StOK (s : St) : Prop where
  t : TbOK s.t
  tr : ∀ p ∈ s.tracks, 1 ≤ p.2.ssrcs.length ∧ p.2.ssrcs.length ≤ 3
  nd : (s.tracks.map (·.1)).Nodup
  ns : (s.subs.map (·.1)).Nodup
  nu : (s.srcs.map (·.1)).Nodup
  len : s.subs.length ≤ 1000000
  lent : s.tracks.length ≤ 1000000
  lenu : s.srcs.length ≤ 1000000
def trackR (s : St) (k : KeyT) : DV × Bool := match lk s.tracks k with
  | some t => (trackD t, true)
  | none => (.agg [.bool false, .bool false, .nils], false)
def subR (s : St) (l : LinkT) : DV × Bool := match lk s.subs l with
  | some x => (subD x, true)
  | none => (.agg [.int .i64 0, .bool false], false)
def srcR (s : St) (n : Int) : DV × Bool := match lk s.srcs n with
  | some x => (srcD x, true)
  | none => (.agg [.int .i64 0, .int .i64 0, .int .i64 0], false)
def St.links (s : St) : List LinkT := sortL (s.subs.map (·.1))
end Go.Abs.X

namespace Go.Abs.X
open Go.Abs Go Go.Proofs

/-! A map that loses entries while it is ranged over. -/
section
variable {κ ν : Type} [DecidableEq κ] (E : Enc κ ν)
def delQ (q : List (Nat × κ × ν)) (k : κ) : List (Nat × κ × ν) := match q with
  | [] => []
  | x :: r => if k = x.2.1 then r else x :: delQ r k
def qB (q : List (Nat × κ × ν)) : List Nat := q.map (·.1)
def qM (q : List (Nat × κ × ν)) : List (κ × ν) := q.map (·.2)
theorem posE_enc (q : List (Nat × κ × ν)) (k : κ) : (qB q).eraseIdx (posE (liftE ((qM q).map E.e)) (E.k k)) = qB (delQ q k) := by
  induction q with
  | nil => rfl
  | cons x r ih =>
    simp only [qB, qM, List.map_cons, liftE, posE, Enc.e, E.eq, delQ] at ih ⊢
    by_cases h : k = x.2.1
    · subst h; simp
    · simp only [h, decide_false, if_false, List.map_cons, List.eraseIdx_cons_succ]
      rw [ih]
theorem delE_lift (q : List (Nat × κ × ν)) (k : κ) : delE (liftE ((qM q).map E.e)) (E.k k) = liftE ((qM (delQ q k)).map E.e) := by
  induction q with
  | nil => rfl
  | cons x r ih =>
    simp only [qM, List.map_cons, liftE, delE, Enc.e, E.eq, delQ] at ih ⊢
    by_cases h : k = x.2.1
    · subst h; simp
    · simp only [h, decide_false, if_false, List.map_cons, liftE, Enc.e]
      rw [ih]
theorem isSome_lift (l : List (κ × ν)) (k : κ) : (findE (liftE (l.map E.e)) (E.k k)).isSome = true := by
  induction l with
  | nil => rfl
  | cons x r ih =>
    simp only [List.map_cons, liftE, findE, Enc.e, E.eq]
    by_cases h : k = x.1
    · subst h; simp
    · simpa [h] using ih
theorem ent_q {q : List (Nat × κ × ν)} {b : Nat} {k : DV} {v : AV} (h : entB (qB q) (liftE ((qM q).map E.e)) b = some (k, v)) : ∃ p, (b, p) ∈ q ∧ k = E.k p.1 ∧ v = .dat (E.v p.1 p.2) := by
  induction q with
  | nil => simp [qB, qM, entB] at h
  | cons x r ih =>
    simp only [qB, qM, List.map_cons, liftE, entB, Enc.e] at h ih
    split at h
    · rename_i e
      obtain rfl := Nat.eq_of_beq_eq_true e
      simp only [Option.some.injEq, Prod.mk.injEq] at h
      exact ⟨x.2, by simp, h.1.symm, h.2.symm⟩
    · obtain ⟨p, h1, h2⟩ := ih h
      exact ⟨p, List.mem_cons_of_mem _ h1, h2⟩
theorem delQ_sub (q : List (Nat × κ × ν)) (k : κ) : (delQ q k).Sublist q := by
  induction q with
  | nil => exact List.Sublist.refl _
  | cons x r ih =>
    simp only [delQ]
    split
    · exact List.sublist_cons_self _ _
    · exact ih.cons_cons _
theorem delQ_key {q : List (Nat × κ × ν)} (h : (q.map (·.2.1)).Nodup) (k : κ) : ∀ x ∈ delQ q k, x.2.1 ≠ k := by
  induction q with
  | nil => simp [delQ]
  | cons x r ih =>
    simp only [List.map_cons, List.nodup_cons] at h
    simp only [delQ]
    split
    · rename_i e
      intro y hy e2
      exact h.1 (by rw [← e, ← e2]; exact List.mem_map.2 ⟨y, hy, rfl⟩)
    · rename_i e
      intro y hy
      rcases List.mem_cons.1 hy with rfl | hy
      · exact fun e2 => e e2.symm
      · exact ih h.2 y hy
theorem delQ_filter (q : List (Nat × κ × ν)) (k : κ) (pr : κ → Bool) (hk : pr k = true) : (qM (delQ q k)).filter (fun p => !pr p.1) = (qM q).filter (fun p => !pr p.1) := by
  induction q with
  | nil => rfl
  | cons x r ih =>
    simp only [delQ]
    split
    · rename_i e
      subst e
      simp [qM, hk]
    · simp only [qM, List.map_cons, List.filter_cons] at ih ⊢
      rw [ih]
/-- while entries that hold pr go -/
structure Goes (l : List (κ × ν)) (pr : κ → Bool) (bs : List Nat) (q : List (Nat × κ × ν)) (seen : List Nat) : Prop where
  same : (qM q).filter (fun p => !pr p.1) = l.filter (fun p => !pr p.1)
  done : ∀ x ∈ q, x.1 ∈ seen → pr x.2.1 = false
  keys : (q.map (·.2.1)).Nodup
  borns : (qB q).Nodup
  sub : ∀ b ∈ qB q, b ∈ bs
theorem Goes.fin {l : List (κ × ν)} {pr : κ → Bool} {bs : List Nat} {q : List (Nat × κ × ν)} {seen : List Nat} (g : Goes l pr bs q seen) (h : ∀ b ∈ qB q, b ∈ seen) : qM q = l.filter (fun p => !pr p.1) := by
  rw [← g.same]
  symm
  rw [List.filter_eq_self]
  intro p hp
  obtain ⟨x, hx, rfl⟩ := List.mem_map.1 hp
  simp [g.done x hx (h x.1 (List.mem_map.2 ⟨x, hx, rfl⟩))]
theorem uniq_fst {α : Type} {q : List (Nat × α)} (h : (q.map (·.1)).Nodup) {b : Nat} {p p' : α} (h1 : (b, p) ∈ q) (h2 : (b, p') ∈ q) : p = p' := by
  induction q with
  | nil => cases h1
  | cons x r ih =>
    simp only [List.map_cons, List.nodup_cons] at h
    rcases List.mem_cons.1 h1 with e1 | i1 <;> rcases List.mem_cons.1 h2 with e2 | i2
    · rw [← e1] at e2; cases e2; rfl
    · exact (h.1 (List.mem_map.2 ⟨_, i2, by rw [← e1]⟩)).elim
    · exact (h.1 (List.mem_map.2 ⟨_, i1, by rw [← e2]⟩)).elim
    · exact ih h.2 i1 i2
theorem Goes.keep {l : List (κ × ν)} {pr : κ → Bool} {bs : List Nat} {q : List (Nat × κ × ν)} {seen : List Nat} (g : Goes l pr bs q seen) {b : Nat} {p : κ × ν} (hp : (b, p) ∈ q) (h : pr p.1 = false) : Goes l pr bs q (b :: seen) :=
  ⟨g.same, fun x hx hs => by
    rcases List.mem_cons.1 hs with e | hs
    · obtain ⟨b', p'⟩ := x
      simp only at e; subst e
      rw [uniq_fst g.borns hx hp]; exact h
    · exact g.done x hx hs, g.keys, g.borns, g.sub⟩
theorem Goes.drop {l : List (κ × ν)} {pr : κ → Bool} {bs : List Nat} {q : List (Nat × κ × ν)} {seen : List Nat} (g : Goes l pr bs q seen) {b : Nat} {p : κ × ν} (hp : (b, p) ∈ q) (h : pr p.1 = true) : Goes l pr bs (delQ q p.1) (b :: seen) :=
  ⟨by rw [delQ_filter q p.1 pr h, g.same], fun x hx hs => by
    have hx' := (delQ_sub q p.1).subset hx
    rcases List.mem_cons.1 hs with e | hs
    · obtain ⟨b', p'⟩ := x
      simp only at e; subst e
      have := uniq_fst g.borns hx' hp
      subst this
      exact absurd rfl (delQ_key g.keys _ _ hx)
    · exact g.done x hx' hs, ((delQ_sub q p.1).map _).nodup g.keys, ((delQ_sub q p.1).map _).nodup g.borns, fun b' hb => g.sub b' (((delQ_sub q p.1).map _).subset hb)⟩
theorem zip_q (bs : List Nat) (l : List (κ × ν)) (h : bs.length = l.length) : qB (bs.zip l) = bs ∧ qM (bs.zip l) = l := by
  constructor
  · unfold qB; rw [List.map_fst_zip]; omega
  · unfold qM; rw [List.map_snd_zip]; omega
theorem Goes.start {l : List (κ × ν)} (pr : κ → Bool) {bs : List Nat} (h : bs.length = l.length) (hb : bs.Pairwise (· < ·)) (hl : (l.map (·.1)).Nodup) : Goes l pr bs (bs.zip l) [] :=
  ⟨by rw [(zip_q bs l h).2], fun _ _ hs => (List.not_mem_nil hs).elim, by
    have : (bs.zip l).map (·.2.1) = (qM (bs.zip l)).map (·.1) := by simp [qM]
    rw [this, (zip_q bs l h).2]
    exact hl, by rw [(zip_q bs l h).1]; exact hb.imp (fun h => Nat.ne_of_lt h), by rw [(zip_q bs l h).1]; exact fun _ h => h⟩
end
def left (bs seen : List Nat) : Nat := (bs.filter fun b => decide (b ∉ seen)).length
theorem left_lt {bs seen : List Nat} {b : Nat} (hb : b ∈ bs) (hn : b ∉ seen) : left bs (b :: seen) < left bs seen := by
  unfold left
  induction bs with
  | nil => cases hb
  | cons x r ih =>
    have mono : ((r.filter fun c => decide (c ∉ b :: seen)).length) ≤ (r.filter fun c => decide (c ∉ seen)).length := by
      clear ih hb
      induction r with
      | nil => simp
      | cons y r ih =>
        simp only [List.filter_cons]
        by_cases h : y ∈ seen
        · simpa [h] using ih
        · by_cases e : y = b
          · subst e; simp [h]; simp at ih; omega
          · simpa [h, e] using ih
    simp only [List.filter_cons]
    by_cases e : x = b
    · subst e; simp [hn]; simp at mono; omega
    · have := ih (by rcases List.mem_cons.1 hb with h | h; exact absurd h.symm e; exact h)
      by_cases h : x ∈ seen
      · simpa [h] using this
      · simpa [h, e] using this
theorem ren_mapQ {κ ν : Type} [DecidableEq κ] {E : Enc κ ν} {f : Nat → Nat} {bs : List Nat} {clk : Nat} {es : List (DV × AV)} {q : List (Nat × κ × ν)} (h1 : bs = qB q) (h2 : es = liftE ((qM q).map E.e)) :
    some (AB.mapB bs clk es) = some (renB f (.mapB (qB q) clk (liftE ((qM q).map E.e)))) := by subst h1; subst h2; exact ren_mapB
end Go.Abs.X

namespace Go.Abs.X
open Go.Abs Go Go.Proofs
section
variable {κ ν : Type} [DecidableEq κ]
theorem del_sub (l : List (κ × ν)) (k : κ) : (del l k).Sublist l := by
  induction l with
  | nil => exact List.Sublist.refl _
  | cons x r ih =>
    simp only [del]
    split
    · exact List.sublist_cons_self _ _
    · exact ih.cons_cons _
theorem del_nodup {l : List (κ × ν)} (h : (l.map (·.1)).Nodup) (k : κ) : ((del l k).map (·.1)).Nodup := ((del_sub l k).map _).nodup h
theorem lk_none {l : List (κ × ν)} {k : κ} : lk l k = none ↔ k ∉ l.map (·.1) := by
  induction l with
  | nil => simp [lk]
  | cons x r ih =>
    simp only [lk, List.map_cons, List.mem_cons]
    by_cases h : k = x.1
    · simp [h]
    · simp [h, ih]
theorem lk_iff {l : List (κ × ν)} (h : (l.map (·.1)).Nodup) {k : κ} {v : ν} : lk l k = some v ↔ (k, v) ∈ l := by
  refine ⟨lk_mem, fun hm => ?_⟩
  induction l with
  | nil => cases hm
  | cons x r ih =>
    simp only [List.map_cons, List.nodup_cons] at h
    simp only [lk]
    rcases List.mem_cons.1 hm with e | hm
    · rw [← e]; simp
    · rw [if_neg (fun e => h.1 (List.mem_map.2 ⟨_, hm, e⟩)), ih h.2 hm]
theorem ins_nodup {l : List (κ × ν)} (h : (l.map (·.1)).Nodup) (k : κ) (v : ν) : ((ins l k v).map (·.1)).Nodup := by
  induction l with
  | nil => simp [ins]
  | cons x r ih =>
    simp only [List.map_cons, List.nodup_cons] at h
    simp only [ins]
    split
    · rename_i e; subst e; simpa using h
    · rename_i e
      simp only [List.map_cons, List.nodup_cons]
      refine ⟨fun hm => ?_, ih h.2⟩
      have : ∀ (r : List (κ × ν)), x.1 ∈ (ins r k v).map (·.1) → x.1 ∈ r.map (·.1) := fun r => by
        induction r with
        | nil => intro hm; simp [ins] at hm; exact absurd hm.symm e
        | cons y r ih2 =>
          intro hm
          simp only [ins] at hm
          split at hm
          · rename_i e2; subst e2
            simp only [List.map_cons, List.mem_cons] at hm ⊢
            rcases hm with h1 | h1
            · exact absurd h1.symm e
            · exact Or.inr h1
          · simp only [List.map_cons, List.mem_cons] at hm ⊢
            rcases hm with h1 | h1
            · exact Or.inl h1
            · exact Or.inr (ih2 h1)
      exact h.1 (this r hm)
theorem lk_ins (l : List (κ × ν)) (k k' : κ) (v : ν) : lk (ins l k v) k' = if k' = k then some v else lk l k' := by
  induction l with
  | nil => simp [ins, lk]
  | cons x r ih =>
    simp only [ins]
    by_cases e : k = x.1
    · subst e; simp only [if_pos, lk]; split <;> simp_all
    · simp only [if_neg e, lk, ih]
      by_cases e2 : k' = x.1
      · subst e2; simp [Ne.symm e]
      · simp [e2]
theorem lk_del {l : List (κ × ν)} (h : (l.map (·.1)).Nodup) (k k' : κ) : lk (del l k) k' = if k' = k then none else lk l k' := by
  induction l with
  | nil => simp [del, lk]
  | cons x r ih =>
    simp only [List.map_cons, List.nodup_cons] at h
    simp only [del]
    by_cases e : k = x.1
    · subst e
      simp only [if_pos, lk]
      by_cases e2 : k' = x.1
      · subst e2; simp [lk_none.2 h.1]
      · simp [e2]
    · simp only [if_neg e, lk, ih h.2]
      by_cases e2 : k' = x.1
      · subst e2; simp [Ne.symm e]
      · simp [e2]
theorem lk_filter {l : List (κ × ν)} (pr : κ → Bool) (k : κ) : lk (l.filter fun p => pr p.1) k = if pr k = true then lk l k else none := by
  induction l with
  | nil => simp [lk]
  | cons x r ih =>
    simp only [List.filter_cons]
    by_cases h : pr x.1 = true
    · simp only [h, if_true, lk, ih]
      by_cases e : k = x.1
      · subst e; simp [h]
      · simp [e]
    · simp only [h, lk, ih, Bool.false_eq_true, if_false]
      by_cases e : k = x.1
      · subst e; simp [h]
      · simp [e]
theorem ins_length (l : List (κ × ν)) (k : κ) (v : ν) : (ins l k v).length ≤ l.length + 1 := by
  induction l with
  | nil => simp [ins]
  | cons x r ih => simp only [ins]; split <;> simp; exact ih
theorem ins_mem {l : List (κ × ν)} {k : κ} {v : ν} {p : κ × ν} (h : p ∈ ins l k v) : p = (k, v) ∨ p ∈ l := by
  induction l with
  | nil => simp [ins] at h; exact Or.inl h
  | cons x r ih =>
    simp only [ins] at h
    split at h
    · rcases List.mem_cons.1 h with e | h
      · exact Or.inl e
      · exact Or.inr (List.mem_cons_of_mem _ h)
    · rcases List.mem_cons.1 h with e | h
      · exact Or.inr (by simp [e])
      · rcases ih h with e | h
        · exact Or.inl e
        · exact Or.inr (List.mem_cons_of_mem _ h)
end

/-! What the commands do. -/
def ssOf (s : St) (k : KeyT) : List Int := match lk s.tracks k with | some t => t.ssrcs | none => []
def isOf (k : KeyT) (l : LinkT) : Bool := decide (l.peer = k.1 ∧ l.n = k.2)
def removeM (s : St) (k : KeyT) : St := ⟨s.t, del s.tracks k, s.subs.filter fun p => !isOf k p.1, (ssOf s k).foldl del s.srcs⟩
def dels (l : List (Int × SrcV)) (xs : List Int) : List (Int × SrcV) := xs.foldl del l
theorem dels_sub (l : List (Int × SrcV)) (xs : List Int) : (dels l xs).Sublist l := by
  induction xs generalizing l with
  | nil => exact List.Sublist.refl _
  | cons x r ih => exact (ih (del l x)).trans (del_sub l x)
theorem removeM_OK {s : St} (h : StOK s) (k : KeyT) : StOK (removeM s k) :=
  ⟨h.t, fun p hp => h.tr p ((del_sub _ _).subset hp), del_nodup h.nd k, (List.filter_sublist.map _).nodup h.ns, ((dels_sub s.srcs (ssOf s k)).map _).nodup h.nu,
    Nat.le_trans (List.length_filter_le _ _) h.len, Nat.le_trans (del_sub _ _).length_le h.lent, Nat.le_trans (dels_sub s.srcs (ssOf s k)).length_le h.lenu⟩
def isBy (n : Int) (l : LinkT) : Bool := decide (l.who = n)
def byeM (s : St) (n : Int) : St := ⟨s.t, s.tracks, s.subs.filter fun p => !isBy n p.1, s.srcs⟩
theorem byeM_OK {s : St} (h : StOK s) (n : Int) : StOK (byeM s n) :=
  ⟨h.t, h.tr, h.nd, (List.filter_sublist.map _).nodup h.ns, h.nu, Nat.le_trans (List.length_filter_le _ _) h.len, h.lent, h.lenu⟩
def offM (s : St) (n : Int) : St := ⟨⟨s.t.next, del s.t.peers n⟩, s.tracks, s.subs, s.srcs⟩
theorem del_TbOK {t : Tb} (h : TbOK t) (n : Int) : TbOK ⟨t.next, del t.peers n⟩ :=
  ⟨fun p hp => h.sz p ((del_sub _ _).subset hp), Nat.le_trans (del_sub _ _).length_le h.len, del_nodup h.nd n, h.next⟩
theorem offM_OK {s : St} (h : StOK s) (n : Int) : StOK (offM s n) := ⟨del_TbOK h.t n, h.tr, h.nd, h.ns, h.nu, h.len, h.lent, h.lenu⟩
def leaveM (s : St) (n : Int) : Int × St := match lk s.t.peers n with
  | none => (8, s)
  | some _ => (0, byeM (removeM (removeM (removeM (removeM (offM s n) (n, 0)) (n, 1)) (n, 2)) (n, 3)) n)
theorem leaveM_OK {s : St} (h : StOK s) (n : Int) : StOK (leaveM s n).2 := by
  unfold leaveM
  split
  · exact h
  · exact byeM_OK (removeM_OK (removeM_OK (removeM_OK (removeM_OK (offM_OK h n) _) _) _) _) n
end Go.Abs.X

namespace Go.Abs.X
open Go.Abs Go Go.Proofs

def Cmd.key (c : Cmd) : KeyT := (c.peer, c.track)
def Cmd.link (c : Cmd) : LinkT := ⟨c.peer, c.of, c.track⟩
def inss (l : List (Int × SrcV)) (k : KeyT) (xs : List Int) (i : Nat) : List (Int × SrcV) := match xs with
  | [] => l
  | x :: r => inss (ins l x (k.1, k.2, i)) k r (i + 1)
def anySrc (l : List (Int × SrcV)) (xs : List Int) : Bool := xs.any fun x => (lk l x).isSome
def publishM (s : St) (c : Cmd) : Int × St :=
  if (lk s.tracks c.key).isSome then (10, s)
  else if anySrc s.srcs c.ssrcs then (16, s)
  else (0, ⟨s.t, ins s.tracks c.key ⟨c.video, false, c.ssrcs⟩, s.subs, inss s.srcs c.key c.ssrcs 0⟩)
def cntM (s : St) (who : Int) : Nat := (s.subs.filter fun p => decide (p.1.who = who)).length
def subscribeM (s : St) (c : Cmd) : Int × St :=
  if c.of = c.peer then (15, s)
  else if togetherM s.t c.peer c.of = false then (7, s)
  else match lk s.tracks (c.of, c.track) with
    | none => (9, s)
    | some _ => match lk s.subs c.link with
      | none => if 16 ≤ cntM s c.peer then (11, s) else (0, ⟨s.t, s.tracks, ins s.subs c.link (c.layer, false), s.srcs⟩)
      | some x => (0, ⟨s.t, s.tracks, ins s.subs c.link (c.layer, x.2), s.srcs⟩)
def linkM (s : St) (c : Cmd) : Int × St := match lk s.subs c.link with
  | none => (12, s)
  | some x => if c.kind = 6 then (0, ⟨s.t, s.tracks, del s.subs c.link, s.srcs⟩) else (0, ⟨s.t, s.tracks, ins s.subs c.link (x.1, c.on), s.srcs⟩)
def trackM (s : St) (c : Cmd) : Int × St := match lk s.tracks c.key with
  | none => (9, s)
  | some t => if c.kind = 4 then (0, removeM s c.key) else (0, ⟨s.t, ins s.tracks c.key ⟨t.video, c.on, t.ssrcs⟩, s.subs, s.srcs⟩)
def doM (s : St) (c : Cmd) : (Int × Int) × St :=
  if c.check ≠ 0 then ((0, c.check), s)
  else if c.kind = 1 then ((joinM s.t c.room c.name).1, ⟨(joinM s.t c.room c.name).2, s.tracks, s.subs, s.srcs⟩)
  else if lk s.t.peers c.peer = none then ((0, 8), s)
  else if c.kind = 2 then ((0, (leaveM s c.peer).1), (leaveM s c.peer).2)
  else if c.kind = 3 then ((0, (publishM s c).1), (publishM s c).2)
  else if c.kind = 5 then ((0, (subscribeM s c).1), (subscribeM s c).2)
  else if c.kind = 6 ∨ c.kind = 8 then ((0, (linkM s c).1), (linkM s c).2)
  else ((0, (trackM s c).1), (trackM s c).2)

/-! Bounds. -/
structure StN (s : St) (n : Nat) : Prop where
  pp : s.t.peers.length ≤ n
  tt : s.tracks.length ≤ n
  ss : s.subs.length ≤ n
  uu : s.srcs.length ≤ 3 * n
theorem StN.mono {s : St} {n m : Nat} (h : StN s n) (l : n ≤ m) : StN s m := ⟨Nat.le_trans h.pp l, Nat.le_trans h.tt l, Nat.le_trans h.ss l, Nat.le_trans h.uu (by omega)⟩
theorem inss_length (l : List (Int × SrcV)) (k : KeyT) (xs : List Int) (i : Nat) : (inss l k xs i).length ≤ l.length + xs.length := by
  induction xs generalizing l i with
  | nil => simp [inss]
  | cons x r ih =>
    have := ih (ins l x (k.1, k.2, (i : Int))) (i + 1)
    have h2 := ins_length l x (k.1, k.2, (i : Int))
    simp only [inss, List.length_cons]; omega
theorem inss_nodup {l : List (Int × SrcV)} (h : (l.map (·.1)).Nodup) (k : KeyT) (xs : List Int) (i : Nat) : ((inss l k xs i).map (·.1)).Nodup := by
  induction xs generalizing l i with
  | nil => exact h
  | cons x r ih => exact ih (ins_nodup h _ _) (i + 1)
theorem sourcesM_len {xs : List Int} {v : Bool} (h : sourcesM xs v = 0) : 1 ≤ xs.length ∧ xs.length ≤ 3 := by
  rcases xs with _ | ⟨a, _ | ⟨b, _ | ⟨c, _ | ⟨d, l⟩⟩⟩⟩ <;> simp_all [sourcesM]
theorem Cmd.check_pub {c : Cmd} (h : c.check = 0) (k : c.kind = 3) : sourcesM c.ssrcs c.video = 0 := by
  unfold Cmd.check at h
  split at h
  · cases h
  split at h
  · cases h
  split at h
  · cases h
  simpa [k] using h
theorem joinM_OK {t : Tb} (h : TbOK t) (hl : t.peers.length + 1 ≤ 200000) (room name : ByteArray) : TbOK (joinM t room name).2 ∧ (joinM t room name).2.peers.length ≤ t.peers.length + 1 := by
  unfold joinM
  split
  · exact ⟨h, Nat.le_succ _⟩
  rename_i h1
  split
  · exact ⟨h, Nat.le_succ _⟩
  split
  · exact ⟨h, Nat.le_succ _⟩
  rename_i h3
  have hr : checkM room = 0 := by
    by_cases c : checkM room = 0
    · exact c
    · exact absurd (Or.inl c) h1
  have hn : checkM name = 0 := by
    by_cases c : checkM name = 0
    · exact c
    · exact absurd (Or.inr c) h1
  have hr := checkM_size hr
  have hn := checkM_size hn
  refine ⟨⟨fun p hp => ?_, ?_, ins_nodup h.nd _ _, ?_⟩, ins_length _ _ _⟩
  · rcases ins_mem hp with rfl | hp
    · exact ⟨by simpa using hn, by simpa using hr⟩
    · exact h.sz p hp
  · exact Nat.le_trans (ins_length _ _ _) hl
  · have := h.next
    simp only [not_or] at h3
    show 0 ≤ t.next + 1 ∧ t.next + 1 ≤ 65536
    omega
theorem removeM_N {s : St} {n : Nat} (h : StN s n) (k : KeyT) : StN (removeM s k) n :=
  ⟨h.pp, Nat.le_trans (del_sub _ _).length_le h.tt, Nat.le_trans (List.length_filter_le _ _) h.ss, Nat.le_trans (dels_sub s.srcs (ssOf s k)).length_le h.uu⟩
theorem leaveM_N {s : St} {m : Nat} (h : StN s m) (n : Int) : StN (leaveM s n).2 m := by
  unfold leaveM
  split
  · exact h
  · have h0 : StN (offM s n) m := ⟨Nat.le_trans (del_sub _ _).length_le h.pp, h.tt, h.ss, h.uu⟩
    have h4 := removeM_N (removeM_N (removeM_N (removeM_N h0 (n, 0)) (n, 1)) (n, 2)) (n, 3)
    exact ⟨h4.pp, h4.tt, Nat.le_trans (List.length_filter_le _ _) h4.ss, h4.uu⟩
theorem doM_OK {s : St} (h : StOK s) {n : Nat} (hn : StN s n) (hl : n + 1 ≤ 200000) (c : Cmd) : StOK (doM s c).2 ∧ StN (doM s c).2 (n + 1) := by
  have hm := hn.mono (Nat.le_succ n)
  have hp := hn.pp
  have ht := hn.tt
  have hs := hn.ss
  have hu := hn.uu
  unfold doM
  split
  · exact ⟨h, hm⟩
  rename_i c0
  simp only [ne_eq, Decidable.not_not] at c0
  split
  · obtain ⟨h1, h2⟩ := joinM_OK h.t (by omega) c.room c.name
    exact ⟨⟨h1, h.tr, h.nd, h.ns, h.nu, h.len, h.lent, h.lenu⟩, ⟨by show (joinM s.t c.room c.name).2.peers.length ≤ n + 1; omega, hm.tt, hm.ss, hm.uu⟩⟩
  split
  · exact ⟨h, hm⟩
  split
  · exact ⟨leaveM_OK h _, leaveM_N hm _⟩
  split
  · rename_i k3
    have h3 := sourcesM_len (c.check_pub c0 k3)
    unfold publishM
    split
    · exact ⟨h, hm⟩
    split
    · exact ⟨h, hm⟩
    have l1 := ins_length s.tracks c.key ⟨c.video, false, c.ssrcs⟩
    have l2 := inss_length s.srcs c.key c.ssrcs 0
    refine ⟨⟨h.t, fun p hp => ?_, ins_nodup h.nd _ _, h.ns, inss_nodup h.nu _ _ _, h.len, ?_, ?_⟩, ⟨hm.pp, ?_, hm.ss, ?_⟩⟩
    · rcases ins_mem hp with rfl | hp
      · exact h3
      · exact h.tr p hp
    · show (ins _ _ _).length ≤ 1000000; omega
    · show (inss _ _ _ _).length ≤ 1000000; omega
    · show (ins _ _ _).length ≤ n + 1; omega
    · show (inss _ _ _ _).length ≤ 3 * (n + 1); omega
  split
  · unfold subscribeM
    have go : ∀ x, StOK ⟨s.t, s.tracks, ins s.subs c.link x, s.srcs⟩ ∧ StN ⟨s.t, s.tracks, ins s.subs c.link x, s.srcs⟩ (n + 1) := fun x => by
      have l1 := ins_length s.subs c.link x
      exact ⟨⟨h.t, h.tr, h.nd, ins_nodup h.ns _ _, h.nu, by show (ins _ _ _).length ≤ 1000000; omega, h.lent, h.lenu⟩, ⟨hm.pp, hm.tt, by show (ins _ _ _).length ≤ n + 1; omega, hm.uu⟩⟩
    split
    · exact ⟨h, hm⟩
    split
    · exact ⟨h, hm⟩
    split
    · exact ⟨h, hm⟩
    split
    · split
      · exact ⟨h, hm⟩
      · exact go _
    · exact go _
  split
  · unfold linkM
    split
    · exact ⟨h, hm⟩
    rename_i x _
    split
    · have l1 := (del_sub s.subs c.link).length_le
      exact ⟨⟨h.t, h.tr, h.nd, del_nodup h.ns _, h.nu, by show (del _ _).length ≤ 1000000; omega, h.lent, h.lenu⟩, ⟨hm.pp, hm.tt, by show (del _ _).length ≤ n + 1; omega, hm.uu⟩⟩
    · have l1 := ins_length s.subs c.link (x.1, c.on)
      exact ⟨⟨h.t, h.tr, h.nd, ins_nodup h.ns _ _, h.nu, by show (ins _ _ _).length ≤ 1000000; omega, h.lent, h.lenu⟩, ⟨hm.pp, hm.tt, by show (ins _ _ _).length ≤ n + 1; omega, hm.uu⟩⟩
  · unfold trackM
    split
    · exact ⟨h, hm⟩
    rename_i t ht2
    split
    · exact ⟨removeM_OK h _, removeM_N hm _⟩
    · have l1 := ins_length s.tracks c.key ⟨t.video, c.on, t.ssrcs⟩
      refine ⟨⟨h.t, fun p hp => ?_, ins_nodup h.nd _ _, h.ns, h.nu, h.len, ?_, h.lenu⟩, ⟨hm.pp, ?_, hm.ss, hm.uu⟩⟩
      · rcases ins_mem hp with rfl | hp
        · exact h.tr (c.key, t) (lk_mem ht2)
        · exact h.tr p hp
      · show (ins _ _ _).length ≤ 1000000; omega
      · show (ins _ _ _).length ≤ n + 1; omega
end Go.Abs.X

namespace Go.Abs.X
open Go.Abs Go Go.Proofs
variable {w0 : World}

def St.h (s : St) : Heap := [some (.cells [.ptr 1 0, .map 2, .map 3, .map 4] 31 false), some (.cells [.map 5, .dat (.int .i64 s.t.next)] 107 false),
  some (.mapD (s.tracks.map EK.e)), some (.mapD (s.subs.map EL.e)), some (.mapD (s.srcs.map EU.e)), some (.mapD (s.t.peers.map EP.e))]
def St.none : St := ⟨⟨0, []⟩, [], [], []⟩
theorem anew_ok (K : AV → Heap → Prop) (hk : K (.ptr 0 0) St.none.h) : CallA (cx w0) 10 [] [] K := by
  refine CallA.ret ?_
  refine CallA.enter ok (dr (plOf [])) Tryz.func10 Tryz.call10 ?_
  refine call_at [] (new_ok _ ?_) rfl rfl rfl rfl
  exact leaf [5, 0, 2, 3, 4, 1] _ St.none.h rfl rfl rfl rfl rfl hk
theorem sub_ok (s : St) (l : LinkT) (K : AV → Heap → Prop) (hk : K (.dat (.tup [(subR s l).1, .bool (subR s l).2])) s.h) : CallA (cx w0) 19 [.ptr 0 0, .dat l.dv] s.h K := by
  refine CallA.ret ?_
  refine CallA.enter ok (dr (plOf pl19)) Tryz.func19 Tryz.call19 ?_
  refine req ?_ ?_
  · decide +kernel
  refine look_enc EL (fun h => ?_) (fun p h => ?_)
  all_goals
    simp only [subR, h] at hk
    exact leaf [0, 1, 2, 3, 4, 5] _ s.h rfl rfl rfl rfl rfl hk
theorem source_ok (s : St) (n : Int) (K : AV → Heap → Prop) (hk : K (.dat (.tup [(srcR s n).1, .bool (srcR s n).2])) s.h) : CallA (cx w0) 21 [.ptr 0 0, .dat (u32 n)] s.h K := by
  refine CallA.ret ?_
  refine CallA.enter ok (dr (plOf [])) Tryz.func21 Tryz.call21 ?_
  refine look_enc EU (fun h => ?_) (fun p h => ?_)
  all_goals
    simp only [srcR, h] at hk
    exact leaf [0, 1, 2, 3, 4, 5] _ s.h rfl rfl rfl rfl rfl hk
theorem track_ok (s : St) (hs : StOK s) (k : KeyT) (K : AV → Heap → Prop) (hk : K (.dat (.tup [(trackR s k).1, .bool (trackR s k).2])) s.h) : CallA (cx w0) 20 [.ptr 0 0, .dat (keyD k)] s.h K := by
  refine CallA.ret ?_
  refine CallA.enter ok (dr (plOf pl20)) Tryz.func20 Tryz.call20 ?_
  refine req ?_ ?_
  · decide +kernel
  refine look_enc EK (fun h => ?_) (fun p h => ?_)
  · simp only [trackR, h] at hk
    repeat refine eqA ?_
    refine call_at [] (clone_nil _ ?_) rfl rfl rfl rfl
    exact leaf [0, 1, 2, 3, 4, 5] _ s.h rfl rfl rfl rfl rfl hk
  · simp only [trackR, h] at hk
    repeat refine eqA ?_
    have hl := hs.tr _ (lk_mem h)
    dsimp only at hl
    refine call_at [] (clone_ok p.ssrcs none hl.1 (by omega) _ ?_) rfl rfl rfl rfl
    exact leaf [0, 1, 2, 3, 4, 5] _ s.h rfl rfl rfl rfl rfl hk
theorem links_ok (s : St) (hs : StOK s) (K : AV → Heap → Prop) (hk : K (.dat (valLink s.links)) s.h) : CallA (cx w0) 16 [.ptr 0 0] s.h K := by
  refine CallA.ret ?_
  refine CallA.enter ok (dr (plOf [])) Tryz.func16 Tryz.call16 ?_
  refine call_at [3] (keysLink_ok (s.subs.map EL.e) _ ?_) rfl rfl rfl rfl
  refine call_at [3, 6] (sortedLink_ok (s.subs.map EL.e) (fun e he => ?_) (by rw [List.length_map]; exact hs.len) _ (fun ks hp => ?_)) rfl rfl rfl rfl
  · obtain ⟨p, _, rfl⟩ := List.mem_map.1 he
    exact ⟨p.1, rfl⟩
  · have hl : sortL ks = s.links := by
      apply sortL_perm
      apply perm_of_map (f := LinkT.dv) (fun a b h => by cases a; cases b; simpa [LinkT.dv, linkD] using h)
      refine hp.trans ?_
      rw [List.map_map, List.map_map]
      exact List.Perm.refl _
    rw [hl]
    exact leaf [0, 1, 2, 3, 4, 5] (.dat (valLink s.links)) s.h rfl rfl rfl rfl rfl hk
end Go.Abs.X

namespace Go.Abs.X
open Go.Abs Go Go.Proofs
variable {w0 : World}


theorem EL_inj (a b : LinkT × SubV) (h : EL.l a = EL.l b) : a = b := by
  obtain ⟨⟨x, y, z⟩, u, v⟩ := a
  obtain ⟨⟨x', y', z'⟩, u', v'⟩ := b
  simp only [Enc.l, EL, LinkT.dv, linkD, subD, Prod.mk.injEq, AV.dat.injEq, DV.int.injEq, DV.agg.injEq, List.cons.injEq, DV.bool.injEq] at h
  obtain ⟨⟨⟨_, h1⟩, ⟨_, h2⟩, ⟨_, h3⟩, _⟩, ⟨_, h4⟩, h5, _⟩ := h
  subst h1 h2 h3 h4 h5; rfl
set_option maxHeartbeats 1000000 in
theorem count_ok (s : St) (hs : StOK s) (who : Int) (K : AV → Heap → Prop) (hk : K (.dat (.int .i64 (cntM s who : Nat))) s.h) : CallA (cx w0) 89 [.ptr 0 0, .dat (.int .i64 who)] s.h K := by
  refine CallA.ret ?_
  refine CallA.enter ok (dr (plOf [])) Tryz.func89 Tryz.call89 ?_
  refine rangeM fun bs clk hbl hbp hbc => ?_
  have hel : bs.length = (liftE (s.subs.map EL.e)).length := by rw [liftE_length]; exact hbl
  let H : List Nat × List (LinkT × SubV) → Heap := fun x => [some (.cells [.ptr 1 0, .map 2, .map 3, .map 4] 31 false), some (.cells [.map 5, .dat (.int .i64 s.t.next)] 107 false), some (.mapD (s.tracks.map EK.e)), some (.mapB bs clk (liftE (s.subs.map EL.e))), some (.mapD (s.srcs.map EU.e)), some (.mapD (s.t.peers.map EP.e)), some (.miter 3 clk x.1)]
  let E : List Nat × List (LinkT × SubV) → Env := fun x => mkE [1, 5, 11] [.dat (.int .i64 who), .dat (.int .i64 ((x.2.filter fun p => decide (p.1.who = who)).length : Nat)), .ptr 6 0]
  refine loop_in [1, 5, 11] [0, 1, 2, 3, 4, 5, 6] [.dat (.int .i64 who), .dat (.int .i64 (0 : Nat)), .ptr 6 0] (H ([], [])) rfl rfl rfl rfl (hin_cons rfl (hin_cons rfl (hin_cons rfl (hin_cons ren_mapB (hin_cons rfl (hin_cons rfl (hin_cons rfl hin_nil))))))) ?_
  refine loop_ind E H (fun x => Came bs x.1 ∧ x.2.map EL.l = x.1.reverse.filterMap (entB bs (liftE (s.subs.map EL.e))) ∧ x.2.length = x.1.length) (fun x => bs.length - x.1.length) ?_ ([], []) ⟨Came.nil bs, rfl, rfl⟩
  rintro ⟨seen, ps⟩ ⟨came, hps, hl⟩ ih
  replace came : Came bs seen := came
  replace hps : ps.map EL.l = seen.reverse.filterMap (entB bs (liftE (s.subs.map EL.e))) := hps
  replace hl : ps.length = seen.length := hl
  refine loopA_round ok (dr (plOf []) _) ?_
  refine req rfl ?_
  refine nextM (fun b k v he hn => ?_) (fun hall => ?_)
  · obtain ⟨p, hp, rfl, rfl⟩ := ent_enc EL he
    have go := ih (b :: seen, ps ++ [p]) ⟨came.cons he hn, by rw [came_snoc he, List.map_append, ← hps]; rfl, by simp [hl]⟩ (by have := (came.cons he hn).le; simp only [List.length_cons] at this ⊢; omega)
    have hle := (came.cons he hn).le
    have hbs : bs.length ≤ 1000000 := by rw [hbl, List.length_map]; exact hs.len
    have hfl := List.length_filter_le (fun p : LinkT × SubV => decide (p.1.who = who)) ps
    simp only [List.length_cons] at hle
    clear ih
    refine condA_true rfl ?_
    refine req rfl ?_
    refine optA _ he ?_
    by_cases h : p.1.who = who
    · refine condA_true (by simpa using h) ?_
      refine loop_in [1, 5, 11] [0, 1, 2, 3, 4, 5, 6] [.dat (.int .i64 who), .dat (.int .i64 (((ps ++ [p]).filter fun p => decide (p.1.who = who)).length : Nat)), .ptr 6 0] (H (b :: seen, ps ++ [p])) ?_ rfl rfl rfl (hin_cons rfl (hin_cons rfl (hin_cons rfl (hin_cons ren_mapB (hin_cons rfl (hin_cons rfl (hin_cons rfl hin_nil))))))) go
      have e : (((ps ++ [p]).filter fun p => decide (p.1.who = who)).length : Int) = IntKind.i64.wrap (((ps.filter fun p => decide (p.1.who = who)).length : Int) + 1) := by
        rw [wrap_i64 _ (by omega) (by omega), List.filter_append, List.length_append]; simp [h]
      rw [e]; rfl
    · refine condA_false (by simpa using h) ?_
      refine loop_in [1, 5, 11] [0, 1, 2, 3, 4, 5, 6] [.dat (.int .i64 who), .dat (.int .i64 (((ps ++ [p]).filter fun p => decide (p.1.who = who)).length : Nat)), .ptr 6 0] (H (b :: seen, ps ++ [p])) ?_ rfl rfl rfl (hin_cons rfl (hin_cons rfl (hin_cons rfl (hin_cons ren_mapB (hin_cons rfl (hin_cons rfl (hin_cons rfl hin_nil))))))) go
      have e : (((ps ++ [p]).filter fun p => decide (p.1.who = who)).length : Int) = ((ps.filter fun p => decide (p.1.who = who)).length : Int) := by
        rw [List.filter_append, List.length_append]; simp [h]
      rw [e]; rfl
  · refine condA_false rfl ?_
    have hpm : ps.Perm s.subs := by
      apply perm_of_map2 EL_inj
      rw [hps, ← lift_enc]
      exact came.perm hel hbp hall
    refine shift_unBD' 3 (s.subs.map EL.e) rfl rfl ?_
    have e : (ps.filter fun p => decide (p.1.who = who)).length = cntM s who := (hpm.filter _).length_eq
    refine leaf [0, 1, 2, 3, 4, 5] (.dat (.int .i64 (cntM s who : Nat))) s.h ?_ rfl rfl rfl rfl hk
    rw [← e]; rfl
theorem gone1_ok (k : KeyT) (l : LinkT) (x : SubV) (K : AV → Heap → Prop) (hk : K (.dat (.bool (decide (l.peer = k.1 ∧ l.n = k.2)))) [some (.cells [.dat (i64 k.1), .dat (i64 k.2)] 42 false)]) :
    CallA (cx w0) 126 [.dat l.dv, .dat (subD x), .ptr 0 0] [some (.cells [.dat (i64 k.1), .dat (i64 k.2)] 42 false)] K := by
  refine CallA.ret ?_
  refine CallA.enter ok (dr (plOf [])) Tryz.func126 Tryz.call126 ?_
  refine leaf [0] _ [some (.cells [.dat (i64 k.1), .dat (i64 k.2)] 42 false)] ?_ rfl rfl rfl rfl hk
  show AV.dat (.bool _) = AV.dat (.bool (l.peer == k.1 && (l.n == k.2 && true)))
  congr 2
  rw [Bool.eq_iff_iff]; simp
theorem gone2_ok (n : Int) (l : LinkT) (x : SubV) (K : AV → Heap → Prop) (hk : K (.dat (.bool (decide (l.who = n)))) [some (.cells [.dat (i64 n)] 3 false)]) :
    CallA (cx w0) 88 [.dat l.dv, .dat (subD x), .ptr 0 0] [some (.cells [.dat (i64 n)] 3 false)] K := by
  refine CallA.ret ?_
  refine CallA.enter ok (dr (plOf [])) Tryz.func88 Tryz.call88 ?_
  refine leaf [0] _ [some (.cells [.dat (i64 n)] 3 false)] ?_ rfl rfl rfl rfl hk
  show AV.dat (.bool _) = AV.dat (.bool (l.who == n))
  rw [beqI]

theorem delete_ok (l : List (LinkT × SubV)) (hn : (l.map (·.1)).Nodup) (pr : LinkT → Bool) (ds : List DV) (ty : Nat) (g : Nat)
    (hg : ∀ (x : LinkT) (y : SubV) (K : AV → Heap → Prop), K (.dat (.bool (pr x))) [some (.cells (ds.map .dat) ty false)] → CallA (cx w0) g [.dat x.dv, .dat (subD y), .ptr 0 0] [some (.cells (ds.map .dat) ty false)] K)
    (K : AV → Heap → Prop) (hk : K (.dat (.tup [])) [some (.mapD ((l.filter fun p => !pr p.1).map EL.e)), some (.cells (ds.map .dat) ty false)]) :
    CallA (cx w0) 87 [.map 0, .func g [.ptr 1 0]] [some (.mapD (l.map EL.e)), some (.cells (ds.map .dat) ty false)] K := by
  refine CallA.ret ?_
  refine CallA.enter ok (dr (plOf [])) Tryz.func87 Tryz.call87 ?_
  refine rangeM fun bs clk hbl hbp hbc => ?_
  have hbl : bs.length = l.length := by rw [hbl, List.length_map]
  obtain ⟨e1, e2⟩ := zip_q bs l hbl
  let H : List Nat × List (Nat × LinkT × SubV) → Heap := fun x => [some (.mapB (qB x.2) clk (liftE ((qM x.2).map EL.e))), some (.cells (ds.map .dat) ty false), some (.miter 0 clk x.1)]
  refine loop_in [0, 1, 7] [0, 1, 2] [.map 0, .func g [.ptr 1 0], .ptr 2 0] (H ([], bs.zip l)) rfl rfl rfl rfl (hin_cons (ren_mapQ e1.symm (by rw [e2])) (hin_cons (renTs_datC rfl) (hin_cons rfl hin_nil))) ?_
  refine loop_ind (fun _ => mkE [0, 1, 7] [.map 0, .func g [.ptr 1 0], .ptr 2 0]) H (fun x => Goes l pr bs x.2 x.1) (fun x => left bs x.1) ?_ ([], bs.zip l) (Goes.start pr hbl hbp hn)
  rintro ⟨seen, q⟩ goes ih
  replace goes : Goes l pr bs q seen := goes
  refine loopA_round ok (dr (plOf []) _) ?_
  refine req rfl ?_
  refine nextM (fun b k v he hn => ?_) (fun hall => ?_)
  · obtain ⟨p, hp, rfl, rfl⟩ := ent_q EL he
    have hb := goes.sub b (List.mem_map.2 ⟨_, hp, rfl⟩)
    refine condA_true rfl ?_
    refine req rfl ?_
    refine optA _ he ?_
    refine call_can ?_
    refine call_in [1] (hg p.1 p.2 _ ?_) rfl rfl rfl (hin_cons (renTs_datC rfl) hin_nil)
    by_cases h : pr p.1 = true
    · have go := ih (b :: seen, delQ q p.1) (goes.drop hp h) (left_lt hb hn)
      refine condA_true h ?_
      refine req (isSome_lift EL _ _) ?_
      exact loop_in [0, 1, 7] [0, 1, 2] [.map 0, .func g [.ptr 1 0], .ptr 2 0] (H (b :: seen, delQ q p.1)) rfl rfl rfl rfl (hin_cons (ren_mapQ (posE_enc EL q p.1) (delE_lift EL q p.1)) (hin_cons (renTs_datC (by simp only [renTs_dat])) (hin_cons rfl hin_nil))) go
    · have h : pr p.1 = false := by simpa using h
      have go := ih (b :: seen, q) (goes.keep hp h) (left_lt hb hn)
      refine condA_false h ?_
      exact loop_in [0, 1, 7] [0, 1, 2] [.map 0, .func g [.ptr 1 0], .ptr 2 0] (H (b :: seen, q)) rfl rfl rfl rfl (hin_cons (ren_mapQ rfl rfl) (hin_cons (renTs_datC (by simp only [renTs_dat])) (hin_cons rfl hin_nil))) go
  · refine condA_false rfl ?_
    have e := goes.fin hall
    refine shift_unBD' 0 ((qM q).map EL.e) rfl rfl ?_
    rw [e]
    exact leaf_in [0, 1] (.dat (.tup [])) [some (.mapD ((l.filter fun p => !pr p.1).map EL.e)), some (.cells (ds.map .dat) ty false)] rfl rfl rfl rfl (hin_cons rfl (hin_cons (renTs_datC rfl) hin_nil)) hk
end Go.Abs.X

namespace Go.Abs.X
open Go.Abs Go Go.Proofs
variable {w0 : World}

theorem isSome_d1 (l : List (Int × SrcV)) (a b : Int) : (findE (delE (l.map EU.e) (EU.k a)) (EU.k b)).isSome = true := by rw [del_enc]; exact isSome_enc EU _ _
theorem isSome_d2 (l : List (Int × SrcV)) (a b c : Int) : (findE (delE (delE (l.map EU.e) (EU.k a)) (EU.k b)) (EU.k c)).isSome = true := by rw [del_enc, del_enc]; exact isSome_enc EU _ _
set_option maxHeartbeats 1000000 in
theorem remove_ok (s : St) (hs : StOK s) (k : KeyT) (K : AV → Heap → Prop) (hk : K (.dat (.tup [])) (removeM s k).h) : CallA (cx w0) 86 [.ptr 0 0, .dat (keyD k)] s.h K := by
  refine CallA.ret ?_
  refine CallA.enter ok (dr (plOf pl86)) Tryz.func86 Tryz.call86 ?_
  refine req ?_ ?_
  · decide +kernel
  unfold removeM ssOf at hk
  refine look_enc EK (fun h => ?_) (fun t h => ?_)
  · rw [h] at hk
    refine loopA_round ok (dr (plOf pl86) _) ?_
    repeat (first | (refine condA_true ?_ ?_; focus (first | rfl | (simp; done) | (simp; omega))) | (refine condA_false ?_ ?_; focus (first | rfl | (simp; done) | (simp; omega))))
    refine req ?_ ?_
    · decide +kernel
    refine req (isSome_enc EK _ _) ?_
    refine call_at [3, 6] (delete_ok s.subs hs.ns (isOf k) [i64 k.1, i64 k.2] 42 126 (fun x y K hk => gone1_ok k x y K hk) _ ?_) rfl rfl rfl rfl
    exact leaf_in [0, 1, 2, 3, 4, 5] (.dat (.tup [])) (St.h ⟨s.t, del s.tracks k, s.subs.filter fun p => !isOf k p.1, s.srcs⟩) rfl rfl rfl rfl (hin_cons rfl (hin_cons rfl (hin_cons (ren_mapD (del_enc EK s.tracks k)) (hin_cons rfl (hin_cons rfl (hin_cons rfl hin_nil)))))) hk
  · rw [h] at hk
    have hl := hs.tr _ (lk_mem h)
    obtain ⟨video, muted, xs⟩ := t
    dsimp only at hl hk
    repeat refine eqA ?_
    rcases xs with _ | ⟨a, _ | ⟨b, _ | ⟨c, _ | ⟨d, l⟩⟩⟩⟩
    · simp at hl
    · refine loopA_round ok (dr (plOf pl86) _) ?_
      refine condA_true rfl ?_
      refine req (of_decide_eq_true rfl) ?_
      refine optA _ rfl ?_
      refine req (isSome_enc EU _ _) ?_
      refine loopA_round ok (dr (plOf pl86) _) ?_
      refine condA_false rfl ?_
      refine req ?_ ?_
      · decide +kernel
      refine req (isSome_enc EK _ _) ?_
      refine call_at [3, 6] (delete_ok s.subs hs.ns (isOf k) [i64 k.1, i64 k.2] 42 126 (fun x y K hk => gone1_ok k x y K hk) _ ?_) rfl rfl rfl rfl
      exact leaf_in [0, 1, 2, 3, 4, 5] (.dat (.tup [])) (St.h ⟨s.t, del s.tracks k, s.subs.filter fun p => !isOf k p.1, del s.srcs a⟩) rfl rfl rfl rfl (hin_cons rfl (hin_cons rfl (hin_cons (ren_mapD (del_enc EK s.tracks k)) (hin_cons rfl (hin_cons (ren_mapD (del_enc EU s.srcs a)) (hin_cons rfl hin_nil)))))) hk
    · refine loopA_round ok (dr (plOf pl86) _) ?_
      refine condA_true rfl ?_
      refine req (of_decide_eq_true rfl) ?_
      refine optA _ rfl ?_
      refine req (isSome_enc EU _ _) ?_
      refine loopA_round ok (dr (plOf pl86) _) ?_
      refine condA_true rfl ?_
      refine req (of_decide_eq_true rfl) ?_
      refine optA _ rfl ?_
      refine req (isSome_d1 _ _ _) ?_
      refine loopA_round ok (dr (plOf pl86) _) ?_
      refine condA_false rfl ?_
      refine req ?_ ?_
      · decide +kernel
      refine req (isSome_enc EK _ _) ?_
      refine call_at [3, 6] (delete_ok s.subs hs.ns (isOf k) [i64 k.1, i64 k.2] 42 126 (fun x y K hk => gone1_ok k x y K hk) _ ?_) rfl rfl rfl rfl
      exact leaf_in [0, 1, 2, 3, 4, 5] (.dat (.tup [])) (St.h ⟨s.t, del s.tracks k, s.subs.filter fun p => !isOf k p.1, del (del s.srcs a) b⟩) rfl rfl rfl rfl (hin_cons rfl (hin_cons rfl (hin_cons (ren_mapD (del_enc EK s.tracks k)) (hin_cons rfl (hin_cons (ren_mapD (by rw [← del_enc EU, ← del_enc EU]; rfl)) (hin_cons rfl hin_nil)))))) hk
    · refine loopA_round ok (dr (plOf pl86) _) ?_
      refine condA_true rfl ?_
      refine req (of_decide_eq_true rfl) ?_
      refine optA _ rfl ?_
      refine req (isSome_enc EU _ _) ?_
      refine loopA_round ok (dr (plOf pl86) _) ?_
      refine condA_true rfl ?_
      refine req (of_decide_eq_true rfl) ?_
      refine optA _ rfl ?_
      refine req (isSome_d1 _ _ _) ?_
      refine loopA_round ok (dr (plOf pl86) _) ?_
      refine condA_true rfl ?_
      refine req (of_decide_eq_true rfl) ?_
      refine optA _ rfl ?_
      refine req (isSome_d2 _ _ _ _) ?_
      refine loopA_round ok (dr (plOf pl86) _) ?_
      refine condA_false rfl ?_
      refine req ?_ ?_
      · decide +kernel
      refine req (isSome_enc EK _ _) ?_
      refine call_at [3, 6] (delete_ok s.subs hs.ns (isOf k) [i64 k.1, i64 k.2] 42 126 (fun x y K hk => gone1_ok k x y K hk) _ ?_) rfl rfl rfl rfl
      exact leaf_in [0, 1, 2, 3, 4, 5] (.dat (.tup [])) (St.h ⟨s.t, del s.tracks k, s.subs.filter fun p => !isOf k p.1, del (del (del s.srcs a) b) c⟩) rfl rfl rfl rfl (hin_cons rfl (hin_cons rfl (hin_cons (ren_mapD (del_enc EK s.tracks k)) (hin_cons rfl (hin_cons (ren_mapD (by rw [← del_enc EU, ← del_enc EU, ← del_enc EU]; rfl)) (hin_cons rfl hin_nil)))))) hk
    · simp at hl
set_option maxHeartbeats 1000000 in
theorem aleave_ok (s : St) (hs : StOK s) (n : Int) (K : AV → Heap → Prop) (hk : K (.dat (.int .i64 (leaveM s n).1)) (leaveM s n).2.h) : CallA (cx w0) 35 [.ptr 0 0, .dat (.int .i64 n)] s.h K := by
  refine CallA.ret ?_
  refine CallA.enter ok (dr (plOf pl35)) Tryz.func35 Tryz.call35 ?_
  refine req ?_ ?_
  · decide +kernel
  unfold leaveM at hk
  refine call_at [1, 5] (leave_ok s.t n _ (fun h => ?_) (fun p h => ?_)) rfl rfl rfl rfl
  · rw [h] at hk
    repeat refine eqA ?_
    repeat (first | (refine condA_true ?_ ?_; focus (first | rfl | (simp; done) | (simp; omega))) | (refine condA_false ?_ ?_; focus (first | rfl | (simp; done) | (simp; omega))))
    exact leaf [0, 1, 2, 3, 4, 5] (.dat (.int .i64 8)) s.h rfl rfl rfl rfl rfl hk
  · rw [h] at hk
    dsimp only at hk
    repeat refine eqA ?_
    repeat (first | (refine condA_true ?_ ?_; focus (first | rfl | (simp; done) | (simp; omega))) | (refine condA_false ?_ ?_; focus (first | rfl | (simp; done) | (simp; omega))))
    have o0 := offM_OK hs n
    have o1 := removeM_OK o0 (n, 0)
    have o2 := removeM_OK o1 (n, 1)
    have o3 := removeM_OK o2 (n, 2)
    have o4 := removeM_OK o3 (n, 3)
    refine loopA_round ok (dr (plOf pl35) _) ?_
    refine condA_true rfl ?_
    refine call_can ?_
    refine call_at [0, 1, 2, 3, 4, 5] (remove_ok (offM s n) o0 (n, 0) _ ?_) rfl rfl rfl rfl
    refine loopA_round ok (dr (plOf pl35) _) ?_
    refine condA_true rfl ?_
    refine call_can ?_
    refine call_at [0, 1, 2, 3, 4, 5] (remove_ok _ o1 (n, 1) _ ?_) rfl rfl rfl rfl
    refine loopA_round ok (dr (plOf pl35) _) ?_
    refine condA_true rfl ?_
    refine call_can ?_
    refine call_at [0, 1, 2, 3, 4, 5] (remove_ok _ o2 (n, 2) _ ?_) rfl rfl rfl rfl
    refine loopA_round ok (dr (plOf pl35) _) ?_
    refine condA_true rfl ?_
    refine call_can ?_
    refine call_at [0, 1, 2, 3, 4, 5] (remove_ok _ o3 (n, 3) _ ?_) rfl rfl rfl rfl
    refine loopA_round ok (dr (plOf pl35) _) ?_
    refine condA_false rfl ?_
    refine call_at [3, 6] (delete_ok _ o4.ns (isBy n) [i64 n] 3 88 (fun x y K hk => gone2_ok n x y K hk) _ ?_) rfl rfl rfl rfl
    exact leaf [0, 1, 2, 3, 4, 5] (.dat (.int .i64 0)) (St.h (byeM (removeM (removeM (removeM (removeM (offM s n) (n, 0)) (n, 1)) (n, 2)) (n, 3)) n)) rfl rfl rfl rfl rfl hk
end Go.Abs.X

namespace Go.Abs.X
open Go.Abs Go Go.Proofs
variable {w0 : World}

theorem link_ok (s : St) (c : Cmd) (hc : Sl c.ssrcs c.sdv) (K : AV → Heap → Prop) (hk : K (.dat (.int .i64 (linkM s c).1)) (linkM s c).2.h) : CallA (cx w0) 38 [.ptr 0 0, .dat c.dv] s.h K := by
  have e : c.link = ⟨c.peer, c.of, c.track⟩ := rfl
  unfold linkM at hk
  obtain ⟨kind, room, name, peer, of, track, layer, on, video, ssrcs, sdv⟩ := c
  dsimp only at hc e hk
  generalize Cmd.link _ = l at hk e
  refine CallA.ret ?_
  refine CallA.enter ok (dr (plOf pl38)) Tryz.func38 Tryz.call38 ?_
  cases hc
  all_goals
    refine req ?_ ?_
    · decide +kernel
    refine look_enc EL (k := ⟨peer, of, track⟩) (fun h => ?_) (fun x h => ?_)
    · rw [← e] at h
      rw [h] at hk
      repeat refine eqA ?_
      repeat (first | (refine condA_true ?_ ?_; focus (first | rfl | (simp; done) | (simp; omega))) | (refine condA_false ?_ ?_; focus (first | rfl | (simp; done) | (simp; omega))))
      exact leaf [0, 1, 2, 3, 4, 5] (.dat (.int .i64 12)) s.h rfl rfl rfl rfl rfl hk
    · rw [← e] at h
      rw [h] at hk
      subst e
      dsimp only at hk
      repeat refine eqA ?_
      by_cases k6 : kind = 6
      · rw [if_pos k6] at hk
        repeat (first | (refine condA_true ?_ ?_; focus (first | rfl | (simp; done) | (simp; omega) | (simp [k6]; done) | (simp [k6]; omega))) | (refine condA_false ?_ ?_; focus (first | rfl | (simp; done) | (simp; omega) | (simp [k6]; done) | (simp [k6]; omega))))
        refine req ?_ ?_
        · decide +kernel
        refine req (isSome_enc EL s.subs ⟨peer, of, track⟩) ?_
        exact leaf_in [0, 1, 2, 3, 4, 5] (.dat (.int .i64 0)) (St.h ⟨s.t, s.tracks, del s.subs ⟨peer, of, track⟩, s.srcs⟩) rfl rfl rfl rfl (hin_cons rfl (hin_cons rfl (hin_cons rfl (hin_cons (ren_mapD (del_enc EL s.subs ⟨peer, of, track⟩)) (hin_cons rfl (hin_cons rfl hin_nil)))))) hk
      · rw [if_neg k6] at hk
        repeat (first | (refine condA_true ?_ ?_; focus (first | rfl | (simp; done) | (simp; omega) | (simp [k6]; done) | (simp [k6]; omega))) | (refine condA_false ?_ ?_; focus (first | rfl | (simp; done) | (simp; omega) | (simp [k6]; done) | (simp [k6]; omega))))
        refine req ?_ ?_
        · decide +kernel
        refine req (isSome_enc EL s.subs ⟨peer, of, track⟩) ?_
        exact leaf_in [0, 1, 2, 3, 4, 5] (.dat (.int .i64 0)) (St.h ⟨s.t, s.tracks, ins s.subs ⟨peer, of, track⟩ (x.1, on), s.srcs⟩) rfl rfl rfl rfl (hin_cons rfl (hin_cons rfl (hin_cons rfl (hin_cons (ren_mapD (ins_enc EL s.subs ⟨peer, of, track⟩ (x.1, on))) (hin_cons rfl (hin_cons rfl hin_nil)))))) hk
theorem atrack_ok (s : St) (hs : StOK s) (c : Cmd) (hc : Sl c.ssrcs c.sdv) (K : AV → Heap → Prop) (hk : K (.dat (.int .i64 (trackM s c).1)) (trackM s c).2.h) : CallA (cx w0) 39 [.ptr 0 0, .dat c.dv] s.h K := by
  have e : c.key = (c.peer, c.track) := rfl
  unfold trackM at hk
  obtain ⟨kind, room, name, peer, of, track, layer, on, video, ssrcs, sdv⟩ := c
  dsimp only at hc e hk
  generalize Cmd.key _ = l at hk e
  refine CallA.ret ?_
  refine CallA.enter ok (dr (plOf pl39)) Tryz.func39 Tryz.call39 ?_
  cases hc
  all_goals
    refine req ?_ ?_
    · decide +kernel
    refine look_enc EK (k := (peer, track)) (fun h => ?_) (fun x h => ?_)
    · rw [← e] at h
      rw [h] at hk
      repeat refine eqA ?_
      repeat (first | (refine condA_true ?_ ?_; focus (first | rfl | (simp; done) | (simp; omega))) | (refine condA_false ?_ ?_; focus (first | rfl | (simp; done) | (simp; omega))))
      exact leaf [0, 1, 2, 3, 4, 5] (.dat (.int .i64 9)) s.h rfl rfl rfl rfl rfl hk
    · rw [← e] at h
      rw [h] at hk
      subst e
      dsimp only at hk
      repeat refine eqA ?_
      by_cases k4 : kind = 4
      · rw [if_pos k4] at hk
        repeat (first | (refine condA_true ?_ ?_; focus (first | rfl | (simp; done) | (simp; omega) | (simp [k4]; done) | (simp [k4]; omega))) | (refine condA_false ?_ ?_; focus (first | rfl | (simp; done) | (simp; omega) | (simp [k4]; done) | (simp [k4]; omega))))
        refine call_can ?_
        refine call_at [0, 1, 2, 3, 4, 5] (remove_ok s hs (peer, track) _ ?_) rfl rfl rfl rfl
        exact leaf [0, 1, 2, 3, 4, 5] (.dat (.int .i64 0)) (St.h (removeM s (peer, track))) rfl rfl rfl rfl rfl hk
      · rw [if_neg k4] at hk
        repeat (first | (refine condA_true ?_ ?_; focus (first | rfl | (simp; done) | (simp; omega) | (simp [k4]; done) | (simp [k4]; omega))) | (refine condA_false ?_ ?_; focus (first | rfl | (simp; done) | (simp; omega) | (simp [k4]; done) | (simp [k4]; omega))))
        refine req ?_ ?_
        · decide +kernel
        refine req (isSome_enc EK s.tracks (peer, track)) ?_
        exact leaf_in [0, 1, 2, 3, 4, 5] (.dat (.int .i64 0)) (St.h ⟨s.t, ins s.tracks (peer, track) ⟨x.video, on, x.ssrcs⟩, s.subs, s.srcs⟩) rfl rfl rfl rfl (hin_cons rfl (hin_cons rfl (hin_cons (ren_mapD (ins_enc EK s.tracks (peer, track) ⟨x.video, on, x.ssrcs⟩)) (hin_cons rfl (hin_cons rfl (hin_cons rfl hin_nil)))))) hk
end Go.Abs.X

namespace Go.Abs.X
open Go.Abs Go Go.Proofs
variable {w0 : World}

set_option maxHeartbeats 1000000 in
theorem subscribe_ok (L : Laid w0) (s : St) (hs : StOK s) (c : Cmd) (hc : Sl c.ssrcs c.sdv) (K : AV → Heap → Prop) (hk : K (.dat (.int .i64 (subscribeM s c).1)) (subscribeM s c).2.h) : CallA (cx w0) 37 [.ptr 0 0, .dat c.dv] s.h K := by
  have e : c.link = ⟨c.peer, c.of, c.track⟩ := rfl
  unfold subscribeM at hk
  obtain ⟨kind, room, name, peer, of, track, layer, on, video, ssrcs, sdv⟩ := c
  dsimp only at hc e hk
  generalize Cmd.link _ = l at hk e
  refine CallA.ret ?_
  refine CallA.enter ok (dr (plOf pl37)) Tryz.func37 Tryz.call37 ?_
  by_cases c1 : of = peer
  · rw [if_pos c1] at hk
    cases hc
    all_goals
      repeat (first | (refine condA_true ?_ ?_; focus (first | rfl | (simp; done) | (simp; omega) | (simp [c1]; done) | (simp [c1]; omega))) | (refine condA_false ?_ ?_; focus (first | rfl | (simp; done) | (simp; omega) | (simp [c1]; done) | (simp [c1]; omega))))
      exact leaf [0, 1, 2, 3, 4, 5] (.dat (.int .i64 15)) s.h rfl rfl rfl rfl rfl hk
  rw [if_neg c1] at hk
  have c1' : ¬ peer = of := fun h => c1 h.symm
  cases hc
  all_goals
    repeat (first | (refine condA_true ?_ ?_; focus (first | rfl | (simp; done) | (simp; omega) | (simp [c1]; done) | (simp [c1]; omega))) | (refine condA_false ?_ ?_; focus (first | rfl | (simp; done) | (simp; omega) | (simp [c1]; done) | (simp [c1]; omega))))
    refine req ?_ ?_
    · decide +kernel
    refine call_at [1, 5] (together_ok L s.t hs.t peer of _ ?_) rfl rfl rfl rfl
    repeat refine eqA ?_
    by_cases c2 : togetherM s.t peer of = false
    · rw [if_pos c2] at hk
      repeat (first | (refine condA_true ?_ ?_; focus (first | rfl | (simp; done) | (simp; omega) | (simp [c2]; done) | (simp [c2]; omega))) | (refine condA_false ?_ ?_; focus (first | rfl | (simp; done) | (simp; omega) | (simp [c2]; done) | (simp [c2]; omega))))
      exact leaf [0, 1, 2, 3, 4, 5] (.dat (.int .i64 7)) s.h rfl rfl rfl rfl rfl hk
    rw [if_neg c2] at hk
    have c2 : togetherM s.t peer of = true := by simpa using c2
    repeat (first | (refine condA_true ?_ ?_; focus (first | rfl | (simp; done) | (simp; omega) | (simp [c2]; done) | (simp [c2]; omega))) | (refine condA_false ?_ ?_; focus (first | rfl | (simp; done) | (simp; omega) | (simp [c2]; done) | (simp [c2]; omega))))
    refine req ?_ ?_
    · decide +kernel
    refine look_enc EK (k := (of, track)) (fun h => ?_) (fun t h => ?_)
    · rw [h] at hk
      repeat refine eqA ?_
      repeat (first | (refine condA_true ?_ ?_; focus (first | rfl | (simp; done) | (simp; omega))) | (refine condA_false ?_ ?_; focus (first | rfl | (simp; done) | (simp; omega))))
      exact leaf [0, 1, 2, 3, 4, 5] (.dat (.int .i64 9)) s.h rfl rfl rfl rfl rfl hk
    rw [h] at hk
    dsimp only at hk
    repeat refine eqA ?_
    repeat (first | (refine condA_true ?_ ?_; focus (first | rfl | (simp; done) | (simp; omega))) | (refine condA_false ?_ ?_; focus (first | rfl | (simp; done) | (simp; omega))))
    refine req ?_ ?_
    · decide +kernel
    refine look_enc EL (k := ⟨peer, of, track⟩) (fun h2 => ?_) (fun x h2 => ?_)
    · rw [← e] at h2
      rw [h2] at hk
      subst e
      dsimp only at hk
      repeat refine eqA ?_
      repeat (first | (refine condA_true ?_ ?_; focus (first | rfl | (simp; done) | (simp; omega))) | (refine condA_false ?_ ?_; focus (first | rfl | (simp; done) | (simp; omega))))
      refine call_at [0, 1, 2, 3, 4, 5] (count_ok s hs peer _ ?_) rfl rfl rfl rfl
      by_cases c3 : 16 ≤ cntM s peer
      · rw [if_pos c3] at hk
        repeat (first | (refine condA_true ?_ ?_; focus (first | rfl | (simp; done) | (simp; omega) | (simp [c3]; done) | (simp [c3]; omega))) | (refine condA_false ?_ ?_; focus (first | rfl | (simp; done) | (simp; omega) | (simp [c3]; done) | (simp [c3]; omega))))
        exact leaf [0, 1, 2, 3, 4, 5] (.dat (.int .i64 11)) s.h rfl rfl rfl rfl rfl hk
      · rw [if_neg c3] at hk
        repeat (first | (refine condA_true ?_ ?_; focus (first | rfl | (simp; done) | (simp; omega) | (simp [c3]; done) | (simp [c3]; omega))) | (refine condA_false ?_ ?_; focus (first | rfl | (simp; done) | (simp; omega) | (simp [c3]; done) | (simp [c3]; omega))))
        refine req ?_ ?_
        · decide +kernel
        refine req (isSome_enc EL s.subs ⟨peer, of, track⟩) ?_
        exact leaf_in [0, 1, 2, 3, 4, 5] (.dat (.int .i64 0)) (St.h ⟨s.t, s.tracks, ins s.subs ⟨peer, of, track⟩ (layer, false), s.srcs⟩) rfl rfl rfl rfl (hin_cons rfl (hin_cons rfl (hin_cons rfl (hin_cons (ren_mapD (ins_enc EL s.subs ⟨peer, of, track⟩ (layer, false))) (hin_cons rfl (hin_cons rfl hin_nil)))))) hk
    · rw [← e] at h2
      rw [h2] at hk
      subst e
      dsimp only at hk
      repeat refine eqA ?_
      repeat (first | (refine condA_true ?_ ?_; focus (first | rfl | (simp; done) | (simp; omega))) | (refine condA_false ?_ ?_; focus (first | rfl | (simp; done) | (simp; omega))))
      refine req ?_ ?_
      · decide +kernel
      refine req (isSome_enc EL s.subs ⟨peer, of, track⟩) ?_
      exact leaf_in [0, 1, 2, 3, 4, 5] (.dat (.int .i64 0)) (St.h ⟨s.t, s.tracks, ins s.subs ⟨peer, of, track⟩ (layer, x.2), s.srcs⟩) rfl rfl rfl rfl (hin_cons rfl (hin_cons rfl (hin_cons rfl (hin_cons (ren_mapD (ins_enc EL s.subs ⟨peer, of, track⟩ (layer, x.2))) (hin_cons rfl (hin_cons rfl hin_nil)))))) hk
end Go.Abs.X

namespace Go.Abs.X
open Go.Abs Go Go.Proofs
variable {w0 : World}

theorem isSome_i1 (l : List (Int × SrcV)) (a b : Int) (x : SrcV) : (findE (insE (l.map EU.e) (EU.k a) (EU.v a x)) (EU.k b)).isSome = true := by rw [ins_enc]; exact isSome_enc EU _ _
theorem isSome_i2 (l : List (Int × SrcV)) (a b c : Int) (x y : SrcV) : (findE (insE (insE (l.map EU.e) (EU.k a) (EU.v a x)) (EU.k b) (EU.v b y)) (EU.k c)).isSome = true := by rw [ins_enc, ins_enc]; exact isSome_enc EU _ _
set_option maxHeartbeats 2000000 in
theorem publish_ok (s : St) (c : Cmd) (hc : Sl c.ssrcs c.sdv) (h3 : 1 ≤ c.ssrcs.length ∧ c.ssrcs.length ≤ 3) (K : AV → Heap → Prop) (hk : K (.dat (.int .i64 (publishM s c).1)) (publishM s c).2.h) : CallA (cx w0) 36 [.ptr 0 0, .dat c.dv] s.h K := by
  have e : c.key = (c.peer, c.track) := rfl
  unfold publishM at hk
  obtain ⟨kind, room, name, peer, of, track, layer, on, video, ssrcs, sdv⟩ := c
  dsimp only at hc e hk h3
  rw [e] at hk
  clear e
  cases hc with
  | nil => simp at h3
  | ros xs cap =>
    refine CallA.ret ?_
    refine CallA.enter ok (dr (plOf pl36)) Tryz.func36 Tryz.call36 ?_
    refine req ?_ ?_
    · decide +kernel
    refine look_enc EK (k := (peer, track)) (fun h => ?_) (fun t h => ?_)
    case refine_2 =>
      rw [h, if_pos (by simp)] at hk
      repeat refine eqA ?_
      repeat (first | (refine condA_true ?_ ?_; focus (first | rfl | (simp; done) | (simp; omega))) | (refine condA_false ?_ ?_; focus (first | rfl | (simp; done) | (simp; omega))))
      exact leaf [0, 1, 2, 3, 4, 5] (.dat (.int .i64 10)) s.h rfl rfl rfl rfl rfl hk
    rw [h, if_neg (by simp)] at hk
    repeat refine eqA ?_
    repeat (first | (refine condA_true ?_ ?_; focus (first | rfl | (simp; done) | (simp; omega))) | (refine condA_false ?_ ?_; focus (first | rfl | (simp; done) | (simp; omega))))
    rcases ssrcs with _ | ⟨a, _ | ⟨b, _ | ⟨c, _ | ⟨d, l⟩⟩⟩⟩
    · simp at h3
    · have hl : 0 < [a].length := by simp
      refine loopA_round ok (dr (plOf pl36) _) ?_
      refine condA_true rfl ?_
      refine req (of_decide_eq_true rfl) ?_
      refine optA _ rfl ?_
      refine look_enc EU (k := a) (fun ha => ?_) (fun t ha => ?_)
      case refine_2 =>
        rw [if_pos (by simp [anySrc, ha])] at hk
        repeat (first | (refine condA_true ?_ ?_; focus (first | rfl | (simp; done) | (simp; omega))) | (refine condA_false ?_ ?_; focus (first | rfl | (simp; done) | (simp; omega))))
        exact leaf [0, 1, 2, 3, 4, 5] (.dat (.int .i64 16)) s.h rfl rfl rfl rfl rfl hk
      repeat (first | (refine condA_true ?_ ?_; focus (first | rfl | (simp; done) | (simp; omega))) | (refine condA_false ?_ ?_; focus (first | rfl | (simp; done) | (simp; omega))))
      refine loopA_round ok (dr (plOf pl36) _) ?_
      refine condA_false rfl ?_
      rw [if_neg (by simp [anySrc, ha])] at hk
      refine req ?_ ?_
      · decide +kernel
      refine call_at [] (clone_ok [a] cap hl (by simp) _ ?_) rfl rfl rfl rfl
      repeat refine eqA ?_
      refine req (isSome_enc EK s.tracks (peer, track)) ?_
      refine loopA_round ok (dr (plOf pl36) _) ?_
      refine condA_true rfl ?_
      refine req (of_decide_eq_true rfl) ?_
      refine optA _ rfl ?_
      refine req ?_ ?_
      · decide +kernel
      refine req (isSome_enc EU s.srcs a) ?_
      refine loopA_round ok (dr (plOf pl36) _) ?_
      refine condA_false rfl ?_
      exact leaf_in [0, 1, 2, 3, 4, 5] (.dat (.int .i64 0)) (St.h ⟨s.t, ins s.tracks (peer, track) ⟨video, false, [a]⟩, s.subs, inss s.srcs (peer, track) [a] 0⟩) rfl rfl rfl rfl (hin_cons rfl (hin_cons rfl (hin_cons (ren_mapD (ins_enc EK s.tracks (peer, track) ⟨video, false, [a]⟩)) (hin_cons rfl (hin_cons (ren_mapD (by simp only [inss]; rw [← ins_enc EU]; rfl)) (hin_cons rfl hin_nil)))))) hk
    · have hl : 0 < [a, b].length := by simp
      refine loopA_round ok (dr (plOf pl36) _) ?_
      refine condA_true rfl ?_
      refine req (of_decide_eq_true rfl) ?_
      refine optA _ rfl ?_
      refine look_enc EU (k := a) (fun ha => ?_) (fun t ha => ?_)
      case refine_2 =>
        rw [if_pos (by simp [anySrc, ha])] at hk
        repeat (first | (refine condA_true ?_ ?_; focus (first | rfl | (simp; done) | (simp; omega))) | (refine condA_false ?_ ?_; focus (first | rfl | (simp; done) | (simp; omega))))
        exact leaf [0, 1, 2, 3, 4, 5] (.dat (.int .i64 16)) s.h rfl rfl rfl rfl rfl hk
      repeat (first | (refine condA_true ?_ ?_; focus (first | rfl | (simp; done) | (simp; omega))) | (refine condA_false ?_ ?_; focus (first | rfl | (simp; done) | (simp; omega))))
      refine loopA_round ok (dr (plOf pl36) _) ?_
      refine condA_true rfl ?_
      refine req (of_decide_eq_true rfl) ?_
      refine optA _ rfl ?_
      refine look_enc EU (k := b) (fun hb => ?_) (fun t hb => ?_)
      case refine_2 =>
        rw [if_pos (by simp [anySrc, ha, hb])] at hk
        repeat (first | (refine condA_true ?_ ?_; focus (first | rfl | (simp; done) | (simp; omega))) | (refine condA_false ?_ ?_; focus (first | rfl | (simp; done) | (simp; omega))))
        exact leaf [0, 1, 2, 3, 4, 5] (.dat (.int .i64 16)) s.h rfl rfl rfl rfl rfl hk
      repeat (first | (refine condA_true ?_ ?_; focus (first | rfl | (simp; done) | (simp; omega))) | (refine condA_false ?_ ?_; focus (first | rfl | (simp; done) | (simp; omega))))
      refine loopA_round ok (dr (plOf pl36) _) ?_
      refine condA_false rfl ?_
      rw [if_neg (by simp [anySrc, ha, hb])] at hk
      refine req ?_ ?_
      · decide +kernel
      refine call_at [] (clone_ok [a, b] cap hl (by simp) _ ?_) rfl rfl rfl rfl
      repeat refine eqA ?_
      refine req (isSome_enc EK s.tracks (peer, track)) ?_
      refine loopA_round ok (dr (plOf pl36) _) ?_
      refine condA_true rfl ?_
      refine req (of_decide_eq_true rfl) ?_
      refine optA _ rfl ?_
      refine req ?_ ?_
      · decide +kernel
      refine req (isSome_enc EU s.srcs a) ?_
      refine loopA_round ok (dr (plOf pl36) _) ?_
      refine condA_true rfl ?_
      refine req (of_decide_eq_true rfl) ?_
      refine optA _ rfl ?_
      refine req ?_ ?_
      · decide +kernel
      refine req (isSome_i1 s.srcs a b (peer, track, 0)) ?_
      refine loopA_round ok (dr (plOf pl36) _) ?_
      refine condA_false rfl ?_
      exact leaf_in [0, 1, 2, 3, 4, 5] (.dat (.int .i64 0)) (St.h ⟨s.t, ins s.tracks (peer, track) ⟨video, false, [a, b]⟩, s.subs, inss s.srcs (peer, track) [a, b] 0⟩) rfl rfl rfl rfl (hin_cons rfl (hin_cons rfl (hin_cons (ren_mapD (ins_enc EK s.tracks (peer, track) ⟨video, false, [a, b]⟩)) (hin_cons rfl (hin_cons (ren_mapD (by simp only [inss]; rw [← ins_enc EU, ← ins_enc EU]; rfl)) (hin_cons rfl hin_nil)))))) hk
    · have hl : 0 < [a, b, c].length := by simp
      refine loopA_round ok (dr (plOf pl36) _) ?_
      refine condA_true rfl ?_
      refine req (of_decide_eq_true rfl) ?_
      refine optA _ rfl ?_
      refine look_enc EU (k := a) (fun ha => ?_) (fun t ha => ?_)
      case refine_2 =>
        rw [if_pos (by simp [anySrc, ha])] at hk
        repeat (first | (refine condA_true ?_ ?_; focus (first | rfl | (simp; done) | (simp; omega))) | (refine condA_false ?_ ?_; focus (first | rfl | (simp; done) | (simp; omega))))
        exact leaf [0, 1, 2, 3, 4, 5] (.dat (.int .i64 16)) s.h rfl rfl rfl rfl rfl hk
      repeat (first | (refine condA_true ?_ ?_; focus (first | rfl | (simp; done) | (simp; omega))) | (refine condA_false ?_ ?_; focus (first | rfl | (simp; done) | (simp; omega))))
      refine loopA_round ok (dr (plOf pl36) _) ?_
      refine condA_true rfl ?_
      refine req (of_decide_eq_true rfl) ?_
      refine optA _ rfl ?_
      refine look_enc EU (k := b) (fun hb => ?_) (fun t hb => ?_)
      case refine_2 =>
        rw [if_pos (by simp [anySrc, ha, hb])] at hk
        repeat (first | (refine condA_true ?_ ?_; focus (first | rfl | (simp; done) | (simp; omega))) | (refine condA_false ?_ ?_; focus (first | rfl | (simp; done) | (simp; omega))))
        exact leaf [0, 1, 2, 3, 4, 5] (.dat (.int .i64 16)) s.h rfl rfl rfl rfl rfl hk
      repeat (first | (refine condA_true ?_ ?_; focus (first | rfl | (simp; done) | (simp; omega))) | (refine condA_false ?_ ?_; focus (first | rfl | (simp; done) | (simp; omega))))
      refine loopA_round ok (dr (plOf pl36) _) ?_
      refine condA_true rfl ?_
      refine req (of_decide_eq_true rfl) ?_
      refine optA _ rfl ?_
      refine look_enc EU (k := c) (fun hc => ?_) (fun t hc => ?_)
      case refine_2 =>
        rw [if_pos (by simp [anySrc, ha, hb, hc])] at hk
        repeat (first | (refine condA_true ?_ ?_; focus (first | rfl | (simp; done) | (simp; omega))) | (refine condA_false ?_ ?_; focus (first | rfl | (simp; done) | (simp; omega))))
        exact leaf [0, 1, 2, 3, 4, 5] (.dat (.int .i64 16)) s.h rfl rfl rfl rfl rfl hk
      repeat (first | (refine condA_true ?_ ?_; focus (first | rfl | (simp; done) | (simp; omega))) | (refine condA_false ?_ ?_; focus (first | rfl | (simp; done) | (simp; omega))))
      refine loopA_round ok (dr (plOf pl36) _) ?_
      refine condA_false rfl ?_
      rw [if_neg (by simp [anySrc, ha, hb, hc])] at hk
      refine req ?_ ?_
      · decide +kernel
      refine call_at [] (clone_ok [a, b, c] cap hl (by simp) _ ?_) rfl rfl rfl rfl
      repeat refine eqA ?_
      refine req (isSome_enc EK s.tracks (peer, track)) ?_
      refine loopA_round ok (dr (plOf pl36) _) ?_
      refine condA_true rfl ?_
      refine req (of_decide_eq_true rfl) ?_
      refine optA _ rfl ?_
      refine req ?_ ?_
      · decide +kernel
      refine req (isSome_enc EU s.srcs a) ?_
      refine loopA_round ok (dr (plOf pl36) _) ?_
      refine condA_true rfl ?_
      refine req (of_decide_eq_true rfl) ?_
      refine optA _ rfl ?_
      refine req ?_ ?_
      · decide +kernel
      refine req (isSome_i1 s.srcs a b (peer, track, 0)) ?_
      refine loopA_round ok (dr (plOf pl36) _) ?_
      refine condA_true rfl ?_
      refine req (of_decide_eq_true rfl) ?_
      refine optA _ rfl ?_
      refine req ?_ ?_
      · decide +kernel
      refine req (isSome_i2 s.srcs a b c (peer, track, 0) (peer, track, 1)) ?_
      refine loopA_round ok (dr (plOf pl36) _) ?_
      refine condA_false rfl ?_
      exact leaf_in [0, 1, 2, 3, 4, 5] (.dat (.int .i64 0)) (St.h ⟨s.t, ins s.tracks (peer, track) ⟨video, false, [a, b, c]⟩, s.subs, inss s.srcs (peer, track) [a, b, c] 0⟩) rfl rfl rfl rfl (hin_cons rfl (hin_cons rfl (hin_cons (ren_mapD (ins_enc EK s.tracks (peer, track) ⟨video, false, [a, b, c]⟩)) (hin_cons rfl (hin_cons (ren_mapD (by simp only [inss]; rw [← ins_enc EU, ← ins_enc EU, ← ins_enc EU]; rfl)) (hin_cons rfl hin_nil)))))) hk
    · simp at h3
end Go.Abs.X

namespace Go.Abs.X
open Go.Abs Go Go.Proofs
variable {w0 : World}

set_option maxHeartbeats 2000000 in
theorem do_ok (L : Laid w0) (s : St) (hs : StOK s) (c : Cmd) (hc : c.OK) (K : AV → Heap → Prop) (hk : K (.dat (.tup [.int .i64 (doM s c).1.1, .int .i64 (doM s c).1.2])) (doM s c).2.h) : CallA (cx w0) 11 [.ptr 0 0, .dat c.dv] s.h K := by
  have fin : ∀ r, doM s c = r → K (.dat (.tup [.int .i64 r.1.1, .int .i64 r.1.2])) r.2.h := fun r h => h ▸ hk
  clear hk
  have hpub : c.check = 0 → c.kind = 3 → 1 ≤ c.ssrcs.length ∧ c.ssrcs.length ≤ 3 := fun h k => sourcesM_len (c.check_pub h k)
  unfold doM at fin
  cases hcc : c with
  | mk kind room name peer of track layer on video ssrcs sdv =>
  subst hcc
  have hsl := hc.sl
  refine CallA.ret ?_
  refine CallA.enter ok (dr (plOf pl11)) Tryz.func11 Tryz.call11 ?_
  refine call_can ?_
  refine call_at [] (ccheck_ok L _ hc _ ?_) rfl rfl rfl rfl
  by_cases c0 : Cmd.check ⟨kind, room, name, peer, of, track, layer, on, video, ssrcs, sdv⟩ = 0
  · replace hpub := hpub c0
    rw [c0] at fin
    rw [c0]
    replace fin := fun r (h : _ = r) => fin r (by rw [if_neg (by simp)]; exact h)
    dsimp only at fin hpub hsl
    clear hc
    by_cases k1 : kind = 1
    · replace fin := fun r (h : _ = r) => fin r (by rw [if_pos k1]; exact h)
      cases hsl
      all_goals
        repeat (first | (refine condA_true ?_ ?_; focus (first | rfl | (simp; done) | (simp; omega) | (simp [k1]; done) | (simp [k1]; omega))) | (refine condA_false ?_ ?_; focus (first | rfl | (simp; done) | (simp; omega) | (simp [k1]; done) | (simp [k1]; omega))))
        refine req ?_ ?_
        · decide +kernel
        refine call_at [1, 5] (join_ok L s.t hs.t room name _ ?_) rfl rfl rfl rfl
        repeat refine eqA ?_
        exact leaf [0, 1, 2, 3, 4, 5] (.dat (.tup [.int .i64 (joinM s.t room name).1.1, .int .i64 (joinM s.t room name).1.2])) (St.h ⟨(joinM s.t room name).2, s.tracks, s.subs, s.srcs⟩) rfl rfl rfl rfl rfl (fin _ rfl)
    replace fin := fun r (h : _ = r) => fin r (by rw [if_neg k1]; exact h)
    have hsl' := hsl
    cases hsl
    all_goals
      repeat (first | (refine condA_true ?_ ?_; focus (first | rfl | (simp; done) | (simp; omega) | (simp [k1]; done) | (simp [k1]; omega))) | (refine condA_false ?_ ?_; focus (first | rfl | (simp; done) | (simp; omega) | (simp [k1]; done) | (simp [k1]; omega))))
      refine req ?_ ?_
      · decide +kernel
      refine call_at [1, 5] (peer_ok s.t peer _ ?_) rfl rfl rfl rfl
      cases hp : lk s.t.peers peer with
      | none =>
        replace fin := fun r (h : _ = r) => fin r (by rw [if_pos hp]; exact h)
        simp only [peerM, hp]
        repeat refine eqA ?_
        repeat (first | (refine condA_true ?_ ?_; focus (first | rfl | (simp; done) | (simp; omega))) | (refine condA_false ?_ ?_; focus (first | rfl | (simp; done) | (simp; omega))))
        exact leaf [0, 1, 2, 3, 4, 5] (.dat (.tup [.int .i64 0, .int .i64 8])) s.h rfl rfl rfl rfl rfl (fin _ rfl)
      | some pv =>
        replace fin := fun r (h : _ = r) => fin r (by rw [if_neg (by rw [hp]; simp)]; exact h)
        simp only [peerM, hp]
        repeat refine eqA ?_
        by_cases k2 : kind = 2
        · replace fin := fun r (h : _ = r) => fin r (by rw [if_pos k2]; exact h)
          repeat (first | (refine condA_true ?_ ?_; focus (first | rfl | (simp; done) | (simp; omega) | (simp [k2]; done) | (simp [k2]; omega))) | (refine condA_false ?_ ?_; focus (first | rfl | (simp; done) | (simp; omega) | (simp [k2]; done) | (simp [k2]; omega))))
          refine call_at [0, 1, 2, 3, 4, 5] (aleave_ok s hs peer _ ?_) rfl rfl rfl rfl
          exact leaf [0, 1, 2, 3, 4, 5] (.dat (.tup [.int .i64 0, .int .i64 (leaveM s peer).1])) (leaveM s peer).2.h rfl rfl rfl rfl rfl (fin _ rfl)
        replace fin := fun r (h : _ = r) => fin r (by rw [if_neg k2]; exact h)
        by_cases k3 : kind = 3
        · replace fin := fun r (h : _ = r) => fin r (by rw [if_pos k3]; exact h)
          repeat (first | (refine condA_true ?_ ?_; focus (first | rfl | (simp; done) | (simp; omega) | (simp [k2]; done) | (simp [k3]; done) | (simp [k2]; omega) | (simp [k3]; omega) | (simp [k2, k3]; done))) | (refine condA_false ?_ ?_; focus (first | rfl | (simp; done) | (simp; omega) | (simp [k2]; done) | (simp [k3]; done) | (simp [k2]; omega) | (simp [k3]; omega) | (simp [k2, k3]; done))))
          refine call_can ?_
          refine call_at [0, 1, 2, 3, 4, 5] (publish_ok s _ hsl' (hpub k3) _ ?_) rfl rfl rfl rfl
          exact leaf [0, 1, 2, 3, 4, 5] (.dat (.tup [.int .i64 0, .int .i64 (publishM s _).1])) (publishM s _).2.h rfl rfl rfl rfl rfl (fin _ rfl)
        replace fin := fun r (h : _ = r) => fin r (by rw [if_neg k3]; exact h)
        by_cases k5 : kind = 5
        · replace fin := fun r (h : _ = r) => fin r (by rw [if_pos k5]; exact h)
          repeat (first | (refine condA_true ?_ ?_; focus (first | rfl | (simp; done) | (simp; omega) | (simp [k2]; done) | (simp [k3]; done) | (simp [k5]; done) | (simp [k2]; omega) | (simp [k3]; omega) | (simp [k5]; omega) | (simp [k2, k3]; done) | (simp [k2, k5]; done) | (simp [k3, k5]; done))) | (refine condA_false ?_ ?_; focus (first | rfl | (simp; done) | (simp; omega) | (simp [k2]; done) | (simp [k3]; done) | (simp [k5]; done) | (simp [k2]; omega) | (simp [k3]; omega) | (simp [k5]; omega) | (simp [k2, k3]; done) | (simp [k2, k5]; done) | (simp [k3, k5]; done))))
          refine call_can ?_
          refine call_at [0, 1, 2, 3, 4, 5] (subscribe_ok L s hs _ hsl' _ ?_) rfl rfl rfl rfl
          exact leaf [0, 1, 2, 3, 4, 5] (.dat (.tup [.int .i64 0, .int .i64 (subscribeM s _).1])) (subscribeM s _).2.h rfl rfl rfl rfl rfl (fin _ rfl)
        replace fin := fun r (h : _ = r) => fin r (by rw [if_neg k5]; exact h)
        by_cases k6 : kind = 6
        · replace fin := fun r (h : _ = r) => fin r (by rw [if_pos (Or.inl k6)]; exact h)
          repeat (first | (refine condA_true ?_ ?_; focus (first | rfl | (simp; done) | (simp; omega) | (simp [k2]; done) | (simp [k3]; done) | (simp [k5]; done) | (simp [k6]; done) | (simp [k2]; omega) | (simp [k3]; omega) | (simp [k5]; omega) | (simp [k6]; omega) | (simp [k2, k3]; done) | (simp [k2, k5]; done) | (simp [k2, k6]; done) | (simp [k3, k5]; done) | (simp [k3, k6]; done) | (simp [k5, k6]; done))) | (refine condA_false ?_ ?_; focus (first | rfl | (simp; done) | (simp; omega) | (simp [k2]; done) | (simp [k3]; done) | (simp [k5]; done) | (simp [k6]; done) | (simp [k2]; omega) | (simp [k3]; omega) | (simp [k5]; omega) | (simp [k6]; omega) | (simp [k2, k3]; done) | (simp [k2, k5]; done) | (simp [k2, k6]; done) | (simp [k3, k5]; done) | (simp [k3, k6]; done) | (simp [k5, k6]; done))))
          refine call_can ?_
          refine call_at [0, 1, 2, 3, 4, 5] (link_ok s _ hsl' _ ?_) rfl rfl rfl rfl
          exact leaf [0, 1, 2, 3, 4, 5] (.dat (.tup [.int .i64 0, .int .i64 (linkM s _).1])) (linkM s _).2.h rfl rfl rfl rfl rfl (fin _ rfl)
        by_cases k8 : kind = 8
        · replace fin := fun r (h : _ = r) => fin r (by rw [if_pos (Or.inr k8)]; exact h)
          repeat (first | (refine condA_true ?_ ?_; focus (first | rfl | (simp; done) | (simp; omega) | (simp [k2]; done) | (simp [k3]; done) | (simp [k5]; done) | (simp [k6]; done) | (simp [k8]; done) | (simp [k2]; omega) | (simp [k3]; omega) | (simp [k5]; omega) | (simp [k6]; omega) | (simp [k8]; omega) | (simp [k2, k3]; done) | (simp [k2, k5]; done) | (simp [k2, k6]; done) | (simp [k2, k8]; done) | (simp [k3, k5]; done) | (simp [k3, k6]; done) | (simp [k3, k8]; done) | (simp [k5, k6]; done) | (simp [k5, k8]; done) | (simp [k6, k8]; done))) | (refine condA_false ?_ ?_; focus (first | rfl | (simp; done) | (simp; omega) | (simp [k2]; done) | (simp [k3]; done) | (simp [k5]; done) | (simp [k6]; done) | (simp [k8]; done) | (simp [k2]; omega) | (simp [k3]; omega) | (simp [k5]; omega) | (simp [k6]; omega) | (simp [k8]; omega) | (simp [k2, k3]; done) | (simp [k2, k5]; done) | (simp [k2, k6]; done) | (simp [k2, k8]; done) | (simp [k3, k5]; done) | (simp [k3, k6]; done) | (simp [k3, k8]; done) | (simp [k5, k6]; done) | (simp [k5, k8]; done) | (simp [k6, k8]; done))))
          refine call_can ?_
          refine call_at [0, 1, 2, 3, 4, 5] (link_ok s _ hsl' _ ?_) rfl rfl rfl rfl
          exact leaf [0, 1, 2, 3, 4, 5] (.dat (.tup [.int .i64 0, .int .i64 (linkM s _).1])) (linkM s _).2.h rfl rfl rfl rfl rfl (fin _ rfl)
        replace fin := fun r (h : _ = r) => fin r (by rw [if_neg (by rintro (h | h); exact k6 h; exact k8 h)]; exact h)
        repeat (first | (refine condA_true ?_ ?_; focus (first | rfl | (simp; done) | (simp; omega) | (simp [k2]; done) | (simp [k3]; done) | (simp [k5]; done) | (simp [k6]; done) | (simp [k8]; done) | (simp [k2]; omega) | (simp [k3]; omega) | (simp [k5]; omega) | (simp [k6]; omega) | (simp [k8]; omega) | (simp [k2, k3]; done) | (simp [k2, k5]; done) | (simp [k2, k6]; done) | (simp [k2, k8]; done) | (simp [k3, k5]; done) | (simp [k3, k6]; done) | (simp [k3, k8]; done) | (simp [k5, k6]; done) | (simp [k5, k8]; done) | (simp [k6, k8]; done))) | (refine condA_false ?_ ?_; focus (first | rfl | (simp; done) | (simp; omega) | (simp [k2]; done) | (simp [k3]; done) | (simp [k5]; done) | (simp [k6]; done) | (simp [k8]; done) | (simp [k2]; omega) | (simp [k3]; omega) | (simp [k5]; omega) | (simp [k6]; omega) | (simp [k8]; omega) | (simp [k2, k3]; done) | (simp [k2, k5]; done) | (simp [k2, k6]; done) | (simp [k2, k8]; done) | (simp [k3, k5]; done) | (simp [k3, k6]; done) | (simp [k3, k8]; done) | (simp [k5, k6]; done) | (simp [k5, k8]; done) | (simp [k6, k8]; done))))
        refine call_can ?_
        refine call_at [0, 1, 2, 3, 4, 5] (atrack_ok s hs _ hsl' _ ?_) rfl rfl rfl rfl
        exact leaf [0, 1, 2, 3, 4, 5] (.dat (.tup [.int .i64 0, .int .i64 (trackM s _).1])) (trackM s _).2.h rfl rfl rfl rfl rfl (fin _ rfl)
  · replace fin := fun r (h : _ = r) => fin r (by rw [if_pos c0]; exact h)
    generalize Cmd.check _ = e at c0 fin ⊢
    repeat (first | (refine condA_true ?_ ?_; focus (first | rfl | (simp; done) | (simp; omega) | (simp [c0]; done) | (simp [c0]; omega))) | (refine condA_false ?_ ?_; focus (first | rfl | (simp; done) | (simp; omega) | (simp [c0]; done) | (simp [c0]; omega))))
    exact leaf [0, 1, 2, 3, 4, 5] (.dat (.tup [.int .i64 0, .int .i64 e])) s.h rfl rfl rfl rfl rfl (fin _ rfl)
end Go.Abs.X

namespace Go.Abs.X
open Go.Abs Go Go.Proofs
variable {w0 : World}

def hallB : ByteArray := ⟨#[104, 97, 108, 108]⟩
def nameB (i : Nat) : ByteArray := ⟨#[112]⟩ ++ Utf8.encode (IntKind.i32.wrap (IntKind.i64.wrap (97 + i)))
def joinC (i : Nat) : Cmd := ⟨1, hallB, nameB i, 0, 0, 0, 0, false, false, [], .nils⟩
def trio (i : Nat) : List Int := [IntKind.u32.wrap (IntKind.i64.wrap (IntKind.i64.wrap (100 * i) + 1)), IntKind.u32.wrap (IntKind.i64.wrap (IntKind.i64.wrap (100 * i) + 2)), IntKind.u32.wrap (IntKind.i64.wrap (IntKind.i64.wrap (100 * i) + 3))]
def pubC (i : Nat) : Cmd := ⟨3, .empty, .empty, i, 0, 0, 0, false, true, trio i, .ros (u32s (trio i)) 3 (some 3)⟩
def hallM : Nat → St
  | 0 => St.none
  | i + 1 => (doM (doM (hallM i) (joinC i)).2 (pubC i)).2
def clip (n : Int) : Int := if 6 < (if 0 > n then 0 else n) then 6 else if 0 > n then 0 else n
theorem none_OK : StOK St.none :=
  ⟨⟨(fun _ h => (List.not_mem_nil h).elim), by decide, by decide, by decide⟩, (fun _ h => (List.not_mem_nil h).elim), by decide, by decide, by decide, by decide, by decide, by decide⟩
theorem none_N : StN St.none 0 := ⟨by decide, by decide, by decide, by decide⟩
theorem pubC_OK (i : Nat) : (pubC i).OK := ⟨Nat.le_of_ble_eq_true rfl, Nat.le_of_ble_eq_true rfl, Sl.ros (trio i) (some 3), Nat.le_of_ble_eq_true rfl⟩
theorem joinC_OK {i : Nat} (h : i < 6) : (joinC i).OK := by
  refine ⟨Nat.le_of_ble_eq_true rfl, ?_, Sl.nil, Nat.le_of_ble_eq_true rfl⟩
  have : i = 0 ∨ i = 1 ∨ i = 2 ∨ i = 3 ∨ i = 4 ∨ i = 5 := by omega
  rcases this with rfl | rfl | rfl | rfl | rfl | rfl <;> decide +kernel
theorem hallM_OK (i : Nat) (h : i ≤ 6) : StOK (hallM i) ∧ StN (hallM i) (2 * i) := by
  induction i with
  | zero => exact ⟨none_OK, none_N⟩
  | succ i ih =>
    obtain ⟨h1, h2⟩ := ih (by omega)
    obtain ⟨h3, h4⟩ := doM_OK h1 h2 (by omega) (joinC i)
    obtain ⟨h5, h6⟩ := doM_OK h3 h4 (by omega) (pubC i)
    exact ⟨h5, h6⟩
set_option maxHeartbeats 2000000 in
theorem hall_ok (L : Laid w0) (n : Int) (K : AV → Heap → Prop) (hk : ∀ m : Nat, (m : Int) = clip n → K (.ptr 0 0) (hallM m).h) : CallA (cx w0) 18 [.dat (.int .i64 n)] [] K := by
  refine CallA.ret ?_
  refine CallA.enter ok (dr (plOf [])) Tryz.func18 Tryz.call18 ?_
  refine call_at [] (anew_ok _ ?_) rfl rfl rfl rfl
  repeat (first | (refine condA_true ?_ ?_; focus (first | rfl | (simp; done) | (simp; omega))) | (refine condA_false ?_ ?_; focus (first | rfl | (simp; done) | (simp; omega))))
  have hcl : 0 ≤ clip n ∧ clip n ≤ 6 := by unfold clip; split <;> split <;> omega
  obtain ⟨m, hm⟩ : ∃ m : Nat, (m : Int) = clip n := ⟨(clip n).toNat, by omega⟩
  have hk := hk m hm
  have hm6 : m ≤ 6 := by omega
  refine loop_in [3, 17, 18] [0, 1, 2, 3, 4, 5] [.ptr 0 0, .dat (.int .i64 m), .dat (.int .i64 (0 : Nat))] (hallM 0).h (by rw [hm]; rfl) rfl rfl rfl (hin_cons rfl (hin_cons rfl (hin_cons rfl (hin_cons rfl (hin_cons rfl (hin_cons rfl hin_nil)))))) ?_
  refine loop_ind (fun i : Nat => mkE [3, 17, 18] [.ptr 0 0, .dat (.int .i64 m), .dat (.int .i64 i)]) (fun i => (hallM i).h) (fun i => i ≤ m) (fun i => m - i) ?_ 0 (Nat.zero_le _)
  intro i hi ih
  refine loopA_round ok (dr (plOf []) _) ?_
  by_cases hlt : i < m
  · have go := ih (i + 1) hlt (by omega)
    have ho := (hallM_OK i (by omega)).1
    have ho2 := (doM_OK ho (hallM_OK i (by omega)).2 (by omega) (joinC i)).1
    have e : hallM (i + 1) = (doM (doM (hallM i) (joinC i)).2 (pubC i)).2 := rfl
    dsimp only at go
    rw [e] at go
    clear ih e
    refine condA_true (by simpa using hlt) ?_
    have hw : IntKind.i64.wrap ((i : Int) + 1) = ((i + 1 : Nat) : Int) := by rw [wrap_i64 _ (by omega) (by omega)]; omega
    have hc := joinC_OK (i := i) (by omega)
    have hsz : (1 : Nat) + (Utf8.encode (IntKind.i32.wrap (IntKind.i64.wrap (97 + (i : Int))))).size ≤ maxLen := by
      have : i = 0 ∨ i = 1 ∨ i = 2 ∨ i = 3 ∨ i = 4 ∨ i = 5 := by omega
      rcases this with rfl | rfl | rfl | rfl | rfl | rfl <;> decide +kernel
    generalize hallM i = s at go ho ho2 ⊢
    refine req hsz ?_
    refine call_can ?_
    refine call_at [0, 1, 2, 3, 4, 5] (do_ok L s ho (joinC i) hc _ ?_) rfl rfl rfl rfl
    have hp := pubC_OK i
    generalize doM s (joinC i) = r at go ho2 ⊢
    obtain ⟨⟨r1, r2⟩, s2⟩ := r
    dsimp only at go ho2
    refine CallA.shift (shift_frz' 6 (u32s (trio i)) rfl rfl (shift_id ?_))
    refine call_can ?_
    refine call_at [0, 1, 2, 3, 4, 5] (do_ok L s2 ho2 (pubC i) hp _ ?_) rfl rfl rfl rfl
    generalize doM s2 (pubC i) = r at go ⊢
    obtain ⟨⟨r3, r4⟩, s3⟩ := r
    dsimp only at go
    exact loop_in [3, 17, 18] [0, 1, 2, 3, 4, 5] [.ptr 0 0, .dat (.int .i64 m), .dat (.int .i64 ((i + 1 : Nat) : Int))] s3.h (by rw [← hw]; rfl) rfl rfl rfl (hin_cons rfl (hin_cons rfl (hin_cons rfl (hin_cons rfl (hin_cons rfl (hin_cons rfl hin_nil)))))) go
  · obtain rfl : i = m := by omega
    refine condA_false (by simp) ?_
    exact leaf [0, 1, 2, 3, 4, 5] (.ptr 0 0) (hallM i).h rfl rfl rfl rfl rfl hk
end Go.Abs.X

namespace Go.Abs.X
open Go.Abs Go Go.Proofs

/-! Peers come in rising order: the sorts may be left out. -/
structure Up (t : Tb) : Prop where
  up : (t.peers.map (·.1)).Pairwise (· < ·)
  lt : ∀ p ∈ t.peers, 0 ≤ p.1 ∧ p.1 < t.next
  n0 : 0 ≤ t.next
theorem Up.nd {t : Tb} (h : Up t) : (t.peers.map (·.1)).Nodup := h.up.imp fun h => by omega
theorem Up.keys {t : Tb} (h : Up t) : t.keys = t.peers.map (·.1) :=
  List.mergeSort_of_pairwise (h.up.imp fun h => by simp; omega)
def inP (t : Tb) (room : ByteArray) : List (Int × PeerV) := t.peers.filter fun p => sameM p.2.2 room
theorem inM_up {t : Tb} (h : Up t) (room : ByteArray) : inM t room = inP t room := by
  unfold inM inP
  rw [h.keys]
  have hnd := h.nd
  have : ∀ l : List (Int × PeerV), (∀ p ∈ l, p ∈ t.peers) → (l.map (·.1)).filterMap (inF t room) = l.filter fun p => sameM p.2.2 room := by
    intro l hl
    induction l with
    | nil => rfl
    | cons x r ih =>
      have hx : lk t.peers x.1 = some x.2 := (lk_iff hnd).2 (hl x (by simp))
      simp only [List.map_cons, List.filter_cons]
      have e : inF t room x.1 = if sameM x.2.2 room then some x else none := by simp only [inF, hx]
      by_cases c : sameM x.2.2 room = true
      · rw [List.filterMap_cons_some (by rw [e, if_pos c]), if_pos c, ih fun p hp => hl p (List.mem_cons_of_mem _ hp)]
      · rw [List.filterMap_cons_none (by rw [e, if_neg c]), if_neg c, ih fun p hp => hl p (List.mem_cons_of_mem _ hp)]
  exact this _ fun _ h => h
def roomN (t : Tb) : Nat := (dedup (t.peers.map fun p => foldM p.2.2)).length
theorem roomsM_len (t : Tb) : (roomsM t).length = roomN t := by simp [roomsM, roomN, sortS]
def joinP (t : Tb) (room name : ByteArray) : (Int × Int) × Tb :=
  if checkM room ≠ 0 ∨ checkM name ≠ 0 then ((0, 6), t)
  else if (inP t room).any (fun p => sameM p.2.1 name) = true then ((0, 10), t)
  else if 16 ≤ (inP t room).length ∨ (inP t room).length = 0 ∧ 8 ≤ roomN t ∨ 65535 < t.next then ((0, 11), t)
  else ((t.next, 0), ⟨t.next + 1, t.peers ++ [(t.next, (name, room))]⟩)
theorem ins_new {κ ν : Type} [DecidableEq κ] {l : List (κ × ν)} {k : κ} (h : k ∉ l.map (·.1)) (v : ν) : ins l k v = l ++ [(k, v)] := by
  induction l with
  | nil => rfl
  | cons x r ih =>
    simp only [List.map_cons, List.mem_cons, not_or] at h
    simp only [ins, if_neg h.1, List.cons_append, ih h.2]
theorem Up.fresh {t : Tb} (h : Up t) : t.next ∉ t.peers.map (·.1) := fun hm => by
  obtain ⟨p, hp, e⟩ := List.mem_map.1 hm
  have := (h.lt p hp).2
  omega
theorem joinM_up {t : Tb} (h : Up t) (room name : ByteArray) : joinM t room name = joinP t room name := by
  unfold joinM joinP
  rw [inM_up h, roomsM_len, ins_new h.fresh]
theorem joinP_up {t : Tb} (h : Up t) (room name : ByteArray) : Up (joinP t room name).2 := by
  unfold joinP
  split
  · exact h
  split
  · exact h
  split
  · exact h
  refine ⟨?_, fun p hp => ?_, ?_⟩
  · show ((t.peers ++ [(t.next, (name, room))]).map (·.1)).Pairwise (· < ·)
    rw [List.map_append, List.pairwise_append]
    refine ⟨h.up, by simp, fun a ha b hb => ?_⟩
    obtain ⟨p, hp, rfl⟩ := List.mem_map.1 ha
    simp at hb; subst hb
    exact (h.lt p hp).2
  · have hp : p ∈ t.peers ++ [(t.next, (name, room))] := hp
    show 0 ≤ p.1 ∧ p.1 < t.next + 1
    rcases List.mem_append.1 hp with hp | hp
    · have := h.lt p hp; omega
    · simp at hp; subst hp; have := h.n0; simp; omega
  · have := h.n0
    show 0 ≤ t.next + 1; omega
theorem del_up {t : Tb} (h : Up t) (n : Int) : Up ⟨t.next, del t.peers n⟩ :=
  ⟨h.up.sublist ((del_sub _ _).map _), fun p hp => h.lt p ((del_sub _ _).subset hp), h.n0⟩
def doP (s : St) (c : Cmd) : (Int × Int) × St :=
  if c.check ≠ 0 then ((0, c.check), s)
  else if c.kind = 1 then ((joinP s.t c.room c.name).1, ⟨(joinP s.t c.room c.name).2, s.tracks, s.subs, s.srcs⟩)
  else if lk s.t.peers c.peer = none then ((0, 8), s)
  else if c.kind = 2 then ((0, (leaveM s c.peer).1), (leaveM s c.peer).2)
  else if c.kind = 3 then ((0, (publishM s c).1), (publishM s c).2)
  else if c.kind = 5 then ((0, (subscribeM s c).1), (subscribeM s c).2)
  else if c.kind = 6 ∨ c.kind = 8 then ((0, (linkM s c).1), (linkM s c).2)
  else ((0, (trackM s c).1), (trackM s c).2)
theorem doM_up {s : St} (h : Up s.t) (c : Cmd) : doM s c = doP s c := by
  unfold doM doP; rw [joinM_up h]
theorem doP_up {s : St} (h : Up s.t) (c : Cmd) : Up (doP s c).2.t := by
  unfold doP
  split
  · exact h
  split
  · exact joinP_up h _ _
  split
  · exact h
  split
  · unfold leaveM
    split
    · exact h
    · exact del_up h _
  split
  · unfold publishM
    split
    · exact h
    split <;> exact h
  split
  · unfold subscribeM
    split
    · exact h
    split
    · exact h
    split
    · exact h
    split
    · split <;> exact h
    · exact h
  split
  · unfold linkM
    split
    · exact h
    split <;> exact h
  · unfold trackM
    split
    · exact h
    split <;> exact h

/-! A row of commands. -/
structure Good (s : St) (n : Nat) : Prop where
  ok : StOK s
  sz : StN s n
  up : Up s.t
theorem Good.next {s : St} {n : Nat} (g : Good s n) (h : n + 1 ≤ 200000) (c : Cmd) : Good (doP s c).2 (n + 1) := by
  have := doM_OK g.ok g.sz h c
  rw [doM_up g.up] at this
  exact ⟨this.1, this.2, doP_up g.up c⟩
inductive Run : St → List Cmd → List Int → St → Prop
  | nil (s : St) : Run s [] [] s
  | cons {s s1 s2 : St} {c : Cmd} {n e : Int} {cs : List Cmd} {es : List Int} (g : StOK s) (h : doM s c = ((n, e), s1)) (r : Run s1 cs es s2) : Run s (c :: cs) (e :: es) s2
def runP (s : St) : List Cmd → List Int × St
  | [] => ([], s)
  | c :: cs => ((doP s c).1.2 :: (runP (doP s c).2 cs).1, (runP (doP s c).2 cs).2)
theorem runP_run {s : St} {m : Nat} (g : Good s m) (cs : List Cmd) (h : m + cs.length ≤ 200000) : Run s cs (runP s cs).1 (runP s cs).2 ∧ Good (runP s cs).2 (m + cs.length) := by
  induction cs generalizing s m with
  | nil => exact ⟨Run.nil s, g⟩
  | cons c cs ih =>
    simp only [List.length_cons] at h
    obtain ⟨h1, h2⟩ := ih (g.next (by omega) c) (by omega)
    refine ⟨Run.cons (n := (doP s c).1.1) g.ok (by rw [doM_up g.up]) h1, ?_⟩
    have e : m + (c :: cs).length = m + 1 + cs.length := by simp only [List.length_cons]; omega
    rw [e]; exact h2
theorem Run.append {s s1 s2 : St} {a b : List Cmd} {x y : List Int} (h : Run s a x s1) (h2 : Run s1 b y s2) : Run s (a ++ b) (x ++ y) s2 := by
  induction h with
  | nil => exact h2
  | cons g h r ih => exact Run.cons g h (ih h2)
end Go.Abs.X

namespace Go.Abs.X
open Go.Abs Go Go.Proofs

def subC (p o t l : Int) : Cmd := ⟨5, .empty, .empty, p, o, t, l, false, false, [], .nils⟩
def leaveC (p : Int) : Cmd := ⟨2, .empty, .empty, p, 0, 0, 0, false, false, [], .nils⟩
def hallCs : Nat → List Cmd
  | 0 => []
  | i + 1 => hallCs i ++ [joinC i, pubC i]
theorem none_good : Good St.none 0 := ⟨none_OK, none_N, ⟨by simp [St.none], by simp [St.none], by simp [St.none]⟩⟩
theorem runP_append (s : St) (a b : List Cmd) : runP s (a ++ b) = ((runP s a).1 ++ (runP (runP s a).2 b).1, (runP (runP s a).2 b).2) := by
  induction a generalizing s with
  | nil => rfl
  | cons c a ih => simp only [List.cons_append, runP, ih]
theorem hallCs_length (i : Nat) : (hallCs i).length = 2 * i := by
  induction i with
  | zero => rfl
  | succ i ih => simp only [hallCs, List.length_append, ih, List.length_cons, List.length_nil]; omega
theorem hall_eq (i : Nat) (h : i ≤ 6) : hallM i = (runP St.none (hallCs i)).2 ∧ Good (hallM i) (2 * i) := by
  induction i with
  | zero => exact ⟨rfl, none_good⟩
  | succ i ih =>
    obtain ⟨h1, h2⟩ := ih (by omega)
    have h3 := h2.next (by omega) (joinC i)
    have e : hallM (i + 1) = (doP (doP (hallM i) (joinC i)).2 (pubC i)).2 := by
      show (doM (doM (hallM i) (joinC i)).2 (pubC i)).2 = _
      rw [doM_up h2.up, doM_up h3.up]
    refine ⟨?_, ?_⟩
    · rw [e, hallCs, runP_append, ← h1]; rfl
    · rw [e]; exact h3.next (by omega) (pubC i)
/-- what awake asks -/
def awakeP : Bool :=
  let a0 := (runP St.none (hallCs 2)).2
  let r := doP a0 (subC 1 0 0 0)
  let q := doP r.2 (leaveC 0)
  a0.t.peers.length == 2 && (r.1.2 == 0) && decide (lk r.2.srcs 2 = some (0, 0, 1)) && r.2.subs.length == 1 && q.2.subs.length == 0
theorem awakeP_true : awakeP = true := by decide +kernel
end Go.Abs.X
