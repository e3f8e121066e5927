/- The law AccessFull of package antiphonlaw13 answers true at every input, and leaves its arguments as they were. Conditions: the package variables that the row lists hold what the program's text lays (the card ties them). -/
import Derived.Test.YtbbpedjbfgcdoaaGreatDoorP8
import Derived.Test.YtbbpedjbfgcdoaaGreatDoorP9
set_option linter.unusedSimpArgs false
set_option linter.unusedSectionVars false

namespace Go.Abs.X
open Go.Abs Go Go.Proofs

def num1 (i t : Nat) : Int := IntKind.u32.wrap (IntKind.i64.wrap (IntKind.i64.wrap (1000 + IntKind.i64.wrap (10 * i)) + t))
def oneC (i t : Nat) : Cmd := ⟨3, .empty, .empty, i, 0, t, 0, false, false, [num1 i t], .ros (u32s [num1 i t]) 1 (some 1)⟩
theorem oneC_OK (i t : Nat) : (oneC i t).OK := ⟨Nat.le_of_ble_eq_true rfl, Nat.le_of_ble_eq_true rfl, Sl.ros [num1 i t] (some 1), Nat.le_of_ble_eq_true rfl⟩
def onesC : List Cmd := [1, 2, 3, 4, 5].flatMap fun i => [1, 2, 3].map fun t => oneC i t
def wantC : List Cmd := [1, 2, 3, 4, 5].flatMap fun i => [0, 1, 2, 3].map fun t => subC 0 i t 0
def fullS : List Int × St := runP St.none (hallCs 6 ++ (onesC ++ wantC))
def fullP (s : St) (p t l : Int) : Bool :=
  let r := doP s (subC 0 p t l)
  (r.1.2 == 0) && decide (lk r.2.subs ⟨0, p, t⟩ = some (l, false)) && r.2.subs.length == 16
theorem full_codes : fullS.1 = List.replicate 27 0 ++ (List.replicate 16 0 ++ List.replicate 4 11) := by decide +kernel
theorem full_last : ([1, 2, 3, 4].all fun p => [0, 1, 2, 3].all fun t => [0, 1, 2].all fun l => fullP fullS.2 p t l) = true := by decide +kernel
def and255 (n : Int) : Int := IntKind.i64.wrap (BitVec.ofInt IntKind.i64.bits n &&& BitVec.ofInt IntKind.i64.bits 255).toNat
theorem and255_nat (n : Int) : ∃ a : Nat, a < 256 ∧ and255 n = a := by
  have h : (BitVec.ofInt 64 n &&& BitVec.ofInt 64 255).toNat ≤ 255 := by
    rw [BitVec.toNat_and]
    exact Nat.le_trans Nat.and_le_right (by decide)
  refine ⟨(BitVec.ofInt 64 n &&& BitVec.ofInt 64 255).toNat, by omega, ?_⟩
  show IntKind.i64.wrap ((BitVec.ofInt 64 n &&& BitVec.ofInt 64 255).toNat : Int) = _
  exact wrap_i64 _ (by omega) (by omega)
def pickP (n : Int) : Int := IntKind.i64.wrap (1 + IntKind.i64.wrap (((and255 n).tmod 16).tdiv 4))
def pickT (n : Int) : Int := ((and255 n).tmod 16).tmod 4
def pickL (l : Int) : Int := (and255 l).tmod 3
theorem picks : ∀ a < 256, IntKind.i64.wrap (1 + IntKind.i64.wrap ((((a : Nat) : Int).tmod 16).tdiv 4)) ∈ [1, 2, 3, (4 : Int)] ∧ (((a : Nat) : Int).tmod 16).tmod 4 ∈ [0, 1, 2, (3 : Int)] ∧ ((a : Nat) : Int).tmod 3 ∈ [0, 1, (2 : Int)] := by decide +kernel
theorem full_at {z : St} (h : ([1, 2, 3, 4].all fun p => [0, 1, 2, 3].all fun t => [0, 1, 2].all fun l => fullP z p t l) = true) (n l : Int) : fullP z (pickP n) (pickT n) (pickL l) = true := by
  obtain ⟨a, ha, ea⟩ := and255_nat n
  obtain ⟨b, hb, eb⟩ := and255_nat l
  unfold pickP pickT pickL
  rw [ea, eb]
  exact List.all_eq_true.1 (List.all_eq_true.1 (List.all_eq_true.1 h _ (picks a ha).1) _ (picks a ha).2.1) _ (picks b hb).2.2
end Go.Abs.X

namespace Go.Abs.X
open Go.Abs Go Go.Proofs
variable {w0 : World}

theorem do_step (L : Laid w0) {s s' : St} (g : StOK s) (c : Cmd) (hc : c.OK) {n e : Int} (h : doM s c = ((n, e), s')) (K : AV → Heap → Prop) (hk : K (.dat (.tup [.int .i64 n, .int .i64 e])) s'.h) : CallA (cx w0) 11 [.ptr 0 0, .dat c.dv] s.h K :=
  do_ok L s g c hc K (by rw [h]; exact hk)
theorem full_run : Run (hallM 6) (onesC ++ wantC) (List.replicate 15 0 ++ (List.replicate 16 0 ++ List.replicate 4 11)) fullS.2 ∧ Good fullS.2 (2 * 6 + (onesC ++ wantC).length) := by
  obtain ⟨e, g⟩ := hall_eq 6 (by omega)
  have h := runP_run g (onesC ++ wantC) (by decide)
  have a := runP_append St.none (hallCs 6) (onesC ++ wantC)
  rw [← e] at a
  have c := full_codes
  unfold fullS at c ⊢
  rw [a] at c ⊢
  dsimp only at c ⊢
  have len : (runP St.none (hallCs 6)).1.length = (List.replicate 12 (0 : Int)).length := by decide +kernel
  have c : (runP St.none (hallCs 6)).1 ++ (runP (hallM 6) (onesC ++ wantC)).1 = List.replicate 12 0 ++ (List.replicate 15 0 ++ (List.replicate 16 0 ++ List.replicate 4 11)) := c.trans rfl
  have c := (List.append_inj c len).2
  rw [← c]
  exact h
set_option maxHeartbeats 4000000 in
theorem full_walk (L : Laid w0) (n l : Int) (K : AV → Heap → Prop) (hk : K (.dat (.bool true)) []) : CallA (cx w0) 4 [.dat (.int .i64 n), .dat (.int .i64 l)] [] K := by
  refine CallA.ret ?_
  refine CallA.enter ok (dr (plOf [])) Tryz.func4 Tryz.call4 ?_
  refine call_at [] (awake_ok L _ ?_) rfl rfl rfl rfl
  repeat (first | (refine condA_true ?_ ?_; focus (first | rfl | (simp; done) | (simp; omega))) | (refine condA_false ?_ ?_; focus (first | rfl | (simp; done) | (simp; omega))))
  refine call_at [] (hall_ok L 6 _ (fun m hm => ?_)) rfl rfl rfl rfl
  obtain rfl : m = 6 := by
    have : clip 6 = 6 := by decide
    omega
  obtain ⟨run, good⟩ := full_run
  have last := full_last
  generalize fullS.2 = z at run good last
  generalize hallM 6 = s at run ⊢
  replace run : Run s [oneC 1 1, oneC 1 2, oneC 1 3, oneC 2 1, oneC 2 2, oneC 2 3, oneC 3 1, oneC 3 2, oneC 3 3, oneC 4 1, oneC 4 2, oneC 4 3, oneC 5 1, oneC 5 2, oneC 5 3, subC 0 1 0 0, subC 0 1 1 0, subC 0 1 2 0, subC 0 1 3 0, subC 0 2 0 0, subC 0 2 1 0, subC 0 2 2 0, subC 0 2 3 0, subC 0 3 0 0, subC 0 3 1 0, subC 0 3 2 0, subC 0 3 3 0, subC 0 4 0 0, subC 0 4 1 0, subC 0 4 2 0, subC 0 4 3 0, subC 0 5 0 0, subC 0 5 1 0, subC 0 5 2 0, subC 0 5 3 0] [0, 0, 0, 0, 0, 0, 0, 0, 0, 0, 0, 0, 0, 0, 0, 0, 0, 0, 0, 0, 0, 0, 0, 0, 0, 0, 0, 0, 0, 0, 0, 11, 11, 11, 11] z := run
  repeat (first | (refine condA_true ?_ ?_; focus (first | rfl | (simp; done) | (simp; omega))) | (refine condA_false ?_ ?_; focus (first | rfl | (simp; done) | (simp; omega))))
  refine loop_in [0, 1, 5, 6] [0, 1, 2, 3, 4, 5] [.dat (.int .i64 n), .dat (.int .i64 l), .ptr 0 0, .dat (.int .i64 1)] s.h rfl rfl rfl rfl (hin_cons rfl (hin_cons rfl (hin_cons rfl (hin_cons rfl (hin_cons rfl (hin_cons rfl hin_nil)))))) ?_
  refine loopA_round ok (dr (plOf []) _) ?_
  refine condA_true rfl ?_
  refine loop_in [0, 1, 5, 6, 7] [0, 1, 2, 3, 4, 5] [.dat (.int .i64 n), .dat (.int .i64 l), .ptr 0 0, .dat (.int .i64 1), .dat (.int .i64 1)] s.h rfl rfl rfl rfl (hin_cons rfl (hin_cons rfl (hin_cons rfl (hin_cons rfl (hin_cons rfl (hin_cons rfl hin_nil)))))) ?_
  refine loopA_round ok (dr (plOf []) _) ?_
  refine condA_true rfl ?_
  rcases run with _ | ⟨g, h, run⟩
  refine CallA.shift (shift_frz' 6 (u32s [num1 1 1]) rfl rfl (shift_id ?_))
  refine call_can ?_
  refine call_at [0, 1, 2, 3, 4, 5] (do_step L g (oneC 1 1) (oneC_OK _ _) h _ ?_) rfl rfl rfl rfl
  clear g h
  rename_i s _
  repeat (first | (refine condA_true ?_ ?_; focus (first | rfl | (simp; done) | (simp; omega))) | (refine condA_false ?_ ?_; focus (first | rfl | (simp; done) | (simp; omega))))
  refine loop_in [0, 1, 5, 6, 7] [0, 1, 2, 3, 4, 5] [.dat (.int .i64 n), .dat (.int .i64 l), .ptr 0 0, .dat (.int .i64 1), .dat (.int .i64 2)] s.h rfl rfl rfl rfl (hin_cons rfl (hin_cons rfl (hin_cons rfl (hin_cons rfl (hin_cons rfl (hin_cons rfl hin_nil)))))) ?_
  refine loopA_round ok (dr (plOf []) _) ?_
  refine condA_true rfl ?_
  rcases run with _ | ⟨g, h, run⟩
  refine CallA.shift (shift_frz' 6 (u32s [num1 1 2]) rfl rfl (shift_id ?_))
  refine call_can ?_
  refine call_at [0, 1, 2, 3, 4, 5] (do_step L g (oneC 1 2) (oneC_OK _ _) h _ ?_) rfl rfl rfl rfl
  clear g h
  rename_i s _
  repeat (first | (refine condA_true ?_ ?_; focus (first | rfl | (simp; done) | (simp; omega))) | (refine condA_false ?_ ?_; focus (first | rfl | (simp; done) | (simp; omega))))
  refine loop_in [0, 1, 5, 6, 7] [0, 1, 2, 3, 4, 5] [.dat (.int .i64 n), .dat (.int .i64 l), .ptr 0 0, .dat (.int .i64 1), .dat (.int .i64 3)] s.h rfl rfl rfl rfl (hin_cons rfl (hin_cons rfl (hin_cons rfl (hin_cons rfl (hin_cons rfl (hin_cons rfl hin_nil)))))) ?_
  refine loopA_round ok (dr (plOf []) _) ?_
  refine condA_true rfl ?_
  rcases run with _ | ⟨g, h, run⟩
  refine CallA.shift (shift_frz' 6 (u32s [num1 1 3]) rfl rfl (shift_id ?_))
  refine call_can ?_
  refine call_at [0, 1, 2, 3, 4, 5] (do_step L g (oneC 1 3) (oneC_OK _ _) h _ ?_) rfl rfl rfl rfl
  clear g h
  rename_i s _
  repeat (first | (refine condA_true ?_ ?_; focus (first | rfl | (simp; done) | (simp; omega))) | (refine condA_false ?_ ?_; focus (first | rfl | (simp; done) | (simp; omega))))
  refine loop_in [0, 1, 5, 6, 7] [0, 1, 2, 3, 4, 5] [.dat (.int .i64 n), .dat (.int .i64 l), .ptr 0 0, .dat (.int .i64 1), .dat (.int .i64 4)] s.h rfl rfl rfl rfl (hin_cons rfl (hin_cons rfl (hin_cons rfl (hin_cons rfl (hin_cons rfl (hin_cons rfl hin_nil)))))) ?_
  refine loopA_round ok (dr (plOf []) _) ?_
  refine condA_false rfl ?_
  refine loop_in [0, 1, 5, 6] [0, 1, 2, 3, 4, 5] [.dat (.int .i64 n), .dat (.int .i64 l), .ptr 0 0, .dat (.int .i64 2)] s.h rfl rfl rfl rfl (hin_cons rfl (hin_cons rfl (hin_cons rfl (hin_cons rfl (hin_cons rfl (hin_cons rfl hin_nil)))))) ?_
  refine loopA_round ok (dr (plOf []) _) ?_
  refine condA_true rfl ?_
  refine loop_in [0, 1, 5, 6, 7] [0, 1, 2, 3, 4, 5] [.dat (.int .i64 n), .dat (.int .i64 l), .ptr 0 0, .dat (.int .i64 2), .dat (.int .i64 1)] s.h rfl rfl rfl rfl (hin_cons rfl (hin_cons rfl (hin_cons rfl (hin_cons rfl (hin_cons rfl (hin_cons rfl hin_nil)))))) ?_
  refine loopA_round ok (dr (plOf []) _) ?_
  refine condA_true rfl ?_
  rcases run with _ | ⟨g, h, run⟩
  refine CallA.shift (shift_frz' 6 (u32s [num1 2 1]) rfl rfl (shift_id ?_))
  refine call_can ?_
  refine call_at [0, 1, 2, 3, 4, 5] (do_step L g (oneC 2 1) (oneC_OK _ _) h _ ?_) rfl rfl rfl rfl
  clear g h
  rename_i s _
  repeat (first | (refine condA_true ?_ ?_; focus (first | rfl | (simp; done) | (simp; omega))) | (refine condA_false ?_ ?_; focus (first | rfl | (simp; done) | (simp; omega))))
  refine loop_in [0, 1, 5, 6, 7] [0, 1, 2, 3, 4, 5] [.dat (.int .i64 n), .dat (.int .i64 l), .ptr 0 0, .dat (.int .i64 2), .dat (.int .i64 2)] s.h rfl rfl rfl rfl (hin_cons rfl (hin_cons rfl (hin_cons rfl (hin_cons rfl (hin_cons rfl (hin_cons rfl hin_nil)))))) ?_
  refine loopA_round ok (dr (plOf []) _) ?_
  refine condA_true rfl ?_
  rcases run with _ | ⟨g, h, run⟩
  refine CallA.shift (shift_frz' 6 (u32s [num1 2 2]) rfl rfl (shift_id ?_))
  refine call_can ?_
  refine call_at [0, 1, 2, 3, 4, 5] (do_step L g (oneC 2 2) (oneC_OK _ _) h _ ?_) rfl rfl rfl rfl
  clear g h
  rename_i s _
  repeat (first | (refine condA_true ?_ ?_; focus (first | rfl | (simp; done) | (simp; omega))) | (refine condA_false ?_ ?_; focus (first | rfl | (simp; done) | (simp; omega))))
  refine loop_in [0, 1, 5, 6, 7] [0, 1, 2, 3, 4, 5] [.dat (.int .i64 n), .dat (.int .i64 l), .ptr 0 0, .dat (.int .i64 2), .dat (.int .i64 3)] s.h rfl rfl rfl rfl (hin_cons rfl (hin_cons rfl (hin_cons rfl (hin_cons rfl (hin_cons rfl (hin_cons rfl hin_nil)))))) ?_
  refine loopA_round ok (dr (plOf []) _) ?_
  refine condA_true rfl ?_
  rcases run with _ | ⟨g, h, run⟩
  refine CallA.shift (shift_frz' 6 (u32s [num1 2 3]) rfl rfl (shift_id ?_))
  refine call_can ?_
  refine call_at [0, 1, 2, 3, 4, 5] (do_step L g (oneC 2 3) (oneC_OK _ _) h _ ?_) rfl rfl rfl rfl
  clear g h
  rename_i s _
  repeat (first | (refine condA_true ?_ ?_; focus (first | rfl | (simp; done) | (simp; omega))) | (refine condA_false ?_ ?_; focus (first | rfl | (simp; done) | (simp; omega))))
  refine loop_in [0, 1, 5, 6, 7] [0, 1, 2, 3, 4, 5] [.dat (.int .i64 n), .dat (.int .i64 l), .ptr 0 0, .dat (.int .i64 2), .dat (.int .i64 4)] s.h rfl rfl rfl rfl (hin_cons rfl (hin_cons rfl (hin_cons rfl (hin_cons rfl (hin_cons rfl (hin_cons rfl hin_nil)))))) ?_
  refine loopA_round ok (dr (plOf []) _) ?_
  refine condA_false rfl ?_
  refine loop_in [0, 1, 5, 6] [0, 1, 2, 3, 4, 5] [.dat (.int .i64 n), .dat (.int .i64 l), .ptr 0 0, .dat (.int .i64 3)] s.h rfl rfl rfl rfl (hin_cons rfl (hin_cons rfl (hin_cons rfl (hin_cons rfl (hin_cons rfl (hin_cons rfl hin_nil)))))) ?_
  refine loopA_round ok (dr (plOf []) _) ?_
  refine condA_true rfl ?_
  refine loop_in [0, 1, 5, 6, 7] [0, 1, 2, 3, 4, 5] [.dat (.int .i64 n), .dat (.int .i64 l), .ptr 0 0, .dat (.int .i64 3), .dat (.int .i64 1)] s.h rfl rfl rfl rfl (hin_cons rfl (hin_cons rfl (hin_cons rfl (hin_cons rfl (hin_cons rfl (hin_cons rfl hin_nil)))))) ?_
  refine loopA_round ok (dr (plOf []) _) ?_
  refine condA_true rfl ?_
  rcases run with _ | ⟨g, h, run⟩
  refine CallA.shift (shift_frz' 6 (u32s [num1 3 1]) rfl rfl (shift_id ?_))
  refine call_can ?_
  refine call_at [0, 1, 2, 3, 4, 5] (do_step L g (oneC 3 1) (oneC_OK _ _) h _ ?_) rfl rfl rfl rfl
  clear g h
  rename_i s _
  repeat (first | (refine condA_true ?_ ?_; focus (first | rfl | (simp; done) | (simp; omega))) | (refine condA_false ?_ ?_; focus (first | rfl | (simp; done) | (simp; omega))))
  refine loop_in [0, 1, 5, 6, 7] [0, 1, 2, 3, 4, 5] [.dat (.int .i64 n), .dat (.int .i64 l), .ptr 0 0, .dat (.int .i64 3), .dat (.int .i64 2)] s.h rfl rfl rfl rfl (hin_cons rfl (hin_cons rfl (hin_cons rfl (hin_cons rfl (hin_cons rfl (hin_cons rfl hin_nil)))))) ?_
  refine loopA_round ok (dr (plOf []) _) ?_
  refine condA_true rfl ?_
  rcases run with _ | ⟨g, h, run⟩
  refine CallA.shift (shift_frz' 6 (u32s [num1 3 2]) rfl rfl (shift_id ?_))
  refine call_can ?_
  refine call_at [0, 1, 2, 3, 4, 5] (do_step L g (oneC 3 2) (oneC_OK _ _) h _ ?_) rfl rfl rfl rfl
  clear g h
  rename_i s _
  repeat (first | (refine condA_true ?_ ?_; focus (first | rfl | (simp; done) | (simp; omega))) | (refine condA_false ?_ ?_; focus (first | rfl | (simp; done) | (simp; omega))))
  refine loop_in [0, 1, 5, 6, 7] [0, 1, 2, 3, 4, 5] [.dat (.int .i64 n), .dat (.int .i64 l), .ptr 0 0, .dat (.int .i64 3), .dat (.int .i64 3)] s.h rfl rfl rfl rfl (hin_cons rfl (hin_cons rfl (hin_cons rfl (hin_cons rfl (hin_cons rfl (hin_cons rfl hin_nil)))))) ?_
  refine loopA_round ok (dr (plOf []) _) ?_
  refine condA_true rfl ?_
  rcases run with _ | ⟨g, h, run⟩
  refine CallA.shift (shift_frz' 6 (u32s [num1 3 3]) rfl rfl (shift_id ?_))
  refine call_can ?_
  refine call_at [0, 1, 2, 3, 4, 5] (do_step L g (oneC 3 3) (oneC_OK _ _) h _ ?_) rfl rfl rfl rfl
  clear g h
  rename_i s _
  repeat (first | (refine condA_true ?_ ?_; focus (first | rfl | (simp; done) | (simp; omega))) | (refine condA_false ?_ ?_; focus (first | rfl | (simp; done) | (simp; omega))))
  refine loop_in [0, 1, 5, 6, 7] [0, 1, 2, 3, 4, 5] [.dat (.int .i64 n), .dat (.int .i64 l), .ptr 0 0, .dat (.int .i64 3), .dat (.int .i64 4)] s.h rfl rfl rfl rfl (hin_cons rfl (hin_cons rfl (hin_cons rfl (hin_cons rfl (hin_cons rfl (hin_cons rfl hin_nil)))))) ?_
  refine loopA_round ok (dr (plOf []) _) ?_
  refine condA_false rfl ?_
  refine loop_in [0, 1, 5, 6] [0, 1, 2, 3, 4, 5] [.dat (.int .i64 n), .dat (.int .i64 l), .ptr 0 0, .dat (.int .i64 4)] s.h rfl rfl rfl rfl (hin_cons rfl (hin_cons rfl (hin_cons rfl (hin_cons rfl (hin_cons rfl (hin_cons rfl hin_nil)))))) ?_
  refine loopA_round ok (dr (plOf []) _) ?_
  refine condA_true rfl ?_
  refine loop_in [0, 1, 5, 6, 7] [0, 1, 2, 3, 4, 5] [.dat (.int .i64 n), .dat (.int .i64 l), .ptr 0 0, .dat (.int .i64 4), .dat (.int .i64 1)] s.h rfl rfl rfl rfl (hin_cons rfl (hin_cons rfl (hin_cons rfl (hin_cons rfl (hin_cons rfl (hin_cons rfl hin_nil)))))) ?_
  refine loopA_round ok (dr (plOf []) _) ?_
  refine condA_true rfl ?_
  rcases run with _ | ⟨g, h, run⟩
  refine CallA.shift (shift_frz' 6 (u32s [num1 4 1]) rfl rfl (shift_id ?_))
  refine call_can ?_
  refine call_at [0, 1, 2, 3, 4, 5] (do_step L g (oneC 4 1) (oneC_OK _ _) h _ ?_) rfl rfl rfl rfl
  clear g h
  rename_i s _
  repeat (first | (refine condA_true ?_ ?_; focus (first | rfl | (simp; done) | (simp; omega))) | (refine condA_false ?_ ?_; focus (first | rfl | (simp; done) | (simp; omega))))
  refine loop_in [0, 1, 5, 6, 7] [0, 1, 2, 3, 4, 5] [.dat (.int .i64 n), .dat (.int .i64 l), .ptr 0 0, .dat (.int .i64 4), .dat (.int .i64 2)] s.h rfl rfl rfl rfl (hin_cons rfl (hin_cons rfl (hin_cons rfl (hin_cons rfl (hin_cons rfl (hin_cons rfl hin_nil)))))) ?_
  refine loopA_round ok (dr (plOf []) _) ?_
  refine condA_true rfl ?_
  rcases run with _ | ⟨g, h, run⟩
  refine CallA.shift (shift_frz' 6 (u32s [num1 4 2]) rfl rfl (shift_id ?_))
  refine call_can ?_
  refine call_at [0, 1, 2, 3, 4, 5] (do_step L g (oneC 4 2) (oneC_OK _ _) h _ ?_) rfl rfl rfl rfl
  clear g h
  rename_i s _
  repeat (first | (refine condA_true ?_ ?_; focus (first | rfl | (simp; done) | (simp; omega))) | (refine condA_false ?_ ?_; focus (first | rfl | (simp; done) | (simp; omega))))
  refine loop_in [0, 1, 5, 6, 7] [0, 1, 2, 3, 4, 5] [.dat (.int .i64 n), .dat (.int .i64 l), .ptr 0 0, .dat (.int .i64 4), .dat (.int .i64 3)] s.h rfl rfl rfl rfl (hin_cons rfl (hin_cons rfl (hin_cons rfl (hin_cons rfl (hin_cons rfl (hin_cons rfl hin_nil)))))) ?_
  refine loopA_round ok (dr (plOf []) _) ?_
  refine condA_true rfl ?_
  rcases run with _ | ⟨g, h, run⟩
  refine CallA.shift (shift_frz' 6 (u32s [num1 4 3]) rfl rfl (shift_id ?_))
  refine call_can ?_
  refine call_at [0, 1, 2, 3, 4, 5] (do_step L g (oneC 4 3) (oneC_OK _ _) h _ ?_) rfl rfl rfl rfl
  clear g h
  rename_i s _
  repeat (first | (refine condA_true ?_ ?_; focus (first | rfl | (simp; done) | (simp; omega))) | (refine condA_false ?_ ?_; focus (first | rfl | (simp; done) | (simp; omega))))
  refine loop_in [0, 1, 5, 6, 7] [0, 1, 2, 3, 4, 5] [.dat (.int .i64 n), .dat (.int .i64 l), .ptr 0 0, .dat (.int .i64 4), .dat (.int .i64 4)] s.h rfl rfl rfl rfl (hin_cons rfl (hin_cons rfl (hin_cons rfl (hin_cons rfl (hin_cons rfl (hin_cons rfl hin_nil)))))) ?_
  refine loopA_round ok (dr (plOf []) _) ?_
  refine condA_false rfl ?_
  refine loop_in [0, 1, 5, 6] [0, 1, 2, 3, 4, 5] [.dat (.int .i64 n), .dat (.int .i64 l), .ptr 0 0, .dat (.int .i64 5)] s.h rfl rfl rfl rfl (hin_cons rfl (hin_cons rfl (hin_cons rfl (hin_cons rfl (hin_cons rfl (hin_cons rfl hin_nil)))))) ?_
  refine loopA_round ok (dr (plOf []) _) ?_
  refine condA_true rfl ?_
  refine loop_in [0, 1, 5, 6, 7] [0, 1, 2, 3, 4, 5] [.dat (.int .i64 n), .dat (.int .i64 l), .ptr 0 0, .dat (.int .i64 5), .dat (.int .i64 1)] s.h rfl rfl rfl rfl (hin_cons rfl (hin_cons rfl (hin_cons rfl (hin_cons rfl (hin_cons rfl (hin_cons rfl hin_nil)))))) ?_
  refine loopA_round ok (dr (plOf []) _) ?_
  refine condA_true rfl ?_
  rcases run with _ | ⟨g, h, run⟩
  refine CallA.shift (shift_frz' 6 (u32s [num1 5 1]) rfl rfl (shift_id ?_))
  refine call_can ?_
  refine call_at [0, 1, 2, 3, 4, 5] (do_step L g (oneC 5 1) (oneC_OK _ _) h _ ?_) rfl rfl rfl rfl
  clear g h
  rename_i s _
  repeat (first | (refine condA_true ?_ ?_; focus (first | rfl | (simp; done) | (simp; omega))) | (refine condA_false ?_ ?_; focus (first | rfl | (simp; done) | (simp; omega))))
  refine loop_in [0, 1, 5, 6, 7] [0, 1, 2, 3, 4, 5] [.dat (.int .i64 n), .dat (.int .i64 l), .ptr 0 0, .dat (.int .i64 5), .dat (.int .i64 2)] s.h rfl rfl rfl rfl (hin_cons rfl (hin_cons rfl (hin_cons rfl (hin_cons rfl (hin_cons rfl (hin_cons rfl hin_nil)))))) ?_
  refine loopA_round ok (dr (plOf []) _) ?_
  refine condA_true rfl ?_
  rcases run with _ | ⟨g, h, run⟩
  refine CallA.shift (shift_frz' 6 (u32s [num1 5 2]) rfl rfl (shift_id ?_))
  refine call_can ?_
  refine call_at [0, 1, 2, 3, 4, 5] (do_step L g (oneC 5 2) (oneC_OK _ _) h _ ?_) rfl rfl rfl rfl
  clear g h
  rename_i s _
  repeat (first | (refine condA_true ?_ ?_; focus (first | rfl | (simp; done) | (simp; omega))) | (refine condA_false ?_ ?_; focus (first | rfl | (simp; done) | (simp; omega))))
  refine loop_in [0, 1, 5, 6, 7] [0, 1, 2, 3, 4, 5] [.dat (.int .i64 n), .dat (.int .i64 l), .ptr 0 0, .dat (.int .i64 5), .dat (.int .i64 3)] s.h rfl rfl rfl rfl (hin_cons rfl (hin_cons rfl (hin_cons rfl (hin_cons rfl (hin_cons rfl (hin_cons rfl hin_nil)))))) ?_
  refine loopA_round ok (dr (plOf []) _) ?_
  refine condA_true rfl ?_
  rcases run with _ | ⟨g, h, run⟩
  refine CallA.shift (shift_frz' 6 (u32s [num1 5 3]) rfl rfl (shift_id ?_))
  refine call_can ?_
  refine call_at [0, 1, 2, 3, 4, 5] (do_step L g (oneC 5 3) (oneC_OK _ _) h _ ?_) rfl rfl rfl rfl
  clear g h
  rename_i s _
  repeat (first | (refine condA_true ?_ ?_; focus (first | rfl | (simp; done) | (simp; omega))) | (refine condA_false ?_ ?_; focus (first | rfl | (simp; done) | (simp; omega))))
  refine loop_in [0, 1, 5, 6, 7] [0, 1, 2, 3, 4, 5] [.dat (.int .i64 n), .dat (.int .i64 l), .ptr 0 0, .dat (.int .i64 5), .dat (.int .i64 4)] s.h rfl rfl rfl rfl (hin_cons rfl (hin_cons rfl (hin_cons rfl (hin_cons rfl (hin_cons rfl (hin_cons rfl hin_nil)))))) ?_
  refine loopA_round ok (dr (plOf []) _) ?_
  refine condA_false rfl ?_
  refine loop_in [0, 1, 5, 6] [0, 1, 2, 3, 4, 5] [.dat (.int .i64 n), .dat (.int .i64 l), .ptr 0 0, .dat (.int .i64 6)] s.h rfl rfl rfl rfl (hin_cons rfl (hin_cons rfl (hin_cons rfl (hin_cons rfl (hin_cons rfl (hin_cons rfl hin_nil)))))) ?_
  refine loopA_round ok (dr (plOf []) _) ?_
  refine condA_false rfl ?_
  refine loop_in [0, 1, 5, 10, 11] [0, 1, 2, 3, 4, 5] [.dat (.int .i64 n), .dat (.int .i64 l), .ptr 0 0, .dat (.int .i64 0), .dat (.int .i64 1)] s.h rfl rfl rfl rfl (hin_cons rfl (hin_cons rfl (hin_cons rfl (hin_cons rfl (hin_cons rfl (hin_cons rfl hin_nil)))))) ?_
  refine loopA_round ok (dr (plOf []) _) ?_
  refine condA_true rfl ?_
  refine loop_in [0, 1, 5, 10, 11, 54] [0, 1, 2, 3, 4, 5] [.dat (.int .i64 n), .dat (.int .i64 l), .ptr 0 0, .dat (.int .i64 0), .dat (.int .i64 1), .dat (.int .i64 0)] s.h rfl rfl rfl rfl (hin_cons rfl (hin_cons rfl (hin_cons rfl (hin_cons rfl (hin_cons rfl (hin_cons rfl hin_nil)))))) ?_
  refine loopA_round ok (dr (plOf []) _) ?_
  refine condA_true rfl ?_
  rcases run with _ | ⟨g, h, run⟩
  refine call_can ?_
  refine call_at [0, 1, 2, 3, 4, 5] (do_step L g (subC 0 1 0 0) (subC_OK _ _ _ _) h _ ?_) rfl rfl rfl rfl
  clear g h
  rename_i s _
  repeat (first | (refine condA_true ?_ ?_; focus (first | rfl | (simp; done) | (simp; omega))) | (refine condA_false ?_ ?_; focus (first | rfl | (simp; done) | (simp; omega))))
  refine loop_in [0, 1, 5, 10, 11, 54] [0, 1, 2, 3, 4, 5] [.dat (.int .i64 n), .dat (.int .i64 l), .ptr 0 0, .dat (.int .i64 1), .dat (.int .i64 1), .dat (.int .i64 1)] s.h rfl rfl rfl rfl (hin_cons rfl (hin_cons rfl (hin_cons rfl (hin_cons rfl (hin_cons rfl (hin_cons rfl hin_nil)))))) ?_
  refine loopA_round ok (dr (plOf []) _) ?_
  refine condA_true rfl ?_
  rcases run with _ | ⟨g, h, run⟩
  refine call_can ?_
  refine call_at [0, 1, 2, 3, 4, 5] (do_step L g (subC 0 1 1 0) (subC_OK _ _ _ _) h _ ?_) rfl rfl rfl rfl
  clear g h
  rename_i s _
  repeat (first | (refine condA_true ?_ ?_; focus (first | rfl | (simp; done) | (simp; omega))) | (refine condA_false ?_ ?_; focus (first | rfl | (simp; done) | (simp; omega))))
  refine loop_in [0, 1, 5, 10, 11, 54] [0, 1, 2, 3, 4, 5] [.dat (.int .i64 n), .dat (.int .i64 l), .ptr 0 0, .dat (.int .i64 2), .dat (.int .i64 1), .dat (.int .i64 2)] s.h rfl rfl rfl rfl (hin_cons rfl (hin_cons rfl (hin_cons rfl (hin_cons rfl (hin_cons rfl (hin_cons rfl hin_nil)))))) ?_
  refine loopA_round ok (dr (plOf []) _) ?_
  refine condA_true rfl ?_
  rcases run with _ | ⟨g, h, run⟩
  refine call_can ?_
  refine call_at [0, 1, 2, 3, 4, 5] (do_step L g (subC 0 1 2 0) (subC_OK _ _ _ _) h _ ?_) rfl rfl rfl rfl
  clear g h
  rename_i s _
  repeat (first | (refine condA_true ?_ ?_; focus (first | rfl | (simp; done) | (simp; omega))) | (refine condA_false ?_ ?_; focus (first | rfl | (simp; done) | (simp; omega))))
  refine loop_in [0, 1, 5, 10, 11, 54] [0, 1, 2, 3, 4, 5] [.dat (.int .i64 n), .dat (.int .i64 l), .ptr 0 0, .dat (.int .i64 3), .dat (.int .i64 1), .dat (.int .i64 3)] s.h rfl rfl rfl rfl (hin_cons rfl (hin_cons rfl (hin_cons rfl (hin_cons rfl (hin_cons rfl (hin_cons rfl hin_nil)))))) ?_
  refine loopA_round ok (dr (plOf []) _) ?_
  refine condA_true rfl ?_
  rcases run with _ | ⟨g, h, run⟩
  refine call_can ?_
  refine call_at [0, 1, 2, 3, 4, 5] (do_step L g (subC 0 1 3 0) (subC_OK _ _ _ _) h _ ?_) rfl rfl rfl rfl
  clear g h
  rename_i s _
  repeat (first | (refine condA_true ?_ ?_; focus (first | rfl | (simp; done) | (simp; omega))) | (refine condA_false ?_ ?_; focus (first | rfl | (simp; done) | (simp; omega))))
  refine loop_in [0, 1, 5, 10, 11, 54] [0, 1, 2, 3, 4, 5] [.dat (.int .i64 n), .dat (.int .i64 l), .ptr 0 0, .dat (.int .i64 4), .dat (.int .i64 1), .dat (.int .i64 4)] s.h rfl rfl rfl rfl (hin_cons rfl (hin_cons rfl (hin_cons rfl (hin_cons rfl (hin_cons rfl (hin_cons rfl hin_nil)))))) ?_
  refine loopA_round ok (dr (plOf []) _) ?_
  refine condA_false rfl ?_
  refine loop_in [0, 1, 5, 10, 11] [0, 1, 2, 3, 4, 5] [.dat (.int .i64 n), .dat (.int .i64 l), .ptr 0 0, .dat (.int .i64 4), .dat (.int .i64 2)] s.h rfl rfl rfl rfl (hin_cons rfl (hin_cons rfl (hin_cons rfl (hin_cons rfl (hin_cons rfl (hin_cons rfl hin_nil)))))) ?_
  refine loopA_round ok (dr (plOf []) _) ?_
  refine condA_true rfl ?_
  refine loop_in [0, 1, 5, 10, 11, 54] [0, 1, 2, 3, 4, 5] [.dat (.int .i64 n), .dat (.int .i64 l), .ptr 0 0, .dat (.int .i64 4), .dat (.int .i64 2), .dat (.int .i64 0)] s.h rfl rfl rfl rfl (hin_cons rfl (hin_cons rfl (hin_cons rfl (hin_cons rfl (hin_cons rfl (hin_cons rfl hin_nil)))))) ?_
  refine loopA_round ok (dr (plOf []) _) ?_
  refine condA_true rfl ?_
  rcases run with _ | ⟨g, h, run⟩
  refine call_can ?_
  refine call_at [0, 1, 2, 3, 4, 5] (do_step L g (subC 0 2 0 0) (subC_OK _ _ _ _) h _ ?_) rfl rfl rfl rfl
  clear g h
  rename_i s _
  repeat (first | (refine condA_true ?_ ?_; focus (first | rfl | (simp; done) | (simp; omega))) | (refine condA_false ?_ ?_; focus (first | rfl | (simp; done) | (simp; omega))))
  refine loop_in [0, 1, 5, 10, 11, 54] [0, 1, 2, 3, 4, 5] [.dat (.int .i64 n), .dat (.int .i64 l), .ptr 0 0, .dat (.int .i64 5), .dat (.int .i64 2), .dat (.int .i64 1)] s.h rfl rfl rfl rfl (hin_cons rfl (hin_cons rfl (hin_cons rfl (hin_cons rfl (hin_cons rfl (hin_cons rfl hin_nil)))))) ?_
  refine loopA_round ok (dr (plOf []) _) ?_
  refine condA_true rfl ?_
  rcases run with _ | ⟨g, h, run⟩
  refine call_can ?_
  refine call_at [0, 1, 2, 3, 4, 5] (do_step L g (subC 0 2 1 0) (subC_OK _ _ _ _) h _ ?_) rfl rfl rfl rfl
  clear g h
  rename_i s _
  repeat (first | (refine condA_true ?_ ?_; focus (first | rfl | (simp; done) | (simp; omega))) | (refine condA_false ?_ ?_; focus (first | rfl | (simp; done) | (simp; omega))))
  refine loop_in [0, 1, 5, 10, 11, 54] [0, 1, 2, 3, 4, 5] [.dat (.int .i64 n), .dat (.int .i64 l), .ptr 0 0, .dat (.int .i64 6), .dat (.int .i64 2), .dat (.int .i64 2)] s.h rfl rfl rfl rfl (hin_cons rfl (hin_cons rfl (hin_cons rfl (hin_cons rfl (hin_cons rfl (hin_cons rfl hin_nil)))))) ?_
  refine loopA_round ok (dr (plOf []) _) ?_
  refine condA_true rfl ?_
  rcases run with _ | ⟨g, h, run⟩
  refine call_can ?_
  refine call_at [0, 1, 2, 3, 4, 5] (do_step L g (subC 0 2 2 0) (subC_OK _ _ _ _) h _ ?_) rfl rfl rfl rfl
  clear g h
  rename_i s _
  repeat (first | (refine condA_true ?_ ?_; focus (first | rfl | (simp; done) | (simp; omega))) | (refine condA_false ?_ ?_; focus (first | rfl | (simp; done) | (simp; omega))))
  refine loop_in [0, 1, 5, 10, 11, 54] [0, 1, 2, 3, 4, 5] [.dat (.int .i64 n), .dat (.int .i64 l), .ptr 0 0, .dat (.int .i64 7), .dat (.int .i64 2), .dat (.int .i64 3)] s.h rfl rfl rfl rfl (hin_cons rfl (hin_cons rfl (hin_cons rfl (hin_cons rfl (hin_cons rfl (hin_cons rfl hin_nil)))))) ?_
  refine loopA_round ok (dr (plOf []) _) ?_
  refine condA_true rfl ?_
  rcases run with _ | ⟨g, h, run⟩
  refine call_can ?_
  refine call_at [0, 1, 2, 3, 4, 5] (do_step L g (subC 0 2 3 0) (subC_OK _ _ _ _) h _ ?_) rfl rfl rfl rfl
  clear g h
  rename_i s _
  repeat (first | (refine condA_true ?_ ?_; focus (first | rfl | (simp; done) | (simp; omega))) | (refine condA_false ?_ ?_; focus (first | rfl | (simp; done) | (simp; omega))))
  refine loop_in [0, 1, 5, 10, 11, 54] [0, 1, 2, 3, 4, 5] [.dat (.int .i64 n), .dat (.int .i64 l), .ptr 0 0, .dat (.int .i64 8), .dat (.int .i64 2), .dat (.int .i64 4)] s.h rfl rfl rfl rfl (hin_cons rfl (hin_cons rfl (hin_cons rfl (hin_cons rfl (hin_cons rfl (hin_cons rfl hin_nil)))))) ?_
  refine loopA_round ok (dr (plOf []) _) ?_
  refine condA_false rfl ?_
  refine loop_in [0, 1, 5, 10, 11] [0, 1, 2, 3, 4, 5] [.dat (.int .i64 n), .dat (.int .i64 l), .ptr 0 0, .dat (.int .i64 8), .dat (.int .i64 3)] s.h rfl rfl rfl rfl (hin_cons rfl (hin_cons rfl (hin_cons rfl (hin_cons rfl (hin_cons rfl (hin_cons rfl hin_nil)))))) ?_
  refine loopA_round ok (dr (plOf []) _) ?_
  refine condA_true rfl ?_
  refine loop_in [0, 1, 5, 10, 11, 54] [0, 1, 2, 3, 4, 5] [.dat (.int .i64 n), .dat (.int .i64 l), .ptr 0 0, .dat (.int .i64 8), .dat (.int .i64 3), .dat (.int .i64 0)] s.h rfl rfl rfl rfl (hin_cons rfl (hin_cons rfl (hin_cons rfl (hin_cons rfl (hin_cons rfl (hin_cons rfl hin_nil)))))) ?_
  refine loopA_round ok (dr (plOf []) _) ?_
  refine condA_true rfl ?_
  rcases run with _ | ⟨g, h, run⟩
  refine call_can ?_
  refine call_at [0, 1, 2, 3, 4, 5] (do_step L g (subC 0 3 0 0) (subC_OK _ _ _ _) h _ ?_) rfl rfl rfl rfl
  clear g h
  rename_i s _
  repeat (first | (refine condA_true ?_ ?_; focus (first | rfl | (simp; done) | (simp; omega))) | (refine condA_false ?_ ?_; focus (first | rfl | (simp; done) | (simp; omega))))
  refine loop_in [0, 1, 5, 10, 11, 54] [0, 1, 2, 3, 4, 5] [.dat (.int .i64 n), .dat (.int .i64 l), .ptr 0 0, .dat (.int .i64 9), .dat (.int .i64 3), .dat (.int .i64 1)] s.h rfl rfl rfl rfl (hin_cons rfl (hin_cons rfl (hin_cons rfl (hin_cons rfl (hin_cons rfl (hin_cons rfl hin_nil)))))) ?_
  refine loopA_round ok (dr (plOf []) _) ?_
  refine condA_true rfl ?_
  rcases run with _ | ⟨g, h, run⟩
  refine call_can ?_
  refine call_at [0, 1, 2, 3, 4, 5] (do_step L g (subC 0 3 1 0) (subC_OK _ _ _ _) h _ ?_) rfl rfl rfl rfl
  clear g h
  rename_i s _
  repeat (first | (refine condA_true ?_ ?_; focus (first | rfl | (simp; done) | (simp; omega))) | (refine condA_false ?_ ?_; focus (first | rfl | (simp; done) | (simp; omega))))
  refine loop_in [0, 1, 5, 10, 11, 54] [0, 1, 2, 3, 4, 5] [.dat (.int .i64 n), .dat (.int .i64 l), .ptr 0 0, .dat (.int .i64 10), .dat (.int .i64 3), .dat (.int .i64 2)] s.h rfl rfl rfl rfl (hin_cons rfl (hin_cons rfl (hin_cons rfl (hin_cons rfl (hin_cons rfl (hin_cons rfl hin_nil)))))) ?_
  refine loopA_round ok (dr (plOf []) _) ?_
  refine condA_true rfl ?_
  rcases run with _ | ⟨g, h, run⟩
  refine call_can ?_
  refine call_at [0, 1, 2, 3, 4, 5] (do_step L g (subC 0 3 2 0) (subC_OK _ _ _ _) h _ ?_) rfl rfl rfl rfl
  clear g h
  rename_i s _
  repeat (first | (refine condA_true ?_ ?_; focus (first | rfl | (simp; done) | (simp; omega))) | (refine condA_false ?_ ?_; focus (first | rfl | (simp; done) | (simp; omega))))
  refine loop_in [0, 1, 5, 10, 11, 54] [0, 1, 2, 3, 4, 5] [.dat (.int .i64 n), .dat (.int .i64 l), .ptr 0 0, .dat (.int .i64 11), .dat (.int .i64 3), .dat (.int .i64 3)] s.h rfl rfl rfl rfl (hin_cons rfl (hin_cons rfl (hin_cons rfl (hin_cons rfl (hin_cons rfl (hin_cons rfl hin_nil)))))) ?_
  refine loopA_round ok (dr (plOf []) _) ?_
  refine condA_true rfl ?_
  rcases run with _ | ⟨g, h, run⟩
  refine call_can ?_
  refine call_at [0, 1, 2, 3, 4, 5] (do_step L g (subC 0 3 3 0) (subC_OK _ _ _ _) h _ ?_) rfl rfl rfl rfl
  clear g h
  rename_i s _
  repeat (first | (refine condA_true ?_ ?_; focus (first | rfl | (simp; done) | (simp; omega))) | (refine condA_false ?_ ?_; focus (first | rfl | (simp; done) | (simp; omega))))
  refine loop_in [0, 1, 5, 10, 11, 54] [0, 1, 2, 3, 4, 5] [.dat (.int .i64 n), .dat (.int .i64 l), .ptr 0 0, .dat (.int .i64 12), .dat (.int .i64 3), .dat (.int .i64 4)] s.h rfl rfl rfl rfl (hin_cons rfl (hin_cons rfl (hin_cons rfl (hin_cons rfl (hin_cons rfl (hin_cons rfl hin_nil)))))) ?_
  refine loopA_round ok (dr (plOf []) _) ?_
  refine condA_false rfl ?_
  refine loop_in [0, 1, 5, 10, 11] [0, 1, 2, 3, 4, 5] [.dat (.int .i64 n), .dat (.int .i64 l), .ptr 0 0, .dat (.int .i64 12), .dat (.int .i64 4)] s.h rfl rfl rfl rfl (hin_cons rfl (hin_cons rfl (hin_cons rfl (hin_cons rfl (hin_cons rfl (hin_cons rfl hin_nil)))))) ?_
  refine loopA_round ok (dr (plOf []) _) ?_
  refine condA_true rfl ?_
  refine loop_in [0, 1, 5, 10, 11, 54] [0, 1, 2, 3, 4, 5] [.dat (.int .i64 n), .dat (.int .i64 l), .ptr 0 0, .dat (.int .i64 12), .dat (.int .i64 4), .dat (.int .i64 0)] s.h rfl rfl rfl rfl (hin_cons rfl (hin_cons rfl (hin_cons rfl (hin_cons rfl (hin_cons rfl (hin_cons rfl hin_nil)))))) ?_
  refine loopA_round ok (dr (plOf []) _) ?_
  refine condA_true rfl ?_
  rcases run with _ | ⟨g, h, run⟩
  refine call_can ?_
  refine call_at [0, 1, 2, 3, 4, 5] (do_step L g (subC 0 4 0 0) (subC_OK _ _ _ _) h _ ?_) rfl rfl rfl rfl
  clear g h
  rename_i s _
  repeat (first | (refine condA_true ?_ ?_; focus (first | rfl | (simp; done) | (simp; omega))) | (refine condA_false ?_ ?_; focus (first | rfl | (simp; done) | (simp; omega))))
  refine loop_in [0, 1, 5, 10, 11, 54] [0, 1, 2, 3, 4, 5] [.dat (.int .i64 n), .dat (.int .i64 l), .ptr 0 0, .dat (.int .i64 13), .dat (.int .i64 4), .dat (.int .i64 1)] s.h rfl rfl rfl rfl (hin_cons rfl (hin_cons rfl (hin_cons rfl (hin_cons rfl (hin_cons rfl (hin_cons rfl hin_nil)))))) ?_
  refine loopA_round ok (dr (plOf []) _) ?_
  refine condA_true rfl ?_
  rcases run with _ | ⟨g, h, run⟩
  refine call_can ?_
  refine call_at [0, 1, 2, 3, 4, 5] (do_step L g (subC 0 4 1 0) (subC_OK _ _ _ _) h _ ?_) rfl rfl rfl rfl
  clear g h
  rename_i s _
  repeat (first | (refine condA_true ?_ ?_; focus (first | rfl | (simp; done) | (simp; omega))) | (refine condA_false ?_ ?_; focus (first | rfl | (simp; done) | (simp; omega))))
  refine loop_in [0, 1, 5, 10, 11, 54] [0, 1, 2, 3, 4, 5] [.dat (.int .i64 n), .dat (.int .i64 l), .ptr 0 0, .dat (.int .i64 14), .dat (.int .i64 4), .dat (.int .i64 2)] s.h rfl rfl rfl rfl (hin_cons rfl (hin_cons rfl (hin_cons rfl (hin_cons rfl (hin_cons rfl (hin_cons rfl hin_nil)))))) ?_
  refine loopA_round ok (dr (plOf []) _) ?_
  refine condA_true rfl ?_
  rcases run with _ | ⟨g, h, run⟩
  refine call_can ?_
  refine call_at [0, 1, 2, 3, 4, 5] (do_step L g (subC 0 4 2 0) (subC_OK _ _ _ _) h _ ?_) rfl rfl rfl rfl
  clear g h
  rename_i s _
  repeat (first | (refine condA_true ?_ ?_; focus (first | rfl | (simp; done) | (simp; omega))) | (refine condA_false ?_ ?_; focus (first | rfl | (simp; done) | (simp; omega))))
  refine loop_in [0, 1, 5, 10, 11, 54] [0, 1, 2, 3, 4, 5] [.dat (.int .i64 n), .dat (.int .i64 l), .ptr 0 0, .dat (.int .i64 15), .dat (.int .i64 4), .dat (.int .i64 3)] s.h rfl rfl rfl rfl (hin_cons rfl (hin_cons rfl (hin_cons rfl (hin_cons rfl (hin_cons rfl (hin_cons rfl hin_nil)))))) ?_
  refine loopA_round ok (dr (plOf []) _) ?_
  refine condA_true rfl ?_
  rcases run with _ | ⟨g, h, run⟩
  refine call_can ?_
  refine call_at [0, 1, 2, 3, 4, 5] (do_step L g (subC 0 4 3 0) (subC_OK _ _ _ _) h _ ?_) rfl rfl rfl rfl
  clear g h
  rename_i s _
  repeat (first | (refine condA_true ?_ ?_; focus (first | rfl | (simp; done) | (simp; omega))) | (refine condA_false ?_ ?_; focus (first | rfl | (simp; done) | (simp; omega))))
  refine loop_in [0, 1, 5, 10, 11, 54] [0, 1, 2, 3, 4, 5] [.dat (.int .i64 n), .dat (.int .i64 l), .ptr 0 0, .dat (.int .i64 16), .dat (.int .i64 4), .dat (.int .i64 4)] s.h rfl rfl rfl rfl (hin_cons rfl (hin_cons rfl (hin_cons rfl (hin_cons rfl (hin_cons rfl (hin_cons rfl hin_nil)))))) ?_
  refine loopA_round ok (dr (plOf []) _) ?_
  refine condA_false rfl ?_
  refine loop_in [0, 1, 5, 10, 11] [0, 1, 2, 3, 4, 5] [.dat (.int .i64 n), .dat (.int .i64 l), .ptr 0 0, .dat (.int .i64 16), .dat (.int .i64 5)] s.h rfl rfl rfl rfl (hin_cons rfl (hin_cons rfl (hin_cons rfl (hin_cons rfl (hin_cons rfl (hin_cons rfl hin_nil)))))) ?_
  refine loopA_round ok (dr (plOf []) _) ?_
  refine condA_true rfl ?_
  refine loop_in [0, 1, 5, 10, 11, 54] [0, 1, 2, 3, 4, 5] [.dat (.int .i64 n), .dat (.int .i64 l), .ptr 0 0, .dat (.int .i64 16), .dat (.int .i64 5), .dat (.int .i64 0)] s.h rfl rfl rfl rfl (hin_cons rfl (hin_cons rfl (hin_cons rfl (hin_cons rfl (hin_cons rfl (hin_cons rfl hin_nil)))))) ?_
  refine loopA_round ok (dr (plOf []) _) ?_
  refine condA_true rfl ?_
  rcases run with _ | ⟨g, h, run⟩
  refine call_can ?_
  refine call_at [0, 1, 2, 3, 4, 5] (do_step L g (subC 0 5 0 0) (subC_OK _ _ _ _) h _ ?_) rfl rfl rfl rfl
  clear g h
  rename_i s _
  repeat (first | (refine condA_true ?_ ?_; focus (first | rfl | (simp; done) | (simp; omega))) | (refine condA_false ?_ ?_; focus (first | rfl | (simp; done) | (simp; omega))))
  refine loop_in [0, 1, 5, 10, 11, 54] [0, 1, 2, 3, 4, 5] [.dat (.int .i64 n), .dat (.int .i64 l), .ptr 0 0, .dat (.int .i64 17), .dat (.int .i64 5), .dat (.int .i64 1)] s.h rfl rfl rfl rfl (hin_cons rfl (hin_cons rfl (hin_cons rfl (hin_cons rfl (hin_cons rfl (hin_cons rfl hin_nil)))))) ?_
  refine loopA_round ok (dr (plOf []) _) ?_
  refine condA_true rfl ?_
  rcases run with _ | ⟨g, h, run⟩
  refine call_can ?_
  refine call_at [0, 1, 2, 3, 4, 5] (do_step L g (subC 0 5 1 0) (subC_OK _ _ _ _) h _ ?_) rfl rfl rfl rfl
  clear g h
  rename_i s _
  repeat (first | (refine condA_true ?_ ?_; focus (first | rfl | (simp; done) | (simp; omega))) | (refine condA_false ?_ ?_; focus (first | rfl | (simp; done) | (simp; omega))))
  refine loop_in [0, 1, 5, 10, 11, 54] [0, 1, 2, 3, 4, 5] [.dat (.int .i64 n), .dat (.int .i64 l), .ptr 0 0, .dat (.int .i64 18), .dat (.int .i64 5), .dat (.int .i64 2)] s.h rfl rfl rfl rfl (hin_cons rfl (hin_cons rfl (hin_cons rfl (hin_cons rfl (hin_cons rfl (hin_cons rfl hin_nil)))))) ?_
  refine loopA_round ok (dr (plOf []) _) ?_
  refine condA_true rfl ?_
  rcases run with _ | ⟨g, h, run⟩
  refine call_can ?_
  refine call_at [0, 1, 2, 3, 4, 5] (do_step L g (subC 0 5 2 0) (subC_OK _ _ _ _) h _ ?_) rfl rfl rfl rfl
  clear g h
  rename_i s _
  repeat (first | (refine condA_true ?_ ?_; focus (first | rfl | (simp; done) | (simp; omega))) | (refine condA_false ?_ ?_; focus (first | rfl | (simp; done) | (simp; omega))))
  refine loop_in [0, 1, 5, 10, 11, 54] [0, 1, 2, 3, 4, 5] [.dat (.int .i64 n), .dat (.int .i64 l), .ptr 0 0, .dat (.int .i64 19), .dat (.int .i64 5), .dat (.int .i64 3)] s.h rfl rfl rfl rfl (hin_cons rfl (hin_cons rfl (hin_cons rfl (hin_cons rfl (hin_cons rfl (hin_cons rfl hin_nil)))))) ?_
  refine loopA_round ok (dr (plOf []) _) ?_
  refine condA_true rfl ?_
  rcases run with _ | ⟨g, h, run⟩
  refine call_can ?_
  refine call_at [0, 1, 2, 3, 4, 5] (do_step L g (subC 0 5 3 0) (subC_OK _ _ _ _) h _ ?_) rfl rfl rfl rfl
  clear g h
  rename_i s _
  repeat (first | (refine condA_true ?_ ?_; focus (first | rfl | (simp; done) | (simp; omega))) | (refine condA_false ?_ ?_; focus (first | rfl | (simp; done) | (simp; omega))))
  refine loop_in [0, 1, 5, 10, 11, 54] [0, 1, 2, 3, 4, 5] [.dat (.int .i64 n), .dat (.int .i64 l), .ptr 0 0, .dat (.int .i64 20), .dat (.int .i64 5), .dat (.int .i64 4)] s.h rfl rfl rfl rfl (hin_cons rfl (hin_cons rfl (hin_cons rfl (hin_cons rfl (hin_cons rfl (hin_cons rfl hin_nil)))))) ?_
  refine loopA_round ok (dr (plOf []) _) ?_
  refine condA_false rfl ?_
  refine loop_in [0, 1, 5, 10, 11] [0, 1, 2, 3, 4, 5] [.dat (.int .i64 n), .dat (.int .i64 l), .ptr 0 0, .dat (.int .i64 20), .dat (.int .i64 6)] s.h rfl rfl rfl rfl (hin_cons rfl (hin_cons rfl (hin_cons rfl (hin_cons rfl (hin_cons rfl (hin_cons rfl hin_nil)))))) ?_
  refine loopA_round ok (dr (plOf []) _) ?_
  refine condA_false rfl ?_
  cases run
  have lst := full_at last n l
  have gz := good.next (by decide) (subC 0 (pickP n) (pickT n) (pickL l))
  have dz := doM_up good.up (subC 0 (pickP n) (pickT n) (pickL l))
  unfold fullP at lst
  dsimp only at lst
  generalize doP z (subC 0 (pickP n) (pickT n) (pickL l)) = r at lst gz dz
  obtain ⟨⟨r1, r2⟩, q⟩ := r
  dsimp only at lst gz
  simp only [Bool.and_eq_true, beq_iff_eq, decide_eq_true_eq] at lst
  obtain ⟨⟨k1, k2⟩, k3⟩ := lst
  subst k1
  have hl := links_length q
  rw [k3] at hl
  refine req (by decide) ?_
  refine req (by decide) ?_
  refine req (by decide) ?_
  refine req (by decide) ?_
  refine call_can ?_
  refine call_at [0, 1, 2, 3, 4, 5] (do_step L good.ok (subC 0 (pickP n) (pickT n) (pickL l)) (subC_OK _ _ _ _) dz _ ?_) rfl rfl rfl rfl
  refine call_can ?_
  refine call_at [0, 1, 2, 3, 4, 5] (sub_ok q ⟨0, pickP n, pickT n⟩ _ ?_) rfl rfl rfl rfl
  simp only [subR, k2]
  repeat (first | (refine condA_true ?_ ?_; focus (first | rfl | exact beq_self_eq_true (pickL l))) | (refine condA_false ?_ ?_; focus rfl))
  refine call_at [0, 1, 2, 3, 4, 5] (links_ok q gz.ok _ ?_) rfl rfl rfl rfl
  cases hx : q.links with
  | nil => rw [hx] at hl; cases hl
  | cons x xs =>
    rw [hx] at hl
    have e : ((((x :: xs).length : Nat) : Int) == 16) = true := by rw [hl]; rfl
    rw [← e] at hk
    repeat (first | (refine condA_true ?_ ?_; focus (first | rfl | exact beq_self_eq_true (pickL l))) | (refine condA_false ?_ ?_; focus rfl))
    exact leaf [] (.dat (.bool ((((x :: xs).length : Nat) : Int) == 16))) [] rfl rfl rfl rfl rfl hk
end Go.Abs.X

namespace Go.Abs.X
open Go.Abs Go Go.Proofs Go.Proofs.YtbbpedjbfgcdoaaGreatDoor
open Go.ChangeShapes Go.WideShapes Go.ChangeAt Go.RowKit Go.Shelf Go.Lib

theorem own : ownKnob Tryz.prog.godebug = none := by kernel_rfl
noncomputable def laidW (os : Os) : World := World.laidAll Tryz.prog os laidL
theorem laidW_met (os : Os) (args : Array Value) : laidMetH Tryz.prog laidL ((laidW os).forCall (fun _ _ => 0) ⟨#[], args, []⟩).memory := by
  rw [MakeChecks.laidMetH_plain _ _ _ (by kernel_rfl)]
  exact laidMet_laidAll _ (by kernel_rfl) (by kernel_rfl)
theorem full_calls {W : World} (h : laidMetH Tryz.prog laidL W) (n l : Int) : Calls Tryz.prog 4 #[.int .i64 n, .int .i64 l] W fun e w' => e = .returned (.bool true) ∧ Below W.heap.size W w' := by
  have c := full_walk (laid_of h) n l (fun a h => a = .dat (.bool true) ∧ h = []) ⟨rfl, rfl⟩
  refine (calls_of_callA (cx := cx W) rfl (Nat.zero_le _) (fun _ => rfl) (args := [.int .i64 n, .int .i64 l]) rfl (by simp [RelDs, RelD]) c).mono ?_
  rintro e w' ⟨v, a, h', s', he, ⟨ha, hh⟩, hr, hw, hb, _⟩
  subst ha
  simp only [Rel, RelD] at hr
  subst hr
  exact ⟨he, hb⟩
theorem full_reads (os : Os) {H : Type} (enc : TypeId × Value → H) : ∃ places, DataW.whole enc Tryz.prog ((laidW os).forCall (fun _ _ => 0) ⟨#[], #[.int .i64 0, .int .i64 0], []⟩).memory Tryz.f4.params.toList Rows.accessFullSpec.vars false #[Value.int .i64 0, .int .i64 0].toList 8 = some ([.lit (.int .i64 0), .lit (.int .i64 0)], [], places) :=
  ⟨[], by kernel_rfl⟩
set_option maxRecDepth 100000 in
theorem full_lifted (os : Os) (started : os.Started) (H : Type) (enc : TypeId × Value → H) (F : Stop.Interp) :
    ReturnsInHanded {} Tryz.checked os 4 .any ((OpenSpec.ofChange Rows.accessFullSpec).preRow enc Tryz.prog Tryz.f4 Rows.accessFullRow.domain false Rows.accessFullRow.laid) (((OpenSpec.ofChange Rows.accessFullSpec).at F).post enc Tryz.prog Tryz.f4 false true false false) := by
  obtain ⟨places, hx⟩ := full_reads os enc
  refine returnsInHanded_of_row (C := Tryz.checked) (s := OpenSpec.ofChange Rows.accessFullSpec) own started (by kernel_rfl) Tryz.func4
    (witness_row_atRef (enc := enc) (C := Tryz.checked) false (laidW os) #[.int .i64 0, .int .i64 0] (World.laidAll_os _ _ _) (by kernel_rfl) (by kernel_rfl) (by kernel_rfl)
      (OpenSpec.preRow_of_cond 8 hx (by kernel_rfl) (fun k hk => by cases hk) (by kernel_rfl) (laidW_met os _))) ?_
  intro W base args ds gs before hval0 hW _ _ _ hL _ _
  have hval : ∀ (j : Nat) t v, Tryz.f4.params[j]? = some t → args[j]? = some v → Value.okWide Tryz.prog W .any base t v := hval0
  have hW' := hW
  obtain ⟨p, q, hA0, hV, rfl, _, _⟩ := hW
  have hA : DataW.TrodAll enc Tryz.prog W 0 (fun _ => true) true Tryz.f4.params.toList args.toList ds p := hA0
  rw [Tryz.params4] at hA hval
  obtain ⟨v0, vs0, d0, ds0, p0, q0, hargs, rfl, rfl, h0, r0⟩ := trodAll_cons hA
  obtain ⟨v1, vs1, d1, ds1, p1, q1, hargs1, rfl, rfl, h1, r1⟩ := trodAll_cons r0
  obtain ⟨rfl, rfl, rfl⟩ := trodAll_nil r1
  subst hargs1
  obtain rfl : args = #[v0, v1] := by apply Array.ext'; exact hargs
  obtain ⟨rfl, rfl⟩ := trodVars_none hV
  obtain ⟨n, rfl, rfl, rfl, wn⟩ := open_int Tryz.underlying3 (hval 0 3 v0 rfl rfl) h0
  obtain ⟨l, rfl, rfl, rfl, wl⟩ := open_int Tryz.underlying3 (hval 1 3 v1 rfl rfl) h1
  simp only [List.append_nil] at hW'
  refine (full_calls hL n l).mono fun e W' ⟨he, hb⟩ => ?_
  subst he
  exact ⟨_, rfl, _, _, _, [], [], [], hW', trodAll_mk1 (shut_bool Tryz.underlying4 _), trodAll_cons_mk (shut_int Tryz.underlying3 wn) (trodAll_mk1 (shut_int Tryz.underlying3 wl)), rfl, hb.frame _, fun h => by cases h⟩
theorem full_said : Rows.AccessFullSaid :=
  OpenClaim.holds_of_cond 4 Tryz.f4 rfl rfl rfl rfl rfl rfl rfl ⟨rfl, rfl, rfl, rfl, rfl⟩ rfl rfl rfl rfl rfl (by kernel_rfl) Tryz.func4 (by kernel_rfl)
    (of_decide_eq_true (by kernel_rfl)) (by unfold Func.isWrapper; first | (rw [if_pos (by decide +kernel)]; kernel_rfl) | (rw [if_neg (by decide +kernel)]; exact ⟨rfl, rfl⟩))
    (fun os started H enc _ F => by rw [OpenClaim.pre_eq_preRow]; exact full_lifted os started H enc F)
theorem full_plain (f : FuncId) (fn : Func) (hf : Tryz.pinned.checked.prog.funcNamed "antiphon/antiphonlaw13.AccessFull" = some f) (hfn : Tryz.pinned.checked.prog.funcs[f]? = some fn) :
    true = Tryz.pinned.checked.prog.looks [] ∧ ∀ (j : Nat) t, fn.params[j]? = some t → Tryz.pinned.checked.prog.wantsStandIn t = false := by
  obtain rfl : f = 4 := Option.some.inj ((show Tryz.prog.funcNamed "antiphon/antiphonlaw13.AccessFull" = some 4 by kernel_rfl).symm.trans hf) |>.symm
  obtain rfl : fn = Tryz.f4 := (Option.some.inj (Tryz.func4.symm.trans hfn)).symm
  refine ⟨by kernel_rfl, fun j t ht => ?_⟩
  rw [Tryz.params4] at ht
  obtain rfl : t = 3 := by
    have hm : t ∈ [3, 3] := by simpa using Array.mem_of_getElem? ht
    simpa using hm
  exact (show Tryz.prog.wantsStandIn 3 = false by kernel_rfl)
theorem full_card : Rows.AccessFullCardSaid :=
  Claim7.holds_tied_plain_at .later [] _ _ _ _ full_said (fun _ h => by cases h) (by kernel_rfl) (fun _ h => by cases h) accessFull_row_tie rfl ⟨rfl, rfl⟩ (by kernel_rfl) rfl full_plain (by kernel_rfl)
end Go.Abs.X
namespace Go.Proofs.YtbbpedjbfgcdoaaGreatDoor
theorem accessFull_holds : Rows.AccessFullCardSaid := Go.Abs.X.full_card
end Go.Proofs.YtbbpedjbfgcdoaaGreatDoor
