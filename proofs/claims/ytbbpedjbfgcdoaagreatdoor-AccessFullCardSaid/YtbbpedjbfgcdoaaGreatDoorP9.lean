/- A part of the proof behind the last text of this folder: B9, Z1. -/
import Derived.Test.YtbbpedjbfgcdoaaGreatDoorP8
import Derived.Test.YtbbpedjbfgcdoaaGreatDoorP7
import Derived.Test.YtbbpedjbfgcdoaaGreatDoorCards
import Derived.Test.YtbbpedjbfgcdoaaGreatDoorTie
import Derived.WalkKit
import Derived.ProofKit
import Derived.OpenShut
import Derived.Deep.DeepHandedRow
import Derived.Deep.DeepWitnessRowRef
import Derived.Lib.LaidTab
import Derived.Lib.LaidRTab
import Derived.Lib.LaidCase
import Derived.PinnedBridge
import Derived.Lay
import Derived.LaidOnce
import Derived.SevenTiedAt
set_option linter.unusedSimpArgs false
set_option linter.unusedSectionVars false

namespace Go.Abs.X
open Go.Abs Go Go.Proofs
variable {w0 : World}

theorem subC_OK (p o t l : Int) : (subC p o t l).OK := ⟨Nat.le_of_ble_eq_true rfl, Nat.le_of_ble_eq_true rfl, Sl.nil, Nat.le_of_ble_eq_true rfl⟩
theorem leaveC_OK (p : Int) : (leaveC p).OK := ⟨Nat.le_of_ble_eq_true rfl, Nat.le_of_ble_eq_true rfl, Sl.nil, Nat.le_of_ble_eq_true rfl⟩
theorem links_length (s : St) : s.links.length = s.subs.length := by simp [St.links, sortL]
set_option maxHeartbeats 2000000 in
theorem awake_ok (L : Laid w0) (K : AV → Heap → Prop) (hk : K (.dat (.bool true)) []) : CallA (cx w0) 17 [] [] K := by
  have key := awakeP_true
  unfold awakeP at key
  obtain ⟨e0, g0⟩ := hall_eq 2 (by omega)
  rw [← e0] at key
  have g1 := g0.next (by omega) (subC 1 0 0 0)
  have g2 := g1.next (by omega) (leaveC 0)
  have d0 := doM_up g0.up (subC 1 0 0 0)
  have d1 := doM_up g1.up (leaveC 0)
  refine CallA.ret ?_
  refine CallA.enter ok (dr (plOf [])) Tryz.func17 Tryz.call17 ?_
  refine call_at [] (hall_ok L 2 _ (fun m hm => ?_)) rfl rfl rfl rfl
  obtain rfl : m = 2 := by have : clip 2 = 2 := by decide
                           omega
  generalize hallM 2 = a0 at *
  clear e0
  dsimp only at key
  generalize doP a0 (subC 1 0 0 0) = r1 at key g1 g2 d0 d1
  obtain ⟨⟨n1, x1⟩, s1⟩ := r1
  dsimp only at key g1 g2 d1
  generalize doP s1 (leaveC 0) = r2 at key g2 d1
  obtain ⟨⟨n2, x2⟩, s2⟩ := r2
  dsimp only at key g2
  simp only [Bool.and_eq_true, beq_iff_eq, decide_eq_true_eq] at key
  obtain ⟨⟨⟨⟨k1, k2⟩, k3⟩, k4⟩, k5⟩ := key
  have l1 := links_length s1
  have l2 := links_length s2
  rw [k4] at l1
  rw [k5] at l2
  subst k2
  repeat (first | (refine condA_true ?_ ?_; focus (first | rfl | (simp; done) | (simp; omega))) | (refine condA_false ?_ ?_; focus (first | rfl | (simp; done) | (simp; omega))))
  refine call_at [1, 5] (len_ok a0.t _ ?_) rfl rfl rfl rfl
  rw [k1]
  repeat (first | (refine condA_true ?_ ?_; focus (first | rfl | (simp; done) | (simp; omega))) | (refine condA_false ?_ ?_; focus (first | rfl | (simp; done) | (simp; omega))))
  refine call_can ?_
  refine call_at [0, 1, 2, 3, 4, 5] (do_ok L a0 g0.ok (subC 1 0 0 0) (subC_OK _ _ _ _) _ ?_) rfl rfl rfl rfl
  rw [d0]
  dsimp only
  refine call_at [0, 1, 2, 3, 4, 5] (source_ok s1 2 _ ?_) rfl rfl rfl rfl
  simp only [srcR, k3]
  refine call_at [0, 1, 2, 3, 4, 5] (links_ok s1 g1.ok _ ?_) rfl rfl rfl rfl
  obtain ⟨x, hx⟩ := List.length_eq_one_iff.1 l1
  rw [hx]
  refine call_can ?_
  refine call_at [0, 1, 2, 3, 4, 5] (do_ok L s1 g1.ok (leaveC 0) (leaveC_OK _) _ ?_) rfl rfl rfl rfl
  rw [d1]
  dsimp only
  repeat (first | (refine condA_true ?_ ?_; focus (first | rfl | (simp; done) | (simp; omega))) | (refine condA_false ?_ ?_; focus (first | rfl | (simp; done) | (simp; omega))))
  refine call_at [0, 1, 2, 3, 4, 5] (links_ok s2 g2.ok _ ?_) rfl rfl rfl rfl
  rw [List.eq_nil_of_length_eq_zero l2]
  repeat (first | (refine condA_true ?_ ?_; focus (first | rfl | (simp; done) | (simp; omega))) | (refine condA_false ?_ ?_; focus (first | rfl | (simp; done) | (simp; omega))))
  exact leaf [] (.dat (.bool true)) [] rfl rfl rfl rfl rfl hk
end Go.Abs.X

namespace Go.Abs.X
open Go.Abs Go Go.Proofs Go.Proofs.YtbbpedjbfgcdoaaGreatDoor
open Go.RowKit Go.Shelf Go.Lib

/-- what the rows of this seat list -/
def laidL : List (String × DataW Unit) := [("unicode.properties", Rows.laid_unicode_properties), ("unicode.CaseRanges", Rows.laid_unicode_CaseRanges), ("unicode.Digit", Rows.laid_unicode_Digit), ("unicode.Letter", Rows.laid_unicode_Letter)]
theorem xR : RExtra Tryz.prog Tryz.lays198_ren := ⟨by kernel_rfl, by kernel_rfl, by kernel_rfl, by kernel_rfl, by kernel_rfl, by kernel_rfl, by kernel_rfl, by kernel_rfl⟩
theorem xC : CaseExtra Tryz.prog Tryz.lays204_ren := ⟨by kernel_rfl, by kernel_rfl, by kernel_rfl, by kernel_rfl, by kernel_rfl, by kernel_rfl⟩
theorem props_eq : (Rows.laid_unicode_properties : DataW Unit) = tabData .u8 Lib.propertiesTab := by kernel_rfl
theorem laid_of {W : World} (h : laidMetH Tryz.prog laidL W) : Laid W := by
  rw [MakeChecks.laidMetH_plain _ _ _ (by kernel_rfl)] at h
  refine ⟨?_, ?_, ?_, ?_⟩
  · unfold laidL at h
    rw [props_eq] at h
    exact tabIs_of_head (by kernel_rfl) (by kernel_rfl) (g := 0) (t := 239) (e := 5) (n := 256) (by kernel_rfl) (by kernel_rfl) (by kernel_rfl) (by kernel_rfl) h
  · exact rvar_of_reads { Tryz.lays198 with } xR (by kernel_rfl) (by kernel_rfl) ((show Rows.laid_unicode_Letter = rtabData letterT from Pinned.letter_eq) ▸ Lib.laidMet.reads h (.tail _ (.tail _ (.tail _ (.head _)))))
  · exact rvar_of_reads { Tryz.lays198 with } xR (by kernel_rfl) (by kernel_rfl) ((show Rows.laid_unicode_Digit = rtabData digitT from Pinned.digit_eq) ▸ Lib.laidMet.reads h (.tail _ (.tail _ (.head _))))
  · exact caseVar_of_reads { Tryz.lays204 with } Tryz.lays204.t206 xC ((show Rows.laid_unicode_CaseRanges = caseData from Pinned.caseRanges_eq) ▸ Lib.laidMet.reads h (.tail _ (.head _)))
end Go.Abs.X
