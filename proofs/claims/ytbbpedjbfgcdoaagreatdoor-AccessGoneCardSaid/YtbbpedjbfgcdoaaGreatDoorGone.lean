/- The law AccessGone of package antiphonlaw13 answers true at every input, and leaves its arguments as they were. Conditions: the package variables that the row lists hold what the program's text lays (the card ties them). -/
import Derived.Test.YtbbpedjbfgcdoaaGreatDoorP8
import Derived.Test.YtbbpedjbfgcdoaaGreatDoorP9
set_option linter.unusedSimpArgs false
set_option linter.unusedSectionVars false

namespace Go.Abs.X
open Go.Abs Go Go.Proofs

def num1 (i t : Nat) : Int := IntKind.u32.wrap (IntKind.i64.wrap (IntKind.i64.wrap (1000 + IntKind.i64.wrap (10 * i)) + t))
def oneC (i t : Nat) : Cmd := ⟨3, .empty, .empty, i, 0, t, 0, false, false, [num1 i t], .ros (u32s [num1 i t]) 1 (some 1)⟩
theorem oneC_OK (i t : Nat) : (oneC i t).OK := ⟨Nat.le_of_ble_eq_true rfl, Nat.le_of_ble_eq_true rfl, Sl.ros [num1 i t] (some 1), Nat.le_of_ble_eq_true rfl⟩
def onesC : List Cmd := [1, 2, 3, 4, 5].flatMap fun i => [1, 2, 3].map fun t => oneC i t
def wantC : List Cmd := [1, 2, 3, 4, 5].flatMap fun i => [0, 1, 2, 3].map fun t => subC 0 i t 0
def fullS : List Int × St := runP St.none (hallCs 6 ++ (onesC ++ wantC))
def fullP (s : St) (p t l : Int) : Bool :=
  let r := doP s (subC 0 p t l)
  (r.1.2 == 0) && decide (lk r.2.subs ⟨0, p, t⟩ = some (l, false)) && r.2.subs.length == 16
theorem full_codes : fullS.1 = List.replicate 27 0 ++ (List.replicate 16 0 ++ List.replicate 4 11) := by decide +kernel
theorem full_last : ([1, 2, 3, 4].all fun p => [0, 1, 2, 3].all fun t => [0, 1, 2].all fun l => fullP fullS.2 p t l) = true := by decide +kernel
def and255 (n : Int) : Int := IntKind.i64.wrap (BitVec.ofInt IntKind.i64.bits n &&& BitVec.ofInt IntKind.i64.bits 255).toNat
theorem and255_nat (n : Int) : ∃ a : Nat, a < 256 ∧ and255 n = a := by
  have h : (BitVec.ofInt 64 n &&& BitVec.ofInt 64 255).toNat ≤ 255 := by
    rw [BitVec.toNat_and]
    exact Nat.le_trans Nat.and_le_right (by decide)
  refine ⟨(BitVec.ofInt 64 n &&& BitVec.ofInt 64 255).toNat, by omega, ?_⟩
  show IntKind.i64.wrap ((BitVec.ofInt 64 n &&& BitVec.ofInt 64 255).toNat : Int) = _
  exact wrap_i64 _ (by omega) (by omega)
def pickP (n : Int) : Int := IntKind.i64.wrap (1 + IntKind.i64.wrap (((and255 n).tmod 16).tdiv 4))
def pickT (n : Int) : Int := ((and255 n).tmod 16).tmod 4
def pickL (l : Int) : Int := (and255 l).tmod 3
theorem picks : ∀ a < 256, IntKind.i64.wrap (1 + IntKind.i64.wrap ((((a : Nat) : Int).tmod 16).tdiv 4)) ∈ [1, 2, 3, (4 : Int)] ∧ (((a : Nat) : Int).tmod 16).tmod 4 ∈ [0, 1, 2, (3 : Int)] ∧ ((a : Nat) : Int).tmod 3 ∈ [0, 1, (2 : Int)] := by decide +kernel
theorem full_at {z : St} (h : ([1, 2, 3, 4].all fun p => [0, 1, 2, 3].all fun t => [0, 1, 2].all fun l => fullP z p t l) = true) (n l : Int) : fullP z (pickP n) (pickT n) (pickL l) = true := by
  obtain ⟨a, ha, ea⟩ := and255_nat n
  obtain ⟨b, hb, eb⟩ := and255_nat l
  unfold pickP pickT pickL
  rw [ea, eb]
  exact List.all_eq_true.1 (List.all_eq_true.1 (List.all_eq_true.1 h _ (picks a ha).1) _ (picks a ha).2.1) _ (picks b hb).2.2
end Go.Abs.X

namespace Go.Abs.X
open Go.Abs Go Go.Proofs
variable {w0 : World}

def wantsOf (k : KeyT) (l : List LinkT) : List Int := (l.filter (isOf k)).map (·.who)
theorem isOf_eq (k : KeyT) (l : LinkT) : (l.peer == k.1 && (l.n == k.2 && true)) = isOf k l := by
  unfold isOf; rw [Bool.eq_iff_iff]; simp
set_option maxHeartbeats 1000000 in
theorem wants_ok (s : St) (hs : StOK s) (k : KeyT) (K : AV → Heap → Prop) (hk : K (.dat (valInt (wantsOf k s.links))) s.h) : CallA (cx w0) 13 [.ptr 0 0, .dat (keyD k)] s.h K := by
  refine CallA.ret ?_
  refine CallA.enter ok (dr (plOf [])) Tryz.func13 Tryz.call13 ?_
  refine call_at [0, 1, 2, 3, 4, 5] (links_ok s hs _ ?_) rfl rfl rfl rfl
  have hl : s.links.length ≤ 1000000 := by rw [links_length]; exact hs.len
  generalize s.links = S at hk hl ⊢
  by_cases hS : S = []
  · subst hS
    refine loopA_round ok (dr (plOf []) _) ?_
    refine condA_false rfl ?_
    exact leaf [0, 1, 2, 3, 4, 5] (.dat .nils) s.h rfl rfl rfl rfl rfl hk
  rw [valLink_cons S hS]
  let kb : Option AB := some (.cells [.dat (i64 k.1), .dat (i64 k.2)] 42 false)
  let E : Nat × List Int × Nat → Env := fun x => mkE [3, 5, 9, 10, 11] [.ptr 6 0, outS 7 1 x.2.2, .dat (.ros (linksD S) S.length none), .dat (.int .i64 (S.length : Nat)), .dat (.int .i64 (x.1 : Nat))]
  let H : Nat × List Int × Nat → Heap := fun x => (s.h ++ [kb]) ++ apBl 3 (intsD x.2.1) x.2.2
  refine loop_in [3, 5, 9, 10, 11] [0, 1, 2, 3, 4, 5, 6] [.ptr 6 0, .dat .nils, .dat (.ros (linksD S) S.length none), .dat (.int .i64 (S.length : Nat)), .dat (.int .i64 (0 : Nat))] (s.h ++ [kb]) rfl rfl rfl rfl (hin_cons rfl (hin_cons rfl (hin_cons rfl (hin_cons rfl (hin_cons rfl (hin_cons rfl (hin_cons rfl hin_nil))))))) ?_
  refine loop_ind E H (fun x => x.1 ≤ S.length ∧ x.2.1 = wantsOf k (S.take x.1) ∧ x.2.1.length = x.2.2 ∧ x.2.2 ≤ x.1) (fun x => S.length - x.1) ?_ (0, [], 0) ⟨Nat.zero_le _, rfl, rfl, Nat.le_refl _⟩
  rintro ⟨i, acc, n⟩ ⟨hi, hacc, hn, hni⟩ ih
  replace hi : i ≤ S.length := hi
  replace hacc : acc = wantsOf k (S.take i) := hacc
  replace hn : acc.length = n := hn
  replace hni : n ≤ i := hni
  by_cases hlt : i < S.length
  · have hSi : S[i]? = some S[i] := by simp [hlt]
    have hw : IntKind.i64.wrap ((i : Int) + 1) = ((i + 1 : Nat) : Int) := by rw [wrap_i64 _ (by omega) (by omega)]; omega
    have htk : S.take (i + 1) = S.take i ++ [S[i]] := List.take_succ_eq_append_getElem hlt
    have goY := fun (h : isOf k S[i] = true) => ih (i + 1, acc ++ [S[i].who], n + 1) ⟨hlt, by show acc ++ _ = _; rw [htk, wantsOf, List.filter_append, List.map_append, ← wantsOf, ← hacc]; simp [h], by show (acc ++ _).length = _; simp [hn], by show n + 1 ≤ i + 1; omega⟩ (by show S.length - (i + 1) < S.length - i; omega)
    have goN := fun (h : isOf k S[i] = false) => ih (i + 1, acc, n) ⟨hlt, by show acc = _; rw [htk, wantsOf, List.filter_append, List.map_append, ← wantsOf, ← hacc]; simp [h], hn, by show n ≤ i + 1; omega⟩ (by show S.length - (i + 1) < S.length - i; omega)
    clear ih
    cases n with
    | zero =>
      obtain rfl : acc = [] := List.eq_nil_of_length_eq_zero hn
      refine loopA_round ok (dr (plOf []) _) ?_
      refine condA_true (by simpa using hlt) ?_
      refine req ⟨by simp, by simpa using hlt⟩ ?_
      refine optA (.agg S[i].flat) ?_ ?_
      · exact cutD_flat (z := 3) (fun _ => rfl) rfl rfl hSi
      by_cases h : isOf k S[i] = true
      · refine condA_true ((isOf_eq k S[i]).trans h) ?_
        refine appA (by decide) ⟨rfl, allCell_iff.1 rfl, by decide, by decide⟩ ?_
        exact loop_in [3, 5, 9, 10, 11] [0, 1, 2, 3, 4, 5, 6, 9] [.ptr 6 0, .sl 7 0 1 none 1, .dat (.ros (linksD S) S.length none), .dat (.int .i64 (S.length : Nat)), .dat (.int .i64 ((i + 1 : Nat) : Int))] (H (i + 1, [S[i].who], 1)) (by rw [← hw]; rfl) rfl rfl rfl (hin_cons rfl (hin_cons rfl (hin_cons rfl (hin_cons rfl (hin_cons rfl (hin_cons rfl (hin_cons rfl (hin_cons rfl hin_nil)))))))) (goY h)
      · have h : isOf k S[i] = false := by simpa using h
        refine condA_false ((isOf_eq k S[i]).trans h) ?_
        exact loop_in [3, 5, 9, 10, 11] [0, 1, 2, 3, 4, 5, 6] [.ptr 6 0, .dat .nils, .dat (.ros (linksD S) S.length none), .dat (.int .i64 (S.length : Nat)), .dat (.int .i64 ((i + 1 : Nat) : Int))] (s.h ++ [kb]) (by rw [← hw]; rfl) rfl rfl rfl (hin_cons rfl (hin_cons rfl (hin_cons rfl (hin_cons rfl (hin_cons rfl (hin_cons rfl (hin_cons rfl hin_nil))))))) (goN h)
    | succ m =>
      refine loopA_round ok (dr (plOf []) _) ?_
      refine condA_true (by simpa using hlt) ?_
      refine req ⟨by simp, by simpa using hlt⟩ ?_
      refine optA (.agg S[i].flat) ?_ ?_
      · exact cutD_flat (z := 3) (fun _ => rfl) rfl rfl hSi
      by_cases h : isOf k S[i] = true
      · refine condA_true ((isOf_eq k S[i]).trans h) ?_
        refine appA (by decide) ⟨?_, rfl, allCell_iff.1 rfl, ?_, ?_⟩ ?_
        · rw [List.length_map, intsD, flatD_length (z := 1) (fun _ => rfl), hn]
        · show (m + 1 + 1) * 8 ≤ _
          omega
        · show m + 1 + 1 ≤ maxLen
          unfold maxLen; omega
        exact loop_in [3, 5, 9, 10, 11] [0, 1, 2, 3, 4, 5, 6, 10] [.ptr 6 0, .sl 7 0 (m + 1 + 1) none 1, .dat (.ros (linksD S) S.length none), .dat (.int .i64 (S.length : Nat)), .dat (.int .i64 ((i + 1 : Nat) : Int))] (H (i + 1, acc ++ [S[i].who], m + 1 + 1)) (by rw [← hw]; rfl) rfl rfl rfl (hin_cons rfl (hin_cons rfl (hin_cons rfl (hin_cons rfl (hin_cons rfl (hin_cons rfl (hin_cons rfl (hin_cons (renTs_datC (by rw [intsD, intsD, flatD_append, flatD_one, List.map_append]; rfl)) hin_nil)))))))) (goY h)
      · have h : isOf k S[i] = false := by simpa using h
        refine condA_false ((isOf_eq k S[i]).trans h) ?_
        exact loop_in [3, 5, 9, 10, 11] [0, 1, 2, 3, 4, 5, 6, 7] [.ptr 6 0, .sl 7 0 (m + 1) none 1, .dat (.ros (linksD S) S.length none), .dat (.int .i64 (S.length : Nat)), .dat (.int .i64 ((i + 1 : Nat) : Int))] (H (i + 1, acc, m + 1)) (by rw [← hw]; rfl) rfl rfl rfl (hin_cons rfl (hin_cons rfl (hin_cons rfl (hin_cons rfl (hin_cons rfl (hin_cons rfl (hin_cons rfl (hin_cons (renTs_datC rfl) hin_nil)))))))) (goN h)
  · obtain rfl : i = S.length := by omega
    rw [List.take_length] at hacc
    rw [← hacc] at hk
    cases n with
    | zero =>
      obtain rfl : acc = [] := List.eq_nil_of_length_eq_zero hn
      refine loopA_round ok (dr (plOf []) _) ?_
      refine condA_false (by simp) ?_
      exact leaf [0, 1, 2, 3, 4, 5] (.dat .nils) s.h rfl rfl rfl rfl rfl hk
    | succ m =>
      rw [valInt_cons acc (by intro h; simp [h] at hn), hn] at hk
      refine loopA_round ok (dr (plOf []) _) ?_
      refine condA_false (by simp) ?_
      refine shift_frz' 7 (intsD acc) rfl rfl ?_
      exact leaf [0, 1, 2, 3, 4, 5] (.dat (.ros (intsD acc) (m + 1) none)) s.h rfl rfl rfl rfl rfl hk
end Go.Abs.X

namespace Go.Abs.X
open Go.Abs Go Go.Proofs

def allC (m : Nat) : List Cmd := (List.range m).flatMap fun (i : Nat) => (List.range m).map fun (k : Nat) => subC (i : Int) (k : Int) 0 0
def allE (m : Nat) : List Int := (List.range m).flatMap fun i => (List.range m).map fun k => if i = k then 15 else 0
def goneS (m : Nat) : List Int × St := runP St.none (hallCs m ++ allC m)
def unpubC (p : Int) : Cmd := ⟨4, .empty, .empty, p, 0, 0, 0, false, false, [], .nils⟩
theorem unpubC_OK (p : Int) : (unpubC p).OK := ⟨Nat.le_of_ble_eq_true rfl, Nat.le_of_ble_eq_true rfl, Sl.nil, Nat.le_of_ble_eq_true rfl⟩
def src2 (p : Int) : Int := IntKind.u32.wrap (IntKind.i64.wrap (IntKind.i64.wrap (100 * p) + 2))
def takeC (q p : Int) : Cmd := ⟨3, .empty, .empty, q, 0, 2, 0, false, false, [src2 p], .ros (u32s [src2 p]) 1 (some 1)⟩
theorem takeC_OK (q p : Int) : (takeC q p).OK := ⟨Nat.le_of_ble_eq_true rfl, Nat.le_of_ble_eq_true rfl, Sl.ros [src2 p] (some 1), Nat.le_of_ble_eq_true rfl⟩
def goC (leave : Bool) (p : Int) : Cmd := if leave then leaveC p else unpubC p
def want (m : Int) (leave : Bool) : Int := if leave then IntKind.i64.wrap (IntKind.i64.wrap (m - 1) * IntKind.i64.wrap (m - 2)) else IntKind.i64.wrap (IntKind.i64.wrap (m - 1) * IntKind.i64.wrap (m - 1))
def wantN (s : St) (p : Int) : Nat := (s.subs.filter fun x => isOf (p, 0) x.1).length
def nextP (m p : Int) : Int := (IntKind.i64.wrap (p + 1)).tmod m
def goneP (z : St) (m p : Int) (leave : Bool) : Bool :=
  ((z.subs.length : Int) == IntKind.i64.wrap (m * IntKind.i64.wrap (m - 1))) && ((wantN z p : Int) == IntKind.i64.wrap (m - 1))
  && ((doP z (goC leave p)).1.2 == 0) && (((doP z (goC leave p)).2.subs.length : Int) == want m leave) && (wantN (doP z (goC leave p)).2 p == 0)
  && ((doP (doP z (goC leave p)).2 (takeC (nextP m p) p)).1.2 == 0) && decide (lk (doP (doP z (goC leave p)).2 (takeC (nextP m p) p)).2.srcs (src2 p) = some (nextP m p, 2, 0))
theorem gone2 : (goneS 2).1 = List.replicate 4 0 ++ allE 2 ∧ ([0, 1].all fun p => [false, true].all fun l => goneP (goneS 2).2 2 p l) = true := by decide +kernel
theorem gone3 : (goneS 3).1 = List.replicate 6 0 ++ allE 3 ∧ ([0, 1, 2].all fun p => [false, true].all fun l => goneP (goneS 3).2 3 p l) = true := by decide +kernel
theorem gone4 : (goneS 4).1 = List.replicate 8 0 ++ allE 4 ∧ ([0, 1, 2, 3].all fun p => [false, true].all fun l => goneP (goneS 4).2 4 p l) = true := by decide +kernel
theorem gone5 : (goneS 5).1 = List.replicate 10 0 ++ allE 5 ∧ ([0, 1, 2, 3, 4].all fun p => [false, true].all fun l => goneP (goneS 5).2 5 p l) = true := by decide +kernel
theorem wants_length (s : St) (p : Int) : (wantsOf (p, 0) s.links).length = wantN s p := by
  unfold wantsOf wantN
  rw [List.length_map]
  have h : s.links.Perm (s.subs.map (·.1)) := List.mergeSort_perm _ _
  rw [(h.filter _).length_eq, List.filter_map, List.length_map]
  rfl
def and3 (n : Int) : Int := IntKind.i64.wrap (BitVec.ofInt IntKind.i64.bits n &&& BitVec.ofInt IntKind.i64.bits 3).toNat
def goneN (n : Int) : Int := IntKind.i64.wrap (2 + and3 n)
theorem goneN_is (n : Int) : goneN n = 2 ∨ goneN n = 3 ∨ goneN n = 4 ∨ goneN n = 5 := by
  have h : (BitVec.ofInt 64 n &&& BitVec.ofInt 64 3).toNat ≤ 3 := by
    rw [BitVec.toNat_and]
    exact Nat.le_trans Nat.and_le_right (by decide)
  have e : and3 n = ((BitVec.ofInt 64 n &&& BitVec.ofInt 64 3).toNat : Int) := by
    show IntKind.i64.wrap ((BitVec.ofInt 64 n &&& BitVec.ofInt 64 3).toNat : Int) = _
    exact wrap_i64 _ (by omega) (by omega)
  have e2 : goneN n = 2 + and3 n := wrap_i64 _ (by omega) (by omega)
  omega
theorem whoP (w : Int) (m : Nat) (hm : 0 < m) : ∃ p : Nat, p < m ∧ (and255 w).tmod m = p := by
  obtain ⟨a, _, ea⟩ := and255_nat w
  rw [ea]
  exact ⟨a % m, Nat.mod_lt _ hm, rfl⟩
theorem gone_run (m : Nat) (h6 : m ≤ 6) (hc : (goneS m).1 = List.replicate (2 * m) 0 ++ allE m) (hl : (runP St.none (hallCs m)).1.length = 2 * m) : Run (hallM m) (allC m) (allE m) (goneS m).2 ∧ Good (goneS m).2 (2 * m + (allC m).length) := by
  obtain ⟨e, g⟩ := hall_eq m h6
  have len : (allC m).length ≤ 36 := by
    have : m = 0 ∨ m = 1 ∨ m = 2 ∨ m = 3 ∨ m = 4 ∨ m = 5 ∨ m = 6 := by omega
    rcases this with rfl | rfl | rfl | rfl | rfl | rfl | rfl <;> decide
  have h := runP_run g (allC m) (by omega)
  have a := runP_append St.none (hallCs m) (allC m)
  rw [← e] at a
  unfold goneS at hc ⊢
  rw [a] at hc ⊢
  dsimp only at hc ⊢
  have c := (List.append_inj hc (by rw [hl]; simp)).2
  rw [← c]
  exact h
end Go.Abs.X

namespace Go.Abs.X
open Go.Abs Go Go.Proofs
variable {w0 : World}

theorem do_step (L : Laid w0) {s s' : St} (g : StOK s) (c : Cmd) (hc : c.OK) {n e : Int} (h : doM s c = ((n, e), s')) (K : AV → Heap → Prop) (hk : K (.dat (.tup [.int .i64 n, .int .i64 e])) s'.h) : CallA (cx w0) 11 [.ptr 0 0, .dat c.dv] s.h K :=
  do_ok L s g c hc K (by rw [h]; exact hk)
theorem bne_false {a b : Int} (h : a = b) : (a != b) = false := by simp [h]
theorem bne_not {a b : Int} (h : a = b) : (!(a != b)) = true := by simp [h]
set_option maxHeartbeats 4000000 in
theorem gone_walk2 (L : Laid w0) (n w : Int) (leave : Bool) (hn : goneN n = 2) (K : AV → Heap → Prop) (hk : K (.dat (.bool true)) []) : CallA (cx w0) 7 [.dat (.int .i64 n), .dat (.int .i64 w), .dat (.bool leave)] [] K := by
  obtain ⟨p, hp, ep⟩ := whoP w 2 (by decide)
  have ep : (and255 w).tmod 2 = (p : Int) := ep
  obtain ⟨codes, facts⟩ := gone2
  obtain ⟨run, good⟩ := gone_run 2 (by decide) codes (by decide +kernel)
  have fact : goneP (goneS 2).2 2 p leave = true := by
    have h1 : (p : Int) ∈ [0, 1] := by
      have : p = 0 ∨ p = 1 := by omega
      rcases this with rfl | rfl <;> simp
    have h2 : leave ∈ [false, true] := by cases leave <;> simp
    exact List.all_eq_true.1 (List.all_eq_true.1 facts _ h1) _ h2
  clear codes facts
  refine CallA.ret ?_
  refine CallA.enter ok (dr (plOf [])) Tryz.func7 Tryz.call7 ?_
  refine call_at [] (awake_ok L _ ?_) rfl rfl rfl rfl
  repeat (first | (refine condA_true ?_ ?_; focus (first | rfl | (simp; done) | (simp; omega))) | (refine condA_false ?_ ?_; focus (first | rfl | (simp; done) | (simp; omega))))
  refine call_at [] (hall_ok L (goneN n) _ (fun mm hm => ?_)) rfl rfl rfl rfl
  obtain rfl : mm = 2 := by
    rw [hn] at hm
    have : clip 2 = 2 := by decide
    omega
  clear hm
  have gz := good
  generalize (goneS 2).2 = z at run good fact gz
  generalize hallM 2 = s at run ⊢
  replace run : Run s [subC 0 0 0 0, subC 0 1 0 0, subC 1 0 0 0, subC 1 1 0 0] [15, 0, 0, 15] z := run
  refine req (show goneN n ≠ 0 by rw [hn]; decide) ?_
  refine loop_in [0, 1, 2, 7, 30, 31] [0, 1, 2, 3, 4, 5] [.dat (.int .i64 (goneN n)), .dat (.int .i64 ((and255 w).tmod (goneN n))), .dat (.bool leave), .ptr 0 0, .dat (.int .i64 (goneN n)), .dat (.int .i64 0)] s.h rfl rfl rfl rfl (hin_cons rfl (hin_cons rfl (hin_cons rfl (hin_cons rfl (hin_cons rfl (hin_cons rfl hin_nil)))))) ?_
  rw [hn, ep]
  refine loopA_round ok (dr (plOf []) _) ?_
  refine condA_true rfl ?_
  refine loop_in [0, 1, 2, 7, 8, 30, 31, 34, 35] [0, 1, 2, 3, 4, 5] [.dat (.int .i64 2), .dat (.int .i64 p), .dat (.bool leave), .ptr 0 0, .dat (.int .i64 0), .dat (.int .i64 2), .dat (.int .i64 0), .dat (.int .i64 2), .dat (.int .i64 0)] s.h rfl rfl rfl rfl (hin_cons rfl (hin_cons rfl (hin_cons rfl (hin_cons rfl (hin_cons rfl (hin_cons rfl hin_nil)))))) ?_
  refine loopA_round ok (dr (plOf []) _) ?_
  refine condA_true rfl ?_
  rcases run with _ | ⟨g, h, run⟩
  refine call_can ?_
  refine call_at [0, 1, 2, 3, 4, 5] (do_step L g (subC 0 0 0 0) (subC_OK _ _ _ _) h _ ?_) rfl rfl rfl rfl
  clear g h
  rename_i s _
  refine loop_in [0, 1, 2, 7, 8, 30, 31, 34, 35] [0, 1, 2, 3, 4, 5] [.dat (.int .i64 2), .dat (.int .i64 p), .dat (.bool leave), .ptr 0 0, .dat (.int .i64 0), .dat (.int .i64 2), .dat (.int .i64 0), .dat (.int .i64 2), .dat (.int .i64 1)] s.h rfl rfl rfl rfl (hin_cons rfl (hin_cons rfl (hin_cons rfl (hin_cons rfl (hin_cons rfl (hin_cons rfl hin_nil)))))) ?_
  refine loopA_round ok (dr (plOf []) _) ?_
  refine condA_true rfl ?_
  rcases run with _ | ⟨g, h, run⟩
  refine call_can ?_
  refine call_at [0, 1, 2, 3, 4, 5] (do_step L g (subC 0 1 0 0) (subC_OK _ _ _ _) h _ ?_) rfl rfl rfl rfl
  clear g h
  rename_i s _
  refine loop_in [0, 1, 2, 7, 8, 30, 31, 34, 35] [0, 1, 2, 3, 4, 5] [.dat (.int .i64 2), .dat (.int .i64 p), .dat (.bool leave), .ptr 0 0, .dat (.int .i64 0), .dat (.int .i64 2), .dat (.int .i64 0), .dat (.int .i64 2), .dat (.int .i64 2)] s.h rfl rfl rfl rfl (hin_cons rfl (hin_cons rfl (hin_cons rfl (hin_cons rfl (hin_cons rfl (hin_cons rfl hin_nil)))))) ?_
  refine loopA_round ok (dr (plOf []) _) ?_
  refine condA_false rfl ?_
  refine loop_in [0, 1, 2, 7, 30, 31] [0, 1, 2, 3, 4, 5] [.dat (.int .i64 2), .dat (.int .i64 p), .dat (.bool leave), .ptr 0 0, .dat (.int .i64 2), .dat (.int .i64 1)] s.h rfl rfl rfl rfl (hin_cons rfl (hin_cons rfl (hin_cons rfl (hin_cons rfl (hin_cons rfl (hin_cons rfl hin_nil)))))) ?_
  refine loopA_round ok (dr (plOf []) _) ?_
  refine condA_true rfl ?_
  refine loop_in [0, 1, 2, 7, 8, 30, 31, 34, 35] [0, 1, 2, 3, 4, 5] [.dat (.int .i64 2), .dat (.int .i64 p), .dat (.bool leave), .ptr 0 0, .dat (.int .i64 1), .dat (.int .i64 2), .dat (.int .i64 1), .dat (.int .i64 2), .dat (.int .i64 0)] s.h rfl rfl rfl rfl (hin_cons rfl (hin_cons rfl (hin_cons rfl (hin_cons rfl (hin_cons rfl (hin_cons rfl hin_nil)))))) ?_
  refine loopA_round ok (dr (plOf []) _) ?_
  refine condA_true rfl ?_
  rcases run with _ | ⟨g, h, run⟩
  refine call_can ?_
  refine call_at [0, 1, 2, 3, 4, 5] (do_step L g (subC 1 0 0 0) (subC_OK _ _ _ _) h _ ?_) rfl rfl rfl rfl
  clear g h
  rename_i s _
  refine loop_in [0, 1, 2, 7, 8, 30, 31, 34, 35] [0, 1, 2, 3, 4, 5] [.dat (.int .i64 2), .dat (.int .i64 p), .dat (.bool leave), .ptr 0 0, .dat (.int .i64 1), .dat (.int .i64 2), .dat (.int .i64 1), .dat (.int .i64 2), .dat (.int .i64 1)] s.h rfl rfl rfl rfl (hin_cons rfl (hin_cons rfl (hin_cons rfl (hin_cons rfl (hin_cons rfl (hin_cons rfl hin_nil)))))) ?_
  refine loopA_round ok (dr (plOf []) _) ?_
  refine condA_true rfl ?_
  rcases run with _ | ⟨g, h, run⟩
  refine call_can ?_
  refine call_at [0, 1, 2, 3, 4, 5] (do_step L g (subC 1 1 0 0) (subC_OK _ _ _ _) h _ ?_) rfl rfl rfl rfl
  clear g h
  rename_i s _
  refine loop_in [0, 1, 2, 7, 8, 30, 31, 34, 35] [0, 1, 2, 3, 4, 5] [.dat (.int .i64 2), .dat (.int .i64 p), .dat (.bool leave), .ptr 0 0, .dat (.int .i64 1), .dat (.int .i64 2), .dat (.int .i64 1), .dat (.int .i64 2), .dat (.int .i64 2)] s.h rfl rfl rfl rfl (hin_cons rfl (hin_cons rfl (hin_cons rfl (hin_cons rfl (hin_cons rfl (hin_cons rfl hin_nil)))))) ?_
  refine loopA_round ok (dr (plOf []) _) ?_
  refine condA_false rfl ?_
  refine loop_in [0, 1, 2, 7, 30, 31] [0, 1, 2, 3, 4, 5] [.dat (.int .i64 2), .dat (.int .i64 p), .dat (.bool leave), .ptr 0 0, .dat (.int .i64 2), .dat (.int .i64 2)] s.h rfl rfl rfl rfl (hin_cons rfl (hin_cons rfl (hin_cons rfl (hin_cons rfl (hin_cons rfl (hin_cons rfl hin_nil)))))) ?_
  refine loopA_round ok (dr (plOf []) _) ?_
  refine condA_false rfl ?_
  cases run
  unfold goneP at fact
  simp only [Bool.and_eq_true, beq_iff_eq, decide_eq_true_eq] at fact
  obtain ⟨⟨⟨⟨⟨⟨f1, f2⟩, f3⟩, f4⟩, f5⟩, f6⟩, f7⟩ := fact
  have g1 := gz.next (by decide) (goC leave p)
  have g2 := g1.next (by decide) (takeC (nextP 2 p) p)
  have d1 := doM_up gz.up (goC leave p)
  have d2 := doM_up g1.up (takeC (nextP 2 p) p)
  generalize doP z (goC leave p) = r1 at f3 f4 f5 f6 f7 g1 g2 d1 d2
  obtain ⟨⟨n1, x1⟩, z1⟩ := r1
  dsimp only at f3 f4 f5 f6 f7 g1 g2 d2
  generalize doP z1 (takeC (nextP 2 p) p) = r2 at f6 f7 g2 d2
  obtain ⟨⟨n2, x2⟩, z2⟩ := r2
  dsimp only at f6 f7 g2
  subst f3 f6
  have l1 : ((z.links.length : Nat) : Int) = IntKind.i64.wrap (2 * IntKind.i64.wrap (2 - 1)) := by rw [links_length]; exact f1
  have w1 : ((wantsOf ((p : Int), 0) z.links).length : Int) = IntKind.i64.wrap (2 - 1) := by rw [wants_length]; exact f2
  have l2 : ((z1.links.length : Nat) : Int) = want 2 leave := by rw [links_length]; exact f4
  have w2 : (wantsOf ((p : Int), 0) z1.links).length = 0 := by rw [wants_length]; exact f5
  refine call_at [0, 1, 2, 3, 4, 5] (links_ok z gz.ok _ ?_) rfl rfl rfl rfl
  have wk := fun K => wants_ok (w0 := w0) z gz.ok ((p : Int), 0) K
  generalize wantsOf ((p : Int), 0) z.links = W1 at w1 wk
  cases hx : z.links with
  | nil => rw [hx] at l1; exact absurd l1 (by decide)
  | cons x xs =>
  rw [hx] at l1
  have c1 := bne_false l1
  have nc1 := bne_not l1
  repeat (first | (refine condA_true ?_ ?_; focus (first | rfl | exact c1 | exact nc1)) | (refine condA_false ?_ ?_; focus (first | rfl | exact c1 | exact nc1)))
  refine call_can ?_
  refine call_at [0, 1, 2, 3, 4, 5] (wk _ ?_) rfl rfl rfl rfl
  cases W1 with
  | nil => exact absurd w1 (by decide)
  | cons y ys =>
  have c2 := bne_false w1
  have nc2 := bne_not w1
  repeat (first | (refine condA_true ?_ ?_; focus (first | rfl | exact c1 | exact nc1 | exact c2 | exact nc2)) | (refine condA_false ?_ ?_; focus (first | rfl | exact c1 | exact nc1 | exact c2 | exact nc2)))
  have lk1 := fun K => links_ok (w0 := w0) z1 g1.ok K
  have wk1 := fun K => wants_ok (w0 := w0) z1 g1.ok ((p : Int), 0) K
  rw [List.eq_nil_of_length_eq_zero w2] at wk1
  generalize z1.links = L1 at l2 lk1
  cases leave
  all_goals
    repeat (first | (refine condA_true ?_ ?_; focus (first | rfl)) | (refine condA_false ?_ ?_; focus (first | rfl)))
    refine call_can ?_
    first
      | refine call_at [0, 1, 2, 3, 4, 5] (do_step L gz.ok (unpubC p) (unpubC_OK _) d1 _ ?_) rfl rfl rfl rfl
      | refine call_at [0, 1, 2, 3, 4, 5] (do_step L gz.ok (leaveC p) (leaveC_OK _) d1 _ ?_) rfl rfl rfl rfl
    repeat (first | (refine condA_true ?_ ?_; focus (first | rfl)) | (refine condA_false ?_ ?_; focus (first | rfl)))
    refine call_at [0, 1, 2, 3, 4, 5] (lk1 _ ?_) rfl rfl rfl rfl
    cases L1
    all_goals try exact absurd l2 (by decide)
    all_goals try (exfalso; have h0 : want 2 true = 0 := by decide
                   simp only [List.length_cons] at l2
                   omega)
    all_goals
      have c3 := bne_false l2
      have nc3 := bne_not l2
      repeat (first | (refine condA_true ?_ ?_; focus (first | rfl | exact c3 | exact nc3)) | (refine condA_false ?_ ?_; focus (first | rfl | exact c3 | exact nc3)))
      refine call_can ?_
      refine call_at [0, 1, 2, 3, 4, 5] (wk1 _ ?_) rfl rfl rfl rfl
      repeat (first | (refine condA_true ?_ ?_; focus (first | rfl | exact c3 | exact nc3)) | (refine condA_false ?_ ?_; focus (first | rfl | exact c3 | exact nc3)))
      refine req ?_ ?_
      · decide
      refine CallA.shift (shift_frz' 7 (u32s [src2 p]) rfl rfl (shift_id ?_))
      refine call_can ?_
      refine call_at [0, 1, 2, 3, 4, 5] (do_step L g1.ok (takeC (nextP 2 p) p) (takeC_OK _ _) d2 _ ?_) rfl rfl rfl rfl
      refine call_at [0, 1, 2, 3, 4, 5] (source_ok z2 (src2 p) _ ?_) rfl rfl rfl rfl
      simp only [srcR, f7]
      repeat (first | (refine condA_true ?_ ?_; focus (first | rfl)) | (refine condA_false ?_ ?_; focus (first | rfl)))
      refine leaf [] (.dat (.bool true)) [] ?_ rfl rfl rfl rfl hk
      show AV.dat (.bool true) = AV.dat (.bool ((nextP 2 p == nextP 2 p) && ((2 : Int) == 2 && ((0 : Int) == 0 && true))))
      simp
set_option maxHeartbeats 4000000 in
theorem gone_walk3 (L : Laid w0) (n w : Int) (leave : Bool) (hn : goneN n = 3) (K : AV → Heap → Prop) (hk : K (.dat (.bool true)) []) : CallA (cx w0) 7 [.dat (.int .i64 n), .dat (.int .i64 w), .dat (.bool leave)] [] K := by
  obtain ⟨p, hp, ep⟩ := whoP w 3 (by decide)
  have ep : (and255 w).tmod 3 = (p : Int) := ep
  obtain ⟨codes, facts⟩ := gone3
  obtain ⟨run, good⟩ := gone_run 3 (by decide) codes (by decide +kernel)
  have fact : goneP (goneS 3).2 3 p leave = true := by
    have h1 : (p : Int) ∈ [0, 1, 2] := by
      have : p = 0 ∨ p = 1 ∨ p = 2 := by omega
      rcases this with rfl | rfl | rfl <;> simp
    have h2 : leave ∈ [false, true] := by cases leave <;> simp
    exact List.all_eq_true.1 (List.all_eq_true.1 facts _ h1) _ h2
  clear codes facts
  refine CallA.ret ?_
  refine CallA.enter ok (dr (plOf [])) Tryz.func7 Tryz.call7 ?_
  refine call_at [] (awake_ok L _ ?_) rfl rfl rfl rfl
  repeat (first | (refine condA_true ?_ ?_; focus (first | rfl | (simp; done) | (simp; omega))) | (refine condA_false ?_ ?_; focus (first | rfl | (simp; done) | (simp; omega))))
  refine call_at [] (hall_ok L (goneN n) _ (fun mm hm => ?_)) rfl rfl rfl rfl
  obtain rfl : mm = 3 := by
    rw [hn] at hm
    have : clip 3 = 3 := by decide
    omega
  clear hm
  have gz := good
  generalize (goneS 3).2 = z at run good fact gz
  generalize hallM 3 = s at run ⊢
  replace run : Run s [subC 0 0 0 0, subC 0 1 0 0, subC 0 2 0 0, subC 1 0 0 0, subC 1 1 0 0, subC 1 2 0 0, subC 2 0 0 0, subC 2 1 0 0, subC 2 2 0 0] [15, 0, 0, 0, 15, 0, 0, 0, 15] z := run
  refine req (show goneN n ≠ 0 by rw [hn]; decide) ?_
  refine loop_in [0, 1, 2, 7, 30, 31] [0, 1, 2, 3, 4, 5] [.dat (.int .i64 (goneN n)), .dat (.int .i64 ((and255 w).tmod (goneN n))), .dat (.bool leave), .ptr 0 0, .dat (.int .i64 (goneN n)), .dat (.int .i64 0)] s.h rfl rfl rfl rfl (hin_cons rfl (hin_cons rfl (hin_cons rfl (hin_cons rfl (hin_cons rfl (hin_cons rfl hin_nil)))))) ?_
  rw [hn, ep]
  refine loopA_round ok (dr (plOf []) _) ?_
  refine condA_true rfl ?_
  refine loop_in [0, 1, 2, 7, 8, 30, 31, 34, 35] [0, 1, 2, 3, 4, 5] [.dat (.int .i64 3), .dat (.int .i64 p), .dat (.bool leave), .ptr 0 0, .dat (.int .i64 0), .dat (.int .i64 3), .dat (.int .i64 0), .dat (.int .i64 3), .dat (.int .i64 0)] s.h rfl rfl rfl rfl (hin_cons rfl (hin_cons rfl (hin_cons rfl (hin_cons rfl (hin_cons rfl (hin_cons rfl hin_nil)))))) ?_
  refine loopA_round ok (dr (plOf []) _) ?_
  refine condA_true rfl ?_
  rcases run with _ | ⟨g, h, run⟩
  refine call_can ?_
  refine call_at [0, 1, 2, 3, 4, 5] (do_step L g (subC 0 0 0 0) (subC_OK _ _ _ _) h _ ?_) rfl rfl rfl rfl
  clear g h
  rename_i s _
  refine loop_in [0, 1, 2, 7, 8, 30, 31, 34, 35] [0, 1, 2, 3, 4, 5] [.dat (.int .i64 3), .dat (.int .i64 p), .dat (.bool leave), .ptr 0 0, .dat (.int .i64 0), .dat (.int .i64 3), .dat (.int .i64 0), .dat (.int .i64 3), .dat (.int .i64 1)] s.h rfl rfl rfl rfl (hin_cons rfl (hin_cons rfl (hin_cons rfl (hin_cons rfl (hin_cons rfl (hin_cons rfl hin_nil)))))) ?_
  refine loopA_round ok (dr (plOf []) _) ?_
  refine condA_true rfl ?_
  rcases run with _ | ⟨g, h, run⟩
  refine call_can ?_
  refine call_at [0, 1, 2, 3, 4, 5] (do_step L g (subC 0 1 0 0) (subC_OK _ _ _ _) h _ ?_) rfl rfl rfl rfl
  clear g h
  rename_i s _
  refine loop_in [0, 1, 2, 7, 8, 30, 31, 34, 35] [0, 1, 2, 3, 4, 5] [.dat (.int .i64 3), .dat (.int .i64 p), .dat (.bool leave), .ptr 0 0, .dat (.int .i64 0), .dat (.int .i64 3), .dat (.int .i64 0), .dat (.int .i64 3), .dat (.int .i64 2)] s.h rfl rfl rfl rfl (hin_cons rfl (hin_cons rfl (hin_cons rfl (hin_cons rfl (hin_cons rfl (hin_cons rfl hin_nil)))))) ?_
  refine loopA_round ok (dr (plOf []) _) ?_
  refine condA_true rfl ?_
  rcases run with _ | ⟨g, h, run⟩
  refine call_can ?_
  refine call_at [0, 1, 2, 3, 4, 5] (do_step L g (subC 0 2 0 0) (subC_OK _ _ _ _) h _ ?_) rfl rfl rfl rfl
  clear g h
  rename_i s _
  refine loop_in [0, 1, 2, 7, 8, 30, 31, 34, 35] [0, 1, 2, 3, 4, 5] [.dat (.int .i64 3), .dat (.int .i64 p), .dat (.bool leave), .ptr 0 0, .dat (.int .i64 0), .dat (.int .i64 3), .dat (.int .i64 0), .dat (.int .i64 3), .dat (.int .i64 3)] s.h rfl rfl rfl rfl (hin_cons rfl (hin_cons rfl (hin_cons rfl (hin_cons rfl (hin_cons rfl (hin_cons rfl hin_nil)))))) ?_
  refine loopA_round ok (dr (plOf []) _) ?_
  refine condA_false rfl ?_
  refine loop_in [0, 1, 2, 7, 30, 31] [0, 1, 2, 3, 4, 5] [.dat (.int .i64 3), .dat (.int .i64 p), .dat (.bool leave), .ptr 0 0, .dat (.int .i64 3), .dat (.int .i64 1)] s.h rfl rfl rfl rfl (hin_cons rfl (hin_cons rfl (hin_cons rfl (hin_cons rfl (hin_cons rfl (hin_cons rfl hin_nil)))))) ?_
  refine loopA_round ok (dr (plOf []) _) ?_
  refine condA_true rfl ?_
  refine loop_in [0, 1, 2, 7, 8, 30, 31, 34, 35] [0, 1, 2, 3, 4, 5] [.dat (.int .i64 3), .dat (.int .i64 p), .dat (.bool leave), .ptr 0 0, .dat (.int .i64 1), .dat (.int .i64 3), .dat (.int .i64 1), .dat (.int .i64 3), .dat (.int .i64 0)] s.h rfl rfl rfl rfl (hin_cons rfl (hin_cons rfl (hin_cons rfl (hin_cons rfl (hin_cons rfl (hin_cons rfl hin_nil)))))) ?_
  refine loopA_round ok (dr (plOf []) _) ?_
  refine condA_true rfl ?_
  rcases run with _ | ⟨g, h, run⟩
  refine call_can ?_
  refine call_at [0, 1, 2, 3, 4, 5] (do_step L g (subC 1 0 0 0) (subC_OK _ _ _ _) h _ ?_) rfl rfl rfl rfl
  clear g h
  rename_i s _
  refine loop_in [0, 1, 2, 7, 8, 30, 31, 34, 35] [0, 1, 2, 3, 4, 5] [.dat (.int .i64 3), .dat (.int .i64 p), .dat (.bool leave), .ptr 0 0, .dat (.int .i64 1), .dat (.int .i64 3), .dat (.int .i64 1), .dat (.int .i64 3), .dat (.int .i64 1)] s.h rfl rfl rfl rfl (hin_cons rfl (hin_cons rfl (hin_cons rfl (hin_cons rfl (hin_cons rfl (hin_cons rfl hin_nil)))))) ?_
  refine loopA_round ok (dr (plOf []) _) ?_
  refine condA_true rfl ?_
  rcases run with _ | ⟨g, h, run⟩
  refine call_can ?_
  refine call_at [0, 1, 2, 3, 4, 5] (do_step L g (subC 1 1 0 0) (subC_OK _ _ _ _) h _ ?_) rfl rfl rfl rfl
  clear g h
  rename_i s _
  refine loop_in [0, 1, 2, 7, 8, 30, 31, 34, 35] [0, 1, 2, 3, 4, 5] [.dat (.int .i64 3), .dat (.int .i64 p), .dat (.bool leave), .ptr 0 0, .dat (.int .i64 1), .dat (.int .i64 3), .dat (.int .i64 1), .dat (.int .i64 3), .dat (.int .i64 2)] s.h rfl rfl rfl rfl (hin_cons rfl (hin_cons rfl (hin_cons rfl (hin_cons rfl (hin_cons rfl (hin_cons rfl hin_nil)))))) ?_
  refine loopA_round ok (dr (plOf []) _) ?_
  refine condA_true rfl ?_
  rcases run with _ | ⟨g, h, run⟩
  refine call_can ?_
  refine call_at [0, 1, 2, 3, 4, 5] (do_step L g (subC 1 2 0 0) (subC_OK _ _ _ _) h _ ?_) rfl rfl rfl rfl
  clear g h
  rename_i s _
  refine loop_in [0, 1, 2, 7, 8, 30, 31, 34, 35] [0, 1, 2, 3, 4, 5] [.dat (.int .i64 3), .dat (.int .i64 p), .dat (.bool leave), .ptr 0 0, .dat (.int .i64 1), .dat (.int .i64 3), .dat (.int .i64 1), .dat (.int .i64 3), .dat (.int .i64 3)] s.h rfl rfl rfl rfl (hin_cons rfl (hin_cons rfl (hin_cons rfl (hin_cons rfl (hin_cons rfl (hin_cons rfl hin_nil)))))) ?_
  refine loopA_round ok (dr (plOf []) _) ?_
  refine condA_false rfl ?_
  refine loop_in [0, 1, 2, 7, 30, 31] [0, 1, 2, 3, 4, 5] [.dat (.int .i64 3), .dat (.int .i64 p), .dat (.bool leave), .ptr 0 0, .dat (.int .i64 3), .dat (.int .i64 2)] s.h rfl rfl rfl rfl (hin_cons rfl (hin_cons rfl (hin_cons rfl (hin_cons rfl (hin_cons rfl (hin_cons rfl hin_nil)))))) ?_
  refine loopA_round ok (dr (plOf []) _) ?_
  refine condA_true rfl ?_
  refine loop_in [0, 1, 2, 7, 8, 30, 31, 34, 35] [0, 1, 2, 3, 4, 5] [.dat (.int .i64 3), .dat (.int .i64 p), .dat (.bool leave), .ptr 0 0, .dat (.int .i64 2), .dat (.int .i64 3), .dat (.int .i64 2), .dat (.int .i64 3), .dat (.int .i64 0)] s.h rfl rfl rfl rfl (hin_cons rfl (hin_cons rfl (hin_cons rfl (hin_cons rfl (hin_cons rfl (hin_cons rfl hin_nil)))))) ?_
  refine loopA_round ok (dr (plOf []) _) ?_
  refine condA_true rfl ?_
  rcases run with _ | ⟨g, h, run⟩
  refine call_can ?_
  refine call_at [0, 1, 2, 3, 4, 5] (do_step L g (subC 2 0 0 0) (subC_OK _ _ _ _) h _ ?_) rfl rfl rfl rfl
  clear g h
  rename_i s _
  refine loop_in [0, 1, 2, 7, 8, 30, 31, 34, 35] [0, 1, 2, 3, 4, 5] [.dat (.int .i64 3), .dat (.int .i64 p), .dat (.bool leave), .ptr 0 0, .dat (.int .i64 2), .dat (.int .i64 3), .dat (.int .i64 2), .dat (.int .i64 3), .dat (.int .i64 1)] s.h rfl rfl rfl rfl (hin_cons rfl (hin_cons rfl (hin_cons rfl (hin_cons rfl (hin_cons rfl (hin_cons rfl hin_nil)))))) ?_
  refine loopA_round ok (dr (plOf []) _) ?_
  refine condA_true rfl ?_
  rcases run with _ | ⟨g, h, run⟩
  refine call_can ?_
  refine call_at [0, 1, 2, 3, 4, 5] (do_step L g (subC 2 1 0 0) (subC_OK _ _ _ _) h _ ?_) rfl rfl rfl rfl
  clear g h
  rename_i s _
  refine loop_in [0, 1, 2, 7, 8, 30, 31, 34, 35] [0, 1, 2, 3, 4, 5] [.dat (.int .i64 3), .dat (.int .i64 p), .dat (.bool leave), .ptr 0 0, .dat (.int .i64 2), .dat (.int .i64 3), .dat (.int .i64 2), .dat (.int .i64 3), .dat (.int .i64 2)] s.h rfl rfl rfl rfl (hin_cons rfl (hin_cons rfl (hin_cons rfl (hin_cons rfl (hin_cons rfl (hin_cons rfl hin_nil)))))) ?_
  refine loopA_round ok (dr (plOf []) _) ?_
  refine condA_true rfl ?_
  rcases run with _ | ⟨g, h, run⟩
  refine call_can ?_
  refine call_at [0, 1, 2, 3, 4, 5] (do_step L g (subC 2 2 0 0) (subC_OK _ _ _ _) h _ ?_) rfl rfl rfl rfl
  clear g h
  rename_i s _
  refine loop_in [0, 1, 2, 7, 8, 30, 31, 34, 35] [0, 1, 2, 3, 4, 5] [.dat (.int .i64 3), .dat (.int .i64 p), .dat (.bool leave), .ptr 0 0, .dat (.int .i64 2), .dat (.int .i64 3), .dat (.int .i64 2), .dat (.int .i64 3), .dat (.int .i64 3)] s.h rfl rfl rfl rfl (hin_cons rfl (hin_cons rfl (hin_cons rfl (hin_cons rfl (hin_cons rfl (hin_cons rfl hin_nil)))))) ?_
  refine loopA_round ok (dr (plOf []) _) ?_
  refine condA_false rfl ?_
  refine loop_in [0, 1, 2, 7, 30, 31] [0, 1, 2, 3, 4, 5] [.dat (.int .i64 3), .dat (.int .i64 p), .dat (.bool leave), .ptr 0 0, .dat (.int .i64 3), .dat (.int .i64 3)] s.h rfl rfl rfl rfl (hin_cons rfl (hin_cons rfl (hin_cons rfl (hin_cons rfl (hin_cons rfl (hin_cons rfl hin_nil)))))) ?_
  refine loopA_round ok (dr (plOf []) _) ?_
  refine condA_false rfl ?_
  cases run
  unfold goneP at fact
  simp only [Bool.and_eq_true, beq_iff_eq, decide_eq_true_eq] at fact
  obtain ⟨⟨⟨⟨⟨⟨f1, f2⟩, f3⟩, f4⟩, f5⟩, f6⟩, f7⟩ := fact
  have g1 := gz.next (by decide) (goC leave p)
  have g2 := g1.next (by decide) (takeC (nextP 3 p) p)
  have d1 := doM_up gz.up (goC leave p)
  have d2 := doM_up g1.up (takeC (nextP 3 p) p)
  generalize doP z (goC leave p) = r1 at f3 f4 f5 f6 f7 g1 g2 d1 d2
  obtain ⟨⟨n1, x1⟩, z1⟩ := r1
  dsimp only at f3 f4 f5 f6 f7 g1 g2 d2
  generalize doP z1 (takeC (nextP 3 p) p) = r2 at f6 f7 g2 d2
  obtain ⟨⟨n2, x2⟩, z2⟩ := r2
  dsimp only at f6 f7 g2
  subst f3 f6
  have l1 : ((z.links.length : Nat) : Int) = IntKind.i64.wrap (3 * IntKind.i64.wrap (3 - 1)) := by rw [links_length]; exact f1
  have w1 : ((wantsOf ((p : Int), 0) z.links).length : Int) = IntKind.i64.wrap (3 - 1) := by rw [wants_length]; exact f2
  have l2 : ((z1.links.length : Nat) : Int) = want 3 leave := by rw [links_length]; exact f4
  have w2 : (wantsOf ((p : Int), 0) z1.links).length = 0 := by rw [wants_length]; exact f5
  refine call_at [0, 1, 2, 3, 4, 5] (links_ok z gz.ok _ ?_) rfl rfl rfl rfl
  have wk := fun K => wants_ok (w0 := w0) z gz.ok ((p : Int), 0) K
  generalize wantsOf ((p : Int), 0) z.links = W1 at w1 wk
  cases hx : z.links with
  | nil => rw [hx] at l1; exact absurd l1 (by decide)
  | cons x xs =>
  rw [hx] at l1
  have c1 := bne_false l1
  have nc1 := bne_not l1
  repeat (first | (refine condA_true ?_ ?_; focus (first | rfl | exact c1 | exact nc1)) | (refine condA_false ?_ ?_; focus (first | rfl | exact c1 | exact nc1)))
  refine call_can ?_
  refine call_at [0, 1, 2, 3, 4, 5] (wk _ ?_) rfl rfl rfl rfl
  cases W1 with
  | nil => exact absurd w1 (by decide)
  | cons y ys =>
  have c2 := bne_false w1
  have nc2 := bne_not w1
  repeat (first | (refine condA_true ?_ ?_; focus (first | rfl | exact c1 | exact nc1 | exact c2 | exact nc2)) | (refine condA_false ?_ ?_; focus (first | rfl | exact c1 | exact nc1 | exact c2 | exact nc2)))
  have lk1 := fun K => links_ok (w0 := w0) z1 g1.ok K
  have wk1 := fun K => wants_ok (w0 := w0) z1 g1.ok ((p : Int), 0) K
  rw [List.eq_nil_of_length_eq_zero w2] at wk1
  generalize z1.links = L1 at l2 lk1
  cases leave
  all_goals
    repeat (first | (refine condA_true ?_ ?_; focus (first | rfl)) | (refine condA_false ?_ ?_; focus (first | rfl)))
    refine call_can ?_
    first
      | refine call_at [0, 1, 2, 3, 4, 5] (do_step L gz.ok (unpubC p) (unpubC_OK _) d1 _ ?_) rfl rfl rfl rfl
      | refine call_at [0, 1, 2, 3, 4, 5] (do_step L gz.ok (leaveC p) (leaveC_OK _) d1 _ ?_) rfl rfl rfl rfl
    repeat (first | (refine condA_true ?_ ?_; focus (first | rfl)) | (refine condA_false ?_ ?_; focus (first | rfl)))
    refine call_at [0, 1, 2, 3, 4, 5] (lk1 _ ?_) rfl rfl rfl rfl
    cases L1
    all_goals try exact absurd l2 (by decide)
    all_goals try (exfalso; have h0 : want 3 true = 0 := by decide
                   simp only [List.length_cons] at l2
                   omega)
    all_goals
      have c3 := bne_false l2
      have nc3 := bne_not l2
      repeat (first | (refine condA_true ?_ ?_; focus (first | rfl | exact c3 | exact nc3)) | (refine condA_false ?_ ?_; focus (first | rfl | exact c3 | exact nc3)))
      refine call_can ?_
      refine call_at [0, 1, 2, 3, 4, 5] (wk1 _ ?_) rfl rfl rfl rfl
      repeat (first | (refine condA_true ?_ ?_; focus (first | rfl | exact c3 | exact nc3)) | (refine condA_false ?_ ?_; focus (first | rfl | exact c3 | exact nc3)))
      refine req ?_ ?_
      · decide
      refine CallA.shift (shift_frz' 7 (u32s [src2 p]) rfl rfl (shift_id ?_))
      refine call_can ?_
      refine call_at [0, 1, 2, 3, 4, 5] (do_step L g1.ok (takeC (nextP 3 p) p) (takeC_OK _ _) d2 _ ?_) rfl rfl rfl rfl
      refine call_at [0, 1, 2, 3, 4, 5] (source_ok z2 (src2 p) _ ?_) rfl rfl rfl rfl
      simp only [srcR, f7]
      repeat (first | (refine condA_true ?_ ?_; focus (first | rfl)) | (refine condA_false ?_ ?_; focus (first | rfl)))
      refine leaf [] (.dat (.bool true)) [] ?_ rfl rfl rfl rfl hk
      show AV.dat (.bool true) = AV.dat (.bool ((nextP 3 p == nextP 3 p) && ((2 : Int) == 2 && ((0 : Int) == 0 && true))))
      simp
set_option maxHeartbeats 4000000 in
theorem gone_walk4 (L : Laid w0) (n w : Int) (leave : Bool) (hn : goneN n = 4) (K : AV → Heap → Prop) (hk : K (.dat (.bool true)) []) : CallA (cx w0) 7 [.dat (.int .i64 n), .dat (.int .i64 w), .dat (.bool leave)] [] K := by
  obtain ⟨p, hp, ep⟩ := whoP w 4 (by decide)
  have ep : (and255 w).tmod 4 = (p : Int) := ep
  obtain ⟨codes, facts⟩ := gone4
  obtain ⟨run, good⟩ := gone_run 4 (by decide) codes (by decide +kernel)
  have fact : goneP (goneS 4).2 4 p leave = true := by
    have h1 : (p : Int) ∈ [0, 1, 2, 3] := by
      have : p = 0 ∨ p = 1 ∨ p = 2 ∨ p = 3 := by omega
      rcases this with rfl | rfl | rfl | rfl <;> simp
    have h2 : leave ∈ [false, true] := by cases leave <;> simp
    exact List.all_eq_true.1 (List.all_eq_true.1 facts _ h1) _ h2
  clear codes facts
  refine CallA.ret ?_
  refine CallA.enter ok (dr (plOf [])) Tryz.func7 Tryz.call7 ?_
  refine call_at [] (awake_ok L _ ?_) rfl rfl rfl rfl
  repeat (first | (refine condA_true ?_ ?_; focus (first | rfl | (simp; done) | (simp; omega))) | (refine condA_false ?_ ?_; focus (first | rfl | (simp; done) | (simp; omega))))
  refine call_at [] (hall_ok L (goneN n) _ (fun mm hm => ?_)) rfl rfl rfl rfl
  obtain rfl : mm = 4 := by
    rw [hn] at hm
    have : clip 4 = 4 := by decide
    omega
  clear hm
  have gz := good
  generalize (goneS 4).2 = z at run good fact gz
  generalize hallM 4 = s at run ⊢
  replace run : Run s [subC 0 0 0 0, subC 0 1 0 0, subC 0 2 0 0, subC 0 3 0 0, subC 1 0 0 0, subC 1 1 0 0, subC 1 2 0 0, subC 1 3 0 0, subC 2 0 0 0, subC 2 1 0 0, subC 2 2 0 0, subC 2 3 0 0, subC 3 0 0 0, subC 3 1 0 0, subC 3 2 0 0, subC 3 3 0 0] [15, 0, 0, 0, 0, 15, 0, 0, 0, 0, 15, 0, 0, 0, 0, 15] z := run
  refine req (show goneN n ≠ 0 by rw [hn]; decide) ?_
  refine loop_in [0, 1, 2, 7, 30, 31] [0, 1, 2, 3, 4, 5] [.dat (.int .i64 (goneN n)), .dat (.int .i64 ((and255 w).tmod (goneN n))), .dat (.bool leave), .ptr 0 0, .dat (.int .i64 (goneN n)), .dat (.int .i64 0)] s.h rfl rfl rfl rfl (hin_cons rfl (hin_cons rfl (hin_cons rfl (hin_cons rfl (hin_cons rfl (hin_cons rfl hin_nil)))))) ?_
  rw [hn, ep]
  refine loopA_round ok (dr (plOf []) _) ?_
  refine condA_true rfl ?_
  refine loop_in [0, 1, 2, 7, 8, 30, 31, 34, 35] [0, 1, 2, 3, 4, 5] [.dat (.int .i64 4), .dat (.int .i64 p), .dat (.bool leave), .ptr 0 0, .dat (.int .i64 0), .dat (.int .i64 4), .dat (.int .i64 0), .dat (.int .i64 4), .dat (.int .i64 0)] s.h rfl rfl rfl rfl (hin_cons rfl (hin_cons rfl (hin_cons rfl (hin_cons rfl (hin_cons rfl (hin_cons rfl hin_nil)))))) ?_
  refine loopA_round ok (dr (plOf []) _) ?_
  refine condA_true rfl ?_
  rcases run with _ | ⟨g, h, run⟩
  refine call_can ?_
  refine call_at [0, 1, 2, 3, 4, 5] (do_step L g (subC 0 0 0 0) (subC_OK _ _ _ _) h _ ?_) rfl rfl rfl rfl
  clear g h
  rename_i s _
  refine loop_in [0, 1, 2, 7, 8, 30, 31, 34, 35] [0, 1, 2, 3, 4, 5] [.dat (.int .i64 4), .dat (.int .i64 p), .dat (.bool leave), .ptr 0 0, .dat (.int .i64 0), .dat (.int .i64 4), .dat (.int .i64 0), .dat (.int .i64 4), .dat (.int .i64 1)] s.h rfl rfl rfl rfl (hin_cons rfl (hin_cons rfl (hin_cons rfl (hin_cons rfl (hin_cons rfl (hin_cons rfl hin_nil)))))) ?_
  refine loopA_round ok (dr (plOf []) _) ?_
  refine condA_true rfl ?_
  rcases run with _ | ⟨g, h, run⟩
  refine call_can ?_
  refine call_at [0, 1, 2, 3, 4, 5] (do_step L g (subC 0 1 0 0) (subC_OK _ _ _ _) h _ ?_) rfl rfl rfl rfl
  clear g h
  rename_i s _
  refine loop_in [0, 1, 2, 7, 8, 30, 31, 34, 35] [0, 1, 2, 3, 4, 5] [.dat (.int .i64 4), .dat (.int .i64 p), .dat (.bool leave), .ptr 0 0, .dat (.int .i64 0), .dat (.int .i64 4), .dat (.int .i64 0), .dat (.int .i64 4), .dat (.int .i64 2)] s.h rfl rfl rfl rfl (hin_cons rfl (hin_cons rfl (hin_cons rfl (hin_cons rfl (hin_cons rfl (hin_cons rfl hin_nil)))))) ?_
  refine loopA_round ok (dr (plOf []) _) ?_
  refine condA_true rfl ?_
  rcases run with _ | ⟨g, h, run⟩
  refine call_can ?_
  refine call_at [0, 1, 2, 3, 4, 5] (do_step L g (subC 0 2 0 0) (subC_OK _ _ _ _) h _ ?_) rfl rfl rfl rfl
  clear g h
  rename_i s _
  refine loop_in [0, 1, 2, 7, 8, 30, 31, 34, 35] [0, 1, 2, 3, 4, 5] [.dat (.int .i64 4), .dat (.int .i64 p), .dat (.bool leave), .ptr 0 0, .dat (.int .i64 0), .dat (.int .i64 4), .dat (.int .i64 0), .dat (.int .i64 4), .dat (.int .i64 3)] s.h rfl rfl rfl rfl (hin_cons rfl (hin_cons rfl (hin_cons rfl (hin_cons rfl (hin_cons rfl (hin_cons rfl hin_nil)))))) ?_
  refine loopA_round ok (dr (plOf []) _) ?_
  refine condA_true rfl ?_
  rcases run with _ | ⟨g, h, run⟩
  refine call_can ?_
  refine call_at [0, 1, 2, 3, 4, 5] (do_step L g (subC 0 3 0 0) (subC_OK _ _ _ _) h _ ?_) rfl rfl rfl rfl
  clear g h
  rename_i s _
  refine loop_in [0, 1, 2, 7, 8, 30, 31, 34, 35] [0, 1, 2, 3, 4, 5] [.dat (.int .i64 4), .dat (.int .i64 p), .dat (.bool leave), .ptr 0 0, .dat (.int .i64 0), .dat (.int .i64 4), .dat (.int .i64 0), .dat (.int .i64 4), .dat (.int .i64 4)] s.h rfl rfl rfl rfl (hin_cons rfl (hin_cons rfl (hin_cons rfl (hin_cons rfl (hin_cons rfl (hin_cons rfl hin_nil)))))) ?_
  refine loopA_round ok (dr (plOf []) _) ?_
  refine condA_false rfl ?_
  refine loop_in [0, 1, 2, 7, 30, 31] [0, 1, 2, 3, 4, 5] [.dat (.int .i64 4), .dat (.int .i64 p), .dat (.bool leave), .ptr 0 0, .dat (.int .i64 4), .dat (.int .i64 1)] s.h rfl rfl rfl rfl (hin_cons rfl (hin_cons rfl (hin_cons rfl (hin_cons rfl (hin_cons rfl (hin_cons rfl hin_nil)))))) ?_
  refine loopA_round ok (dr (plOf []) _) ?_
  refine condA_true rfl ?_
  refine loop_in [0, 1, 2, 7, 8, 30, 31, 34, 35] [0, 1, 2, 3, 4, 5] [.dat (.int .i64 4), .dat (.int .i64 p), .dat (.bool leave), .ptr 0 0, .dat (.int .i64 1), .dat (.int .i64 4), .dat (.int .i64 1), .dat (.int .i64 4), .dat (.int .i64 0)] s.h rfl rfl rfl rfl (hin_cons rfl (hin_cons rfl (hin_cons rfl (hin_cons rfl (hin_cons rfl (hin_cons rfl hin_nil)))))) ?_
  refine loopA_round ok (dr (plOf []) _) ?_
  refine condA_true rfl ?_
  rcases run with _ | ⟨g, h, run⟩
  refine call_can ?_
  refine call_at [0, 1, 2, 3, 4, 5] (do_step L g (subC 1 0 0 0) (subC_OK _ _ _ _) h _ ?_) rfl rfl rfl rfl
  clear g h
  rename_i s _
  refine loop_in [0, 1, 2, 7, 8, 30, 31, 34, 35] [0, 1, 2, 3, 4, 5] [.dat (.int .i64 4), .dat (.int .i64 p), .dat (.bool leave), .ptr 0 0, .dat (.int .i64 1), .dat (.int .i64 4), .dat (.int .i64 1), .dat (.int .i64 4), .dat (.int .i64 1)] s.h rfl rfl rfl rfl (hin_cons rfl (hin_cons rfl (hin_cons rfl (hin_cons rfl (hin_cons rfl (hin_cons rfl hin_nil)))))) ?_
  refine loopA_round ok (dr (plOf []) _) ?_
  refine condA_true rfl ?_
  rcases run with _ | ⟨g, h, run⟩
  refine call_can ?_
  refine call_at [0, 1, 2, 3, 4, 5] (do_step L g (subC 1 1 0 0) (subC_OK _ _ _ _) h _ ?_) rfl rfl rfl rfl
  clear g h
  rename_i s _
  refine loop_in [0, 1, 2, 7, 8, 30, 31, 34, 35] [0, 1, 2, 3, 4, 5] [.dat (.int .i64 4), .dat (.int .i64 p), .dat (.bool leave), .ptr 0 0, .dat (.int .i64 1), .dat (.int .i64 4), .dat (.int .i64 1), .dat (.int .i64 4), .dat (.int .i64 2)] s.h rfl rfl rfl rfl (hin_cons rfl (hin_cons rfl (hin_cons rfl (hin_cons rfl (hin_cons rfl (hin_cons rfl hin_nil)))))) ?_
  refine loopA_round ok (dr (plOf []) _) ?_
  refine condA_true rfl ?_
  rcases run with _ | ⟨g, h, run⟩
  refine call_can ?_
  refine call_at [0, 1, 2, 3, 4, 5] (do_step L g (subC 1 2 0 0) (subC_OK _ _ _ _) h _ ?_) rfl rfl rfl rfl
  clear g h
  rename_i s _
  refine loop_in [0, 1, 2, 7, 8, 30, 31, 34, 35] [0, 1, 2, 3, 4, 5] [.dat (.int .i64 4), .dat (.int .i64 p), .dat (.bool leave), .ptr 0 0, .dat (.int .i64 1), .dat (.int .i64 4), .dat (.int .i64 1), .dat (.int .i64 4), .dat (.int .i64 3)] s.h rfl rfl rfl rfl (hin_cons rfl (hin_cons rfl (hin_cons rfl (hin_cons rfl (hin_cons rfl (hin_cons rfl hin_nil)))))) ?_
  refine loopA_round ok (dr (plOf []) _) ?_
  refine condA_true rfl ?_
  rcases run with _ | ⟨g, h, run⟩
  refine call_can ?_
  refine call_at [0, 1, 2, 3, 4, 5] (do_step L g (subC 1 3 0 0) (subC_OK _ _ _ _) h _ ?_) rfl rfl rfl rfl
  clear g h
  rename_i s _
  refine loop_in [0, 1, 2, 7, 8, 30, 31, 34, 35] [0, 1, 2, 3, 4, 5] [.dat (.int .i64 4), .dat (.int .i64 p), .dat (.bool leave), .ptr 0 0, .dat (.int .i64 1), .dat (.int .i64 4), .dat (.int .i64 1), .dat (.int .i64 4), .dat (.int .i64 4)] s.h rfl rfl rfl rfl (hin_cons rfl (hin_cons rfl (hin_cons rfl (hin_cons rfl (hin_cons rfl (hin_cons rfl hin_nil)))))) ?_
  refine loopA_round ok (dr (plOf []) _) ?_
  refine condA_false rfl ?_
  refine loop_in [0, 1, 2, 7, 30, 31] [0, 1, 2, 3, 4, 5] [.dat (.int .i64 4), .dat (.int .i64 p), .dat (.bool leave), .ptr 0 0, .dat (.int .i64 4), .dat (.int .i64 2)] s.h rfl rfl rfl rfl (hin_cons rfl (hin_cons rfl (hin_cons rfl (hin_cons rfl (hin_cons rfl (hin_cons rfl hin_nil)))))) ?_
  refine loopA_round ok (dr (plOf []) _) ?_
  refine condA_true rfl ?_
  refine loop_in [0, 1, 2, 7, 8, 30, 31, 34, 35] [0, 1, 2, 3, 4, 5] [.dat (.int .i64 4), .dat (.int .i64 p), .dat (.bool leave), .ptr 0 0, .dat (.int .i64 2), .dat (.int .i64 4), .dat (.int .i64 2), .dat (.int .i64 4), .dat (.int .i64 0)] s.h rfl rfl rfl rfl (hin_cons rfl (hin_cons rfl (hin_cons rfl (hin_cons rfl (hin_cons rfl (hin_cons rfl hin_nil)))))) ?_
  refine loopA_round ok (dr (plOf []) _) ?_
  refine condA_true rfl ?_
  rcases run with _ | ⟨g, h, run⟩
  refine call_can ?_
  refine call_at [0, 1, 2, 3, 4, 5] (do_step L g (subC 2 0 0 0) (subC_OK _ _ _ _) h _ ?_) rfl rfl rfl rfl
  clear g h
  rename_i s _
  refine loop_in [0, 1, 2, 7, 8, 30, 31, 34, 35] [0, 1, 2, 3, 4, 5] [.dat (.int .i64 4), .dat (.int .i64 p), .dat (.bool leave), .ptr 0 0, .dat (.int .i64 2), .dat (.int .i64 4), .dat (.int .i64 2), .dat (.int .i64 4), .dat (.int .i64 1)] s.h rfl rfl rfl rfl (hin_cons rfl (hin_cons rfl (hin_cons rfl (hin_cons rfl (hin_cons rfl (hin_cons rfl hin_nil)))))) ?_
  refine loopA_round ok (dr (plOf []) _) ?_
  refine condA_true rfl ?_
  rcases run with _ | ⟨g, h, run⟩
  refine call_can ?_
  refine call_at [0, 1, 2, 3, 4, 5] (do_step L g (subC 2 1 0 0) (subC_OK _ _ _ _) h _ ?_) rfl rfl rfl rfl
  clear g h
  rename_i s _
  refine loop_in [0, 1, 2, 7, 8, 30, 31, 34, 35] [0, 1, 2, 3, 4, 5] [.dat (.int .i64 4), .dat (.int .i64 p), .dat (.bool leave), .ptr 0 0, .dat (.int .i64 2), .dat (.int .i64 4), .dat (.int .i64 2), .dat (.int .i64 4), .dat (.int .i64 2)] s.h rfl rfl rfl rfl (hin_cons rfl (hin_cons rfl (hin_cons rfl (hin_cons rfl (hin_cons rfl (hin_cons rfl hin_nil)))))) ?_
  refine loopA_round ok (dr (plOf []) _) ?_
  refine condA_true rfl ?_
  rcases run with _ | ⟨g, h, run⟩
  refine call_can ?_
  refine call_at [0, 1, 2, 3, 4, 5] (do_step L g (subC 2 2 0 0) (subC_OK _ _ _ _) h _ ?_) rfl rfl rfl rfl
  clear g h
  rename_i s _
  refine loop_in [0, 1, 2, 7, 8, 30, 31, 34, 35] [0, 1, 2, 3, 4, 5] [.dat (.int .i64 4), .dat (.int .i64 p), .dat (.bool leave), .ptr 0 0, .dat (.int .i64 2), .dat (.int .i64 4), .dat (.int .i64 2), .dat (.int .i64 4), .dat (.int .i64 3)] s.h rfl rfl rfl rfl (hin_cons rfl (hin_cons rfl (hin_cons rfl (hin_cons rfl (hin_cons rfl (hin_cons rfl hin_nil)))))) ?_
  refine loopA_round ok (dr (plOf []) _) ?_
  refine condA_true rfl ?_
  rcases run with _ | ⟨g, h, run⟩
  refine call_can ?_
  refine call_at [0, 1, 2, 3, 4, 5] (do_step L g (subC 2 3 0 0) (subC_OK _ _ _ _) h _ ?_) rfl rfl rfl rfl
  clear g h
  rename_i s _
  refine loop_in [0, 1, 2, 7, 8, 30, 31, 34, 35] [0, 1, 2, 3, 4, 5] [.dat (.int .i64 4), .dat (.int .i64 p), .dat (.bool leave), .ptr 0 0, .dat (.int .i64 2), .dat (.int .i64 4), .dat (.int .i64 2), .dat (.int .i64 4), .dat (.int .i64 4)] s.h rfl rfl rfl rfl (hin_cons rfl (hin_cons rfl (hin_cons rfl (hin_cons rfl (hin_cons rfl (hin_cons rfl hin_nil)))))) ?_
  refine loopA_round ok (dr (plOf []) _) ?_
  refine condA_false rfl ?_
  refine loop_in [0, 1, 2, 7, 30, 31] [0, 1, 2, 3, 4, 5] [.dat (.int .i64 4), .dat (.int .i64 p), .dat (.bool leave), .ptr 0 0, .dat (.int .i64 4), .dat (.int .i64 3)] s.h rfl rfl rfl rfl (hin_cons rfl (hin_cons rfl (hin_cons rfl (hin_cons rfl (hin_cons rfl (hin_cons rfl hin_nil)))))) ?_
  refine loopA_round ok (dr (plOf []) _) ?_
  refine condA_true rfl ?_
  refine loop_in [0, 1, 2, 7, 8, 30, 31, 34, 35] [0, 1, 2, 3, 4, 5] [.dat (.int .i64 4), .dat (.int .i64 p), .dat (.bool leave), .ptr 0 0, .dat (.int .i64 3), .dat (.int .i64 4), .dat (.int .i64 3), .dat (.int .i64 4), .dat (.int .i64 0)] s.h rfl rfl rfl rfl (hin_cons rfl (hin_cons rfl (hin_cons rfl (hin_cons rfl (hin_cons rfl (hin_cons rfl hin_nil)))))) ?_
  refine loopA_round ok (dr (plOf []) _) ?_
  refine condA_true rfl ?_
  rcases run with _ | ⟨g, h, run⟩
  refine call_can ?_
  refine call_at [0, 1, 2, 3, 4, 5] (do_step L g (subC 3 0 0 0) (subC_OK _ _ _ _) h _ ?_) rfl rfl rfl rfl
  clear g h
  rename_i s _
  refine loop_in [0, 1, 2, 7, 8, 30, 31, 34, 35] [0, 1, 2, 3, 4, 5] [.dat (.int .i64 4), .dat (.int .i64 p), .dat (.bool leave), .ptr 0 0, .dat (.int .i64 3), .dat (.int .i64 4), .dat (.int .i64 3), .dat (.int .i64 4), .dat (.int .i64 1)] s.h rfl rfl rfl rfl (hin_cons rfl (hin_cons rfl (hin_cons rfl (hin_cons rfl (hin_cons rfl (hin_cons rfl hin_nil)))))) ?_
  refine loopA_round ok (dr (plOf []) _) ?_
  refine condA_true rfl ?_
  rcases run with _ | ⟨g, h, run⟩
  refine call_can ?_
  refine call_at [0, 1, 2, 3, 4, 5] (do_step L g (subC 3 1 0 0) (subC_OK _ _ _ _) h _ ?_) rfl rfl rfl rfl
  clear g h
  rename_i s _
  refine loop_in [0, 1, 2, 7, 8, 30, 31, 34, 35] [0, 1, 2, 3, 4, 5] [.dat (.int .i64 4), .dat (.int .i64 p), .dat (.bool leave), .ptr 0 0, .dat (.int .i64 3), .dat (.int .i64 4), .dat (.int .i64 3), .dat (.int .i64 4), .dat (.int .i64 2)] s.h rfl rfl rfl rfl (hin_cons rfl (hin_cons rfl (hin_cons rfl (hin_cons rfl (hin_cons rfl (hin_cons rfl hin_nil)))))) ?_
  refine loopA_round ok (dr (plOf []) _) ?_
  refine condA_true rfl ?_
  rcases run with _ | ⟨g, h, run⟩
  refine call_can ?_
  refine call_at [0, 1, 2, 3, 4, 5] (do_step L g (subC 3 2 0 0) (subC_OK _ _ _ _) h _ ?_) rfl rfl rfl rfl
  clear g h
  rename_i s _
  refine loop_in [0, 1, 2, 7, 8, 30, 31, 34, 35] [0, 1, 2, 3, 4, 5] [.dat (.int .i64 4), .dat (.int .i64 p), .dat (.bool leave), .ptr 0 0, .dat (.int .i64 3), .dat (.int .i64 4), .dat (.int .i64 3), .dat (.int .i64 4), .dat (.int .i64 3)] s.h rfl rfl rfl rfl (hin_cons rfl (hin_cons rfl (hin_cons rfl (hin_cons rfl (hin_cons rfl (hin_cons rfl hin_nil)))))) ?_
  refine loopA_round ok (dr (plOf []) _) ?_
  refine condA_true rfl ?_
  rcases run with _ | ⟨g, h, run⟩
  refine call_can ?_
  refine call_at [0, 1, 2, 3, 4, 5] (do_step L g (subC 3 3 0 0) (subC_OK _ _ _ _) h _ ?_) rfl rfl rfl rfl
  clear g h
  rename_i s _
  refine loop_in [0, 1, 2, 7, 8, 30, 31, 34, 35] [0, 1, 2, 3, 4, 5] [.dat (.int .i64 4), .dat (.int .i64 p), .dat (.bool leave), .ptr 0 0, .dat (.int .i64 3), .dat (.int .i64 4), .dat (.int .i64 3), .dat (.int .i64 4), .dat (.int .i64 4)] s.h rfl rfl rfl rfl (hin_cons rfl (hin_cons rfl (hin_cons rfl (hin_cons rfl (hin_cons rfl (hin_cons rfl hin_nil)))))) ?_
  refine loopA_round ok (dr (plOf []) _) ?_
  refine condA_false rfl ?_
  refine loop_in [0, 1, 2, 7, 30, 31] [0, 1, 2, 3, 4, 5] [.dat (.int .i64 4), .dat (.int .i64 p), .dat (.bool leave), .ptr 0 0, .dat (.int .i64 4), .dat (.int .i64 4)] s.h rfl rfl rfl rfl (hin_cons rfl (hin_cons rfl (hin_cons rfl (hin_cons rfl (hin_cons rfl (hin_cons rfl hin_nil)))))) ?_
  refine loopA_round ok (dr (plOf []) _) ?_
  refine condA_false rfl ?_
  cases run
  unfold goneP at fact
  simp only [Bool.and_eq_true, beq_iff_eq, decide_eq_true_eq] at fact
  obtain ⟨⟨⟨⟨⟨⟨f1, f2⟩, f3⟩, f4⟩, f5⟩, f6⟩, f7⟩ := fact
  have g1 := gz.next (by decide) (goC leave p)
  have g2 := g1.next (by decide) (takeC (nextP 4 p) p)
  have d1 := doM_up gz.up (goC leave p)
  have d2 := doM_up g1.up (takeC (nextP 4 p) p)
  generalize doP z (goC leave p) = r1 at f3 f4 f5 f6 f7 g1 g2 d1 d2
  obtain ⟨⟨n1, x1⟩, z1⟩ := r1
  dsimp only at f3 f4 f5 f6 f7 g1 g2 d2
  generalize doP z1 (takeC (nextP 4 p) p) = r2 at f6 f7 g2 d2
  obtain ⟨⟨n2, x2⟩, z2⟩ := r2
  dsimp only at f6 f7 g2
  subst f3 f6
  have l1 : ((z.links.length : Nat) : Int) = IntKind.i64.wrap (4 * IntKind.i64.wrap (4 - 1)) := by rw [links_length]; exact f1
  have w1 : ((wantsOf ((p : Int), 0) z.links).length : Int) = IntKind.i64.wrap (4 - 1) := by rw [wants_length]; exact f2
  have l2 : ((z1.links.length : Nat) : Int) = want 4 leave := by rw [links_length]; exact f4
  have w2 : (wantsOf ((p : Int), 0) z1.links).length = 0 := by rw [wants_length]; exact f5
  refine call_at [0, 1, 2, 3, 4, 5] (links_ok z gz.ok _ ?_) rfl rfl rfl rfl
  have wk := fun K => wants_ok (w0 := w0) z gz.ok ((p : Int), 0) K
  generalize wantsOf ((p : Int), 0) z.links = W1 at w1 wk
  cases hx : z.links with
  | nil => rw [hx] at l1; exact absurd l1 (by decide)
  | cons x xs =>
  rw [hx] at l1
  have c1 := bne_false l1
  have nc1 := bne_not l1
  repeat (first | (refine condA_true ?_ ?_; focus (first | rfl | exact c1 | exact nc1)) | (refine condA_false ?_ ?_; focus (first | rfl | exact c1 | exact nc1)))
  refine call_can ?_
  refine call_at [0, 1, 2, 3, 4, 5] (wk _ ?_) rfl rfl rfl rfl
  cases W1 with
  | nil => exact absurd w1 (by decide)
  | cons y ys =>
  have c2 := bne_false w1
  have nc2 := bne_not w1
  repeat (first | (refine condA_true ?_ ?_; focus (first | rfl | exact c1 | exact nc1 | exact c2 | exact nc2)) | (refine condA_false ?_ ?_; focus (first | rfl | exact c1 | exact nc1 | exact c2 | exact nc2)))
  have lk1 := fun K => links_ok (w0 := w0) z1 g1.ok K
  have wk1 := fun K => wants_ok (w0 := w0) z1 g1.ok ((p : Int), 0) K
  rw [List.eq_nil_of_length_eq_zero w2] at wk1
  generalize z1.links = L1 at l2 lk1
  cases leave
  all_goals
    repeat (first | (refine condA_true ?_ ?_; focus (first | rfl)) | (refine condA_false ?_ ?_; focus (first | rfl)))
    refine call_can ?_
    first
      | refine call_at [0, 1, 2, 3, 4, 5] (do_step L gz.ok (unpubC p) (unpubC_OK _) d1 _ ?_) rfl rfl rfl rfl
      | refine call_at [0, 1, 2, 3, 4, 5] (do_step L gz.ok (leaveC p) (leaveC_OK _) d1 _ ?_) rfl rfl rfl rfl
    repeat (first | (refine condA_true ?_ ?_; focus (first | rfl)) | (refine condA_false ?_ ?_; focus (first | rfl)))
    refine call_at [0, 1, 2, 3, 4, 5] (lk1 _ ?_) rfl rfl rfl rfl
    cases L1
    all_goals try exact absurd l2 (by decide)
    all_goals try (exfalso; have h0 : want 4 true = 0 := by decide
                   simp only [List.length_cons] at l2
                   omega)
    all_goals
      have c3 := bne_false l2
      have nc3 := bne_not l2
      repeat (first | (refine condA_true ?_ ?_; focus (first | rfl | exact c3 | exact nc3)) | (refine condA_false ?_ ?_; focus (first | rfl | exact c3 | exact nc3)))
      refine call_can ?_
      refine call_at [0, 1, 2, 3, 4, 5] (wk1 _ ?_) rfl rfl rfl rfl
      repeat (first | (refine condA_true ?_ ?_; focus (first | rfl | exact c3 | exact nc3)) | (refine condA_false ?_ ?_; focus (first | rfl | exact c3 | exact nc3)))
      refine req ?_ ?_
      · decide
      refine CallA.shift (shift_frz' 7 (u32s [src2 p]) rfl rfl (shift_id ?_))
      refine call_can ?_
      refine call_at [0, 1, 2, 3, 4, 5] (do_step L g1.ok (takeC (nextP 4 p) p) (takeC_OK _ _) d2 _ ?_) rfl rfl rfl rfl
      refine call_at [0, 1, 2, 3, 4, 5] (source_ok z2 (src2 p) _ ?_) rfl rfl rfl rfl
      simp only [srcR, f7]
      repeat (first | (refine condA_true ?_ ?_; focus (first | rfl)) | (refine condA_false ?_ ?_; focus (first | rfl)))
      refine leaf [] (.dat (.bool true)) [] ?_ rfl rfl rfl rfl hk
      show AV.dat (.bool true) = AV.dat (.bool ((nextP 4 p == nextP 4 p) && ((2 : Int) == 2 && ((0 : Int) == 0 && true))))
      simp
set_option maxHeartbeats 4000000 in
theorem gone_walk5 (L : Laid w0) (n w : Int) (leave : Bool) (hn : goneN n = 5) (K : AV → Heap → Prop) (hk : K (.dat (.bool true)) []) : CallA (cx w0) 7 [.dat (.int .i64 n), .dat (.int .i64 w), .dat (.bool leave)] [] K := by
  obtain ⟨p, hp, ep⟩ := whoP w 5 (by decide)
  have ep : (and255 w).tmod 5 = (p : Int) := ep
  obtain ⟨codes, facts⟩ := gone5
  obtain ⟨run, good⟩ := gone_run 5 (by decide) codes (by decide +kernel)
  have fact : goneP (goneS 5).2 5 p leave = true := by
    have h1 : (p : Int) ∈ [0, 1, 2, 3, 4] := by
      have : p = 0 ∨ p = 1 ∨ p = 2 ∨ p = 3 ∨ p = 4 := by omega
      rcases this with rfl | rfl | rfl | rfl | rfl <;> simp
    have h2 : leave ∈ [false, true] := by cases leave <;> simp
    exact List.all_eq_true.1 (List.all_eq_true.1 facts _ h1) _ h2
  clear codes facts
  refine CallA.ret ?_
  refine CallA.enter ok (dr (plOf [])) Tryz.func7 Tryz.call7 ?_
  refine call_at [] (awake_ok L _ ?_) rfl rfl rfl rfl
  repeat (first | (refine condA_true ?_ ?_; focus (first | rfl | (simp; done) | (simp; omega))) | (refine condA_false ?_ ?_; focus (first | rfl | (simp; done) | (simp; omega))))
  refine call_at [] (hall_ok L (goneN n) _ (fun mm hm => ?_)) rfl rfl rfl rfl
  obtain rfl : mm = 5 := by
    rw [hn] at hm
    have : clip 5 = 5 := by decide
    omega
  clear hm
  have gz := good
  generalize (goneS 5).2 = z at run good fact gz
  generalize hallM 5 = s at run ⊢
  replace run : Run s [subC 0 0 0 0, subC 0 1 0 0, subC 0 2 0 0, subC 0 3 0 0, subC 0 4 0 0, subC 1 0 0 0, subC 1 1 0 0, subC 1 2 0 0, subC 1 3 0 0, subC 1 4 0 0, subC 2 0 0 0, subC 2 1 0 0, subC 2 2 0 0, subC 2 3 0 0, subC 2 4 0 0, subC 3 0 0 0, subC 3 1 0 0, subC 3 2 0 0, subC 3 3 0 0, subC 3 4 0 0, subC 4 0 0 0, subC 4 1 0 0, subC 4 2 0 0, subC 4 3 0 0, subC 4 4 0 0] [15, 0, 0, 0, 0, 0, 15, 0, 0, 0, 0, 0, 15, 0, 0, 0, 0, 0, 15, 0, 0, 0, 0, 0, 15] z := run
  refine req (show goneN n ≠ 0 by rw [hn]; decide) ?_
  refine loop_in [0, 1, 2, 7, 30, 31] [0, 1, 2, 3, 4, 5] [.dat (.int .i64 (goneN n)), .dat (.int .i64 ((and255 w).tmod (goneN n))), .dat (.bool leave), .ptr 0 0, .dat (.int .i64 (goneN n)), .dat (.int .i64 0)] s.h rfl rfl rfl rfl (hin_cons rfl (hin_cons rfl (hin_cons rfl (hin_cons rfl (hin_cons rfl (hin_cons rfl hin_nil)))))) ?_
  rw [hn, ep]
  refine loopA_round ok (dr (plOf []) _) ?_
  refine condA_true rfl ?_
  refine loop_in [0, 1, 2, 7, 8, 30, 31, 34, 35] [0, 1, 2, 3, 4, 5] [.dat (.int .i64 5), .dat (.int .i64 p), .dat (.bool leave), .ptr 0 0, .dat (.int .i64 0), .dat (.int .i64 5), .dat (.int .i64 0), .dat (.int .i64 5), .dat (.int .i64 0)] s.h rfl rfl rfl rfl (hin_cons rfl (hin_cons rfl (hin_cons rfl (hin_cons rfl (hin_cons rfl (hin_cons rfl hin_nil)))))) ?_
  refine loopA_round ok (dr (plOf []) _) ?_
  refine condA_true rfl ?_
  rcases run with _ | ⟨g, h, run⟩
  refine call_can ?_
  refine call_at [0, 1, 2, 3, 4, 5] (do_step L g (subC 0 0 0 0) (subC_OK _ _ _ _) h _ ?_) rfl rfl rfl rfl
  clear g h
  rename_i s _
  refine loop_in [0, 1, 2, 7, 8, 30, 31, 34, 35] [0, 1, 2, 3, 4, 5] [.dat (.int .i64 5), .dat (.int .i64 p), .dat (.bool leave), .ptr 0 0, .dat (.int .i64 0), .dat (.int .i64 5), .dat (.int .i64 0), .dat (.int .i64 5), .dat (.int .i64 1)] s.h rfl rfl rfl rfl (hin_cons rfl (hin_cons rfl (hin_cons rfl (hin_cons rfl (hin_cons rfl (hin_cons rfl hin_nil)))))) ?_
  refine loopA_round ok (dr (plOf []) _) ?_
  refine condA_true rfl ?_
  rcases run with _ | ⟨g, h, run⟩
  refine call_can ?_
  refine call_at [0, 1, 2, 3, 4, 5] (do_step L g (subC 0 1 0 0) (subC_OK _ _ _ _) h _ ?_) rfl rfl rfl rfl
  clear g h
  rename_i s _
  refine loop_in [0, 1, 2, 7, 8, 30, 31, 34, 35] [0, 1, 2, 3, 4, 5] [.dat (.int .i64 5), .dat (.int .i64 p), .dat (.bool leave), .ptr 0 0, .dat (.int .i64 0), .dat (.int .i64 5), .dat (.int .i64 0), .dat (.int .i64 5), .dat (.int .i64 2)] s.h rfl rfl rfl rfl (hin_cons rfl (hin_cons rfl (hin_cons rfl (hin_cons rfl (hin_cons rfl (hin_cons rfl hin_nil)))))) ?_
  refine loopA_round ok (dr (plOf []) _) ?_
  refine condA_true rfl ?_
  rcases run with _ | ⟨g, h, run⟩
  refine call_can ?_
  refine call_at [0, 1, 2, 3, 4, 5] (do_step L g (subC 0 2 0 0) (subC_OK _ _ _ _) h _ ?_) rfl rfl rfl rfl
  clear g h
  rename_i s _
  refine loop_in [0, 1, 2, 7, 8, 30, 31, 34, 35] [0, 1, 2, 3, 4, 5] [.dat (.int .i64 5), .dat (.int .i64 p), .dat (.bool leave), .ptr 0 0, .dat (.int .i64 0), .dat (.int .i64 5), .dat (.int .i64 0), .dat (.int .i64 5), .dat (.int .i64 3)] s.h rfl rfl rfl rfl (hin_cons rfl (hin_cons rfl (hin_cons rfl (hin_cons rfl (hin_cons rfl (hin_cons rfl hin_nil)))))) ?_
  refine loopA_round ok (dr (plOf []) _) ?_
  refine condA_true rfl ?_
  rcases run with _ | ⟨g, h, run⟩
  refine call_can ?_
  refine call_at [0, 1, 2, 3, 4, 5] (do_step L g (subC 0 3 0 0) (subC_OK _ _ _ _) h _ ?_) rfl rfl rfl rfl
  clear g h
  rename_i s _
  refine loop_in [0, 1, 2, 7, 8, 30, 31, 34, 35] [0, 1, 2, 3, 4, 5] [.dat (.int .i64 5), .dat (.int .i64 p), .dat (.bool leave), .ptr 0 0, .dat (.int .i64 0), .dat (.int .i64 5), .dat (.int .i64 0), .dat (.int .i64 5), .dat (.int .i64 4)] s.h rfl rfl rfl rfl (hin_cons rfl (hin_cons rfl (hin_cons rfl (hin_cons rfl (hin_cons rfl (hin_cons rfl hin_nil)))))) ?_
  refine loopA_round ok (dr (plOf []) _) ?_
  refine condA_true rfl ?_
  rcases run with _ | ⟨g, h, run⟩
  refine call_can ?_
  refine call_at [0, 1, 2, 3, 4, 5] (do_step L g (subC 0 4 0 0) (subC_OK _ _ _ _) h _ ?_) rfl rfl rfl rfl
  clear g h
  rename_i s _
  refine loop_in [0, 1, 2, 7, 8, 30, 31, 34, 35] [0, 1, 2, 3, 4, 5] [.dat (.int .i64 5), .dat (.int .i64 p), .dat (.bool leave), .ptr 0 0, .dat (.int .i64 0), .dat (.int .i64 5), .dat (.int .i64 0), .dat (.int .i64 5), .dat (.int .i64 5)] s.h rfl rfl rfl rfl (hin_cons rfl (hin_cons rfl (hin_cons rfl (hin_cons rfl (hin_cons rfl (hin_cons rfl hin_nil)))))) ?_
  refine loopA_round ok (dr (plOf []) _) ?_
  refine condA_false rfl ?_
  refine loop_in [0, 1, 2, 7, 30, 31] [0, 1, 2, 3, 4, 5] [.dat (.int .i64 5), .dat (.int .i64 p), .dat (.bool leave), .ptr 0 0, .dat (.int .i64 5), .dat (.int .i64 1)] s.h rfl rfl rfl rfl (hin_cons rfl (hin_cons rfl (hin_cons rfl (hin_cons rfl (hin_cons rfl (hin_cons rfl hin_nil)))))) ?_
  refine loopA_round ok (dr (plOf []) _) ?_
  refine condA_true rfl ?_
  refine loop_in [0, 1, 2, 7, 8, 30, 31, 34, 35] [0, 1, 2, 3, 4, 5] [.dat (.int .i64 5), .dat (.int .i64 p), .dat (.bool leave), .ptr 0 0, .dat (.int .i64 1), .dat (.int .i64 5), .dat (.int .i64 1), .dat (.int .i64 5), .dat (.int .i64 0)] s.h rfl rfl rfl rfl (hin_cons rfl (hin_cons rfl (hin_cons rfl (hin_cons rfl (hin_cons rfl (hin_cons rfl hin_nil)))))) ?_
  refine loopA_round ok (dr (plOf []) _) ?_
  refine condA_true rfl ?_
  rcases run with _ | ⟨g, h, run⟩
  refine call_can ?_
  refine call_at [0, 1, 2, 3, 4, 5] (do_step L g (subC 1 0 0 0) (subC_OK _ _ _ _) h _ ?_) rfl rfl rfl rfl
  clear g h
  rename_i s _
  refine loop_in [0, 1, 2, 7, 8, 30, 31, 34, 35] [0, 1, 2, 3, 4, 5] [.dat (.int .i64 5), .dat (.int .i64 p), .dat (.bool leave), .ptr 0 0, .dat (.int .i64 1), .dat (.int .i64 5), .dat (.int .i64 1), .dat (.int .i64 5), .dat (.int .i64 1)] s.h rfl rfl rfl rfl (hin_cons rfl (hin_cons rfl (hin_cons rfl (hin_cons rfl (hin_cons rfl (hin_cons rfl hin_nil)))))) ?_
  refine loopA_round ok (dr (plOf []) _) ?_
  refine condA_true rfl ?_
  rcases run with _ | ⟨g, h, run⟩
  refine call_can ?_
  refine call_at [0, 1, 2, 3, 4, 5] (do_step L g (subC 1 1 0 0) (subC_OK _ _ _ _) h _ ?_) rfl rfl rfl rfl
  clear g h
  rename_i s _
  refine loop_in [0, 1, 2, 7, 8, 30, 31, 34, 35] [0, 1, 2, 3, 4, 5] [.dat (.int .i64 5), .dat (.int .i64 p), .dat (.bool leave), .ptr 0 0, .dat (.int .i64 1), .dat (.int .i64 5), .dat (.int .i64 1), .dat (.int .i64 5), .dat (.int .i64 2)] s.h rfl rfl rfl rfl (hin_cons rfl (hin_cons rfl (hin_cons rfl (hin_cons rfl (hin_cons rfl (hin_cons rfl hin_nil)))))) ?_
  refine loopA_round ok (dr (plOf []) _) ?_
  refine condA_true rfl ?_
  rcases run with _ | ⟨g, h, run⟩
  refine call_can ?_
  refine call_at [0, 1, 2, 3, 4, 5] (do_step L g (subC 1 2 0 0) (subC_OK _ _ _ _) h _ ?_) rfl rfl rfl rfl
  clear g h
  rename_i s _
  refine loop_in [0, 1, 2, 7, 8, 30, 31, 34, 35] [0, 1, 2, 3, 4, 5] [.dat (.int .i64 5), .dat (.int .i64 p), .dat (.bool leave), .ptr 0 0, .dat (.int .i64 1), .dat (.int .i64 5), .dat (.int .i64 1), .dat (.int .i64 5), .dat (.int .i64 3)] s.h rfl rfl rfl rfl (hin_cons rfl (hin_cons rfl (hin_cons rfl (hin_cons rfl (hin_cons rfl (hin_cons rfl hin_nil)))))) ?_
  refine loopA_round ok (dr (plOf []) _) ?_
  refine condA_true rfl ?_
  rcases run with _ | ⟨g, h, run⟩
  refine call_can ?_
  refine call_at [0, 1, 2, 3, 4, 5] (do_step L g (subC 1 3 0 0) (subC_OK _ _ _ _) h _ ?_) rfl rfl rfl rfl
  clear g h
  rename_i s _
  refine loop_in [0, 1, 2, 7, 8, 30, 31, 34, 35] [0, 1, 2, 3, 4, 5] [.dat (.int .i64 5), .dat (.int .i64 p), .dat (.bool leave), .ptr 0 0, .dat (.int .i64 1), .dat (.int .i64 5), .dat (.int .i64 1), .dat (.int .i64 5), .dat (.int .i64 4)] s.h rfl rfl rfl rfl (hin_cons rfl (hin_cons rfl (hin_cons rfl (hin_cons rfl (hin_cons rfl (hin_cons rfl hin_nil)))))) ?_
  refine loopA_round ok (dr (plOf []) _) ?_
  refine condA_true rfl ?_
  rcases run with _ | ⟨g, h, run⟩
  refine call_can ?_
  refine call_at [0, 1, 2, 3, 4, 5] (do_step L g (subC 1 4 0 0) (subC_OK _ _ _ _) h _ ?_) rfl rfl rfl rfl
  clear g h
  rename_i s _
  refine loop_in [0, 1, 2, 7, 8, 30, 31, 34, 35] [0, 1, 2, 3, 4, 5] [.dat (.int .i64 5), .dat (.int .i64 p), .dat (.bool leave), .ptr 0 0, .dat (.int .i64 1), .dat (.int .i64 5), .dat (.int .i64 1), .dat (.int .i64 5), .dat (.int .i64 5)] s.h rfl rfl rfl rfl (hin_cons rfl (hin_cons rfl (hin_cons rfl (hin_cons rfl (hin_cons rfl (hin_cons rfl hin_nil)))))) ?_
  refine loopA_round ok (dr (plOf []) _) ?_
  refine condA_false rfl ?_
  refine loop_in [0, 1, 2, 7, 30, 31] [0, 1, 2, 3, 4, 5] [.dat (.int .i64 5), .dat (.int .i64 p), .dat (.bool leave), .ptr 0 0, .dat (.int .i64 5), .dat (.int .i64 2)] s.h rfl rfl rfl rfl (hin_cons rfl (hin_cons rfl (hin_cons rfl (hin_cons rfl (hin_cons rfl (hin_cons rfl hin_nil)))))) ?_
  refine loopA_round ok (dr (plOf []) _) ?_
  refine condA_true rfl ?_
  refine loop_in [0, 1, 2, 7, 8, 30, 31, 34, 35] [0, 1, 2, 3, 4, 5] [.dat (.int .i64 5), .dat (.int .i64 p), .dat (.bool leave), .ptr 0 0, .dat (.int .i64 2), .dat (.int .i64 5), .dat (.int .i64 2), .dat (.int .i64 5), .dat (.int .i64 0)] s.h rfl rfl rfl rfl (hin_cons rfl (hin_cons rfl (hin_cons rfl (hin_cons rfl (hin_cons rfl (hin_cons rfl hin_nil)))))) ?_
  refine loopA_round ok (dr (plOf []) _) ?_
  refine condA_true rfl ?_
  rcases run with _ | ⟨g, h, run⟩
  refine call_can ?_
  refine call_at [0, 1, 2, 3, 4, 5] (do_step L g (subC 2 0 0 0) (subC_OK _ _ _ _) h _ ?_) rfl rfl rfl rfl
  clear g h
  rename_i s _
  refine loop_in [0, 1, 2, 7, 8, 30, 31, 34, 35] [0, 1, 2, 3, 4, 5] [.dat (.int .i64 5), .dat (.int .i64 p), .dat (.bool leave), .ptr 0 0, .dat (.int .i64 2), .dat (.int .i64 5), .dat (.int .i64 2), .dat (.int .i64 5), .dat (.int .i64 1)] s.h rfl rfl rfl rfl (hin_cons rfl (hin_cons rfl (hin_cons rfl (hin_cons rfl (hin_cons rfl (hin_cons rfl hin_nil)))))) ?_
  refine loopA_round ok (dr (plOf []) _) ?_
  refine condA_true rfl ?_
  rcases run with _ | ⟨g, h, run⟩
  refine call_can ?_
  refine call_at [0, 1, 2, 3, 4, 5] (do_step L g (subC 2 1 0 0) (subC_OK _ _ _ _) h _ ?_) rfl rfl rfl rfl
  clear g h
  rename_i s _
  refine loop_in [0, 1, 2, 7, 8, 30, 31, 34, 35] [0, 1, 2, 3, 4, 5] [.dat (.int .i64 5), .dat (.int .i64 p), .dat (.bool leave), .ptr 0 0, .dat (.int .i64 2), .dat (.int .i64 5), .dat (.int .i64 2), .dat (.int .i64 5), .dat (.int .i64 2)] s.h rfl rfl rfl rfl (hin_cons rfl (hin_cons rfl (hin_cons rfl (hin_cons rfl (hin_cons rfl (hin_cons rfl hin_nil)))))) ?_
  refine loopA_round ok (dr (plOf []) _) ?_
  refine condA_true rfl ?_
  rcases run with _ | ⟨g, h, run⟩
  refine call_can ?_
  refine call_at [0, 1, 2, 3, 4, 5] (do_step L g (subC 2 2 0 0) (subC_OK _ _ _ _) h _ ?_) rfl rfl rfl rfl
  clear g h
  rename_i s _
  refine loop_in [0, 1, 2, 7, 8, 30, 31, 34, 35] [0, 1, 2, 3, 4, 5] [.dat (.int .i64 5), .dat (.int .i64 p), .dat (.bool leave), .ptr 0 0, .dat (.int .i64 2), .dat (.int .i64 5), .dat (.int .i64 2), .dat (.int .i64 5), .dat (.int .i64 3)] s.h rfl rfl rfl rfl (hin_cons rfl (hin_cons rfl (hin_cons rfl (hin_cons rfl (hin_cons rfl (hin_cons rfl hin_nil)))))) ?_
  refine loopA_round ok (dr (plOf []) _) ?_
  refine condA_true rfl ?_
  rcases run with _ | ⟨g, h, run⟩
  refine call_can ?_
  refine call_at [0, 1, 2, 3, 4, 5] (do_step L g (subC 2 3 0 0) (subC_OK _ _ _ _) h _ ?_) rfl rfl rfl rfl
  clear g h
  rename_i s _
  refine loop_in [0, 1, 2, 7, 8, 30, 31, 34, 35] [0, 1, 2, 3, 4, 5] [.dat (.int .i64 5), .dat (.int .i64 p), .dat (.bool leave), .ptr 0 0, .dat (.int .i64 2), .dat (.int .i64 5), .dat (.int .i64 2), .dat (.int .i64 5), .dat (.int .i64 4)] s.h rfl rfl rfl rfl (hin_cons rfl (hin_cons rfl (hin_cons rfl (hin_cons rfl (hin_cons rfl (hin_cons rfl hin_nil)))))) ?_
  refine loopA_round ok (dr (plOf []) _) ?_
  refine condA_true rfl ?_
  rcases run with _ | ⟨g, h, run⟩
  refine call_can ?_
  refine call_at [0, 1, 2, 3, 4, 5] (do_step L g (subC 2 4 0 0) (subC_OK _ _ _ _) h _ ?_) rfl rfl rfl rfl
  clear g h
  rename_i s _
  refine loop_in [0, 1, 2, 7, 8, 30, 31, 34, 35] [0, 1, 2, 3, 4, 5] [.dat (.int .i64 5), .dat (.int .i64 p), .dat (.bool leave), .ptr 0 0, .dat (.int .i64 2), .dat (.int .i64 5), .dat (.int .i64 2), .dat (.int .i64 5), .dat (.int .i64 5)] s.h rfl rfl rfl rfl (hin_cons rfl (hin_cons rfl (hin_cons rfl (hin_cons rfl (hin_cons rfl (hin_cons rfl hin_nil)))))) ?_
  refine loopA_round ok (dr (plOf []) _) ?_
  refine condA_false rfl ?_
  refine loop_in [0, 1, 2, 7, 30, 31] [0, 1, 2, 3, 4, 5] [.dat (.int .i64 5), .dat (.int .i64 p), .dat (.bool leave), .ptr 0 0, .dat (.int .i64 5), .dat (.int .i64 3)] s.h rfl rfl rfl rfl (hin_cons rfl (hin_cons rfl (hin_cons rfl (hin_cons rfl (hin_cons rfl (hin_cons rfl hin_nil)))))) ?_
  refine loopA_round ok (dr (plOf []) _) ?_
  refine condA_true rfl ?_
  refine loop_in [0, 1, 2, 7, 8, 30, 31, 34, 35] [0, 1, 2, 3, 4, 5] [.dat (.int .i64 5), .dat (.int .i64 p), .dat (.bool leave), .ptr 0 0, .dat (.int .i64 3), .dat (.int .i64 5), .dat (.int .i64 3), .dat (.int .i64 5), .dat (.int .i64 0)] s.h rfl rfl rfl rfl (hin_cons rfl (hin_cons rfl (hin_cons rfl (hin_cons rfl (hin_cons rfl (hin_cons rfl hin_nil)))))) ?_
  refine loopA_round ok (dr (plOf []) _) ?_
  refine condA_true rfl ?_
  rcases run with _ | ⟨g, h, run⟩
  refine call_can ?_
  refine call_at [0, 1, 2, 3, 4, 5] (do_step L g (subC 3 0 0 0) (subC_OK _ _ _ _) h _ ?_) rfl rfl rfl rfl
  clear g h
  rename_i s _
  refine loop_in [0, 1, 2, 7, 8, 30, 31, 34, 35] [0, 1, 2, 3, 4, 5] [.dat (.int .i64 5), .dat (.int .i64 p), .dat (.bool leave), .ptr 0 0, .dat (.int .i64 3), .dat (.int .i64 5), .dat (.int .i64 3), .dat (.int .i64 5), .dat (.int .i64 1)] s.h rfl rfl rfl rfl (hin_cons rfl (hin_cons rfl (hin_cons rfl (hin_cons rfl (hin_cons rfl (hin_cons rfl hin_nil)))))) ?_
  refine loopA_round ok (dr (plOf []) _) ?_
  refine condA_true rfl ?_
  rcases run with _ | ⟨g, h, run⟩
  refine call_can ?_
  refine call_at [0, 1, 2, 3, 4, 5] (do_step L g (subC 3 1 0 0) (subC_OK _ _ _ _) h _ ?_) rfl rfl rfl rfl
  clear g h
  rename_i s _
  refine loop_in [0, 1, 2, 7, 8, 30, 31, 34, 35] [0, 1, 2, 3, 4, 5] [.dat (.int .i64 5), .dat (.int .i64 p), .dat (.bool leave), .ptr 0 0, .dat (.int .i64 3), .dat (.int .i64 5), .dat (.int .i64 3), .dat (.int .i64 5), .dat (.int .i64 2)] s.h rfl rfl rfl rfl (hin_cons rfl (hin_cons rfl (hin_cons rfl (hin_cons rfl (hin_cons rfl (hin_cons rfl hin_nil)))))) ?_
  refine loopA_round ok (dr (plOf []) _) ?_
  refine condA_true rfl ?_
  rcases run with _ | ⟨g, h, run⟩
  refine call_can ?_
  refine call_at [0, 1, 2, 3, 4, 5] (do_step L g (subC 3 2 0 0) (subC_OK _ _ _ _) h _ ?_) rfl rfl rfl rfl
  clear g h
  rename_i s _
  refine loop_in [0, 1, 2, 7, 8, 30, 31, 34, 35] [0, 1, 2, 3, 4, 5] [.dat (.int .i64 5), .dat (.int .i64 p), .dat (.bool leave), .ptr 0 0, .dat (.int .i64 3), .dat (.int .i64 5), .dat (.int .i64 3), .dat (.int .i64 5), .dat (.int .i64 3)] s.h rfl rfl rfl rfl (hin_cons rfl (hin_cons rfl (hin_cons rfl (hin_cons rfl (hin_cons rfl (hin_cons rfl hin_nil)))))) ?_
  refine loopA_round ok (dr (plOf []) _) ?_
  refine condA_true rfl ?_
  rcases run with _ | ⟨g, h, run⟩
  refine call_can ?_
  refine call_at [0, 1, 2, 3, 4, 5] (do_step L g (subC 3 3 0 0) (subC_OK _ _ _ _) h _ ?_) rfl rfl rfl rfl
  clear g h
  rename_i s _
  refine loop_in [0, 1, 2, 7, 8, 30, 31, 34, 35] [0, 1, 2, 3, 4, 5] [.dat (.int .i64 5), .dat (.int .i64 p), .dat (.bool leave), .ptr 0 0, .dat (.int .i64 3), .dat (.int .i64 5), .dat (.int .i64 3), .dat (.int .i64 5), .dat (.int .i64 4)] s.h rfl rfl rfl rfl (hin_cons rfl (hin_cons rfl (hin_cons rfl (hin_cons rfl (hin_cons rfl (hin_cons rfl hin_nil)))))) ?_
  refine loopA_round ok (dr (plOf []) _) ?_
  refine condA_true rfl ?_
  rcases run with _ | ⟨g, h, run⟩
  refine call_can ?_
  refine call_at [0, 1, 2, 3, 4, 5] (do_step L g (subC 3 4 0 0) (subC_OK _ _ _ _) h _ ?_) rfl rfl rfl rfl
  clear g h
  rename_i s _
  refine loop_in [0, 1, 2, 7, 8, 30, 31, 34, 35] [0, 1, 2, 3, 4, 5] [.dat (.int .i64 5), .dat (.int .i64 p), .dat (.bool leave), .ptr 0 0, .dat (.int .i64 3), .dat (.int .i64 5), .dat (.int .i64 3), .dat (.int .i64 5), .dat (.int .i64 5)] s.h rfl rfl rfl rfl (hin_cons rfl (hin_cons rfl (hin_cons rfl (hin_cons rfl (hin_cons rfl (hin_cons rfl hin_nil)))))) ?_
  refine loopA_round ok (dr (plOf []) _) ?_
  refine condA_false rfl ?_
  refine loop_in [0, 1, 2, 7, 30, 31] [0, 1, 2, 3, 4, 5] [.dat (.int .i64 5), .dat (.int .i64 p), .dat (.bool leave), .ptr 0 0, .dat (.int .i64 5), .dat (.int .i64 4)] s.h rfl rfl rfl rfl (hin_cons rfl (hin_cons rfl (hin_cons rfl (hin_cons rfl (hin_cons rfl (hin_cons rfl hin_nil)))))) ?_
  refine loopA_round ok (dr (plOf []) _) ?_
  refine condA_true rfl ?_
  refine loop_in [0, 1, 2, 7, 8, 30, 31, 34, 35] [0, 1, 2, 3, 4, 5] [.dat (.int .i64 5), .dat (.int .i64 p), .dat (.bool leave), .ptr 0 0, .dat (.int .i64 4), .dat (.int .i64 5), .dat (.int .i64 4), .dat (.int .i64 5), .dat (.int .i64 0)] s.h rfl rfl rfl rfl (hin_cons rfl (hin_cons rfl (hin_cons rfl (hin_cons rfl (hin_cons rfl (hin_cons rfl hin_nil)))))) ?_
  refine loopA_round ok (dr (plOf []) _) ?_
  refine condA_true rfl ?_
  rcases run with _ | ⟨g, h, run⟩
  refine call_can ?_
  refine call_at [0, 1, 2, 3, 4, 5] (do_step L g (subC 4 0 0 0) (subC_OK _ _ _ _) h _ ?_) rfl rfl rfl rfl
  clear g h
  rename_i s _
  refine loop_in [0, 1, 2, 7, 8, 30, 31, 34, 35] [0, 1, 2, 3, 4, 5] [.dat (.int .i64 5), .dat (.int .i64 p), .dat (.bool leave), .ptr 0 0, .dat (.int .i64 4), .dat (.int .i64 5), .dat (.int .i64 4), .dat (.int .i64 5), .dat (.int .i64 1)] s.h rfl rfl rfl rfl (hin_cons rfl (hin_cons rfl (hin_cons rfl (hin_cons rfl (hin_cons rfl (hin_cons rfl hin_nil)))))) ?_
  refine loopA_round ok (dr (plOf []) _) ?_
  refine condA_true rfl ?_
  rcases run with _ | ⟨g, h, run⟩
  refine call_can ?_
  refine call_at [0, 1, 2, 3, 4, 5] (do_step L g (subC 4 1 0 0) (subC_OK _ _ _ _) h _ ?_) rfl rfl rfl rfl
  clear g h
  rename_i s _
  refine loop_in [0, 1, 2, 7, 8, 30, 31, 34, 35] [0, 1, 2, 3, 4, 5] [.dat (.int .i64 5), .dat (.int .i64 p), .dat (.bool leave), .ptr 0 0, .dat (.int .i64 4), .dat (.int .i64 5), .dat (.int .i64 4), .dat (.int .i64 5), .dat (.int .i64 2)] s.h rfl rfl rfl rfl (hin_cons rfl (hin_cons rfl (hin_cons rfl (hin_cons rfl (hin_cons rfl (hin_cons rfl hin_nil)))))) ?_
  refine loopA_round ok (dr (plOf []) _) ?_
  refine condA_true rfl ?_
  rcases run with _ | ⟨g, h, run⟩
  refine call_can ?_
  refine call_at [0, 1, 2, 3, 4, 5] (do_step L g (subC 4 2 0 0) (subC_OK _ _ _ _) h _ ?_) rfl rfl rfl rfl
  clear g h
  rename_i s _
  refine loop_in [0, 1, 2, 7, 8, 30, 31, 34, 35] [0, 1, 2, 3, 4, 5] [.dat (.int .i64 5), .dat (.int .i64 p), .dat (.bool leave), .ptr 0 0, .dat (.int .i64 4), .dat (.int .i64 5), .dat (.int .i64 4), .dat (.int .i64 5), .dat (.int .i64 3)] s.h rfl rfl rfl rfl (hin_cons rfl (hin_cons rfl (hin_cons rfl (hin_cons rfl (hin_cons rfl (hin_cons rfl hin_nil)))))) ?_
  refine loopA_round ok (dr (plOf []) _) ?_
  refine condA_true rfl ?_
  rcases run with _ | ⟨g, h, run⟩
  refine call_can ?_
  refine call_at [0, 1, 2, 3, 4, 5] (do_step L g (subC 4 3 0 0) (subC_OK _ _ _ _) h _ ?_) rfl rfl rfl rfl
  clear g h
  rename_i s _
  refine loop_in [0, 1, 2, 7, 8, 30, 31, 34, 35] [0, 1, 2, 3, 4, 5] [.dat (.int .i64 5), .dat (.int .i64 p), .dat (.bool leave), .ptr 0 0, .dat (.int .i64 4), .dat (.int .i64 5), .dat (.int .i64 4), .dat (.int .i64 5), .dat (.int .i64 4)] s.h rfl rfl rfl rfl (hin_cons rfl (hin_cons rfl (hin_cons rfl (hin_cons rfl (hin_cons rfl (hin_cons rfl hin_nil)))))) ?_
  refine loopA_round ok (dr (plOf []) _) ?_
  refine condA_true rfl ?_
  rcases run with _ | ⟨g, h, run⟩
  refine call_can ?_
  refine call_at [0, 1, 2, 3, 4, 5] (do_step L g (subC 4 4 0 0) (subC_OK _ _ _ _) h _ ?_) rfl rfl rfl rfl
  clear g h
  rename_i s _
  refine loop_in [0, 1, 2, 7, 8, 30, 31, 34, 35] [0, 1, 2, 3, 4, 5] [.dat (.int .i64 5), .dat (.int .i64 p), .dat (.bool leave), .ptr 0 0, .dat (.int .i64 4), .dat (.int .i64 5), .dat (.int .i64 4), .dat (.int .i64 5), .dat (.int .i64 5)] s.h rfl rfl rfl rfl (hin_cons rfl (hin_cons rfl (hin_cons rfl (hin_cons rfl (hin_cons rfl (hin_cons rfl hin_nil)))))) ?_
  refine loopA_round ok (dr (plOf []) _) ?_
  refine condA_false rfl ?_
  refine loop_in [0, 1, 2, 7, 30, 31] [0, 1, 2, 3, 4, 5] [.dat (.int .i64 5), .dat (.int .i64 p), .dat (.bool leave), .ptr 0 0, .dat (.int .i64 5), .dat (.int .i64 5)] s.h rfl rfl rfl rfl (hin_cons rfl (hin_cons rfl (hin_cons rfl (hin_cons rfl (hin_cons rfl (hin_cons rfl hin_nil)))))) ?_
  refine loopA_round ok (dr (plOf []) _) ?_
  refine condA_false rfl ?_
  cases run
  unfold goneP at fact
  simp only [Bool.and_eq_true, beq_iff_eq, decide_eq_true_eq] at fact
  obtain ⟨⟨⟨⟨⟨⟨f1, f2⟩, f3⟩, f4⟩, f5⟩, f6⟩, f7⟩ := fact
  have g1 := gz.next (by decide) (goC leave p)
  have g2 := g1.next (by decide) (takeC (nextP 5 p) p)
  have d1 := doM_up gz.up (goC leave p)
  have d2 := doM_up g1.up (takeC (nextP 5 p) p)
  generalize doP z (goC leave p) = r1 at f3 f4 f5 f6 f7 g1 g2 d1 d2
  obtain ⟨⟨n1, x1⟩, z1⟩ := r1
  dsimp only at f3 f4 f5 f6 f7 g1 g2 d2
  generalize doP z1 (takeC (nextP 5 p) p) = r2 at f6 f7 g2 d2
  obtain ⟨⟨n2, x2⟩, z2⟩ := r2
  dsimp only at f6 f7 g2
  subst f3 f6
  have l1 : ((z.links.length : Nat) : Int) = IntKind.i64.wrap (5 * IntKind.i64.wrap (5 - 1)) := by rw [links_length]; exact f1
  have w1 : ((wantsOf ((p : Int), 0) z.links).length : Int) = IntKind.i64.wrap (5 - 1) := by rw [wants_length]; exact f2
  have l2 : ((z1.links.length : Nat) : Int) = want 5 leave := by rw [links_length]; exact f4
  have w2 : (wantsOf ((p : Int), 0) z1.links).length = 0 := by rw [wants_length]; exact f5
  refine call_at [0, 1, 2, 3, 4, 5] (links_ok z gz.ok _ ?_) rfl rfl rfl rfl
  have wk := fun K => wants_ok (w0 := w0) z gz.ok ((p : Int), 0) K
  generalize wantsOf ((p : Int), 0) z.links = W1 at w1 wk
  cases hx : z.links with
  | nil => rw [hx] at l1; exact absurd l1 (by decide)
  | cons x xs =>
  rw [hx] at l1
  have c1 := bne_false l1
  have nc1 := bne_not l1
  repeat (first | (refine condA_true ?_ ?_; focus (first | rfl | exact c1 | exact nc1)) | (refine condA_false ?_ ?_; focus (first | rfl | exact c1 | exact nc1)))
  refine call_can ?_
  refine call_at [0, 1, 2, 3, 4, 5] (wk _ ?_) rfl rfl rfl rfl
  cases W1 with
  | nil => exact absurd w1 (by decide)
  | cons y ys =>
  have c2 := bne_false w1
  have nc2 := bne_not w1
  repeat (first | (refine condA_true ?_ ?_; focus (first | rfl | exact c1 | exact nc1 | exact c2 | exact nc2)) | (refine condA_false ?_ ?_; focus (first | rfl | exact c1 | exact nc1 | exact c2 | exact nc2)))
  have lk1 := fun K => links_ok (w0 := w0) z1 g1.ok K
  have wk1 := fun K => wants_ok (w0 := w0) z1 g1.ok ((p : Int), 0) K
  rw [List.eq_nil_of_length_eq_zero w2] at wk1
  generalize z1.links = L1 at l2 lk1
  cases leave
  all_goals
    repeat (first | (refine condA_true ?_ ?_; focus (first | rfl)) | (refine condA_false ?_ ?_; focus (first | rfl)))
    refine call_can ?_
    first
      | refine call_at [0, 1, 2, 3, 4, 5] (do_step L gz.ok (unpubC p) (unpubC_OK _) d1 _ ?_) rfl rfl rfl rfl
      | refine call_at [0, 1, 2, 3, 4, 5] (do_step L gz.ok (leaveC p) (leaveC_OK _) d1 _ ?_) rfl rfl rfl rfl
    repeat (first | (refine condA_true ?_ ?_; focus (first | rfl)) | (refine condA_false ?_ ?_; focus (first | rfl)))
    refine call_at [0, 1, 2, 3, 4, 5] (lk1 _ ?_) rfl rfl rfl rfl
    cases L1
    all_goals try exact absurd l2 (by decide)
    all_goals try (exfalso; have h0 : want 5 true = 0 := by decide
                   simp only [List.length_cons] at l2
                   omega)
    all_goals
      have c3 := bne_false l2
      have nc3 := bne_not l2
      repeat (first | (refine condA_true ?_ ?_; focus (first | rfl | exact c3 | exact nc3)) | (refine condA_false ?_ ?_; focus (first | rfl | exact c3 | exact nc3)))
      refine call_can ?_
      refine call_at [0, 1, 2, 3, 4, 5] (wk1 _ ?_) rfl rfl rfl rfl
      repeat (first | (refine condA_true ?_ ?_; focus (first | rfl | exact c3 | exact nc3)) | (refine condA_false ?_ ?_; focus (first | rfl | exact c3 | exact nc3)))
      refine req ?_ ?_
      · decide
      refine CallA.shift (shift_frz' 7 (u32s [src2 p]) rfl rfl (shift_id ?_))
      refine call_can ?_
      refine call_at [0, 1, 2, 3, 4, 5] (do_step L g1.ok (takeC (nextP 5 p) p) (takeC_OK _ _) d2 _ ?_) rfl rfl rfl rfl
      refine call_at [0, 1, 2, 3, 4, 5] (source_ok z2 (src2 p) _ ?_) rfl rfl rfl rfl
      simp only [srcR, f7]
      repeat (first | (refine condA_true ?_ ?_; focus (first | rfl)) | (refine condA_false ?_ ?_; focus (first | rfl)))
      refine leaf [] (.dat (.bool true)) [] ?_ rfl rfl rfl rfl hk
      show AV.dat (.bool true) = AV.dat (.bool ((nextP 5 p == nextP 5 p) && ((2 : Int) == 2 && ((0 : Int) == 0 && true))))
      simp
theorem law_walk (L : Laid w0) (n w : Int) (leave : Bool) (K : AV → Heap → Prop) (hk : K (.dat (.bool true)) []) : CallA (cx w0) 7 [.dat (.int .i64 n), .dat (.int .i64 w), .dat (.bool leave)] [] K := by
  rcases goneN_is n with h | h | h | h
  · exact gone_walk2 L n w leave h K hk
  · exact gone_walk3 L n w leave h K hk
  · exact gone_walk4 L n w leave h K hk
  · exact gone_walk5 L n w leave h K hk
end Go.Abs.X

namespace Go.Abs.X
open Go.Abs Go Go.Proofs Go.Proofs.YtbbpedjbfgcdoaaGreatDoor
open Go.ChangeShapes Go.WideShapes Go.ChangeAt Go.RowKit Go.Shelf Go.Lib

theorem own : ownKnob Tryz.prog.godebug = none := by kernel_rfl
noncomputable def laidW (os : Os) : World := World.laidAll Tryz.prog os laidL
theorem laidW_met (os : Os) (args : Array Value) : laidMetH Tryz.prog laidL ((laidW os).forCall (fun _ _ => 0) ⟨#[], args, []⟩).memory := by
  rw [MakeChecks.laidMetH_plain _ _ _ (by kernel_rfl)]
  exact laidMet_laidAll _ (by kernel_rfl) (by kernel_rfl)
theorem law_calls {W : World} (h : laidMetH Tryz.prog laidL W) (n : Int) (l : Int) (m : Bool) : Calls Tryz.prog 7 #[.int .i64 n, .int .i64 l, .bool m] W fun e w' => e = .returned (.bool true) ∧ Below W.heap.size W w' := by
  have c := law_walk (laid_of h) n l m (fun a h => a = .dat (.bool true) ∧ h = []) ⟨rfl, rfl⟩
  refine (calls_of_callA (cx := cx W) rfl (Nat.zero_le _) (fun _ => rfl) (args := [.int .i64 n, .int .i64 l, .bool m]) rfl (by simp [RelDs, RelD]) c).mono ?_
  rintro e w' ⟨v, a, h', s', he, ⟨ha, hh⟩, hr, hw, hb, _⟩
  subst ha
  simp only [Rel, RelD] at hr
  subst hr
  exact ⟨he, hb⟩
theorem law_reads (os : Os) {H : Type} (enc : TypeId × Value → H) : ∃ places, DataW.whole enc Tryz.prog ((laidW os).forCall (fun _ _ => 0) ⟨#[], #[.int .i64 0, .int .i64 0, .bool false], []⟩).memory Tryz.f7.params.toList Rows.accessGoneSpec.vars false #[Value.int .i64 0, .int .i64 0, .bool false].toList 8 = some ([.lit (.int .i64 0), .lit (.int .i64 0), .lit (.bool false)], [], places) :=
  ⟨[], by kernel_rfl⟩
set_option maxRecDepth 100000 in
theorem law_lifted (os : Os) (started : os.Started) (H : Type) (enc : TypeId × Value → H) (F : Stop.Interp) :
    ReturnsInHanded {} Tryz.checked os 7 .any ((OpenSpec.ofChange Rows.accessGoneSpec).preRow enc Tryz.prog Tryz.f7 Rows.accessGoneRow.domain false Rows.accessGoneRow.laid) (((OpenSpec.ofChange Rows.accessGoneSpec).at F).post enc Tryz.prog Tryz.f7 false true false false) := by
  obtain ⟨places, hx⟩ := law_reads os enc
  refine returnsInHanded_of_row (C := Tryz.checked) (s := OpenSpec.ofChange Rows.accessGoneSpec) own started (by kernel_rfl) Tryz.func7
    (witness_row_atRef (enc := enc) (C := Tryz.checked) false (laidW os) #[.int .i64 0, .int .i64 0, .bool false] (World.laidAll_os _ _ _) (by kernel_rfl) (by kernel_rfl) (by kernel_rfl)
      (OpenSpec.preRow_of_cond 8 hx (by kernel_rfl) (fun k hk => by cases hk) (by kernel_rfl) (laidW_met os _))) ?_
  intro W base args ds gs before hval0 hW _ _ _ hL _ _
  have hval : ∀ (j : Nat) t v, Tryz.f7.params[j]? = some t → args[j]? = some v → Value.okWide Tryz.prog W .any base t v := hval0
  have hW' := hW
  obtain ⟨p, q, hA0, hV, rfl, _, _⟩ := hW
  have hA : DataW.TrodAll enc Tryz.prog W 0 (fun _ => true) true Tryz.f7.params.toList args.toList ds p := hA0
  rw [Tryz.params7] at hA hval
  obtain ⟨v0, vs0, d0, ds0, p0, q0, hargs0, rfl, rfl, h0, r0⟩ := trodAll_cons hA
  obtain ⟨v1, vs1, d1, ds1, p1, q1, hargs1, rfl, rfl, h1, r1⟩ := trodAll_cons r0
  obtain ⟨v2, vs2, d2, ds2, p2, q2, hargs2, rfl, rfl, h2, r2⟩ := trodAll_cons r1
  obtain ⟨rfl, rfl, rfl⟩ := trodAll_nil r2
  subst hargs2
  subst hargs1
  obtain rfl : args = #[v0, v1, v2] := by apply Array.ext'; exact hargs0
  obtain ⟨rfl, rfl⟩ := trodVars_none hV
  obtain ⟨n, rfl, rfl, rfl, w0⟩ := open_int Tryz.underlying3 (hval 0 3 v0 rfl rfl) h0
  obtain ⟨l, rfl, rfl, rfl, w1⟩ := open_int Tryz.underlying3 (hval 1 3 v1 rfl rfl) h1
  obtain ⟨m, rfl, rfl, rfl⟩ := open_bool Tryz.underlying4 (hval 2 4 v2 rfl rfl) h2
  simp only [List.append_nil] at hW'
  refine (law_calls hL n l m).mono fun e W' ⟨he, hb⟩ => ?_
  subst he
  exact ⟨_, rfl, _, _, _, [], [], [], hW', trodAll_mk1 (shut_bool Tryz.underlying4 _), (trodAll_cons_mk (shut_int Tryz.underlying3 w0) (trodAll_cons_mk (shut_int Tryz.underlying3 w1) (trodAll_mk1 (shut_bool Tryz.underlying4 _)))), rfl, hb.frame _, fun h => by cases h⟩
theorem law_said : Rows.AccessGoneSaid :=
  OpenClaim.holds_of_cond 7 Tryz.f7 rfl rfl rfl rfl rfl rfl rfl ⟨rfl, rfl, rfl, rfl, rfl⟩ rfl rfl rfl rfl rfl (by kernel_rfl) Tryz.func7 (by kernel_rfl)
    (of_decide_eq_true (by kernel_rfl)) (by unfold Func.isWrapper; first | (rw [if_pos (by decide +kernel)]; kernel_rfl) | (rw [if_neg (by decide +kernel)]; exact ⟨rfl, rfl⟩))
    (fun os started H enc _ F => by rw [OpenClaim.pre_eq_preRow]; exact law_lifted os started H enc F)
theorem law_plain (f : FuncId) (fn : Func) (hf : Tryz.pinned.checked.prog.funcNamed "antiphon/antiphonlaw13.AccessGone" = some f) (hfn : Tryz.pinned.checked.prog.funcs[f]? = some fn) :
    true = Tryz.pinned.checked.prog.looks [] ∧ ∀ (j : Nat) t, fn.params[j]? = some t → Tryz.pinned.checked.prog.wantsStandIn t = false := by
  obtain rfl : f = 7 := Option.some.inj ((show Tryz.prog.funcNamed "antiphon/antiphonlaw13.AccessGone" = some 7 by kernel_rfl).symm.trans hf) |>.symm
  obtain rfl : fn = Tryz.f7 := (Option.some.inj (Tryz.func7.symm.trans hfn)).symm
  refine ⟨by kernel_rfl, fun j t ht => ?_⟩
  rw [Tryz.params7] at ht
  have hm : t ∈ [3, 3, 4] := by simpa using Array.mem_of_getElem? ht
  have hall : ([3, 3, 4].all fun u => !Tryz.prog.wantsStandIn u) = true := by kernel_rfl
  exact (show Tryz.prog.wantsStandIn t = false by simpa using List.all_eq_true.1 hall t hm)
theorem law_card : Rows.AccessGoneCardSaid :=
  Claim7.holds_tied_plain_at .later [] _ _ _ _ law_said (fun _ h => by cases h) (by kernel_rfl) (fun _ h => by cases h) accessGone_row_tie rfl ⟨rfl, rfl⟩ (by kernel_rfl) rfl law_plain (by kernel_rfl)
end Go.Abs.X
namespace Go.Proofs.YtbbpedjbfgcdoaaGreatDoor
theorem accessGone_holds : Rows.AccessGoneCardSaid := Go.Abs.X.law_card
end Go.Proofs.YtbbpedjbfgcdoaaGreatDoor
