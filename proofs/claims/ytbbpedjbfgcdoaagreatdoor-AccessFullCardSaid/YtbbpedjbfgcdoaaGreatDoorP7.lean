/- A part of the proof behind the last text of this folder: S5, F1, L1, L2, M2, R1, M3, R2, M4, R3, M5, R4, K1, K2, K3. -/
import Derived.Test.YtbbpedjbfgcdoaaGreatDoorP6
import Derived.WalkKit
import Derived.BigCall
import Derived.Lib.Hide
import Derived.Test.YtbbpedjbfgcdoaaGreatDoorP5
set_option linter.unusedSimpArgs false
set_option linter.unusedSectionVars false

namespace Go.Abs.X
open Go.Abs Go Go.Proofs Go.Sort Go.RowKit
variable {w0 : World}
def valStr (ks : List ByteArray) : DV := match ks with
  | [] => .nils
  | k :: r => .ros (strsD (k :: r)) (k :: r).length none
theorem valStr_cons (ks : List ByteArray) (h : ks ≠ []) : valStr ks = .ros (strsD ks) ks.length none := by
  cases ks with
  | nil => exact absurd rfl h
  | cons k r => rfl
theorem keysStr_ok (es : List (DV × DV)) (K : AV → Heap → Prop) (hk : K (.func 144 [.ptr 1 0]) [some (.mapD es), some (.cells [.map 0] 206 false)]) :
    CallA (cx w0) 125 [.map 0] [some (.mapD es)] K := by
  refine CallA.enter ok (dr (plOf [])) Tryz.func125 Tryz.call125 ?_
  exact hk
theorem sortStr_none (K : AV → Heap → Prop) (hk : K (.dat (.tup [])) []) : CallA (cx w0) 143 [.dat .nils] [] K := by
  refine CallA.of_below rfl (.tup []) (fun st vs sat hl hr => ?_) hk
  have hv : vs = #[.slice none 0 0] := by
    obtain ⟨v1, t, e1, h1, h2⟩ := rels_cons.1 hr
    simp only [Rel, RelD] at h1
    subst h1
    have : t = [] := by
      have := congrArg List.length e1
      simp at this
      simp only [List.length_cons, List.length_nil] at hl
      exact List.eq_nil_of_length_eq_zero (by omega)
    subst this
    apply Array.ext'
    rw [e1]
  subst hv
  refine ⟨Tryz.call143 _ _, ?_⟩
  have := Tryz.slices_Sort_string_none none 0 st.w
  refine Calls.mono this ?_
  rintro e w' ⟨rfl, rfl⟩
  exact ⟨_, rfl, RowKit.Below.refl _ _, fun _ _ => by simp [RelD, RelDs]⟩
theorem sortedStr_ok (es : List (DV × DV)) (hk : ∀ e ∈ es, ∃ l : ByteArray, e.1 = DV.str l) (hlen : es.length ≤ 1000000) (K : AV → Heap → Prop)
    (h1 : ∀ ks : List ByteArray, (ks.map DV.str).Perm (es.map (·.1)) → K (.dat (valStr (sortS ks))) [some (.mapD es), some (.cells [.map 0] 206 false)]) :
    CallA (cx w0) 124 [.func 144 [.ptr 1 0]] [some (.mapD es), some (.cells [.map 0] 206 false)] K := by
  refine CallA.ret ?_
  refine CallA.enter ok (dr (plOf [])) Tryz.func124 Tryz.call124 ?_
  refine call_at [0, 1] (collectStr es hk hlen _ (fun he => ?_) (fun ks hne hp => ?_)) rfl rfl rfl rfl
  · refine call_at [] (sortStr_none _ ?_) rfl rfl rfl rfl
    have h1 := h1 [] (by rw [he]; exact List.Perm.refl _)
    rw [show sortS [] = [] by simp [sortS]] at h1
    exact leaf [0, 1] (.dat .nils) [some (.mapD es), some (.cells [.map 0] 206 false)] rfl rfl rfl rfl rfl h1
  · have hl : ks.length ≤ 1000000 := by
      have := hp.length_eq
      simp at this
      omega
    have hls : (sortS ks).length = ks.length := by simp [sortS]
    have hne2 : sortS ks ≠ [] := fun h => by
      rw [h] at hls
      exact hne (List.eq_nil_of_length_eq_zero hls.symm)
    refine call_in [2] (sortStr_ok ks hl _ ?_) rfl rfl rfl (hin_cons (renTs_datC ?_) hin_nil) 
    · refine shift_frz' 2 (strsD (sortS ks)) rfl ?_ ?_
      · simp only [renTs_dat]
      refine leaf [0, 1] _ [some (.mapD es), some (.cells [.map 0] 206 false)] ?_ rfl rfl rfl rfl (h1 ks hp)
      rw [valStr_cons _ hne2, hls]
      rfl
    · simp only [renTs_dat]; rfl
end Go.Abs.X

namespace Go.Proofs
open Go.RowKit Go.Shelf

theorem Tryz.sizeBuilder : (Tryz.prog.info? 141).map (·.size) = some 2 := by kernel_rfl
theorem Tryz.liesBuilder : liesAt Tryz.prog Tryz.prog.depth 141 (2 / Tryz.prog.cellsOf 141) 0 141 1 = true := by kernel_rfl
def Tryz.renB : Go.Shelf.Ren := ⟨fun | 242 => 145 | 278 => 164 | n => n, fun | 5 => 5 | 37 => 139 | 21 => 21 | 51 => 54 | 4 => 4 | 46 => 132 | 72 => 141 | n => n, fun | n => n⟩

set_option maxHeartbeats 1000000 in
set_option maxRecDepth 100000 in
/-- copyCheck at a builder that has been used: nothing turns. -/
theorem Tryz.copyCheck_used (b : Nat) (w : World) (h0 : w.cell? ⟨b, 0, none⟩ = some (.pointer (some ⟨b, 0, none⟩))) :
    Calls Tryz.prog 135 #[.pointer (some ⟨b, 0, none⟩)] w fun e w' => e = .returned (.tuple #[]) ∧ w' = w := by
  obtain ⟨j, hj, _⟩ := Option.map_eq_some_iff.1 Tryz.sizeBuilder
  go_enter Tryz.func135, Tryz.ntmps135
  go_wp2
  rw [Lib.run_neq_ptr_same w _ Tryz.underlying138 hj]
  go_wp2
  go_end0
  exact ⟨rfl, rfl⟩

set_option maxHeartbeats 1000000 in
set_option maxRecDepth 100000 in
/-- copyCheck at a fresh builder: it stores its own address. -/
theorem Tryz.copyCheck_fresh (b : Nat) (w : World) (h0 : w.cell? ⟨b, 0, none⟩ = some (.pointer none)) (hsh : w.shape? b = some (141, 2)) (hfz : w.frozen? ⟨b, 0, none⟩ = false) :
    Calls Tryz.prog 135 #[.pointer (some ⟨b, 0, none⟩)] w fun e w' => e = .returned (.tuple #[]) ∧ w' = w.setCell ⟨b, 0, none⟩ (.pointer (some ⟨b, 0, none⟩)) := by
  obtain ⟨j, hj, hjs⟩ := Option.map_eq_some_iff.1 Tryz.sizeBuilder
  go_enter Tryz.func135, Tryz.ntmps135
  go_wp2
  rw [Lib.run_to_unsafe w ⟨b, 0, none⟩ Tryz.underlying138 Tryz.underlying237 hj (by rw [hjs]; decide) hsh (Nat.zero_lt_succ 1)]
  simp only [Result.andThen]
  rw [Oper.upon_value]
  go_wp2
  rw [run_callFunc_extern Tryz.func158 (by kernel_rfl) (by kernel_rfl) (by kernel_rfl) (e := Extern.AbiNoEscape.same) (by kernel_rfl)]
  rw [Lib.run_noEscape]
  simp only [Result.andThen]
  rw [Oper.upon_value]
  go_wp2
  rw [Lib.run_from_unsafe w ⟨b, 0, none⟩ Tryz.underlying237 Tryz.underlying138 hj hsh Tryz.liesBuilder]
  simp only [Result.andThen]
  rw [Oper.upon_value]
  go_wp2
  go_end0
  exact ⟨rfl, rfl⟩
theorem Tryz.copyCheck_k (B b : Nat) (bs : List Value) (w : World) (h : Lib.IsBuilderF 141 5 B b bs w) :
    Calls Tryz.prog 135 #[.pointer (some ⟨b, 0, none⟩)] w fun e w' => e = .returned (.tuple #[]) ∧ (Lib.BuilderAtF 141 5 B b (.pointer (some ⟨b, 0, none⟩)) bs w' ∧ Below B w w' ∧ Lib.OthersKept 5 (some b) w w') := by
  rcases h with h | h
  · refine (Tryz.copyCheck_fresh b w h.cell0 h.shape h.frozen0).mono ?_
    rintro e w' ⟨rfl, rfl⟩
    exact ⟨rfl, h.used _, (Below.refl B w).setCell (p := ⟨b, 0, none⟩) h.1 _, (Lib.OthersKept.refl _ _ w).setCell ⟨b, 0, none⟩ rfl _⟩
  · refine (Tryz.copyCheck_used b w h.cell0).mono ?_
    rintro e w' ⟨rfl, rfl⟩
    exact ⟨rfl, h, Below.refl B _, Lib.OthersKept.refl _ _ _⟩
theorem Tryz.layB : Lays.n242 Tryz.prog Tryz.renB := {
  mixed := by kernel_rfl
  f242 := Tryz.func145.trans (congrArg some (by kernel_rfl))
  f278 := Tryz.func164.trans (congrArg some (by kernel_rfl))
  t4 := Tryz.underlying4, a4 := Tryz.isAgg4, z4 := Tryz.sizeOf4, v4 := Tryz.zeroValue4
  t5 := Tryz.underlying5, a5 := Tryz.isAgg5, z5 := Tryz.sizeOf5, v5 := Tryz.zeroValue5
  t21 := Tryz.underlying21, a21 := Tryz.isAgg21, z21 := Tryz.sizeOf21, v21 := Tryz.zeroValue21
  t37 := Tryz.underlying139, a37 := Tryz.isAgg139, z37 := Tryz.sizeOf139, v37 := Tryz.zeroValue139
  t46 := Tryz.underlying132, a46 := Tryz.isAgg132, z46 := Tryz.sizeOf132, v46 := Tryz.zeroValue132
  t51 := Tryz.underlying54, a51 := Tryz.isAgg54, z51 := Tryz.sizeOf54, v51 := Tryz.zeroValue54 }
theorem Tryz.extraB : Builder.Extra Tryz.prog Tryz.renB := {
  sizeBuilder := by kernel_rfl
  liesBuilder := by kernel_rfl
  t5 := Tryz.underlying5
  a5 := Tryz.isAgg5
  z5 := Tryz.sizeOf5
  v5 := Tryz.zeroValue5
  infoByte := by kernel_rfl
  cellsByte := by kernel_rfl
  sizeByte := by kernel_rfl
  neB5 := by decide }
theorem Tryz.AppendRune_own (B : Nat) (v : Value) (n : Nat) (xs : List Value) (r : Int) (hr0 : -2147483648 ≤ r) (hr1 : r ≤ 2147483647) (w : World) (hown : w.ownsRowF B 5 1 v n xs) (hlen : n + 4 ≤ 140737488355328) (hBw : B ≤ w.heap.size) :
    Calls Tryz.prog 145 #[v, .int .i32 r] w fun e w' => ∃ v', e = .returned v' ∧ w'.ownsRowF B 5 1 v' (n + (Lib.runeCells r).length) (xs ++ Lib.runeCells r) ∧ ∃ o, (w.alloc o).grownBy w' v.ownBlock :=
  Any.utf8_AppendRune_own Tryz.layB Tryz.extraB B v n xs r hr0 hr1 w hown hlen hBw

set_option maxHeartbeats 4000000 in
set_option maxRecDepth 100000 in
theorem Tryz.WriteRune_k (B b : Nat) (bs : List Value) (r : Int) (hr0 : -2147483648 ≤ r) (hr1 : r ≤ 2147483647) (w : World) (h : Lib.IsBuilderF 141 5 B b bs w) (hlen : bs.length + 4 ≤ 140737488355328) (hBw : B ≤ w.heap.size) :
    Calls Tryz.prog 127 #[.pointer (some ⟨b, 0, none⟩), .int .i32 r] w fun e w' => e = .returned (.tuple #[.int .i64 (Lib.runeCells r).length, .nilIface]) ∧ (Lib.BuilderAtF 141 5 B b (.pointer (some ⟨b, 0, none⟩)) (bs ++ Lib.runeCells r) w' ∧ Below B w w' ∧ Lib.OthersKept 5 (some b) w w') := by
  have hk4 := Lib.runeCells_le r
  go_enter Tryz.func127, Tryz.ntmps127
  go_wp2_with (go_at_call 135; refine (Tryz.copyCheck_k B b bs _ h).mono ?_)
  rintro e w1 ⟨rfl, h1, hb1, hk1⟩
  obtain ⟨hB, v, hbk, hown, hne⟩ := h1
  obtain ⟨ao, cap, rfl⟩ : ∃ ao cap, v = .slice ao bs.length cap := by
    rcases hown.2 with ⟨hv, h0⟩ | ⟨g, cap, cur, fz, hv, _⟩
    · exact ⟨none, 0, by rw [hv, h0]⟩
    · exact ⟨_, _, hv⟩
  have c0 : w1.cell? ⟨b, 0, none⟩ = some (.pointer (some ⟨b, 0, none⟩)) := by rw [Lib.cell_of_heap hbk]; rfl
  have c1 : w1.cell? ⟨b, 1, none⟩ = some (.slice ao bs.length cap) := by rw [Lib.cell_of_heap hbk]; rfl
  go_wp2_with (go_at_call 145; refine (Tryz.AppendRune_own B _ bs.length bs r hr0 hr1 _ hown hlen (by have := hb1.size; omega)).mono ?_)
  rintro e w2 ⟨v', rfl, hown', o, hgrow⟩
  have hlt : b < w1.heap.size := by
    rcases Nat.lt_or_ge b w1.heap.size with h' | h'
    · exact h'
    · simp [Array.getElem?_eq_none h'] at hbk
  have hb2 : w2.heap[b]? = some (.cells #[.pointer (some ⟨b, 0, none⟩), .slice ao bs.length cap] 141 (0, 0)) := by
    rw [hgrow.block b (by simp; omega) (fun e => hne e.symm), Lib.alloc_old w1 _ b hlt]
    exact hbk
  have d0 : w2.cell? ⟨b, 0, none⟩ = some (.pointer (some ⟨b, 0, none⟩)) := by rw [Lib.cell_of_heap hb2]; rfl
  have d1 : w2.cell? ⟨b, 1, none⟩ = some (.slice ao bs.length cap) := by rw [Lib.cell_of_heap hb2]; rfl
  have f1 : w2.frozen? ⟨b, 1, none⟩ = false := Lib.frozen_of_heap hb2 1
  obtain ⟨g, cap', rfl⟩ : ∃ g cap', v' = .slice (some ⟨g, 0, none⟩) (bs.length + (Lib.runeCells r).length) cap' := by
    rcases hown'.2 with ⟨_, h0⟩ | ⟨g, cap', cur, fz, hv, _⟩
    · omega
    · exact ⟨g, cap', hv⟩
  go_wp2
  go_ret2
  refine ⟨?_, ?_, ?_, ((hk1.alloc _).grown hgrow (Lib.ownsRowF_kind (hown.alloc _))).setCell ⟨b, 1, none⟩ rfl _⟩
  · have e : ((bs.length : Int) + ((Lib.runeCells r).length : Int) - (bs.length : Int)) = ((Lib.runeCells r).length : Int) := by omega
    simp [e]
  · exact Lib.BuilderAtF.put (T := 141) (e := 5) hB hb2 (bs' := bs ++ Lib.runeCells r) (by simpa using hown') (by decide)
  · exact ((hb1.alloc (by have := hb1.size; omega) _).grown hgrow (by have := hb1.size; simp; omega) (fun k hk => (hown.lt k hk).1)).setCell (p := ⟨b, 1, none⟩) hB _

/-- What a name is folded to, from a place on: over the model's own decoding of UTF-8 and Go's own table of letters. -/
def foldFrom (s : ByteArray) : Nat → Nat → List UInt8
  | 0, _ => []
  | fuel + 1, pos => if pos < s.size then Lib.encodeRune (Lib.toLowerU (Utf8.decode s pos).1) ++ foldFrom s fuel (pos + (Utf8.decode s pos).2) else []
def foldM (s : ByteArray) : ByteArray := ⟨(foldFrom s s.size 0).toArray⟩
theorem foldFrom_end (s : ByteArray) (fuel pos : Nat) (h : ¬ pos < s.size) : foldFrom s fuel pos = [] := by
  cases fuel with
  | zero => rfl
  | succ f => simp [foldFrom, h]
theorem width_pos (s : ByteArray) (pos : Nat) (h : pos < s.size) : 1 ≤ (Utf8.decode s pos).2 := by
  by_cases ha : (s[pos]'h).toNat < 128
  · rw [decode_ascii s pos h ha]
    exact Nat.le_refl _
  · exact (decode_high s pos h (by omega)).2
theorem caseVar_below {g : Nat} {T : Array Lib.CaseRow} {w w' : World} (h : Lib.CaseVar g T w) (hb : Below w.heap.size w w') : Lib.CaseVar g T w' := by
  obtain ⟨R, oR, cap, h1, h2⟩ := h
  have go : ∀ {a : Addr} {v : Value}, w.cell? a = some v → w'.cell? a = some v := fun {a v} hc => (hb.cell (World.block_lt_of_cell? w a hc)).trans hc
  refine ⟨R, oR, cap, go h1, fun i hi => ?_⟩
  obtain ⟨a, b, c, d, e⟩ := h2 i hi
  exact ⟨go a, go b, go c, go d, go e⟩
theorem toLower_fits (r : Int) (h0 : 0 ≤ r) (h1 : r ≤ 2147483647) : -2147483648 ≤ Lib.toLowerU r ∧ Lib.toLowerU r ≤ 2147483647 := by
  unfold Lib.toLowerU
  split
  · split <;> omega
  · rw [← Lib.toW_caseA 1 (by omega)]
    unfold Lib.toW
    split
    · rw [wrap32]; omega
    · omega

set_option maxHeartbeats 4000000 in
set_option maxRecDepth 1000000 in
theorem Tryz.fold_walk (s : ByteArray) (w : World) (hs : s.size ≤ 35184372088832) (hV : Lib.CaseVar 3 Lib.caseA w) :
    Calls Tryz.prog 90 #[.string s] w fun e w' => e = .returned (.string (foldM s)) ∧ Below w.heap.size w w' := by
  have HV := Lib.hid hV; clear hV
  go_enter Tryz.func90, Tryz.ntmps90
  go_wp2
  go_loopw [] (fun wr => ∃ (pos fuel : Nat) (acc : List UInt8), Lib.IsBuilderF 141 5 w.heap.size w.heap.size (Lib.byteCells acc) wr ∧ wr.heap[w.heap.size + 1]? = some (.stringIter s pos) ∧ Below w.heap.size w wr ∧ acc ++ foldFrom s fuel pos = foldFrom s s.size 0 ∧ s.size ≤ pos + fuel ∧ acc.length ≤ 4 * pos) (fun wr => s.size - wr.iterPos (w.heap.size + 1))
  case atStart =>
    refine ⟨0, s.size, [], (Lib.IsBuilderF.of (Lib.fresh_isBuilder 141 5 w)).alloc _, ?_, ((Below.refl _ w).alloc (Nat.le_refl _) _).alloc (by simp) _, rfl, by omega, by simp⟩
    have := World.iter_heap (w.alloc (.cells #[.pointer none, .slice none 0 0] 141)) s 0
    simpa using this
  case round =>
    obtain ⟨pos, fuel, acc, hI, hit, hbw, hacc, hfu, hal⟩ := hrel
    have hsz : w.heap.size + 1 < wr.heap.size := (Array.getElem?_eq_some_iff.1 hit).1
    by_cases hp : pos < s.size
    · -- a rune is at hand: 'next' in whatever world
      have hnx : ∀ ty, (Instr.next (.pointer (some ⟨w.heap.size + 1, 0, none⟩)) true ty).run Tryz.prog wr = _ := fun ty => Lib.run_next_any_at wr (w.heap.size + 1) s pos ty hit hp
      have hwd := width_pos s pos hp
      have hd1 := decode_le s pos
      have hI2 := hI.iterAt hit (pos + (Utf8.decode s pos).2)
      have hit2 := Lib.iterAt_heap wr (w.heap.size + 1) s pos (pos + (Utf8.decode s pos).2) hit
      have hbw2 := Lib.below_iterAt hbw (k := w.heap.size + 1) (by omega) s (pos + (Utf8.decode s pos).2)
      have hsz2 : w.heap.size ≤ (wr.iterAt (w.heap.size + 1) s (pos + (Utf8.decode s pos).2)).heap.size := by rw [Lib.iterAt_size]; omega
      obtain ⟨f, rfl⟩ : ∃ f, fuel = f + 1 := ⟨fuel - 1, by omega⟩
      have hfit := toLower_fits (Utf8.decode s pos).1 (by omega) (by omega)
      have hfr : foldFrom s (f + 1) pos = Lib.encodeRune (Lib.toLowerU (Utf8.decode s pos).1) ++ foldFrom s f (pos + (Utf8.decode s pos).2) := by simp [foldFrom, hp]
      have HF := Lib.hid hfr; clear hfr
      go_wp2_with (go_at_call 128; refine (Tryz.unicode_ToLower_laid (Utf8.decode s pos).1 _ (caseVar_below HV.out hbw2)).mono ?_)
      rintro e W1 ⟨rfl, q, rfl⟩
      have hI3 : Lib.IsBuilderF 141 5 w.heap.size w.heap.size (Lib.byteCells acc) ((wr.iterAt (w.heap.size + 1) s (pos + (Utf8.decode s pos).2)).drewN q) := hI2
      have hit3 : ((wr.iterAt (w.heap.size + 1) s (pos + (Utf8.decode s pos).2)).drewN q).heap[w.heap.size + 1]? = some (.stringIter s (pos + (Utf8.decode s pos).2)) := hit2
      have hbw3 : Below w.heap.size w ((wr.iterAt (w.heap.size + 1) s (pos + (Utf8.decode s pos).2)).drewN q) := ⟨hbw2.os, hbw2.tape, hbw2.output, hbw2.size, hbw2.block⟩
      clear hI2 hit2 hbw2 hsz2 hnx
      generalize (wr.iterAt (w.heap.size + 1) s (pos + (Utf8.decode s pos).2)).drewN q = W2 at hI3 hit3 hbw3 ⊢
      have hsz3 := hbw3.size
      go_wp2_with (go_at_call 127; refine (Tryz.WriteRune_k w.heap.size w.heap.size _ (Lib.toLowerU (Utf8.decode s pos).1) hfit.1 hfit.2 _ hI3 (by rw [Lib.byteCells_length]; omega) hsz3).mono ?_)
      rintro e W1 ⟨rfl, h1, b1, k1⟩
      go_wp2
      go_roundw
      case rel =>
        have hl4 := Lib.runeCells_le (Lib.toLowerU (Utf8.decode s pos).1)
        rw [Lib.runeCells_length] at hl4
        refine ⟨pos + (Utf8.decode s pos).2, f, acc ++ Lib.encodeRune (Lib.toLowerU (Utf8.decode s pos).1), ?_, k1.iter hit3 (by omega), hbw3.trans b1, ?_, by omega, by simp; omega⟩
        · rw [Lib.byteCells_append, Lib.byteCells_encodeRune]; exact Or.inr h1
        · rw [← hacc, HF.out]; simp
      case measure =>
        simp only [World.iterPos, k1.iter hit3 (by omega), hit]
        omega
    · -- the string is through: b.String()
      have hnx : ∀ ty, (Instr.next (.pointer (some ⟨w.heap.size + 1, 0, none⟩)) true ty).run Tryz.prog wr = _ := fun ty => Lib.run_next_end_at wr (w.heap.size + 1) s pos ty hit hp
      go_wp2_with (go_at_call 115; refine (Tryz.Builder_String_any_k w.heap.size w.heap.size acc _ hI (by omega)).mono ?_)
      rintro e W1 ⟨rfl, _, b1, _⟩
      go_wp2
      go_ret
      rw [foldFrom_end s fuel pos hp, List.append_nil] at hacc
      subst hacc
      exact ⟨rfl, hbw.trans b1⟩
end Go.Proofs

namespace Go.Abs.X
open Go.Abs Go Go.Proofs
variable {w0 : World}

/-- What package unicode's tables hold. -/
structure Laid (w0 : World) : Prop where
  props : Lib.TabIs Tryz.prog w0 "unicode.properties" .u8 Lib.propertiesTab
  letter : Lib.RVar 1 Lib.letterT w0
  digit : Lib.RVar 2 Lib.digitT w0
  case : Lib.CaseVar 3 Lib.caseA w0
def letterM (r : Int) : Bool := if Lib.latin1 r then Lib.isLetterL r else Lib.exclGo Lib.letterT r
def digitM (r : Int) : Bool := if r ≤ 255 then Lib.isDigitL r else Lib.exclGo Lib.digitT r
def classM (r : Int) : Int := if r = 45 ∨ r = 95 ∨ r = 46 then 3 else if letterM r then 1 else if digitM r then 2 else 0

theorem goBelow {w w' : World} (hb : RowKit.Below w.heap.size w w') {a : Addr} {v : Value} (hc : w.cell? a = some v) : w'.cell? a = some v := (hb.cell (World.block_lt_of_cell? w a hc)).trans hc
theorem rvarBelow {g : Nat} {T : Lib.RTab} {w w' : World} (h : Lib.RVar g T w) (hb : RowKit.Below w.heap.size w w') : Lib.RVar g T w' := by
  obtain ⟨Tb, oT, h1, a16, a32, R16, o16, c16, R32, o32, c32, k1, k2, k3, k4, k5, k6, k7, k8⟩ := h
  refine ⟨Tb, oT, goBelow hb h1, a16, a32, R16, o16, c16, R32, o32, c32, goBelow hb k1, goBelow hb k2, goBelow hb k3, k4, k5, fun i hi => ?_, fun i hi => ?_, k8⟩
  · obtain ⟨a, b, c⟩ := k6 i hi
    exact ⟨goBelow hb a, goBelow hb b, goBelow hb c⟩
  · obtain ⟨a, b, c⟩ := k7 i hi
    exact ⟨goBelow hb a, goBelow hb b, goBelow hb c⟩
theorem tabBelow {n : String} {k : IntKind} {zs : List Int} {w w' : World} (h : Lib.TabIs Tryz.prog w n k zs) (hb : RowKit.Below w.heap.size w w') : Lib.TabIs Tryz.prog w' n k zs := by
  unfold Lib.TabIs World.var? at h ⊢
  cases hg : Tryz.prog.globalNamed n with
  | none => rw [hg] at h; cases h
  | some g =>
    rw [hg] at h
    simp only [Option.bind_some] at h ⊢
    have hlt : g < w.heap.size := by
      rcases Nat.lt_or_ge g w.heap.size with h' | h'
      · exact h'
      · rw [Array.getElem?_eq_none h'] at h; cases h
    rw [hb.block g hlt]; exact h

theorem one_arg {s : Wd} {d : DV} {vs : Array Value} (hl : [AV.dat d].length = vs.size) (hr : Rels s [.dat d] vs.toList) : ∃ v, vs = #[v] ∧ RelD s.I s.w d v := by
  have hv : ∃ v, vs = #[v] := by
    simp only [List.length_singleton] at hl
    exact ⟨vs[0], by apply Array.ext <;> simp [← hl]; intro i hi; subst hi; rfl⟩
  obtain ⟨v, rfl⟩ := hv
  exact ⟨v, rfl, by simpa [Rels, Rel] using hr⟩

theorem isLetter_ok (L : Laid w0) (r : Int) (h1 : -2147483648 ≤ r) (h2 : r ≤ 2147483647) (K : AV → Heap → Prop) (hk : K (.dat (.bool (letterM r))) []) : CallA (cx w0) 136 [.dat (.int .i32 r)] [] K := by
  refine CallA.of_below rfl (.bool (letterM r)) (fun s vs sat hl hr => ?_) hk
  obtain ⟨v, rfl, hv⟩ := one_arg hl hr
  simp only [RelD] at hv; subst hv
  have hb := sat.old.b
  refine ⟨Tryz.call136 _ _, (Tryz.unicode_IsLetter_any Lib.letterT r s.w h1 h2 (tabBelow L.props hb) (rvarBelow L.letter hb) Lib.letterT_ok).mono ?_⟩
  rintro e w' ⟨rfl, hw⟩
  exact ⟨_, rfl, hw, fun _ _ => by simp only [RelD]; rfl⟩
theorem isDigit_ok (L : Laid w0) (r : Int) (h1 : -2147483648 ≤ r) (h2 : r ≤ 2147483647) (K : AV → Heap → Prop) (hk : K (.dat (.bool (digitM r))) []) : CallA (cx w0) 137 [.dat (.int .i32 r)] [] K := by
  refine CallA.of_below rfl (.bool (digitM r)) (fun s vs sat hl hr => ?_) hk
  obtain ⟨v, rfl, hv⟩ := one_arg hl hr
  simp only [RelD] at hv; subst hv
  refine ⟨Tryz.call137 _ _, (Tryz.unicode_IsDigit_any Lib.digitT r s.w h1 h2 (rvarBelow L.digit sat.old.b) Lib.digitT_ok).mono ?_⟩
  rintro e w' ⟨rfl, hw⟩
  exact ⟨_, rfl, hw, fun _ _ => by simp only [RelD]; rfl⟩
theorem fold_ok (L : Laid w0) (s : ByteArray) (hs : s.size ≤ 35184372088832) (K : AV → Heap → Prop) (hk : K (.dat (.str (foldM s))) []) : CallA (cx w0) 90 [.dat (.str s)] [] K := by
  refine CallA.of_below rfl (.str (foldM s)) (fun st vs sat hl hr => ?_) hk
  obtain ⟨v, rfl, hv⟩ := one_arg hl hr
  simp only [RelD] at hv; subst hv
  refine ⟨Tryz.call90 _ _, (Tryz.fold_walk s st.w hs (caseVar_below L.case sat.old.b)).mono ?_⟩
  rintro e w' ⟨rfl, hw⟩
  exact ⟨_, rfl, hw, fun _ _ => by simp only [RelD]⟩
/-- bytes ahead -/
def preM (s p : ByteArray) : Bool := Lib.hasPrefix s.data.toList p.data.toList
theorem hasPrefix_ok (s p : ByteArray) (K : AV → Heap → Prop) (hk : K (.dat (.bool (preM s p))) []) : CallA (cx w0) 120 [.dat (.str s), .dat (.str p)] [] K := by
  refine CallA.of_below rfl (.bool (preM s p)) (fun st vs sat hl hr => ?_) hk
  have hv : vs = #[.string s, .string p] := by
    obtain ⟨v, t, e1, h1, h2⟩ := rels_cons.1 hr
    obtain ⟨v2, t2, e2, h3, h4⟩ := rels_cons.1 h2
    simp only [Rel, RelD] at h1 h3
    subst h1 h3
    have : t2 = [] := by
      have := congrArg List.length e1
      simp [e2] at this
      simp only [List.length_cons, List.length_nil] at hl
      exact List.eq_nil_of_length_eq_zero (by omega)
    subst this
    apply Array.ext'
    rw [e1, e2]
  subst hv
  refine ⟨Tryz.call120 _ _, (Tryz.strings_HasPrefix s p st.w).mono ?_⟩
  rintro e w' ⟨rfl, rfl⟩
  exact ⟨_, rfl, RowKit.Below.refl _ _, fun _ _ => by simp only [RelD]; rfl⟩

theorem class_ok (L : Laid w0) (r : Int) (h1 : -2147483648 ≤ r) (h2 : r ≤ 2147483647) (K : AV → Heap → Prop) (hk : K (.dat (.int .i64 (classM r))) []) : CallA (cx w0) 119 [.dat (.int .i32 r)] [] K := by
  refine CallA.ret ?_
  refine CallA.enter ok (dr (plOf [])) Tryz.func119 Tryz.call119 ?_
  have fin : ∀ n, classM r = n → K (.dat (.int .i64 n)) [] := fun n h => h ▸ hk
  by_cases c1 : r = 45
  · repeat (first | (refine condA_true ?_ ?_; focus (first | rfl | (simp; done) | (simp; omega) | (simp [c1]; done) | (simp [c1]; omega))) | (refine condA_false ?_ ?_; focus (first | rfl | (simp; done) | (simp; omega) | (simp [c1]; done) | (simp [c1]; omega))))
    exact leaf [] _ [] rfl rfl rfl rfl rfl (fin 3 (by simp [classM, c1]))
  by_cases c2 : r = 95
  · repeat (first | (refine condA_true ?_ ?_; focus (first | rfl | (simp; done) | (simp; omega) | (simp [c1]; done) | (simp [c2]; done) | (simp [c1]; omega) | (simp [c2]; omega) | (simp [c1, c2]; done))) | (refine condA_false ?_ ?_; focus (first | rfl | (simp; done) | (simp; omega) | (simp [c1]; done) | (simp [c2]; done) | (simp [c1]; omega) | (simp [c2]; omega) | (simp [c1, c2]; done))))
    exact leaf [] _ [] rfl rfl rfl rfl rfl (fin 3 (by simp [classM, c2]))
  by_cases c3 : r = 46
  · repeat (first | (refine condA_true ?_ ?_; focus (first | rfl | (simp; done) | (simp; omega) | (simp [c1]; done) | (simp [c2]; done) | (simp [c3]; done) | (simp [c1]; omega) | (simp [c2]; omega) | (simp [c3]; omega) | (simp [c1, c2]; done) | (simp [c1, c3]; done) | (simp [c2, c3]; done))) | (refine condA_false ?_ ?_; focus (first | rfl | (simp; done) | (simp; omega) | (simp [c1]; done) | (simp [c2]; done) | (simp [c3]; done) | (simp [c1]; omega) | (simp [c2]; omega) | (simp [c3]; omega) | (simp [c1, c2]; done) | (simp [c1, c3]; done) | (simp [c2, c3]; done))))
    exact leaf [] _ [] rfl rfl rfl rfl rfl (fin 3 (by simp [classM, c3]))
  repeat (first | (refine condA_true ?_ ?_; focus (first | rfl | (simp; done) | (simp; omega) | (simp [c1]; done) | (simp [c2]; done) | (simp [c3]; done) | (simp [c1]; omega) | (simp [c2]; omega) | (simp [c3]; omega) | (simp [c1, c2]; done) | (simp [c1, c3]; done) | (simp [c2, c3]; done))) | (refine condA_false ?_ ?_; focus (first | rfl | (simp; done) | (simp; omega) | (simp [c1]; done) | (simp [c2]; done) | (simp [c3]; done) | (simp [c1]; omega) | (simp [c2]; omega) | (simp [c3]; omega) | (simp [c1, c2]; done) | (simp [c1, c3]; done) | (simp [c2, c3]; done))))
  refine call_at [] (isLetter_ok L r h1 h2 _ ?_) rfl rfl rfl rfl
  by_cases c4 : letterM r
  · refine condA_true c4 ?_
    exact leaf [] _ [] rfl rfl rfl rfl rfl (fin 1 (by simp [classM, c1, c2, c3, c4]))
  refine condA_false (by simpa using c4) ?_
  refine call_at [] (isDigit_ok L r h1 h2 _ ?_) rfl rfl rfl rfl
  by_cases c5 : digitM r
  · refine condA_true c5 ?_
    exact leaf [] _ [] rfl rfl rfl rfl rfl (fin 2 (by simp [classM, c1, c2, c3, c4, c5]))
  refine condA_false (by simpa using c5) ?_
  exact leaf [] _ [] rfl rfl rfl rfl rfl (fin 0 (by simp [classM, c1, c2, c3, c4, c5]))

theorem same_ok (L : Laid w0) (a b : ByteArray) (ha : a.size ≤ 35184372088832) (hb : b.size ≤ 35184372088832) (K : AV → Heap → Prop) (hk : K (.dat (.bool ((foldM a).toList == (foldM b).toList))) []) : CallA (cx w0) 41 [.dat (.str a), .dat (.str b)] [] K := by
  refine CallA.ret ?_
  refine CallA.enter ok (dr (plOf [])) Tryz.func41 Tryz.call41 ?_
  refine call_at [] (fold_ok L a ha _ ?_) rfl rfl rfl rfl
  refine call_at [] (fold_ok L b hb _ ?_) rfl rfl rfl rfl
  exact leaf [] _ [] rfl rfl rfl rfl rfl hk
end Go.Abs.X

namespace Go.Abs.X
open Go.Abs Go Go.Proofs
variable {w0 : World}

def fffd : ByteArray := ⟨#[239, 191, 189]⟩
def checkFrom (s : ByteArray) : Nat → Nat → Nat → Int → Int
  | 0, _, n, last => if n > 16 ∨ last = 3 then 6 else 0
  | fuel + 1, pos, n, last => if pos < s.size then
      (if classM (Utf8.decode s pos).1 = 0 ∨ classM (Utf8.decode s pos).1 = 3 ∧ last = 3 ∨ (Utf8.decode s pos).1 = 65533 ∧ preM (s.extract pos s.size) fffd = false then 6
       else checkFrom s fuel (pos + (Utf8.decode s pos).2) (n + 1) (classM (Utf8.decode s pos).1))
    else if n > 16 ∨ last = 3 then 6 else 0
def checkM (s : ByteArray) : Int := if s.size = 0 ∨ s.size > 64 then 6 else checkFrom s s.size 0 0 3
theorem checkFrom_end (s : ByteArray) (fuel pos n : Nat) (last : Int) (h : ¬ pos < s.size) : checkFrom s fuel pos n last = if n > 16 ∨ last = 3 then 6 else 0 := by
  cases fuel with
  | zero => rfl
  | succ f => simp [checkFrom, h]
theorem wrap_i64 (n : Int) (h1 : -9223372036854775808 ≤ n) (h2 : n ≤ 9223372036854775807) : IntKind.i64.wrap n = n := by
  simp [IntKind.wrap, IntKind.bits, IntKind.signed]; omega

set_option maxHeartbeats 1000000 in
theorem check_ok (L : Laid w0) (s : ByteArray) (K : AV → Heap → Prop) (hk : K (.dat (.int .i64 (checkM s))) []) : CallA (cx w0) 79 [.dat (.str s)] [] K := by
  refine CallA.ret ?_
  refine CallA.enter ok (dr (plOf [])) Tryz.func79 Tryz.call79 ?_
  have fin : ∀ n, checkM s = n → K (.dat (.int .i64 n)) [] := fun n h => h ▸ hk
  by_cases c1 : s.size = 0
  · have e : s = ⟨#[]⟩ := by
      cases s with
      | mk d => simp only [ByteArray.size] at c1; rw [Array.eq_empty_of_size_eq_zero c1]
    subst e
    repeat (first | (refine condA_true ?_ ?_; focus (first | rfl | (simp; done))) | (refine condA_false ?_ ?_; focus (first | rfl | (simp; done))))
    exact leaf [] _ [] rfl rfl rfl rfl rfl (fin 6 (by unfold checkM; exact if_pos (Or.inl c1)))
  have c0 : (s.toList == (⟨#[]⟩ : ByteArray).toList) = false := by
    rw [Lib.toList_data, Lib.toList_data, beq_eq_false_iff_ne]
    intro h
    have := congrArg List.length h
    simp at this
    exact c1 (by simpa using this)
  by_cases c2 : 64 < s.size
  · repeat (first | (refine condA_true ?_ ?_; focus (first | (simp only [c0, Bool.not_false]; done) | (simp; omega))) | (refine condA_false ?_ ?_; focus (first | (simp only [c0, Bool.not_true]; done) | (simp; omega))))
    exact leaf [] _ [] rfl rfl rfl rfl rfl (fin 6 (by simp [checkM, c2]))
  repeat (first | (refine condA_true ?_ ?_; focus (first | (simp only [c0, Bool.not_false]; done) | (simp; omega))) | (refine condA_false ?_ ?_; focus (first | (simp only [c0, Bool.not_true]; done) | (simp; omega))))
  let E : Nat × Nat × Nat × Int → Env := fun x => mkE [0, 3, 4, 16] [.dat (.str s), .dat (.int .i64 x.2.2.1), .dat (.int .i64 x.2.2.2), .ptr 0 0]
  refine loop_in [0, 3, 4, 16] [0] [.dat (.str s), .dat (.int .i64 (0 : Nat)), .dat (.int .i64 3), .ptr 0 0] [some (.siter s 0)] rfl rfl rfl rfl (hin_cons rfl hin_nil) ?_
  refine loop_ind E (fun x => [some (.siter s x.2.1)]) (fun x => checkFrom s x.1 x.2.1 x.2.2.1 x.2.2.2 = checkM s ∧ s.size ≤ x.2.1 + x.1 ∧ x.2.2.1 ≤ x.2.1) (fun x => s.size - x.2.1) ?_ (s.size, 0, 0, 3) ⟨by simp only [checkM]; rw [if_neg (by omega)], by show s.size ≤ 0 + s.size; omega, Nat.le_refl 0⟩
  rintro ⟨fuel, pos, n, last⟩ ⟨hr, hf, hn⟩ ih
  replace hr : checkFrom s fuel pos n last = checkM s := hr
  replace hf : s.size ≤ pos + fuel := hf
  replace hn : n ≤ pos := hn
  refine loopA_round ok (dr (plOf []) _) ?_
  by_cases hp : pos < s.size
  · refine condA_true (by simpa using hp) ?_
    refine condA_true rfl ?_
    have hwd := width_pos s pos hp
    have hd1 := decode_le s pos
    obtain ⟨f, rfl⟩ : ∃ f, fuel = f + 1 := ⟨fuel - 1, by omega⟩
    simp only [checkFrom, hp, if_true] at hr
    refine call_at [] (class_ok L (Utf8.decode s pos).1 (by omega) (by omega) _ ?_) rfl rfl rfl rfl
    generalize classM (Utf8.decode s pos).1 = k at hr ⊢
    have on := fun hne : ¬ (k = 0 ∨ k = 3 ∧ last = 3 ∨ (Utf8.decode s pos).1 = 65533 ∧ preM (s.extract pos s.size) fffd = false) => ih (f, pos + (Utf8.decode s pos).2, n + 1, k) ⟨by rw [if_neg hne] at hr; exact hr, by show s.size ≤ pos + (Utf8.decode s pos).2 + f; omega, by show n + 1 ≤ pos + (Utf8.decode s pos).2; omega⟩ (by show s.size - (pos + (Utf8.decode s pos).2) < s.size - pos; omega)
    clear ih
    have hw : IntKind.i64.wrap ((n : Int) + 1) = ((n + 1 : Nat) : Int) := by rw [wrap_i64 _ (by omega) (by omega)]; omega
    by_cases k0 : k = 0
    · repeat (first | (refine condA_true ?_ ?_; focus (first | rfl | (simp; done) | (simp; omega) | (simp [k0]; done) | (simp [k0]; omega))) | (refine condA_false ?_ ?_; focus (first | rfl | (simp; done) | (simp; omega) | (simp [k0]; done) | (simp [k0]; omega))))
      exact leaf [] _ [] rfl rfl rfl rfl rfl (fin 6 (by rw [← hr, if_pos (Or.inl k0)]))
    by_cases k3 : k = 3 ∧ last = 3
    · obtain ⟨k3, l3⟩ := k3
      repeat (first | (refine condA_true ?_ ?_; focus (first | rfl | (simp; done) | (simp; omega) | (simp [k3]; done) | (simp [l3]; done) | (simp [k3]; omega) | (simp [l3]; omega) | (simp [k3, l3]; done))) | (refine condA_false ?_ ?_; focus (first | rfl | (simp; done) | (simp; omega) | (simp [k3]; done) | (simp [l3]; done) | (simp [k3]; omega) | (simp [l3]; omega) | (simp [k3, l3]; done))))
      exact leaf [] _ [] rfl rfl rfl rfl rfl (fin 6 (by rw [← hr, if_pos (Or.inr (Or.inl ⟨k3, l3⟩))]))
    by_cases hrr : (Utf8.decode s pos).1 = 65533
    · by_cases kk : k = 3
      · have l3 : last ≠ 3 := fun h => k3 ⟨kk, h⟩
        repeat (first | (refine condA_true ?_ ?_; focus (first | rfl | (simp; done) | (simp; omega) | (simp [kk]; done) | (simp [l3]; done) | (simp [hrr]; done) | (simp [kk]; omega) | (simp [l3]; omega) | (simp [hrr]; omega) | (simp [kk, l3]; done) | (simp [kk, hrr]; done) | (simp [l3, hrr]; done))) | (refine condA_false ?_ ?_; focus (first | rfl | (simp; done) | (simp; omega) | (simp [kk]; done) | (simp [l3]; done) | (simp [hrr]; done) | (simp [kk]; omega) | (simp [l3]; omega) | (simp [hrr]; omega) | (simp [kk, l3]; done) | (simp [kk, hrr]; done) | (simp [l3, hrr]; done))))
        refine req ?_ ?_
        · refine ⟨?_, ?_, ?_⟩ <;> (try simp) <;> omega
        repeat (first | (refine condA_true ?_ ?_; focus (first | rfl | (simp; done) | (simp; omega) | (simp [k0]; done) | (simp [kk]; done) | (simp [hrr]; done) | (simp [k0]; omega) | (simp [kk]; omega) | (simp [hrr]; omega) | (simp [k0, kk]; done) | (simp [k0, hrr]; done) | (simp [kk, hrr]; done))) | (refine condA_false ?_ ?_; focus (first | rfl | (simp; done) | (simp; omega) | (simp [k0]; done) | (simp [kk]; done) | (simp [hrr]; done) | (simp [k0]; omega) | (simp [kk]; omega) | (simp [hrr]; omega) | (simp [k0, kk]; done) | (simp [k0, hrr]; done) | (simp [kk, hrr]; done))))
        refine call_at [] (hasPrefix_ok (s.extract pos s.size) fffd _ ?_) rfl rfl rfl rfl
        by_cases pp : preM (s.extract pos s.size) fffd = false
        · repeat (first | (refine condA_true ?_ ?_; focus (first | rfl | (simp; done) | (simp; omega) | (simp [pp]; done) | (simp [pp]; omega))) | (refine condA_false ?_ ?_; focus (first | rfl | (simp; done) | (simp; omega) | (simp [pp]; done) | (simp [pp]; omega))))
          exact leaf [] _ [] rfl rfl rfl rfl rfl (fin 6 (by rw [← hr, if_pos (Or.inr (Or.inr ⟨hrr, pp⟩))]))
        · repeat (first | (refine condA_true ?_ ?_; focus (first | rfl | (simp; done) | (simp; omega) | (simp [pp]; done) | (simp [pp]; omega))) | (refine condA_false ?_ ?_; focus (first | rfl | (simp; done) | (simp; omega) | (simp [pp]; done) | (simp [pp]; omega))))
          exact loop_in [0, 3, 4, 16] [0] [.dat (.str s), .dat (.int .i64 ((n + 1 : Nat) : Int)), .dat (.int .i64 k), .ptr 0 0] [some (.siter s (pos + (Utf8.decode s pos).2))] (by rw [← hw]; rfl) rfl rfl rfl (hin_cons rfl hin_nil) (on (by rintro (h | h | h); exact k0 h; exact k3 h; exact pp h.2))
      · repeat (first | (refine condA_true ?_ ?_; focus (first | rfl | (simp; done) | (simp; omega) | (simp [k0]; done) | (simp [kk]; done) | (simp [hrr]; done) | (simp [k0]; omega) | (simp [kk]; omega) | (simp [hrr]; omega) | (simp [k0, kk]; done) | (simp [k0, hrr]; done) | (simp [kk, hrr]; done))) | (refine condA_false ?_ ?_; focus (first | rfl | (simp; done) | (simp; omega) | (simp [k0]; done) | (simp [kk]; done) | (simp [hrr]; done) | (simp [k0]; omega) | (simp [kk]; omega) | (simp [hrr]; omega) | (simp [k0, kk]; done) | (simp [k0, hrr]; done) | (simp [kk, hrr]; done))))
        refine req ?_ ?_
        · refine ⟨?_, ?_, ?_⟩ <;> (try simp) <;> omega
        repeat (first | (refine condA_true ?_ ?_; focus (first | rfl | (simp; done) | (simp; omega) | (simp [k0]; done) | (simp [kk]; done) | (simp [hrr]; done) | (simp [k0]; omega) | (simp [kk]; omega) | (simp [hrr]; omega) | (simp [k0, kk]; done) | (simp [k0, hrr]; done) | (simp [kk, hrr]; done))) | (refine condA_false ?_ ?_; focus (first | rfl | (simp; done) | (simp; omega) | (simp [k0]; done) | (simp [kk]; done) | (simp [hrr]; done) | (simp [k0]; omega) | (simp [kk]; omega) | (simp [hrr]; omega) | (simp [k0, kk]; done) | (simp [k0, hrr]; done) | (simp [kk, hrr]; done))))
        refine call_at [] (hasPrefix_ok (s.extract pos s.size) fffd _ ?_) rfl rfl rfl rfl
        by_cases pp : preM (s.extract pos s.size) fffd = false
        · repeat (first | (refine condA_true ?_ ?_; focus (first | rfl | (simp; done) | (simp; omega) | (simp [pp]; done) | (simp [pp]; omega))) | (refine condA_false ?_ ?_; focus (first | rfl | (simp; done) | (simp; omega) | (simp [pp]; done) | (simp [pp]; omega))))
          exact leaf [] _ [] rfl rfl rfl rfl rfl (fin 6 (by rw [← hr, if_pos (Or.inr (Or.inr ⟨hrr, pp⟩))]))
        · repeat (first | (refine condA_true ?_ ?_; focus (first | rfl | (simp; done) | (simp; omega) | (simp [pp]; done) | (simp [pp]; omega))) | (refine condA_false ?_ ?_; focus (first | rfl | (simp; done) | (simp; omega) | (simp [pp]; done) | (simp [pp]; omega))))
          exact loop_in [0, 3, 4, 16] [0] [.dat (.str s), .dat (.int .i64 ((n + 1 : Nat) : Int)), .dat (.int .i64 k), .ptr 0 0] [some (.siter s (pos + (Utf8.decode s pos).2))] (by rw [← hw]; rfl) rfl rfl rfl (hin_cons rfl hin_nil) (on (by rintro (h | h | h); exact k0 h; exact k3 h; exact pp h.2))
    · by_cases kk : k = 3
      · have l3 : last ≠ 3 := fun h => k3 ⟨kk, h⟩
        repeat (first | (refine condA_true ?_ ?_; focus (first | rfl | (simp; done) | (simp; omega) | (simp [kk]; done) | (simp [l3]; done) | (simp [hrr]; done) | (simp [kk]; omega) | (simp [l3]; omega) | (simp [hrr]; omega) | (simp [kk, l3]; done) | (simp [kk, hrr]; done) | (simp [l3, hrr]; done))) | (refine condA_false ?_ ?_; focus (first | rfl | (simp; done) | (simp; omega) | (simp [kk]; done) | (simp [l3]; done) | (simp [hrr]; done) | (simp [kk]; omega) | (simp [l3]; omega) | (simp [hrr]; omega) | (simp [kk, l3]; done) | (simp [kk, hrr]; done) | (simp [l3, hrr]; done))))
        exact loop_in [0, 3, 4, 16] [0] [.dat (.str s), .dat (.int .i64 ((n + 1 : Nat) : Int)), .dat (.int .i64 k), .ptr 0 0] [some (.siter s (pos + (Utf8.decode s pos).2))] (by rw [← hw]; rfl) rfl rfl rfl (hin_cons rfl hin_nil) (on (by rintro (h | h | h); exact k0 h; exact k3 h; exact hrr h.1))
      · repeat (first | (refine condA_true ?_ ?_; focus (first | rfl | (simp; done) | (simp; omega) | (simp [k0]; done) | (simp [kk]; done) | (simp [hrr]; done) | (simp [k0]; omega) | (simp [kk]; omega) | (simp [hrr]; omega) | (simp [k0, kk]; done) | (simp [k0, hrr]; done) | (simp [kk, hrr]; done))) | (refine condA_false ?_ ?_; focus (first | rfl | (simp; done) | (simp; omega) | (simp [k0]; done) | (simp [kk]; done) | (simp [hrr]; done) | (simp [k0]; omega) | (simp [kk]; omega) | (simp [hrr]; omega) | (simp [k0, kk]; done) | (simp [k0, hrr]; done) | (simp [kk, hrr]; done))))
        exact loop_in [0, 3, 4, 16] [0] [.dat (.str s), .dat (.int .i64 ((n + 1 : Nat) : Int)), .dat (.int .i64 k), .ptr 0 0] [some (.siter s (pos + (Utf8.decode s pos).2))] (by rw [← hw]; rfl) rfl rfl rfl (hin_cons rfl hin_nil) (on (by rintro (h | h | h); exact k0 h; exact k3 h; exact hrr h.1))
  · refine condA_false (by simpa using hp) ?_
    refine condA_false rfl ?_
    rw [checkFrom_end s fuel pos n last hp] at hr
    by_cases c3 : 16 < n
    · repeat (first | (refine condA_true ?_ ?_; focus (first | rfl | (simp; omega))) | (refine condA_false ?_ ?_; focus (first | rfl | (simp; omega))))
      exact leaf [] _ [] rfl rfl rfl rfl rfl (fin 6 (by rw [← hr, if_pos (by omega)]))
    by_cases c4 : last = 3
    · repeat (first | (refine condA_true ?_ ?_; focus (first | rfl | (simp; done) | (simp; omega) | (simp [c4]; done) | (simp [c4]; omega))) | (refine condA_false ?_ ?_; focus (first | rfl | (simp; done) | (simp; omega) | (simp [c4]; done) | (simp [c4]; omega))))
      exact leaf [] _ [] rfl rfl rfl rfl rfl (fin 6 (by rw [← hr, if_pos (by omega)]))
    repeat (first | (refine condA_true ?_ ?_; focus (first | rfl | (simp; done) | (simp; omega) | (simp [c4]; done) | (simp [c4]; omega))) | (refine condA_false ?_ ?_; focus (first | rfl | (simp; done) | (simp; omega) | (simp [c4]; done) | (simp [c4]; omega))))
    exact leaf [] _ [] rfl rfl rfl rfl rfl (fin 0 (by rw [← hr, if_neg (by omega)]))
end Go.Abs.X

namespace Go.Abs.X
open Go.Abs Go Go.Proofs

/-! Maps as lists of pairs. -/
section
variable {κ ν : Type} [DecidableEq κ]
def lk (l : List (κ × ν)) (k : κ) : Option ν := match l with
  | [] => none
  | p :: r => if k = p.1 then some p.2 else lk r k
def ins (l : List (κ × ν)) (k : κ) (v : ν) : List (κ × ν) := match l with
  | [] => [(k, v)]
  | p :: r => if k = p.1 then (k, v) :: r else p :: ins r k v
def del (l : List (κ × ν)) (k : κ) : List (κ × ν) := match l with
  | [] => []
  | p :: r => if k = p.1 then r else p :: del r k
structure Enc (κ ν : Type) [DecidableEq κ] where
  k : κ → DV
  v : κ → ν → DV
  eq : ∀ a b, keyEq (k a) (k b) = some (decide (a = b))
def Enc.e (E : Enc κ ν) (p : κ × ν) : DV × DV := (E.k p.1, E.v p.1 p.2)
variable (E : Enc κ ν)
theorem find_enc (l : List (κ × ν)) (k : κ) : findE (l.map E.e) (E.k k) = some ((lk l k).map (E.v k)) := by
  induction l with
  | nil => rfl
  | cons p r ih =>
    simp only [List.map_cons, findE, Enc.e, E.eq, lk]
    by_cases h : k = p.1
    · subst h; simp
    · simp [h, ← ih]
theorem ins_enc (l : List (κ × ν)) (k : κ) (v : ν) : insE (l.map E.e) (E.k k) (E.v k v) = (ins l k v).map E.e := by
  induction l with
  | nil => rfl
  | cons p r ih =>
    simp only [List.map_cons, insE, Enc.e, E.eq, ins]
    by_cases h : k = p.1
    · subst h; simp [Enc.e]
    · simp [h, ← ih, Enc.e]
theorem del_enc (l : List (κ × ν)) (k : κ) : delE (l.map E.e) (E.k k) = (del l k).map E.e := by
  induction l with
  | nil => rfl
  | cons p r ih =>
    simp only [List.map_cons, delE, Enc.e, E.eq, del]
    by_cases h : k = p.1
    · subst h; simp
    · simp [h, ← ih, Enc.e]
theorem isSome_enc (l : List (κ × ν)) (k : κ) : (findE (l.map E.e) (E.k k)).isSome = true := by rw [find_enc]; rfl
theorem look_enc {l : List (κ × ν)} {k : κ} {K : Option DV → Prop} (h0 : lk l k = none → K none) (h1 : ∀ v, lk l k = some v → K (some (E.v k v))) : LookA (l.map E.e) (E.k k) K := by
  refine lookA _ (find_enc E l k) ?_
  cases h : lk l k with
  | none => exact h0 h
  | some v => exact h1 v h
end
theorem lk_mem {κ ν : Type} [DecidableEq κ] {l : List (κ × ν)} {k : κ} {v : ν} (h : lk l k = some v) : (k, v) ∈ l := by
  induction l with
  | nil => simp [lk] at h
  | cons p r ih =>
    simp only [lk] at h
    split at h
    · rename_i e; cases h; rw [e]; simp
    · exact List.mem_cons_of_mem _ (ih h)
theorem ren_mapD {f : Nat → Nat} {es es' : List (DV × DV)} (h : es = es') : some (AB.mapD es) = some (renB f (.mapD es')) := by rw [h]; rfl

theorem drop_flat {α : Type} {f : α → List DV} {z : Nat} (hz : ∀ x, (f x).length = z) : ∀ (l : List α) (i : Nat), (flatD f l).drop (i * z) = flatD f (l.drop i)
  | [], i => by simp [flatD]
  | x :: r, 0 => by simp
  | x :: r, i + 1 => by
    simp only [flatD, List.drop_succ_cons]
    have e : (i + 1) * z = (f x).length + i * z := by rw [hz, Nat.add_mul, Nat.one_mul, Nat.add_comm]
    rw [e, List.drop_length_add_append]
    exact drop_flat hz r i
theorem cutD_flat {α : Type} {f : α → List DV} {z : Nat} (hz : ∀ x, (f x).length = z) {ti : TyI} (ht : ti.k.isAgg = true) (hs : ti.size = z) {l : List α} {i : Nat} {x : α} (hi : l[i]? = some x) : cutD ti (flatD f l) (i * z) = some (.agg (f x)) := by
  have hd : l.drop i = x :: l.drop (i + 1) := by
    obtain ⟨h, rfl⟩ := List.getElem?_eq_some_iff.1 hi
    exact List.drop_eq_getElem_cons h
  unfold cutD
  rw [ht, hs, ltake_eq, ldrop_eq, drop_flat hz, hd]
  simp only [flatD]
  rw [List.take_append_of_le_length (by rw [hz]; exact Nat.le_refl _), List.take_of_length_le (by rw [hz]; exact Nat.le_refl _), hz]
  simp
theorem nth_flat {α : Type} {f : α → DV} {l : List α} {i : Nat} {x : α} (hi : l[i]? = some x) : nth (flatD (fun x => [f x]) l) i = some (f x) := by
  rw [nth_eq]
  have h := drop_flat (f := fun x => [f x]) (z := 1) (fun _ => rfl) l i
  have hd : l.drop i = x :: l.drop (i + 1) := by
    obtain ⟨h, rfl⟩ := List.getElem?_eq_some_iff.1 hi
    exact List.drop_eq_getElem_cons h
  rw [hd] at h
  have : (flatD (fun x => [f x]) l)[i]? = ((flatD (fun x => [f x]) l).drop (i * 1))[0]? := by simp
  rw [this, h]; simp [flatD]

/-! Rooms. -/
abbrev PeerV := ByteArray × ByteArray   -- the name, the room
def peerD (n : Int) (name room : ByteArray) : DV := .agg [.int .i64 n, .str name, .str room]
def EP : Enc Int PeerV := ⟨i64, fun n p => peerD n p.1 p.2, fun a b => by simp only [i64, keyEq, keyEq1, kEq]; congr⟩
structure Tb where
  next : Int
  peers : List (Int × PeerV)
structure TbOK (t : Tb) : Prop where
  sz : ∀ p ∈ t.peers, p.2.1.size ≤ 64 ∧ p.2.2.size ≤ 64
  len : t.peers.length ≤ 200000
  nd : (t.peers.map (·.1)).Nodup
  next : 0 ≤ t.next ∧ t.next ≤ 65536
theorem TbOK.lk {t : Tb} (h : TbOK t) {n : Int} {p : PeerV} (hp : lk t.peers n = some p) : p.1.size ≤ 35184372088832 ∧ p.2.size ≤ 35184372088832 := by
  have := h.sz _ (lk_mem hp)
  simp only at this; omega
def sameM (a b : ByteArray) : Bool := (foldM a).toList == (foldM b).toList
def togetherM (t : Tb) (a b : Int) : Bool := match lk t.peers a, lk t.peers b with
  | some p, some q => decide (a ≠ b) && sameM p.2 q.2
  | _, _ => false
def peerM (t : Tb) (n : Int) : DV × Bool := match lk t.peers n with
  | some p => (peerD n p.1 p.2, true)
  | none => (peerD 0 ByteArray.empty ByteArray.empty, false)
end Go.Abs.X

namespace Go.Abs.X
open Go.Abs Go Go.Proofs
variable {w0 : World}

def Tb.h (t : Tb) : Heap := [some (.cells [.map 1, .dat (.int .i64 t.next)] 107 false), some (.mapD (t.peers.map EP.e))]
theorem len_ok (t : Tb) (K : AV → Heap → Prop) (hk : K (.dat (.int .i64 (t.peers.length : Nat))) t.h) : CallA (cx w0) 22 [.ptr 0 0] t.h K := by
  refine CallA.ret ?_
  refine CallA.enter ok (dr (plOf [])) Tryz.func22 Tryz.call22 ?_
  refine leaf_in [0, 1] (.dat (.int .i64 (t.peers.length : Nat))) t.h ?_ rfl rfl rfl (hin_cons rfl (hin_cons rfl hin_nil)) hk
  show AV.dat _ = AV.dat (.int .i64 (((t.peers.map EP.e).length : Nat) : Int))
  rw [List.length_map]
theorem peer_ok (t : Tb) (n : Int) (K : AV → Heap → Prop) (hk : K (.dat (.tup [(peerM t n).1, .bool (peerM t n).2])) t.h) : CallA (cx w0) 15 [.ptr 0 0, .dat (.int .i64 n)] t.h K := by
  refine CallA.ret ?_
  refine CallA.enter ok (dr (plOf [])) Tryz.func15 Tryz.call15 ?_
  refine look_enc EP (fun h => ?_) (fun p h => ?_)
  all_goals
    simp only [peerM, h] at hk
    exact leaf [0, 1] _ t.h rfl rfl rfl rfl rfl hk
theorem leave_ok (t : Tb) (n : Int) (K : AV → Heap → Prop) (h0 : lk t.peers n = none → K (.dat (.int .i64 8)) t.h) (h1 : ∀ p, lk t.peers n = some p → K (.dat (.int .i64 0)) (Tb.h ⟨t.next, del t.peers n⟩)) : CallA (cx w0) 85 [.ptr 0 0, .dat (.int .i64 n)] t.h K := by
  refine CallA.ret ?_
  refine CallA.enter ok (dr (plOf [])) Tryz.func85 Tryz.call85 ?_
  refine look_enc EP (fun h => ?_) (fun p h => ?_)
  · refine condA_true rfl ?_
    exact leaf [0, 1] _ t.h rfl rfl rfl rfl rfl (h0 h)
  · refine condA_false rfl ?_
    refine req (isSome_enc EP _ _) ?_
    exact leaf_in [0, 1] (.dat (.int .i64 0)) (Tb.h ⟨t.next, del t.peers n⟩) rfl rfl rfl rfl (hin_cons rfl (hin_cons (ren_mapD (del_enc EP _ _)) hin_nil)) (h1 p h)
theorem together_ok (L : Laid w0) (t : Tb) (ht : TbOK t) (a b : Int) (K : AV → Heap → Prop) (hk : K (.dat (.bool (togetherM t a b))) t.h) : CallA (cx w0) 14 [.ptr 0 0, .dat (.int .i64 a), .dat (.int .i64 b)] t.h K := by
  refine CallA.ret ?_
  refine CallA.enter ok (dr (plOf [])) Tryz.func14 Tryz.call14 ?_
  have fin : ∀ c, togetherM t a b = c → K (.dat (.bool c)) t.h := fun n h => h ▸ hk
  refine look_enc EP (fun ha => ?_) (fun p ha => ?_)
  · refine look_enc EP (fun hb => ?_) (fun q hb => ?_)
    all_goals
      repeat (first | (refine condA_true ?_ ?_; focus (first | rfl | (simp; done) | (simp; omega) | (simp [ha]; done) | (simp [ha]; omega))) | (refine condA_false ?_ ?_; focus (first | rfl | (simp; done) | (simp; omega) | (simp [ha]; done) | (simp [ha]; omega))))
      exact leaf [0, 1] _ t.h rfl rfl rfl rfl rfl (fin false (by simp [togetherM, ha]))
  · refine look_enc EP (fun hb => ?_) (fun q hb => ?_)
    · repeat (first | (refine condA_true ?_ ?_; focus (first | rfl | (simp; done) | (simp; omega) | (simp [ha]; done) | (simp [ha]; omega))) | (refine condA_false ?_ ?_; focus (first | rfl | (simp; done) | (simp; omega) | (simp [ha]; done) | (simp [ha]; omega))))
      exact leaf [0, 1] _ t.h rfl rfl rfl rfl rfl (fin false (by simp [togetherM, ha, hb]))
    · by_cases hab : a = b
      · repeat (first | (refine condA_true ?_ ?_; focus (first | rfl | (simp; done) | (simp; omega) | (simp [hab]; done) | (simp [hab]; omega))) | (refine condA_false ?_ ?_; focus (first | rfl | (simp; done) | (simp; omega) | (simp [hab]; done) | (simp [hab]; omega))))
        exact leaf [0, 1] _ t.h rfl rfl rfl rfl rfl (fin false (by simp [togetherM, ha, hb, hab]))
      · repeat (first | (refine condA_true ?_ ?_; focus (first | rfl | (simp; done) | (simp; omega) | (simp [hab]; done) | (simp [hab]; omega))) | (refine condA_false ?_ ?_; focus (first | rfl | (simp; done) | (simp; omega) | (simp [hab]; done) | (simp [hab]; omega))))
        refine call_at [] (same_ok L p.2 q.2 (ht.lk ha).2 (ht.lk hb).2 _ ?_) rfl rfl rfl rfl
        repeat (first | (refine condA_true ?_ ?_; focus (first | rfl | (simp; done) | (simp; omega) | (simp [hab]; done) | (simp [hab]; omega))) | (refine condA_false ?_ ?_; focus (first | rfl | (simp; done) | (simp; omega) | (simp [hab]; done) | (simp [hab]; omega))))
        exact leaf [0, 1] _ t.h rfl rfl rfl rfl rfl (fin _ (by simp only [togetherM, ha, hb, sameM]; simp [hab]))
end Go.Abs.X

namespace Go.Abs.X
open Go.Abs Go Go.Proofs

theorem sort_perm {α : Type} {le : α → α → Bool} (tr : ∀ a b c, le a b = true → le b c = true → le a c = true) (to : ∀ a b, (le a b || le b a) = true) (an : ∀ a b, le a b = true → le b a = true → a = b) {l m : List α} (h : l.Perm m) : l.mergeSort le = m.mergeSort le :=
  List.Perm.eq_of_pairwise (le := fun a b => le a b = true) (fun a b _ _ => an a b) (List.pairwise_mergeSort tr to l) (List.pairwise_mergeSort tr to m) ((List.mergeSort_perm l le).trans (h.trans (List.mergeSort_perm m le).symm))
theorem sortI_perm {l m : List Int} (h : l.Perm m) : sortI l = sortI m :=
  sort_perm (fun a b c => by simp only [decide_eq_true_eq]; omega) (fun a b => by simp only [Bool.or_eq_true, decide_eq_true_eq]; omega) (fun a b => by simp only [decide_eq_true_eq]; omega) h
theorem leL_iff (x y : LinkT) : leL x y = true ↔ ¬ (y.who < x.who ∨ y.who = x.who ∧ (y.peer < x.peer ∨ y.peer = x.peer ∧ y.n < x.n)) := by
  simp only [leL, Proofs.ltOf, Bool.not_eq_true', decide_eq_false_iff_not, cmpL_lt]
theorem sortL_perm {l m : List LinkT} (h : l.Perm m) : sortL l = sortL m :=
  sort_perm (fun a b c h1 h2 => by rw [leL_iff] at *; omega) (fun a b => by rw [Bool.or_eq_true, leL_iff, leL_iff]; omega) (fun a b h1 h2 => by
    rw [leL_iff] at h1 h2
    obtain ⟨a1, a2, a3⟩ := a
    obtain ⟨b1, b2, b3⟩ := b
    simp only at h1 h2
    have e1 : a1 = b1 := by omega
    have e2 : a2 = b2 := by omega
    have e3 : a3 = b3 := by omega
    rw [e1, e2, e3]) h
theorem sortS_perm {l m : List ByteArray} (h : l.Perm m) : sortS l = sortS m := by
  unfold sortS
  rw [sort_perm (le := fun x y : List UInt8 => decide (x ≤ y)) (fun a b c h1 h2 => by simp only [decide_eq_true_eq] at *; exact List.le_trans h1 h2) (fun a b => by simp only [Bool.or_eq_true, decide_eq_true_eq]; exact List.le_total a b) (fun a b h1 h2 => by simp only [decide_eq_true_eq] at *; exact List.le_antisymm h1 h2) (h.map bytesL)]
theorem perm_of_map {α : Type} {f : α → DV} (hf : ∀ a b, f a = f b → a = b) {l m : List α} (h : (l.map f).Perm (m.map f)) : l.Perm m := by
  induction l generalizing m with
  | nil =>
    have := h.length_eq
    simp at this
    rw [List.eq_nil_of_length_eq_zero this.symm]
  | cons x r ih =>
    have hx : f x ∈ m.map f := h.subset (by simp)
    obtain ⟨y, hy, he⟩ := List.mem_map.1 hx
    have := hf _ _ he
    subst this
    obtain ⟨a, b, rfl⟩ := List.append_of_mem hy
    have h2 : (r.map f).Perm ((a ++ b).map f) := by
      have : (f y :: r.map f).Perm (f y :: ((a ++ b).map f)) := h.trans (by simp only [List.map_append, List.map_cons]; exact List.perm_middle)
      exact this.cons_inv
    exact (ih h2).cons y |>.trans List.perm_middle.symm

theorem nth_flat1 {α : Type} {f : α → DV} {l : List α} {i : Nat} {x : α} (hi : l[i]? = some x) : nth (flatD (fun x => [f x]) l) (i * 1) = some (f x) := by rw [Nat.mul_one]; exact nth_flat hi

/-! Those in a room. -/
def flatP (p : Int × PeerV) : List DV := [i64 p.1, .str p.2.1, .str p.2.2]
def peersD (ps : List (Int × PeerV)) : List DV := flatD flatP ps
def peersV (ps : List (Int × PeerV)) : DV := match ps with
  | [] => .nils
  | p :: r => .ros (peersD (p :: r)) (p :: r).length none
theorem peersV_cons (ps : List (Int × PeerV)) (h : ps ≠ []) : peersV ps = .ros (peersD ps) ps.length none := by
  cases ps with
  | nil => exact absurd rfl h
  | cons p r => rfl
def Tb.keys (t : Tb) : List Int := sortI (t.peers.map (·.1))
def inF (t : Tb) (room : ByteArray) (n : Int) : Option (Int × PeerV) := match lk t.peers n with
  | some p => if sameM p.2 room then some (n, p) else none
  | none => none
def inM (t : Tb) (room : ByteArray) : List (Int × PeerV) := t.keys.filterMap (inF t room)
theorem lk_some {κ ν : Type} [DecidableEq κ] {l : List (κ × ν)} {k : κ} (h : k ∈ l.map (·.1)) : ∃ v, lk l k = some v := by
  induction l with
  | nil => simp at h
  | cons p r ih =>
    simp only [lk]
    split
    · exact ⟨_, rfl⟩
    · rename_i hne
      simp only [List.map_cons, List.mem_cons] at h
      exact ih (h.resolve_left hne)
theorem Tb.keys_lk (t : Tb) {n : Int} (h : n ∈ t.keys) : ∃ p, lk t.peers n = some p :=
  lk_some ((List.mergeSort_perm _ _).subset h)
theorem Tb.keys_length (t : Tb) : t.keys.length = t.peers.length := by simp [Tb.keys, sortI]
/-- what a slice that grows holds -/
def outS (id z n : Nat) : AV := match n with
  | 0 => .dat .nils
  | n + 1 => .sl id 0 (n + 1) none z
end Go.Abs.X

namespace Go.Abs.X
open Go.Abs Go Go.Proofs
variable {w0 : World}

theorem Tb.keysEs (t : Tb) : ∀ e ∈ t.peers.map EP.e, ∃ l : Int, e.1 = i64 l := fun e he => by
  obtain ⟨p, _, rfl⟩ := List.mem_map.1 he
  exact ⟨p.1, rfl⟩
theorem Tb.keys_of (t : Tb) {ks : List Int} (h : (ks.map i64).Perm ((t.peers.map EP.e).map (·.1))) : sortI ks = t.keys := by
  apply sortI_perm
  apply perm_of_map (f := i64) (fun a b h => by simpa [i64] using h)
  refine h.trans ?_
  rw [List.map_map, List.map_map]
  exact List.Perm.refl _

set_option maxHeartbeats 1000000 in
theorem in_ok (L : Laid w0) (t : Tb) (ht : TbOK t) (room : ByteArray) (hr : room.size ≤ 35184372088832) (K : AV → Heap → Prop) (hk : K (.dat (peersV (inM t room))) t.h) :
    CallA (cx w0) 81 [.ptr 0 0, .dat (.str room)] t.h K := by
  refine CallA.ret ?_
  refine CallA.enter ok (dr (plOf [])) Tryz.func81 Tryz.call81 ?_
  refine call_at [1] (keysInt_ok (t.peers.map EP.e) _ ?_) rfl rfl rfl rfl
  refine call_at [1, 2] (sortedInt_ok (t.peers.map EP.e) t.keysEs (by rw [List.length_map]; have := ht.len; omega) _ (fun ks hp => ?_)) rfl rfl rfl rfl
  rw [t.keys_of hp]
  have hl : t.keys.length ≤ 200000 := by rw [t.keys_length]; exact ht.len
  have hlk : ∀ n ∈ t.keys, ∃ p, lk t.peers n = some p := fun n h => t.keys_lk h
  unfold inM at hk
  generalize t.keys = S at hk hl hlk ⊢
  clear hp ks
  by_cases hS : S = []
  · subst hS
    refine loopA_round ok (dr (plOf []) _) ?_
    refine condA_false rfl ?_
    exact leaf [0, 1] (.dat .nils) t.h rfl rfl rfl rfl rfl hk
  rw [valInt_cons S hS]
  let E : Nat × List (Int × PeerV) × Nat → Env := fun x => mkE [0, 1, 5, 14, 15, 16] [.ptr 0 0, .dat (.str room), outS 2 3 x.2.2, .dat (.ros (intsD S) S.length none), .dat (.int .i64 (S.length : Nat)), .dat (.int .i64 (x.1 : Nat))]
  let H : Nat × List (Int × PeerV) × Nat → Heap := fun x => t.h ++ apBl 45 (peersD x.2.1) x.2.2
  refine loop_in [0, 1, 5, 14, 15, 16] [0, 1] [.ptr 0 0, .dat (.str room), .dat .nils, .dat (.ros (intsD S) S.length none), .dat (.int .i64 (S.length : Nat)), .dat (.int .i64 (0 : Nat))] t.h rfl rfl rfl rfl (hin_cons rfl (hin_cons rfl hin_nil)) ?_
  refine loop_ind E H (fun x => x.1 ≤ S.length ∧ x.2.1 = (S.take x.1).filterMap (inF t room) ∧ x.2.1.length = x.2.2 ∧ x.2.2 ≤ x.1) (fun x => S.length - x.1) ?_ (0, [], 0) ⟨Nat.zero_le _, rfl, rfl, Nat.le_refl _⟩
  rintro ⟨i, acc, n⟩ ⟨hi, hacc, hn, hni⟩ ih
  replace hi : i ≤ S.length := hi
  replace hacc : acc = (S.take i).filterMap (inF t room) := hacc
  replace hn : acc.length = n := hn
  replace hni : n ≤ i := hni
  by_cases hlt : i < S.length
  · obtain ⟨p, hp⟩ := hlk S[i] (by simp)
    have hSi : S[i]? = some S[i] := by simp [hlt]
    have hw : IntKind.i64.wrap ((i : Int) + 1) = ((i + 1 : Nat) : Int) := by rw [wrap_i64 _ (by omega) (by omega)]; omega
    have htk : S.take (i + 1) = S.take i ++ [S[i]] := List.take_succ_eq_append_getElem hlt
    have goY := fun (h : sameM p.2 room = true) => ih (i + 1, acc ++ [(S[i], p)], n + 1) ⟨hlt, by show acc ++ _ = _; rw [htk, List.filterMap_append, ← hacc]; simp [inF, hp, h], by show (acc ++ _).length = _; simp [hn], by show n + 1 ≤ i + 1; omega⟩ (by show S.length - (i + 1) < S.length - i; omega)
    have goN := fun (h : sameM p.2 room = false) => ih (i + 1, acc, n) ⟨hlt, by show acc = _; rw [htk, List.filterMap_append, ← hacc]; simp [inF, hp, h], hn, by show n ≤ i + 1; omega⟩ (by show S.length - (i + 1) < S.length - i; omega)
    clear ih
    cases n with
    | zero =>
      obtain rfl : acc = [] := List.eq_nil_of_length_eq_zero hn
      refine loopA_round ok (dr (plOf []) _) ?_
      refine condA_true (by simpa using hlt) ?_
      refine req ⟨by simp, by simpa using hlt⟩ ?_
      refine optA (i64 S[i]) ?_ ?_
      · exact nth_flat1 (f := i64) hSi
      refine look_enc EP (fun h => ?_) (fun q hq => ?_)
      · rw [hp] at h; cases h
      obtain rfl : p = q := by rw [hp] at hq; exact Option.some.inj hq
      refine call_at [] (same_ok L p.2 room (ht.lk hp).2 hr _ ?_) rfl rfl rfl rfl
      by_cases hs : sameM p.2 room = true
      · refine condA_true hs ?_
        refine appA (by decide) ⟨rfl, allCell_iff.1 rfl, by decide, by decide⟩ ?_
        refine loop_in [0, 1, 5, 14, 15, 16] [0, 1, 4] [.ptr 0 0, .dat (.str room), .sl 2 0 1 none 3, .dat (.ros (intsD S) S.length none), .dat (.int .i64 (S.length : Nat)), .dat (.int .i64 ((i + 1 : Nat) : Int))] (H (i + 1, [(S[i], p)], 1)) (by rw [← hw]; rfl) rfl rfl rfl (hin_cons rfl (hin_cons rfl (hin_cons rfl hin_nil))) (goY hs)
      · have hs : sameM p.2 room = false := by simpa using hs
        refine condA_false hs ?_
        exact loop_in [0, 1, 5, 14, 15, 16] [0, 1] [.ptr 0 0, .dat (.str room), .dat .nils, .dat (.ros (intsD S) S.length none), .dat (.int .i64 (S.length : Nat)), .dat (.int .i64 ((i + 1 : Nat) : Int))] t.h (by rw [← hw]; rfl) rfl rfl rfl (hin_cons rfl (hin_cons rfl hin_nil)) (goN hs)
    | succ m =>
      refine loopA_round ok (dr (plOf []) _) ?_
      refine condA_true (by simpa using hlt) ?_
      refine req ⟨by simp, by simpa using hlt⟩ ?_
      refine optA (i64 S[i]) ?_ ?_
      · exact nth_flat1 (f := i64) hSi
      refine look_enc EP (fun h => ?_) (fun q hq => ?_)
      · rw [hp] at h; cases h
      obtain rfl : p = q := by rw [hp] at hq; exact Option.some.inj hq
      refine call_at [] (same_ok L p.2 room (ht.lk hp).2 hr _ ?_) rfl rfl rfl rfl
      by_cases hs : sameM p.2 room = true
      · refine condA_true hs ?_
        refine appA (by decide) ⟨?_, rfl, allCell_iff.1 rfl, ?_, ?_⟩ ?_
        · rw [List.length_map, peersD, flatD_length (z := 3) (fun _ => rfl), hn]
        · show (m + 1 + 1) * 40 ≤ _
          omega
        · show m + 1 + 1 ≤ maxLen
          unfold maxLen; omega
        refine loop_in [0, 1, 5, 14, 15, 16] [0, 1, 5] [.ptr 0 0, .dat (.str room), .sl 2 0 (m + 1 + 1) none 3, .dat (.ros (intsD S) S.length none), .dat (.int .i64 (S.length : Nat)), .dat (.int .i64 ((i + 1 : Nat) : Int))] (H (i + 1, acc ++ [(S[i], p)], m + 1 + 1)) (by rw [← hw]; rfl) rfl rfl rfl (hin_cons rfl (hin_cons rfl (hin_cons (renTs_datC (by rw [peersD, peersD, flatD_append, flatD_one, List.map_append]; rfl)) hin_nil))) (goY hs)
      · have hs : sameM p.2 room = false := by simpa using hs
        refine condA_false hs ?_
        exact loop_in [0, 1, 5, 14, 15, 16] [0, 1, 2] [.ptr 0 0, .dat (.str room), .sl 2 0 (m + 1) none 3, .dat (.ros (intsD S) S.length none), .dat (.int .i64 (S.length : Nat)), .dat (.int .i64 ((i + 1 : Nat) : Int))] (H (i + 1, acc, m + 1)) (by rw [← hw]; rfl) rfl rfl rfl (hin_cons rfl (hin_cons rfl (hin_cons (renTs_datC rfl) hin_nil))) (goN hs)
  · obtain rfl : i = S.length := by omega
    rw [List.take_length] at hacc
    cases n with
    | zero =>
      obtain rfl : acc = [] := List.eq_nil_of_length_eq_zero hn
      rw [← hacc] at hk
      refine loopA_round ok (dr (plOf []) _) ?_
      refine condA_false (by simp) ?_
      exact leaf [0, 1] (.dat .nils) t.h rfl rfl rfl rfl rfl hk
    | succ m =>
      rw [← hacc, peersV_cons acc (by intro h; simp [h] at hn), hn] at hk
      refine loopA_round ok (dr (plOf []) _) ?_
      refine condA_false (by simp) ?_
      refine shift_frz' 2 (peersD acc) rfl rfl ?_
      exact leaf [0, 1] (.dat (.ros (peersD acc) (m + 1) none)) t.h rfl rfl rfl rfl rfl hk
end Go.Abs.X

namespace Go.Abs.X
open Go.Abs Go Go.Proofs

theorem perm_of_map2 {α β : Type} {f : α → β} (hf : ∀ a b, f a = f b → a = b) {l m : List α} (h : (l.map f).Perm (m.map f)) : l.Perm m := by
  induction l generalizing m with
  | nil =>
    have := h.length_eq
    simp at this
    rw [List.eq_nil_of_length_eq_zero this.symm]
  | cons x r ih =>
    have hx : f x ∈ m.map f := h.subset (by simp)
    obtain ⟨y, hy, he⟩ := List.mem_map.1 hx
    have := hf _ _ he
    subst this
    obtain ⟨a, b, rfl⟩ := List.append_of_mem hy
    have h2 : (r.map f).Perm ((a ++ b).map f) := by
      have : (f y :: r.map f).Perm (f y :: ((a ++ b).map f)) := h.trans (by simp only [List.map_append, List.map_cons]; exact List.perm_middle)
      exact this.cons_inv
    exact (ih h2).cons y |>.trans List.perm_middle.symm

/-! What has come of a typed map. -/
section
variable {κ ν : Type} [DecidableEq κ] (E : Enc κ ν)
def Enc.l (p : κ × ν) : DV × AV := (E.k p.1, .dat (E.v p.1 p.2))
theorem lift_enc (l : List (κ × ν)) : liftE (l.map E.e) = l.map E.l := by rw [liftE_map, List.map_map]; rfl
theorem ent_enc {l : List (κ × ν)} {bs : List Nat} {b : Nat} {k : DV} {v : AV} (h : entB bs (liftE (l.map E.e)) b = some (k, v)) : ∃ p ∈ l, k = E.k p.1 ∧ v = .dat (E.v p.1 p.2) := by
  have := (entB_in h).2
  rw [lift_enc, List.mem_map] at this
  obtain ⟨p, hp, he⟩ := this
  simp only [Enc.l, Prod.mk.injEq] at he
  exact ⟨p, hp, he.1.symm, he.2.symm⟩
end

theorem ba_beq (a b : ByteArray) : (a == b) = decide (a = b) := by
  cases a with
  | mk x =>
    cases b with
    | mk y =>
      have h1 : ((⟨x⟩ : ByteArray) == ⟨y⟩) = (x == y) := rfl
      rw [h1]
      by_cases h : x = y
      · subst h; simp
      · have h2 : (⟨x⟩ : ByteArray) ≠ ⟨y⟩ := fun e => h (by cases e; rfl)
        simp [h, h2]
instance : LawfulBEq ByteArray where
  eq_of_beq {a b} h := by rw [ba_beq] at h; simpa using h
  rfl {a} := by rw [ba_beq]; simp
theorem str_eq (a b : ByteArray) : keyEq (.str a) (.str b) = some (decide (a = b)) := by
  simp only [keyEq, keyEq1, ba_beq]
def ES : Enc ByteArray Int := ⟨DV.str, fun _ n => i64 n, str_eq⟩
/-- how often each folded name was seen -/
def seenM (ps : List (Int × PeerV)) : List (ByteArray × Int) := ps.foldl (fun m p => ins m (foldM p.2.2) (IntKind.i64.wrap ((lk m (foldM p.2.2)).getD 0 + 1))) []
theorem seenM_snoc (ps : List (Int × PeerV)) (p : Int × PeerV) : seenM (ps ++ [p]) = ins (seenM ps) (foldM p.2.2) (IntKind.i64.wrap ((lk (seenM ps) (foldM p.2.2)).getD 0 + 1)) := by
  simp [seenM, List.foldl_append]
def addK (ks : List ByteArray) (f : ByteArray) : List ByteArray := if f ∈ ks then ks else ks ++ [f]
def dedup (fs : List ByteArray) : List ByteArray := fs.foldl addK []
theorem ins_keys {ν : Type} (m : List (ByteArray × ν)) (k : ByteArray) (v : ν) : (ins m k v).map (·.1) = addK (m.map (·.1)) k := by
  unfold addK
  induction m with
  | nil => simp [ins]
  | cons p r ih =>
    simp only [ins]
    by_cases h : k = p.1
    · subst h; simp
    · simp only [h, if_false, List.map_cons, ih, List.mem_cons, false_or]
      split <;> simp
theorem seenM_keys (ps : List (Int × PeerV)) : (seenM ps).map (·.1) = dedup (ps.map fun p => foldM p.2.2) := by
  have : ∀ (l : List (Int × PeerV)) (m : List (ByteArray × Int)), (l.foldl (fun m p => ins m (foldM p.2.2) (IntKind.i64.wrap ((lk m (foldM p.2.2)).getD 0 + 1))) m).map (·.1) = (l.map fun p => foldM p.2.2).foldl addK (m.map (·.1)) := by
    intro l
    induction l with
    | nil => intro m; rfl
    | cons p r ih => intro m; simp only [List.foldl_cons, List.map_cons, ih, ins_keys]
  exact this ps []
theorem dedup_mem (fs : List ByteArray) (x : ByteArray) : x ∈ dedup fs ↔ x ∈ fs := by
  have : ∀ (l ks : List ByteArray), x ∈ l.foldl addK ks ↔ x ∈ ks ∨ x ∈ l := by
    intro l
    induction l with
    | nil => intro ks; simp
    | cons f r ih =>
      intro ks
      simp only [List.foldl_cons, ih, List.mem_cons, addK]
      split
      · rename_i h
        constructor
        · rintro (a | a)
          · exact .inl a
          · exact .inr (.inr a)
        · rintro (a | a | a)
          · exact .inl a
          · subst a; exact .inl h
          · exact .inr a
      · simp [or_assoc]
  simpa [dedup] using this fs []
theorem dedup_nodup (fs : List ByteArray) : (dedup fs).Nodup := by
  have : ∀ (l ks : List ByteArray), ks.Nodup → (l.foldl addK ks).Nodup := by
    intro l
    induction l with
    | nil => intro ks h; exact h
    | cons f r ih =>
      intro ks h
      simp only [List.foldl_cons]
      apply ih
      unfold addK
      split
      · exact h
      · rename_i hf
        rw [List.nodup_append]
        exact ⟨h, by simp, fun a ha b hb => by simp at hb; subst hb; intro e; subst e; exact hf ha⟩
  exact this fs [] List.nodup_nil
theorem dedup_perm {a b : List ByteArray} (h : a.Perm b) : (dedup a).Perm (dedup b) :=
  (List.perm_ext_iff_of_nodup (dedup_nodup a) (dedup_nodup b)).2 fun x => by rw [dedup_mem, dedup_mem]; exact h.mem_iff
def roomsM (t : Tb) : List ByteArray := sortS (dedup (t.peers.map fun p => foldM p.2.2))
theorem dedup_le (fs : List ByteArray) : (dedup fs).length ≤ fs.length := by
  have : ∀ (l ks : List ByteArray), (l.foldl addK ks).length ≤ ks.length + l.length := by
    intro l
    induction l with
    | nil => intro ks; simp
    | cons f r ih =>
      intro ks
      simp only [List.foldl_cons, List.length_cons]
      have := ih (addK ks f)
      have h2 : (addK ks f).length ≤ ks.length + 1 := by unfold addK; split <;> simp
      omega
  simpa [dedup] using this fs []
end Go.Abs.X

namespace Go.Abs.X
open Go.Abs Go Go.Proofs
variable {w0 : World}

theorem EP_inj (a b : Int × PeerV) (h : EP.l a = EP.l b) : a = b := by
  obtain ⟨n, x, y⟩ := a
  obtain ⟨m, u, v⟩ := b
  simp only [Enc.l, EP, peerD, i64, Prod.mk.injEq, AV.dat.injEq, DV.int.injEq, DV.agg.injEq, List.cons.injEq, DV.str.injEq] at h
  obtain ⟨⟨_, h1⟩, _, h2, h3, _⟩ := h
  subst h1 h2 h3; rfl

set_option maxHeartbeats 1000000 in
theorem rooms_ok (L : Laid w0) (t : Tb) (ht : TbOK t) (K : AV → Heap → Prop) (hk : K (.dat (valStr (roomsM t))) t.h) :
    CallA (cx w0) 84 [.ptr 0 0] t.h K := by
  refine CallA.ret ?_
  refine CallA.enter ok (dr (plOf [])) Tryz.func84 Tryz.call84 ?_
  refine rangeM fun bs clk hbl hbp hbc => ?_
  have hel : bs.length = (liftE (t.peers.map EP.e)).length := by rw [liftE_length]; exact hbl
  let H : List Nat × List (Int × PeerV) → Heap := fun x => [some (.cells [.map 1, .dat (.int .i64 t.next)] 107 false), some (.mapB bs clk (liftE (t.peers.map EP.e))), some (.mapD ((seenM x.2).map ES.e)), some (.miter 1 clk x.1)]
  refine loop_in [3, 11] [0, 1, 2, 3] [.map 2, .ptr 3 0] (H ([], [])) rfl rfl rfl rfl (hin_cons rfl (hin_cons ren_mapB (hin_cons rfl (hin_cons rfl hin_nil)))) ?_
  refine loop_ind (fun _ => mkE [3, 11] [.map 2, .ptr 3 0]) H (fun x => Came bs x.1 ∧ x.2.map EP.l = x.1.reverse.filterMap (entB bs (liftE (t.peers.map EP.e)))) (fun x => bs.length - x.1.length) ?_ ([], []) ⟨Came.nil bs, rfl⟩
  rintro ⟨seen, ps⟩ ⟨came, hps⟩ ih
  replace came : Came bs seen := came
  replace hps : ps.map EP.l = seen.reverse.filterMap (entB bs (liftE (t.peers.map EP.e))) := hps
  refine loopA_round ok (dr (plOf []) _) ?_
  refine req rfl ?_
  refine nextM (fun b k v he hn => ?_) (fun hall => ?_)
  · obtain ⟨p, hp, rfl, rfl⟩ := ent_enc EP he
    have go := ih (b :: seen, ps ++ [p]) ⟨came.cons he hn, by rw [came_snoc he, List.map_append, ← hps]; rfl⟩ (by have := (came.cons he hn).le; simp only [List.length_cons] at this ⊢; omega)
    clear ih
    have hsz := (ht.sz p hp).2
    refine condA_true rfl ?_
    refine req rfl ?_
    refine optA _ he ?_
    refine call_at [] (fold_ok L p.2.2 (by omega) _ ?_) rfl rfl rfl rfl
    refine look_enc ES (fun h => ?_) (fun c h => ?_)
    all_goals
      refine req (isSome_enc ES _ _) ?_
      refine loop_in [3, 11] [0, 1, 2, 3] [.map 2, .ptr 3 0] (H (b :: seen, ps ++ [p])) rfl rfl rfl rfl (hin_cons rfl (hin_cons ren_mapB (hin_cons (ren_mapD ?_) (hin_cons rfl hin_nil)))) go
      show _ = (seenM (ps ++ [p])).map ES.e
      rw [seenM_snoc, h, ← ins_enc]
      rfl
  · refine condA_false rfl ?_
    have hpm : ps.Perm t.peers := by
      apply perm_of_map2 EP_inj
      rw [hps, ← lift_enc]
      exact came.perm hel hbp hall
    have hkeys : ∀ e ∈ (seenM ps).map ES.e, ∃ l : ByteArray, e.1 = DV.str l := fun e he => by
      obtain ⟨p, _, rfl⟩ := List.mem_map.1 he
      exact ⟨p.1, rfl⟩
    have hlen : ((seenM ps).map ES.e).length ≤ 1000000 := by
      have h1 : (seenM ps).length = ((seenM ps).map (·.1)).length := by simp
      have h2 := dedup_le (ps.map fun p => foldM p.2.2)
      have h3 := hpm.length_eq
      have h4 := ht.len
      rw [List.length_map, h1, seenM_keys]
      simp only [List.length_map] at h2
      omega
    refine call_at [2] (keysStr_ok ((seenM ps).map ES.e) _ ?_) rfl rfl rfl rfl
    refine call_at [2, 4] (sortedStr_ok ((seenM ps).map ES.e) hkeys hlen _ (fun ks hp => ?_)) rfl rfl rfl rfl
    have hr : sortS ks = roomsM t := by
      apply sortS_perm
      have h1 : ks.Perm ((seenM ps).map (·.1)) := by
        apply perm_of_map (f := DV.str) (fun a b h => by simpa using h)
        refine hp.trans ?_
        rw [List.map_map, List.map_map]
        exact List.Perm.refl _
      rw [seenM_keys] at h1
      exact h1.trans (dedup_perm (hpm.map _))
    rw [hr]
    refine shift_unBD' 1 (t.peers.map EP.e) rfl rfl ?_
    exact leaf [0, 1] _ t.h rfl rfl rfl rfl rfl hk
end Go.Abs.X

namespace Go.Abs.X
open Go.Abs Go Go.Proofs

def idxFrom (name : ByteArray) : List (Int × PeerV) → Nat → Int
  | [], _ => -1
  | p :: r, i => if sameM p.2.1 name then (i : Int) else idxFrom name r (i + 1)
theorem idxFrom_iff (name : ByteArray) : ∀ (ps : List (Int × PeerV)) (i : Nat), 0 ≤ idxFrom name ps i ↔ ps.any (fun p => sameM p.2.1 name) = true
  | [], i => by simp [idxFrom]
  | p :: r, i => by
    simp only [idxFrom, List.any_cons, Bool.or_eq_true]
    split
    · rename_i h; simp [h]
    · rename_i h; simp [h, idxFrom_iff name r (i + 1)]
def joinM (t : Tb) (room name : ByteArray) : (Int × Int) × Tb :=
  if checkM room ≠ 0 ∨ checkM name ≠ 0 then ((0, 6), t)
  else if (inM t room).any (fun p => sameM p.2.1 name) = true then ((0, 10), t)
  else if 16 ≤ (inM t room).length ∨ (inM t room).length = 0 ∧ 8 ≤ (roomsM t).length ∨ 65535 < t.next then ((0, 11), t)
  else ((t.next, 0), ⟨t.next + 1, ins t.peers t.next (name, room)⟩)
theorem checkM_size {s : ByteArray} (h : checkM s = 0) : s.size ≤ 64 := by
  unfold checkM at h
  split at h
  · simp at h
  · omega
theorem valStr_len (ks : List ByteArray) : (ks = [] ∧ valStr ks = .nils) ∨ (ks ≠ [] ∧ valStr ks = .ros (strsD ks) ks.length none) := by
  cases ks with
  | nil => exact .inl ⟨rfl, rfl⟩
  | cons k r => exact .inr ⟨by simp, rfl⟩
end Go.Abs.X

namespace Go.Abs.X
open Go.Abs Go Go.Proofs
variable {w0 : World}

theorem join1_ok (L : Laid w0) (n : Int) (a room name : ByteArray) (ha : a.size ≤ 35184372088832) (hn : name.size ≤ 35184372088832) (K : AV → Heap → Prop) (hk : K (.dat (.bool (sameM a name))) [some (.cells [.dat (.str name)] 9 false)]) :
    CallA (cx w0) 83 [.dat (peerD n a room), .ptr 0 0] [some (.cells [.dat (.str name)] 9 false)] K := by
  refine CallA.ret ?_
  refine CallA.enter ok (dr (plOf [])) Tryz.func83 Tryz.call83 ?_
  refine call_at [] (same_ok L a name ha hn _ ?_) rfl rfl rfl rfl
  exact leaf [0] _ [some (.cells [.dat (.str name)] 9 false)] rfl rfl rfl rfl rfl hk
theorem index_ok (L : Laid w0) (ps : List (Int × PeerV)) (hl : ps.length ≤ 1000000) (hs : ∀ p ∈ ps, p.2.1.size ≤ 35184372088832) (name : ByteArray) (hn : name.size ≤ 35184372088832) (K : AV → Heap → Prop) (hk : K (.dat (.int .i64 (idxFrom name ps 0))) [some (.cells [.dat (.str name)] 9 false)]) :
    CallA (cx w0) 123 [.dat (peersV ps), .func 83 [.ptr 0 0]] [some (.cells [.dat (.str name)] 9 false)] K := by
  refine CallA.ret ?_
  by_cases he : ps = []
  · subst he
    refine CallA.enter ok (dr (plOf [])) Tryz.func123 Tryz.call123 ?_
    refine loopA_round ok (dr (plOf []) _) ?_
    refine condA_false rfl ?_
    exact leaf [0] _ [some (.cells [.dat (.str name)] 9 false)] rfl rfl rfl rfl rfl hk
  rw [peersV_cons ps he]
  refine CallA.enter ok (dr (plOf [])) Tryz.func123 Tryz.call123 ?_
  refine loop_in [0, 1, 7, 8] [0] [.dat (.ros (peersD ps) ps.length none), .func 83 [.ptr 0 0], .dat (.int .i64 (ps.length : Nat)), .dat (.int .i64 (0 : Nat))] [some (.cells [.dat (.str name)] 9 false)] rfl rfl rfl rfl (hin_cons rfl hin_nil) ?_
  refine loop_ind (fun i : Nat => mkE [0, 1, 7, 8] [.dat (.ros (peersD ps) ps.length none), .func 83 [.ptr 0 0], .dat (.int .i64 (ps.length : Nat)), .dat (.int .i64 (i : Nat))]) (fun _ => [some (.cells [.dat (.str name)] 9 false)]) (fun i => i ≤ ps.length ∧ idxFrom name (ps.drop i) i = idxFrom name ps 0) (fun i => ps.length - i) ?_ 0 ⟨Nat.zero_le _, rfl⟩
  rintro i ⟨hi, hx⟩ ih
  refine loopA_round ok (dr (plOf []) _) ?_
  by_cases hlt : i < ps.length
  · have hpi : ps[i]? = some ps[i] := by simp [hlt]
    have hd : ps.drop i = ps[i] :: ps.drop (i + 1) := List.drop_eq_getElem_cons hlt
    rw [hd] at hx
    simp only [idxFrom] at hx
    have hw : IntKind.i64.wrap ((i : Int) + 1) = ((i + 1 : Nat) : Int) := by rw [wrap_i64 _ (by omega) (by omega)]; omega
    refine condA_true (by simpa using hlt) ?_
    refine req ⟨by simp, by simpa using hlt⟩ ?_
    refine optA (.agg (flatP ps[i])) ?_ ?_
    · exact cutD_flat (z := 3) (fun _ => rfl) rfl rfl hpi
    refine call_at [0] (join1_ok L ps[i].1 ps[i].2.1 ps[i].2.2 name (hs _ (by simp)) hn _ ?_) rfl rfl rfl rfl
    by_cases hsm : sameM ps[i].2.1 name = true
    · rw [if_pos hsm] at hx
      refine condA_true hsm ?_
      exact leaf [0] _ [some (.cells [.dat (.str name)] 9 false)] rfl rfl rfl rfl rfl (hx ▸ hk)
    · have go := ih (i + 1) ⟨hlt, by rw [← hx, if_neg hsm]⟩ (by omega)
      refine condA_false (by simpa using hsm) ?_
      exact loop_in [0, 1, 7, 8] [0] [.dat (.ros (peersD ps) ps.length none), .func 83 [.ptr 0 0], .dat (.int .i64 (ps.length : Nat)), .dat (.int .i64 ((i + 1 : Nat) : Int))] [some (.cells [.dat (.str name)] 9 false)] (by rw [← hw]; rfl) rfl rfl rfl (hin_cons rfl hin_nil) go
  · obtain rfl : i = ps.length := by omega
    rw [List.drop_length] at hx
    refine condA_false (by simp) ?_
    exact leaf [0] _ [some (.cells [.dat (.str name)] 9 false)] rfl rfl rfl rfl rfl (hx ▸ hk)
theorem contains_ok (L : Laid w0) (ps : List (Int × PeerV)) (hl : ps.length ≤ 1000000) (hs : ∀ p ∈ ps, p.2.1.size ≤ 35184372088832) (name : ByteArray) (hn : name.size ≤ 35184372088832) (K : AV → Heap → Prop) (hk : K (.dat (.bool (ps.any fun p => sameM p.2.1 name))) [some (.cells [.dat (.str name)] 9 false)]) :
    CallA (cx w0) 82 [.dat (peersV ps), .func 83 [.ptr 0 0]] [some (.cells [.dat (.str name)] 9 false)] K := by
  refine CallA.ret ?_
  refine CallA.enter ok (dr (plOf [])) Tryz.func82 Tryz.call82 ?_
  refine call_at [0] (index_ok L ps hl hs name hn _ ?_) rfl rfl rfl rfl
  refine leaf [0] _ [some (.cells [.dat (.str name)] 9 false)] ?_ rfl rfl rfl rfl hk
  show AV.dat (.bool _) = AV.dat (.bool (decide (idxFrom name ps 0 ≥ 0)))
  congr 2
  rw [Bool.eq_iff_iff, decide_eq_true_eq]
  exact (idxFrom_iff name ps 0).symm
theorem new_ok (K : AV → Heap → Prop) (hk : K (.ptr 0 0) (Tb.h ⟨0, []⟩)) : CallA (cx w0) 32 [] [] K := by
  refine CallA.ret ?_
  refine CallA.enter ok (dr (plOf [])) Tryz.func32 Tryz.call32 ?_
  exact leaf [1, 0] _ (Tb.h ⟨0, []⟩) rfl rfl rfl rfl rfl hk

set_option maxHeartbeats 1000000 in
theorem join_ok (L : Laid w0) (t : Tb) (ht : TbOK t) (room name : ByteArray) (K : AV → Heap → Prop) (hk : K (.dat (.tup [.int .i64 (joinM t room name).1.1, .int .i64 (joinM t room name).1.2])) (joinM t room name).2.h) :
    CallA (cx w0) 34 [.ptr 0 0, .dat (.str room), .dat (.str name)] t.h K := by
  refine CallA.ret ?_
  refine CallA.enter ok (dr (plOf pl34)) Tryz.func34 Tryz.call34 ?_
  have fin : ∀ a b t', joinM t room name = ((a, b), t') → K (.dat (.tup [.int .i64 a, .int .i64 b])) t'.h := fun a b t' h => by rw [h] at hk; exact hk
  refine call_at [] (check_ok L room _ ?_) rfl rfl rfl rfl
  by_cases c1 : checkM room = 0
  · repeat (first | (refine condA_true ?_ ?_; focus (first | rfl | (simp; done) | (simp; omega) | (simp [c1]; done) | (simp [c1]; omega))) | (refine condA_false ?_ ?_; focus (first | rfl | (simp; done) | (simp; omega) | (simp [c1]; done) | (simp [c1]; omega))))
    refine call_at [] (check_ok L name _ ?_) rfl rfl rfl rfl
    by_cases c2 : checkM name = 0
    · repeat (first | (refine condA_true ?_ ?_; focus (first | rfl | (simp; done) | (simp; omega) | (simp [c1]; done) | (simp [c2]; done) | (simp [c1]; omega) | (simp [c2]; omega) | (simp [c1, c2]; done))) | (refine condA_false ?_ ?_; focus (first | rfl | (simp; done) | (simp; omega) | (simp [c1]; done) | (simp [c2]; done) | (simp [c1]; omega) | (simp [c2]; omega) | (simp [c1, c2]; done))))
      have hr := checkM_size c1
      have hn := checkM_size c2
      refine call_at [0, 1] (in_ok L t ht room (by omega) _ ?_) rfl rfl rfl rfl
      have hin : ∀ p ∈ inM t room, p.2.1.size ≤ 64 := fun p hp => by
        simp only [inM, List.mem_filterMap, inF] at hp
        obtain ⟨n, _, h⟩ := hp
        split at h <;> try cases h
        rename_i q hq
        split at h <;> cases h
        exact (ht.sz _ (lk_mem hq)).1
      have hil : (inM t room).length ≤ 200000 := by
        have h1 := List.length_filterMap_le (inF t room) t.keys
        have h2 := t.keys_length
        have h3 := ht.len
        unfold inM; omega
      have hj : joinM t room name = if (inM t room).any (fun p => sameM p.2.1 name) = true then ((0, 10), t)
          else if 16 ≤ (inM t room).length ∨ (inM t room).length = 0 ∧ 8 ≤ (roomsM t).length ∨ 65535 < t.next then ((0, 11), t)
          else ((t.next, 0), ⟨t.next + 1, ins t.peers t.next (name, room)⟩) := by
        unfold joinM; rw [if_neg (by simp [c1, c2])]
      clear hk
      generalize inM t room = I at hj hin hil ⊢
      refine call_at [2] (contains_ok L I (by omega) (fun p hp => by have := hin p hp; omega) name (by omega) _ ?_) rfl rfl rfl rfl
      have hw : IntKind.i64.wrap (t.next + 1) = t.next + 1 := wrap_i64 _ (by have := ht.next; omega) (by have := ht.next; omega)
      by_cases ha : (I.any fun p => sameM p.2.1 name) = true
      · refine condA_true ha ?_
        exact leaf [0, 1] _ t.h rfl rfl rfl rfl rfl (fin 0 10 t (by rw [hj, if_pos ha]))
      refine condA_false (by simpa using ha) ?_
      by_cases hI : I = []
      · subst hI
        refine condA_false rfl ?_
        repeat (first | (refine condA_true ?_ ?_; focus (first | rfl | (simp; done) | (simp; omega))) | (refine condA_false ?_ ?_; focus (first | rfl | (simp; done) | (simp; omega))))
        refine call_at [0, 1] (rooms_ok L t ht _ ?_) rfl rfl rfl rfl
        rcases valStr_len (roomsM t) with ⟨hR, hv⟩ | ⟨hR, hv⟩
        · rw [hv]
          repeat (first | (refine condA_true ?_ ?_; focus (first | rfl | (simp; done) | (simp; omega))) | (refine condA_false ?_ ?_; focus (first | rfl | (simp; done) | (simp; omega))))
          by_cases c6 : 65535 < t.next
          · repeat (first | (refine condA_true ?_ ?_; focus (first | rfl | (simp; done) | (simp; omega) | (simp [c6]; done) | (simp [c6]; omega))) | (refine condA_false ?_ ?_; focus (first | rfl | (simp; done) | (simp; omega) | (simp [c6]; done) | (simp [c6]; omega))))
            exact leaf [0, 1] _ t.h rfl rfl rfl rfl rfl (fin 0 11 t (by rw [hj, if_neg ha, if_pos (Or.inr (Or.inr c6))]))
          · repeat (first | (refine condA_true ?_ ?_; focus (first | rfl | (simp; done) | (simp; omega) | (simp [c6]; done) | (simp [c6]; omega))) | (refine condA_false ?_ ?_; focus (first | rfl | (simp; done) | (simp; omega) | (simp [c6]; done) | (simp [c6]; omega))))
            refine req (by decide +kernel) ?_
            refine req (by decide +kernel) ?_
            refine req (isSome_enc EP _ _) ?_
            refine leaf_in [0, 1] (.dat (.tup [.int .i64 t.next, .int .i64 0])) (Tb.h ⟨t.next + 1, ins t.peers t.next (name, room)⟩) rfl rfl rfl rfl (hin_cons (congrArg (fun x => some (AB.cells [.map 1, .dat (.int .i64 x)] 107 false)) hw) (hin_cons (ren_mapD (ins_enc EP t.peers t.next (name, room))) hin_nil)) ?_
            exact fin t.next 0 _ (by rw [hj, if_neg ha, if_neg (by rintro (h | h | h); simp at h; rw [hR] at h; simp at h; exact c6 h)])
        · rw [hv]
          by_cases c5 : 8 ≤ (roomsM t).length
          · repeat (first | (refine condA_true ?_ ?_; focus (first | rfl | (simp; done) | (simp; omega) | (simp [c5]; done) | (simp [c5]; omega))) | (refine condA_false ?_ ?_; focus (first | rfl | (simp; done) | (simp; omega) | (simp [c5]; done) | (simp [c5]; omega))))
            exact leaf [0, 1] _ t.h rfl rfl rfl rfl rfl (fin 0 11 t (by rw [hj, if_neg ha, if_pos (Or.inr (Or.inl ⟨rfl, c5⟩))]))
          · repeat (first | (refine condA_true ?_ ?_; focus (first | rfl | (simp; done) | (simp; omega) | (simp [c5]; done) | (simp [c5]; omega))) | (refine condA_false ?_ ?_; focus (first | rfl | (simp; done) | (simp; omega) | (simp [c5]; done) | (simp [c5]; omega))))
            by_cases c6 : 65535 < t.next
            · repeat (first | (refine condA_true ?_ ?_; focus (first | rfl | (simp; done) | (simp; omega) | (simp [c6]; done) | (simp [c6]; omega))) | (refine condA_false ?_ ?_; focus (first | rfl | (simp; done) | (simp; omega) | (simp [c6]; done) | (simp [c6]; omega))))
              exact leaf [0, 1] _ t.h rfl rfl rfl rfl rfl (fin 0 11 t (by rw [hj, if_neg ha, if_pos (Or.inr (Or.inr c6))]))
            · repeat (first | (refine condA_true ?_ ?_; focus (first | rfl | (simp; done) | (simp; omega) | (simp [c6]; done) | (simp [c6]; omega))) | (refine condA_false ?_ ?_; focus (first | rfl | (simp; done) | (simp; omega) | (simp [c6]; done) | (simp [c6]; omega))))
              refine req (by decide +kernel) ?_
              refine req (by decide +kernel) ?_
              refine req (isSome_enc EP _ _) ?_
              refine leaf_in [0, 1] (.dat (.tup [.int .i64 t.next, .int .i64 0])) (Tb.h ⟨t.next + 1, ins t.peers t.next (name, room)⟩) rfl rfl rfl rfl (hin_cons (congrArg (fun x => some (AB.cells [.map 1, .dat (.int .i64 x)] 107 false)) hw) (hin_cons (ren_mapD (ins_enc EP t.peers t.next (name, room))) hin_nil)) ?_
              exact fin t.next 0 _ (by rw [hj, if_neg ha, if_neg (by rintro (h | h | h); simp at h; exact c5 h.2; exact c6 h)])
      · have hIl : I.length ≠ 0 := fun h => hI (List.eq_nil_of_length_eq_zero h)
        rw [peersV_cons I hI]
        by_cases c4 : 16 ≤ I.length
        · repeat (first | (refine condA_true ?_ ?_; focus (first | rfl | (simp; done) | (simp; omega) | (simp [c4]; done) | (simp [c4]; omega))) | (refine condA_false ?_ ?_; focus (first | rfl | (simp; done) | (simp; omega) | (simp [c4]; done) | (simp [c4]; omega))))
          exact leaf [0, 1] _ t.h rfl rfl rfl rfl rfl (fin 0 11 t (by rw [hj, if_neg ha, if_pos (Or.inl c4)]))
        · refine condA_false (by simp; omega) ?_
          refine condA_false (by simp; omega) ?_
          repeat (first | (refine condA_true ?_ ?_; focus (first | rfl | (simp; done) | (simp; omega) | (simp [hIl]; done) | (simp [hIl]; omega))) | (refine condA_false ?_ ?_; focus (first | rfl | (simp; done) | (simp; omega) | (simp [hIl]; done) | (simp [hIl]; omega))))
          by_cases c6 : 65535 < t.next
          · repeat (first | (refine condA_true ?_ ?_; focus (first | rfl | (simp; done) | (simp; omega) | (simp [c6]; done) | (simp [c6]; omega))) | (refine condA_false ?_ ?_; focus (first | rfl | (simp; done) | (simp; omega) | (simp [c6]; done) | (simp [c6]; omega))))
            exact leaf [0, 1] _ t.h rfl rfl rfl rfl rfl (fin 0 11 t (by rw [hj, if_neg ha, if_pos (Or.inr (Or.inr c6))]))
          · repeat (first | (refine condA_true ?_ ?_; focus (first | rfl | (simp; done) | (simp; omega) | (simp [c6]; done) | (simp [c6]; omega))) | (refine condA_false ?_ ?_; focus (first | rfl | (simp; done) | (simp; omega) | (simp [c6]; done) | (simp [c6]; omega))))
            refine req (by decide +kernel) ?_
            refine req (by decide +kernel) ?_
            refine req (isSome_enc EP _ _) ?_
            refine leaf_in [0, 1] (.dat (.tup [.int .i64 t.next, .int .i64 0])) (Tb.h ⟨t.next + 1, ins t.peers t.next (name, room)⟩) rfl rfl rfl rfl (hin_cons (congrArg (fun x => some (AB.cells [.map 1, .dat (.int .i64 x)] 107 false)) hw) (hin_cons (ren_mapD (ins_enc EP t.peers t.next (name, room))) hin_nil)) ?_
            exact fin t.next 0 _ (by rw [hj, if_neg ha, if_neg (by rintro (h | h | h); exact c4 h; exact hIl h.1; exact c6 h)])
    · repeat (first | (refine condA_true ?_ ?_; focus (first | rfl | (simp; done) | (simp; omega) | (simp [c1]; done) | (simp [c2]; done) | (simp [c1]; omega) | (simp [c2]; omega) | (simp [c1, c2]; done))) | (refine condA_false ?_ ?_; focus (first | rfl | (simp; done) | (simp; omega) | (simp [c1]; done) | (simp [c2]; done) | (simp [c1]; omega) | (simp [c2]; omega) | (simp [c1, c2]; done))))
      exact leaf [0, 1] _ t.h rfl rfl rfl rfl rfl (fin 0 6 t (by simp [joinM, c2]))
  · repeat (first | (refine condA_true ?_ ?_; focus (first | rfl | (simp; done) | (simp; omega) | (simp [c1]; done) | (simp [c1]; omega))) | (refine condA_false ?_ ?_; focus (first | rfl | (simp; done) | (simp; omega) | (simp [c1]; done) | (simp [c1]; omega))))
    exact leaf [0, 1] _ t.h rfl rfl rfl rfl rfl (fin 0 6 t (by simp [joinM, c1]))
end Go.Abs.X

namespace Go.Abs.X
open Go.Abs Go Go.Proofs
variable {w0 : World}

def hasL (k : Int) : List UInt8 :=
  if k = 1 then [114] else if k = 2 then [112] else if k = 3 then [112, 116, 115] else if k = 4 then [112, 116]
  else if k = 5 then [112, 111, 116, 108] else if k = 6 then [112, 111, 116] else if k = 7 then [112, 116, 98] else if k = 8 then [112, 111, 116, 98] else []
def hasM (k : Int) : ByteArray := ⟨⟨hasL k⟩⟩
theorem has_ok (k : Int) (K : AV → Heap → Prop) (hk : K (.dat (.str (hasM k))) []) : CallA (cx w0) 76 [.dat (.int .i64 k)] [] K := by
  refine CallA.ret ?_
  refine CallA.enter ok (dr (plOf [])) Tryz.func76 Tryz.call76 ?_
  unfold hasM hasL at hk
  by_cases h1 : k = 1
  · subst h1
    repeat (first | (refine condA_true ?_ ?_; focus (first | rfl | (simp; done) | (simp; omega))) | (refine condA_false ?_ ?_; focus (first | rfl | (simp; done) | (simp; omega))))
    exact leaf [] _ [] rfl rfl rfl rfl rfl hk
  by_cases h2 : k = 2
  · subst h2
    repeat (first | (refine condA_true ?_ ?_; focus (first | rfl | (simp; done) | (simp; omega))) | (refine condA_false ?_ ?_; focus (first | rfl | (simp; done) | (simp; omega))))
    exact leaf [] _ [] rfl rfl rfl rfl rfl hk
  by_cases h3 : k = 3
  · subst h3
    repeat (first | (refine condA_true ?_ ?_; focus (first | rfl | (simp; done) | (simp; omega))) | (refine condA_false ?_ ?_; focus (first | rfl | (simp; done) | (simp; omega))))
    exact leaf [] _ [] rfl rfl rfl rfl rfl hk
  by_cases h4 : k = 4
  · subst h4
    repeat (first | (refine condA_true ?_ ?_; focus (first | rfl | (simp; done) | (simp; omega))) | (refine condA_false ?_ ?_; focus (first | rfl | (simp; done) | (simp; omega))))
    exact leaf [] _ [] rfl rfl rfl rfl rfl hk
  by_cases h5 : k = 5
  · subst h5
    repeat (first | (refine condA_true ?_ ?_; focus (first | rfl | (simp; done) | (simp; omega))) | (refine condA_false ?_ ?_; focus (first | rfl | (simp; done) | (simp; omega))))
    exact leaf [] _ [] rfl rfl rfl rfl rfl hk
  by_cases h6 : k = 6
  · subst h6
    repeat (first | (refine condA_true ?_ ?_; focus (first | rfl | (simp; done) | (simp; omega))) | (refine condA_false ?_ ?_; focus (first | rfl | (simp; done) | (simp; omega))))
    exact leaf [] _ [] rfl rfl rfl rfl rfl hk
  by_cases h7 : k = 7
  · subst h7
    repeat (first | (refine condA_true ?_ ?_; focus (first | rfl | (simp; done) | (simp; omega))) | (refine condA_false ?_ ?_; focus (first | rfl | (simp; done) | (simp; omega))))
    exact leaf [] _ [] rfl rfl rfl rfl rfl hk
  by_cases h8 : k = 8
  · subst h8
    repeat (first | (refine condA_true ?_ ?_; focus (first | rfl | (simp; done) | (simp; omega))) | (refine condA_false ?_ ?_; focus (first | rfl | (simp; done) | (simp; omega))))
    exact leaf [] _ [] rfl rfl rfl rfl rfl hk
  rw [if_neg h1, if_neg h2, if_neg h3, if_neg h4, if_neg h5, if_neg h6, if_neg h7, if_neg h8] at hk
  repeat (first | (refine condA_true ?_ ?_; focus (first | rfl | (simp; done) | (simp; omega) | (simp [h1]; done) | (simp [h2]; done) | (simp [h3]; done) | (simp [h4]; done) | (simp [h5]; done) | (simp [h6]; done) | (simp [h7]; done) | (simp [h8]; done) | (simp [h1]; omega) | (simp [h2]; omega) | (simp [h3]; omega) | (simp [h4]; omega) | (simp [h5]; omega) | (simp [h6]; omega) | (simp [h7]; omega) | (simp [h8]; omega) | (simp [h1, h2]; done) | (simp [h1, h3]; done) | (simp [h1, h4]; done) | (simp [h1, h5]; done) | (simp [h1, h6]; done) | (simp [h1, h7]; done) | (simp [h1, h8]; done) | (simp [h2, h3]; done) | (simp [h2, h4]; done) | (simp [h2, h5]; done) | (simp [h2, h6]; done) | (simp [h2, h7]; done) | (simp [h2, h8]; done) | (simp [h3, h4]; done) | (simp [h3, h5]; done) | (simp [h3, h6]; done) | (simp [h3, h7]; done) | (simp [h3, h8]; done) | (simp [h4, h5]; done) | (simp [h4, h6]; done) | (simp [h4, h7]; done) | (simp [h4, h8]; done) | (simp [h5, h6]; done) | (simp [h5, h7]; done) | (simp [h5, h8]; done) | (simp [h6, h7]; done) | (simp [h6, h8]; done) | (simp [h7, h8]; done))) | (refine condA_false ?_ ?_; focus (first | rfl | (simp; done) | (simp; omega) | (simp [h1]; done) | (simp [h2]; done) | (simp [h3]; done) | (simp [h4]; done) | (simp [h5]; done) | (simp [h6]; done) | (simp [h7]; done) | (simp [h8]; done) | (simp [h1]; omega) | (simp [h2]; omega) | (simp [h3]; omega) | (simp [h4]; omega) | (simp [h5]; omega) | (simp [h6]; omega) | (simp [h7]; omega) | (simp [h8]; omega) | (simp [h1, h2]; done) | (simp [h1, h3]; done) | (simp [h1, h4]; done) | (simp [h1, h5]; done) | (simp [h1, h6]; done) | (simp [h1, h7]; done) | (simp [h1, h8]; done) | (simp [h2, h3]; done) | (simp [h2, h4]; done) | (simp [h2, h5]; done) | (simp [h2, h6]; done) | (simp [h2, h7]; done) | (simp [h2, h8]; done) | (simp [h3, h4]; done) | (simp [h3, h5]; done) | (simp [h3, h6]; done) | (simp [h3, h7]; done) | (simp [h3, h8]; done) | (simp [h4, h5]; done) | (simp [h4, h6]; done) | (simp [h4, h7]; done) | (simp [h4, h8]; done) | (simp [h5, h6]; done) | (simp [h5, h7]; done) | (simp [h5, h8]; done) | (simp [h6, h7]; done) | (simp [h6, h8]; done) | (simp [h7, h8]; done))))
  exact leaf [] _ [] rfl rfl rfl rfl rfl hk
theorem peer_ok' (n : Int) (K : AV → Heap → Prop) (hk : K (.dat (.bool (decide (0 ≤ n ∧ n ≤ 65535)))) []) : CallA (cx w0) 78 [.dat (.int .i64 n)] [] K := by
  refine CallA.ret ?_
  refine CallA.enter ok (dr (plOf [])) Tryz.func78 Tryz.call78 ?_
  by_cases h : 0 ≤ n
  · repeat (first | (refine condA_true ?_ ?_; focus (first | rfl | (simp; done) | (simp; omega) | (simp [h]; done) | (simp [h]; omega))) | (refine condA_false ?_ ?_; focus (first | rfl | (simp; done) | (simp; omega) | (simp [h]; done) | (simp [h]; omega))))
    refine leaf [] _ [] ?_ rfl rfl rfl rfl hk
    simp [h]; rfl
  · repeat (first | (refine condA_true ?_ ?_; focus (first | rfl | (simp; done) | (simp; omega) | (simp [h]; done) | (simp [h]; omega))) | (refine condA_false ?_ ?_; focus (first | rfl | (simp; done) | (simp; omega) | (simp [h]; done) | (simp [h]; omega))))
    refine leaf [] _ [] ?_ rfl rfl rfl rfl hk
    simp [h]; rfl

def anyFrom (s : ByteArray) : Nat → Nat → Int → Bool
  | 0, _, _ => false
  | fuel + 1, pos, c => if pos < s.size then (if (Utf8.decode s pos).1 = c then true else anyFrom s fuel (pos + (Utf8.decode s pos).2) c) else false
def partM (k c : Int) : Bool := anyFrom (hasM k) (hasM k).size 0 c
theorem anyFrom_end (s : ByteArray) (fuel pos : Nat) (c : Int) (h : ¬ pos < s.size) : anyFrom s fuel pos c = false := by
  cases fuel with
  | zero => rfl
  | succ f => simp [anyFrom, h]
theorem hasM_size (k : Int) : (hasM k).size ≤ 4 := by
  unfold hasM hasL
  repeat (split; decide)
  decide
theorem part_ok (k c : Int) (K : AV → Heap → Prop) (hk : K (.dat (.bool (partM k c))) []) : CallA (cx w0) 118 [.dat (.int .i64 k), .dat (.int .i32 c)] [] K := by
  refine CallA.ret ?_
  refine CallA.enter ok (dr (plOf [])) Tryz.func118 Tryz.call118 ?_
  refine call_at [] (has_ok k _ ?_) rfl rfl rfl rfl
  have hsz := hasM_size k
  unfold partM at hk
  generalize hasM k = s at hk hsz ⊢
  refine loop_in [1, 9] [0] [.dat (.int .i32 c), .ptr 0 0] [some (.siter s 0)] rfl rfl rfl rfl (hin_cons rfl hin_nil) ?_
  refine loop_ind (fun _ : Nat × Nat => mkE [1, 9] [.dat (.int .i32 c), .ptr 0 0]) (fun x => [some (.siter s x.2)]) (fun x => anyFrom s x.1 x.2 c = anyFrom s s.size 0 c ∧ s.size ≤ x.2 + x.1) (fun x => s.size - x.2) ?_ (s.size, 0) ⟨rfl, by show s.size ≤ 0 + s.size; omega⟩
  rintro ⟨fuel, pos⟩ ⟨hr, hf⟩ ih
  replace hr : anyFrom s fuel pos c = anyFrom s s.size 0 c := hr
  replace hf : s.size ≤ pos + fuel := hf
  refine loopA_round ok (dr (plOf []) _) ?_
  by_cases hp : pos < s.size
  · refine condA_true (by simpa using hp) ?_
    refine condA_true rfl ?_
    have hwd := width_pos s pos hp
    obtain ⟨f, rfl⟩ : ∃ f, fuel = f + 1 := ⟨fuel - 1, by omega⟩
    simp only [anyFrom, hp, if_true] at hr
    by_cases e : (Utf8.decode s pos).1 = c
    · rw [if_pos e] at hr
      repeat (first | (refine condA_true ?_ ?_; focus (first | rfl | (simp; done) | (simp; omega) | (simp [e]; done) | (simp [e]; omega))) | (refine condA_false ?_ ?_; focus (first | rfl | (simp; done) | (simp; omega) | (simp [e]; done) | (simp [e]; omega))))
      exact leaf [] _ [] rfl rfl rfl rfl rfl (hr ▸ hk)
    · rw [if_neg e] at hr
      repeat (first | (refine condA_true ?_ ?_; focus (first | rfl | (simp; done) | (simp; omega) | (simp [e]; done) | (simp [e]; omega))) | (refine condA_false ?_ ?_; focus (first | rfl | (simp; done) | (simp; omega) | (simp [e]; done) | (simp [e]; omega))))
      exact loop_in [1, 9] [0] [.dat (.int .i32 c), .ptr 0 0] [some (.siter s (pos + (Utf8.decode s pos).2))] rfl rfl rfl rfl (hin_cons rfl hin_nil) (ih (f, pos + (Utf8.decode s pos).2) ⟨hr, by show s.size ≤ pos + (Utf8.decode s pos).2 + f; omega⟩ (by show s.size - (pos + (Utf8.decode s pos).2) < s.size - pos; omega))
  · refine condA_false (by simpa using hp) ?_
    refine condA_false rfl ?_
    rw [anyFrom_end s fuel pos c hp] at hr
    exact leaf [] _ [] rfl rfl rfl rfl rfl (hr ▸ hk)
theorem partM_test : (partM 1 114, partM 1 112, partM 3 115, partM 8 98, partM 8 108) = (true, false, true, true, false) := rfl
end Go.Abs.X

namespace Go.Abs.X
open Go.Abs Go Go.Proofs
variable {w0 : World}

def u32s (xs : List Int) : List DV := flatD (fun x => [u32 x]) xs
inductive Sl : List Int → DV → Prop
  | nil : Sl [] .nils
  | ros (xs : List Int) (cap : Option Nat) : Sl xs (.ros (u32s xs) xs.length cap)
structure Cmd where
  kind : Int
  room : ByteArray
  name : ByteArray
  peer : Int
  of : Int
  track : Int
  layer : Int
  on : Bool
  video : Bool
  ssrcs : List Int
  sdv : DV
def Cmd.dv (c : Cmd) : DV := .agg [.int .i64 c.kind, .str c.room, .str c.name, .int .i64 c.peer, .int .i64 c.of, .int .i64 c.track, .int .i64 c.layer, .bool c.on, .bool c.video, c.sdv]
structure Cmd.OK (c : Cmd) : Prop where
  room : c.room.size ≤ 70
  name : c.name.size ≤ 70
  sl : Sl c.ssrcs c.sdv
  len : c.ssrcs.length ≤ 5
def Cmd.bad (c : Cmd) : Prop :=
  (c.kind ≠ 1 ∧ (c.room ++ c.name).toList ≠ []) ∨ (c.kind = 1 ∧ c.peer ≠ 0) ∨ (¬ (c.kind = 5 ∨ c.kind = 6 ∨ c.kind = 8) ∧ c.of ≠ 0) ∨ (¬ 3 ≤ c.kind ∧ c.track ≠ 0) ∨ (c.kind ≠ 5 ∧ c.layer ≠ 0) ∨ (¬ 7 ≤ c.kind ∧ c.on = true) ∨ (c.kind ≠ 3 ∧ (c.video = true ∨ 0 < (c.ssrcs.length : Int)))
set_option maxHeartbeats 4000000 in
theorem empty_ok (c : Cmd) (hc : c.OK) (h1 : 1 ≤ c.kind) (h8 : c.kind ≤ 8) (K : AV → Heap → Prop) (hk0 : c.bad → K (.dat (.bool false)) []) (hk1 : ¬ c.bad → K (.dat (.bool true)) []) : CallA (cx w0) 77 [.dat c.dv] [] K := by
  obtain ⟨kind, room, name, peer, of, track, layer, on, video, ssrcs, sdv⟩ := c
  obtain ⟨hr, hn, hs, hl⟩ := hc
  unfold Cmd.bad at hk0 hk1
  unfold Cmd.dv
  dsimp only at *
  refine CallA.ret ?_
  refine CallA.enter ok (dr (plOf [])) Tryz.func77 Tryz.call77 ?_
  have hkd : kind = 1 ∨ kind = 2 ∨ kind = 3 ∨ kind = 4 ∨ kind = 5 ∨ kind = 6 ∨ kind = 7 ∨ kind = 8 := by omega
  have hrn : room.size + name.size ≤ maxLen := by unfold maxLen; omega
  cases hs
  all_goals
    rcases hkd with rfl | rfl | rfl | rfl | rfl | rfl | rfl | rfl
    all_goals
      repeat' (first
        | (refine call_at [] (part_ok _ _ _ ?_) rfl rfl rfl rfl)
        | (refine condA_true ?_ ?_; focus first | rfl | assumption)
        | (refine condA_false ?_ ?_; focus first | rfl | assumption)
        | (refine condA_by (fun h => ?_) (fun h => ?_))
        | (refine req hrn ?_)
        | (refine req (by decide +kernel) ?_)
        | (refine leaf [] (.dat (.bool true)) [] rfl rfl rfl rfl rfl (hk1 ?_))
        | (refine leaf [] (.dat (.bool false)) [] rfl rfl rfl rfl rfl (hk0 ?_)))
    all_goals (clear hk0 hk1 hrn hr hn; first | (simp_all; done) | (simp_all; omega))
end Go.Abs.X

namespace Go.Abs.X
open Go.Abs Go Go.Proofs
variable {w0 : World}

def sourcesM (l : List Int) (video : Bool) : Int := match l with
  | [] => 5
  | [_] => 0
  | [a, b] => if video = false then 5 else if b = a then 10 else 0
  | [a, b, c] => if video = false then 5 else if b = a ∨ c = a ∨ c = b then 10 else 0
  | _ => 5
set_option maxHeartbeats 4000000 in
theorem sources_ok (c : Cmd) (hc : c.OK) (K : AV → Heap → Prop) (hk : ∀ e, e = sourcesM c.ssrcs c.video → K (.dat (.int .i64 e)) []) : CallA (cx w0) 80 [.dat c.dv] [] K := by
  obtain ⟨kind, room, name, peer, of, track, layer, on, video, ssrcs, sdv⟩ := c
  obtain ⟨hr, hn, hs, hl⟩ := hc
  unfold Cmd.dv
  dsimp only at *
  refine CallA.ret ?_
  refine CallA.enter ok (dr (plOf [])) Tryz.func80 Tryz.call80 ?_
  cases hs with
  | nil =>
    repeat (first | (refine condA_true ?_ ?_; focus (first | rfl | (simp; done) | (simp; omega))) | (refine condA_false ?_ ?_; focus (first | rfl | (simp; done) | (simp; omega))))
    exact leaf [] (.dat (.int .i64 5)) [] rfl rfl rfl rfl rfl (hk _ rfl)
  | ros xs cap =>
    rcases ssrcs with _ | ⟨a, _ | ⟨b, _ | ⟨c, _ | ⟨d, l⟩⟩⟩⟩
    · repeat (first | (refine condA_true ?_ ?_; focus (first | rfl | (simp; done) | (simp; omega))) | (refine condA_false ?_ ?_; focus (first | rfl | (simp; done) | (simp; omega))))
      exact leaf [] (.dat (.int .i64 5)) [] rfl rfl rfl rfl rfl (hk _ rfl)
    all_goals
      repeat' (first
        | (refine condA_true ?_ ?_; focus first | rfl | assumption | (simp; omega))
        | (refine condA_false ?_ ?_; focus first | rfl | assumption | (simp; omega))
        | (refine loopA_round ok (dr (plOf []) _) ?_)
        | (refine condA_by (fun h => ?_) (fun h => ?_))
        | (refine optA _ rfl ?_)
        | (refine req ?_ ?_; focus first | exact of_decide_eq_true rfl | (simp; done) | (simp; omega))
        | (refine leaf [] (.dat (.int .i64 0)) [] rfl rfl rfl rfl rfl (hk _ ?_))
        | (refine leaf [] (.dat (.int .i64 5)) [] rfl rfl rfl rfl rfl (hk _ ?_))
        | (refine leaf [] (.dat (.int .i64 10)) [] rfl rfl rfl rfl rfl (hk _ ?_)))
    all_goals (clear hk; first | (simp_all [sourcesM]; done) | (simp_all [sourcesM]; omega))

def cutM (s : ByteArray) (n : Nat) : ByteArray := if n < s.size then s.extract 0 n else s
theorem cutM_size (s : ByteArray) (n : Nat) : (cutM s n).size ≤ n := by
  unfold cutM; split
  · simp; omega
  · omega
theorem cut_ok (s : ByteArray) (n : Nat) (K : AV → Heap → Prop) (hk : K (.dat (.str (cutM s n))) []) : CallA (cx w0) 40 [.dat (.str s), .dat (.int .i64 n)] [] K := by
  refine CallA.ret ?_
  refine CallA.enter ok (dr (plOf [])) Tryz.func40 Tryz.call40 ?_
  unfold cutM at hk
  by_cases h : n < s.size
  · rw [if_pos h] at hk
    refine condA_true (by simp; omega) ?_
    refine req ⟨by simp, by simp, by simp; omega⟩ ?_
    exact leaf [] _ [] rfl rfl rfl rfl rfl hk
  · rw [if_neg h] at hk
    refine condA_false (by simp; omega) ?_
    exact leaf [] _ [] rfl rfl rfl rfl rfl hk
def Cmd.few (c : Cmd) (d : DV) : Cmd := ⟨c.kind, cutM c.room 70, cutM c.name 70, c.peer, c.of, c.track, c.layer, c.on, c.video, c.ssrcs.take 5, d⟩
theorem Cmd.few_OK (c : Cmd) (d : DV) (h : Sl (c.ssrcs.take 5) d) : (c.few d).OK :=
  ⟨cutM_size _ _, cutM_size _ _, h, by show (c.ssrcs.take 5).length ≤ 5; simp; omega⟩
theorem u32s_eq (xs : List Int) : u32s xs = xs.map u32 := by
  induction xs with
  | nil => rfl
  | cons x r ih => simp [u32s, flatD] at ih ⊢; exact ih
theorem u32s_take (xs : List Int) (n : Nat) : ltake (ldrop (u32s xs) 0) n = u32s (xs.take n) := by rw [ltake_eq, ldrop_eq, u32s_eq, u32s_eq, List.drop_zero, List.map_take]
theorem few_ok (c : Cmd) (hs : Sl c.ssrcs c.sdv) (K : AV → Heap → Prop) (hk : ∀ d, Sl (c.ssrcs.take 5) d → K (.dat (c.few d).dv) []) : CallA (cx w0) 12 [.dat c.dv] [] K := by
  obtain ⟨kind, room, name, peer, of, track, layer, on, video, ssrcs, sdv⟩ := c
  unfold Cmd.dv
  dsimp only [Cmd.few] at *
  refine CallA.ret ?_
  refine CallA.enter ok (dr (plOf pl12)) Tryz.func12 Tryz.call12 ?_
  refine req ?_ ?_
  · decide +kernel
  refine call_at [] (cut_ok room 70 _ ?_) rfl rfl rfl rfl
  repeat refine eqA ?_
  refine call_at [] (cut_ok name 70 _ ?_) rfl rfl rfl rfl
  repeat refine eqA ?_
  cases hs with
  | nil =>
    refine condA_false rfl ?_
    exact leaf [] (.dat (Cmd.few ⟨kind, room, name, peer, of, track, layer, on, video, [], .nils⟩ .nils).dv) [] rfl rfl rfl rfl rfl (hk .nils Sl.nil)
  | ros xs cap =>
    by_cases h : 5 < ssrcs.length
    · refine condA_true (by simp; omega) ?_
      refine req ⟨by omega, by omega, by omega⟩ ?_
      have e : (ssrcs.take 5).length = 5 := by simp; omega
      have hs := Sl.ros (ssrcs.take 5) (cutCap cap 0)
      rw [← u32s_take, e] at hs
      exact leaf [] (.dat (Cmd.few ⟨kind, room, name, peer, of, track, layer, on, video, ssrcs, .ros (u32s ssrcs) ssrcs.length cap⟩ (.ros (ltake (ldrop (u32s ssrcs) 0) 5) 5 (cutCap cap 0))).dv) [] rfl rfl rfl rfl rfl (hk _ hs)
    · refine condA_false (by simp; omega) ?_
      have e : ssrcs.take 5 = ssrcs := List.take_of_length_le (by omega)
      exact leaf [] (.dat (Cmd.few ⟨kind, room, name, peer, of, track, layer, on, video, ssrcs, .ros (u32s ssrcs) ssrcs.length cap⟩ (.ros (u32s ssrcs) ssrcs.length cap)).dv) [] rfl rfl rfl rfl rfl (hk _ (e.symm ▸ Sl.ros ssrcs cap))
end Go.Abs.X
