/- A part of the proof behind the last text of this folder: R3, M5, R4, K1, K2, K3, K4, M6, M7, M8, M9, B1, B2, B3, B4. -/
import Derived.Test.YtbbpedjbfgcdoaaGreatDoorP7
set_option linter.unusedSimpArgs false
set_option linter.unusedSectionVars false

namespace Go.Abs.X
open Go.Abs Go Go.Proofs
variable {w0 : World}

theorem EP_inj (a b : Int × PeerV) (h : EP.l a = EP.l b) : a = b := by
  obtain ⟨n, x, y⟩ := a
  obtain ⟨m, u, v⟩ := b
  simp only [Enc.l, EP, peerD, i64, Prod.mk.injEq, AV.dat.injEq, DV.int.injEq, DV.agg.injEq, List.cons.injEq, DV.str.injEq] at h
  obtain ⟨⟨_, h1⟩, _, h2, h3, _⟩ := h
  subst h1 h2 h3; rfl

set_option maxHeartbeats 1000000 in
theorem rooms_ok (L : Laid w0) (t : Tb) (ht : TbOK t) (K : AV → Heap → Prop) (hk : K (.dat (valStr (roomsM t))) t.h) :
    CallA (cx w0) 84 [.ptr 0 0] t.h K := by
  refine CallA.ret ?_
  refine CallA.enter ok (dr (plOf [])) Tryz.func84 Tryz.call84 ?_
  refine rangeM fun bs clk hbl hbp hbc => ?_
  have hel : bs.length = (liftE (t.peers.map EP.e)).length := by rw [liftE_length]; exact hbl
  let H : List Nat × List (Int × PeerV) → Heap := fun x => [some (.cells [.map 1, .dat (.int .i64 t.next)] 107 false), some (.mapB bs clk (liftE (t.peers.map EP.e))), some (.mapD ((seenM x.2).map ES.e)), some (.miter 1 clk x.1)]
  refine loop_in [3, 11] [0, 1, 2, 3] [.map 2, .ptr 3 0] (H ([], [])) rfl rfl rfl rfl (hin_cons rfl (hin_cons ren_mapB (hin_cons rfl (hin_cons rfl hin_nil)))) ?_
  refine loop_ind (fun _ => mkE [3, 11] [.map 2, .ptr 3 0]) H (fun x => Came bs x.1 ∧ x.2.map EP.l = x.1.reverse.filterMap (entB bs (liftE (t.peers.map EP.e)))) (fun x => bs.length - x.1.length) ?_ ([], []) ⟨Came.nil bs, rfl⟩
  rintro ⟨seen, ps⟩ ⟨came, hps⟩ ih
  replace came : Came bs seen := came
  replace hps : ps.map EP.l = seen.reverse.filterMap (entB bs (liftE (t.peers.map EP.e))) := hps
  refine loopA_round ok (dr (plOf []) _) ?_
  refine req rfl ?_
  refine nextM (fun b k v he hn => ?_) (fun hall => ?_)
  · obtain ⟨p, hp, rfl, rfl⟩ := ent_enc EP he
    have go := ih (b :: seen, ps ++ [p]) ⟨came.cons he hn, by rw [came_snoc he, List.map_append, ← hps]; rfl⟩ (by have := (came.cons he hn).le; simp only [List.length_cons] at this ⊢; omega)
    clear ih
    have hsz := (ht.sz p hp).2
    refine condA_true rfl ?_
    refine req rfl ?_
    refine optA _ he ?_
    refine call_at [] (fold_ok L p.2.2 (by omega) _ ?_) rfl rfl rfl rfl
    refine look_enc ES (fun h => ?_) (fun c h => ?_)
    all_goals
      refine req (isSome_enc ES _ _) ?_
      refine loop_in [3, 11] [0, 1, 2, 3] [.map 2, .ptr 3 0] (H (b :: seen, ps ++ [p])) rfl rfl rfl rfl (hin_cons rfl (hin_cons ren_mapB (hin_cons (ren_mapD ?_) (hin_cons rfl hin_nil)))) go
      show _ = (seenM (ps ++ [p])).map ES.e
      rw [seenM_snoc, h, ← ins_enc]
      rfl
  · refine condA_false rfl ?_
    have hpm : ps.Perm t.peers := by
      apply perm_of_map2 EP_inj
      rw [hps, ← lift_enc]
      exact came.perm hel hbp hall
    have hkeys : ∀ e ∈ (seenM ps).map ES.e, ∃ l : ByteArray, e.1 = DV.str l := fun e he => by
      obtain ⟨p, _, rfl⟩ := List.mem_map.1 he
      exact ⟨p.1, rfl⟩
    have hlen : ((seenM ps).map ES.e).length ≤ 1000000 := by
      have h1 : (seenM ps).length = ((seenM ps).map (·.1)).length := by simp
      have h2 := dedup_le (ps.map fun p => foldM p.2.2)
      have h3 := hpm.length_eq
      have h4 := ht.len
      rw [List.length_map, h1, seenM_keys]
      simp only [List.length_map] at h2
      omega
    refine call_at [2] (keysStr_ok ((seenM ps).map ES.e) _ ?_) rfl rfl rfl rfl
    refine call_at [2, 4] (sortedStr_ok ((seenM ps).map ES.e) hkeys hlen _ (fun ks hp => ?_)) rfl rfl rfl rfl
    have hr : sortS ks = roomsM t := by
      apply sortS_perm
      have h1 : ks.Perm ((seenM ps).map (·.1)) := by
        apply perm_of_map (f := DV.str) (fun a b h => by simpa using h)
        refine hp.trans ?_
        rw [List.map_map, List.map_map]
        exact List.Perm.refl _
      rw [seenM_keys] at h1
      exact h1.trans (dedup_perm (hpm.map _))
    rw [hr]
    refine shift_unBD' 1 (t.peers.map EP.e) rfl rfl ?_
    exact leaf [0, 1] _ t.h rfl rfl rfl rfl rfl hk
end Go.Abs.X

namespace Go.Abs.X
open Go.Abs Go Go.Proofs

def idxFrom (name : ByteArray) : List (Int × PeerV) → Nat → Int
  | [], _ => -1
  | p :: r, i => if sameM p.2.1 name then (i : Int) else idxFrom name r (i + 1)
theorem idxFrom_iff (name : ByteArray) : ∀ (ps : List (Int × PeerV)) (i : Nat), 0 ≤ idxFrom name ps i ↔ ps.any (fun p => sameM p.2.1 name) = true
  | [], i => by simp [idxFrom]
  | p :: r, i => by
    simp only [idxFrom, List.any_cons, Bool.or_eq_true]
    split
    · rename_i h; simp [h]
    · rename_i h; simp [h, idxFrom_iff name r (i + 1)]
def joinM (t : Tb) (room name : ByteArray) : (Int × Int) × Tb :=
  if checkM room ≠ 0 ∨ checkM name ≠ 0 then ((0, 6), t)
  else if (inM t room).any (fun p => sameM p.2.1 name) = true then ((0, 10), t)
  else if 16 ≤ (inM t room).length ∨ (inM t room).length = 0 ∧ 8 ≤ (roomsM t).length ∨ 65535 < t.next then ((0, 11), t)
  else ((t.next, 0), ⟨t.next + 1, ins t.peers t.next (name, room)⟩)
theorem checkM_size {s : ByteArray} (h : checkM s = 0) : s.size ≤ 64 := by
  unfold checkM at h
  split at h
  · simp at h
  · omega
theorem valStr_len (ks : List ByteArray) : (ks = [] ∧ valStr ks = .nils) ∨ (ks ≠ [] ∧ valStr ks = .ros (strsD ks) ks.length none) := by
  cases ks with
  | nil => exact .inl ⟨rfl, rfl⟩
  | cons k r => exact .inr ⟨by simp, rfl⟩
end Go.Abs.X

namespace Go.Abs.X
open Go.Abs Go Go.Proofs
variable {w0 : World}

theorem join1_ok (L : Laid w0) (n : Int) (a room name : ByteArray) (ha : a.size ≤ 35184372088832) (hn : name.size ≤ 35184372088832) (K : AV → Heap → Prop) (hk : K (.dat (.bool (sameM a name))) [some (.cells [.dat (.str name)] 9 false)]) :
    CallA (cx w0) 83 [.dat (peerD n a room), .ptr 0 0] [some (.cells [.dat (.str name)] 9 false)] K := by
  refine CallA.ret ?_
  refine CallA.enter ok (dr (plOf [])) Tryz.func83 Tryz.call83 ?_
  refine call_at [] (same_ok L a name ha hn _ ?_) rfl rfl rfl rfl
  exact leaf [0] _ [some (.cells [.dat (.str name)] 9 false)] rfl rfl rfl rfl rfl hk
theorem index_ok (L : Laid w0) (ps : List (Int × PeerV)) (hl : ps.length ≤ 1000000) (hs : ∀ p ∈ ps, p.2.1.size ≤ 35184372088832) (name : ByteArray) (hn : name.size ≤ 35184372088832) (K : AV → Heap → Prop) (hk : K (.dat (.int .i64 (idxFrom name ps 0))) [some (.cells [.dat (.str name)] 9 false)]) :
    CallA (cx w0) 123 [.dat (peersV ps), .func 83 [.ptr 0 0]] [some (.cells [.dat (.str name)] 9 false)] K := by
  refine CallA.ret ?_
  by_cases he : ps = []
  · subst he
    refine CallA.enter ok (dr (plOf [])) Tryz.func123 Tryz.call123 ?_
    refine loopA_round ok (dr (plOf []) _) ?_
    refine condA_false rfl ?_
    exact leaf [0] _ [some (.cells [.dat (.str name)] 9 false)] rfl rfl rfl rfl rfl hk
  rw [peersV_cons ps he]
  refine CallA.enter ok (dr (plOf [])) Tryz.func123 Tryz.call123 ?_
  refine loop_in [0, 1, 7, 8] [0] [.dat (.ros (peersD ps) ps.length none), .func 83 [.ptr 0 0], .dat (.int .i64 (ps.length : Nat)), .dat (.int .i64 (0 : Nat))] [some (.cells [.dat (.str name)] 9 false)] rfl rfl rfl rfl (hin_cons rfl hin_nil) ?_
  refine loop_ind (fun i : Nat => mkE [0, 1, 7, 8] [.dat (.ros (peersD ps) ps.length none), .func 83 [.ptr 0 0], .dat (.int .i64 (ps.length : Nat)), .dat (.int .i64 (i : Nat))]) (fun _ => [some (.cells [.dat (.str name)] 9 false)]) (fun i => i ≤ ps.length ∧ idxFrom name (ps.drop i) i = idxFrom name ps 0) (fun i => ps.length - i) ?_ 0 ⟨Nat.zero_le _, rfl⟩
  rintro i ⟨hi, hx⟩ ih
  refine loopA_round ok (dr (plOf []) _) ?_
  by_cases hlt : i < ps.length
  · have hpi : ps[i]? = some ps[i] := by simp [hlt]
    have hd : ps.drop i = ps[i] :: ps.drop (i + 1) := List.drop_eq_getElem_cons hlt
    rw [hd] at hx
    simp only [idxFrom] at hx
    have hw : IntKind.i64.wrap ((i : Int) + 1) = ((i + 1 : Nat) : Int) := by rw [wrap_i64 _ (by omega) (by omega)]; omega
    refine condA_true (by simpa using hlt) ?_
    refine req ⟨by simp, by simpa using hlt⟩ ?_
    refine optA (.agg (flatP ps[i])) ?_ ?_
    · exact cutD_flat (z := 3) (fun _ => rfl) rfl rfl hpi
    refine call_at [0] (join1_ok L ps[i].1 ps[i].2.1 ps[i].2.2 name (hs _ (by simp)) hn _ ?_) rfl rfl rfl rfl
    by_cases hsm : sameM ps[i].2.1 name = true
    · rw [if_pos hsm] at hx
      refine condA_true hsm ?_
      exact leaf [0] _ [some (.cells [.dat (.str name)] 9 false)] rfl rfl rfl rfl rfl (hx ▸ hk)
    · have go := ih (i + 1) ⟨hlt, by rw [← hx, if_neg hsm]⟩ (by omega)
      refine condA_false (by simpa using hsm) ?_
      exact loop_in [0, 1, 7, 8] [0] [.dat (.ros (peersD ps) ps.length none), .func 83 [.ptr 0 0], .dat (.int .i64 (ps.length : Nat)), .dat (.int .i64 ((i + 1 : Nat) : Int))] [some (.cells [.dat (.str name)] 9 false)] (by rw [← hw]; rfl) rfl rfl rfl (hin_cons rfl hin_nil) go
  · obtain rfl : i = ps.length := by omega
    rw [List.drop_length] at hx
    refine condA_false (by simp) ?_
    exact leaf [0] _ [some (.cells [.dat (.str name)] 9 false)] rfl rfl rfl rfl rfl (hx ▸ hk)
theorem contains_ok (L : Laid w0) (ps : List (Int × PeerV)) (hl : ps.length ≤ 1000000) (hs : ∀ p ∈ ps, p.2.1.size ≤ 35184372088832) (name : ByteArray) (hn : name.size ≤ 35184372088832) (K : AV → Heap → Prop) (hk : K (.dat (.bool (ps.any fun p => sameM p.2.1 name))) [some (.cells [.dat (.str name)] 9 false)]) :
    CallA (cx w0) 82 [.dat (peersV ps), .func 83 [.ptr 0 0]] [some (.cells [.dat (.str name)] 9 false)] K := by
  refine CallA.ret ?_
  refine CallA.enter ok (dr (plOf [])) Tryz.func82 Tryz.call82 ?_
  refine call_at [0] (index_ok L ps hl hs name hn _ ?_) rfl rfl rfl rfl
  refine leaf [0] _ [some (.cells [.dat (.str name)] 9 false)] ?_ rfl rfl rfl rfl hk
  show AV.dat (.bool _) = AV.dat (.bool (decide (idxFrom name ps 0 ≥ 0)))
  congr 2
  rw [Bool.eq_iff_iff, decide_eq_true_eq]
  exact (idxFrom_iff name ps 0).symm
theorem new_ok (K : AV → Heap → Prop) (hk : K (.ptr 0 0) (Tb.h ⟨0, []⟩)) : CallA (cx w0) 32 [] [] K := by
  refine CallA.ret ?_
  refine CallA.enter ok (dr (plOf [])) Tryz.func32 Tryz.call32 ?_
  exact leaf [1, 0] _ (Tb.h ⟨0, []⟩) rfl rfl rfl rfl rfl hk

set_option maxHeartbeats 1000000 in
theorem join_ok (L : Laid w0) (t : Tb) (ht : TbOK t) (room name : ByteArray) (K : AV → Heap → Prop) (hk : K (.dat (.tup [.int .i64 (joinM t room name).1.1, .int .i64 (joinM t room name).1.2])) (joinM t room name).2.h) :
    CallA (cx w0) 34 [.ptr 0 0, .dat (.str room), .dat (.str name)] t.h K := by
  refine CallA.ret ?_
  refine CallA.enter ok (dr (plOf pl34)) Tryz.func34 Tryz.call34 ?_
  have fin : ∀ a b t', joinM t room name = ((a, b), t') → K (.dat (.tup [.int .i64 a, .int .i64 b])) t'.h := fun a b t' h => by rw [h] at hk; exact hk
  refine call_at [] (check_ok L room _ ?_) rfl rfl rfl rfl
  by_cases c1 : checkM room = 0
  · repeat (first | (refine condA_true ?_ ?_; focus (first | rfl | (simp; done) | (simp; omega) | (simp [c1]; done) | (simp [c1]; omega))) | (refine condA_false ?_ ?_; focus (first | rfl | (simp; done) | (simp; omega) | (simp [c1]; done) | (simp [c1]; omega))))
    refine call_at [] (check_ok L name _ ?_) rfl rfl rfl rfl
    by_cases c2 : checkM name = 0
    · repeat (first | (refine condA_true ?_ ?_; focus (first | rfl | (simp; done) | (simp; omega) | (simp [c1]; done) | (simp [c2]; done) | (simp [c1]; omega) | (simp [c2]; omega) | (simp [c1, c2]; done))) | (refine condA_false ?_ ?_; focus (first | rfl | (simp; done) | (simp; omega) | (simp [c1]; done) | (simp [c2]; done) | (simp [c1]; omega) | (simp [c2]; omega) | (simp [c1, c2]; done))))
      have hr := checkM_size c1
      have hn := checkM_size c2
      refine call_at [0, 1] (in_ok L t ht room (by omega) _ ?_) rfl rfl rfl rfl
      have hin : ∀ p ∈ inM t room, p.2.1.size ≤ 64 := fun p hp => by
        simp only [inM, List.mem_filterMap, inF] at hp
        obtain ⟨n, _, h⟩ := hp
        split at h <;> try cases h
        rename_i q hq
        split at h <;> cases h
        exact (ht.sz _ (lk_mem hq)).1
      have hil : (inM t room).length ≤ 200000 := by
        have h1 := List.length_filterMap_le (inF t room) t.keys
        have h2 := t.keys_length
        have h3 := ht.len
        unfold inM; omega
      have hj : joinM t room name = if (inM t room).any (fun p => sameM p.2.1 name) = true then ((0, 10), t)
          else if 16 ≤ (inM t room).length ∨ (inM t room).length = 0 ∧ 8 ≤ (roomsM t).length ∨ 65535 < t.next then ((0, 11), t)
          else ((t.next, 0), ⟨t.next + 1, ins t.peers t.next (name, room)⟩) := by
        unfold joinM; rw [if_neg (by simp [c1, c2])]
      clear hk
      generalize inM t room = I at hj hin hil ⊢
      refine call_at [2] (contains_ok L I (by omega) (fun p hp => by have := hin p hp; omega) name (by omega) _ ?_) rfl rfl rfl rfl
      have hw : IntKind.i64.wrap (t.next + 1) = t.next + 1 := wrap_i64 _ (by have := ht.next; omega) (by have := ht.next; omega)
      by_cases ha : (I.any fun p => sameM p.2.1 name) = true
      · refine condA_true ha ?_
        exact leaf [0, 1] _ t.h rfl rfl rfl rfl rfl (fin 0 10 t (by rw [hj, if_pos ha]))
      refine condA_false (by simpa using ha) ?_
      by_cases hI : I = []
      · subst hI
        refine condA_false rfl ?_
        repeat (first | (refine condA_true ?_ ?_; focus (first | rfl | (simp; done) | (simp; omega))) | (refine condA_false ?_ ?_; focus (first | rfl | (simp; done) | (simp; omega))))
        refine call_at [0, 1] (rooms_ok L t ht _ ?_) rfl rfl rfl rfl
        rcases valStr_len (roomsM t) with ⟨hR, hv⟩ | ⟨hR, hv⟩
        · rw [hv]
          repeat (first | (refine condA_true ?_ ?_; focus (first | rfl | (simp; done) | (simp; omega))) | (refine condA_false ?_ ?_; focus (first | rfl | (simp; done) | (simp; omega))))
          by_cases c6 : 65535 < t.next
          · repeat (first | (refine condA_true ?_ ?_; focus (first | rfl | (simp; done) | (simp; omega) | (simp [c6]; done) | (simp [c6]; omega))) | (refine condA_false ?_ ?_; focus (first | rfl | (simp; done) | (simp; omega) | (simp [c6]; done) | (simp [c6]; omega))))
            exact leaf [0, 1] _ t.h rfl rfl rfl rfl rfl (fin 0 11 t (by rw [hj, if_neg ha, if_pos (Or.inr (Or.inr c6))]))
          · repeat (first | (refine condA_true ?_ ?_; focus (first | rfl | (simp; done) | (simp; omega) | (simp [c6]; done) | (simp [c6]; omega))) | (refine condA_false ?_ ?_; focus (first | rfl | (simp; done) | (simp; omega) | (simp [c6]; done) | (simp [c6]; omega))))
            refine req (by decide +kernel) ?_
            refine req (by decide +kernel) ?_
            refine req (isSome_enc EP _ _) ?_
            refine leaf_in [0, 1] (.dat (.tup [.int .i64 t.next, .int .i64 0])) (Tb.h ⟨t.next + 1, ins t.peers t.next (name, room)⟩) rfl rfl rfl rfl (hin_cons (congrArg (fun x => some (AB.cells [.map 1, .dat (.int .i64 x)] 107 false)) hw) (hin_cons (ren_mapD (ins_enc EP t.peers t.next (name, room))) hin_nil)) ?_
            exact fin t.next 0 _ (by rw [hj, if_neg ha, if_neg (by rintro (h | h | h); simp at h; rw [hR] at h; simp at h; exact c6 h)])
        · rw [hv]
          by_cases c5 : 8 ≤ (roomsM t).length
          · repeat (first | (refine condA_true ?_ ?_; focus (first | rfl | (simp; done) | (simp; omega) | (simp [c5]; done) | (simp [c5]; omega))) | (refine condA_false ?_ ?_; focus (first | rfl | (simp; done) | (simp; omega) | (simp [c5]; done) | (simp [c5]; omega))))
            exact leaf [0, 1] _ t.h rfl rfl rfl rfl rfl (fin 0 11 t (by rw [hj, if_neg ha, if_pos (Or.inr (Or.inl ⟨rfl, c5⟩))]))
          · repeat (first | (refine condA_true ?_ ?_; focus (first | rfl | (simp; done) | (simp; omega) | (simp [c5]; done) | (simp [c5]; omega))) | (refine condA_false ?_ ?_; focus (first | rfl | (simp; done) | (simp; omega) | (simp [c5]; done) | (simp [c5]; omega))))
            by_cases c6 : 65535 < t.next
            · repeat (first | (refine condA_true ?_ ?_; focus (first | rfl | (simp; done) | (simp; omega) | (simp [c6]; done) | (simp [c6]; omega))) | (refine condA_false ?_ ?_; focus (first | rfl | (simp; done) | (simp; omega) | (simp [c6]; done) | (simp [c6]; omega))))
              exact leaf [0, 1] _ t.h rfl rfl rfl rfl rfl (fin 0 11 t (by rw [hj, if_neg ha, if_pos (Or.inr (Or.inr c6))]))
            · repeat (first | (refine condA_true ?_ ?_; focus (first | rfl | (simp; done) | (simp; omega) | (simp [c6]; done) | (simp [c6]; omega))) | (refine condA_false ?_ ?_; focus (first | rfl | (simp; done) | (simp; omega) | (simp [c6]; done) | (simp [c6]; omega))))
              refine req (by decide +kernel) ?_
              refine req (by decide +kernel) ?_
              refine req (isSome_enc EP _ _) ?_
              refine leaf_in [0, 1] (.dat (.tup [.int .i64 t.next, .int .i64 0])) (Tb.h ⟨t.next + 1, ins t.peers t.next (name, room)⟩) rfl rfl rfl rfl (hin_cons (congrArg (fun x => some (AB.cells [.map 1, .dat (.int .i64 x)] 107 false)) hw) (hin_cons (ren_mapD (ins_enc EP t.peers t.next (name, room))) hin_nil)) ?_
              exact fin t.next 0 _ (by rw [hj, if_neg ha, if_neg (by rintro (h | h | h); simp at h; exact c5 h.2; exact c6 h)])
      · have hIl : I.length ≠ 0 := fun h => hI (List.eq_nil_of_length_eq_zero h)
        rw [peersV_cons I hI]
        by_cases c4 : 16 ≤ I.length
        · repeat (first | (refine condA_true ?_ ?_; focus (first | rfl | (simp; done) | (simp; omega) | (simp [c4]; done) | (simp [c4]; omega))) | (refine condA_false ?_ ?_; focus (first | rfl | (simp; done) | (simp; omega) | (simp [c4]; done) | (simp [c4]; omega))))
          exact leaf [0, 1] _ t.h rfl rfl rfl rfl rfl (fin 0 11 t (by rw [hj, if_neg ha, if_pos (Or.inl c4)]))
        · refine condA_false (by simp; omega) ?_
          refine condA_false (by simp; omega) ?_
          repeat (first | (refine condA_true ?_ ?_; focus (first | rfl | (simp; done) | (simp; omega) | (simp [hIl]; done) | (simp [hIl]; omega))) | (refine condA_false ?_ ?_; focus (first | rfl | (simp; done) | (simp; omega) | (simp [hIl]; done) | (simp [hIl]; omega))))
          by_cases c6 : 65535 < t.next
          · repeat (first | (refine condA_true ?_ ?_; focus (first | rfl | (simp; done) | (simp; omega) | (simp [c6]; done) | (simp [c6]; omega))) | (refine condA_false ?_ ?_; focus (first | rfl | (simp; done) | (simp; omega) | (simp [c6]; done) | (simp [c6]; omega))))
            exact leaf [0, 1] _ t.h rfl rfl rfl rfl rfl (fin 0 11 t (by rw [hj, if_neg ha, if_pos (Or.inr (Or.inr c6))]))
          · repeat (first | (refine condA_true ?_ ?_; focus (first | rfl | (simp; done) | (simp; omega) | (simp [c6]; done) | (simp [c6]; omega))) | (refine condA_false ?_ ?_; focus (first | rfl | (simp; done) | (simp; omega) | (simp [c6]; done) | (simp [c6]; omega))))
            refine req (by decide +kernel) ?_
            refine req (by decide +kernel) ?_
            refine req (isSome_enc EP _ _) ?_
            refine leaf_in [0, 1] (.dat (.tup [.int .i64 t.next, .int .i64 0])) (Tb.h ⟨t.next + 1, ins t.peers t.next (name, room)⟩) rfl rfl rfl rfl (hin_cons (congrArg (fun x => some (AB.cells [.map 1, .dat (.int .i64 x)] 107 false)) hw) (hin_cons (ren_mapD (ins_enc EP t.peers t.next (name, room))) hin_nil)) ?_
            exact fin t.next 0 _ (by rw [hj, if_neg ha, if_neg (by rintro (h | h | h); exact c4 h; exact hIl h.1; exact c6 h)])
    · repeat (first | (refine condA_true ?_ ?_; focus (first | rfl | (simp; done) | (simp; omega) | (simp [c1]; done) | (simp [c2]; done) | (simp [c1]; omega) | (simp [c2]; omega) | (simp [c1, c2]; done))) | (refine condA_false ?_ ?_; focus (first | rfl | (simp; done) | (simp; omega) | (simp [c1]; done) | (simp [c2]; done) | (simp [c1]; omega) | (simp [c2]; omega) | (simp [c1, c2]; done))))
      exact leaf [0, 1] _ t.h rfl rfl rfl rfl rfl (fin 0 6 t (by simp [joinM, c2]))
  · repeat (first | (refine condA_true ?_ ?_; focus (first | rfl | (simp; done) | (simp; omega) | (simp [c1]; done) | (simp [c1]; omega))) | (refine condA_false ?_ ?_; focus (first | rfl | (simp; done) | (simp; omega) | (simp [c1]; done) | (simp [c1]; omega))))
    exact leaf [0, 1] _ t.h rfl rfl rfl rfl rfl (fin 0 6 t (by simp [joinM, c1]))
end Go.Abs.X

namespace Go.Abs.X
open Go.Abs Go Go.Proofs
variable {w0 : World}

def hasL (k : Int) : List UInt8 :=
  if k = 1 then [114] else if k = 2 then [112] else if k = 3 then [112, 116, 115] else if k = 4 then [112, 116]
  else if k = 5 then [112, 111, 116, 108] else if k = 6 then [112, 111, 116] else if k = 7 then [112, 116, 98] else if k = 8 then [112, 111, 116, 98] else []
def hasM (k : Int) : ByteArray := ⟨⟨hasL k⟩⟩
theorem has_ok (k : Int) (K : AV → Heap → Prop) (hk : K (.dat (.str (hasM k))) []) : CallA (cx w0) 76 [.dat (.int .i64 k)] [] K := by
  refine CallA.ret ?_
  refine CallA.enter ok (dr (plOf [])) Tryz.func76 Tryz.call76 ?_
  unfold hasM hasL at hk
  by_cases h1 : k = 1
  · subst h1
    repeat (first | (refine condA_true ?_ ?_; focus (first | rfl | (simp; done) | (simp; omega))) | (refine condA_false ?_ ?_; focus (first | rfl | (simp; done) | (simp; omega))))
    exact leaf [] _ [] rfl rfl rfl rfl rfl hk
  by_cases h2 : k = 2
  · subst h2
    repeat (first | (refine condA_true ?_ ?_; focus (first | rfl | (simp; done) | (simp; omega))) | (refine condA_false ?_ ?_; focus (first | rfl | (simp; done) | (simp; omega))))
    exact leaf [] _ [] rfl rfl rfl rfl rfl hk
  by_cases h3 : k = 3
  · subst h3
    repeat (first | (refine condA_true ?_ ?_; focus (first | rfl | (simp; done) | (simp; omega))) | (refine condA_false ?_ ?_; focus (first | rfl | (simp; done) | (simp; omega))))
    exact leaf [] _ [] rfl rfl rfl rfl rfl hk
  by_cases h4 : k = 4
  · subst h4
    repeat (first | (refine condA_true ?_ ?_; focus (first | rfl | (simp; done) | (simp; omega))) | (refine condA_false ?_ ?_; focus (first | rfl | (simp; done) | (simp; omega))))
    exact leaf [] _ [] rfl rfl rfl rfl rfl hk
  by_cases h5 : k = 5
  · subst h5
    repeat (first | (refine condA_true ?_ ?_; focus (first | rfl | (simp; done) | (simp; omega))) | (refine condA_false ?_ ?_; focus (first | rfl | (simp; done) | (simp; omega))))
    exact leaf [] _ [] rfl rfl rfl rfl rfl hk
  by_cases h6 : k = 6
  · subst h6
    repeat (first | (refine condA_true ?_ ?_; focus (first | rfl | (simp; done) | (simp; omega))) | (refine condA_false ?_ ?_; focus (first | rfl | (simp; done) | (simp; omega))))
    exact leaf [] _ [] rfl rfl rfl rfl rfl hk
  by_cases h7 : k = 7
  · subst h7
    repeat (first | (refine condA_true ?_ ?_; focus (first | rfl | (simp; done) | (simp; omega))) | (refine condA_false ?_ ?_; focus (first | rfl | (simp; done) | (simp; omega))))
    exact leaf [] _ [] rfl rfl rfl rfl rfl hk
  by_cases h8 : k = 8
  · subst h8
    repeat (first | (refine condA_true ?_ ?_; focus (first | rfl | (simp; done) | (simp; omega))) | (refine condA_false ?_ ?_; focus (first | rfl | (simp; done) | (simp; omega))))
    exact leaf [] _ [] rfl rfl rfl rfl rfl hk
  rw [if_neg h1, if_neg h2, if_neg h3, if_neg h4, if_neg h5, if_neg h6, if_neg h7, if_neg h8] at hk
  repeat (first | (refine condA_true ?_ ?_; focus (first | rfl | (simp; done) | (simp; omega) | (simp [h1]; done) | (simp [h2]; done) | (simp [h3]; done) | (simp [h4]; done) | (simp [h5]; done) | (simp [h6]; done) | (simp [h7]; done) | (simp [h8]; done) | (simp [h1]; omega) | (simp [h2]; omega) | (simp [h3]; omega) | (simp [h4]; omega) | (simp [h5]; omega) | (simp [h6]; omega) | (simp [h7]; omega) | (simp [h8]; omega) | (simp [h1, h2]; done) | (simp [h1, h3]; done) | (simp [h1, h4]; done) | (simp [h1, h5]; done) | (simp [h1, h6]; done) | (simp [h1, h7]; done) | (simp [h1, h8]; done) | (simp [h2, h3]; done) | (simp [h2, h4]; done) | (simp [h2, h5]; done) | (simp [h2, h6]; done) | (simp [h2, h7]; done) | (simp [h2, h8]; done) | (simp [h3, h4]; done) | (simp [h3, h5]; done) | (simp [h3, h6]; done) | (simp [h3, h7]; done) | (simp [h3, h8]; done) | (simp [h4, h5]; done) | (simp [h4, h6]; done) | (simp [h4, h7]; done) | (simp [h4, h8]; done) | (simp [h5, h6]; done) | (simp [h5, h7]; done) | (simp [h5, h8]; done) | (simp [h6, h7]; done) | (simp [h6, h8]; done) | (simp [h7, h8]; done))) | (refine condA_false ?_ ?_; focus (first | rfl | (simp; done) | (simp; omega) | (simp [h1]; done) | (simp [h2]; done) | (simp [h3]; done) | (simp [h4]; done) | (simp [h5]; done) | (simp [h6]; done) | (simp [h7]; done) | (simp [h8]; done) | (simp [h1]; omega) | (simp [h2]; omega) | (simp [h3]; omega) | (simp [h4]; omega) | (simp [h5]; omega) | (simp [h6]; omega) | (simp [h7]; omega) | (simp [h8]; omega) | (simp [h1, h2]; done) | (simp [h1, h3]; done) | (simp [h1, h4]; done) | (simp [h1, h5]; done) | (simp [h1, h6]; done) | (simp [h1, h7]; done) | (simp [h1, h8]; done) | (simp [h2, h3]; done) | (simp [h2, h4]; done) | (simp [h2, h5]; done) | (simp [h2, h6]; done) | (simp [h2, h7]; done) | (simp [h2, h8]; done) | (simp [h3, h4]; done) | (simp [h3, h5]; done) | (simp [h3, h6]; done) | (simp [h3, h7]; done) | (simp [h3, h8]; done) | (simp [h4, h5]; done) | (simp [h4, h6]; done) | (simp [h4, h7]; done) | (simp [h4, h8]; done) | (simp [h5, h6]; done) | (simp [h5, h7]; done) | (simp [h5, h8]; done) | (simp [h6, h7]; done) | (simp [h6, h8]; done) | (simp [h7, h8]; done))))
  exact leaf [] _ [] rfl rfl rfl rfl rfl hk
theorem peer_ok' (n : Int) (K : AV → Heap → Prop) (hk : K (.dat (.bool (decide (0 ≤ n ∧ n ≤ 65535)))) []) : CallA (cx w0) 78 [.dat (.int .i64 n)] [] K := by
  refine CallA.ret ?_
  refine CallA.enter ok (dr (plOf [])) Tryz.func78 Tryz.call78 ?_
  by_cases h : 0 ≤ n
  · repeat (first | (refine condA_true ?_ ?_; focus (first | rfl | (simp; done) | (simp; omega) | (simp [h]; done) | (simp [h]; omega))) | (refine condA_false ?_ ?_; focus (first | rfl | (simp; done) | (simp; omega) | (simp [h]; done) | (simp [h]; omega))))
    refine leaf [] _ [] ?_ rfl rfl rfl rfl hk
    simp [h]; rfl
  · repeat (first | (refine condA_true ?_ ?_; focus (first | rfl | (simp; done) | (simp; omega) | (simp [h]; done) | (simp [h]; omega))) | (refine condA_false ?_ ?_; focus (first | rfl | (simp; done) | (simp; omega) | (simp [h]; done) | (simp [h]; omega))))
    refine leaf [] _ [] ?_ rfl rfl rfl rfl hk
    simp [h]; rfl

def anyFrom (s : ByteArray) : Nat → Nat → Int → Bool
  | 0, _, _ => false
  | fuel + 1, pos, c => if pos < s.size then (if (Utf8.decode s pos).1 = c then true else anyFrom s fuel (pos + (Utf8.decode s pos).2) c) else false
def partM (k c : Int) : Bool := anyFrom (hasM k) (hasM k).size 0 c
theorem anyFrom_end (s : ByteArray) (fuel pos : Nat) (c : Int) (h : ¬ pos < s.size) : anyFrom s fuel pos c = false := by
  cases fuel with
  | zero => rfl
  | succ f => simp [anyFrom, h]
theorem hasM_size (k : Int) : (hasM k).size ≤ 4 := by
  unfold hasM hasL
  repeat (split; decide)
  decide
theorem part_ok (k c : Int) (K : AV → Heap → Prop) (hk : K (.dat (.bool (partM k c))) []) : CallA (cx w0) 118 [.dat (.int .i64 k), .dat (.int .i32 c)] [] K := by
  refine CallA.ret ?_
  refine CallA.enter ok (dr (plOf [])) Tryz.func118 Tryz.call118 ?_
  refine call_at [] (has_ok k _ ?_) rfl rfl rfl rfl
  have hsz := hasM_size k
  unfold partM at hk
  generalize hasM k = s at hk hsz ⊢
  refine loop_in [1, 9] [0] [.dat (.int .i32 c), .ptr 0 0] [some (.siter s 0)] rfl rfl rfl rfl (hin_cons rfl hin_nil) ?_
  refine loop_ind (fun _ : Nat × Nat => mkE [1, 9] [.dat (.int .i32 c), .ptr 0 0]) (fun x => [some (.siter s x.2)]) (fun x => anyFrom s x.1 x.2 c = anyFrom s s.size 0 c ∧ s.size ≤ x.2 + x.1) (fun x => s.size - x.2) ?_ (s.size, 0) ⟨rfl, by show s.size ≤ 0 + s.size; omega⟩
  rintro ⟨fuel, pos⟩ ⟨hr, hf⟩ ih
  replace hr : anyFrom s fuel pos c = anyFrom s s.size 0 c := hr
  replace hf : s.size ≤ pos + fuel := hf
  refine loopA_round ok (dr (plOf []) _) ?_
  by_cases hp : pos < s.size
  · refine condA_true (by simpa using hp) ?_
    refine condA_true rfl ?_
    have hwd := width_pos s pos hp
    obtain ⟨f, rfl⟩ : ∃ f, fuel = f + 1 := ⟨fuel - 1, by omega⟩
    simp only [anyFrom, hp, if_true] at hr
    by_cases e : (Utf8.decode s pos).1 = c
    · rw [if_pos e] at hr
      repeat (first | (refine condA_true ?_ ?_; focus (first | rfl | (simp; done) | (simp; omega) | (simp [e]; done) | (simp [e]; omega))) | (refine condA_false ?_ ?_; focus (first | rfl | (simp; done) | (simp; omega) | (simp [e]; done) | (simp [e]; omega))))
      exact leaf [] _ [] rfl rfl rfl rfl rfl (hr ▸ hk)
    · rw [if_neg e] at hr
      repeat (first | (refine condA_true ?_ ?_; focus (first | rfl | (simp; done) | (simp; omega) | (simp [e]; done) | (simp [e]; omega))) | (refine condA_false ?_ ?_; focus (first | rfl | (simp; done) | (simp; omega) | (simp [e]; done) | (simp [e]; omega))))
      exact loop_in [1, 9] [0] [.dat (.int .i32 c), .ptr 0 0] [some (.siter s (pos + (Utf8.decode s pos).2))] rfl rfl rfl rfl (hin_cons rfl hin_nil) (ih (f, pos + (Utf8.decode s pos).2) ⟨hr, by show s.size ≤ pos + (Utf8.decode s pos).2 + f; omega⟩ (by show s.size - (pos + (Utf8.decode s pos).2) < s.size - pos; omega))
  · refine condA_false (by simpa using hp) ?_
    refine condA_false rfl ?_
    rw [anyFrom_end s fuel pos c hp] at hr
    exact leaf [] _ [] rfl rfl rfl rfl rfl (hr ▸ hk)
theorem partM_test : (partM 1 114, partM 1 112, partM 3 115, partM 8 98, partM 8 108) = (true, false, true, true, false) := rfl
end Go.Abs.X

namespace Go.Abs.X
open Go.Abs Go Go.Proofs
variable {w0 : World}

def u32s (xs : List Int) : List DV := flatD (fun x => [u32 x]) xs
inductive Sl : List Int → DV → Prop
  | nil : Sl [] .nils
  | ros (xs : List Int) (cap : Option Nat) : Sl xs (.ros (u32s xs) xs.length cap)
structure Cmd where
  kind : Int
  room : ByteArray
  name : ByteArray
  peer : Int
  of : Int
  track : Int
  layer : Int
  on : Bool
  video : Bool
  ssrcs : List Int
  sdv : DV
def Cmd.dv (c : Cmd) : DV := .agg [.int .i64 c.kind, .str c.room, .str c.name, .int .i64 c.peer, .int .i64 c.of, .int .i64 c.track, .int .i64 c.layer, .bool c.on, .bool c.video, c.sdv]
structure Cmd.OK (c : Cmd) : Prop where
  room : c.room.size ≤ 70
  name : c.name.size ≤ 70
  sl : Sl c.ssrcs c.sdv
  len : c.ssrcs.length ≤ 5
def Cmd.bad (c : Cmd) : Prop :=
  (c.kind ≠ 1 ∧ (c.room ++ c.name).toList ≠ []) ∨ (c.kind = 1 ∧ c.peer ≠ 0) ∨ (¬ (c.kind = 5 ∨ c.kind = 6 ∨ c.kind = 8) ∧ c.of ≠ 0) ∨ (¬ 3 ≤ c.kind ∧ c.track ≠ 0) ∨ (c.kind ≠ 5 ∧ c.layer ≠ 0) ∨ (¬ 7 ≤ c.kind ∧ c.on = true) ∨ (c.kind ≠ 3 ∧ (c.video = true ∨ 0 < (c.ssrcs.length : Int)))
set_option maxHeartbeats 4000000 in
theorem empty_ok (c : Cmd) (hc : c.OK) (h1 : 1 ≤ c.kind) (h8 : c.kind ≤ 8) (K : AV → Heap → Prop) (hk0 : c.bad → K (.dat (.bool false)) []) (hk1 : ¬ c.bad → K (.dat (.bool true)) []) : CallA (cx w0) 77 [.dat c.dv] [] K := by
  obtain ⟨kind, room, name, peer, of, track, layer, on, video, ssrcs, sdv⟩ := c
  obtain ⟨hr, hn, hs, hl⟩ := hc
  unfold Cmd.bad at hk0 hk1
  unfold Cmd.dv
  dsimp only at *
  refine CallA.ret ?_
  refine CallA.enter ok (dr (plOf [])) Tryz.func77 Tryz.call77 ?_
  have hkd : kind = 1 ∨ kind = 2 ∨ kind = 3 ∨ kind = 4 ∨ kind = 5 ∨ kind = 6 ∨ kind = 7 ∨ kind = 8 := by omega
  have hrn : room.size + name.size ≤ maxLen := by unfold maxLen; omega
  cases hs
  all_goals
    rcases hkd with rfl | rfl | rfl | rfl | rfl | rfl | rfl | rfl
    all_goals
      repeat' (first
        | (refine call_at [] (part_ok _ _ _ ?_) rfl rfl rfl rfl)
        | (refine condA_true ?_ ?_; focus first | rfl | assumption)
        | (refine condA_false ?_ ?_; focus first | rfl | assumption)
        | (refine condA_by (fun h => ?_) (fun h => ?_))
        | (refine req hrn ?_)
        | (refine req (by decide +kernel) ?_)
        | (refine leaf [] (.dat (.bool true)) [] rfl rfl rfl rfl rfl (hk1 ?_))
        | (refine leaf [] (.dat (.bool false)) [] rfl rfl rfl rfl rfl (hk0 ?_)))
    all_goals (clear hk0 hk1 hrn hr hn; first | (simp_all; done) | (simp_all; omega))
end Go.Abs.X

namespace Go.Abs.X
open Go.Abs Go Go.Proofs
variable {w0 : World}

def sourcesM (l : List Int) (video : Bool) : Int := match l with
  | [] => 5
  | [_] => 0
  | [a, b] => if video = false then 5 else if b = a then 10 else 0
  | [a, b, c] => if video = false then 5 else if b = a ∨ c = a ∨ c = b then 10 else 0
  | _ => 5
set_option maxHeartbeats 4000000 in
theorem sources_ok (c : Cmd) (hc : c.OK) (K : AV → Heap → Prop) (hk : ∀ e, e = sourcesM c.ssrcs c.video → K (.dat (.int .i64 e)) []) : CallA (cx w0) 80 [.dat c.dv] [] K := by
  obtain ⟨kind, room, name, peer, of, track, layer, on, video, ssrcs, sdv⟩ := c
  obtain ⟨hr, hn, hs, hl⟩ := hc
  unfold Cmd.dv
  dsimp only at *
  refine CallA.ret ?_
  refine CallA.enter ok (dr (plOf [])) Tryz.func80 Tryz.call80 ?_
  cases hs with
  | nil =>
    repeat (first | (refine condA_true ?_ ?_; focus (first | rfl | (simp; done) | (simp; omega))) | (refine condA_false ?_ ?_; focus (first | rfl | (simp; done) | (simp; omega))))
    exact leaf [] (.dat (.int .i64 5)) [] rfl rfl rfl rfl rfl (hk _ rfl)
  | ros xs cap =>
    rcases ssrcs with _ | ⟨a, _ | ⟨b, _ | ⟨c, _ | ⟨d, l⟩⟩⟩⟩
    · repeat (first | (refine condA_true ?_ ?_; focus (first | rfl | (simp; done) | (simp; omega))) | (refine condA_false ?_ ?_; focus (first | rfl | (simp; done) | (simp; omega))))
      exact leaf [] (.dat (.int .i64 5)) [] rfl rfl rfl rfl rfl (hk _ rfl)
    all_goals
      repeat' (first
        | (refine condA_true ?_ ?_; focus first | rfl | assumption | (simp; omega))
        | (refine condA_false ?_ ?_; focus first | rfl | assumption | (simp; omega))
        | (refine loopA_round ok (dr (plOf []) _) ?_)
        | (refine condA_by (fun h => ?_) (fun h => ?_))
        | (refine optA _ rfl ?_)
        | (refine req ?_ ?_; focus first | exact of_decide_eq_true rfl | (simp; done) | (simp; omega))
        | (refine leaf [] (.dat (.int .i64 0)) [] rfl rfl rfl rfl rfl (hk _ ?_))
        | (refine leaf [] (.dat (.int .i64 5)) [] rfl rfl rfl rfl rfl (hk _ ?_))
        | (refine leaf [] (.dat (.int .i64 10)) [] rfl rfl rfl rfl rfl (hk _ ?_)))
    all_goals (clear hk; first | (simp_all [sourcesM]; done) | (simp_all [sourcesM]; omega))

def cutM (s : ByteArray) (n : Nat) : ByteArray := if n < s.size then s.extract 0 n else s
theorem cutM_size (s : ByteArray) (n : Nat) : (cutM s n).size ≤ n := by
  unfold cutM; split
  · simp; omega
  · omega
theorem cut_ok (s : ByteArray) (n : Nat) (K : AV → Heap → Prop) (hk : K (.dat (.str (cutM s n))) []) : CallA (cx w0) 40 [.dat (.str s), .dat (.int .i64 n)] [] K := by
  refine CallA.ret ?_
  refine CallA.enter ok (dr (plOf [])) Tryz.func40 Tryz.call40 ?_
  unfold cutM at hk
  by_cases h : n < s.size
  · rw [if_pos h] at hk
    refine condA_true (by simp; omega) ?_
    refine req ⟨by simp, by simp, by simp; omega⟩ ?_
    exact leaf [] _ [] rfl rfl rfl rfl rfl hk
  · rw [if_neg h] at hk
    refine condA_false (by simp; omega) ?_
    exact leaf [] _ [] rfl rfl rfl rfl rfl hk
def Cmd.few (c : Cmd) (d : DV) : Cmd := ⟨c.kind, cutM c.room 70, cutM c.name 70, c.peer, c.of, c.track, c.layer, c.on, c.video, c.ssrcs.take 5, d⟩
theorem Cmd.few_OK (c : Cmd) (d : DV) (h : Sl (c.ssrcs.take 5) d) : (c.few d).OK :=
  ⟨cutM_size _ _, cutM_size _ _, h, by show (c.ssrcs.take 5).length ≤ 5; simp; omega⟩
theorem u32s_eq (xs : List Int) : u32s xs = xs.map u32 := by
  induction xs with
  | nil => rfl
  | cons x r ih => simp [u32s, flatD] at ih ⊢; exact ih
theorem u32s_take (xs : List Int) (n : Nat) : ltake (ldrop (u32s xs) 0) n = u32s (xs.take n) := by rw [ltake_eq, ldrop_eq, u32s_eq, u32s_eq, List.drop_zero, List.map_take]
theorem few_ok (c : Cmd) (hs : Sl c.ssrcs c.sdv) (K : AV → Heap → Prop) (hk : ∀ d, Sl (c.ssrcs.take 5) d → K (.dat (c.few d).dv) []) : CallA (cx w0) 12 [.dat c.dv] [] K := by
  obtain ⟨kind, room, name, peer, of, track, layer, on, video, ssrcs, sdv⟩ := c
  unfold Cmd.dv
  dsimp only [Cmd.few] at *
  refine CallA.ret ?_
  refine CallA.enter ok (dr (plOf pl12)) Tryz.func12 Tryz.call12 ?_
  refine req ?_ ?_
  · decide +kernel
  refine call_at [] (cut_ok room 70 _ ?_) rfl rfl rfl rfl
  repeat refine eqA ?_
  refine call_at [] (cut_ok name 70 _ ?_) rfl rfl rfl rfl
  repeat refine eqA ?_
  cases hs with
  | nil =>
    refine condA_false rfl ?_
    exact leaf [] (.dat (Cmd.few ⟨kind, room, name, peer, of, track, layer, on, video, [], .nils⟩ .nils).dv) [] rfl rfl rfl rfl rfl (hk .nils Sl.nil)
  | ros xs cap =>
    by_cases h : 5 < ssrcs.length
    · refine condA_true (by simp; omega) ?_
      refine req ⟨by omega, by omega, by omega⟩ ?_
      have e : (ssrcs.take 5).length = 5 := by simp; omega
      have hs := Sl.ros (ssrcs.take 5) (cutCap cap 0)
      rw [← u32s_take, e] at hs
      exact leaf [] (.dat (Cmd.few ⟨kind, room, name, peer, of, track, layer, on, video, ssrcs, .ros (u32s ssrcs) ssrcs.length cap⟩ (.ros (ltake (ldrop (u32s ssrcs) 0) 5) 5 (cutCap cap 0))).dv) [] rfl rfl rfl rfl rfl (hk _ hs)
    · refine condA_false (by simp; omega) ?_
      have e : ssrcs.take 5 = ssrcs := List.take_of_length_le (by omega)
      exact leaf [] (.dat (Cmd.few ⟨kind, room, name, peer, of, track, layer, on, video, ssrcs, .ros (u32s ssrcs) ssrcs.length cap⟩ (.ros (u32s ssrcs) ssrcs.length cap)).dv) [] rfl rfl rfl rfl rfl (hk _ (e.symm ▸ Sl.ros ssrcs cap))
end Go.Abs.X

namespace Go.Abs.X
open Go.Abs Go Go.Proofs
variable {w0 : World}

instance (c : Cmd) : Decidable c.bad := by unfold Cmd.bad; infer_instance
def Cmd.out (c : Cmd) : Prop := ¬ (0 ≤ c.peer ∧ c.peer ≤ 65535) ∨ ¬ (0 ≤ c.of ∧ c.of ≤ 65535) ∨ c.track < 0 ∨ 4 ≤ c.track ∨ c.layer < 0 ∨ 3 ≤ c.layer
instance (c : Cmd) : Decidable c.out := by unfold Cmd.out; infer_instance
def Cmd.check (c : Cmd) : Int :=
  if ¬ (1 ≤ c.kind ∧ c.kind ≤ 8) then 3 else if c.bad then 2 else if c.out then 5
  else if c.kind = 1 then (if checkM c.room ≠ 0 ∨ checkM c.name ≠ 0 then 6 else 0)
  else if c.kind = 3 then sourcesM c.ssrcs c.video else 0
theorem hasM_no {k : Int} (h : ¬ (1 ≤ k ∧ k ≤ 8)) : hasM k = ⟨#[]⟩ := by
  unfold hasM hasL
  rw [if_neg (by omega), if_neg (by omega), if_neg (by omega), if_neg (by omega), if_neg (by omega), if_neg (by omega), if_neg (by omega), if_neg (by omega)]
theorem hasM_yes {k : Int} (h : 1 ≤ k ∧ k ≤ 8) : ((hasM k).toList == (⟨#[]⟩ : ByteArray).toList) = false := by
  have : k = 1 ∨ k = 2 ∨ k = 3 ∨ k = 4 ∨ k = 5 ∨ k = 6 ∨ k = 7 ∨ k = 8 := by omega
  rcases this with rfl | rfl | rfl | rfl | rfl | rfl | rfl | rfl <;> rw [Lib.toList_data, Lib.toList_data] <;> rfl
set_option maxHeartbeats 4000000 in
theorem ccheck_ok (L : Laid w0) (c : Cmd) (hc : c.OK) (K : AV → Heap → Prop) (hk : K (.dat (.int .i64 c.check)) []) : CallA (cx w0) 33 [.dat c.dv] [] K := by
  have fin : ∀ e, c.check = e → K (.dat (.int .i64 e)) [] := fun e h => h ▸ hk
  clear hk
  have hr := hc.room
  have hn := hc.name
  cases hcc : c with
  | mk kind room name peer of track layer on video ssrcs sdv =>
  subst hcc
  unfold Cmd.check at fin
  refine CallA.ret ?_
  refine CallA.enter ok (dr (plOf [])) Tryz.func33 Tryz.call33 ?_
  refine call_at [] (has_ok kind _ ?_) rfl rfl rfl rfl
  by_cases c1 : 1 ≤ kind ∧ kind ≤ 8
  · refine condA_false (hasM_yes c1) ?_
    have fin := fun e (h : _ = e) => fin e (by rw [if_neg (by simpa using c1)]; exact h)
    refine call_can ?_
    refine call_at [] (empty_ok _ hc c1.1 c1.2 _ (fun c2 => ?_) (fun c2 => ?_)) rfl rfl rfl rfl
    · repeat (first | (refine condA_true ?_ ?_; focus (first | rfl | (simp; done) | (simp; omega))) | (refine condA_false ?_ ?_; focus (first | rfl | (simp; done) | (simp; omega))))
      exact leaf [] (.dat (.int .i64 2)) [] rfl rfl rfl rfl rfl (fin 2 (if_pos c2))
    have fin := fun e (h : _ = e) => fin e (by rw [if_neg c2]; exact h)
    repeat (first | (refine condA_true ?_ ?_; focus (first | rfl | (simp; done) | (simp; omega))) | (refine condA_false ?_ ?_; focus (first | rfl | (simp; done) | (simp; omega))))
    refine call_at [] (peer_ok' peer _ ?_) rfl rfl rfl rfl
    by_cases o1 : 0 ≤ peer ∧ peer ≤ 65535
    · repeat (first | (refine condA_true ?_ ?_; focus (first | rfl | (simp; done) | (simp; omega) | (simp [o1]; done) | (simp [o1]; omega))) | (refine condA_false ?_ ?_; focus (first | rfl | (simp; done) | (simp; omega) | (simp [o1]; done) | (simp [o1]; omega))))
      refine call_at [] (peer_ok' of _ ?_) rfl rfl rfl rfl
      by_cases o2 : 0 ≤ of ∧ of ≤ 65535
      · by_cases o3 : track < 0
        · repeat (first | (refine condA_true ?_ ?_; focus (first | rfl | (simp; done) | (simp; omega) | (simp [o1]; done) | (simp [o2]; done) | (simp [o3]; done) | (simp [o1]; omega) | (simp [o2]; omega) | (simp [o3]; omega) | (simp [o1, o2]; done) | (simp [o1, o3]; done) | (simp [o2, o3]; done))) | (refine condA_false ?_ ?_; focus (first | rfl | (simp; done) | (simp; omega) | (simp [o1]; done) | (simp [o2]; done) | (simp [o3]; done) | (simp [o1]; omega) | (simp [o2]; omega) | (simp [o3]; omega) | (simp [o1, o2]; done) | (simp [o1, o3]; done) | (simp [o2, o3]; done))))
          exact leaf [] (.dat (.int .i64 5)) [] rfl rfl rfl rfl rfl (fin 5 (if_pos (by simp [Cmd.out, o3])))
        by_cases o4 : 4 ≤ track
        · repeat (first | (refine condA_true ?_ ?_; focus (first | rfl | (simp; done) | (simp; omega) | (simp [o1]; done) | (simp [o2]; done) | (simp [o3]; done) | (simp [o4]; done) | (simp [o1]; omega) | (simp [o2]; omega) | (simp [o3]; omega) | (simp [o4]; omega) | (simp [o1, o2]; done) | (simp [o1, o3]; done) | (simp [o1, o4]; done) | (simp [o2, o3]; done) | (simp [o2, o4]; done) | (simp [o3, o4]; done))) | (refine condA_false ?_ ?_; focus (first | rfl | (simp; done) | (simp; omega) | (simp [o1]; done) | (simp [o2]; done) | (simp [o3]; done) | (simp [o4]; done) | (simp [o1]; omega) | (simp [o2]; omega) | (simp [o3]; omega) | (simp [o4]; omega) | (simp [o1, o2]; done) | (simp [o1, o3]; done) | (simp [o1, o4]; done) | (simp [o2, o3]; done) | (simp [o2, o4]; done) | (simp [o3, o4]; done))))
          exact leaf [] (.dat (.int .i64 5)) [] rfl rfl rfl rfl rfl (fin 5 (if_pos (by simp [Cmd.out, o4])))
        by_cases o5 : layer < 0
        · repeat (first | (refine condA_true ?_ ?_; focus (first | rfl | (simp; done) | (simp; omega) | (simp [o1]; done) | (simp [o2]; done) | (simp [o3]; done) | (simp [o4]; done) | (simp [o5]; done) | (simp [o1]; omega) | (simp [o2]; omega) | (simp [o3]; omega) | (simp [o4]; omega) | (simp [o5]; omega) | (simp [o1, o2]; done) | (simp [o1, o3]; done) | (simp [o1, o4]; done) | (simp [o1, o5]; done) | (simp [o2, o3]; done) | (simp [o2, o4]; done) | (simp [o2, o5]; done) | (simp [o3, o4]; done) | (simp [o3, o5]; done) | (simp [o4, o5]; done))) | (refine condA_false ?_ ?_; focus (first | rfl | (simp; done) | (simp; omega) | (simp [o1]; done) | (simp [o2]; done) | (simp [o3]; done) | (simp [o4]; done) | (simp [o5]; done) | (simp [o1]; omega) | (simp [o2]; omega) | (simp [o3]; omega) | (simp [o4]; omega) | (simp [o5]; omega) | (simp [o1, o2]; done) | (simp [o1, o3]; done) | (simp [o1, o4]; done) | (simp [o1, o5]; done) | (simp [o2, o3]; done) | (simp [o2, o4]; done) | (simp [o2, o5]; done) | (simp [o3, o4]; done) | (simp [o3, o5]; done) | (simp [o4, o5]; done))))
          exact leaf [] (.dat (.int .i64 5)) [] rfl rfl rfl rfl rfl (fin 5 (if_pos (by simp [Cmd.out, o5])))
        by_cases o6 : 3 ≤ layer
        · repeat (first | (refine condA_true ?_ ?_; focus (first | rfl | (simp; done) | (simp; omega) | (simp [o1]; done) | (simp [o2]; done) | (simp [o3]; done) | (simp [o4]; done) | (simp [o5]; done) | (simp [o6]; done) | (simp [o1]; omega) | (simp [o2]; omega) | (simp [o3]; omega) | (simp [o4]; omega) | (simp [o5]; omega) | (simp [o6]; omega) | (simp [o1, o2]; done) | (simp [o1, o3]; done) | (simp [o1, o4]; done) | (simp [o1, o5]; done) | (simp [o1, o6]; done) | (simp [o2, o3]; done) | (simp [o2, o4]; done) | (simp [o2, o5]; done) | (simp [o2, o6]; done) | (simp [o3, o4]; done) | (simp [o3, o5]; done) | (simp [o3, o6]; done) | (simp [o4, o5]; done) | (simp [o4, o6]; done) | (simp [o5, o6]; done))) | (refine condA_false ?_ ?_; focus (first | rfl | (simp; done) | (simp; omega) | (simp [o1]; done) | (simp [o2]; done) | (simp [o3]; done) | (simp [o4]; done) | (simp [o5]; done) | (simp [o6]; done) | (simp [o1]; omega) | (simp [o2]; omega) | (simp [o3]; omega) | (simp [o4]; omega) | (simp [o5]; omega) | (simp [o6]; omega) | (simp [o1, o2]; done) | (simp [o1, o3]; done) | (simp [o1, o4]; done) | (simp [o1, o5]; done) | (simp [o1, o6]; done) | (simp [o2, o3]; done) | (simp [o2, o4]; done) | (simp [o2, o5]; done) | (simp [o2, o6]; done) | (simp [o3, o4]; done) | (simp [o3, o5]; done) | (simp [o3, o6]; done) | (simp [o4, o5]; done) | (simp [o4, o6]; done) | (simp [o5, o6]; done))))
          exact leaf [] (.dat (.int .i64 5)) [] rfl rfl rfl rfl rfl (fin 5 (if_pos (by simp [Cmd.out, o6])))
        have fin := fun e (h : _ = e) => fin e (by rw [if_neg (by simp only [Cmd.out]; omega)]; exact h)
        dsimp only at fin hr hn
        by_cases k1 : kind = 1
        · subst k1
          have fin := fun e (h : _ = e) => fin e (by rw [if_pos rfl]; exact h)
          repeat (first | (refine condA_true ?_ ?_; focus (first | rfl | (simp; done) | (simp; omega) | (simp [o1]; done) | (simp [o2]; done) | (simp [o3]; done) | (simp [o4]; done) | (simp [o5]; done) | (simp [o6]; done) | (simp [o1]; omega) | (simp [o2]; omega) | (simp [o3]; omega) | (simp [o4]; omega) | (simp [o5]; omega) | (simp [o6]; omega) | (simp [o1, o2]; done) | (simp [o1, o3]; done) | (simp [o1, o4]; done) | (simp [o1, o5]; done) | (simp [o1, o6]; done) | (simp [o2, o3]; done) | (simp [o2, o4]; done) | (simp [o2, o5]; done) | (simp [o2, o6]; done) | (simp [o3, o4]; done) | (simp [o3, o5]; done) | (simp [o3, o6]; done) | (simp [o4, o5]; done) | (simp [o4, o6]; done) | (simp [o5, o6]; done))) | (refine condA_false ?_ ?_; focus (first | rfl | (simp; done) | (simp; omega) | (simp [o1]; done) | (simp [o2]; done) | (simp [o3]; done) | (simp [o4]; done) | (simp [o5]; done) | (simp [o6]; done) | (simp [o1]; omega) | (simp [o2]; omega) | (simp [o3]; omega) | (simp [o4]; omega) | (simp [o5]; omega) | (simp [o6]; omega) | (simp [o1, o2]; done) | (simp [o1, o3]; done) | (simp [o1, o4]; done) | (simp [o1, o5]; done) | (simp [o1, o6]; done) | (simp [o2, o3]; done) | (simp [o2, o4]; done) | (simp [o2, o5]; done) | (simp [o2, o6]; done) | (simp [o3, o4]; done) | (simp [o3, o5]; done) | (simp [o3, o6]; done) | (simp [o4, o5]; done) | (simp [o4, o6]; done) | (simp [o5, o6]; done))))
          refine call_at [] (check_ok L room _ ?_) rfl rfl rfl rfl
          by_cases r1 : checkM room = 0
          · repeat (first | (refine condA_true ?_ ?_; focus (first | rfl | (simp; done) | (simp; omega) | (simp [r1]; done) | (simp [r1]; omega))) | (refine condA_false ?_ ?_; focus (first | rfl | (simp; done) | (simp; omega) | (simp [r1]; done) | (simp [r1]; omega))))
            refine call_at [] (check_ok L name _ ?_) rfl rfl rfl rfl
            by_cases r2 : checkM name = 0
            · repeat (first | (refine condA_true ?_ ?_; focus (first | rfl | (simp; done) | (simp; omega) | (simp [r1]; done) | (simp [r2]; done) | (simp [r1]; omega) | (simp [r2]; omega) | (simp [r1, r2]; done))) | (refine condA_false ?_ ?_; focus (first | rfl | (simp; done) | (simp; omega) | (simp [r1]; done) | (simp [r2]; done) | (simp [r1]; omega) | (simp [r2]; omega) | (simp [r1, r2]; done))))
              exact leaf [] (.dat (.int .i64 0)) [] rfl rfl rfl rfl rfl (fin 0 (if_neg (by simp [r1, r2])))
            · repeat (first | (refine condA_true ?_ ?_; focus (first | rfl | (simp; done) | (simp; omega) | (simp [r1]; done) | (simp [r2]; done) | (simp [r1]; omega) | (simp [r2]; omega) | (simp [r1, r2]; done))) | (refine condA_false ?_ ?_; focus (first | rfl | (simp; done) | (simp; omega) | (simp [r1]; done) | (simp [r2]; done) | (simp [r1]; omega) | (simp [r2]; omega) | (simp [r1, r2]; done))))
              exact leaf [] (.dat (.int .i64 6)) [] rfl rfl rfl rfl rfl (fin 6 (if_pos (by simp [r2])))
          · repeat (first | (refine condA_true ?_ ?_; focus (first | rfl | (simp; done) | (simp; omega) | (simp [r1]; done) | (simp [r1]; omega))) | (refine condA_false ?_ ?_; focus (first | rfl | (simp; done) | (simp; omega) | (simp [r1]; done) | (simp [r1]; omega))))
            exact leaf [] (.dat (.int .i64 6)) [] rfl rfl rfl rfl rfl (fin 6 (if_pos (by simp [r1])))
        · have fin := fun e (h : _ = e) => fin e (by rw [if_neg k1]; exact h)
          by_cases k3 : kind = 3
          · have fin := fun e (h : _ = e) => fin e (by rw [if_pos k3]; exact h)
            repeat (first | (refine condA_true ?_ ?_; focus (first | rfl | (simp; done) | (simp; omega) | (simp [o1]; done) | (simp [o2]; done) | (simp [o3]; done) | (simp [o4]; done) | (simp [o5]; done) | (simp [o6]; done) | (simp [k1]; done) | (simp [k3]; done) | (simp [o1]; omega) | (simp [o2]; omega) | (simp [o3]; omega) | (simp [o4]; omega) | (simp [o5]; omega) | (simp [o6]; omega) | (simp [k1]; omega) | (simp [k3]; omega) | (simp [o1, o2]; done) | (simp [o1, o3]; done) | (simp [o1, o4]; done) | (simp [o1, o5]; done) | (simp [o1, o6]; done) | (simp [o1, k1]; done) | (simp [o1, k3]; done) | (simp [o2, o3]; done) | (simp [o2, o4]; done) | (simp [o2, o5]; done) | (simp [o2, o6]; done) | (simp [o2, k1]; done) | (simp [o2, k3]; done) | (simp [o3, o4]; done) | (simp [o3, o5]; done) | (simp [o3, o6]; done) | (simp [o3, k1]; done) | (simp [o3, k3]; done) | (simp [o4, o5]; done) | (simp [o4, o6]; done) | (simp [o4, k1]; done) | (simp [o4, k3]; done) | (simp [o5, o6]; done) | (simp [o5, k1]; done) | (simp [o5, k3]; done) | (simp [o6, k1]; done) | (simp [o6, k3]; done) | (simp [k1, k3]; done))) | (refine condA_false ?_ ?_; focus (first | rfl | (simp; done) | (simp; omega) | (simp [o1]; done) | (simp [o2]; done) | (simp [o3]; done) | (simp [o4]; done) | (simp [o5]; done) | (simp [o6]; done) | (simp [k1]; done) | (simp [k3]; done) | (simp [o1]; omega) | (simp [o2]; omega) | (simp [o3]; omega) | (simp [o4]; omega) | (simp [o5]; omega) | (simp [o6]; omega) | (simp [k1]; omega) | (simp [k3]; omega) | (simp [o1, o2]; done) | (simp [o1, o3]; done) | (simp [o1, o4]; done) | (simp [o1, o5]; done) | (simp [o1, o6]; done) | (simp [o1, k1]; done) | (simp [o1, k3]; done) | (simp [o2, o3]; done) | (simp [o2, o4]; done) | (simp [o2, o5]; done) | (simp [o2, o6]; done) | (simp [o2, k1]; done) | (simp [o2, k3]; done) | (simp [o3, o4]; done) | (simp [o3, o5]; done) | (simp [o3, o6]; done) | (simp [o3, k1]; done) | (simp [o3, k3]; done) | (simp [o4, o5]; done) | (simp [o4, o6]; done) | (simp [o4, k1]; done) | (simp [o4, k3]; done) | (simp [o5, o6]; done) | (simp [o5, k1]; done) | (simp [o5, k3]; done) | (simp [o6, k1]; done) | (simp [o6, k3]; done) | (simp [k1, k3]; done))))
            refine call_can ?_
            refine call_at [] (sources_ok _ hc _ (fun e he => ?_)) rfl rfl rfl rfl
            exact leaf [] (.dat (.int .i64 e)) [] rfl rfl rfl rfl rfl (fin e he.symm)
          · have fin := fun e (h : _ = e) => fin e (by rw [if_neg k3]; exact h)
            repeat (first | (refine condA_true ?_ ?_; focus (first | rfl | (simp; done) | (simp; omega) | (simp [o1]; done) | (simp [o2]; done) | (simp [o3]; done) | (simp [o4]; done) | (simp [o5]; done) | (simp [o6]; done) | (simp [k1]; done) | (simp [k3]; done) | (simp [o1]; omega) | (simp [o2]; omega) | (simp [o3]; omega) | (simp [o4]; omega) | (simp [o5]; omega) | (simp [o6]; omega) | (simp [k1]; omega) | (simp [k3]; omega) | (simp [o1, o2]; done) | (simp [o1, o3]; done) | (simp [o1, o4]; done) | (simp [o1, o5]; done) | (simp [o1, o6]; done) | (simp [o1, k1]; done) | (simp [o1, k3]; done) | (simp [o2, o3]; done) | (simp [o2, o4]; done) | (simp [o2, o5]; done) | (simp [o2, o6]; done) | (simp [o2, k1]; done) | (simp [o2, k3]; done) | (simp [o3, o4]; done) | (simp [o3, o5]; done) | (simp [o3, o6]; done) | (simp [o3, k1]; done) | (simp [o3, k3]; done) | (simp [o4, o5]; done) | (simp [o4, o6]; done) | (simp [o4, k1]; done) | (simp [o4, k3]; done) | (simp [o5, o6]; done) | (simp [o5, k1]; done) | (simp [o5, k3]; done) | (simp [o6, k1]; done) | (simp [o6, k3]; done) | (simp [k1, k3]; done))) | (refine condA_false ?_ ?_; focus (first | rfl | (simp; done) | (simp; omega) | (simp [o1]; done) | (simp [o2]; done) | (simp [o3]; done) | (simp [o4]; done) | (simp [o5]; done) | (simp [o6]; done) | (simp [k1]; done) | (simp [k3]; done) | (simp [o1]; omega) | (simp [o2]; omega) | (simp [o3]; omega) | (simp [o4]; omega) | (simp [o5]; omega) | (simp [o6]; omega) | (simp [k1]; omega) | (simp [k3]; omega) | (simp [o1, o2]; done) | (simp [o1, o3]; done) | (simp [o1, o4]; done) | (simp [o1, o5]; done) | (simp [o1, o6]; done) | (simp [o1, k1]; done) | (simp [o1, k3]; done) | (simp [o2, o3]; done) | (simp [o2, o4]; done) | (simp [o2, o5]; done) | (simp [o2, o6]; done) | (simp [o2, k1]; done) | (simp [o2, k3]; done) | (simp [o3, o4]; done) | (simp [o3, o5]; done) | (simp [o3, o6]; done) | (simp [o3, k1]; done) | (simp [o3, k3]; done) | (simp [o4, o5]; done) | (simp [o4, o6]; done) | (simp [o4, k1]; done) | (simp [o4, k3]; done) | (simp [o5, o6]; done) | (simp [o5, k1]; done) | (simp [o5, k3]; done) | (simp [o6, k1]; done) | (simp [o6, k3]; done) | (simp [k1, k3]; done))))
            exact leaf [] (.dat (.int .i64 0)) [] rfl rfl rfl rfl rfl (fin 0 rfl)
      · repeat (first | (refine condA_true ?_ ?_; focus (first | rfl | (simp; done) | (simp; omega) | (simp [o1]; done) | (simp [o2]; done) | (simp [o1]; omega) | (simp [o2]; omega) | (simp [o1, o2]; done))) | (refine condA_false ?_ ?_; focus (first | rfl | (simp; done) | (simp; omega) | (simp [o1]; done) | (simp [o2]; done) | (simp [o1]; omega) | (simp [o2]; omega) | (simp [o1, o2]; done))))
        exact leaf [] (.dat (.int .i64 5)) [] rfl rfl rfl rfl rfl (fin 5 (if_pos (by simp only [Cmd.out]; omega)))
    · repeat (first | (refine condA_true ?_ ?_; focus (first | rfl | (simp; done) | (simp; omega) | (simp [o1]; done) | (simp [o1]; omega))) | (refine condA_false ?_ ?_; focus (first | rfl | (simp; done) | (simp; omega) | (simp [o1]; done) | (simp [o1]; omega))))
      exact leaf [] (.dat (.int .i64 5)) [] rfl rfl rfl rfl rfl (fin 5 (if_pos (by simp only [Cmd.out]; omega)))
  · have fin := fun e (h : _ = e) => fin e (by rw [if_pos c1]; exact h)
    rw [hasM_no c1]
    refine condA_true (by simp) ?_
    exact leaf [] (.dat (.int .i64 3)) [] rfl rfl rfl rfl rfl (fin 3 rfl)

theorem clone_nil (K : AV → Heap → Prop) (hk : K (.dat .nils) []) : CallA (cx w0) 47 [.dat .nils] [] K := by
  refine CallA.enter ok (dr (plOf [])) Tryz.func47 Tryz.call47 ?_
  refine condA_true rfl ?_
  exact hk
theorem clone_ok (xs : List Int) (cap : Option Nat) (h0 : 0 < xs.length) (hl : xs.length ≤ 1000) (K : AV → Heap → Prop) (hk : K (.dat (.ros (u32s xs) xs.length none)) []) : CallA (cx w0) 47 [.dat (.ros (u32s xs) xs.length cap)] [] K := by
  refine CallA.ret ?_
  refine CallA.enter ok (dr (plOf [])) Tryz.func47 Tryz.call47 ?_
  refine condA_false rfl ?_
  have hk' : K (.dat (.ros (u32s xs) (0 + xs.length) none)) [] := by rw [Nat.zero_add]; exact hk
  refine appA h0 ⟨rfl, ?_, ?_, ?_, ?_⟩ ?_
  · show ((u32s xs).map AV.dat).length = xs.length * 1
    simp [u32s_eq]
  · intro a ha
    have ha : a ∈ (u32s xs).map AV.dat := ha
    simp only [u32s_eq, List.map_map, List.mem_map] at ha
    obtain ⟨x, _, rfl⟩ := ha
    rfl
  · show (0 + xs.length) * 4 ≤ 140737488355328
    omega
  · show 0 + xs.length ≤ maxLen
    unfold maxLen; omega
  · refine shift_frz' 1 (u32s xs) rfl rfl ?_
    refine leaf [] (.dat (.ros (u32s xs) (0 + xs.length) none)) [] ?_ ?_ ?_ ?_ ?_ hk'
    · show renT _ _ = canA (frz 1 (u32s xs) (oneA [AV.sl 1 0 (0 + xs.length) none 1]))
      show renT _ _ = canA (.dat (.ros (ldrop (u32s xs) 0) (0 + xs.length) none))
      show AV.dat (.ros (u32s xs) (0 + xs.length) none) = canA (AV.dat (.ros (u32s xs) (0 + xs.length) none))
      rfl
    all_goals rfl
end Go.Abs.X

namespace Go.Abs.X
open Go.Abs Go Go.Proofs

/-! The state: rooms, tracks, subscriptions, sources. -/
structure TrackV where
  video : Bool
  muted : Bool
  ssrcs : List Int
abbrev KeyT := Int × Int
abbrev SubV := Int × Bool
abbrev SrcV := Int × Int × Int
def keyD (k : KeyT) : DV := .agg [.int .i64 k.1, .int .i64 k.2]
def trackD (t : TrackV) : DV := .agg [.bool t.video, .bool t.muted, .ros (u32s t.ssrcs) t.ssrcs.length none]
def subD (x : SubV) : DV := .agg [.int .i64 x.1, .bool x.2]
def srcD (x : SrcV) : DV := .agg [.int .i64 x.1, .int .i64 x.2.1, .int .i64 x.2.2]
theorem beqI (a b : Int) : (a == b) = decide (a = b) := by rw [Bool.eq_iff_iff]; simp
def EK : Enc KeyT TrackV := ⟨keyD, fun _ t => trackD t, fun a b => by
  simp only [keyD, keyEq, keyEqs, keyEq1, kEq, Bool.and_true, Option.some.injEq, beqI]
  rw [Bool.eq_iff_iff]; simp [Prod.ext_iff]⟩
def EL : Enc LinkT SubV := ⟨LinkT.dv, fun _ x => subD x, fun a b => by
  simp only [LinkT.dv, linkD, keyEq, keyEqs, keyEq1, kEq, Bool.and_true, Option.some.injEq, beqI]
  rw [Bool.eq_iff_iff]
  cases a; cases b; simp⟩
def EU : Enc Int SrcV := ⟨u32, fun _ x => srcD x, fun a b => by simp only [u32, keyEq, keyEq1, kEq]; congr⟩
structure St where
  t : Tb
  tracks : List (KeyT × TrackV)
  subs : List (LinkT × SubV)
  srcs : List (Int × SrcV)
structure StOK (s : St) : Prop where
  t : TbOK s.t
  tr : ∀ p ∈ s.tracks, 1 ≤ p.2.ssrcs.length ∧ p.2.ssrcs.length ≤ 3
  nd : (s.tracks.map (·.1)).Nodup
  ns : (s.subs.map (·.1)).Nodup
  nu : (s.srcs.map (·.1)).Nodup
  len : s.subs.length ≤ 1000000
  lent : s.tracks.length ≤ 1000000
  lenu : s.srcs.length ≤ 1000000
def trackR (s : St) (k : KeyT) : DV × Bool := match lk s.tracks k with
  | some t => (trackD t, true)
  | none => (.agg [.bool false, .bool false, .nils], false)
def subR (s : St) (l : LinkT) : DV × Bool := match lk s.subs l with
  | some x => (subD x, true)
  | none => (.agg [.int .i64 0, .bool false], false)
def srcR (s : St) (n : Int) : DV × Bool := match lk s.srcs n with
  | some x => (srcD x, true)
  | none => (.agg [.int .i64 0, .int .i64 0, .int .i64 0], false)
def St.links (s : St) : List LinkT := sortL (s.subs.map (·.1))
end Go.Abs.X

namespace Go.Abs.X
open Go.Abs Go Go.Proofs

/-! A map that loses entries while it is ranged over. -/
section
variable {κ ν : Type} [DecidableEq κ] (E : Enc κ ν)
def delQ (q : List (Nat × κ × ν)) (k : κ) : List (Nat × κ × ν) := match q with
  | [] => []
  | x :: r => if k = x.2.1 then r else x :: delQ r k
def qB (q : List (Nat × κ × ν)) : List Nat := q.map (·.1)
def qM (q : List (Nat × κ × ν)) : List (κ × ν) := q.map (·.2)
theorem posE_enc (q : List (Nat × κ × ν)) (k : κ) : (qB q).eraseIdx (posE (liftE ((qM q).map E.e)) (E.k k)) = qB (delQ q k) := by
  induction q with
  | nil => rfl
  | cons x r ih =>
    simp only [qB, qM, List.map_cons, liftE, posE, Enc.e, E.eq, delQ] at ih ⊢
    by_cases h : k = x.2.1
    · subst h; simp
    · simp only [h, decide_false, if_false, List.map_cons, List.eraseIdx_cons_succ]
      rw [ih]
theorem delE_lift (q : List (Nat × κ × ν)) (k : κ) : delE (liftE ((qM q).map E.e)) (E.k k) = liftE ((qM (delQ q k)).map E.e) := by
  induction q with
  | nil => rfl
  | cons x r ih =>
    simp only [qM, List.map_cons, liftE, delE, Enc.e, E.eq, delQ] at ih ⊢
    by_cases h : k = x.2.1
    · subst h; simp
    · simp only [h, decide_false, if_false, List.map_cons, liftE, Enc.e]
      rw [ih]
theorem isSome_lift (l : List (κ × ν)) (k : κ) : (findE (liftE (l.map E.e)) (E.k k)).isSome = true := by
  induction l with
  | nil => rfl
  | cons x r ih =>
    simp only [List.map_cons, liftE, findE, Enc.e, E.eq]
    by_cases h : k = x.1
    · subst h; simp
    · simpa [h] using ih
theorem ent_q {q : List (Nat × κ × ν)} {b : Nat} {k : DV} {v : AV} (h : entB (qB q) (liftE ((qM q).map E.e)) b = some (k, v)) : ∃ p, (b, p) ∈ q ∧ k = E.k p.1 ∧ v = .dat (E.v p.1 p.2) := by
  induction q with
  | nil => simp [qB, qM, entB] at h
  | cons x r ih =>
    simp only [qB, qM, List.map_cons, liftE, entB, Enc.e] at h ih
    split at h
    · rename_i e
      obtain rfl := Nat.eq_of_beq_eq_true e
      simp only [Option.some.injEq, Prod.mk.injEq] at h
      exact ⟨x.2, by simp, h.1.symm, h.2.symm⟩
    · obtain ⟨p, h1, h2⟩ := ih h
      exact ⟨p, List.mem_cons_of_mem _ h1, h2⟩
theorem delQ_sub (q : List (Nat × κ × ν)) (k : κ) : (delQ q k).Sublist q := by
  induction q with
  | nil => exact List.Sublist.refl _
  | cons x r ih =>
    simp only [delQ]
    split
    · exact List.sublist_cons_self _ _
    · exact ih.cons_cons _
theorem delQ_key {q : List (Nat × κ × ν)} (h : (q.map (·.2.1)).Nodup) (k : κ) : ∀ x ∈ delQ q k, x.2.1 ≠ k := by
  induction q with
  | nil => simp [delQ]
  | cons x r ih =>
    simp only [List.map_cons, List.nodup_cons] at h
    simp only [delQ]
    split
    · rename_i e
      intro y hy e2
      exact h.1 (by rw [← e, ← e2]; exact List.mem_map.2 ⟨y, hy, rfl⟩)
    · rename_i e
      intro y hy
      rcases List.mem_cons.1 hy with rfl | hy
      · exact fun e2 => e e2.symm
      · exact ih h.2 y hy
theorem delQ_filter (q : List (Nat × κ × ν)) (k : κ) (pr : κ → Bool) (hk : pr k = true) : (qM (delQ q k)).filter (fun p => !pr p.1) = (qM q).filter (fun p => !pr p.1) := by
  induction q with
  | nil => rfl
  | cons x r ih =>
    simp only [delQ]
    split
    · rename_i e
      subst e
      simp [qM, hk]
    · simp only [qM, List.map_cons, List.filter_cons] at ih ⊢
      rw [ih]
/-- while entries that hold pr go -/
structure Goes (l : List (κ × ν)) (pr : κ → Bool) (bs : List Nat) (q : List (Nat × κ × ν)) (seen : List Nat) : Prop where
  same : (qM q).filter (fun p => !pr p.1) = l.filter (fun p => !pr p.1)
  done : ∀ x ∈ q, x.1 ∈ seen → pr x.2.1 = false
  keys : (q.map (·.2.1)).Nodup
  borns : (qB q).Nodup
  sub : ∀ b ∈ qB q, b ∈ bs
theorem Goes.fin {l : List (κ × ν)} {pr : κ → Bool} {bs : List Nat} {q : List (Nat × κ × ν)} {seen : List Nat} (g : Goes l pr bs q seen) (h : ∀ b ∈ qB q, b ∈ seen) : qM q = l.filter (fun p => !pr p.1) := by
  rw [← g.same]
  symm
  rw [List.filter_eq_self]
  intro p hp
  obtain ⟨x, hx, rfl⟩ := List.mem_map.1 hp
  simp [g.done x hx (h x.1 (List.mem_map.2 ⟨x, hx, rfl⟩))]
theorem uniq_fst {α : Type} {q : List (Nat × α)} (h : (q.map (·.1)).Nodup) {b : Nat} {p p' : α} (h1 : (b, p) ∈ q) (h2 : (b, p') ∈ q) : p = p' := by
  induction q with
  | nil => cases h1
  | cons x r ih =>
    simp only [List.map_cons, List.nodup_cons] at h
    rcases List.mem_cons.1 h1 with e1 | i1 <;> rcases List.mem_cons.1 h2 with e2 | i2
    · rw [← e1] at e2; cases e2; rfl
    · exact (h.1 (List.mem_map.2 ⟨_, i2, by rw [← e1]⟩)).elim
    · exact (h.1 (List.mem_map.2 ⟨_, i1, by rw [← e2]⟩)).elim
    · exact ih h.2 i1 i2
theorem Goes.keep {l : List (κ × ν)} {pr : κ → Bool} {bs : List Nat} {q : List (Nat × κ × ν)} {seen : List Nat} (g : Goes l pr bs q seen) {b : Nat} {p : κ × ν} (hp : (b, p) ∈ q) (h : pr p.1 = false) : Goes l pr bs q (b :: seen) :=
  ⟨g.same, fun x hx hs => by
    rcases List.mem_cons.1 hs with e | hs
    · obtain ⟨b', p'⟩ := x
      simp only at e; subst e
      rw [uniq_fst g.borns hx hp]; exact h
    · exact g.done x hx hs, g.keys, g.borns, g.sub⟩
theorem Goes.drop {l : List (κ × ν)} {pr : κ → Bool} {bs : List Nat} {q : List (Nat × κ × ν)} {seen : List Nat} (g : Goes l pr bs q seen) {b : Nat} {p : κ × ν} (hp : (b, p) ∈ q) (h : pr p.1 = true) : Goes l pr bs (delQ q p.1) (b :: seen) :=
  ⟨by rw [delQ_filter q p.1 pr h, g.same], fun x hx hs => by
    have hx' := (delQ_sub q p.1).subset hx
    rcases List.mem_cons.1 hs with e | hs
    · obtain ⟨b', p'⟩ := x
      simp only at e; subst e
      have := uniq_fst g.borns hx' hp
      subst this
      exact absurd rfl (delQ_key g.keys _ _ hx)
    · exact g.done x hx' hs, ((delQ_sub q p.1).map _).nodup g.keys, ((delQ_sub q p.1).map _).nodup g.borns, fun b' hb => g.sub b' (((delQ_sub q p.1).map _).subset hb)⟩
theorem zip_q (bs : List Nat) (l : List (κ × ν)) (h : bs.length = l.length) : qB (bs.zip l) = bs ∧ qM (bs.zip l) = l := by
  constructor
  · unfold qB; rw [List.map_fst_zip]; omega
  · unfold qM; rw [List.map_snd_zip]; omega
theorem Goes.start {l : List (κ × ν)} (pr : κ → Bool) {bs : List Nat} (h : bs.length = l.length) (hb : bs.Pairwise (· < ·)) (hl : (l.map (·.1)).Nodup) : Goes l pr bs (bs.zip l) [] :=
  ⟨by rw [(zip_q bs l h).2], fun _ _ hs => (List.not_mem_nil hs).elim, by
    have : (bs.zip l).map (·.2.1) = (qM (bs.zip l)).map (·.1) := by simp [qM]
    rw [this, (zip_q bs l h).2]
    exact hl, by rw [(zip_q bs l h).1]; exact hb.imp (fun h => Nat.ne_of_lt h), by rw [(zip_q bs l h).1]; exact fun _ h => h⟩
end
def left (bs seen : List Nat) : Nat := (bs.filter fun b => decide (b ∉ seen)).length
theorem left_lt {bs seen : List Nat} {b : Nat} (hb : b ∈ bs) (hn : b ∉ seen) : left bs (b :: seen) < left bs seen := by
  unfold left
  induction bs with
  | nil => cases hb
  | cons x r ih =>
    have mono : ((r.filter fun c => decide (c ∉ b :: seen)).length) ≤ (r.filter fun c => decide (c ∉ seen)).length := by
      clear ih hb
      induction r with
      | nil => simp
      | cons y r ih =>
        simp only [List.filter_cons]
        by_cases h : y ∈ seen
        · simpa [h] using ih
        · by_cases e : y = b
          · subst e; simp [h]; simp at ih; omega
          · simpa [h, e] using ih
    simp only [List.filter_cons]
    by_cases e : x = b
    · subst e; simp [hn]; simp at mono; omega
    · have := ih (by rcases List.mem_cons.1 hb with h | h; exact absurd h.symm e; exact h)
      by_cases h : x ∈ seen
      · simpa [h] using this
      · simpa [h, e] using this
theorem ren_mapQ {κ ν : Type} [DecidableEq κ] {E : Enc κ ν} {f : Nat → Nat} {bs : List Nat} {clk : Nat} {es : List (DV × AV)} {q : List (Nat × κ × ν)} (h1 : bs = qB q) (h2 : es = liftE ((qM q).map E.e)) :
    some (AB.mapB bs clk es) = some (renB f (.mapB (qB q) clk (liftE ((qM q).map E.e)))) := by subst h1; subst h2; exact ren_mapB
end Go.Abs.X

namespace Go.Abs.X
open Go.Abs Go Go.Proofs
section
variable {κ ν : Type} [DecidableEq κ]
theorem del_sub (l : List (κ × ν)) (k : κ) : (del l k).Sublist l := by
  induction l with
  | nil => exact List.Sublist.refl _
  | cons x r ih =>
    simp only [del]
    split
    · exact List.sublist_cons_self _ _
    · exact ih.cons_cons _
theorem del_nodup {l : List (κ × ν)} (h : (l.map (·.1)).Nodup) (k : κ) : ((del l k).map (·.1)).Nodup := ((del_sub l k).map _).nodup h
theorem lk_none {l : List (κ × ν)} {k : κ} : lk l k = none ↔ k ∉ l.map (·.1) := by
  induction l with
  | nil => simp [lk]
  | cons x r ih =>
    simp only [lk, List.map_cons, List.mem_cons]
    by_cases h : k = x.1
    · simp [h]
    · simp [h, ih]
theorem lk_iff {l : List (κ × ν)} (h : (l.map (·.1)).Nodup) {k : κ} {v : ν} : lk l k = some v ↔ (k, v) ∈ l := by
  refine ⟨lk_mem, fun hm => ?_⟩
  induction l with
  | nil => cases hm
  | cons x r ih =>
    simp only [List.map_cons, List.nodup_cons] at h
    simp only [lk]
    rcases List.mem_cons.1 hm with e | hm
    · rw [← e]; simp
    · rw [if_neg (fun e => h.1 (List.mem_map.2 ⟨_, hm, e⟩)), ih h.2 hm]
theorem ins_nodup {l : List (κ × ν)} (h : (l.map (·.1)).Nodup) (k : κ) (v : ν) : ((ins l k v).map (·.1)).Nodup := by
  induction l with
  | nil => simp [ins]
  | cons x r ih =>
    simp only [List.map_cons, List.nodup_cons] at h
    simp only [ins]
    split
    · rename_i e; subst e; simpa using h
    · rename_i e
      simp only [List.map_cons, List.nodup_cons]
      refine ⟨fun hm => ?_, ih h.2⟩
      have : ∀ (r : List (κ × ν)), x.1 ∈ (ins r k v).map (·.1) → x.1 ∈ r.map (·.1) := fun r => by
        induction r with
        | nil => intro hm; simp [ins] at hm; exact absurd hm.symm e
        | cons y r ih2 =>
          intro hm
          simp only [ins] at hm
          split at hm
          · rename_i e2; subst e2
            simp only [List.map_cons, List.mem_cons] at hm ⊢
            rcases hm with h1 | h1
            · exact absurd h1.symm e
            · exact Or.inr h1
          · simp only [List.map_cons, List.mem_cons] at hm ⊢
            rcases hm with h1 | h1
            · exact Or.inl h1
            · exact Or.inr (ih2 h1)
      exact h.1 (this r hm)
theorem lk_ins (l : List (κ × ν)) (k k' : κ) (v : ν) : lk (ins l k v) k' = if k' = k then some v else lk l k' := by
  induction l with
  | nil => simp [ins, lk]
  | cons x r ih =>
    simp only [ins]
    by_cases e : k = x.1
    · subst e; simp only [if_pos, lk]; split <;> simp_all
    · simp only [if_neg e, lk, ih]
      by_cases e2 : k' = x.1
      · subst e2; simp [Ne.symm e]
      · simp [e2]
theorem lk_del {l : List (κ × ν)} (h : (l.map (·.1)).Nodup) (k k' : κ) : lk (del l k) k' = if k' = k then none else lk l k' := by
  induction l with
  | nil => simp [del, lk]
  | cons x r ih =>
    simp only [List.map_cons, List.nodup_cons] at h
    simp only [del]
    by_cases e : k = x.1
    · subst e
      simp only [if_pos, lk]
      by_cases e2 : k' = x.1
      · subst e2; simp [lk_none.2 h.1]
      · simp [e2]
    · simp only [if_neg e, lk, ih h.2]
      by_cases e2 : k' = x.1
      · subst e2; simp [Ne.symm e]
      · simp [e2]
theorem lk_filter {l : List (κ × ν)} (pr : κ → Bool) (k : κ) : lk (l.filter fun p => pr p.1) k = if pr k = true then lk l k else none := by
  induction l with
  | nil => simp [lk]
  | cons x r ih =>
    simp only [List.filter_cons]
    by_cases h : pr x.1 = true
    · simp only [h, if_true, lk, ih]
      by_cases e : k = x.1
      · subst e; simp [h]
      · simp [e]
    · simp only [h, lk, ih, Bool.false_eq_true, if_false]
      by_cases e : k = x.1
      · subst e; simp [h]
      · simp [e]
theorem ins_length (l : List (κ × ν)) (k : κ) (v : ν) : (ins l k v).length ≤ l.length + 1 := by
  induction l with
  | nil => simp [ins]
  | cons x r ih => simp only [ins]; split <;> simp; exact ih
theorem ins_mem {l : List (κ × ν)} {k : κ} {v : ν} {p : κ × ν} (h : p ∈ ins l k v) : p = (k, v) ∨ p ∈ l := by
  induction l with
  | nil => simp [ins] at h; exact Or.inl h
  | cons x r ih =>
    simp only [ins] at h
    split at h
    · rcases List.mem_cons.1 h with e | h
      · exact Or.inl e
      · exact Or.inr (List.mem_cons_of_mem _ h)
    · rcases List.mem_cons.1 h with e | h
      · exact Or.inr (by simp [e])
      · rcases ih h with e | h
        · exact Or.inl e
        · exact Or.inr (List.mem_cons_of_mem _ h)
end

/-! What the commands do. -/
def ssOf (s : St) (k : KeyT) : List Int := match lk s.tracks k with | some t => t.ssrcs | none => []
def isOf (k : KeyT) (l : LinkT) : Bool := decide (l.peer = k.1 ∧ l.n = k.2)
def removeM (s : St) (k : KeyT) : St := ⟨s.t, del s.tracks k, s.subs.filter fun p => !isOf k p.1, (ssOf s k).foldl del s.srcs⟩
def dels (l : List (Int × SrcV)) (xs : List Int) : List (Int × SrcV) := xs.foldl del l
theorem dels_sub (l : List (Int × SrcV)) (xs : List Int) : (dels l xs).Sublist l := by
  induction xs generalizing l with
  | nil => exact List.Sublist.refl _
  | cons x r ih => exact (ih (del l x)).trans (del_sub l x)
theorem removeM_OK {s : St} (h : StOK s) (k : KeyT) : StOK (removeM s k) :=
  ⟨h.t, fun p hp => h.tr p ((del_sub _ _).subset hp), del_nodup h.nd k, (List.filter_sublist.map _).nodup h.ns, ((dels_sub s.srcs (ssOf s k)).map _).nodup h.nu,
    Nat.le_trans (List.length_filter_le _ _) h.len, Nat.le_trans (del_sub _ _).length_le h.lent, Nat.le_trans (dels_sub s.srcs (ssOf s k)).length_le h.lenu⟩
def isBy (n : Int) (l : LinkT) : Bool := decide (l.who = n)
def byeM (s : St) (n : Int) : St := ⟨s.t, s.tracks, s.subs.filter fun p => !isBy n p.1, s.srcs⟩
theorem byeM_OK {s : St} (h : StOK s) (n : Int) : StOK (byeM s n) :=
  ⟨h.t, h.tr, h.nd, (List.filter_sublist.map _).nodup h.ns, h.nu, Nat.le_trans (List.length_filter_le _ _) h.len, h.lent, h.lenu⟩
def offM (s : St) (n : Int) : St := ⟨⟨s.t.next, del s.t.peers n⟩, s.tracks, s.subs, s.srcs⟩
theorem del_TbOK {t : Tb} (h : TbOK t) (n : Int) : TbOK ⟨t.next, del t.peers n⟩ :=
  ⟨fun p hp => h.sz p ((del_sub _ _).subset hp), Nat.le_trans (del_sub _ _).length_le h.len, del_nodup h.nd n, h.next⟩
theorem offM_OK {s : St} (h : StOK s) (n : Int) : StOK (offM s n) := ⟨del_TbOK h.t n, h.tr, h.nd, h.ns, h.nu, h.len, h.lent, h.lenu⟩
def leaveM (s : St) (n : Int) : Int × St := match lk s.t.peers n with
  | none => (8, s)
  | some _ => (0, byeM (removeM (removeM (removeM (removeM (offM s n) (n, 0)) (n, 1)) (n, 2)) (n, 3)) n)
theorem leaveM_OK {s : St} (h : StOK s) (n : Int) : StOK (leaveM s n).2 := by
  unfold leaveM
  split
  · exact h
  · exact byeM_OK (removeM_OK (removeM_OK (removeM_OK (removeM_OK (offM_OK h n) _) _) _) _) n
end Go.Abs.X

namespace Go.Abs.X
open Go.Abs Go Go.Proofs

def Cmd.key (c : Cmd) : KeyT := (c.peer, c.track)
def Cmd.link (c : Cmd) : LinkT := ⟨c.peer, c.of, c.track⟩
def inss (l : List (Int × SrcV)) (k : KeyT) (xs : List Int) (i : Nat) : List (Int × SrcV) := match xs with
  | [] => l
  | x :: r => inss (ins l x (k.1, k.2, i)) k r (i + 1)
def anySrc (l : List (Int × SrcV)) (xs : List Int) : Bool := xs.any fun x => (lk l x).isSome
def publishM (s : St) (c : Cmd) : Int × St :=
  if (lk s.tracks c.key).isSome then (10, s)
  else if anySrc s.srcs c.ssrcs then (16, s)
  else (0, ⟨s.t, ins s.tracks c.key ⟨c.video, false, c.ssrcs⟩, s.subs, inss s.srcs c.key c.ssrcs 0⟩)
def cntM (s : St) (who : Int) : Nat := (s.subs.filter fun p => decide (p.1.who = who)).length
def subscribeM (s : St) (c : Cmd) : Int × St :=
  if c.of = c.peer then (15, s)
  else if togetherM s.t c.peer c.of = false then (7, s)
  else match lk s.tracks (c.of, c.track) with
    | none => (9, s)
    | some _ => match lk s.subs c.link with
      | none => if 16 ≤ cntM s c.peer then (11, s) else (0, ⟨s.t, s.tracks, ins s.subs c.link (c.layer, false), s.srcs⟩)
      | some x => (0, ⟨s.t, s.tracks, ins s.subs c.link (c.layer, x.2), s.srcs⟩)
def linkM (s : St) (c : Cmd) : Int × St := match lk s.subs c.link with
  | none => (12, s)
  | some x => if c.kind = 6 then (0, ⟨s.t, s.tracks, del s.subs c.link, s.srcs⟩) else (0, ⟨s.t, s.tracks, ins s.subs c.link (x.1, c.on), s.srcs⟩)
def trackM (s : St) (c : Cmd) : Int × St := match lk s.tracks c.key with
  | none => (9, s)
  | some t => if c.kind = 4 then (0, removeM s c.key) else (0, ⟨s.t, ins s.tracks c.key ⟨t.video, c.on, t.ssrcs⟩, s.subs, s.srcs⟩)
def doM (s : St) (c : Cmd) : (Int × Int) × St :=
  if c.check ≠ 0 then ((0, c.check), s)
  else if c.kind = 1 then ((joinM s.t c.room c.name).1, ⟨(joinM s.t c.room c.name).2, s.tracks, s.subs, s.srcs⟩)
  else if lk s.t.peers c.peer = none then ((0, 8), s)
  else if c.kind = 2 then ((0, (leaveM s c.peer).1), (leaveM s c.peer).2)
  else if c.kind = 3 then ((0, (publishM s c).1), (publishM s c).2)
  else if c.kind = 5 then ((0, (subscribeM s c).1), (subscribeM s c).2)
  else if c.kind = 6 ∨ c.kind = 8 then ((0, (linkM s c).1), (linkM s c).2)
  else ((0, (trackM s c).1), (trackM s c).2)

/-! Bounds. -/
structure StN (s : St) (n : Nat) : Prop where
  pp : s.t.peers.length ≤ n
  tt : s.tracks.length ≤ n
  ss : s.subs.length ≤ n
  uu : s.srcs.length ≤ 3 * n
theorem StN.mono {s : St} {n m : Nat} (h : StN s n) (l : n ≤ m) : StN s m := ⟨Nat.le_trans h.pp l, Nat.le_trans h.tt l, Nat.le_trans h.ss l, Nat.le_trans h.uu (by omega)⟩
theorem inss_length (l : List (Int × SrcV)) (k : KeyT) (xs : List Int) (i : Nat) : (inss l k xs i).length ≤ l.length + xs.length := by
  induction xs generalizing l i with
  | nil => simp [inss]
  | cons x r ih =>
    have := ih (ins l x (k.1, k.2, (i : Int))) (i + 1)
    have h2 := ins_length l x (k.1, k.2, (i : Int))
    simp only [inss, List.length_cons]; omega
theorem inss_nodup {l : List (Int × SrcV)} (h : (l.map (·.1)).Nodup) (k : KeyT) (xs : List Int) (i : Nat) : ((inss l k xs i).map (·.1)).Nodup := by
  induction xs generalizing l i with
  | nil => exact h
  | cons x r ih => exact ih (ins_nodup h _ _) (i + 1)
theorem sourcesM_len {xs : List Int} {v : Bool} (h : sourcesM xs v = 0) : 1 ≤ xs.length ∧ xs.length ≤ 3 := by
  rcases xs with _ | ⟨a, _ | ⟨b, _ | ⟨c, _ | ⟨d, l⟩⟩⟩⟩ <;> simp_all [sourcesM]
theorem Cmd.check_pub {c : Cmd} (h : c.check = 0) (k : c.kind = 3) : sourcesM c.ssrcs c.video = 0 := by
  unfold Cmd.check at h
  split at h
  · cases h
  split at h
  · cases h
  split at h
  · cases h
  simpa [k] using h
theorem joinM_OK {t : Tb} (h : TbOK t) (hl : t.peers.length + 1 ≤ 200000) (room name : ByteArray) : TbOK (joinM t room name).2 ∧ (joinM t room name).2.peers.length ≤ t.peers.length + 1 := by
  unfold joinM
  split
  · exact ⟨h, Nat.le_succ _⟩
  rename_i h1
  split
  · exact ⟨h, Nat.le_succ _⟩
  split
  · exact ⟨h, Nat.le_succ _⟩
  rename_i h3
  have hr : checkM room = 0 := by
    by_cases c : checkM room = 0
    · exact c
    · exact absurd (Or.inl c) h1
  have hn : checkM name = 0 := by
    by_cases c : checkM name = 0
    · exact c
    · exact absurd (Or.inr c) h1
  have hr := checkM_size hr
  have hn := checkM_size hn
  refine ⟨⟨fun p hp => ?_, ?_, ins_nodup h.nd _ _, ?_⟩, ins_length _ _ _⟩
  · rcases ins_mem hp with rfl | hp
    · exact ⟨by simpa using hn, by simpa using hr⟩
    · exact h.sz p hp
  · exact Nat.le_trans (ins_length _ _ _) hl
  · have := h.next
    simp only [not_or] at h3
    show 0 ≤ t.next + 1 ∧ t.next + 1 ≤ 65536
    omega
theorem removeM_N {s : St} {n : Nat} (h : StN s n) (k : KeyT) : StN (removeM s k) n :=
  ⟨h.pp, Nat.le_trans (del_sub _ _).length_le h.tt, Nat.le_trans (List.length_filter_le _ _) h.ss, Nat.le_trans (dels_sub s.srcs (ssOf s k)).length_le h.uu⟩
theorem leaveM_N {s : St} {m : Nat} (h : StN s m) (n : Int) : StN (leaveM s n).2 m := by
  unfold leaveM
  split
  · exact h
  · have h0 : StN (offM s n) m := ⟨Nat.le_trans (del_sub _ _).length_le h.pp, h.tt, h.ss, h.uu⟩
    have h4 := removeM_N (removeM_N (removeM_N (removeM_N h0 (n, 0)) (n, 1)) (n, 2)) (n, 3)
    exact ⟨h4.pp, h4.tt, Nat.le_trans (List.length_filter_le _ _) h4.ss, h4.uu⟩
theorem doM_OK {s : St} (h : StOK s) {n : Nat} (hn : StN s n) (hl : n + 1 ≤ 200000) (c : Cmd) : StOK (doM s c).2 ∧ StN (doM s c).2 (n + 1) := by
  have hm := hn.mono (Nat.le_succ n)
  have hp := hn.pp
  have ht := hn.tt
  have hs := hn.ss
  have hu := hn.uu
  unfold doM
  split
  · exact ⟨h, hm⟩
  rename_i c0
  simp only [ne_eq, Decidable.not_not] at c0
  split
  · obtain ⟨h1, h2⟩ := joinM_OK h.t (by omega) c.room c.name
    exact ⟨⟨h1, h.tr, h.nd, h.ns, h.nu, h.len, h.lent, h.lenu⟩, ⟨by show (joinM s.t c.room c.name).2.peers.length ≤ n + 1; omega, hm.tt, hm.ss, hm.uu⟩⟩
  split
  · exact ⟨h, hm⟩
  split
  · exact ⟨leaveM_OK h _, leaveM_N hm _⟩
  split
  · rename_i k3
    have h3 := sourcesM_len (c.check_pub c0 k3)
    unfold publishM
    split
    · exact ⟨h, hm⟩
    split
    · exact ⟨h, hm⟩
    have l1 := ins_length s.tracks c.key ⟨c.video, false, c.ssrcs⟩
    have l2 := inss_length s.srcs c.key c.ssrcs 0
    refine ⟨⟨h.t, fun p hp => ?_, ins_nodup h.nd _ _, h.ns, inss_nodup h.nu _ _ _, h.len, ?_, ?_⟩, ⟨hm.pp, ?_, hm.ss, ?_⟩⟩
    · rcases ins_mem hp with rfl | hp
      · exact h3
      · exact h.tr p hp
    · show (ins _ _ _).length ≤ 1000000; omega
    · show (inss _ _ _ _).length ≤ 1000000; omega
    · show (ins _ _ _).length ≤ n + 1; omega
    · show (inss _ _ _ _).length ≤ 3 * (n + 1); omega
  split
  · unfold subscribeM
    have go : ∀ x, StOK ⟨s.t, s.tracks, ins s.subs c.link x, s.srcs⟩ ∧ StN ⟨s.t, s.tracks, ins s.subs c.link x, s.srcs⟩ (n + 1) := fun x => by
      have l1 := ins_length s.subs c.link x
      exact ⟨⟨h.t, h.tr, h.nd, ins_nodup h.ns _ _, h.nu, by show (ins _ _ _).length ≤ 1000000; omega, h.lent, h.lenu⟩, ⟨hm.pp, hm.tt, by show (ins _ _ _).length ≤ n + 1; omega, hm.uu⟩⟩
    split
    · exact ⟨h, hm⟩
    split
    · exact ⟨h, hm⟩
    split
    · exact ⟨h, hm⟩
    split
    · split
      · exact ⟨h, hm⟩
      · exact go _
    · exact go _
  split
  · unfold linkM
    split
    · exact ⟨h, hm⟩
    rename_i x _
    split
    · have l1 := (del_sub s.subs c.link).length_le
      exact ⟨⟨h.t, h.tr, h.nd, del_nodup h.ns _, h.nu, by show (del _ _).length ≤ 1000000; omega, h.lent, h.lenu⟩, ⟨hm.pp, hm.tt, by show (del _ _).length ≤ n + 1; omega, hm.uu⟩⟩
    · have l1 := ins_length s.subs c.link (x.1, c.on)
      exact ⟨⟨h.t, h.tr, h.nd, ins_nodup h.ns _ _, h.nu, by show (ins _ _ _).length ≤ 1000000; omega, h.lent, h.lenu⟩, ⟨hm.pp, hm.tt, by show (ins _ _ _).length ≤ n + 1; omega, hm.uu⟩⟩
  · unfold trackM
    split
    · exact ⟨h, hm⟩
    rename_i t ht2
    split
    · exact ⟨removeM_OK h _, removeM_N hm _⟩
    · have l1 := ins_length s.tracks c.key ⟨t.video, c.on, t.ssrcs⟩
      refine ⟨⟨h.t, fun p hp => ?_, ins_nodup h.nd _ _, h.ns, h.nu, h.len, ?_, h.lenu⟩, ⟨hm.pp, ?_, hm.ss, hm.uu⟩⟩
      · rcases ins_mem hp with rfl | hp
        · exact h.tr (c.key, t) (lk_mem ht2)
        · exact h.tr p hp
      · show (ins _ _ _).length ≤ 1000000; omega
      · show (ins _ _ _).length ≤ n + 1; omega
end Go.Abs.X

namespace Go.Abs.X
open Go.Abs Go Go.Proofs
variable {w0 : World}

def St.h (s : St) : Heap := [some (.cells [.ptr 1 0, .map 2, .map 3, .map 4] 31 false), some (.cells [.map 5, .dat (.int .i64 s.t.next)] 107 false),
  some (.mapD (s.tracks.map EK.e)), some (.mapD (s.subs.map EL.e)), some (.mapD (s.srcs.map EU.e)), some (.mapD (s.t.peers.map EP.e))]
def St.none : St := ⟨⟨0, []⟩, [], [], []⟩
theorem anew_ok (K : AV → Heap → Prop) (hk : K (.ptr 0 0) St.none.h) : CallA (cx w0) 10 [] [] K := by
  refine CallA.ret ?_
  refine CallA.enter ok (dr (plOf [])) Tryz.func10 Tryz.call10 ?_
  refine call_at [] (new_ok _ ?_) rfl rfl rfl rfl
  exact leaf [5, 0, 2, 3, 4, 1] _ St.none.h rfl rfl rfl rfl rfl hk
theorem sub_ok (s : St) (l : LinkT) (K : AV → Heap → Prop) (hk : K (.dat (.tup [(subR s l).1, .bool (subR s l).2])) s.h) : CallA (cx w0) 19 [.ptr 0 0, .dat l.dv] s.h K := by
  refine CallA.ret ?_
  refine CallA.enter ok (dr (plOf pl19)) Tryz.func19 Tryz.call19 ?_
  refine req ?_ ?_
  · decide +kernel
  refine look_enc EL (fun h => ?_) (fun p h => ?_)
  all_goals
    simp only [subR, h] at hk
    exact leaf [0, 1, 2, 3, 4, 5] _ s.h rfl rfl rfl rfl rfl hk
theorem source_ok (s : St) (n : Int) (K : AV → Heap → Prop) (hk : K (.dat (.tup [(srcR s n).1, .bool (srcR s n).2])) s.h) : CallA (cx w0) 21 [.ptr 0 0, .dat (u32 n)] s.h K := by
  refine CallA.ret ?_
  refine CallA.enter ok (dr (plOf [])) Tryz.func21 Tryz.call21 ?_
  refine look_enc EU (fun h => ?_) (fun p h => ?_)
  all_goals
    simp only [srcR, h] at hk
    exact leaf [0, 1, 2, 3, 4, 5] _ s.h rfl rfl rfl rfl rfl hk
theorem track_ok (s : St) (hs : StOK s) (k : KeyT) (K : AV → Heap → Prop) (hk : K (.dat (.tup [(trackR s k).1, .bool (trackR s k).2])) s.h) : CallA (cx w0) 20 [.ptr 0 0, .dat (keyD k)] s.h K := by
  refine CallA.ret ?_
  refine CallA.enter ok (dr (plOf pl20)) Tryz.func20 Tryz.call20 ?_
  refine req ?_ ?_
  · decide +kernel
  refine look_enc EK (fun h => ?_) (fun p h => ?_)
  · simp only [trackR, h] at hk
    repeat refine eqA ?_
    refine call_at [] (clone_nil _ ?_) rfl rfl rfl rfl
    exact leaf [0, 1, 2, 3, 4, 5] _ s.h rfl rfl rfl rfl rfl hk
  · simp only [trackR, h] at hk
    repeat refine eqA ?_
    have hl := hs.tr _ (lk_mem h)
    dsimp only at hl
    refine call_at [] (clone_ok p.ssrcs none hl.1 (by omega) _ ?_) rfl rfl rfl rfl
    exact leaf [0, 1, 2, 3, 4, 5] _ s.h rfl rfl rfl rfl rfl hk
theorem links_ok (s : St) (hs : StOK s) (K : AV → Heap → Prop) (hk : K (.dat (valLink s.links)) s.h) : CallA (cx w0) 16 [.ptr 0 0] s.h K := by
  refine CallA.ret ?_
  refine CallA.enter ok (dr (plOf [])) Tryz.func16 Tryz.call16 ?_
  refine call_at [3] (keysLink_ok (s.subs.map EL.e) _ ?_) rfl rfl rfl rfl
  refine call_at [3, 6] (sortedLink_ok (s.subs.map EL.e) (fun e he => ?_) (by rw [List.length_map]; exact hs.len) _ (fun ks hp => ?_)) rfl rfl rfl rfl
  · obtain ⟨p, _, rfl⟩ := List.mem_map.1 he
    exact ⟨p.1, rfl⟩
  · have hl : sortL ks = s.links := by
      apply sortL_perm
      apply perm_of_map (f := LinkT.dv) (fun a b h => by cases a; cases b; simpa [LinkT.dv, linkD] using h)
      refine hp.trans ?_
      rw [List.map_map, List.map_map]
      exact List.Perm.refl _
    rw [hl]
    exact leaf [0, 1, 2, 3, 4, 5] (.dat (valLink s.links)) s.h rfl rfl rfl rfl rfl hk
end Go.Abs.X

namespace Go.Abs.X
open Go.Abs Go Go.Proofs
variable {w0 : World}


theorem EL_inj (a b : LinkT × SubV) (h : EL.l a = EL.l b) : a = b := by
  obtain ⟨⟨x, y, z⟩, u, v⟩ := a
  obtain ⟨⟨x', y', z'⟩, u', v'⟩ := b
  simp only [Enc.l, EL, LinkT.dv, linkD, subD, Prod.mk.injEq, AV.dat.injEq, DV.int.injEq, DV.agg.injEq, List.cons.injEq, DV.bool.injEq] at h
  obtain ⟨⟨⟨_, h1⟩, ⟨_, h2⟩, ⟨_, h3⟩, _⟩, ⟨_, h4⟩, h5, _⟩ := h
  subst h1 h2 h3 h4 h5; rfl
set_option maxHeartbeats 1000000 in
theorem count_ok (s : St) (hs : StOK s) (who : Int) (K : AV → Heap → Prop) (hk : K (.dat (.int .i64 (cntM s who : Nat))) s.h) : CallA (cx w0) 89 [.ptr 0 0, .dat (.int .i64 who)] s.h K := by
  refine CallA.ret ?_
  refine CallA.enter ok (dr (plOf [])) Tryz.func89 Tryz.call89 ?_
  refine rangeM fun bs clk hbl hbp hbc => ?_
  have hel : bs.length = (liftE (s.subs.map EL.e)).length := by rw [liftE_length]; exact hbl
  let H : List Nat × List (LinkT × SubV) → Heap := fun x => [some (.cells [.ptr 1 0, .map 2, .map 3, .map 4] 31 false), some (.cells [.map 5, .dat (.int .i64 s.t.next)] 107 false), some (.mapD (s.tracks.map EK.e)), some (.mapB bs clk (liftE (s.subs.map EL.e))), some (.mapD (s.srcs.map EU.e)), some (.mapD (s.t.peers.map EP.e)), some (.miter 3 clk x.1)]
  let E : List Nat × List (LinkT × SubV) → Env := fun x => mkE [1, 5, 11] [.dat (.int .i64 who), .dat (.int .i64 ((x.2.filter fun p => decide (p.1.who = who)).length : Nat)), .ptr 6 0]
  refine loop_in [1, 5, 11] [0, 1, 2, 3, 4, 5, 6] [.dat (.int .i64 who), .dat (.int .i64 (0 : Nat)), .ptr 6 0] (H ([], [])) rfl rfl rfl rfl (hin_cons rfl (hin_cons rfl (hin_cons rfl (hin_cons ren_mapB (hin_cons rfl (hin_cons rfl (hin_cons rfl hin_nil))))))) ?_
  refine loop_ind E H (fun x => Came bs x.1 ∧ x.2.map EL.l = x.1.reverse.filterMap (entB bs (liftE (s.subs.map EL.e))) ∧ x.2.length = x.1.length) (fun x => bs.length - x.1.length) ?_ ([], []) ⟨Came.nil bs, rfl, rfl⟩
  rintro ⟨seen, ps⟩ ⟨came, hps, hl⟩ ih
  replace came : Came bs seen := came
  replace hps : ps.map EL.l = seen.reverse.filterMap (entB bs (liftE (s.subs.map EL.e))) := hps
  replace hl : ps.length = seen.length := hl
  refine loopA_round ok (dr (plOf []) _) ?_
  refine req rfl ?_
  refine nextM (fun b k v he hn => ?_) (fun hall => ?_)
  · obtain ⟨p, hp, rfl, rfl⟩ := ent_enc EL he
    have go := ih (b :: seen, ps ++ [p]) ⟨came.cons he hn, by rw [came_snoc he, List.map_append, ← hps]; rfl, by simp [hl]⟩ (by have := (came.cons he hn).le; simp only [List.length_cons] at this ⊢; omega)
    have hle := (came.cons he hn).le
    have hbs : bs.length ≤ 1000000 := by rw [hbl, List.length_map]; exact hs.len
    have hfl := List.length_filter_le (fun p : LinkT × SubV => decide (p.1.who = who)) ps
    simp only [List.length_cons] at hle
    clear ih
    refine condA_true rfl ?_
    refine req rfl ?_
    refine optA _ he ?_
    by_cases h : p.1.who = who
    · refine condA_true (by simpa using h) ?_
      refine loop_in [1, 5, 11] [0, 1, 2, 3, 4, 5, 6] [.dat (.int .i64 who), .dat (.int .i64 (((ps ++ [p]).filter fun p => decide (p.1.who = who)).length : Nat)), .ptr 6 0] (H (b :: seen, ps ++ [p])) ?_ rfl rfl rfl (hin_cons rfl (hin_cons rfl (hin_cons rfl (hin_cons ren_mapB (hin_cons rfl (hin_cons rfl (hin_cons rfl hin_nil))))))) go
      have e : (((ps ++ [p]).filter fun p => decide (p.1.who = who)).length : Int) = IntKind.i64.wrap (((ps.filter fun p => decide (p.1.who = who)).length : Int) + 1) := by
        rw [wrap_i64 _ (by omega) (by omega), List.filter_append, List.length_append]; simp [h]
      rw [e]; rfl
    · refine condA_false (by simpa using h) ?_
      refine loop_in [1, 5, 11] [0, 1, 2, 3, 4, 5, 6] [.dat (.int .i64 who), .dat (.int .i64 (((ps ++ [p]).filter fun p => decide (p.1.who = who)).length : Nat)), .ptr 6 0] (H (b :: seen, ps ++ [p])) ?_ rfl rfl rfl (hin_cons rfl (hin_cons rfl (hin_cons rfl (hin_cons ren_mapB (hin_cons rfl (hin_cons rfl (hin_cons rfl hin_nil))))))) go
      have e : (((ps ++ [p]).filter fun p => decide (p.1.who = who)).length : Int) = ((ps.filter fun p => decide (p.1.who = who)).length : Int) := by
        rw [List.filter_append, List.length_append]; simp [h]
      rw [e]; rfl
  · refine condA_false rfl ?_
    have hpm : ps.Perm s.subs := by
      apply perm_of_map2 EL_inj
      rw [hps, ← lift_enc]
      exact came.perm hel hbp hall
    refine shift_unBD' 3 (s.subs.map EL.e) rfl rfl ?_
    have e : (ps.filter fun p => decide (p.1.who = who)).length = cntM s who := (hpm.filter _).length_eq
    refine leaf [0, 1, 2, 3, 4, 5] (.dat (.int .i64 (cntM s who : Nat))) s.h ?_ rfl rfl rfl rfl hk
    rw [← e]; rfl
theorem gone1_ok (k : KeyT) (l : LinkT) (x : SubV) (K : AV → Heap → Prop) (hk : K (.dat (.bool (decide (l.peer = k.1 ∧ l.n = k.2)))) [some (.cells [.dat (i64 k.1), .dat (i64 k.2)] 42 false)]) :
    CallA (cx w0) 126 [.dat l.dv, .dat (subD x), .ptr 0 0] [some (.cells [.dat (i64 k.1), .dat (i64 k.2)] 42 false)] K := by
  refine CallA.ret ?_
  refine CallA.enter ok (dr (plOf [])) Tryz.func126 Tryz.call126 ?_
  refine leaf [0] _ [some (.cells [.dat (i64 k.1), .dat (i64 k.2)] 42 false)] ?_ rfl rfl rfl rfl hk
  show AV.dat (.bool _) = AV.dat (.bool (l.peer == k.1 && (l.n == k.2 && true)))
  congr 2
  rw [Bool.eq_iff_iff]; simp
theorem gone2_ok (n : Int) (l : LinkT) (x : SubV) (K : AV → Heap → Prop) (hk : K (.dat (.bool (decide (l.who = n)))) [some (.cells [.dat (i64 n)] 3 false)]) :
    CallA (cx w0) 88 [.dat l.dv, .dat (subD x), .ptr 0 0] [some (.cells [.dat (i64 n)] 3 false)] K := by
  refine CallA.ret ?_
  refine CallA.enter ok (dr (plOf [])) Tryz.func88 Tryz.call88 ?_
  refine leaf [0] _ [some (.cells [.dat (i64 n)] 3 false)] ?_ rfl rfl rfl rfl hk
  show AV.dat (.bool _) = AV.dat (.bool (l.who == n))
  rw [beqI]

theorem delete_ok (l : List (LinkT × SubV)) (hn : (l.map (·.1)).Nodup) (pr : LinkT → Bool) (ds : List DV) (ty : Nat) (g : Nat)
    (hg : ∀ (x : LinkT) (y : SubV) (K : AV → Heap → Prop), K (.dat (.bool (pr x))) [some (.cells (ds.map .dat) ty false)] → CallA (cx w0) g [.dat x.dv, .dat (subD y), .ptr 0 0] [some (.cells (ds.map .dat) ty false)] K)
    (K : AV → Heap → Prop) (hk : K (.dat (.tup [])) [some (.mapD ((l.filter fun p => !pr p.1).map EL.e)), some (.cells (ds.map .dat) ty false)]) :
    CallA (cx w0) 87 [.map 0, .func g [.ptr 1 0]] [some (.mapD (l.map EL.e)), some (.cells (ds.map .dat) ty false)] K := by
  refine CallA.ret ?_
  refine CallA.enter ok (dr (plOf [])) Tryz.func87 Tryz.call87 ?_
  refine rangeM fun bs clk hbl hbp hbc => ?_
  have hbl : bs.length = l.length := by rw [hbl, List.length_map]
  obtain ⟨e1, e2⟩ := zip_q bs l hbl
  let H : List Nat × List (Nat × LinkT × SubV) → Heap := fun x => [some (.mapB (qB x.2) clk (liftE ((qM x.2).map EL.e))), some (.cells (ds.map .dat) ty false), some (.miter 0 clk x.1)]
  refine loop_in [0, 1, 7] [0, 1, 2] [.map 0, .func g [.ptr 1 0], .ptr 2 0] (H ([], bs.zip l)) rfl rfl rfl rfl (hin_cons (ren_mapQ e1.symm (by rw [e2])) (hin_cons (renTs_datC rfl) (hin_cons rfl hin_nil))) ?_
  refine loop_ind (fun _ => mkE [0, 1, 7] [.map 0, .func g [.ptr 1 0], .ptr 2 0]) H (fun x => Goes l pr bs x.2 x.1) (fun x => left bs x.1) ?_ ([], bs.zip l) (Goes.start pr hbl hbp hn)
  rintro ⟨seen, q⟩ goes ih
  replace goes : Goes l pr bs q seen := goes
  refine loopA_round ok (dr (plOf []) _) ?_
  refine req rfl ?_
  refine nextM (fun b k v he hn => ?_) (fun hall => ?_)
  · obtain ⟨p, hp, rfl, rfl⟩ := ent_q EL he
    have hb := goes.sub b (List.mem_map.2 ⟨_, hp, rfl⟩)
    refine condA_true rfl ?_
    refine req rfl ?_
    refine optA _ he ?_
    refine call_can ?_
    refine call_in [1] (hg p.1 p.2 _ ?_) rfl rfl rfl (hin_cons (renTs_datC rfl) hin_nil)
    by_cases h : pr p.1 = true
    · have go := ih (b :: seen, delQ q p.1) (goes.drop hp h) (left_lt hb hn)
      refine condA_true h ?_
      refine req (isSome_lift EL _ _) ?_
      exact loop_in [0, 1, 7] [0, 1, 2] [.map 0, .func g [.ptr 1 0], .ptr 2 0] (H (b :: seen, delQ q p.1)) rfl rfl rfl rfl (hin_cons (ren_mapQ (posE_enc EL q p.1) (delE_lift EL q p.1)) (hin_cons (renTs_datC (by simp only [renTs_dat])) (hin_cons rfl hin_nil))) go
    · have h : pr p.1 = false := by simpa using h
      have go := ih (b :: seen, q) (goes.keep hp h) (left_lt hb hn)
      refine condA_false h ?_
      exact loop_in [0, 1, 7] [0, 1, 2] [.map 0, .func g [.ptr 1 0], .ptr 2 0] (H (b :: seen, q)) rfl rfl rfl rfl (hin_cons (ren_mapQ rfl rfl) (hin_cons (renTs_datC (by simp only [renTs_dat])) (hin_cons rfl hin_nil))) go
  · refine condA_false rfl ?_
    have e := goes.fin hall
    refine shift_unBD' 0 ((qM q).map EL.e) rfl rfl ?_
    rw [e]
    exact leaf_in [0, 1] (.dat (.tup [])) [some (.mapD ((l.filter fun p => !pr p.1).map EL.e)), some (.cells (ds.map .dat) ty false)] rfl rfl rfl rfl (hin_cons rfl (hin_cons (renTs_datC rfl) hin_nil)) hk
end Go.Abs.X

namespace Go.Abs.X
open Go.Abs Go Go.Proofs
variable {w0 : World}

theorem isSome_d1 (l : List (Int × SrcV)) (a b : Int) : (findE (delE (l.map EU.e) (EU.k a)) (EU.k b)).isSome = true := by rw [del_enc]; exact isSome_enc EU _ _
theorem isSome_d2 (l : List (Int × SrcV)) (a b c : Int) : (findE (delE (delE (l.map EU.e) (EU.k a)) (EU.k b)) (EU.k c)).isSome = true := by rw [del_enc, del_enc]; exact isSome_enc EU _ _
set_option maxHeartbeats 1000000 in
theorem remove_ok (s : St) (hs : StOK s) (k : KeyT) (K : AV → Heap → Prop) (hk : K (.dat (.tup [])) (removeM s k).h) : CallA (cx w0) 86 [.ptr 0 0, .dat (keyD k)] s.h K := by
  refine CallA.ret ?_
  refine CallA.enter ok (dr (plOf pl86)) Tryz.func86 Tryz.call86 ?_
  refine req ?_ ?_
  · decide +kernel
  unfold removeM ssOf at hk
  refine look_enc EK (fun h => ?_) (fun t h => ?_)
  · rw [h] at hk
    refine loopA_round ok (dr (plOf pl86) _) ?_
    repeat (first | (refine condA_true ?_ ?_; focus (first | rfl | (simp; done) | (simp; omega))) | (refine condA_false ?_ ?_; focus (first | rfl | (simp; done) | (simp; omega))))
    refine req ?_ ?_
    · decide +kernel
    refine req (isSome_enc EK _ _) ?_
    refine call_at [3, 6] (delete_ok s.subs hs.ns (isOf k) [i64 k.1, i64 k.2] 42 126 (fun x y K hk => gone1_ok k x y K hk) _ ?_) rfl rfl rfl rfl
    exact leaf_in [0, 1, 2, 3, 4, 5] (.dat (.tup [])) (St.h ⟨s.t, del s.tracks k, s.subs.filter fun p => !isOf k p.1, s.srcs⟩) rfl rfl rfl rfl (hin_cons rfl (hin_cons rfl (hin_cons (ren_mapD (del_enc EK s.tracks k)) (hin_cons rfl (hin_cons rfl (hin_cons rfl hin_nil)))))) hk
  · rw [h] at hk
    have hl := hs.tr _ (lk_mem h)
    obtain ⟨video, muted, xs⟩ := t
    dsimp only at hl hk
    repeat refine eqA ?_
    rcases xs with _ | ⟨a, _ | ⟨b, _ | ⟨c, _ | ⟨d, l⟩⟩⟩⟩
    · simp at hl
    · refine loopA_round ok (dr (plOf pl86) _) ?_
      refine condA_true rfl ?_
      refine req (of_decide_eq_true rfl) ?_
      refine optA _ rfl ?_
      refine req (isSome_enc EU _ _) ?_
      refine loopA_round ok (dr (plOf pl86) _) ?_
      refine condA_false rfl ?_
      refine req ?_ ?_
      · decide +kernel
      refine req (isSome_enc EK _ _) ?_
      refine call_at [3, 6] (delete_ok s.subs hs.ns (isOf k) [i64 k.1, i64 k.2] 42 126 (fun x y K hk => gone1_ok k x y K hk) _ ?_) rfl rfl rfl rfl
      exact leaf_in [0, 1, 2, 3, 4, 5] (.dat (.tup [])) (St.h ⟨s.t, del s.tracks k, s.subs.filter fun p => !isOf k p.1, del s.srcs a⟩) rfl rfl rfl rfl (hin_cons rfl (hin_cons rfl (hin_cons (ren_mapD (del_enc EK s.tracks k)) (hin_cons rfl (hin_cons (ren_mapD (del_enc EU s.srcs a)) (hin_cons rfl hin_nil)))))) hk
    · refine loopA_round ok (dr (plOf pl86) _) ?_
      refine condA_true rfl ?_
      refine req (of_decide_eq_true rfl) ?_
      refine optA _ rfl ?_
      refine req (isSome_enc EU _ _) ?_
      refine loopA_round ok (dr (plOf pl86) _) ?_
      refine condA_true rfl ?_
      refine req (of_decide_eq_true rfl) ?_
      refine optA _ rfl ?_
      refine req (isSome_d1 _ _ _) ?_
      refine loopA_round ok (dr (plOf pl86) _) ?_
      refine condA_false rfl ?_
      refine req ?_ ?_
      · decide +kernel
      refine req (isSome_enc EK _ _) ?_
      refine call_at [3, 6] (delete_ok s.subs hs.ns (isOf k) [i64 k.1, i64 k.2] 42 126 (fun x y K hk => gone1_ok k x y K hk) _ ?_) rfl rfl rfl rfl
      exact leaf_in [0, 1, 2, 3, 4, 5] (.dat (.tup [])) (St.h ⟨s.t, del s.tracks k, s.subs.filter fun p => !isOf k p.1, del (del s.srcs a) b⟩) rfl rfl rfl rfl (hin_cons rfl (hin_cons rfl (hin_cons (ren_mapD (del_enc EK s.tracks k)) (hin_cons rfl (hin_cons (ren_mapD (by rw [← del_enc EU, ← del_enc EU]; rfl)) (hin_cons rfl hin_nil)))))) hk
    · refine loopA_round ok (dr (plOf pl86) _) ?_
      refine condA_true rfl ?_
      refine req (of_decide_eq_true rfl) ?_
      refine optA _ rfl ?_
      refine req (isSome_enc EU _ _) ?_
      refine loopA_round ok (dr (plOf pl86) _) ?_
      refine condA_true rfl ?_
      refine req (of_decide_eq_true rfl) ?_
      refine optA _ rfl ?_
      refine req (isSome_d1 _ _ _) ?_
      refine loopA_round ok (dr (plOf pl86) _) ?_
      refine condA_true rfl ?_
      refine req (of_decide_eq_true rfl) ?_
      refine optA _ rfl ?_
      refine req (isSome_d2 _ _ _ _) ?_
      refine loopA_round ok (dr (plOf pl86) _) ?_
      refine condA_false rfl ?_
      refine req ?_ ?_
      · decide +kernel
      refine req (isSome_enc EK _ _) ?_
      refine call_at [3, 6] (delete_ok s.subs hs.ns (isOf k) [i64 k.1, i64 k.2] 42 126 (fun x y K hk => gone1_ok k x y K hk) _ ?_) rfl rfl rfl rfl
      exact leaf_in [0, 1, 2, 3, 4, 5] (.dat (.tup [])) (St.h ⟨s.t, del s.tracks k, s.subs.filter fun p => !isOf k p.1, del (del (del s.srcs a) b) c⟩) rfl rfl rfl rfl (hin_cons rfl (hin_cons rfl (hin_cons (ren_mapD (del_enc EK s.tracks k)) (hin_cons rfl (hin_cons (ren_mapD (by rw [← del_enc EU, ← del_enc EU, ← del_enc EU]; rfl)) (hin_cons rfl hin_nil)))))) hk
    · simp at hl
set_option maxHeartbeats 1000000 in
theorem aleave_ok (s : St) (hs : StOK s) (n : Int) (K : AV → Heap → Prop) (hk : K (.dat (.int .i64 (leaveM s n).1)) (leaveM s n).2.h) : CallA (cx w0) 35 [.ptr 0 0, .dat (.int .i64 n)] s.h K := by
  refine CallA.ret ?_
  refine CallA.enter ok (dr (plOf pl35)) Tryz.func35 Tryz.call35 ?_
  refine req ?_ ?_
  · decide +kernel
  unfold leaveM at hk
  refine call_at [1, 5] (leave_ok s.t n _ (fun h => ?_) (fun p h => ?_)) rfl rfl rfl rfl
  · rw [h] at hk
    repeat refine eqA ?_
    repeat (first | (refine condA_true ?_ ?_; focus (first | rfl | (simp; done) | (simp; omega))) | (refine condA_false ?_ ?_; focus (first | rfl | (simp; done) | (simp; omega))))
    exact leaf [0, 1, 2, 3, 4, 5] (.dat (.int .i64 8)) s.h rfl rfl rfl rfl rfl hk
  · rw [h] at hk
    dsimp only at hk
    repeat refine eqA ?_
    repeat (first | (refine condA_true ?_ ?_; focus (first | rfl | (simp; done) | (simp; omega))) | (refine condA_false ?_ ?_; focus (first | rfl | (simp; done) | (simp; omega))))
    have o0 := offM_OK hs n
    have o1 := removeM_OK o0 (n, 0)
    have o2 := removeM_OK o1 (n, 1)
    have o3 := removeM_OK o2 (n, 2)
    have o4 := removeM_OK o3 (n, 3)
    refine loopA_round ok (dr (plOf pl35) _) ?_
    refine condA_true rfl ?_
    refine call_can ?_
    refine call_at [0, 1, 2, 3, 4, 5] (remove_ok (offM s n) o0 (n, 0) _ ?_) rfl rfl rfl rfl
    refine loopA_round ok (dr (plOf pl35) _) ?_
    refine condA_true rfl ?_
    refine call_can ?_
    refine call_at [0, 1, 2, 3, 4, 5] (remove_ok _ o1 (n, 1) _ ?_) rfl rfl rfl rfl
    refine loopA_round ok (dr (plOf pl35) _) ?_
    refine condA_true rfl ?_
    refine call_can ?_
    refine call_at [0, 1, 2, 3, 4, 5] (remove_ok _ o2 (n, 2) _ ?_) rfl rfl rfl rfl
    refine loopA_round ok (dr (plOf pl35) _) ?_
    refine condA_true rfl ?_
    refine call_can ?_
    refine call_at [0, 1, 2, 3, 4, 5] (remove_ok _ o3 (n, 3) _ ?_) rfl rfl rfl rfl
    refine loopA_round ok (dr (plOf pl35) _) ?_
    refine condA_false rfl ?_
    refine call_at [3, 6] (delete_ok _ o4.ns (isBy n) [i64 n] 3 88 (fun x y K hk => gone2_ok n x y K hk) _ ?_) rfl rfl rfl rfl
    exact leaf [0, 1, 2, 3, 4, 5] (.dat (.int .i64 0)) (St.h (byeM (removeM (removeM (removeM (removeM (offM s n) (n, 0)) (n, 1)) (n, 2)) (n, 3)) n)) rfl rfl rfl rfl rfl hk
end Go.Abs.X

namespace Go.Abs.X
open Go.Abs Go Go.Proofs
variable {w0 : World}

theorem link_ok (s : St) (c : Cmd) (hc : Sl c.ssrcs c.sdv) (K : AV → Heap → Prop) (hk : K (.dat (.int .i64 (linkM s c).1)) (linkM s c).2.h) : CallA (cx w0) 38 [.ptr 0 0, .dat c.dv] s.h K := by
  have e : c.link = ⟨c.peer, c.of, c.track⟩ := rfl
  unfold linkM at hk
  obtain ⟨kind, room, name, peer, of, track, layer, on, video, ssrcs, sdv⟩ := c
  dsimp only at hc e hk
  generalize Cmd.link _ = l at hk e
  refine CallA.ret ?_
  refine CallA.enter ok (dr (plOf pl38)) Tryz.func38 Tryz.call38 ?_
  cases hc
  all_goals
    refine req ?_ ?_
    · decide +kernel
    refine look_enc EL (k := ⟨peer, of, track⟩) (fun h => ?_) (fun x h => ?_)
    · rw [← e] at h
      rw [h] at hk
      repeat refine eqA ?_
      repeat (first | (refine condA_true ?_ ?_; focus (first | rfl | (simp; done) | (simp; omega))) | (refine condA_false ?_ ?_; focus (first | rfl | (simp; done) | (simp; omega))))
      exact leaf [0, 1, 2, 3, 4, 5] (.dat (.int .i64 12)) s.h rfl rfl rfl rfl rfl hk
    · rw [← e] at h
      rw [h] at hk
      subst e
      dsimp only at hk
      repeat refine eqA ?_
      by_cases k6 : kind = 6
      · rw [if_pos k6] at hk
        repeat (first | (refine condA_true ?_ ?_; focus (first | rfl | (simp; done) | (simp; omega) | (simp [k6]; done) | (simp [k6]; omega))) | (refine condA_false ?_ ?_; focus (first | rfl | (simp; done) | (simp; omega) | (simp [k6]; done) | (simp [k6]; omega))))
        refine req ?_ ?_
        · decide +kernel
        refine req (isSome_enc EL s.subs ⟨peer, of, track⟩) ?_
        exact leaf_in [0, 1, 2, 3, 4, 5] (.dat (.int .i64 0)) (St.h ⟨s.t, s.tracks, del s.subs ⟨peer, of, track⟩, s.srcs⟩) rfl rfl rfl rfl (hin_cons rfl (hin_cons rfl (hin_cons rfl (hin_cons (ren_mapD (del_enc EL s.subs ⟨peer, of, track⟩)) (hin_cons rfl (hin_cons rfl hin_nil)))))) hk
      · rw [if_neg k6] at hk
        repeat (first | (refine condA_true ?_ ?_; focus (first | rfl | (simp; done) | (simp; omega) | (simp [k6]; done) | (simp [k6]; omega))) | (refine condA_false ?_ ?_; focus (first | rfl | (simp; done) | (simp; omega) | (simp [k6]; done) | (simp [k6]; omega))))
        refine req ?_ ?_
        · decide +kernel
        refine req (isSome_enc EL s.subs ⟨peer, of, track⟩) ?_
        exact leaf_in [0, 1, 2, 3, 4, 5] (.dat (.int .i64 0)) (St.h ⟨s.t, s.tracks, ins s.subs ⟨peer, of, track⟩ (x.1, on), s.srcs⟩) rfl rfl rfl rfl (hin_cons rfl (hin_cons rfl (hin_cons rfl (hin_cons (ren_mapD (ins_enc EL s.subs ⟨peer, of, track⟩ (x.1, on))) (hin_cons rfl (hin_cons rfl hin_nil)))))) hk
theorem atrack_ok (s : St) (hs : StOK s) (c : Cmd) (hc : Sl c.ssrcs c.sdv) (K : AV → Heap → Prop) (hk : K (.dat (.int .i64 (trackM s c).1)) (trackM s c).2.h) : CallA (cx w0) 39 [.ptr 0 0, .dat c.dv] s.h K := by
  have e : c.key = (c.peer, c.track) := rfl
  unfold trackM at hk
  obtain ⟨kind, room, name, peer, of, track, layer, on, video, ssrcs, sdv⟩ := c
  dsimp only at hc e hk
  generalize Cmd.key _ = l at hk e
  refine CallA.ret ?_
  refine CallA.enter ok (dr (plOf pl39)) Tryz.func39 Tryz.call39 ?_
  cases hc
  all_goals
    refine req ?_ ?_
    · decide +kernel
    refine look_enc EK (k := (peer, track)) (fun h => ?_) (fun x h => ?_)
    · rw [← e] at h
      rw [h] at hk
      repeat refine eqA ?_
      repeat (first | (refine condA_true ?_ ?_; focus (first | rfl | (simp; done) | (simp; omega))) | (refine condA_false ?_ ?_; focus (first | rfl | (simp; done) | (simp; omega))))
      exact leaf [0, 1, 2, 3, 4, 5] (.dat (.int .i64 9)) s.h rfl rfl rfl rfl rfl hk
    · rw [← e] at h
      rw [h] at hk
      subst e
      dsimp only at hk
      repeat refine eqA ?_
      by_cases k4 : kind = 4
      · rw [if_pos k4] at hk
        repeat (first | (refine condA_true ?_ ?_; focus (first | rfl | (simp; done) | (simp; omega) | (simp [k4]; done) | (simp [k4]; omega))) | (refine condA_false ?_ ?_; focus (first | rfl | (simp; done) | (simp; omega) | (simp [k4]; done) | (simp [k4]; omega))))
        refine call_can ?_
        refine call_at [0, 1, 2, 3, 4, 5] (remove_ok s hs (peer, track) _ ?_) rfl rfl rfl rfl
        exact leaf [0, 1, 2, 3, 4, 5] (.dat (.int .i64 0)) (St.h (removeM s (peer, track))) rfl rfl rfl rfl rfl hk
      · rw [if_neg k4] at hk
        repeat (first | (refine condA_true ?_ ?_; focus (first | rfl | (simp; done) | (simp; omega) | (simp [k4]; done) | (simp [k4]; omega))) | (refine condA_false ?_ ?_; focus (first | rfl | (simp; done) | (simp; omega) | (simp [k4]; done) | (simp [k4]; omega))))
        refine req ?_ ?_
        · decide +kernel
        refine req (isSome_enc EK s.tracks (peer, track)) ?_
        exact leaf_in [0, 1, 2, 3, 4, 5] (.dat (.int .i64 0)) (St.h ⟨s.t, ins s.tracks (peer, track) ⟨x.video, on, x.ssrcs⟩, s.subs, s.srcs⟩) rfl rfl rfl rfl (hin_cons rfl (hin_cons rfl (hin_cons (ren_mapD (ins_enc EK s.tracks (peer, track) ⟨x.video, on, x.ssrcs⟩)) (hin_cons rfl (hin_cons rfl (hin_cons rfl hin_nil)))))) hk
end Go.Abs.X
