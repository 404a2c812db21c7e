/- The reference: Resolve. The faces' Copy. No condition but those written. -/
import Derived.Test.YtmjogpacajbngaaHi
import Derived.Laws.Externs
import Derived.MapKept
namespace Go.Proofs.Ytmjogpacajbngaa
open Go.RowKit

abbrev rrH (w : World) (a : Att) : Heap := [(w.heap.size, .cells 26 lookZV), (w.heap.size + 1, .cells 23 a.cells.toArray)]
theorem rr_start (w : World) : Own w ((w.alloc (.cells lookZV 26)).alloc (.cells attZ 23)) (rrH w attZero) := by
  have := ((Own.refl w).newCells 26 lookZV).newCells 23 attZ
  rw [World.size_alloc] at this
  exact this.perm (List.Perm.swap _ _ _)
theorem rr_six {w wr : World} {b : Att} (h : Own w wr (rrH w b)) (a : Att) : Own w ((((((wr.setCell ⟨w.heap.size + 1, 0, none⟩ (.int .i64 a.fo)).setCell ⟨w.heap.size + 1, 1, none⟩ (.int .i64 a.ba)).setCell ⟨w.heap.size + 1, 2, none⟩ (.int .i64 a.bo)).setCell ⟨w.heap.size + 1, 3, none⟩ (.int .i64 a.un)).setCell ⟨w.heap.size + 1, 4, none⟩ (.int .i64 a.iv)).setCell ⟨w.heap.size + 1, 5, none⟩ (.string a.inh)) (rrH w a) := by
  have h1 := h.perm (List.Perm.swap _ _ _)
  exact (h1.turn (six_only wr (w.heap.size + 1) a) (b := .cells 23 a.cells.toArray) (six_blk (h1.blk (List.mem_cons_self ..)) a)).perm (List.Perm.swap _ _ _)
theorem rr_att {w wr : World} {a : Att} (h : Own w wr (rrH w a)) : AttAt wr (w.heap.size + 1) a := Blk.att (h.blk (t := 23) (by simp))
theorem rr_frz {w wr : World} {a : Att} (h : Own w wr (rrH w a)) (i : Nat) : wr.frozen? ⟨w.heap.size + 1, i, none⟩ = false := Blk.frozen (h.blk (t := 23) (cs := a.cells.toArray) (by simp)) i
theorem rr_end {w wr : World} {a : Att} (h : Own w wr (rrH w a)) (c1 c2 : Int) (b1 b2 b3 : Bool) : Blk (((((wr.setCell ⟨w.heap.size, 0, none⟩ (.int .i64 c1)).setCell ⟨w.heap.size, 1, none⟩ (.int .i64 c2)).setCell ⟨w.heap.size, 2, none⟩ (.bool b1)).setCell ⟨w.heap.size, 3, none⟩ (.bool b2)).setCell ⟨w.heap.size, 4, none⟩ (.bool b3)) w.heap.size 26 #[.int .i64 c1, .int .i64 c2, .bool b1, .bool b2, .bool b3] ∧ Below w.heap.size w (((((wr.setCell ⟨w.heap.size, 0, none⟩ (.int .i64 c1)).setCell ⟨w.heap.size, 1, none⟩ (.int .i64 c2)).setCell ⟨w.heap.size, 2, none⟩ (.bool b1)).setCell ⟨w.heap.size, 3, none⟩ (.bool b2)).setCell ⟨w.heap.size, 4, none⟩ (.bool b3)) := by
  have h2 := (((((h.setCell 0 (.int .i64 c1)).setCell 1 (.int .i64 c2)).setCell 2 (.bool b1)).setCell 3 (.bool b2)).setCell 4 (.bool b3))
  exact ⟨h2.blk (List.mem_cons_self ..), h2.bel⟩
theorem rr_cells {w wr : World} {a : Att} (h : Own w wr (rrH w a)) : (∀ i, wr.frozen? ⟨w.heap.size, i, none⟩ = false) ∧ wr.cell? ⟨w.heap.size, 0, none⟩ = some (.int .i64 0) ∧ wr.cell? ⟨w.heap.size, 1, none⟩ = some (.int .i64 0) ∧ wr.cell? ⟨w.heap.size, 2, none⟩ = some (.bool false) ∧ wr.cell? ⟨w.heap.size, 3, none⟩ = some (.bool false) ∧ wr.cell? ⟨w.heap.size, 4, none⟩ = some (.bool false) := by
  have h1 : Blk wr w.heap.size 26 lookZV := h.blk (List.mem_cons_self ..)
  exact ⟨h1.frozen, by rw [h1.cell]; rfl, by rw [h1.cell]; rfl, by rw [h1.cell]; rfl, by rw [h1.cell]; rfl, by rw [h1.cell]; rfl⟩
set_option maxRecDepth 100000 in
set_option maxRecDepth 100000 in
set_option maxHeartbeats 8000000 in
theorem rresolve_any {w : World} {rb : Nat} {A B E : Option Addr} {n c d N e : Nat} {L : Fm} (h : RfIn w rb A B n c d L) (hn : n ≤ 256) (hG : GoodF L) (l : List ByteArray) (hr : Rd w (.slice E N e) 1 N (strs l)) (hm : N ≤ 1000000) : Calls Try.prog 34 #[.pointer (some ⟨rb, 0, none⟩), .slice E N e] w fun e w' => e = .returned (lookV (over (accum L l) (fullA L dflt))) ∧ Below w.heap.size w w' := by
  have hlen : l.length = N := by
    obtain ⟨_, _, _, h, _⟩ := hr
    simpa [strs] using h
  have HN := hide hlen
  have HFU := hide (fun (w' : World) (hb : Below w.heap.size w w') (s : ByteArray) => rfull_any (h.below hb) hn hG s)
  have HR := hide hr
  have HS := hide (rr_start w)
  clear h hr hG hlen
  go_enter Try.func34, Try.ntmps34
  go_wp2_with fail
  go_loopw [6] (fun t wr => ∃ k : Nat, t = .int .i64 (k : Int) ∧ k ≤ N ∧ Own w wr (rrH w (accum L (l.take k)))) (fun t _ => N - (intOf t).toNat)
  case atStart => exact ⟨0, rfl, Nat.zero_le _, by rw [List.take_zero]; exact HS.out⟩
  case round =>
    obtain ⟨k, rfl, hk, hI⟩ := hrel
    have HI := hide hI
    by_cases hlt : k < N
    · have y1 : decide (k < N) = true := by simpa using hlt
      have y2 : decide ((k : Int) < (N : Int)) = true := decide_eq_true (by omega)
      obtain ⟨s, hs⟩ : ∃ s, l[k]? = some s := ⟨_, List.getElem?_eq_getElem (by rw [HN.out]; exact hlt)⟩
      obtain ⟨g, off, rfl, hcell⟩ := rd_str (HR.out) hs
      have q0 : wr.cell? ⟨g, off + k, none⟩ = some (.string s) := (World.cell?_of_block (hI.bel.block g (World.block_lt_of_cell? _ _ hcell))).trans hcell
      have HT := hide (show accum L (l.take (k + 1)) = over (accum L (l.take k)) (fullA L s) by rw [take_next hs]; exact accum_snoc _ _ _)
      have HLT := hide hlt
      clear hs hI
      go_wp2_with fail
      refine Calls.mono (HFU.out _ HI.out.bel s) ?_
      rintro r w5 ⟨rfl, hb5⟩
      have H6 := hide ((HI.out.below hb5).below ((Below.refl _ w5).alloc (Nat.le_refl _) (.cells (fullA L s).cells.toArray 23)))
      clear hb5 q0
      obtain ⟨a0, a1, a2, a3, a4, a5⟩ := rr_att H6.out
      go_wp2_with fail
      refine Calls.mono (rover_any (accum L (l.take k)) (fullA L s) _) ?_
      rintro r w6 ⟨rfl, hb6⟩
      have H7 := hide (H6.out.below hb6)
      have HF := hide (rr_six H7.out (over (accum L (l.take k)) (fullA L s)))
      clear hb6 a0 a1 a2 a3 a4 a5
      obtain ⟨a0, a1, a2, a3, a4, a5⟩ := rr_att H7.out
      have f0 := rr_frz H7.out 0
      have f1 := rr_frz H7.out 1
      have f2 := rr_frz H7.out 2
      have f3 := rr_frz H7.out 3
      have f4 := rr_frz H7.out 4
      have f5 := rr_frz H7.out 5
      go_wp2
      go_roundw
      case rel => exact ⟨k + 1, by go_num, HLT.out, by rw [HT.out]; exact HF.out⟩
      case measure => have := HLT.out; simp [intOf]; omega
    · have y1 : decide (k < N) = false := by simpa using hlt
      have y2 : decide ((k : Int) < (N : Int)) = false := decide_eq_false (by omega)
      have HT := hide (show l.take k = l from List.take_of_length_le (by have := HN.out; omega))
      clear hlt hI
      go_wp2_with fail
      refine Calls.mono (HFU.out _ HI.out.bel dflt) ?_
      rintro r w5 ⟨rfl, hb5⟩
      have H6 := hide ((HI.out.below hb5).below ((Below.refl _ w5).alloc (Nat.le_refl _) (.cells (fullA L dflt).cells.toArray 23)))
      clear hb5
      rw [HT.out] at H6
      obtain ⟨a0, a1, a2, a3, a4, a5⟩ := rr_att H6.out
      go_wp2_with fail
      refine Calls.mono (rover_any (accum L l) (fullA L dflt) _) ?_
      rintro r w6 ⟨rfl, hb6⟩
      have H7 := hide (H6.out.below hb6)
      clear hb6 a0 a1 a2 a3 a4 a5
      go_wp2_with fail
      refine Calls.mono (rlook_any (over (accum L l) (fullA L dflt)) _) ?_
      rintro r w7 ⟨rfl, hb7⟩
      have H8 := hide (H7.out.below hb7)
      clear hb7
      obtain ⟨c1, c2, b1, b2, b3, hlv⟩ : ∃ c1 c2 b1 b2 b3, lookV (over (accum L l) (fullA L dflt)) = .agg #[.int .i64 c1, .int .i64 c2, .bool b1, .bool b2, .bool b3] := ⟨_, _, _, _, _, rfl⟩
      have HLV := hide hlv
      have HE := hide (rr_end H8.out c1 c2 b1 b2 b3)
      obtain ⟨fr, l0, l1, l2, l3, l4⟩ := rr_cells H8.out
      have f0 := fr 0
      have f1 := fr 1
      have f2 := fr 2
      have f3 := fr 3
      have f4 := fr 4
      rw [hlv]
      clear hlv fr
      go_wp2
      refine bodyPost_ret (results_cell_row rfl _ _ w.heap.size 26 #[.int .i64 c1, .int .i64 c2, .bool b1, .bool b2, .bool b3] (0, 0) _ rfl (HE.out.1) Try.underlying26 rfl (by kernel_rfl)) rfl ?_
      exact ⟨by rw [HLV.out], HE.out.2⟩
theorem run_assert_map {P : Program} (w : World) (t xT k e : TypeId) (v : Value) (h : P.underlying t = some (.map k e)) : (Instr.typeAssert (.iface t v) xT t false).run P w = .ok v w := by
  simp [Instr.typeAssert, run_underlying h, go_sem, Result.andThen]
theorem run_clone {P : Program} {r : Nat} {es : Array MapEntry} {clock : Nat} (w : World) (t : TypeId) (hb : w.heap[r]? = some (.map es clock)) :
    (Extern.MapsClone.clone #[.iface t (.map (some r))]).run P w = .ok (.iface t (.map (some w.heap.size))) (w.alloc (.map es clock)) := by
  have e : Extern.MapsClone.clone #[.iface t (.map (some r))] = (getObj r >>= fun o => match o with
      | .map entries clock => (newObj (.map entries clock) >>= fun n => pure (.iface t (.map (some n))))
      | _ => stuck "maps.clone: a map expected") := rfl
  rw [e]
  simp [MapKept.run_getObj_map hb, Result.andThen, go_sem]
theorem eql_faces (w : World) (p : Option Nat) : (binOp .eql 58 (.map p) (.map none)).run Try.prog w = .ok (.bool p.isNone) w := run_eql_map_nil w _ _ _ p Try.underlying58
attribute [local go_sem] eql_faces
set_option maxRecDepth 100000 in
set_option maxRecDepth 100000 in
set_option maxHeartbeats 2000000 in
theorem clone_faces (b : Nat) (es : Array MapEntry) (clock : Nat) (w : World) (hb : w.heap[b]? = some (.map es clock)) :
    Calls Try.prog 50 #[.map (some b)] w fun e w' => e = .returned (.map (some w.heap.size)) ∧ w' = w.alloc (.map es clock) := by
  go_enter Try.func50, Try.ntmps50
  go_wp2
  rw [run_callFunc_extern Try.func57 (by kernel_rfl) (by kernel_rfl) (by kernel_rfl) (e := Extern.MapsClone.clone) (by kernel_rfl), run_clone w 58 hb]
  simp only [Result.andThen]
  rw [Oper.upon_value]
  go_wp2
  rw [run_assert_map _ 58 _ _ _ _ Try.underlying58]
  simp only [Result.andThen]
  rw [Oper.upon_value]
  go_wp2
  go_ret
  exact ⟨rfl, rfl⟩
set_option maxRecDepth 100000 in
set_option maxHeartbeats 4000000 in
theorem copy_any {W w : World} {fb mb : Nat} {D : Fm} {R : Heap} (h : FaAt W w fb mb D R) : Calls Try.prog 32 #[.pointer (some ⟨fb, 0, none⟩)] w fun e w' => ∃ fb' mb', e = .returned (.pointer (some ⟨fb', 0, none⟩)) ∧ FaAt W w' fb' mb' D ((fb, .cells 60 #[.map (some mb)]) :: (mb, .map (facePairs D)) :: R) := by
  have HM := hide (made_yes h.fin)
  have c0 : w.cell? ⟨fb, 0, none⟩ = some (.map (some mb)) := by rw [h.fin.m.cell]; rfl
  obtain ⟨es, clock, hb, hes⟩ := h.fin.d.holds
  have HCL := hide (clone_faces mb es clock w hb)
  have HO := hide (show Own W (w.alloc (.map es clock)) ((w.heap.size, .map (facePairs D)) :: (fb, .cells 60 #[.map (some mb)]) :: (mb, .map (facePairs D)) :: R) from Own.new h _ ⟨es, clock, heap_alloc_new w _, hes⟩)
  have h2 := HO.out.newCells 60 #[.map (some w.heap.size)]
  rw [World.size_alloc] at h2
  have HO2 := hide h2
  clear h2
  clear h hb hes
  go_enter Try.func32, Try.ntmps32
  go_wp2_with fail
  refine (Calls.mono (HM.out)) ?_
  rintro r w2 ⟨rfl, rfl⟩
  go_wp2_with fail
  refine (Calls.mono (HCL.out)) ?_
  rintro r w3 ⟨rfl, rfl⟩
  go_wp2
  go_ret
  exact ⟨_, _, rfl, HO2.out⟩
end Go.Proofs.Ytmjogpacajbngaa
