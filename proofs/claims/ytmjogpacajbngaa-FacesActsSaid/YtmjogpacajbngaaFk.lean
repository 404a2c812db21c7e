/- Resolve. No condition but those written. -/
import Derived.Test.YtmjogpacajbngaaFj
import Derived.Test.YtmjogpacajbngaaFh
namespace Go.Proofs.Ytmjogpacajbngaa
open Go.RowKit

def strs (l : List ByteArray) : List Value := l.map Value.string
noncomputable def accum (D : Fm) (l : List ByteArray) : Att := l.foldl (fun a s => over a (fullA D s)) attZero
theorem accum_snoc (D : Fm) (l : List ByteArray) (s : ByteArray) : accum D (l ++ [s]) = over (accum D l) (fullA D s) := by simp [accum]
abbrev lookZV : Array Value := #[.int .i64 0, .int .i64 0, .bool false, .bool false, .bool false]
/-- What holds within Resolve: the result's box, the attributes so far. -/
structure ResI (w wr : World) (fb mb : Nat) (D : Fm) (a : Att) : Prop where
  own : Own w wr [(w.heap.size, .cells 26 lookZV), (w.heap.size + 1, .cells 23 a.cells.toArray)]
  d : FaIn wr fb mb D
theorem ResI.below {w wr w' : World} {fb mb : Nat} {D : Fm} {a : Att} (h : ResI w wr fb mb D a) (hb : Below wr.heap.size wr w') : ResI w w' fb mb D a := ⟨h.own.below hb, h.d.below hb⟩
theorem ResI.att {w wr : World} {fb mb : Nat} {D : Fm} {a : Att} (h : ResI w wr fb mb D a) : AttAt wr (w.heap.size + 1) a := Blk.att (h.own.blk (t := 23) (by simp))
theorem ResI.frz {w wr : World} {fb mb : Nat} {D : Fm} {a : Att} (h : ResI w wr fb mb D a) (i : Nat) : wr.frozen? ⟨w.heap.size + 1, i, none⟩ = false := Blk.frozen (h.own.blk (t := 23) (cs := a.cells.toArray) (by simp)) i
theorem ResI.set6 {w wr : World} {fb mb : Nat} {D : Fm} {a : Att} (h : ResI w wr fb mb D a) (hfl : fb < w.heap.size ∧ mb < w.heap.size) (b : Att) : ResI w ((((((wr.setCell ⟨w.heap.size + 1, 0, none⟩ (.int .i64 b.fo)).setCell ⟨w.heap.size + 1, 1, none⟩ (.int .i64 b.ba)).setCell ⟨w.heap.size + 1, 2, none⟩ (.int .i64 b.bo)).setCell ⟨w.heap.size + 1, 3, none⟩ (.int .i64 b.un)).setCell ⟨w.heap.size + 1, 4, none⟩ (.int .i64 b.iv)).setCell ⟨w.heap.size + 1, 5, none⟩ (.string b.inh)) fb mb D b := by
  have ho := six_only wr (w.heap.size + 1) b
  refine ⟨?_, ⟨h.d.m.only ho (by omega), h.d.d.only ho (by omega)⟩⟩
  have h1 := h.own.perm (List.Perm.swap _ _ _)
  exact (h1.turn ho (b := .cells 23 b.cells.toArray) (six_blk (h1.blk (List.mem_cons_self ..)) b)).perm (List.Perm.swap _ _ _)
theorem rd_str {w : World} {l : List ByteArray} {A : Option Addr} {n c k : Nat} {s : ByteArray} (h : Rd w (.slice A n c) 1 n (strs l)) (hs : l[k]? = some s) : ∃ b off, A = some ⟨b, off, none⟩ ∧ w.cell? ⟨b, off + k, none⟩ = some (.string s) := by
  obtain ⟨A', c', e, hl, hc⟩ := h
  injection e with e1 _ _
  have hk : k < l.length := (List.getElem?_eq_some_iff.1 hs).1
  have hn : 0 < n := by simp [strs] at hl; omega
  obtain ⟨b, off, e2, h2⟩ := hc hn
  exact ⟨b, off, e1.trans e2, h2 k _ (by simp [strs, hs])⟩
theorem res_start {w : World} {fb mb : Nat} {D : Fm} (h : FaIn w fb mb D) : ResI w ((w.alloc (.cells lookZV 26)).alloc (.cells attZ 23)) fb mb D attZero := by
  refine ⟨?_, h.below (((Below.refl _ w).alloc (Nat.le_refl _) _).alloc (by simp) _)⟩
  have := ((Own.refl w).newCells 26 lookZV).newCells 23 attZ
  rw [World.size_alloc] at this
  exact this.perm (List.Perm.swap _ _ _)
theorem res_end {w wr : World} {fb mb : Nat} {D : Fm} {a : Att} (h : ResI w wr fb mb D a) (c1 c2 : Int) (b1 b2 b3 : Bool) : Blk (((((wr.setCell ⟨w.heap.size, 0, none⟩ (.int .i64 c1)).setCell ⟨w.heap.size, 1, none⟩ (.int .i64 c2)).setCell ⟨w.heap.size, 2, none⟩ (.bool b1)).setCell ⟨w.heap.size, 3, none⟩ (.bool b2)).setCell ⟨w.heap.size, 4, none⟩ (.bool b3)) w.heap.size 26 #[.int .i64 c1, .int .i64 c2, .bool b1, .bool b2, .bool b3] ∧ Below w.heap.size w (((((wr.setCell ⟨w.heap.size, 0, none⟩ (.int .i64 c1)).setCell ⟨w.heap.size, 1, none⟩ (.int .i64 c2)).setCell ⟨w.heap.size, 2, none⟩ (.bool b1)).setCell ⟨w.heap.size, 3, none⟩ (.bool b2)).setCell ⟨w.heap.size, 4, none⟩ (.bool b3)) := by
  have h1 := h.own
  have h2 := (((((h1.setCell 0 (.int .i64 c1)).setCell 1 (.int .i64 c2)).setCell 2 (.bool b1)).setCell 3 (.bool b2)).setCell 4 (.bool b3))
  exact ⟨h2.blk (List.mem_cons_self ..), h2.bel⟩
theorem res_cells {w wr : World} {fb mb : Nat} {D : Fm} {a : Att} (h : ResI w wr fb mb D a) : (∀ i, wr.frozen? ⟨w.heap.size, i, none⟩ = false) ∧ wr.cell? ⟨w.heap.size, 0, none⟩ = some (.int .i64 0) ∧ wr.cell? ⟨w.heap.size, 1, none⟩ = some (.int .i64 0) ∧ wr.cell? ⟨w.heap.size, 2, none⟩ = some (.bool false) ∧ wr.cell? ⟨w.heap.size, 3, none⟩ = some (.bool false) ∧ wr.cell? ⟨w.heap.size, 4, none⟩ = some (.bool false) := by
  have h1 : Blk wr w.heap.size 26 lookZV := h.own.blk (List.mem_cons_self ..)
  exact ⟨h1.frozen, by rw [h1.cell]; rfl, by rw [h1.cell]; rfl, by rw [h1.cell]; rfl, by rw [h1.cell]; rfl, by rw [h1.cell]; rfl⟩
set_option maxRecDepth 100000 in
set_option maxHeartbeats 8000000 in
theorem resolve_any {w : World} {fb mb : Nat} {D : Fm} (h : FaIn w fb mb D) (hC : Chained D) (l : List ByteArray) (v : Value) (hr : Rd w v 1 l.length (strs l)) (hm : l.length ≤ 1000000) : Calls Try.prog 28 #[.pointer (some ⟨fb, 0, none⟩), v] w fun e w' => e = .returned (lookV (over (accum D l) (fullA D dflt))) ∧ Below w.heap.size w w' := by
  obtain ⟨A, c, rfl, _⟩ := id hr
  obtain ⟨N, hN⟩ : ∃ N, N = l.length := ⟨_, rfl⟩
  rw [← hN]
  have HN := hide hN
  have HM := hide (made_yes (h.below ((Below.refl _ w).alloc (Nat.le_refl _) (.cells lookZV 26))))
  have HS := hide (res_start h)
  have HR := hide hr
  have HC := hide hC
  have HFB := hide (show fb < w.heap.size ∧ mb < w.heap.size from ⟨h.m.lt, h.d.lt⟩)
  have hN6 : N ≤ 1000000 := by have := HN.out; omega
  clear hr h hC hN hm
  go_enter Try.func28, Try.ntmps28
  go_wp2_with fail
  refine (Calls.mono (HM.out)) ?_
  rintro r w2 ⟨rfl, rfl⟩
  go_wp2_with fail
  go_loopw [18] (fun t wr => ∃ k : Nat, t = .int .i64 (k : Int) ∧ k ≤ N ∧ ResI w wr fb mb D (accum D (l.take k))) (fun t _ => N - (intOf t).toNat)
  case atStart => exact ⟨0, rfl, Nat.zero_le _, by rw [List.take_zero]; exact HS.out⟩
  case round =>
    obtain ⟨k, rfl, hk, hI⟩ := hrel
    have HI := hide hI
    by_cases hlt : k < N
    · have y1 : decide (k < N) = true := by simpa using hlt
      have y2 : decide ((k : Int) < (N : Int)) = true := by simp; omega
      obtain ⟨s, hs⟩ : ∃ s, l[k]? = some s := ⟨_, List.getElem?_eq_getElem (by rw [← HN.out]; exact hlt)⟩
      obtain ⟨g, off, rfl, hcell⟩ := rd_str (HR.out) hs
      have q0 : wr.cell? ⟨g, off + k, none⟩ = some (.string s) := (World.cell?_of_block (hI.own.bel.block g (World.block_lt_of_cell? _ _ hcell))).trans hcell
      have HT := hide (show accum D (l.take (k + 1)) = over (accum D (l.take k)) (fullA D s) from by rw [List.take_add_one, hs]; exact accum_snoc _ _ _)
      have HLT := hide hlt
      clear hs hI
      go_wp2_with fail
      refine (Calls.mono (full_any HI.out.d HC.out s)) ?_
      rintro r w5 ⟨rfl, hb5⟩
      have H5 := hide (HI.out.below hb5)
      have H6 := hide ((HI.out.below hb5).below ((Below.refl _ w5).alloc (Nat.le_refl _) (.cells (fullA D s).cells.toArray 23)))
      clear hb5 q0
      obtain ⟨a0, a1, a2, a3, a4, a5⟩ := H6.out.att
      obtain ⟨b0, b1, b2, b3, b4, b5⟩ := H5.out.att
      go_wp2_with fail
      (with_reducible refine Calls.mono (over_any (accum D (l.take k)) (fullA D s) _) ?_)
      rintro r w6 ⟨rfl, hb6⟩
      have H7 := hide (H6.out.below hb6)
      have HF := hide ((H6.out.below hb6).set6 HFB.out (over (accum D (l.take k)) (fullA D s)))
      clear hb6 a0 a1 a2 a3 a4 a5 b0 b1 b2 b3 b4 b5
      obtain ⟨a0, a1, a2, a3, a4, a5⟩ := H7.out.att
      have f0 := H7.out.frz 0
      have f1 := H7.out.frz 1
      have f2 := H7.out.frz 2
      have f3 := H7.out.frz 3
      have f4 := H7.out.frz 4
      have f5 := H7.out.frz 5
      go_wp2
      go_roundw
      case rel => exact ⟨k + 1, by go_num, HLT.out, by rw [HT.out]; exact HF.out⟩
      case measure => have := HLT.out; simp [intOf]; omega
    · have y1 : decide (k < N) = false := by simpa using hlt
      have y2 : decide ((k : Int) < (N : Int)) = false := by simp; omega
      have HT := hide (show l.take k = l from List.take_of_length_le (by have := HN.out; omega))
      clear hlt hI
      go_wp2_with fail
      refine (Calls.mono (full_any HI.out.d HC.out dflt)) ?_
      rintro r w5 ⟨rfl, hb5⟩
      have H5 := hide (HI.out.below hb5)
      have H6 := hide ((HI.out.below hb5).below ((Below.refl _ w5).alloc (Nat.le_refl _) (.cells (fullA D dflt).cells.toArray 23)))
      clear hb5
      rw [HT.out] at H6 H5
      obtain ⟨a0, a1, a2, a3, a4, a5⟩ := H6.out.att
      obtain ⟨b0, b1, b2, b3, b4, b5⟩ := H5.out.att
      go_wp2_with fail
      (with_reducible refine Calls.mono (over_any (accum D l) (fullA D dflt) _) ?_)
      rintro r w6 ⟨rfl, hb6⟩
      have H7 := hide (H6.out.below hb6)
      clear hb6 a0 a1 a2 a3 a4 a5 b0 b1 b2 b3 b4 b5
      go_wp2_with fail
      (with_reducible refine Calls.mono (look_any (over (accum D l) (fullA D dflt)) _) ?_)
      rintro r w7 ⟨rfl, hb7⟩
      have H8 := hide (H7.out.below hb7)
      clear hb7
      obtain ⟨c1, c2, b1, b2, b3, hlv⟩ : ∃ c1 c2 b1 b2 b3, lookV (over (accum D l) (fullA D dflt)) = .agg #[.int .i64 c1, .int .i64 c2, .bool b1, .bool b2, .bool b3] := ⟨_, _, _, _, _, rfl⟩
      have HLV := hide hlv
      have HE := hide (res_end H8.out c1 c2 b1 b2 b3)
      obtain ⟨fr, l0, l1, l2, l3, l4⟩ := res_cells H8.out
      have f0 := fr 0
      have f1 := fr 1
      have f2 := fr 2
      have f3 := fr 3
      have f4 := fr 4
      rw [hlv]
      clear hlv fr
      go_wp2
      refine bodyPost_ret (results_cell_row rfl _ _ w.heap.size 26 #[.int .i64 c1, .int .i64 c2, .bool b1, .bool b2, .bool b3] (0, 0) _ rfl (HE.out.1) Try.underlying26 rfl (by kernel_rfl)) rfl ?_
      exact ⟨by rw [HLV.out], HE.out.2⟩
end Go.Proofs.Ytmjogpacajbngaa
