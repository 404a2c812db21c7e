/- alike: both are in the same state. No condition but those written. -/
import Derived.Test.YtmjogpacajbngaaHm
import Derived.Test.YtmjogpacajbngaaGd
namespace Go.Proofs.Ytmjogpacajbngaa
open Go.RowKit

theorem fullA_same {D L : Fm} (h : ∀ s, look D s = look L s) (s : ByteArray) : fullA L s = fullA D s := by
  unfold fullA
  rw [← h, chainOf_same h]
  split
  · unfold fullOf
    congr 1
    funext a t
    rw [lookZ_same h]
  · rfl
theorem fullE_same {D L : Fm} (h : ∀ s, look D s = look L s) (s : ByteArray) : fullE L s = fullE D s := by
  unfold fullE
  rw [← h]
theorem accum_same {D L : Fm} (h : ∀ s, look D s = look L s) (l : List ByteArray) : accum L l = accum D l := by
  unfold accum
  congr 1
  funext a s
  rw [fullA_same h]
abbrev alH (g7 g9 g11 g13 : Nat) (a f : Att) : Heap := [(g13, .cells 23 f.cells.toArray), (g11, .cells 23 f.cells.toArray), (g9, .cells 23 a.cells.toArray), (g7, .cells 23 a.cells.toArray)]
theorem al_cells {W w' : World} {g7 g9 g11 g13 : Nat} {a f : Att} {X : Heap} (h : Own W w' (X ++ alH g7 g9 g11 g13 a f)) : w'.cell? ⟨g7, 0, none⟩ = some (.int .i64 a.fo) ∧ w'.cell? ⟨g7, 1, none⟩ = some (.int .i64 a.ba) ∧ w'.cell? ⟨g7, 2, none⟩ = some (.int .i64 a.bo) ∧ w'.cell? ⟨g7, 3, none⟩ = some (.int .i64 a.un) ∧ w'.cell? ⟨g7, 4, none⟩ = some (.int .i64 a.iv) ∧ w'.cell? ⟨g7, 5, none⟩ = some (.string a.inh) ∧ w'.cell? ⟨g9, 0, none⟩ = some (.int .i64 a.fo) ∧ w'.cell? ⟨g9, 1, none⟩ = some (.int .i64 a.ba) ∧ w'.cell? ⟨g9, 2, none⟩ = some (.int .i64 a.bo) ∧ w'.cell? ⟨g9, 3, none⟩ = some (.int .i64 a.un) ∧ w'.cell? ⟨g9, 4, none⟩ = some (.int .i64 a.iv) ∧ w'.cell? ⟨g9, 5, none⟩ = some (.string a.inh) ∧ w'.cell? ⟨g11, 0, none⟩ = some (.int .i64 f.fo) ∧ w'.cell? ⟨g11, 1, none⟩ = some (.int .i64 f.ba) ∧ w'.cell? ⟨g11, 2, none⟩ = some (.int .i64 f.bo) ∧ w'.cell? ⟨g11, 3, none⟩ = some (.int .i64 f.un) ∧ w'.cell? ⟨g11, 4, none⟩ = some (.int .i64 f.iv) ∧ w'.cell? ⟨g11, 5, none⟩ = some (.string f.inh) ∧ w'.cell? ⟨g13, 0, none⟩ = some (.int .i64 f.fo) ∧ w'.cell? ⟨g13, 1, none⟩ = some (.int .i64 f.ba) ∧ w'.cell? ⟨g13, 2, none⟩ = some (.int .i64 f.bo) ∧ w'.cell? ⟨g13, 3, none⟩ = some (.int .i64 f.un) ∧ w'.cell? ⟨g13, 4, none⟩ = some (.int .i64 f.iv) ∧ w'.cell? ⟨g13, 5, none⟩ = some (.string f.inh) := by
  obtain ⟨a0, a1, a2, a3, a4, a5⟩ := Blk.att (a := a) (h.blk (g := g7) (t := 23) (List.mem_append_right _ (by simp)))
  obtain ⟨b0, b1, b2, b3, b4, b5⟩ := Blk.att (a := a) (h.blk (g := g9) (t := 23) (List.mem_append_right _ (by simp)))
  obtain ⟨f0, f1, f2, f3, f4, f5⟩ := Blk.att (a := f) (h.blk (g := g11) (t := 23) (List.mem_append_right _ (by simp)))
  obtain ⟨d0, d1, d2, d3, d4, d5⟩ := Blk.att (a := f) (h.blk (g := g13) (t := 23) (List.mem_append_right _ (by simp)))
  exact ⟨a0, a1, a2, a3, a4, a5, b0, b1, b2, b3, b4, b5, f0, f1, f2, f3, f4, f5, d0, d1, d2, d3, d4, d5⟩
set_option maxRecDepth 100000 in
set_option maxRecDepth 100000 in
set_option maxHeartbeats 16000000 in
theorem alike_any {W w : World} {fb mb rb : Nat} {vN vA : Value} {D L : Fm} {X : Heap} (h : BothX W w fb mb rb vN vA D L X) (hR : Rel D L) (hG : GoodF D) (nm : ByteArray) : Calls Try.prog 33 #[.pointer (some ⟨fb, 0, none⟩), .pointer (some ⟨rb, 0, none⟩), .string nm] w fun e w' => e = .returned (.bool true) ∧ Below w.heap.size w w' := by
  obtain ⟨A, B, c, d, rfl, rfl, hin⟩ := h.rf.rfIn
  have HB := hide (fun (w' : World) (hb : Below w.heap.size w w') => h.below hb)
  have HIN := hide (fun (w' : World) (hb : Below w.heap.size w w') => hin.below hb)
  have hGL := hG.other hR
  have HL := hide hGL.le
  obtain ⟨a, ha⟩ : ∃ a, a = lookZ D nm := ⟨_, rfl⟩
  obtain ⟨x, hx⟩ : ∃ x, x = (look D nm).isSome := ⟨_, rfl⟩
  obtain ⟨f, hf⟩ : ∃ f, f = fullA D nm := ⟨_, rfl⟩
  obtain ⟨k, hk⟩ : ∃ k, k = fullE D nm := ⟨_, rfl⟩
  have H1 := hide (show ∀ w', Below w.heap.size w w' → Calls Try.prog 27 #[.pointer (some ⟨fb, 0, none⟩), .string nm] w' (fun e w'' => e = .returned (.tuple #[a.val, .bool x]) ∧ Below w'.heap.size w' w'') from fun w' hb => by
    have := attrs_any (h.below hb).fa.fin nm
    rwa [← ha, ← hx] at this)
  have H2 := hide (show ∀ w', Below w.heap.size w w' → Calls Try.prog 51 #[.pointer (some ⟨rb, 0, none⟩), .string nm] w' (fun e w'' => e = .returned (.tuple #[a.val, .bool x]) ∧ Below w'.heap.size w' w'') from fun w' hb => by
    have := rattrs_any (hin.below hb) hGL.le nm
    rwa [← lookZ_same hR.lk, ← hR.lk, ← ha, ← hx] at this)
  have H3 := hide (show ∀ w', Below w.heap.size w w' → Calls Try.prog 26 #[.pointer (some ⟨fb, 0, none⟩), .string nm] w' (fun e w'' => e = .returned (.tuple #[f.val, .int .i64 k]) ∧ Below w'.heap.size w' w'') from fun w' hb => by
    have := full_any (h.below hb).fa.fin hG.ch nm
    rwa [← hf, ← hk] at this)
  have H4 := hide (show ∀ w', Below w.heap.size w w' → Calls Try.prog 52 #[.pointer (some ⟨rb, 0, none⟩), .string nm] w' (fun e w'' => e = .returned (.tuple #[f.val, .int .i64 k]) ∧ Below w'.heap.size w' w'') from fun w' hb => by
    have := rfull_any (hin.below hb) hGL.le hGL nm
    rwa [fullA_same hR.lk, fullE_same hR.lk, ← hf, ← hk] at this)
  have HNA := hide (names_same hG.nd hR)
  have HG := hide hG
  have e1 := fun w => eql_att w a
  have e2 := fun w => eql_att w f
  clear h hin hR hG hGL ha hx hf hk
  go_enter Try.func33, Try.ntmps33
  go_wp2_with fail
  refine Calls.mono (H1.out w (Below.refl _ _)) ?_
  rintro r w1 ⟨rfl, hb⟩
  have O1 := hide (((Own.refl w).below hb).newCells 23 a.cells.toArray)
  clear hb
  go_wp2_with fail
  refine Calls.mono (H2.out _ O1.out.bel) ?_
  rintro r w2 ⟨rfl, hb⟩
  have O2 := hide ((O1.out.below hb).newCells 23 a.cells.toArray)
  clear hb
  go_wp2_with fail
  refine Calls.mono (H3.out _ O2.out.bel) ?_
  rintro r w3 ⟨rfl, hb⟩
  have O3 := hide ((O2.out.below hb).newCells 23 f.cells.toArray)
  clear hb
  go_wp2_with fail
  refine Calls.mono (H4.out _ O3.out.bel) ?_
  rintro r w4 ⟨rfl, hb⟩
  have O4 := hide ((O3.out.below hb).newCells 23 f.cells.toArray)
  clear hb
  go_wp2_with fail
  refine Calls.mono (names_any (HB.out _ O4.out.bel).fa HG.out) ?_
  rintro r w5 ⟨v, rfl, hs, hf, hb⟩
  have O5 := hide (O4.out.joinRow hb hs hf)
  obtain ⟨A5, c5, hv, _⟩ := id hs.form
  subst hv
  have HSL := hide hs
  clear hs hf hb
  obtain ⟨N, hN⟩ : ∃ N, N = (namesF D).length := ⟨_, rfl⟩
  rw [← hN] at O5 HSL ⊢
  have HNN := hide hN
  have hN2 : N ≤ 256 := by rw [hN, namesF_len]; exact HG.out.le
  have hN1 : 0 < N := by
    rw [hN, namesF_len]
    cases hD : D with
    | nil => have := HG.out.d; rw [hD] at this; cases this
    | cons _ _ => exact Nat.succ_pos _
  clear hN
  obtain ⟨a0, a1, a2, a3, a4, a5, b0, b1, b2, b3, b4, b5, f0, f1, f2, f3, f4, f5, d0, d1, d2, d3, d4, d5⟩ := al_cells O5.out
  have cN : w5.cell? ⟨rb, 0, none⟩ = some (.slice A L.length c) := by rw [(HIN.out _ O5.out.bel).b.cell]; rfl
  go_wp2_with fail
  refine Calls.mono (names_eq (namesF D) (L.map (fun x : ByteArray × Att => x.1)) HSL.out.rd (HIN.out _ O5.out.bel).r (by omega) (by have := HL.out; omega)) ?_
  rintro r w6 ⟨rfl, q, rfl⟩
  rw [decide_eq_true HNA.out]
  clear a0 a1 a2 a3 a4 a5 b0 b1 b2 b3 b4 b5 f0 f1 f2 f3 f4 f5 d0 d1 d2 d3 d4 d5 cN
  obtain ⟨g, off, c', e, _⟩ := HSL.out.at_ hN1
  injection e with e e3 e4
  subst e e4
  have O6 := hide (show ∃ ys : List Value, ys.length = N ∧ Own w (w5.drewN q) [(g, .row 9 1 (.slice (some ⟨g, off, none⟩) N c5) N ys)] from ⟨strs (namesF D), by rw [HNN.out]; simp [strs], by
    have := (O5.out.below (below_later w5 q)).left
    rwa [rowOf_some rfl] at this⟩)
  go_wp2_with fail
  go_loopw [17] (fun t wr => ∃ i : Nat, t = .int .i64 (i : Int) ∧ i ≤ N ∧ ∃ ys : List Value, ys.length = N ∧ Own w wr [(g, .row 9 1 (.slice (some ⟨g, off, none⟩) N c5) N ys)]) (fun t _ => N - (intOf t).toNat)
  case atStart => exact ⟨0, rfl, Nat.zero_le _, O6.out⟩
  case round =>
    obtain ⟨i, rfl, hi, ys, hys, hO⟩ := hrel
    have HO := hide hO
    have HY := hide hys
    by_cases hlt : i < N
    · have y1 : decide (i < N) = true := by simpa using hlt
      have y2 : decide ((i : Int) < (N : Int)) = true := decide_eq_true (by omega)
      have hsl := (hO.row (List.mem_cons_self ..)).2
      obtain ⟨g', off', c', e, _, _, hcell, hfr, _⟩ := hsl.at_ hN1
      injection e with e _ _
      injection e with e
      injection e with e1 e2
      subst e1 e2
      obtain ⟨u, hu⟩ : ∃ u, ys[i]? = some u := ⟨_, List.getElem?_eq_getElem (by omega)⟩
      have q0 := hcell i u hu
      have q1 := hfr (off + i)
      have HLT := hide hlt
      have HZ := hide (hO.setRow i (by omega) (.string ⟨#[111, 118, 101, 114]⟩))
      clear hsl hcell hfr hu hO
      go_wp2
      go_roundw
      case rel => exact ⟨i + 1, by go_num, HLT.out, _, by rw [List.length_set]; exact HY.out, HZ.out⟩
      case measure => have := HLT.out; simp [intOf]; omega
    · have y1 : decide (i < N) = false := by simpa using hlt
      have y2 : decide ((i : Int) < (N : Int)) = false := decide_eq_false (by omega)
      go_wp2
      go_ret
      exact ⟨rfl, HO.out.bel⟩
end Go.Proofs.Ytmjogpacajbngaa
