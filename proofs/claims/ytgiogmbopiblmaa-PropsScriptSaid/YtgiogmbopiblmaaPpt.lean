/- A list with a property, whatever its memory; without a name; the closures of Put, Take, Paste. No condition but those written. -/
import Derived.Test.YtgiogmbopiblmaaPps
namespace Go.Proofs.Ytgiogmbopiblmaa
open Go.RowKit

set_option maxRecDepth 100000 in
set_option maxHeartbeats 8000000 in
theorem with_zero (x : Pr) (w : World) (g1 o1 c1 : Nat) (_hcz : (c1 : Int) ≤ 9223372036854775807) :
    Calls Try.prog 47 #[.slice (some ⟨g1, o1, none⟩) 0 c1, .agg #[.int .i64 x.1, .int .i64 x.2.1, .int .i64 x.2.2]] w fun e w' => ∃ v', e = .returned v' ∧ PrS w' v' [x] ∧ (∀ g, v'.ownBlock = some g → w.heap.size ≤ g) ∧ Below w.heap.size w w' := by
  obtain ⟨i0, hi, hz0, hz1, hz2⟩ := info_parts info_pr
  have HMK := hide (fun W => run_make (P := Try.prog) (w := W) 32 36 i0 _ Try.underlying32 hi hz0 .i64 .i64 0 1 (by omega) (by omega) (by rw [hz2]; omega) (by omega))
  rw [hz1, show (0 : Int).toNat = 0 from rfl, show (1 : Int).toNat = 1 from rfl] at HMK
  have hcs := size_madeCells (Value.agg #[.int .i64 0, .int .i64 0, .int .i64 0]).cells (1 * 3)
  obtain ⟨cs, hcs2⟩ : ∃ cs, cs = madeCells (Value.agg #[.int .i64 0, .int .i64 0, .int .i64 0]).cells (1 * 3) := ⟨_, rfl⟩
  rw [← hcs2] at HMK hcs
  have hmk := HMK.out
  have HI := hide hi
  have HZ := hide hz0
  have HZ1 := hide hz1
  have HZ2 := hide hz2
  have hst : WIn w ((w.alloc (.cells #[.int .i64 x.1, .int .i64 x.2.1, .int .i64 x.2.2] 36)).alloc (.cells cs 36)) x (.slice (some ⟨w.heap.size + 1, 0, none⟩) 0 1) [] 0 := by
    refine ⟨((Below.refl _ w).alloc (Nat.le_refl _) _).alloc (by simp) _, (Blk.new w _ _).alloc _, ?_, fun g hg => by have e : some (w.heap.size + 1) = some g := hg; cases e; omega⟩
    have := Sl.new (w.alloc (.cells #[.int .i64 x.1, .int .i64 x.2.1, .int .i64 x.2.2] 36)) 36 3 cs 0 1 (Nat.zero_le _) (by unfold maxLen; omega) (by rw [hcs]; exact Nat.le_refl _)
    simpa [rows] using this
  have HST := hide hst
  have HR := hide (show withP [] x = ([] : List Pr).take 0 ++ [x] ++ [] from rfl)
  clear hcs hcs2 hst HMK
  go_enter Try.func47, Try.ntmps47
  go_wp2
  go_loopw [5, 6] (fun ov iv wr => iv = .int .i64 0 ∧ ov = .slice (some ⟨w.heap.size + 1, 0, none⟩) 0 1 ∧ WIn w wr x ov [] 0) (fun _ _ _ => 0)
  case atStart => exact ⟨rfl, rfl, HST.out⟩
  case round =>
    obtain ⟨rfl, rfl, hW⟩ := hrel
    have HW := hide hW
    have b0 : wr.cell? ⟨w.heap.size, 0, none⟩ = some (.int .i64 x.1) := hW.bx.cell 0
    have b1 : wr.cell? ⟨w.heap.size, 1, none⟩ = some (.int .i64 x.2.1) := hW.bx.cell 1
    have b2 : wr.cell? ⟨w.heap.size, 2, none⟩ = some (.int .i64 x.2.2) := hW.bx.cell 2
    clear hW
    go_wp2
    go_region
    go_wp2
    go_region
    go_wp2_with fail
    obtain ⟨w3, hw3⟩ : ∃ w3, w3 = wr.drew.drew := ⟨_, rfl⟩
    rw [← hw3]
    have d0 : w3.cell? ⟨w.heap.size, 0, none⟩ = some (.int .i64 x.1) := by rw [hw3]; exact b0
    have d1 : w3.cell? ⟨w.heap.size, 1, none⟩ = some (.int .i64 x.2.1) := by rw [hw3]; exact b1
    have d2 : w3.cell? ⟨w.heap.size, 2, none⟩ = some (.int .i64 x.2.2) := by rw [hw3]; exact b2
    have HW3 := hide (show WIn w w3 x (.slice (some ⟨w.heap.size + 1, 0, none⟩) 0 1) [] 0 from by rw [hw3]; exact ⟨HW.out.bel.drew.drew, HW.out.bx.drew.drew, HW.out.sl.drew.drew, HW.out.own⟩)
    have HS3 := hide (HW3.out.sl.drew.alloc (.cells (prC x).toArray 36))
    clear hw3
    go_region_law (first | (refine step_append_sl rfl (.tmp 51) (.tmp 53) 32 rfl 36 i0 _ 3 24 Try.underlying32 HI.out HZ.out HZ1.out HZ2.out rfl (.slice (some ⟨w.heap.size + 1, 0, none⟩) 0 1) 0 (rows prC (([] : List Pr).take 0)) rfl HS3.out _ rfl 1 _ (rd_elem w3.drew 36 3 (prC x) rfl) (prC_one x) (by unfold maxLen; omega) (by omega) ?_; intro v5 w5 hs5 ho5 hv5; obtain ⟨A5, c5, rfl, _⟩ := hs5.form; have hp5 := HW3.out.put ho5 hv5; have HB5 := hide hp5.1; have HO5 := hide hp5.2; have HS5 := hide hs5; clear hs5 ho5 hv5 hp5) | (refine step_append_sl rfl (.tmp 54) (.tmp 57) 32 rfl 36 i0 _ 3 24 Try.underlying32 HI.out HZ.out HZ1.out HZ2.out rfl (.slice A5 1 c5) 1 (rows prC (([] : List Pr).take 0) ++ prC x) rfl HS5.out _ rfl 0 [] ⟨_, _, rfl, rfl, fun h => by cases h⟩ (by simp) (by unfold maxLen; omega) (by omega) ?_; intro v6 w6 hs6 ho6 hv6; have HS6 := hide hs6; have hp6 := own_put HB5.out HO5.out ho6 hv6; have HB6 := hide hp6.1; have HO6 := hide hp6.2; clear hs6 ho6 hv6 hp6))
    all_goals go_wp2
    all_goals
      go_ret
      have hfin : PrS w6 v6 ([x]) := by
        unfold PrS
        have h := HS6.out
        have e : [x].length = 1 := rfl
        rw [rows_one, e]
        simpa [rows] using h
      exact ⟨_, rfl, hfin, HO6.out, HB6.out⟩
theorem with_any (x : Pr) {w : World} {v : Value} {l : List Pr} (h : PrS w v l) (hl : l.length ≤ 100000) :
    Calls Try.prog 47 #[v, .agg #[.int .i64 x.1, .int .i64 x.2.1, .int .i64 x.2.2]] w fun e w' => ∃ v', e = .returned v' ∧ PrS w' v' (withP l x) ∧ (∀ g, v'.ownBlock = some g → w.heap.size ≤ g) ∧ Below w.heap.size w w' := by
  by_cases hl0 : l = []
  · subst hl0
    rcases h.2 with ⟨rfl, _⟩ | ⟨g, off, c, cs, rfl, _, _, hcm, _⟩
    · exact with_none x w
    · unfold maxLen at hcm
      exact with_zero x w g off c (by omega)
  · exact with_some x h hl hl0
end Go.Proofs.Ytgiogmbopiblmaa
