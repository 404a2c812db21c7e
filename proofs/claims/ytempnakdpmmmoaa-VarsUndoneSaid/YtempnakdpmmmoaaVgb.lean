/- Variables: Set, SetDefault at every number. No condition but those written. -/
import Derived.Test.YtempnakdpmmmoaaVga
import Derived.Test.YtempnakdpmmmoaaVarLoc2
namespace Go.Proofs.Ytempnakdpmmmoaa
open Go.RowKit

section
variable {W w w' : World} {b : Vb} {s : Vst} {R : Heap}
set_option maxRecDepth 100000 in
set_option maxHeartbeats 1000000 in
theorem set_0 (h : VarsAt W w b s R) (n : Int) (h0 : chgV s n = 0) (k m : Int) : Calls Try.prog 15 #[.pointer (some ⟨b.vb, 0, none⟩), .int .i64 n, .agg #[.int .i64 k, .int .i64 m]] w
    fun r w' => r = .returned (.int .i64 0) ∧ ∃ g, VarsAt W w' b ((s.placed n g).upd g ⟨k, m, true⟩) R ∧ (s.placed n g).at_ n g := by
  have h1 := h.box 29 #[.int .i64 k, .int .i64 m]
  have HC := change_any h1 n
  rw [h0] at HC
  have HC := hide HC
  have HV := hide h1.drew
  clear h h1 h0
  go_enter Try.func15, Try.ntmps15
  go_wp2_with fail
  refine (Calls.mono HC.out) ?_
  rintro e w2 ⟨rfl, rfl⟩
  generalize w.alloc (.cells #[.int .i64 k, .int .i64 m] 29) = w1 at *
  have b0 := (HV.out.own.blk (g := w.heap.size) (t := 29) (cs := #[.int .i64 k, .int .i64 m]) (by simp))
  have k0 : w1.drew.cell? ⟨w.heap.size, 0, none⟩ = some (.int .i64 k) := by rw [b0.cell]; rfl
  have k1 : w1.drew.cell? ⟨w.heap.size, 1, none⟩ = some (.int .i64 m) := by rw [b0.cell]; rfl
  clear b0
  go_wp2
  go_region_with (go_at_call 35; refine (place_any HV.out n).mono ?_; rintro r w3 ⟨g, rfl, hV3, ha, hg⟩; obtain ⟨q0, q1, q2, f0, f1, f2⟩ := cel_cells (hV3.cel hg); have b3 := hV3.own.blk (g := w.heap.size) (t := 29) (cs := #[.int .i64 k, .int .i64 m]) (by simp); have l0 : w3.cell? ⟨w.heap.size, 0, none⟩ = some (.int .i64 k) := b3.cell 0; have l1 : w3.cell? ⟨w.heap.size, 1, none⟩ = some (.int .i64 m) := b3.cell 1; have HS := hide (hV3.drop.store hg ⟨k, m, true⟩); have HA := hide ha; clear hV3 ha hg b3)
  all_goals (go_wp2; go_ret; exact ⟨rfl, g, HS.out, HA.out⟩)
set_option maxRecDepth 100000 in
set_option maxHeartbeats 1000000 in
theorem set_bad (h : VarsAt W w b s R) (n : Int) (h0 : chgV s n ≠ 0) (k m : Int) : Calls Try.prog 15 #[.pointer (some ⟨b.vb, 0, none⟩), .int .i64 n, .agg #[.int .i64 k, .int .i64 m]] w
    fun r w' => r = .returned (.int .i64 (chgV s n)) ∧ VarsAt W w' b s R := by
  have HC := change_any (h.skip (.cells #[.int .i64 k, .int .i64 m] 29)) n
  obtain ⟨E, hE⟩ : ∃ E, E = chgV s n := ⟨_, rfl⟩
  rw [← hE] at HC h0 ⊢
  have HC := hide HC
  have HS := hide (h.skip (.cells #[.int .i64 k, .int .i64 m] 29))
  have z1 : decide (E = 0) = false := by simpa using h0
  have z2 : (E == 0) = false := by simpa using h0
  have z3 : ¬ E = 0 := h0
  clear h hE
  go_enter Try.func15, Try.ntmps15
  go_wp2_with fail
  refine (Calls.mono HC.out) ?_
  rintro e w2 ⟨rfl, rfl⟩
  go_wp2
  go_ret
  exact ⟨rfl, HS.out⟩
set_option maxRecDepth 100000 in
set_option maxHeartbeats 1000000 in
theorem setdefault_0 (h : VarsAt W w b s R) (n : Int) (h0 : chgV s n = 0) (k m : Int) : Calls Try.prog 23 #[.pointer (some ⟨b.vb, 0, none⟩), .int .i64 n, .agg #[.int .i64 k, .int .i64 m]] w
    fun r w' => r = .returned (.int .i64 0) ∧ ∃ g, VarsAt W w' b ((s.glob n g).upd g ⟨k, m, true⟩) R ∧ fnd (s.glob n g).defs n = some ⟨n, g, s.dflt n⟩ := by
  have h1 := h.box 29 #[.int .i64 k, .int .i64 m]
  have HC := change_any h1 n
  rw [h0] at HC
  have HC := hide HC
  have HV := hide h1.drew
  clear h h1 h0
  go_enter Try.func23, Try.ntmps23
  go_wp2_with fail
  refine (Calls.mono HC.out) ?_
  rintro e w2 ⟨rfl, rfl⟩
  generalize w.alloc (.cells #[.int .i64 k, .int .i64 m] 29) = w1 at *
  have b0 := (HV.out.own.blk (g := w.heap.size) (t := 29) (cs := #[.int .i64 k, .int .i64 m]) (by simp))
  have k0 : w1.drew.cell? ⟨w.heap.size, 0, none⟩ = some (.int .i64 k) := by rw [b0.cell]; rfl
  have k1 : w1.drew.cell? ⟨w.heap.size, 1, none⟩ = some (.int .i64 m) := by rw [b0.cell]; rfl
  clear b0
  go_wp2
  go_region_with (go_at_call 37; refine (global_any HV.out n).mono ?_; rintro r w3 ⟨g, rfl, hV3, hf⟩; obtain ⟨q0, q1, q2, f0, f1, f2⟩ := cel_cells (hV3.cel (mem_def hf)); have b3 := hV3.own.blk (g := w.heap.size) (t := 29) (cs := #[.int .i64 k, .int .i64 m]) (by simp); have l0 : w3.cell? ⟨w.heap.size, 0, none⟩ = some (.int .i64 k) := b3.cell 0; have l1 : w3.cell? ⟨w.heap.size, 1, none⟩ = some (.int .i64 m) := b3.cell 1; have HS := hide (hV3.drop.store (mem_def hf) ⟨k, m, true⟩); have HA := hide hf; clear hV3 hf b3)
  all_goals (go_wp2; go_ret; exact ⟨rfl, g, HS.out, HA.out⟩)
set_option maxRecDepth 100000 in
set_option maxHeartbeats 1000000 in
theorem setdefault_bad (h : VarsAt W w b s R) (n : Int) (h0 : chgV s n ≠ 0) (k m : Int) : Calls Try.prog 23 #[.pointer (some ⟨b.vb, 0, none⟩), .int .i64 n, .agg #[.int .i64 k, .int .i64 m]] w
    fun r w' => r = .returned (.int .i64 (chgV s n)) ∧ VarsAt W w' b s R := by
  have HC := change_any (h.skip (.cells #[.int .i64 k, .int .i64 m] 29)) n
  obtain ⟨E, hE⟩ : ∃ E, E = chgV s n := ⟨_, rfl⟩
  rw [← hE] at HC h0 ⊢
  have HC := hide HC
  have HS := hide (h.skip (.cells #[.int .i64 k, .int .i64 m] 29))
  have z1 : decide (E = 0) = false := by simpa using h0
  have z2 : (E == 0) = false := by simpa using h0
  have z3 : ¬ E = 0 := h0
  clear h hE
  go_enter Try.func23, Try.ntmps23
  go_wp2_with fail
  refine (Calls.mono HC.out) ?_
  rintro e w2 ⟨rfl, rfl⟩
  go_wp2
  go_ret
  exact ⟨rfl, HS.out⟩
set_option maxRecDepth 100000 in
set_option maxHeartbeats 1000000 in
theorem clear_bad (h : VarsAt W w b s R) (n : Int) (h0 : chgV s n ≠ 0) : Calls Try.prog 20 #[.pointer (some ⟨b.vb, 0, none⟩), .int .i64 n] w
    fun r w' => r = .returned (.int .i64 (chgV s n)) ∧ VarsAt W w' b s R := by
  have HC := change_any h n
  obtain ⟨E, hE⟩ : ∃ E, E = chgV s n := ⟨_, rfl⟩
  rw [← hE] at HC h0 ⊢
  have HC := hide HC
  have HS := hide h
  have z1 : decide (E = 0) = false := by simpa using h0
  have z2 : (E == 0) = false := by simpa using h0
  have z3 : ¬ E = 0 := h0
  clear h hE
  go_enter Try.func20, Try.ntmps20
  go_wp2_with fail
  refine (Calls.mono HC.out) ?_
  rintro e w2 ⟨rfl, rfl⟩
  go_wp2
  go_ret
  exact ⟨rfl, HS.out⟩
end
end Go.Proofs.Ytempnakdpmmmoaa
