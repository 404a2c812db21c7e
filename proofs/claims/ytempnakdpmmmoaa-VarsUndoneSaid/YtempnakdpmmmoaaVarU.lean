/- The closure of a binding; Unbind. No condition but those written. -/
import Derived.Test.YtempnakdpmmmoaaVarB
namespace Go.Proofs.Ytempnakdpmmmoaa
open Go.RowKit
attribute [local go_sem] neq_cells

section
variable {W w w' : World} {b : Vb} {s : Vst} {R : Heap}
def BackG (W : World) (b : Vb) (s : Vst) (R : Heap) (n : Int) (c : Cel) (w' : World) : Prop :=
  ∃ g, fnd (s.glob n g).defs n = some ⟨n, g, s.dflt n⟩ ∧ VarsAt W w' b ((s.glob n g).upd g c) R
set_option maxRecDepth 100000 in
set_option maxHeartbeats 1000000 in
theorem back_global (h : VarsAt W w b s R) (n : Int) (c : Cel) (g1 g2 : Nat) (h1 : (g1, Ast.cells 3 #[.int .i64 0]) ∈ R) (h2 : (g2, Ast.cells 3 #[.int .i64 n]) ∈ R) :
    Calls Try.prog 36 #[.pointer (some ⟨b.vb, 0, none⟩), .agg #[.int .i64 c.k, .int .i64 c.n, .bool c.b], .pointer (some ⟨g1, 0, none⟩), .pointer (some ⟨g2, 0, none⟩)] w
    fun r w' => r = .returned (.tuple #[]) ∧ BackG W b s R n c w' := by
  have hb := h.box 60 #[.int .i64 c.k, .int .i64 c.n, .bool c.b]
  have HV := hide hb.drew
  have k1 : (w.alloc (.cells #[.int .i64 c.k, .int .i64 c.n, .bool c.b] 60)).cell? ⟨g1, 0, none⟩ = some (.int .i64 0) := (hb.own.blk (g := g1) (List.mem_append_right _ (List.mem_cons_of_mem _ h1))).cell 0
  have k2 : (w.alloc (.cells #[.int .i64 c.k, .int .i64 c.n, .bool c.b] 60)).cell? ⟨g2, 0, none⟩ = some (.int .i64 n) := (hb.own.blk (g := g2) (List.mem_append_right _ (List.mem_cons_of_mem _ h2))).cell 0
  have kc := hb.own.blk (g := w.heap.size) (t := 60) (cs := #[.int .i64 c.k, .int .i64 c.n, .bool c.b]) (by simp)
  have k3 := kc.cell 0
  have k4 := kc.cell 1
  have k5 := kc.cell 2
  clear h hb h1 h2 kc
  go_enter Try.func36, Try.ntmps36
  go_wp2_with fail
  generalize w.alloc (.cells #[.int .i64 c.k, .int .i64 c.n, .bool c.b] 60) = w1 at *
  go_wp2
  go_region_with (go_at_call 37; refine (global_any HV.out n).mono ?_; rintro r w3 ⟨g, rfl, hV3, hf⟩; obtain ⟨q0, q1, q2, f0, f1, f2⟩ := cel_cells (hV3.cel (mem_def hf)); have b3 := hV3.own.blk (g := w.heap.size) (t := 60) (cs := #[.int .i64 c.k, .int .i64 c.n, .bool c.b]) (by simp); have l0 := b3.cell 0; have l1 := b3.cell 1; have l2 := b3.cell 2; have HS := hide (hV3.drop.store (mem_def hf) c); have HF := hide hf; clear hV3 hf b3)
  all_goals (go_wp2; go_end0; exact ⟨rfl, g, HF.out, HS.out⟩)
end
end Go.Proofs.Ytempnakdpmmmoaa
