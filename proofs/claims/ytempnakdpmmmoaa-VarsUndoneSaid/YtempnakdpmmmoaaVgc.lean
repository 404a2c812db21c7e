/- Variables: Clear at every number. No condition but those written. -/
import Derived.Test.YtempnakdpmmmoaaVga
import Derived.Test.YtempnakdpmmmoaaVarLoc2
namespace Go.Proofs.Ytempnakdpmmmoaa
open Go.RowKit

section
variable {W w w' : World} {b : Vb} {s : Vst} {R : Heap}
set_option maxRecDepth 100000 in
set_option maxHeartbeats 4000000 in
theorem clear_0 (h : VarsAt W w b s R) (n : Int) (h0 : chgV s n = 0) : Calls Try.prog 20 #[.pointer (some ⟨b.vb, 0, none⟩), .int .i64 n] w
    fun r w' => r = .returned (.int .i64 0) ∧ ∃ g, VarsAt W w' b ((s.placed n g).upd g Cel.zero) R ∧ (s.placed n g).at_ n g := by
  have HC := change_any h n
  rw [h0] at HC
  have HC := hide HC
  have HV := hide h
  clear h h0
  go_enter Try.func20, Try.ntmps20
  go_wp2_with fail
  refine (Calls.mono HC.out) ?_
  rintro e w2 ⟨rfl, rfl⟩
  go_wp2_with fail
  refine (Calls.mono (place_any HV.out n)) ?_
  rintro r w3 ⟨g, rfl, hV3, ha, hg⟩
  obtain ⟨q0, q1, q2, f0, f1, f2⟩ := cel_cells (hV3.cel hg)
  have HS := hide (hV3.store hg Cel.zero)
  have HA := hide ha
  clear hV3 ha hg
  go_wp2
  go_ret
  exact ⟨rfl, g, HS.out, HA.out⟩
end
end Go.Proofs.Ytempnakdpmmmoaa
