/- The methods of no faces (a nil pointer, a zero object). No condition but those written. -/
import Derived.Test.YtmjogpacajbngaaFk
namespace Go.Proofs.Ytmjogpacajbngaa
open Go.RowKit
attribute [local go_sem] neq_faces

/-- p is no faces: nil, or an object without a map. -/
def NoF (w : World) (p : Option Addr) : Prop := p = none ∨ ∃ fb, p = some ⟨fb, 0, none⟩ ∧ Blk w fb 60 #[.map none]
theorem NoF.below {w w' : World} {p : Option Addr} (h : NoF w p) (hb : Below w.heap.size w w') : NoF w' p := by
  rcases h with rfl | ⟨fb, rfl, h⟩
  · exact .inl rfl
  · exact .inr ⟨fb, rfl, h.below hb h.lt⟩
set_option maxRecDepth 100000 in
theorem made_no {w : World} {p : Option Addr} (h : NoF w p) : Calls Try.prog 39 #[.pointer p] w fun e w' => e = .returned (.bool false) ∧ w = w' := by
  rcases h with rfl | ⟨fb, rfl, h⟩
  · go_enter Try.func39, Try.ntmps39
    go_wp2
    go_ret
    exact ⟨rfl, rfl⟩
  · have c0 : w.cell? ⟨fb, 0, none⟩ = some (.map none) := by rw [h.cell]; rfl
    clear h
    go_enter Try.func39, Try.ntmps39
    go_wp2
    go_ret
    exact ⟨rfl, rfl⟩

set_option maxRecDepth 100000 in
set_option maxHeartbeats 4000000 in
theorem define_nof {w : World} {p : Option Addr} (h : NoF w p) (n : ByteArray) (a : Att) : Calls Try.prog 19 #[.pointer p, .string n, a.val] w fun e w' => e = .returned (.int .i64 1) ∧ Below w.heap.size w w' := by
  have HB := hide (show Below w.heap.size w (w.alloc (.cells a.cells.toArray 23)) from ((Below.refl _ w).alloc (Nat.le_refl _) _))
  have HM := hide (made_no (h.below HB.out))
  clear h
  go_enter Try.func19, Try.ntmps19
  go_wp2_with fail
  refine (Calls.mono (HM.out)) ?_
  rintro r w2 ⟨rfl, rfl⟩
  go_wp2
  go_ret
  exact ⟨rfl, HB.out⟩
set_option maxRecDepth 100000 in
set_option maxHeartbeats 4000000 in
theorem drop_nof {w : World} {p : Option Addr} (h : NoF w p) (n : ByteArray) : Calls Try.prog 21 #[.pointer p, .string n] w fun e w' => e = .returned (.int .i64 1) ∧ Below w.heap.size w w' := by
  have HB := hide (Below.refl w.heap.size w)
  have HM := hide (made_no h)
  clear h
  go_enter Try.func21, Try.ntmps21
  go_wp2_with fail
  refine (Calls.mono (HM.out)) ?_
  rintro r w2 ⟨rfl, rfl⟩
  go_wp2
  go_ret
  exact ⟨rfl, HB.out⟩
set_option maxRecDepth 100000 in
set_option maxHeartbeats 4000000 in
theorem names_nof {w : World} {p : Option Addr} (h : NoF w p) : Calls Try.prog 24 #[.pointer p] w fun e w' => e = .returned (.slice none 0 0) ∧ Below w.heap.size w w' := by
  have HB := hide (Below.refl w.heap.size w)
  have HM := hide (made_no h)
  clear h
  go_enter Try.func24, Try.ntmps24
  go_wp2_with fail
  refine (Calls.mono (HM.out)) ?_
  rintro r w2 ⟨rfl, rfl⟩
  go_wp2
  go_ret
  exact ⟨rfl, HB.out⟩
set_option maxRecDepth 100000 in
set_option maxHeartbeats 4000000 in
theorem copy_nof {w : World} {p : Option Addr} (h : NoF w p) : Calls Try.prog 32 #[.pointer p] w fun e w' => e = .returned (.pointer none) ∧ Below w.heap.size w w' := by
  have HB := hide (Below.refl w.heap.size w)
  have HM := hide (made_no h)
  clear h
  go_enter Try.func32, Try.ntmps32
  go_wp2_with fail
  refine (Calls.mono (HM.out)) ?_
  rintro r w2 ⟨rfl, rfl⟩
  go_wp2
  go_ret
  exact ⟨rfl, HB.out⟩
set_option maxRecDepth 100000 in
set_option maxHeartbeats 4000000 in
theorem attrs_nof {w : World} {p : Option Addr} (h : NoF w p) (n : ByteArray) : Calls Try.prog 27 #[.pointer p, .string n] w fun e w' => e = .returned (.tuple #[attZero.val, .bool false]) ∧ Below w.heap.size w w' := by
  have HB := hide (show Below w.heap.size w (w.alloc (.cells attZ 23)) from ((Below.refl _ w).alloc (Nat.le_refl _) _))
  have HM := hide (made_no (h.below HB.out))
  have HR := hide (show Blk (w.alloc (.cells attZ 23)) w.heap.size 23 attZ from by
    exact Blk.new w _ _)
  have HLD := hide (run_loadVar_row (P := Try.prog) _ (w.heap.size) 23 23 attZero.cells.toArray (0, 0) _ HR.out Try.underlying23 rfl (by kernel_rfl))
  clear h
  go_enter Try.func27, Try.ntmps27
  go_wp2_with fail
  refine (Calls.mono (HM.out)) ?_
  rintro r w2 ⟨rfl, rfl⟩
  go_wp2
  refine bodyPost_ret (results_row2 rfl rfl HLD.out rfl) rfl ?_
  exact ⟨rfl, HB.out⟩
set_option maxRecDepth 100000 in
set_option maxHeartbeats 4000000 in
theorem full_nof {w : World} {p : Option Addr} (h : NoF w p) (n : ByteArray) : Calls Try.prog 26 #[.pointer p, .string n] w fun e w' => e = .returned (.tuple #[attZero.val, .int .i64 1]) ∧ Below w.heap.size w w' := by
  have HB := hide (show Below w.heap.size w ((w.alloc (.cells #[.pointer p] 30)).alloc (.cells attZ 23)) from (((Below.refl _ w).alloc (Nat.le_refl _) _).alloc (by simp) _))
  have HM := hide (made_no (h.below HB.out))
  have HR := hide (show Blk ((w.alloc (.cells #[.pointer p] 30)).alloc (.cells attZ 23)) (w.heap.size + 1) 23 attZ from by
    have := Blk.new (w.alloc (.cells #[.pointer p] 30)) 23 attZ
    rwa [World.size_alloc] at this)
  have HLD := hide (run_loadVar_row (P := Try.prog) _ (w.heap.size + 1) 23 23 attZero.cells.toArray (0, 0) _ HR.out Try.underlying23 rfl (by kernel_rfl))
  clear h
  go_enter Try.func26, Try.ntmps26
  go_wp2_with fail
  refine (Calls.mono (HM.out)) ?_
  rintro r w2 ⟨rfl, rfl⟩
  go_wp2
  refine bodyPost_ret (results_row2 rfl rfl HLD.out rfl) rfl ?_
  exact ⟨rfl, HB.out⟩
set_option maxRecDepth 100000 in
set_option maxHeartbeats 4000000 in
theorem resolve_nof {w : World} {p : Option Addr} (h : NoF w p) (v : Value) : Calls Try.prog 28 #[.pointer p, v] w fun e w' => e = .returned (.agg lookZV) ∧ Below w.heap.size w w' := by
  have HB := hide (show Below w.heap.size w (w.alloc (.cells lookZV 26)) from ((Below.refl _ w).alloc (Nat.le_refl _) _))
  have HM := hide (made_no (h.below HB.out))
  have HR := hide (Blk.new w 26 lookZV)
  clear h
  go_enter Try.func28, Try.ntmps28
  go_wp2_with fail
  refine (Calls.mono (HM.out)) ?_
  rintro r w2 ⟨rfl, rfl⟩
  go_wp2
  refine bodyPost_ret (results_cell_row rfl _ _ w.heap.size 26 lookZV (0, 0) _ rfl HR.out Try.underlying26 rfl (by kernel_rfl)) rfl ?_
  exact ⟨rfl, HB.out⟩
end Go.Proofs.Ytmjogpacajbngaa
