/- A new buffer: it lies beside what there was. No condition but those written. -/
import Derived.Test.YtnbhejbpofjamaaDoorBgm
namespace Go.Proofs.YtnbhejbpofjamaaDoor
open Go.RowKit

/-- A pointer to what lies beside all that there was. -/
def Fresh1 (w : World) (e : Ending) (w' : World) : Prop := ∃ g : Nat, e = .returned (.pointer (some ⟨g, 0, none⟩)) ∧ Below w.heap.size w w'
theorem make_marks (w : World) : (Instr.makeMap 93 none).run Tryd.prog w = .ok (.map (some w.heap.size)) (w.alloc (.map #[] 0)) := by kernel_rfl
theorem marks_new (w : World) : Calls Tryd.prog 44 #[] w (Fresh1 w) := by
  have hf := make_marks
  go_enter Tryd.func44, Tryd.ntmps44
  go_wp2
  go_ret
  exact ⟨_, rfl, ((Below.refl _ w).alloc (Nat.le_refl _) _).alloc (by simp) _⟩
theorem props_new (w : World) : Calls Tryd.prog 45 #[] w (Fresh1 w) := by
  go_enter Tryd.func45, Tryd.ntmps45
  go_wp2
  go_ret
  exact ⟨_, rfl, (Below.refl _ w).alloc (Nat.le_refl _) _⟩
theorem overs_new (w : World) (p q : Int) : Calls Tryd.prog 46 #[.int .i64 p, .int .i64 q] w (Fresh1 w) := by
  go_enter Tryd.func46, Tryd.ntmps46
  go_wp2
  go_ret
  exact ⟨_, rfl, (Below.refl _ w).alloc (Nat.le_refl _) _⟩
theorem undo_new (w : World) : Calls Tryd.prog 43 #[.int .i64 1048576] w fun e w' => ∃ g : Nat, e = .returned (.tuple #[.pointer (some ⟨g, 0, none⟩), .int .i64 0]) ∧ Below w.heap.size w w' := by
  go_enter Tryd.func43, Tryd.ntmps43
  go_wp2
  go_ret2
  exact ⟨_, rfl, (Below.refl _ w).alloc (Nat.le_refl _) _⟩
theorem gap_new_any (w : World) (hT : Tabs w) : Calls Tryd.prog 42 #[.string ⟨#[]⟩] w fun e w' => ∃ (g : Nat) (z : Int), e = .returned (.tuple #[.pointer (some ⟨g, 0, none⟩), .int .i64 z]) ∧ Below w.heap.size w w' := by
  refine (new_any (Own.refl w) hT ⟨#[]⟩ (by show (0 : Nat) < _; omega)).mono ?_
  rintro e w' (⟨h1, _, _⟩ | ⟨_, tb, rfl, h3⟩)
  · exact absurd h1 (by decide)
  · obtain ⟨b, _, h4⟩ := h3
    exact ⟨tb, _, rfl, h4.gap.own.bel⟩
set_option maxRecDepth 100000 in
theorem buffer_new (w : World) (hT : Tabs w) (p q r : Int) : Calls Tryd.prog 34 #[.int .i64 p, .int .i64 q, .int .i64 r] w (Fresh1 w) := by
  have HG := hide (gap_new_any w hT)
  clear hT
  go_enter Tryd.func34, Tryd.ntmps34
  go_wp2_with fail
  refine (Calls.mono HG.out) ?_
  rintro e w1 ⟨g1, z1, rfl, b1⟩
  have HB1 := hide b1
  clear b1 HG
  go_wp2_with fail
  refine (Calls.mono (undo_new w1)) ?_
  rintro e w2 ⟨g2, rfl, b2⟩
  have HB2 := hide (HB1.out.trans (b2.mono HB1.out.size))
  clear b2 HB1
  go_wp2_with fail
  refine (Calls.mono (marks_new w2)) ?_
  rintro e w3 ⟨g3, rfl, b3⟩
  have HB3 := hide (HB2.out.trans (b3.mono HB2.out.size))
  clear b3 HB2
  go_wp2_with fail
  refine (Calls.mono (props_new w3)) ?_
  rintro e w4 ⟨g4, rfl, b4⟩
  have HB4 := hide (HB3.out.trans (b4.mono HB3.out.size))
  clear b4 HB3
  go_wp2_with fail
  refine (Calls.mono (overs_new w4 p q)) ?_
  rintro e w5 ⟨g5, rfl, b5⟩
  have HB5 := hide (HB4.out.trans (b5.mono HB4.out.size))
  clear b5 HB4
  go_wp2_with fail
  go_ret
  exact ⟨_, rfl, HB5.out.alloc HB5.out.size _⟩
end Go.Proofs.YtnbhejbpofjamaaDoor
