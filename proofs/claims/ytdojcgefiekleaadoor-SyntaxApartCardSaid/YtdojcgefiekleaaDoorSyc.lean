/- Is a number a character; is a class one with a mate; a character's class in the table that New makes: the program's. No condition but those written. -/
import Derived.Test.YtdojcgefiekleaaDoorSyb
namespace Go.Proofs.YtdojcgefiekleaaDoor
open Go.RowKit

set_option maxHeartbeats 400000 in
theorem ris_any (c : Int) (w : World) : Calls Tryd.prog 62 #[.int .i64 c] w fun e w' => e = .returned (.bool (isCh c)) ∧ w = w' := by
  go_enter Tryd.func62, Tryd.ntmps62
  go_wp2
  all_goals
    go_ret
    exact ⟨ret_bool (by simp [isCh]; omega), rfl⟩
set_option maxHeartbeats 400000 in
theorem mated_any (k : Int) (w : World) : Calls Tryd.prog 63 #[.int .i64 k] w fun e w' => e = .returned (.bool (mated k)) ∧ w = w' := by
  go_enter Tryd.func63, Tryd.ntmps63
  go_wp2
  all_goals
    go_ret
    exact ⟨ret_bool (by simp [mated]; try omega), rfl⟩
def entV (x : Int × Int) : Value := .agg #[.int .i64 x.1, .int .i64 x.2]
set_option maxRecDepth 100000 in
set_option maxHeartbeats 4000000 in
theorem plain_any (c : Int) (w : World) : Calls Tryd.prog 52 #[.int .i64 c] w fun e w' => e = .returned (entV (plainE c)) ∧ Below w.heap.size w w' := by
  have HW := hide (fun W => word_any c W)
  obtain ⟨b, hb⟩ : ∃ b, b = isWord c := ⟨_, rfl⟩
  have HE := hide (show plainE c = if c = 9 ∨ c = 10 ∨ c = 12 ∨ c = 13 ∨ c = 32 then (3, 0) else if b = true then (1, 0) else (0, 0) by rw [hb]; rfl)
  rw [← hb] at HW
  clear hb
  have B0 : ∀ o, Below w.heap.size w (w.alloc o) := fun o => (Below.refl _ w).alloc (Nat.le_refl _) o
  have HB := hide B0
  clear B0
  by_cases hs : c = 9 ∨ c = 10 ∨ c = 12 ∨ c = 13 ∨ c = 32
  · have HP := hide (HE.out.trans (if_pos hs))
    clear HE HW
    rcases hs with rfl | rfl | rfl | rfl | rfl
    all_goals go_enter Tryd.func52, Tryd.ntmps52
    all_goals go_wp2
    all_goals refine bodyPost_ret (results_cell_row rfl _ _ w.heap.size 66 #[.int .i64 3, .int .i64 0] (0, 0) _ rfl (heap_alloc_new w _) Tryd.underlying66 rfl (by kernel_rfl)) rfl ?_
    all_goals exact ⟨by rw [HP.out]; rfl, HB.out _⟩
  · have HP := hide (HE.out.trans (if_neg hs))
    clear HE
    have h1 : (c == 9) = false := by simp; omega
    have h2 : (c == 10) = false := by simp; omega
    have h3 : (c == 12) = false := by simp; omega
    have h4 : (c == 13) = false := by simp; omega
    have h5 : (c == 32) = false := by simp; omega
    clear hs
    cases b
    · go_enter Tryd.func52, Tryd.ntmps52
      go_wp2_with (go_at_call 79; refine (Calls.mono (HW.out _)) ?_; rintro e w' ⟨rfl, hb⟩; have hk := Blk.below (Blk.new w 66 #[.int .i64 0, .int .i64 0]) hb (by simp); have c0 := Blk.cell hk 0; have c1 := Blk.cell hk 1; have f0 := Blk.frozen hk 0; have f1 := Blk.frozen hk 1; have hB := hide (Below.trans (HB.out _) (Below.mono hb (by simp))); have HK := hide hk; clear hb hk)
      refine bodyPost_ret (results_cell_row rfl _ _ w.heap.size 66 #[.int .i64 0, .int .i64 0] (0, 0) _ rfl ((HK.out.set_ 0 _).set_ 1 _) Tryd.underlying66 rfl (by kernel_rfl)) rfl ?_
      exact ⟨by rw [HP.out]; rfl, (hB.out.setCell (Nat.le_refl _) _).setCell (Nat.le_refl _) _⟩
    · go_enter Tryd.func52, Tryd.ntmps52
      go_wp2_with (go_at_call 79; refine (Calls.mono (HW.out _)) ?_; rintro e w' ⟨rfl, hb⟩; have hk := Blk.below (Blk.new w 66 #[.int .i64 0, .int .i64 0]) hb (by simp); have c0 := Blk.cell hk 0; have c1 := Blk.cell hk 1; have f0 := Blk.frozen hk 0; have f1 := Blk.frozen hk 1; have hB := hide (Below.trans (HB.out _) (Below.mono hb (by simp))); have HK := hide hk; clear hb hk)
      refine bodyPost_ret (results_cell_row rfl _ _ w.heap.size 66 #[.int .i64 1, .int .i64 0] (0, 0) _ rfl ((HK.out.set_ 0 _).set_ 1 _) Tryd.underlying66 rfl (by kernel_rfl)) rfl ?_
      exact ⟨by rw [HP.out]; rfl, (hB.out.setCell (Nat.le_refl _) _).setCell (Nat.le_refl _) _⟩
end Go.Proofs.YtdojcgefiekleaaDoor
