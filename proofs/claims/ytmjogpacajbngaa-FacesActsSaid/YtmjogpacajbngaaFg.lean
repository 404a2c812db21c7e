/- within. No condition but those written. -/
import Derived.Test.YtmjogpacajbngaaFf
import Derived.Deep.QuietTactic
namespace Go.Proofs.Ytmjogpacajbngaa
open Go.RowKit

def inR (z m : Int) : Bool := decide (0 ≤ z) && decide (z ≤ m)
def withinB (a : Att) : Bool := inR a.fo 257 && inR a.ba 257 && inR a.bo 2 && inR a.un 2 && inR a.iv 2
def LaterW (w w' : World) : Prop := ∃ q, w' = w.drewN q
theorem inR_yes {z m : Int} (h1 : 0 ≤ z) (h2 : z ≤ m) : inR z m = true := by unfold inR; rw [decide_eq_true h1, decide_eq_true h2]; rfl
theorem inR_no1 {z m : Int} (h1 : ¬ 0 ≤ z) : inR z m = false := by unfold inR; rw [decide_eq_false h1]; rfl
theorem inR_no2 {z m : Int} (h2 : ¬ z ≤ m) : inR z m = false := by unfold inR; rw [decide_eq_false h2, Bool.and_false]
abbrev mostV : Array Value := #[.int .i64 257, .int .i64 257, .int .i64 2, .int .i64 2, .int .i64 2]
theorem within_start (a : Att) (w w3 : World) (h3 : Below (((w.alloc (.cells a.cells.toArray 23)).alloc (.cells a.cells.toArray 63)).alloc (.cells mostV 81)).heap.size (((w.alloc (.cells a.cells.toArray 23)).alloc (.cells a.cells.toArray 63)).alloc (.cells mostV 81)) w3) :
    AttAt w3 (w.heap.size + 1) a ∧ (w3.cell? ⟨w.heap.size + 1 + 1, 0, none⟩ = some (.int .i64 257) ∧ w3.cell? ⟨w.heap.size + 1 + 1, 1, none⟩ = some (.int .i64 257) ∧ w3.cell? ⟨w.heap.size + 1 + 1, 2, none⟩ = some (.int .i64 2) ∧ w3.cell? ⟨w.heap.size + 1 + 1, 3, none⟩ = some (.int .i64 2) ∧ w3.cell? ⟨w.heap.size + 1 + 1, 4, none⟩ = some (.int .i64 2)) ∧ Below w.heap.size w w3 := by
  have h := ((((Own.refl w).skip (.cells a.cells.toArray 23)).newCells 63 a.cells.toArray).newCells 81 mostV).below h3
  simp only [World.size_alloc] at h
  have b1 : Blk w3 (w.heap.size + 1) 63 a.cells.toArray := h.blk (by simp)
  have b2 : Blk w3 (w.heap.size + 1 + 1) 81 mostV := h.blk (by simp)
  exact ⟨b1.att, ⟨by rw [b2.cell]; rfl, by rw [b2.cell]; rfl, by rw [b2.cell]; rfl, by rw [b2.cell]; rfl, by rw [b2.cell]; rfl⟩, h.bel⟩
theorem drewN_add (w : World) (a b : Nat) : (w.drewN a).drewN b = w.drewN (a + b) := by
  simp [World.drewN, Nat.add_assoc]
theorem laterW_more (w : World) (q n : Nat) : LaterW w ((w.drewN q).drewN n) := ⟨q + n, drewN_add _ _ _⟩
theorem below_later2 (w : World) (q n : Nat) : Below w.heap.size w ((w.drewN q).drewN n) := ⟨rfl, rfl, rfl, Nat.le_refl _, fun _ _ => rfl⟩
theorem below_later (w : World) (q : Nat) : Below w.heap.size w (w.drewN q) := ⟨rfl, rfl, rfl, Nat.le_refl _, fun _ _ => rfl⟩
set_option maxRecDepth 100000 in
set_option maxHeartbeats 8000000 in
theorem within_any (a : Att) (w : World) : Calls Try.prog 41 #[a.val] w fun e w' => e = .returned (.bool (withinB a)) ∧ Below w.heap.size w w' := by
  have HS := hide (within_start a w)
  go_enter Try.func41, Try.ntmps41
  go_wp2_with fail
  (with_reducible refine Calls.mono (fields_any (w.heap.size + 1) _) ?_)
  rintro r w3 ⟨rfl, h3⟩
  have HH := hide (HS.out w3 h3)
  clear h3 HS
  have HB := hide HH.out.2.2
  obtain ⟨c0, c1, c2, c3, c4, _⟩ := HH.out.1
  obtain ⟨m0, m1, m2, m3, m4⟩ := HH.out.2.1
  clear HH
  generalize w.heap.size + 1 + 1 = gm at m0 m1 m2 m3 m4 ⊢
  generalize w.heap.size + 1 = gx at c0 c1 c2 c3 c4 ⊢
  go_wp2

  go_loopw [10] (fun t wr => (t = .int .i64 0 ∧ (True) ∧ LaterW w3 wr) ∨ (t = .int .i64 1 ∧ (True ∧ inR a.fo 257 = true) ∧ LaterW w3 wr) ∨ (t = .int .i64 2 ∧ (True ∧ inR a.fo 257 = true ∧ inR a.ba 257 = true) ∧ LaterW w3 wr) ∨ (t = .int .i64 3 ∧ (True ∧ inR a.fo 257 = true ∧ inR a.ba 257 = true ∧ inR a.bo 2 = true) ∧ LaterW w3 wr) ∨ (t = .int .i64 4 ∧ (True ∧ inR a.fo 257 = true ∧ inR a.ba 257 = true ∧ inR a.bo 2 = true ∧ inR a.un 2 = true) ∧ LaterW w3 wr) ∨ (t = .int .i64 5 ∧ (True ∧ inR a.fo 257 = true ∧ inR a.ba 257 = true ∧ inR a.bo 2 = true ∧ inR a.un 2 = true ∧ inR a.iv 2 = true) ∧ LaterW w3 wr)) (fun t _ => 5 - (intOf t).toNat)
  case atStart => exact .inl ⟨rfl, trivial, 0, rfl⟩
  case round =>
    rcases hrel with ⟨rfl, hp, q, rfl⟩ | ⟨rfl, hp, q, rfl⟩ | ⟨rfl, hp, q, rfl⟩ | ⟨rfl, hp, q, rfl⟩ | ⟨rfl, hp, q, rfl⟩ | ⟨rfl, hp, q, rfl⟩
    · have HP := hide hp
      clear hp
      have hix := fun q => index_p0 gx (w3.drewN q)
      by_cases h0 : 0 ≤ a.fo
      · have y0 : decide (a.fo < 0) = false := by simp; omega
        by_cases h1 : a.fo ≤ 257
        · have y1 : decide (257 < a.fo) = false := by simp; omega
          have HI := hide (inR_yes h0 h1)
          clear h0 h1
          go_wp2_with fail
          go_quiet (fail)
          go_wp2
          go_roundw
          case rel => exact .inr (.inl ⟨rfl, ⟨trivial, HI.out⟩, by first | exact ⟨_, rfl⟩ | exact laterW_more _ _ _⟩)
          case measure => simp [intOf]
        · have y1 : decide (257 < a.fo) = true := by simp; omega
          have HI := hide (inR_no2 h1)
          clear h0 h1
          go_wp2_with fail
          go_quiet (fail)
          go_wp2
          go_ret
          exact ⟨by rw [show withinB a = false from by unfold withinB; rw [HI.out]; simp]; rfl, by first | exact HB.out.trans ((below_later _ _).mono HB.out.size) | exact HB.out.trans ((below_later2 _ _ _).mono HB.out.size)⟩
      · have y0 : decide (a.fo < 0) = true := by simp; omega
        have HI := hide (inR_no1 (m := 257) h0)
        clear h0
        go_wp2_with fail
        go_quiet (fail)
        go_wp2
        go_ret
        exact ⟨by rw [show withinB a = false from by unfold withinB; rw [HI.out]; simp]; rfl, by first | exact HB.out.trans ((below_later _ _).mono HB.out.size) | exact HB.out.trans ((below_later2 _ _ _).mono HB.out.size)⟩
    · have HP := hide hp
      clear hp
      have hix := fun q => index_p1 gx (w3.drewN q)
      by_cases h0 : 0 ≤ a.ba
      · have y0 : decide (a.ba < 0) = false := by simp; omega
        by_cases h1 : a.ba ≤ 257
        · have y1 : decide (257 < a.ba) = false := by simp; omega
          have HI := hide (inR_yes h0 h1)
          clear h0 h1
          go_wp2_with fail
          go_quiet (fail)
          go_wp2
          go_roundw
          case rel => exact .inr (.inr (.inl ⟨rfl, ⟨trivial, HP.out.2, HI.out⟩, by first | exact ⟨_, rfl⟩ | exact laterW_more _ _ _⟩))
          case measure => simp [intOf]
        · have y1 : decide (257 < a.ba) = true := by simp; omega
          have HI := hide (inR_no2 h1)
          clear h0 h1
          go_wp2_with fail
          go_quiet (fail)
          go_wp2
          go_ret
          exact ⟨by rw [show withinB a = false from by unfold withinB; rw [HP.out.2, HI.out]; simp]; rfl, by first | exact HB.out.trans ((below_later _ _).mono HB.out.size) | exact HB.out.trans ((below_later2 _ _ _).mono HB.out.size)⟩
      · have y0 : decide (a.ba < 0) = true := by simp; omega
        have HI := hide (inR_no1 (m := 257) h0)
        clear h0
        go_wp2_with fail
        go_quiet (fail)
        go_wp2
        go_ret
        exact ⟨by rw [show withinB a = false from by unfold withinB; rw [HP.out.2, HI.out]; simp]; rfl, by first | exact HB.out.trans ((below_later _ _).mono HB.out.size) | exact HB.out.trans ((below_later2 _ _ _).mono HB.out.size)⟩
    · have HP := hide hp
      clear hp
      have hix := fun q => index_p2 gx (w3.drewN q)
      by_cases h0 : 0 ≤ a.bo
      · have y0 : decide (a.bo < 0) = false := by simp; omega
        by_cases h1 : a.bo ≤ 2
        · have y1 : decide (2 < a.bo) = false := by simp; omega
          have HI := hide (inR_yes h0 h1)
          clear h0 h1
          go_wp2_with fail
          go_quiet (fail)
          go_wp2
          go_roundw
          case rel => exact .inr (.inr (.inr (.inl ⟨rfl, ⟨trivial, HP.out.2.1, HP.out.2.2, HI.out⟩, by first | exact ⟨_, rfl⟩ | exact laterW_more _ _ _⟩)))
          case measure => simp [intOf]
        · have y1 : decide (2 < a.bo) = true := by simp; omega
          have HI := hide (inR_no2 h1)
          clear h0 h1
          go_wp2_with fail
          go_quiet (fail)
          go_wp2
          go_ret
          exact ⟨by rw [show withinB a = false from by unfold withinB; rw [HP.out.2.1, HP.out.2.2, HI.out]; simp]; rfl, by first | exact HB.out.trans ((below_later _ _).mono HB.out.size) | exact HB.out.trans ((below_later2 _ _ _).mono HB.out.size)⟩
      · have y0 : decide (a.bo < 0) = true := by simp; omega
        have HI := hide (inR_no1 (m := 2) h0)
        clear h0
        go_wp2_with fail
        go_quiet (fail)
        go_wp2
        go_ret
        exact ⟨by rw [show withinB a = false from by unfold withinB; rw [HP.out.2.1, HP.out.2.2, HI.out]; simp]; rfl, by first | exact HB.out.trans ((below_later _ _).mono HB.out.size) | exact HB.out.trans ((below_later2 _ _ _).mono HB.out.size)⟩
    · have HP := hide hp
      clear hp
      have hix := fun q => index_p3 gx (w3.drewN q)
      by_cases h0 : 0 ≤ a.un
      · have y0 : decide (a.un < 0) = false := by simp; omega
        by_cases h1 : a.un ≤ 2
        · have y1 : decide (2 < a.un) = false := by simp; omega
          have HI := hide (inR_yes h0 h1)
          clear h0 h1
          go_wp2_with fail
          go_quiet (fail)
          go_wp2
          go_roundw
          case rel => exact .inr (.inr (.inr (.inr (.inl ⟨rfl, ⟨trivial, HP.out.2.1, HP.out.2.2.1, HP.out.2.2.2, HI.out⟩, by first | exact ⟨_, rfl⟩ | exact laterW_more _ _ _⟩))))
          case measure => simp [intOf]
        · have y1 : decide (2 < a.un) = true := by simp; omega
          have HI := hide (inR_no2 h1)
          clear h0 h1
          go_wp2_with fail
          go_quiet (fail)
          go_wp2
          go_ret
          exact ⟨by rw [show withinB a = false from by unfold withinB; rw [HP.out.2.1, HP.out.2.2.1, HP.out.2.2.2, HI.out]; simp]; rfl, by first | exact HB.out.trans ((below_later _ _).mono HB.out.size) | exact HB.out.trans ((below_later2 _ _ _).mono HB.out.size)⟩
      · have y0 : decide (a.un < 0) = true := by simp; omega
        have HI := hide (inR_no1 (m := 2) h0)
        clear h0
        go_wp2_with fail
        go_quiet (fail)
        go_wp2
        go_ret
        exact ⟨by rw [show withinB a = false from by unfold withinB; rw [HP.out.2.1, HP.out.2.2.1, HP.out.2.2.2, HI.out]; simp]; rfl, by first | exact HB.out.trans ((below_later _ _).mono HB.out.size) | exact HB.out.trans ((below_later2 _ _ _).mono HB.out.size)⟩
    · have HP := hide hp
      clear hp
      have hix := fun q => index_p4 gx (w3.drewN q)
      by_cases h0 : 0 ≤ a.iv
      · have y0 : decide (a.iv < 0) = false := by simp; omega
        by_cases h1 : a.iv ≤ 2
        · have y1 : decide (2 < a.iv) = false := by simp; omega
          have HI := hide (inR_yes h0 h1)
          clear h0 h1
          go_wp2_with fail
          go_quiet (fail)
          go_wp2
          go_roundw
          case rel => exact .inr (.inr (.inr (.inr (.inr (⟨rfl, ⟨trivial, HP.out.2.1, HP.out.2.2.1, HP.out.2.2.2.1, HP.out.2.2.2.2, HI.out⟩, by first | exact ⟨_, rfl⟩ | exact laterW_more _ _ _⟩)))))
          case measure => simp [intOf]
        · have y1 : decide (2 < a.iv) = true := by simp; omega
          have HI := hide (inR_no2 h1)
          clear h0 h1
          go_wp2_with fail
          go_quiet (fail)
          go_wp2
          go_ret
          exact ⟨by rw [show withinB a = false from by unfold withinB; rw [HP.out.2.1, HP.out.2.2.1, HP.out.2.2.2.1, HP.out.2.2.2.2, HI.out]; simp]; rfl, by first | exact HB.out.trans ((below_later _ _).mono HB.out.size) | exact HB.out.trans ((below_later2 _ _ _).mono HB.out.size)⟩
      · have y0 : decide (a.iv < 0) = true := by simp; omega
        have HI := hide (inR_no1 (m := 2) h0)
        clear h0
        go_wp2_with fail
        go_quiet (fail)
        go_wp2
        go_ret
        exact ⟨by rw [show withinB a = false from by unfold withinB; rw [HP.out.2.1, HP.out.2.2.1, HP.out.2.2.2.1, HP.out.2.2.2.2, HI.out]; simp]; rfl, by first | exact HB.out.trans ((below_later _ _).mono HB.out.size) | exact HB.out.trans ((below_later2 _ _ _).mono HB.out.size)⟩
    · have HP := hide hp
      clear hp
      go_wp2
      go_ret
      exact ⟨by rw [show withinB a = true by unfold withinB; rw [HP.out.2.1, HP.out.2.2.1, HP.out.2.2.2.1, HP.out.2.2.2.2.1, HP.out.2.2.2.2.2]; rfl]; rfl, by first | exact HB.out.trans ((below_later _ _).mono HB.out.size) | exact HB.out.trans ((below_later2 _ _ _).mono HB.out.size)⟩
end Go.Proofs.Ytmjogpacajbngaa
