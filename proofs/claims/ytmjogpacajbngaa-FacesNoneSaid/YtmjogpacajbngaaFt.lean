/- FacesNone: the walk. No condition but those written. -/
import Derived.Test.YtmjogpacajbngaaFp
import Derived.Test.YtmjogpacajbngaaFn
namespace Go.Proofs.Ytmjogpacajbngaa
open Go.RowKit

abbrev noneL (w : World) (a : Att) : Heap := [(w.heap.size + 2, .cells 30 #[.pointer none, .pointer (some ⟨w.heap.size + 1, 0, none⟩)]), (w.heap.size + 1, .cells 60 #[.map none]), (w.heap.size, .cells 23 a.cells.toArray)]
theorem none_start (w : World) (a : Att) : Own w (((w.alloc (.cells a.cells.toArray 23)).alloc (.cells #[.map none] 60)).alloc (.cells #[.pointer none, .pointer (some ⟨w.heap.size + 1, 0, none⟩)] 30)) (noneL w a) := by
  have h := (((Own.refl w).newCells 23 a.cells.toArray).newCells 60 #[.map none]).newCells 30 #[.pointer none, .pointer (some ⟨w.heap.size + 1, 0, none⟩)]
  simpa only [World.size_alloc, Nat.add_assoc] using h
abbrev noneL3 (w w2 w3 : World) (a : Att) : Heap := (w3.heap.size, .cells 23 attZ) :: (w2.heap.size, .cells 23 attZ) :: noneL w a
theorem none_all {w w2 w3 w' : World} {a : Att} (h : Own w w' (noneL3 w w2 w3 a)) : w'.cell? ⟨w.heap.size, 0, none⟩ = some (.int .i64 a.fo) ∧ w'.cell? ⟨w.heap.size, 1, none⟩ = some (.int .i64 a.ba) ∧ w'.cell? ⟨w.heap.size, 2, none⟩ = some (.int .i64 a.bo) ∧ w'.cell? ⟨w.heap.size, 3, none⟩ = some (.int .i64 a.un) ∧ w'.cell? ⟨w.heap.size, 4, none⟩ = some (.int .i64 a.iv) ∧ w'.cell? ⟨w.heap.size, 5, none⟩ = some (.string a.inh) ∧ w'.cell? ⟨w2.heap.size, 0, none⟩ = some (.int .i64 0) ∧ w'.cell? ⟨w2.heap.size, 1, none⟩ = some (.int .i64 0) ∧ w'.cell? ⟨w2.heap.size, 2, none⟩ = some (.int .i64 0) ∧ w'.cell? ⟨w2.heap.size, 3, none⟩ = some (.int .i64 0) ∧ w'.cell? ⟨w2.heap.size, 4, none⟩ = some (.int .i64 0) ∧ w'.cell? ⟨w2.heap.size, 5, none⟩ = some (.string ⟨#[]⟩) ∧ w'.cell? ⟨w3.heap.size, 0, none⟩ = some (.int .i64 0) ∧ w'.cell? ⟨w3.heap.size, 1, none⟩ = some (.int .i64 0) ∧ w'.cell? ⟨w3.heap.size, 2, none⟩ = some (.int .i64 0) ∧ w'.cell? ⟨w3.heap.size, 3, none⟩ = some (.int .i64 0) ∧ w'.cell? ⟨w3.heap.size, 4, none⟩ = some (.int .i64 0) ∧ w'.cell? ⟨w3.heap.size, 5, none⟩ = some (.string ⟨#[]⟩) := by
  have h1 : Blk w' w.heap.size 23 a.cells.toArray := h.blk (by simp)
  have h2 : Blk w' w2.heap.size 23 attZero.cells.toArray := h.blk (by simp [Att.cells])
  have h3 : Blk w' w3.heap.size 23 attZero.cells.toArray := h.blk (by simp [Att.cells])
  obtain ⟨a0, a1, a2, a3, a4, a5⟩ := h1.att
  obtain ⟨b0, b1, b2, b3, b4, b5⟩ := h2.att
  obtain ⟨c0, c1, c2, c3, c4, c5⟩ := h3.att
  exact ⟨a0, a1, a2, a3, a4, a5, b0, b1, b2, b3, b4, b5, c0, c1, c2, c3, c4, c5⟩
theorem neq_att (w : World) : (binOp .neq 23 (.agg #[.int .i64 0, .int .i64 0, .int .i64 0, .int .i64 0, .int .i64 0, .string ⟨#[]⟩]) (.agg #[.int .i64 0, .int .i64 0, .int .i64 0, .int .i64 0, .int .i64 0, .string ⟨#[]⟩])).run Try.prog w = .ok (.bool false) w := by
  go_simp
theorem neq_lookZ (w : World) : (binOp .neq 26 (.agg #[.int .i64 0, .int .i64 0, .bool false, .bool false, .bool false]) (.agg #[.int .i64 0, .int .i64 0, .bool false, .bool false, .bool false])).run Try.prog w = .ok (.bool false) w := by
  go_simp
set_option maxRecDepth 100000 in
set_option maxHeartbeats 16000000 in
theorem none_walk (n : ByteArray) (a : Att) (w : World) : Calls Try.prog 10 #[.string n, a.val] w fun e w' => e = .returned (.bool true) ∧ Below w.heap.size w w' := by
  have HS := hide (none_start w a)
  have e1 := neq_att
  have e2 := neq_lookZ
  have HDN := hide (show ∀ (w : World) (m : ByteArray), Calls Try.prog 19 #[.pointer none, .string m, a.val] w (fun e w' => e = .returned (.int .i64 1) ∧ Below w.heap.size w w') from fun w m => define_nof (.inl rfl) m a)
  have HRE := hide (show ∀ (w : World) (p : Option Addr) (h : NoF w p) (v : Value), Calls Try.prog 28 #[.pointer p, v] w (fun e w' => e = .returned (.agg #[.int .i64 0, .int .i64 0, .bool false, .bool false, .bool false]) ∧ Below w.heap.size w w') from fun w p h v => resolve_nof h v)
  have HQ := hide (fun w2 w3 w' h => none_all (w := w) (w2 := w2) (w3 := w3) (w' := w') (a := a) h)
  go_enter Try.func10, Try.ntmps10
  go_wp2_with fail
  go_loopw [6] (fun t wr => (t = .int .i64 0 ∧ Own w wr (noneL w a)) ∨ (t = .int .i64 1 ∧ Own w wr (noneL w a)) ∨ (t = .int .i64 2 ∧ Own w wr (noneL w a))) (fun t _ => 2 - (intOf t).toNat)
  case atStart => exact .inl ⟨rfl, HS.out⟩
  case round =>
    rcases hrel with ⟨rfl, hI⟩ | ⟨rfl, hI⟩ | ⟨rfl, hI⟩
    · have HI := hide hI
      have q0 : wr.cell? ⟨w.heap.size + 1 + 1, 0, none⟩ = some (.pointer none) := by
        have h : Blk wr (w.heap.size + 2) 30 _ := hI.blk (by simp; rfl)
        rw [show w.heap.size + 1 + 1 = w.heap.size + 2 from rfl, h.cell]
        rfl
      have HN := hide (show ∀ w', Own w w' (noneL w a) → NoF w' none from fun w' h => .inl rfl)
      have HM2 := hide (show ∀ w2 w' : World, Own w w' ((w2.heap.size, .cells 23 attZ) :: noneL w a) → NoF w' none from fun w2 w' h => .inl rfl)
      have HM3 := hide (show ∀ w2 w3 w' : World, Own w w' (noneL3 w w2 w3 a) → NoF w' none from fun w2 w3 w' h => .inl rfl)
      clear hI
      go_wp2_with fail
      refine (Calls.mono (attrs_nof (HN.out _ HI.out) n)) ?_
      rintro r w2 ⟨rfl, hb2⟩
      have H2 := hide ((HI.out.below hb2).newCells 23 attZ)
      clear hb2 q0
      go_wp2_with fail
      refine (Calls.mono (full_nof (HM2.out _ _ H2.out) n)) ?_
      rintro r w3 ⟨rfl, hb3⟩
      have B0 := hide (Own.drew ((H2.out.below hb3).newCells 23 attZ))
      clear hb3
      go_wp2_with fail
      go_region_held3 (fun w' => w'.cell? ⟨w.heap.size, 0, none⟩ = some (.int .i64 a.fo) ∧ w'.cell? ⟨w.heap.size, 1, none⟩ = some (.int .i64 a.ba) ∧ w'.cell? ⟨w.heap.size, 2, none⟩ = some (.int .i64 a.bo) ∧ w'.cell? ⟨w.heap.size, 3, none⟩ = some (.int .i64 a.un) ∧ w'.cell? ⟨w.heap.size, 4, none⟩ = some (.int .i64 a.iv) ∧ w'.cell? ⟨w.heap.size, 5, none⟩ = some (.string a.inh) ∧ w'.cell? ⟨w2.heap.size, 0, none⟩ = some (.int .i64 0) ∧ w'.cell? ⟨w2.heap.size, 1, none⟩ = some (.int .i64 0) ∧ w'.cell? ⟨w2.heap.size, 2, none⟩ = some (.int .i64 0) ∧ w'.cell? ⟨w2.heap.size, 3, none⟩ = some (.int .i64 0) ∧ w'.cell? ⟨w2.heap.size, 4, none⟩ = some (.int .i64 0) ∧ w'.cell? ⟨w2.heap.size, 5, none⟩ = some (.string ⟨#[]⟩) ∧ w'.cell? ⟨w3.heap.size, 0, none⟩ = some (.int .i64 0) ∧ w'.cell? ⟨w3.heap.size, 1, none⟩ = some (.int .i64 0) ∧ w'.cell? ⟨w3.heap.size, 2, none⟩ = some (.int .i64 0) ∧ w'.cell? ⟨w3.heap.size, 3, none⟩ = some (.int .i64 0) ∧ w'.cell? ⟨w3.heap.size, 4, none⟩ = some (.int .i64 0) ∧ w'.cell? ⟨w3.heap.size, 5, none⟩ = some (.string ⟨#[]⟩))
        (first | exact HQ.out _ _ _ B0.out | exact HQ.out _ _ _ B1.out | exact HQ.out _ _ _ B2.out | exact HQ.out _ _ _ B3.out | exact HQ.out _ _ _ (B4.out _) | exact HQ.out _ _ _ B5.out | exact HQ.out _ _ _ B6.out | exact HQ.out _ _ _ B7.out)
        ((first
          | (go_at_call 19; (with_reducible refine Calls.mono (define_nof (HM3.out _ _ _ B0.out) n a) ?_); rintro r w4 ⟨rfl, hb⟩; have B1 := hide (B0.out.below hb); clear hb)
          | (go_at_call 21; (with_reducible refine Calls.mono (drop_nof (HM3.out _ _ _ B1.out) n) ?_); rintro r w5 ⟨rfl, hb⟩; have B2 := hide (B1.out.below hb); clear hb)
          | (go_at_call 24; (with_reducible refine Calls.mono (names_nof (HM3.out _ _ _ B2.out)) ?_); rintro r w6 ⟨rfl, hb⟩; have B3 := hide (B2.out.below hb); have B4 := hide (fun o : Obj => B3.out.below ((Below.refl w6.heap.size w6).alloc (Nat.le_refl _) o)); clear hb)
          | (go_at_call 28; (with_reducible refine Calls.mono (HRE.out _ _ (HM3.out _ _ _ (B4.out _)) _) ?_); rintro r w7 ⟨rfl, hb⟩; have B5 := hide (Own.below (B4.out _) hb); clear hb)
          | (go_at_call 32; (with_reducible refine Calls.mono (copy_nof (HM3.out _ _ _ B5.out)) ?_); rintro r w8 ⟨rfl, hb⟩; have B6 := hide (B5.out.below hb); clear hb)
          | (go_at_call 19; (with_reducible refine Calls.mono (HDN.out _ _) ?_); rintro r w9 ⟨rfl, hb⟩; have B7 := hide (B6.out.below hb); clear hb)))
      have HE := hide ((B7.out.tail).tail)
      clear HM2 HM3 H2 B0 B1 B2 B3 B4 B5 B6 HN
      go_wp2
      go_roundw
      case rel => exact .inr (.inl ⟨rfl, HE.out⟩)
      case measure => simp [intOf]
    · have HI := hide hI
      have q0 : wr.cell? ⟨w.heap.size + 1 + 1, 1, none⟩ = some (.pointer (some ⟨w.heap.size + 1, 0, none⟩)) := by
        have h : Blk wr (w.heap.size + 2) 30 _ := hI.blk (by simp; rfl)
        rw [show w.heap.size + 1 + 1 = w.heap.size + 2 from rfl, h.cell]
        rfl
      have HN := hide (show ∀ w', Own w w' (noneL w a) → NoF w' (some ⟨w.heap.size + 1, 0, none⟩) from fun w' h => .inr ⟨_, rfl, Own.blk h (g := w.heap.size + 1) (by simp)⟩)
      have HM2 := hide (show ∀ w2 w' : World, Own w w' ((w2.heap.size, .cells 23 attZ) :: noneL w a) → NoF w' (some ⟨w.heap.size + 1, 0, none⟩) from fun w2 w' h => .inr ⟨_, rfl, Own.blk h (g := w.heap.size + 1) (by simp)⟩)
      have HM3 := hide (show ∀ w2 w3 w' : World, Own w w' (noneL3 w w2 w3 a) → NoF w' (some ⟨w.heap.size + 1, 0, none⟩) from fun w2 w3 w' h => .inr ⟨_, rfl, Own.blk h (g := w.heap.size + 1) (by simp)⟩)
      clear hI
      go_wp2_with fail
      refine (Calls.mono (attrs_nof (HN.out _ HI.out) n)) ?_
      rintro r w2 ⟨rfl, hb2⟩
      have H2 := hide ((HI.out.below hb2).newCells 23 attZ)
      clear hb2 q0
      go_wp2_with fail
      refine (Calls.mono (full_nof (HM2.out _ _ H2.out) n)) ?_
      rintro r w3 ⟨rfl, hb3⟩
      have B0 := hide (Own.drew ((H2.out.below hb3).newCells 23 attZ))
      clear hb3
      go_wp2_with fail
      go_region_held3 (fun w' => w'.cell? ⟨w.heap.size, 0, none⟩ = some (.int .i64 a.fo) ∧ w'.cell? ⟨w.heap.size, 1, none⟩ = some (.int .i64 a.ba) ∧ w'.cell? ⟨w.heap.size, 2, none⟩ = some (.int .i64 a.bo) ∧ w'.cell? ⟨w.heap.size, 3, none⟩ = some (.int .i64 a.un) ∧ w'.cell? ⟨w.heap.size, 4, none⟩ = some (.int .i64 a.iv) ∧ w'.cell? ⟨w.heap.size, 5, none⟩ = some (.string a.inh) ∧ w'.cell? ⟨w2.heap.size, 0, none⟩ = some (.int .i64 0) ∧ w'.cell? ⟨w2.heap.size, 1, none⟩ = some (.int .i64 0) ∧ w'.cell? ⟨w2.heap.size, 2, none⟩ = some (.int .i64 0) ∧ w'.cell? ⟨w2.heap.size, 3, none⟩ = some (.int .i64 0) ∧ w'.cell? ⟨w2.heap.size, 4, none⟩ = some (.int .i64 0) ∧ w'.cell? ⟨w2.heap.size, 5, none⟩ = some (.string ⟨#[]⟩) ∧ w'.cell? ⟨w3.heap.size, 0, none⟩ = some (.int .i64 0) ∧ w'.cell? ⟨w3.heap.size, 1, none⟩ = some (.int .i64 0) ∧ w'.cell? ⟨w3.heap.size, 2, none⟩ = some (.int .i64 0) ∧ w'.cell? ⟨w3.heap.size, 3, none⟩ = some (.int .i64 0) ∧ w'.cell? ⟨w3.heap.size, 4, none⟩ = some (.int .i64 0) ∧ w'.cell? ⟨w3.heap.size, 5, none⟩ = some (.string ⟨#[]⟩))
        (first | exact HQ.out _ _ _ B0.out | exact HQ.out _ _ _ B1.out | exact HQ.out _ _ _ B2.out | exact HQ.out _ _ _ B3.out | exact HQ.out _ _ _ (B4.out _) | exact HQ.out _ _ _ B5.out | exact HQ.out _ _ _ B6.out | exact HQ.out _ _ _ B7.out)
        ((first
          | (go_at_call 19; (with_reducible refine Calls.mono (define_nof (HM3.out _ _ _ B0.out) n a) ?_); rintro r w4 ⟨rfl, hb⟩; have B1 := hide (B0.out.below hb); clear hb)
          | (go_at_call 21; (with_reducible refine Calls.mono (drop_nof (HM3.out _ _ _ B1.out) n) ?_); rintro r w5 ⟨rfl, hb⟩; have B2 := hide (B1.out.below hb); clear hb)
          | (go_at_call 24; (with_reducible refine Calls.mono (names_nof (HM3.out _ _ _ B2.out)) ?_); rintro r w6 ⟨rfl, hb⟩; have B3 := hide (B2.out.below hb); have B4 := hide (fun o : Obj => B3.out.below ((Below.refl w6.heap.size w6).alloc (Nat.le_refl _) o)); clear hb)
          | (go_at_call 28; (with_reducible refine Calls.mono (HRE.out _ _ (HM3.out _ _ _ (B4.out _)) _) ?_); rintro r w7 ⟨rfl, hb⟩; have B5 := hide (Own.below (B4.out _) hb); clear hb)
          | (go_at_call 32; (with_reducible refine Calls.mono (copy_nof (HM3.out _ _ _ B5.out)) ?_); rintro r w8 ⟨rfl, hb⟩; have B6 := hide (B5.out.below hb); clear hb)
          | (go_at_call 19; (with_reducible refine Calls.mono (HDN.out _ _) ?_); rintro r w9 ⟨rfl, hb⟩; have B7 := hide (B6.out.below hb); clear hb)))
      have HE := hide ((B7.out.tail).tail)
      clear HM2 HM3 H2 B0 B1 B2 B3 B4 B5 B6 HN
      go_wp2
      go_roundw
      case rel => exact .inr (.inr ⟨rfl, HE.out⟩)
      case measure => simp [intOf]
    · have HI := hide hI
      clear hI
      go_wp2_with fail
      (with_reducible refine Calls.mono (awake_any _) ?_)
      rintro r w2 ⟨rfl, hb2⟩
      have HZ := hide (HI.out.below hb2).bel
      clear hb2
      go_wp2
      go_ret
      exact ⟨rfl, HZ.out⟩
end Go.Proofs.Ytmjogpacajbngaa
