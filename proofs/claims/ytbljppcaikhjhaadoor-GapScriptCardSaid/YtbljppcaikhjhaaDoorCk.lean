/- Copy, what lies beside kept. No condition but those written. -/
import Derived.Test.YtbljppcaikhjhaaDoorGapCp
namespace Go.Proofs.YtbljppcaikhjhaaDoor
open Go.RowKit

section
variable {W w w' : World} {tb : Nat} {L : List Nat} {R : Heap}
def CopyK (W : World) (b1 : Gb) (L : List Nat) (R : Heap) (e : Ending) (w' : World) : Prop := ∃ t2, e = .returned (.pointer (some ⟨t2, 0, none⟩)) ∧ ∃ b2 : Gb, b2.tb = t2 ∧ Own W w' (b1.heap ++ (b2.heap ++ R)) ∧ GOk b2 L
theorem copied_k {w1 w2 : World} {b : Gb} {g1 o1 c1 n m : Nat} {v2 : Value} (h : TextAt W w b L R) (hn : n = b.g.B.length) (hm : m = b.g.F.length) (hb1 : Below w.heap.size w w1) (hs1 : Sl w1 21 1 (.slice (some ⟨g1, o1, none⟩) n c1) n (runs b.g.B)) (hg1 : w.heap.size ≤ g1)
    (hb2 : Below w1.heap.size w1 w2) (hs2 : Sl w2 3 1 v2 m (ints b.g.F)) (hg2 : ∀ g, v2.ownBlock = some g → w1.heap.size ≤ g) :
    CopyK W b L R (.returned (.pointer (some ⟨w2.heap.size, 0, none⟩))) (w2.alloc (.cells #[.slice (some ⟨g1, o1, none⟩) n c1, .int .i64 (b.g.st : Int), .int .i64 (b.g.en : Int), v2] 64)) := by
  subst hn hm
  have h1 := h.gap.own.joinRow hb1 hs1 (fun g hg => by simp [Value.ownBlock] at hg; omega)
  have h2 := h1.joinRow hb2 hs2 hg2
  have h3 := h2.newCells 64 #[.slice (some ⟨g1, o1, none⟩) b.g.B.length c1, .int .i64 (b.g.st : Int), .int .i64 (b.g.en : Int), v2]
  refine ⟨w2.heap.size, rfl, ⟨w2.heap.size, g1, o1, c1, v2, b.g⟩, rfl, h3.perm ?_, ⟨hs2.rowOk, h.gap.le1, h.gap.le2, h.gap.lim, h.ok⟩⟩
  rw [rowOf_some (show (Value.slice (some ⟨g1, o1, none⟩) b.g.B.length c1).ownBlock = some g1 from rfl)]
  show List.Perm ((w2.heap.size, Ast.cells 64 #[.slice (some ⟨g1, o1, none⟩) b.g.B.length c1, .int .i64 (b.g.st : Int), .int .i64 (b.g.en : Int), v2]) :: (rowOf 3 1 v2 b.g.F.length (ints b.g.F) ++ ([(g1, Ast.row 21 1 (.slice (some ⟨g1, o1, none⟩) b.g.B.length c1) b.g.B.length (runs b.g.B))] ++ (b.heap ++ R)))) (b.heap ++ (((w2.heap.size, Ast.cells 64 #[.slice (some ⟨g1, o1, none⟩) b.g.B.length c1, .int .i64 (b.g.st : Int), .int .i64 (b.g.en : Int), v2]) :: (g1, Ast.row 21 1 (.slice (some ⟨g1, o1, none⟩) b.g.B.length c1) b.g.B.length (runs b.g.B)) :: rowOf 3 1 v2 b.g.F.length (ints b.g.F)) ++ R))
  classical
  rw [List.perm_iff_count]
  intro x
  simp only [List.count_append, List.count_cons, List.count_nil]
  omega
set_option maxRecDepth 100000 in
set_option maxHeartbeats 8000000 in
theorem copy_keep {b : Gb} (h : TextAt W w b L R) : Calls Tryd.prog 34 #[.pointer (some ⟨b.tb, 0, none⟩)] w (CopyK W b L R) := by
  have HN := hide (none_any h.gap)
  have HH := hide h
  obtain ⟨A2, d2, hv2, _, _⟩ := h.gap.slF.form
  have hlim := h.gap.lim
  have hF : b.g.F.length ≤ 65536 := by rw [h.ok.feed]; have := feeds_le 1 L; have := h.ok.size; omega
  obtain ⟨n, hn⟩ : ∃ n, n = b.g.B.length := ⟨_, rfl⟩
  obtain ⟨m, hm⟩ : ∃ m, m = b.g.F.length := ⟨_, rfl⟩
  have HC1 := hide (fun (w1 : World) (hb : Below w.heap.size w w1) => (show Calls Tryd.prog 56 #[.slice (some ⟨b.bb, b.bo, none⟩) n b.bc] w1 (FreshR w1 21 n (runs b.g.B)) from by
    rw [hn]
    exact clone_runes _ _ _ _ _ (h.gap.below hb).slB.rd (runs_cell _) (by omega)))
  have HC2 := hide (fun (w1 : World) (hb : Below w.heap.size w w1) => (show Calls Tryd.prog 57 #[.slice A2 m d2] w1 (FreshI w1 3 m (ints b.g.F)) from by
    rw [hm, ← hv2]
    exact clone_ints _ _ _ _ (h.gap.below hb).slF.rd (ints_one _) (by omega)))
  have HK := hide (fun (w1 : World) (hb : Below w.heap.size w w1) => (show w1.cell? ⟨b.tb, 0, none⟩ = some (.slice (some ⟨b.bb, b.bo, none⟩) n b.bc) ∧ w1.cell? ⟨b.tb, 1, none⟩ = some (.int .i64 (b.g.st : Int)) ∧ w1.cell? ⟨b.tb, 2, none⟩ = some (.int .i64 (b.g.en : Int)) ∧ w1.cell? ⟨b.tb, 3, none⟩ = some (.slice A2 m d2) from
    ⟨by rw [hn]; exact (h.gap.below hb).c0, (h.gap.below hb).c1, (h.gap.below hb).c2, by rw [hm, ← hv2]; exact (h.gap.below hb).c3⟩))
  have HNN := hide hn
  have HMM := hide hm
  have B0 := hide (show Below w.heap.size w w.drew from (Below.refl _ _).drew)
  obtain ⟨c0, c1, c2, c3⟩ := HK.out w (Below.refl _ _)
  obtain ⟨gs, hgs⟩ : ∃ gs : Int, gs = (b.g.st : Int) := ⟨_, rfl⟩
  obtain ⟨ge, hge⟩ : ∃ ge : Int, ge = (b.g.en : Int) := ⟨_, rfl⟩
  rw [← hgs] at c1 HK
  rw [← hge] at c2 HK
  have HGS := hide hgs
  have HGE := hide hge
  clear h hv2 hlim hF hn hm hgs hge
  go_enter Tryd.func34, Tryd.ntmps34
  go_wp2_with fail
  refine (Calls.mono (HN.out)) ?_
  rintro r w2 ⟨rfl, rfl⟩
  go_wp2_with fail
  go_region_held3 (fun w' => w'.cell? ⟨b.tb, 0, none⟩ = some (.slice (some ⟨b.bb, b.bo, none⟩) n b.bc) ∧ w'.cell? ⟨b.tb, 1, none⟩ = some (.int .i64 gs) ∧ w'.cell? ⟨b.tb, 2, none⟩ = some (.int .i64 ge) ∧ w'.cell? ⟨b.tb, 3, none⟩ = some (.slice A2 m d2))
    (first | exact HK.out _ B0.out | exact HK.out _ B1.out | exact HK.out _ B2.out | exact HK.out _ (B2.out.alloc B2.out.size _))
    ((first
      | (go_at_call 56; refine (HC1.out _ B0.out).mono ?_; rintro r w1 ⟨g1, o1, k1, rfl, hs1, hg1, hb1⟩; have HB1 := hide hb1; have B1 := hide (B0.out.trans hb1); have HS1 := hide hs1; have HG1 := hide hg1; clear hs1 hg1 hb1)
      | (go_at_call 57; refine (HC2.out _ B1.out).mono ?_; rintro r w2 ⟨v2, rfl, hs2, hg2, hb2⟩; have HB2 := hide hb2; have B2 := hide (B1.out.trans (hb2.mono B1.out.size)); have HS2 := hide hs2; have HG2 := hide hg2; obtain ⟨A3, d3, rfl, _, _⟩ := hs2.form; clear hs2 hg2 hb2)))
  have HF := hide (copied_k HH.out HNN.out HMM.out B1.out HS1.out (HG1.out) HB2.out HS2.out HG2.out)
  rw [← HGS.out, ← HGE.out] at HF
  go_wp2
  go_ret
  exact HF.out
end
end Go.Proofs.YtbljppcaikhjhaaDoor
