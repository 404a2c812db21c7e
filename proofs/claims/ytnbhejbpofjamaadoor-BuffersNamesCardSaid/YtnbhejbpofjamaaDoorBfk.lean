/- A set of buffers: Switch, Bury, Other. No condition but those written. -/
import Derived.Test.YtnbhejbpofjamaaDoorBfj
namespace Go.Proofs.YtnbhejbpofjamaaDoor
open Go.RowKit

section
variable {W w w' : World} {b : Bb} {s : Bst} {R : Heap}
set_option maxRecDepth 100000 in
set_option maxHeartbeats 2000000 in
theorem switch_any (h : BAt W w b s R) (ok : s.Ok) (k : Int) (hl : s.order.length ≤ 1000000) : Calls Tryd.prog 22 #[.pointer (some ⟨b.sb, 0, none⟩), .int .i64 k] w (Moved W b.sb s (swiS s k.toNat) R (knownE s.all k)) := by
  have HK := hide (enter_any h ok k)
  rcases known_split s k with he | he
  · obtain ⟨j, rfl, hj, _⟩ := known_nat ok he
    have HJ := hide hj
    have HL := hide hl
    rw [he] at HK ⊢
    clear h ok he hj hl
    go_enter Tryd.func22, Tryd.ntmps22
    go_wp2_with fail
    refine (Calls.mono HK.out) ?_
    rintro e w1 ⟨rfl, s1, ⟨b1, hb1, h1⟩, _, hs1⟩
    have hs1' := hs1 rfl
    rw [Int.toNat_natCast] at hs1'
    subst hs1'
    have HV := hide (leave_any h1 j HJ.out HL.out)
    rw [hb1] at HV
    clear h1 hb1 hs1 HK b1
    go_wp2_with fail
    refine (Calls.mono HV.out) ?_
    rintro e w2 ⟨rfl, ⟨sb2, mb2, ov2⟩, hb2, h2⟩
    simp only [] at hb2
    subst hb2
    obtain ⟨A, c, hov, _, _⟩ := h2.sl.form
    simp only [] at hov
    subst hov
    have d1 : w2.cell? ⟨b.sb, 1, none⟩ = some (.slice A (s.order.erase j).length c) := h2.c1
    have HH := hide (h2.skip (.cells #[.int .i64 (j : Int)] 3))
    have hlt : (s.order.erase j).length ≤ 1000000 := Nat.le_trans (List.length_erase_le ..) HL.out
    have HINS := hide (ins_some (s.order.erase j) [j] 0 (.slice A (s.order.erase j).length c) (.slice (some ⟨w2.heap.size, 0, none⟩) 1 1) (w2.alloc (.cells #[.int .i64 (j : Int)] 3)) (h2.sl.alloc _)
      (by have h9 := Sl.new w2 3 1 #[.int .i64 (j : Int)] 1 1 (Nat.le_refl _) (by simp [maxLen]) (by simp); exact (show Sl (w2.alloc (.cells #[.int .i64 (j : Int)] 3)) 3 1 (.slice (some ⟨w2.heap.size, 0, none⟩) 1 1) 1 [.int .i64 (j : Int)] from by simpa using h9))
      (by intro g hg; have := h2.sl.lt g hg; simp [Value.ownBlock]; omega) (Nat.zero_le _) hlt (by simp) (by simp))
    simp only [List.take_zero, List.nil_append, List.drop_zero, List.singleton_append] at HINS
    have HD := hide d1
    obtain ⟨nl, hnl⟩ : ∃ nl, nl = (s.order.erase j).length := ⟨_, rfl⟩
    have HNL := hide hnl
    rw [← hnl] at HINS d1
    clear h2 hlt hnl HV HD
    have d1' : (w2.alloc (.cells #[.int .i64 (j : Int)] 3)).cell? ⟨b.sb, 1, none⟩ = some (.slice A nl c) := cell_keep d1 (below_box w2 _)
    go_wp2_with fail
    refine (Calls.mono HINS.out) ?_
    rintro e w3 ⟨v3, rfl, hs3, ho3, hv3⟩
    obtain ⟨A3, c3, rfl, _, _⟩ := hs3.form
    obtain ⟨x1, x2⟩ := HH.out.reorder hs3 (by show Only (fun i => (Value.slice A (s.order.erase j).length c).ownBlock = some i) _ _; rw [← HNL.out]; exact ho3) (by show _ = (Value.slice A (s.order.erase j).length c).ownBlock ∨ _; rw [← HNL.out]; exact hv3)
    have HF := hide x2
    have f1 := x1.frozen 1
    have e1 : w3.cell? ⟨b.sb, 1, none⟩ = some (.slice A (s.order.erase j).length c) := (x1.cell 1).trans rfl
    clear hs3 ho3 hv3 x1 x2 HINS d1 d1'
    go_wp2_with fail
    go_ret
    refine ⟨rfl, _, ⟨Bb.withOv ⟨b.sb, mb2, .slice A (s.order.erase j).length c⟩ _, rfl, HF.out⟩, fun h0 => absurd rfl h0, fun _ => rfl⟩
  · have H := hide h
    rw [he] at HK ⊢
    clear h ok he hl
    go_enter Tryd.func22, Tryd.ntmps22
    go_wp2_with fail
    refine (Calls.mono HK.out) ?_
    rintro e w1 ⟨rfl, s1, h1, hs1, _⟩
    obtain rfl := hs1 (by decide)
    have H1 := hide h1
    clear h1 hs1
    go_wp2_with fail
    go_ret
    exact ⟨rfl, s1, H1.out, fun _ => rfl, fun h0 => absurd h0 (by decide)⟩
end
end Go.Proofs.YtnbhejbpofjamaaDoor
