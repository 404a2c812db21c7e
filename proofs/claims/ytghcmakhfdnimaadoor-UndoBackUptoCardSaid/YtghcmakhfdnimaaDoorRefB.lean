/- The walks of what a change costs and whether it is one, at the reference. No condition but those written. -/
import Derived.Test.YtghcmakhfdnimaaDoorRefA
namespace Go.Proofs.YtghcmakhfdnimaaDoor
open Go.RowKit

set_option maxHeartbeats 1000000 in
theorem reflen_any (s : ByteArray) (w : World) (hs : s.size * 8 ≤ 140737488355328) : Calls Tryd.prog 45 #[.string s] w fun e w' => e = .returned (.int .i64 (lenS s : Int)) ∧ Below w.heap.size w w' := by
  have hl := list_any s w hs
  unfold ListRes at hl
  cases hc : charsL s.data.toList with
  | none =>
    have HN := hide (show lenS s = 0 by unfold lenS; rw [hc]; rfl)
    rw [hc] at hl
    have HL := hide hl
    clear hl hc
    go_enter Tryd.func45, Tryd.ntmps45
    go_wp2_with fail
    refine (Calls.mono HL.out) ?_
    rintro e w2 ⟨hb, rfl⟩
    have HB := hide hb
    clear hb
    go_wp2
    go_ret
    exact ⟨by rw [HN.out]; rfl, HB.out⟩
  | some l =>
    have HN := hide (show lenS s = l.length by unfold lenS; rw [hc]; rfl)
    rw [hc] at hl
    have HL := hide hl
    clear hl hc
    go_enter Tryd.func45, Tryd.ntmps45
    go_wp2_with fail
    refine (Calls.mono HL.out) ?_
    rintro e w2 ⟨hb, v, rfl, hsl, hown⟩
    obtain ⟨A, c, rfl, _⟩ := hsl.form
    have HB := hide hb
    clear hb hsl hown
    go_wp2
    go_ret
    exact ⟨by rw [HN.out]; rfl, HB.out⟩
theorem rprice_any (c : Chg) (w : World) (hs : c.tx.size ≤ 1099511627776) : Calls Tryd.prog 61 #[c.val] w fun e w' => e = .returned (.int .i64 (c.price : Int)) ∧ Below w.heap.size w w' := by
  have HB := hide ((Below.refl _ w).alloc (Nat.le_refl _) (.cells c.cells.toArray 51))
  have hl := lenS_le c.tx
  have HL := hide (reflen_any c.tx (w.alloc (.cells c.cells.toArray 51)) (by omega))
  by_cases hk : c.k = 2
  · have HP := hide (show c.price = 1 + lenS c.tx by unfold Chg.price; rw [if_pos hk])
    have hz : (c.k == 2) = true := by simpa using hk
    clear hk
    obtain ⟨n, hn⟩ : ∃ n, n = lenS c.tx := ⟨_, rfl⟩
    rw [← hn] at HL HP hl
    have hn2 : n ≤ 1099511627776 := by omega
    clear hn
    go_enter Tryd.func61, Tryd.ntmps61
    go_wp2_with fail
    refine (Calls.mono HL.out) ?_
    rintro e w2 ⟨rfl, hb⟩
    have HB2 := hide (HB.out.trans (hb.mono HB.out.size))
    clear hb
    go_wp2
    go_ret
    exact ⟨by rw [HP.out]; simp, HB2.out⟩
  · have HP := hide (show c.price = 1 by unfold Chg.price; rw [if_neg hk])
    have hz : (c.k == 2) = false := by simpa using hk
    clear hk
    go_enter Tryd.func61, Tryd.ntmps61
    go_wp2
    go_ret
    exact ⟨by rw [HP.out]; rfl, HB.out⟩
end Go.Proofs.YtghcmakhfdnimaaDoor
