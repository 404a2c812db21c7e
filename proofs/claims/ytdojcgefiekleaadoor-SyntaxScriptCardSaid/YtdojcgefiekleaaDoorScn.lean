/- Pick, the reference's Len, and the plain law of several moves. No condition but those written. -/
import Derived.Test.YtdojcgefiekleaaDoorScm
namespace Go.Proofs.YtdojcgefiekleaaDoor
open Go.RowKit

/-- What Pick returns. -/
def pickZ (n k : Int) : Int := if n.tmod k < 0 then n.tmod k + k else n.tmod k
theorem pickZ_ge {n k : Int} (hk : 0 < k) : 0 ≤ pickZ n k := by
  have := Int.lt_tmod_of_pos n hk
  unfold pickZ
  split <;> omega
theorem pickZ_lt {n k : Int} (hk : 0 < k) : pickZ n k < k := by
  have := Int.tmod_lt_of_pos n hk
  unfold pickZ
  split <;> omega
theorem pick_any (n k : Int) (w : World) (hk : 0 < k) (hk2 : k ≤ 100000) : Calls Tryd.prog 15 #[.int .i64 n, .int .i64 k] w fun e w' => e = .returned (.int .i64 (pickZ n k)) ∧ w = w' := by
  have hz : decide (k ≤ 0) = false := by simp; omega
  have b1 := Int.lt_tmod_of_pos n hk
  have b2 := Int.tmod_lt_of_pos n hk
  by_cases h : n.tmod k < 0
  · have hz2 : decide (n.tmod k < 0) = true := by simpa using h
    have HP := hide (show pickZ n k = n.tmod k + k by unfold pickZ; rw [if_pos h])
    go_enter Tryd.func15, Tryd.ntmps15
    go_wp2
    go_ret
    exact ⟨by rw [HP.out]; rfl, rfl⟩
  · have hz2 : decide (n.tmod k < 0) = false := by simpa using h
    have HP := hide (show pickZ n k = n.tmod k by unfold pickZ; rw [if_neg h])
    go_enter Tryd.func15, Tryd.ntmps15
    go_wp2
    go_ret
    exact ⟨by rw [HP.out]; rfl, rfl⟩
set_option maxHeartbeats 1000000 in
theorem reflen_any (s : ByteArray) (w : World) (hs : s.size * 8 ≤ 140737488355328) : Calls Tryd.prog 18 #[.string s] w fun e w' => e = .returned (.int .i64 (lenS s : Int)) ∧ Below w.heap.size w w' := by
  have hl := list_any s w hs
  unfold ListRes at hl
  cases hc : charsL s.data.toList with
  | none =>
    have HN := hide (show lenS s = 0 by unfold lenS; rw [hc]; rfl)
    rw [hc] at hl
    have HL := hide hl
    clear hl hc
    go_enter Tryd.func18, Tryd.ntmps18
    go_wp2_with fail
    refine (Calls.mono HL.out) ?_
    rintro e w2 ⟨hb, rfl⟩
    have HB := hide hb
    clear hb
    go_wp2
    go_ret
    exact ⟨by rw [HN.out]; rfl, HB.out⟩
  | some l =>
    have HN := hide (show lenS s = l.length by unfold lenS; rw [hc]; rfl)
    rw [hc] at hl
    have HL := hide hl
    clear hl hc
    go_enter Tryd.func18, Tryd.ntmps18
    go_wp2_with fail
    refine (Calls.mono HL.out) ?_
    rintro e w2 ⟨hb, v, rfl, hsl, hown⟩
    obtain ⟨A, c, rfl, _⟩ := hsl.form
    have HB := hide hb
    clear hb hsl hown
    go_wp2
    go_ret
    exact ⟨by rw [HN.out]; rfl, HB.out⟩
theorem eq_flt (a b c d : Int) (w : World) : (binOp .eql 40 (.agg #[.int .i64 a, .int .i64 b]) (.agg #[.int .i64 c, .int .i64 d])).run Tryd.prog w = .ok (.bool (a == c && b == d)) w := by
  go_simp
  by_cases h : a = c <;> by_cases h2 : b = d <;> simp [h, h2]
section
variable {T : Tb} {L : List Nat} {i : Nat}
/-- One move of several, forward or backward. -/
theorem sexps_one {st : Int} (h : st = 1 ∨ st = -1) : sexps T L st i = if st = 1 then (if (fwd1 T L i).2.1 = 0 then ((fwd1 T L i).1, 0, 0) else (0, (fwd1 T L i).2)) else (if (bck1 T (L.take i)).2.1 = 0 then ((bck1 T (L.take i)).1, 0, 0) else (0, (bck1 T (L.take i)).2)) := by
  rcases h with rfl | rfl
  · rw [if_pos rfl]
    exact sexF_one
  · rw [if_neg (by decide)]
    exact sexB_one
theorem sexps_more {st m : Int} {x : Nat} {y z : Int} (h : st = 1 ∨ st = -1) (hm : 0 < m * st) (h1 : sexps T L st i = (x, y, z)) : sexps T L m i = if y = 0 then sexps T L (m - st) x else (0, y, z) := by
  rw [sexps_one h] at h1
  rcases h with rfl | rfl
  · rw [if_pos rfl] at h1
    rw [sexps_pos (by omega)]
    by_cases h0 : (fwd1 T L i).2.1 = 0
    · rw [if_pos h0] at h1 ⊢
      simp only [Prod.mk.injEq] at h1
      obtain ⟨rfl, rfl, rfl⟩ := h1
      rw [if_pos rfl]
    · rw [if_neg h0] at h1 ⊢
      simp only [Prod.mk.injEq] at h1
      obtain ⟨rfl, h2⟩ := h1
      rw [h2] at h0 ⊢
      rw [if_neg h0]
  · rw [if_neg (by decide)] at h1
    rw [sexps_neg (by omega)]
    by_cases h0 : (bck1 T (L.take i)).2.1 = 0
    · rw [if_pos h0] at h1 ⊢
      simp only [Prod.mk.injEq] at h1
      obtain ⟨rfl, rfl, rfl⟩ := h1
      rw [if_pos rfl, show m - -1 = m + 1 by omega]
    · rw [if_neg h0] at h1 ⊢
      simp only [Prod.mk.injEq] at h1
      obtain ⟨rfl, h2⟩ := h1
      rw [h2] at h0 ⊢
      rw [if_neg h0]
theorem sexps_goes {st : Int} {x : Nat} {y z : Int} (hT : T.Ok) (hi : i ≤ L.length) (h : st = 1 ∨ st = -1) (h1 : sexps T L st i = (x, y, z)) : (y = 0 → z = 0 ∧ x ≤ L.length ∧ 0 < ((x : Int) - i) * st) ∧ (y ≠ 0 → x = 0) := by
  rw [sexps_one h] at h1
  rcases h with rfl | rfl
  · rw [if_pos rfl] at h1
    have := fwd1_more (L := L) (i := i) hT hi
    by_cases h0 : (fwd1 T L i).2.1 = 0
    · rw [if_pos h0] at h1
      simp only [Prod.mk.injEq] at h1
      obtain ⟨rfl, rfl, rfl⟩ := h1
      have := this h0
      exact ⟨fun _ => ⟨rfl, by omega, by omega⟩, fun h => absurd rfl h⟩
    · rw [if_neg h0] at h1
      simp only [Prod.mk.injEq] at h1
      obtain ⟨rfl, h2⟩ := h1
      rw [h2] at h0
      exact ⟨fun h => absurd h h0, fun _ => rfl⟩
  · rw [if_neg (by decide)] at h1
    have := bck1_less (L := L.take i) hT
    rw [take_len hi] at this
    by_cases h0 : (bck1 T (L.take i)).2.1 = 0
    · rw [if_pos h0] at h1
      simp only [Prod.mk.injEq] at h1
      obtain ⟨rfl, rfl, rfl⟩ := h1
      have := this h0
      exact ⟨fun _ => ⟨rfl, by omega, by omega⟩, fun h => absurd rfl h⟩
    · rw [if_neg h0] at h1
      simp only [Prod.mk.injEq] at h1
      obtain ⟨rfl, h2⟩ := h1
      rw [h2] at h0
      exact ⟨fun h => absurd h h0, fun _ => rfl⟩
end
end Go.Proofs.YtdojcgefiekleaaDoor
