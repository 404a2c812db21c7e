/- names: two lists of strings are compared. No condition but those written. -/
import Derived.Test.YtmjogpacajbngaaFk
import Derived.Test.YtmjogpacajbngaaFg
import Derived.Test.YtmjogpacajbngaaFd
namespace Go.Proofs.Ytmjogpacajbngaa
open Go.RowKit

theorem Rd.belowF {w w' : World} {v : Value} {k n : Nat} {xs : List Value} (h : Rd w v k n xs) (hb : Below w.heap.size w w') : Rd w' v k n xs := by
  obtain ⟨A, c, rfl, hl, hc⟩ := h
  refine ⟨A, c, rfl, hl, fun hn => ?_⟩
  obtain ⟨b, off, rfl, hcell⟩ := hc hn
  refine ⟨b, off, rfl, fun j u hu => ?_⟩
  have := hcell j u hu
  exact (World.cell?_of_block (hb.block b (World.block_lt_of_cell? _ _ this))).trans this
theorem take_next {α : Type} {l : List α} {k : Nat} {x : α} (h : l[k]? = some x) : l.take (k + 1) = l.take k ++ [x] := by
  rw [List.take_add_one, h]
  rfl
set_option maxRecDepth 100000 in
set_option maxHeartbeats 4000000 in
theorem names_eq {w : World} {n m c d : Nat} {A B : Option Addr} (xs ys : List ByteArray) (ha : Rd w (.slice A n c) 1 n (strs xs)) (hb : Rd w (.slice B m d) 1 m (strs ys)) (hm : n < 9223372036854775807) (hm2 : m < 9223372036854775807) : Calls Try.prog 23 #[.slice A n c, .slice B m d] w fun e w' =>
    e = .returned (.bool (decide (xs = ys))) ∧ LaterW w w' := by
  have hn : xs.length = n := by
    obtain ⟨_, _, _, h, _⟩ := ha
    simpa [strs] using h
  have hk : ys.length = m := by
    obtain ⟨_, _, _, h, _⟩ := hb
    simpa [strs] using h
  have HA := hide ha
  have HB := hide hb
  have HN := hide hn
  have HK := hide hk
  have y0 : ((n : Int) == (m : Int)) = decide (n = m) := by
    by_cases h : n = m
    · simp [h]
    · have h2 : ¬ (n : Int) = (m : Int) := by omega
      simp [h, h2]
  clear ha hb hn hk
  go_enter Try.func23, Try.ntmps23
  go_wp2
  go_loopw [5, 6] (fun t u wr => ∃ k : Nat, u = .int .i64 (k : Int) ∧ k ≤ n ∧ t = .bool (decide (n = m) && decide (xs.take k = ys.take k)) ∧ LaterW w wr) (fun _ u _ => n - (intOf u).toNat)
  case atStart => exact ⟨0, rfl, Nat.zero_le _, by simp, ⟨0, rfl⟩⟩
  case round =>
    obtain ⟨k, rfl, hk, rfl, hl⟩ := hrel
    obtain ⟨q, rfl⟩ := hl
    by_cases hs : n = m ∧ xs.take k = ys.take k
    · have z : (decide (n = m) && decide (xs.take k = ys.take k)) = true := by simp [hs.1, hs.2]
      rw [z]
      clear z
      have HS := hide hs
      clear hs
      by_cases hlt : k < n
      · have y1 : decide (k < n) = true := by simpa using hlt
        have y2 : decide ((k : Int) < (n : Int)) = true := by simp; omega
        have y3 : decide (k < m) = true := by
          have := HS.out.1
          simp
          omega
        have y4 : decide ((k : Int) < (m : Int)) = true := by
          have := HS.out.1
          simp
          omega
        obtain ⟨x, hx⟩ : ∃ x, xs[k]? = some x := ⟨_, List.getElem?_eq_getElem (by rw [HN.out]; exact hlt)⟩
        obtain ⟨y, hy⟩ : ∃ y, ys[k]? = some y := ⟨_, List.getElem?_eq_getElem (by rw [HK.out, ← HS.out.1]; exact hlt)⟩
        obtain ⟨ga, oa, rfl, ca⟩ := rd_str HA.out hx
        obtain ⟨gb, ob, rfl, cb⟩ := rd_str HB.out hy
        have HT := hide (show (xs.take (k + 1) = ys.take (k + 1)) ↔ x = y by
          rw [take_next hx, take_next hy, HS.out.2]
          simp)
        have HLT := hide hlt
        have hlt2 : k < m := by
          have := HS.out.1
          omega
        clear hx hy
        by_cases hxy : x = y
        · have z1 : (x.toList == y.toList) = true := by rw [toList_beq, hxy]; exact (MapKept.bytes_beq _ _).2 rfl
          have HXY := hide hxy
          clear hxy
          go_wp2
          go_region
          go_wp2
          go_roundw
          case rel => exact ⟨k + 1, by go_num, HLT.out, by rw [decide_eq_true (HT.out.2 HXY.out), decide_eq_true HS.out.1]; rfl, ⟨_, rfl⟩⟩
          case measure => have := HLT.out; simp [intOf]; omega
        · have z1 : (x.toList == y.toList) = false := by
            rw [toList_beq]
            cases hb : x == y with
            | false => rfl
            | true => exact absurd ((MapKept.bytes_beq _ _).1 hb) hxy
          have HXY := hide hxy
          clear hxy
          go_wp2
          go_region
          go_wp2
          go_roundw
          case rel => exact ⟨k + 1, by go_num, HLT.out, by rw [decide_eq_false (fun h => HXY.out (HT.out.1 h)), Bool.and_false], ⟨_, rfl⟩⟩
          case measure => have := HLT.out; simp [intOf]; omega
      · have y2 : decide ((k : Int) < (n : Int)) = false := by simp; omega
        have HE := hide (show xs = ys by
          have h1 : xs.take k = xs := List.take_of_length_le (by rw [HN.out]; omega)
          have h2 : ys.take k = ys := List.take_of_length_le (by rw [HK.out, ← HS.out.1]; omega)
          rw [← h1, ← h2]
          exact HS.out.2)
        have y1 : decide (k < n) = false := by simpa using hlt
        go_wp2
        go_ret
        exact ⟨by rw [decide_eq_true HE.out]; rfl, ⟨_, rfl⟩⟩
    · have z : (decide (n = m) && decide (xs.take k = ys.take k)) = false := by
        by_cases h : n = m
        · have : ¬ xs.take k = ys.take k := fun h2 => hs ⟨h, h2⟩
          simp [this]
        · simp [h]
      rw [z]
      clear z
      have HE := hide (show ¬ xs = ys from fun h => hs ⟨by rw [← HN.out, ← HK.out, h], by rw [h]⟩)
      clear hs
      go_wp2
      go_ret
      exact ⟨by rw [decide_eq_false HE.out]; rfl, ⟨_, rfl⟩⟩
end Go.Proofs.Ytmjogpacajbngaa
