/- The reference: named, within, New. No condition but those written. -/
import Derived.Test.YtmjogpacajbngaaHa
namespace Go.Proofs.Ytmjogpacajbngaa
open Go.RowKit

set_option maxRecDepth 100000 in
set_option maxHeartbeats 4000000 in
theorem named_any (s : ByteArray) (w : World) (hs : s.size < 9223372036854775807) : Calls Try.prog 44 #[.string s] w fun e w' => e = .returned (.bool (validF s)) ∧ w = w' := by
  go_enter Try.func44, Try.ntmps44
  go_wp2
  go_loop [3] (fun t => ∃ k : Nat, t = .int .i64 (k : Int) ∧ k ≤ s.size ∧ ∀ i (hi : i < s.size), i < k → okb (s[i].toNat) = true) (fun t => s.size - (intOf t).toNat)
  case atStart => exact ⟨0, rfl, Nat.zero_le _, fun i hi h => by omega⟩
  case round =>
    obtain ⟨k, rfl, hk, hall⟩ := hrel
    have HA := hide hall
    clear hall
    by_cases hlt : k < s.size
    · have HLT := hide hlt
      cases hok : okb (s[k].toNat) with
      | true =>
        have HOK := hide hok
        have hx : (97 ≤ s[k].toNat ∧ s[k].toNat ≤ 122) ∨ (48 ≤ s[k].toNat ∧ s[k].toNat ≤ 57) ∨ s[k].toNat = 45 := by simpa [okb, or_assoc] using hok
        clear hok
        rcases hx with ⟨h1, h2⟩ | ⟨h1, h2⟩ | h1
        · have z45 : ((s[k].toNat : Int) == 45) = false := by simp; omega
          go_wp2
          all_goals first
            | (go_round
               case rel => exact ⟨k + 1, by go_num, HLT.out, fun i hi h => by
                 by_cases e : i = k
                 · subst e; exact HOK.out
                 · exact HA.out i hi (by omega)⟩
               case measure => have := HLT.out; simp [intOf]; omega)
            | (exfalso; omega)
            | (exfalso; simp_all; done)
            | (exfalso; simp_all; omega)
        · have z45 : ((s[k].toNat : Int) == 45) = false := by simp; omega
          go_wp2
          all_goals first
            | (go_round
               case rel => exact ⟨k + 1, by go_num, HLT.out, fun i hi h => by
                 by_cases e : i = k
                 · subst e; exact HOK.out
                 · exact HA.out i hi (by omega)⟩
               case measure => have := HLT.out; simp [intOf]; omega)
            | (exfalso; omega)
            | (exfalso; simp_all; done)
            | (exfalso; simp_all; omega)
        · have z45 : ((s[k].toNat : Int) == 45) = true := by simp; omega
          go_wp2
          all_goals first
            | (go_round
               case rel => exact ⟨k + 1, by go_num, HLT.out, fun i hi h => by
                 by_cases e : i = k
                 · subst e; exact HOK.out
                 · exact HA.out i hi (by omega)⟩
               case measure => have := HLT.out; simp [intOf]; omega)
            | (exfalso; omega)
            | (exfalso; simp_all; done)
            | (exfalso; simp_all; omega)
      | false =>
        have HV := hide (valid_not hlt hok)
        have hx : ¬ ((97 ≤ s[k].toNat ∧ s[k].toNat ≤ 122) ∨ (48 ≤ s[k].toNat ∧ s[k].toNat ≤ 57) ∨ s[k].toNat = 45) := fun h => by
          have : okb (s[k].toNat) = true := by simpa [okb, or_assoc] using h
          rw [hok] at this
          cases this
        have HX := hide hx
        have z45 : ((s[k].toNat : Int) == 45) = false := by simp; omega
        clear hok hx
        go_wp2
        all_goals first
          | (go_ret
             exact ⟨by rw [HV.out]; rfl, rfl⟩)
          | (exfalso; have := HX.out; omega)
          | (exfalso; have := HX.out; simp_all; done)
          | (exfalso; have := HX.out; simp_all; omega)
    · obtain rfl : k = s.size := by omega
      have HALL := hide (valid_all (s := s) fun i hi => HA.out i hi hi)
      clear hlt hk
      by_cases h1 : 1 ≤ s.size
      · by_cases h2 : s.size ≤ 64
        · have HE := hide (show validF s = true by unfold validF; rw [HALL.out]; simp [h1, h2])
          have y2 : decide ((s.size : Int) ≤ 64) = true := by simp; omega
          go_wp2
          go_ret
          exact ⟨by rw [HE.out]; rfl, rfl⟩
        · have HE := hide (show validF s = false by unfold validF; rw [decide_eq_false h2, Bool.and_false])
          have y2 : decide ((s.size : Int) ≤ 64) = false := by simp; omega
          go_wp2
          go_ret
          exact ⟨by rw [HE.out]; rfl, rfl⟩
      · have HE := hide (show validF s = false by unfold validF; rw [decide_eq_false h1, Bool.and_false]; rfl)
        go_wp2
        go_ret
        exact ⟨by rw [HE.out]; rfl, rfl⟩
set_option maxRecDepth 100000 in
set_option maxHeartbeats 8000000 in
theorem rwithin_any (a : Att) (w : World) : Calls Try.prog 45 #[a.val] w fun e w' => e = .returned (.bool (withinB a)) ∧ Below w.heap.size w w' := by
  obtain ⟨p0, p1, p2, p3, p4, p5⟩ := a
  go_enter Try.func45, Try.ntmps45
  go_wp2
  all_goals
    go_ret
    refine ⟨?_, (Below.refl _ _).alloc (Nat.le_refl _) _⟩
    first
      | (simp_all [withinB, inR]; done)
      | (simp_all [withinB, inR]; omega)
theorem rnew_own {W w : World} {R : Heap} (h : Own W w R) : RfAt W (((w.alloc (.cells #[.string dflt] 9)).alloc (.cells attZ 23)).alloc (.cells #[.slice (some ⟨w.heap.size, 0, none⟩) 1 1, .slice (some ⟨w.heap.size + 1, 0, none⟩) 1 1] 43)) (w.heap.size + 1 + 1) (.slice (some ⟨w.heap.size, 0, none⟩) 1 1) [dflt] (.slice (some ⟨w.heap.size + 1, 0, none⟩) 1 1) [attZero] R := by
  have h1 := h.joinRow ((Below.refl w.heap.size w).alloc (Nat.le_refl _) (.cells #[.string dflt] 9)) (Sl.new w 9 1 #[.string dflt] 1 1 (Nat.le_refl _) (by unfold maxLen; omega) (Nat.le_refl _)) (fun g hg => by cases hg; exact Nat.le_refl _)
  have h2 := h1.joinRow ((Below.refl _ _).alloc (Nat.le_refl _) (.cells attZ 23)) (Sl.new (w.alloc (.cells #[.string dflt] 9)) 23 6 attZ 1 1 (Nat.le_refl _) (by unfold maxLen; omega) (Nat.le_refl _)) (fun g hg => by cases hg; exact Nat.le_refl _)
  rw [World.size_alloc] at h2
  have h3 := (h2.perm (R := rowOf 9 1 (.slice (some ⟨w.heap.size, 0, none⟩) 1 1) 1 (strs [dflt]) ++ (rowOf 23 6 (.slice (some ⟨w.heap.size + 1, 0, none⟩) 1 1) 1 (rows Att.cells [attZero]) ++ R)) (by
    rw [← List.append_assoc, ← List.append_assoc]
    exact List.perm_append_comm.append_right _)).newCells 43 #[.slice (some ⟨w.heap.size, 0, none⟩) 1 1, .slice (some ⟨w.heap.size + 1, 0, none⟩) 1 1]
  rw [World.size_alloc, World.size_alloc] at h3
  exact ⟨h3, RowOk.some rfl, RowOk.some rfl⟩
set_option maxRecDepth 100000 in
set_option maxHeartbeats 8000000 in
theorem rnew_any {W w : World} {R : Heap} (h : Own W w R) : Calls Try.prog 17 #[] w fun e w' => ∃ rb vN vA, e = .returned (.pointer (some ⟨rb, 0, none⟩)) ∧ RfAt W w' rb vN [dflt] vA [attZero] R := by
  have HO := hide (rnew_own h)
  clear h
  go_enter Try.func17, Try.ntmps17
  go_wp2
  go_ret
  exact ⟨_, _, _, rfl, HO.out⟩
end Go.Proofs.Ytmjogpacajbngaa
