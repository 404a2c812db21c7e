/- within, valid. No condition but those written. -/
import Derived.Test.YtmjogpacajbngaaFb
namespace Go.Proofs.Ytmjogpacajbngaa
open Go.RowKit

/-! ### valid -/
def okb (c : Nat) : Bool := (decide (97 ≤ c) && decide (c ≤ 122)) || (decide (48 ≤ c) && decide (c ≤ 57)) || decide (c = 45)
def validF (s : ByteArray) : Bool := s.data.toList.all (fun b => okb b.toNat) && decide (1 ≤ s.size) && decide (s.size ≤ 64)
theorem valid_all {s : ByteArray} (h : ∀ i (hi : i < s.size), okb (s[i].toNat) = true) : s.data.toList.all (fun b => okb b.toNat) = true := by
  rw [List.all_eq_true]
  intro b hb
  obtain ⟨i, hi, e⟩ := List.mem_iff_getElem.1 hb
  have hi2 : i < s.size := by simpa using hi
  rw [← e]
  exact h i hi2
theorem valid_not {s : ByteArray} {i : Nat} (hi : i < s.size) (h : okb (s[i].toNat) = false) : validF s = false := by
  unfold validF
  have : s.data.toList.all (fun b => okb b.toNat) = false := by
    rw [List.all_eq_false]
    exact ⟨s[i], by simp [ByteArray.getElem_eq_getElem_data], by rw [h]; decide⟩
  rw [this]
  rfl
set_option maxRecDepth 100000 in
set_option maxHeartbeats 4000000 in
theorem valid_any (s : ByteArray) (w : World) (hs : s.size < 9223372036854775807) : Calls Try.prog 40 #[.string s] w fun e w' => e = .returned (.bool (validF s)) ∧ w = w' := by
  go_enter Try.func40, Try.ntmps40
  go_wp2
  go_loop [7] (fun t => ∃ k : Nat, t = .int .i64 (k : Int) ∧ k ≤ s.size ∧ ∀ i (hi : i < s.size), i < k → okb (s[i].toNat) = true) (fun t => s.size - (intOf t).toNat)
  case atStart => exact ⟨0, rfl, Nat.zero_le _, fun i hi h => by omega⟩
  case round =>
    obtain ⟨k, rfl, hk, hall⟩ := hrel
    have HA := hide hall
    clear hall
    by_cases hlt : k < s.size
    · have HLT := hide hlt
      cases hok : okb (s[k].toNat) with
      | true =>
        have HOK := hide hok
        have hx : (97 ≤ s[k].toNat ∧ s[k].toNat ≤ 122) ∨ (48 ≤ s[k].toNat ∧ s[k].toNat ≤ 57) ∨ s[k].toNat = 45 := by simpa [okb, or_assoc] using hok
        clear hok
        rcases hx with ⟨h1, h2⟩ | ⟨h1, h2⟩ | h1
        · have z45 : ((s[k].toNat : Int) == 45) = false := by simp; omega
          go_wp2
          all_goals first
            | (go_round
               case rel => exact ⟨k + 1, by go_num, HLT.out, fun i hi h => by
                 by_cases e : i = k
                 · subst e; exact HOK.out
                 · exact HA.out i hi (by omega)⟩
               case measure => have := HLT.out; simp [intOf]; omega)
            | (exfalso; omega)
            | (exfalso; simp_all; done)
            | (exfalso; simp_all; omega)
        · have z45 : ((s[k].toNat : Int) == 45) = false := by simp; omega
          go_wp2
          all_goals first
            | (go_round
               case rel => exact ⟨k + 1, by go_num, HLT.out, fun i hi h => by
                 by_cases e : i = k
                 · subst e; exact HOK.out
                 · exact HA.out i hi (by omega)⟩
               case measure => have := HLT.out; simp [intOf]; omega)
            | (exfalso; omega)
            | (exfalso; simp_all; done)
            | (exfalso; simp_all; omega)
        · have z45 : ((s[k].toNat : Int) == 45) = true := by simp; omega
          go_wp2
          all_goals first
            | (go_round
               case rel => exact ⟨k + 1, by go_num, HLT.out, fun i hi h => by
                 by_cases e : i = k
                 · subst e; exact HOK.out
                 · exact HA.out i hi (by omega)⟩
               case measure => have := HLT.out; simp [intOf]; omega)
            | (exfalso; omega)
            | (exfalso; simp_all; done)
            | (exfalso; simp_all; omega)
      | false =>
        have HV := hide (valid_not hlt hok)
        have hx : ¬ ((97 ≤ s[k].toNat ∧ s[k].toNat ≤ 122) ∨ (48 ≤ s[k].toNat ∧ s[k].toNat ≤ 57) ∨ s[k].toNat = 45) := fun h => by
          have : okb (s[k].toNat) = true := by simpa [okb, or_assoc] using h
          rw [hok] at this
          cases this
        have HX := hide hx
        have z45 : ((s[k].toNat : Int) == 45) = false := by simp; omega
        clear hok hx
        go_wp2
        all_goals first
          | (go_ret
             exact ⟨by rw [HV.out]; rfl, rfl⟩)
          | (exfalso; have := HX.out; omega)
          | (exfalso; simp_all; done)
          | (exfalso; simp_all; omega)
    · obtain rfl : k = s.size := by omega
      have HALL := hide (valid_all (s := s) fun i hi => HA.out i hi hi)
      clear hlt hk
      by_cases h1 : 1 ≤ s.size
      · by_cases h2 : s.size ≤ 64
        · have HE := hide (show validF s = true by unfold validF; rw [HALL.out]; simp [h1, h2])
          have y2 : decide ((s.size : Int) ≤ 64) = true := by simp; omega
          go_wp2
          go_ret
          exact ⟨by rw [HE.out]; rfl, rfl⟩
        · have HE := hide (show validF s = false by unfold validF; rw [decide_eq_false h2, Bool.and_false])
          have y2 : decide ((s.size : Int) ≤ 64) = false := by simp; omega
          go_wp2
          go_ret
          exact ⟨by rw [HE.out]; rfl, rfl⟩
      · have HE := hide (show validF s = false by unfold validF; rw [decide_eq_false h1, Bool.and_false]; rfl)
        go_wp2
        go_ret
        exact ⟨by rw [HE.out]; rfl, rfl⟩
end Go.Proofs.Ytmjogpacajbngaa
