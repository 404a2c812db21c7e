/- The reference's SameSpans. No condition but those written. -/
import Derived.Test.YtgiogmbopiblmaaPqn
import Derived.Deep.QuietTactic
import Derived.BigQuiet
namespace Go.Proofs.Ytgiogmbopiblmaa
open Go.RowKit

instance decSn : DecidableEq Sn := fun a b => if h : a.lo = b.lo ∧ a.hi = b.hi ∧ a.pr = b.pr then isTrue (by cases a; cases b; simp_all) else isFalse (by intro e; exact h (by rw [e]; exact ⟨rfl, rfl, rfl⟩))
theorem below_drewN' {B : Nat} {a w : World} (h : Below B a w) (n : Nat) : Below B a (w.drewN n) := ⟨h.os, h.tape, h.output, h.size, h.block⟩
theorem sns_get {S : List (Sn × Value)} {i : Nat} {s : Sn} {v : Value} (h : S[i]? = some (s, v)) : (sns S)[i]? = some s := by
  unfold sns
  rw [List.getElem?_map, h]
  rfl
theorem sns_differ {S T : List (Sn × Value)} {i : Nat} {s t : Sn} {v u : Value} (h : S[i]? = some (s, v)) (k : T[i]? = some (t, u)) (hn : s ≠ t) : decide (sns S = sns T) = false := by
  refine decide_eq_false fun e => hn ?_
  have h1 := sns_get h
  rw [e, sns_get k] at h1
  injection h1 with h1
  exact h1.symm
theorem take_both {α : Type} {l m : List α} {i : Nat} {x : α} (h : l.take i = m.take i) (hl : l[i]? = some x) (hm : m[i]? = some x) : l.take (i + 1) = m.take (i + 1) := by
  rw [List.take_add_one, List.take_add_one, h, hl, hm]
set_option maxRecDepth 100000 in
set_option maxHeartbeats 16000000 in
theorem samespans_any (S T : List (Sn × Value)) (v1 v2 : Value) (w : World) (h1 : SnRd w v1 S) (h2 : SnRd w v2 T) (hl1 : S.length ≤ 1000000) (hl2 : T.length ≤ 1000000) (hp1 : ∀ s ∈ S, s.1.pr.length ≤ 1000000) (hp2 : ∀ s ∈ T, s.1.pr.length ≤ 1000000) :
    Calls Try.prog 34 #[v1, v2] w fun e w' => e = .returned (.bool (decide (sns S = sns T))) ∧ ∃ q, w' = w.drewN q := by
  obtain ⟨A1, c1, rfl, _⟩ := id h1.row
  obtain ⟨A2, c2, rfl, _⟩ := id h2.row
  obtain ⟨m, hm⟩ : ∃ m, m = S.length := ⟨_, rfl⟩
  obtain ⟨n, hn⟩ : ∃ n, n = T.length := ⟨_, rfl⟩
  have hm2 : (m : Int) ≤ 1000000 := by omega
  have hn2 : (n : Int) ≤ 1000000 := by omega
  have HS := hide h1
  have HT := hide h2
  rw [← hm] at HS ⊢
  rw [← hn] at HT ⊢
  have HM := hide hm
  have HN := hide hn
  have HP1 := hide hp1
  have HP2 := hide hp2
  clear h1 h2 hp1 hp2 hl1 hl2 hm hn
  by_cases hmn : m = n
  · have HMN := hide hmn
    have x1 : decide (m = n) = true := by simpa using hmn
    have x2 : decide ((m : Int) = (n : Int)) = true := by simp; omega
    have x3 : ((m : Int) == (n : Int)) = true := by simp; omega
    have x4 : (m == n) = true := by simp; omega
    obtain ⟨k, hk⟩ : ∃ k, k = n := ⟨_, rfl⟩
    have HK := hide hk
    clear x1 x2 x3 x4 HMN
    subst hmn
    clear hk HK k
    go_enter Try.func34, Try.ntmps34
    go_wp2
    go_loopw [5] (fun iv wr => ∃ i d : Nat, iv = .int .i64 (i : Int) ∧ i ≤ m ∧ w.drewN d = wr ∧ (sns S).take i = (sns T).take i) (fun iv _ => m - (intOf iv).toNat)
    case atStart => exact ⟨0, 0, rfl, Nat.zero_le _, rfl, rfl⟩
    case round =>
      obtain ⟨i, d, rfl, hi, hd, heq⟩ := hrel
      have HW := hide hd
      have HEQ := hide heq
      by_cases him : i < m
      · have t1 : decide (i < m) = true := by simpa using him
        have t2 : decide ((i : Int) < (m : Int)) = true := by simp; omega
        have t3 : (i : Int) < (m : Int) := by omega
        have HIM := hide him
        obtain ⟨⟨s, sv⟩, hs⟩ : ∃ s, S[i]? = some s := ⟨_, List.getElem?_eq_getElem (by rw [← HM.out]; exact him)⟩
        obtain ⟨⟨t, tv⟩, ht⟩ : ∃ s, T[i]? = some s := ⟨_, List.getElem?_eq_getElem (by rw [← HN.out]; exact him)⟩
        have hS := HS.out.below (show Below w.heap.size w wr by rw [← hd]; exact below_drewN' (Below.refl _ w) d)
        have hT := HT.out.below (show Below w.heap.size w wr by rw [← hd]; exact below_drewN' (Below.refl _ w) d)
        obtain ⟨g, off, rfl, b0, b1, b2⟩ := hS.at_ HM.out hs
        obtain ⟨g', off', rfl, d0, d1, d2⟩ := hT.at_ HN.out ht
        obtain ⟨Ap, cp, hsv, _⟩ := hS.inn (s, sv) (List.mem_of_getElem? hs)
        obtain ⟨At, ct, htv, _⟩ := hT.inn (t, tv) (List.mem_of_getElem? ht)
        have hsv2 : sv = .slice Ap s.pr.length cp := hsv
        have htv2 : tv = .slice At t.pr.length ct := htv
        subst hsv2
        subst htv2
        have HSM := hide (fun (d2 : Nat) => rsame_props s.pr t.pr (.slice Ap s.pr.length cp) (.slice At t.pr.length ct) (wr.drewN d2) ((hS.below (below_drewN' (Below.refl _ _) d2)).inn (s, .slice Ap s.pr.length cp) (List.mem_of_getElem? hs)) ((hT.below (below_drewN' (Below.refl _ _) d2)).inn (t, .slice At t.pr.length ct) (List.mem_of_getElem? ht)) (HP1.out _ (List.mem_of_getElem? hs)) (HP2.out _ (List.mem_of_getElem? ht)))
        have HHS := hide hs
        have HHT := hide ht
        obtain ⟨s1, s2, sp⟩ := s
        obtain ⟨t1', t2', tp⟩ := t
        simp only [] at b0 b1 b2 d0 d1 d2 HSM
        clear hs ht hS hT hsv htv heq hi him hd
        by_cases e1 : s1 = t1'
        · by_cases e2 : s2 = t2'
          · by_cases e3 : sp = tp
            · subst e1
              subst e2
              subst e3
              have HSM2 := hide (fun d2 : Nat => (show Calls Try.prog _ _ _ (fun e w' => e = .returned (.bool true) ∧ ∃ q, w' = (wr.drewN d2).drewN q) from by have := HSM.out d2; rw [decide_eq_true rfl] at this; exact this))
              clear HSM
              go_upto_region 6 with fail
              go_quiet ((go_at_call 69; refine Calls.quiet_of (HSM2.out _)))
              go_wp2
              go_roundw
              case rel => exact ⟨i + 1, d + _, by go_num, HIM.out, by rw [← HW.out]; exact (World.drewN_drewN ..).symm, take_both HEQ.out (sns_get HHS.out) (sns_get HHT.out)⟩
              case measure => have := HIM.out; simp [intOf]; omega
            · subst e1
              subst e2
              have HSM2 := hide (fun d2 : Nat => (show Calls Try.prog _ _ _ (fun e w' => e = .returned (.bool false) ∧ ∃ q, w' = (wr.drewN d2).drewN q) from by have := HSM.out d2; rw [decide_eq_false e3] at this; exact this))
              have HD := hide (sns_differ HHS.out HHT.out (fun e => e3 (by injection e)))
              clear HSM e3
              go_upto_region 6 with fail
              go_quiet ((go_at_call 69; refine Calls.quiet_of (HSM2.out _)))
              go_wp2
              go_ret
              exact ⟨by rw [HD.out]; rfl, d + _, by rw [← HW.out]; exact World.drewN_drewN ..⟩
          · subst e1
            have z1 : decide (s2 = t2') = false := decide_eq_false e2
            have z2 : (s2 == t2') = false := by simpa using e2
            have z3 : (s2 != t2') = true := by simpa using e2
            have HD := hide (sns_differ HHS.out HHT.out (fun e => e2 (by injection e)))
            clear HSM
            go_upto_region 6 with fail
            go_quiet (fail)
            go_wp2
            go_ret
            exact ⟨by rw [HD.out]; rfl, d + _, by rw [← HW.out]; exact World.drewN_drewN ..⟩
        · have z1 : decide (s1 = t1') = false := decide_eq_false e1
          have z2 : (s1 == t1') = false := by simpa using e1
          have z3 : (s1 != t1') = true := by simpa using e1
          have HD := hide (sns_differ HHS.out HHT.out (fun e => e1 (by injection e)))
          clear HSM
          go_upto_region 6 with fail
          go_quiet (fail)
          go_wp2
          go_ret
          exact ⟨by rw [HD.out]; rfl, d + _, by rw [← HW.out]; exact World.drewN_drewN ..⟩
      · have t1 : decide (i < m) = false := by simpa using him
        have t2 : decide ((i : Int) < (m : Int)) = false := by simp; omega
        have t3 : ¬ (i : Int) < (m : Int) := by omega
        have HE := hide (show decide (sns S = sns T) = true by
          refine decide_eq_true ?_
          have e1 := HM.out
          have e2 := HN.out
          rw [List.take_of_length_le (by rw [sns_len]; omega), List.take_of_length_le (by rw [sns_len]; omega)] at heq
          exact heq)
        clear hi him heq hd
        go_wp2
        go_ret
        exact ⟨by rw [HE.out]; rfl, d, HW.out.symm⟩
  · have x1 : decide (m = n) = false := by simpa using hmn
    have x2 : decide ((m : Int) = (n : Int)) = false := by simp; omega
    have x3 : ((m : Int) == (n : Int)) = false := by simp; omega
    have HE := hide (show decide (sns S = sns T) = false from decide_eq_false fun e => hmn (by
      have := congrArg List.length e
      rw [sns_len, sns_len] at this
      have e1 := HM.out
      have e2 := HN.out
      omega))
    clear hmn
    go_enter Try.func34, Try.ntmps34
    go_wp2
    go_ret
    exact ⟨by rw [HE.out]; rfl, 0, rfl⟩
end Go.Proofs.Ytgiogmbopiblmaa
