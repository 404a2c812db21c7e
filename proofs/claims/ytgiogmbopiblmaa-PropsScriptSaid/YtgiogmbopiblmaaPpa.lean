/- Lists of properties in memory: comparing them, the value of a name. No condition but those written. -/
import Derived.Test.YtgiogmbopiblmaaPre
import Derived.Test.YtgiogmbopiblmaaRow
import Derived.Test.YtgiogmbopiblmaaSlk
import Derived.Test.YtgiogmbopiblmaaChecked
import Derived.RegionTactic
namespace Go.Proofs.Ytgiogmbopiblmaa
open Go.RowKit

def prC (x : Int × Int × Int) : List Value := [.int .i64 x.1, .int .i64 x.2.1, .int .i64 x.2.2]
theorem prC_len (x : Int × Int × Int) : (prC x).length = 3 := rfl
theorem prC_one (x : Int × Int × Int) : ∀ u ∈ prC x, u.oneCell' = true := by
  intro u hu
  simp [prC] at hu
  rcases hu with rfl | rfl | rfl <;> rfl
/-- Equal as far as k. -/
def Agree (l m : List (Int × Int × Int)) (k : Nat) : Prop := l.take k = m.take k
theorem agree_step {l m : List (Int × Int × Int)} {k : Nat} {x : Int × Int × Int} (h : Agree l m k) (h1 : l[k]? = some x) (h2 : m[k]? = some x) : Agree l m (k + 1) := by
  unfold Agree at *
  rw [List.take_add_one, List.take_add_one, h, h1, h2]
theorem agree_end {l m : List (Int × Int × Int)} (hl : l.length = m.length) (h : Agree l m l.length) : l = m := by
  unfold Agree at h
  rw [List.take_length, hl, List.take_length] at h
  exact h
theorem agree_not {l m : List (Int × Int × Int)} {k : Nat} {x y : Int × Int × Int} (h1 : l[k]? = some x) (h2 : m[k]? = some y) (hn : x ≠ y) : l ≠ m := fun e => by
  rw [e, h2] at h1
  injection h1 with h1
  exact hn h1.symm
theorem Rd.drewN {w : World} {v : Value} {k n : Nat} {xs : List Value} (h : Rd w v k n xs) (q : Nat) : Rd (w.drewN q) v k n xs := h
set_option maxRecDepth 100000 in
set_option maxHeartbeats 2000000 in
theorem same_props (l m : List (Int × Int × Int)) (v1 v2 : Value) (w : World) (h1 : Rd w v1 3 l.length (rows prC l)) (h2 : Rd w v2 3 m.length (rows prC m)) (hl : l.length ≤ 1000000) (hm : m.length ≤ 1000000) :
    Calls Try.prog 29 #[v1, v2] w fun e w' => e = .returned (.bool (decide (l = m))) ∧ ∃ q, w' = w.drewN q := by
  obtain ⟨A1, c1, rfl, e1⟩ := id h1
  obtain ⟨A2, c2, rfl, e2⟩ := id h2
  clear e1 e2
  by_cases hlen : l.length = m.length
  · have hz : ((l.length : Int) != (m.length : Int)) = false := by simp [hlen]
    have HLEN := hide hlen
    have H1 := hide h1
    have H2 := hide h2
    clear hlen h1 h2
    go_enter Try.func29, Try.ntmps29
    go_wp2
    go_loopw [5] (fun i wr => ∃ k q : Nat, k ≤ l.length ∧ i = .int .i64 (k : Int) ∧ Agree l m k ∧ wr = w.drewN q) (fun i _ => l.length - (intOf i).toNat)
    case atStart => exact ⟨0, 0, Nat.zero_le _, rfl, rfl, rfl⟩
    case round =>
      obtain ⟨k, q, hk, rfl, hA, rfl⟩ := hrel
      by_cases hlt : k < l.length
      · have hz2 : decide ((k : Int) < (l.length : Int)) = true := by simp; omega
        obtain ⟨x, hx⟩ : ∃ x, l[k]? = some x := ⟨_, List.getElem?_eq_getElem hlt⟩
        have hltm : k < m.length := by have := HLEN.out; omega
        obtain ⟨y, hy⟩ : ∃ y, m[k]? = some y := ⟨_, List.getElem?_eq_getElem hltm⟩
        obtain ⟨g1, o1, d1, hv1, hc1⟩ := Rd.fld prC_len H1.out (by omega)
        obtain ⟨g2, o2, d2, hv2, hc2⟩ := Rd.fld prC_len H2.out (by omega)
        obtain ⟨rfl, rfl⟩ : A1 = some ⟨g1, o1, none⟩ ∧ c1 = d1 := by
          injection hv1 with e1 _ e2
          exact ⟨e1, e2⟩
        obtain ⟨rfl, rfl⟩ : A2 = some ⟨g2, o2, none⟩ ∧ c2 = d2 := by
          injection hv2 with e1 _ e2
          exact ⟨e1, e2⟩
        have p0 : w.cell? ⟨g1, o1 + k * 3, none⟩ = some (.int .i64 x.1) := hc1 k x 0 _ hx rfl
        have p1 : w.cell? ⟨g1, o1 + k * 3 + 1, none⟩ = some (.int .i64 x.2.1) := hc1 k x 1 _ hx rfl
        have p2 : w.cell? ⟨g1, o1 + k * 3 + 2, none⟩ = some (.int .i64 x.2.2) := hc1 k x 2 _ hx rfl
        have q0 : w.cell? ⟨g2, o2 + k * 3, none⟩ = some (.int .i64 y.1) := hc2 k y 0 _ hy rfl
        have q1 : w.cell? ⟨g2, o2 + k * 3 + 1, none⟩ = some (.int .i64 y.2.1) := hc2 k y 1 _ hy rfl
        have q2 : w.cell? ⟨g2, o2 + k * 3 + 2, none⟩ = some (.int .i64 y.2.2) := hc2 k y 2 _ hy rfl
        have HX := hide hx
        have HY := hide hy
        have HA := hide hA
        have HLT := hide hlt
        clear hx hy hA hc1 hc2 hv1 hv2 hk
        by_cases hxy : x = y
        · subst hxy
          go_wp2
          go_region
          go_wp2
          go_roundw
          case rel => exact ⟨k + 1, q + 1, HLT.out, by go_num, agree_step HA.out HX.out HY.out, rfl⟩
          case measure => have := HLT.out; simp [intOf]; omega
        · have HNE := hide (agree_not HX.out HY.out hxy)
          have hcase : x.1 ≠ y.1 ∨ (x.1 = y.1 ∧ x.2.1 ≠ y.2.1) ∨ (x.1 = y.1 ∧ x.2.1 = y.2.1 ∧ x.2.2 ≠ y.2.2) := by
            by_cases e1 : x.1 = y.1
            · by_cases e2 : x.2.1 = y.2.1
              · exact .inr (.inr ⟨e1, e2, fun e3 => hxy (Prod.ext e1 (Prod.ext e2 e3))⟩)
              · exact .inr (.inl ⟨e1, e2⟩)
            · exact .inl e1
          clear hxy
          rcases hcase with e1 | ⟨e1, e2⟩ | ⟨e1, e2, e3⟩
          all_goals
            go_wp2
            go_region
            go_wp2
            go_ret
            exact ⟨by rw [show decide (l = m) = false from decide_eq_false HNE.out]; rfl, q + 1, rfl⟩
      · have hz2 : decide ((k : Int) < (l.length : Int)) = false := by simp; omega
        obtain rfl : k = l.length := by omega
        have HE := hide (agree_end HLEN.out hA)
        clear hA hk hlt
        go_wp2
        go_ret
        exact ⟨by rw [show decide (l = m) = true from decide_eq_true HE.out]; rfl, q, rfl⟩
  · have hz : ((l.length : Int) != (m.length : Int)) = true := by simp; omega
    have hne : decide (l = m) = false := decide_eq_false fun e => hlen (by rw [e])
    have HNE := hide hne
    clear hlen hne
    go_enter Try.func29, Try.ntmps29
    go_wp2
    go_ret
    exact ⟨by rw [HNE.out]; rfl, 0, rfl⟩
set_option maxRecDepth 100000 in
set_option maxHeartbeats 2000000 in
theorem rsame_props (l m : List (Int × Int × Int)) (v1 v2 : Value) (w : World) (h1 : Rd w v1 3 l.length (rows prC l)) (h2 : Rd w v2 3 m.length (rows prC m)) (hl : l.length ≤ 1000000) (hm : m.length ≤ 1000000) :
    Calls Try.prog 69 #[v1, v2] w fun e w' => e = .returned (.bool (decide (l = m))) ∧ ∃ q, w' = w.drewN q := by
  obtain ⟨A1, c1, rfl, e1⟩ := id h1
  obtain ⟨A2, c2, rfl, e2⟩ := id h2
  clear e1 e2
  by_cases hlen : l.length = m.length
  · have hz : ((l.length : Int) != (m.length : Int)) = false := by simp [hlen]
    have HLEN := hide hlen
    have H1 := hide h1
    have H2 := hide h2
    clear hlen h1 h2
    go_enter Try.func69, Try.ntmps69
    go_wp2
    go_loopw [5] (fun i wr => ∃ k q : Nat, k ≤ l.length ∧ i = .int .i64 (k : Int) ∧ Agree l m k ∧ wr = w.drewN q) (fun i _ => l.length - (intOf i).toNat)
    case atStart => exact ⟨0, 0, Nat.zero_le _, rfl, rfl, rfl⟩
    case round =>
      obtain ⟨k, q, hk, rfl, hA, rfl⟩ := hrel
      by_cases hlt : k < l.length
      · have hz2 : decide ((k : Int) < (l.length : Int)) = true := by simp; omega
        obtain ⟨x, hx⟩ : ∃ x, l[k]? = some x := ⟨_, List.getElem?_eq_getElem hlt⟩
        have hltm : k < m.length := by have := HLEN.out; omega
        obtain ⟨y, hy⟩ : ∃ y, m[k]? = some y := ⟨_, List.getElem?_eq_getElem hltm⟩
        obtain ⟨g1, o1, d1, hv1, hc1⟩ := Rd.fld prC_len H1.out (by omega)
        obtain ⟨g2, o2, d2, hv2, hc2⟩ := Rd.fld prC_len H2.out (by omega)
        obtain ⟨rfl, rfl⟩ : A1 = some ⟨g1, o1, none⟩ ∧ c1 = d1 := by
          injection hv1 with e1 _ e2
          exact ⟨e1, e2⟩
        obtain ⟨rfl, rfl⟩ : A2 = some ⟨g2, o2, none⟩ ∧ c2 = d2 := by
          injection hv2 with e1 _ e2
          exact ⟨e1, e2⟩
        have p0 : w.cell? ⟨g1, o1 + k * 3, none⟩ = some (.int .i64 x.1) := hc1 k x 0 _ hx rfl
        have p1 : w.cell? ⟨g1, o1 + k * 3 + 1, none⟩ = some (.int .i64 x.2.1) := hc1 k x 1 _ hx rfl
        have p2 : w.cell? ⟨g1, o1 + k * 3 + 2, none⟩ = some (.int .i64 x.2.2) := hc1 k x 2 _ hx rfl
        have q0 : w.cell? ⟨g2, o2 + k * 3, none⟩ = some (.int .i64 y.1) := hc2 k y 0 _ hy rfl
        have q1 : w.cell? ⟨g2, o2 + k * 3 + 1, none⟩ = some (.int .i64 y.2.1) := hc2 k y 1 _ hy rfl
        have q2 : w.cell? ⟨g2, o2 + k * 3 + 2, none⟩ = some (.int .i64 y.2.2) := hc2 k y 2 _ hy rfl
        have HX := hide hx
        have HY := hide hy
        have HA := hide hA
        have HLT := hide hlt
        clear hx hy hA hc1 hc2 hv1 hv2 hk
        by_cases hxy : x = y
        · subst hxy
          go_wp2
          go_region
          go_wp2
          go_roundw
          case rel => exact ⟨k + 1, q + 1, HLT.out, by go_num, agree_step HA.out HX.out HY.out, rfl⟩
          case measure => have := HLT.out; simp [intOf]; omega
        · have HNE := hide (agree_not HX.out HY.out hxy)
          have hcase : x.1 ≠ y.1 ∨ (x.1 = y.1 ∧ x.2.1 ≠ y.2.1) ∨ (x.1 = y.1 ∧ x.2.1 = y.2.1 ∧ x.2.2 ≠ y.2.2) := by
            by_cases e1 : x.1 = y.1
            · by_cases e2 : x.2.1 = y.2.1
              · exact .inr (.inr ⟨e1, e2, fun e3 => hxy (Prod.ext e1 (Prod.ext e2 e3))⟩)
              · exact .inr (.inl ⟨e1, e2⟩)
            · exact .inl e1
          clear hxy
          rcases hcase with e1 | ⟨e1, e2⟩ | ⟨e1, e2, e3⟩
          all_goals
            go_wp2
            go_region
            go_wp2
            go_ret
            exact ⟨by rw [show decide (l = m) = false from decide_eq_false HNE.out]; rfl, q + 1, rfl⟩
      · have hz2 : decide ((k : Int) < (l.length : Int)) = false := by simp; omega
        obtain rfl : k = l.length := by omega
        have HE := hide (agree_end HLEN.out hA)
        clear hA hk hlt
        go_wp2
        go_ret
        exact ⟨by rw [show decide (l = m) = true from decide_eq_true HE.out]; rfl, q, rfl⟩
  · have hz : ((l.length : Int) != (m.length : Int)) = true := by simp; omega
    have hne : decide (l = m) = false := decide_eq_false fun e => hlen (by rw [e])
    have HNE := hide hne
    clear hlen hne
    go_enter Try.func69, Try.ntmps69
    go_wp2
    go_ret
    exact ⟨by rw [HNE.out]; rfl, 0, rfl⟩
set_option maxRecDepth 100000 in
set_option maxHeartbeats 2000000 in
theorem equal_props (l m : List (Int × Int × Int)) (v1 v2 : Value) (w : World) (h1 : Rd w v1 3 l.length (rows prC l)) (h2 : Rd w v2 3 m.length (rows prC m)) (hl : l.length ≤ 1000000) (hm : m.length ≤ 1000000) :
    Calls Try.prog 60 #[v1, v2] w fun e w' => e = .returned (.bool (decide (l = m))) ∧ ∃ q, w' = w.drewN q := by
  obtain ⟨A1, c1, rfl, e1⟩ := id h1
  obtain ⟨A2, c2, rfl, e2⟩ := id h2
  clear e1 e2
  by_cases hlen : l.length = m.length
  · have hz : ((l.length : Int) != (m.length : Int)) = false := by simp [hlen]
    have HLEN := hide hlen
    have H1 := hide h1
    have H2 := hide h2
    clear hlen h1 h2
    go_enter Try.func60, Try.ntmps60
    go_wp2
    go_loopw [13] (fun i wr => ∃ k q : Nat, k ≤ l.length ∧ i = .int .i64 (k : Int) ∧ Agree l m k ∧ wr = w.drewN q) (fun i _ => l.length - (intOf i).toNat)
    case atStart => exact ⟨0, 0, Nat.zero_le _, rfl, rfl, rfl⟩
    case round =>
      obtain ⟨k, q, hk, rfl, hA, rfl⟩ := hrel
      by_cases hlt : k < l.length
      · have hz2 : decide ((k : Int) < (l.length : Int)) = true := by simp; omega
        obtain ⟨x, hx⟩ : ∃ x, l[k]? = some x := ⟨_, List.getElem?_eq_getElem hlt⟩
        have hltm : k < m.length := by have := HLEN.out; omega
        obtain ⟨y, hy⟩ : ∃ y, m[k]? = some y := ⟨_, List.getElem?_eq_getElem hltm⟩
        obtain ⟨g1, o1, d1, hv1, hc1⟩ := Rd.fld prC_len H1.out (by omega)
        obtain ⟨g2, o2, d2, hv2, hc2⟩ := Rd.fld prC_len H2.out (by omega)
        obtain ⟨rfl, rfl⟩ : A1 = some ⟨g1, o1, none⟩ ∧ c1 = d1 := by
          injection hv1 with e1 _ e2
          exact ⟨e1, e2⟩
        obtain ⟨rfl, rfl⟩ : A2 = some ⟨g2, o2, none⟩ ∧ c2 = d2 := by
          injection hv2 with e1 _ e2
          exact ⟨e1, e2⟩
        have p0 : w.cell? ⟨g1, o1 + k * 3, none⟩ = some (.int .i64 x.1) := hc1 k x 0 _ hx rfl
        have p1 : w.cell? ⟨g1, o1 + k * 3 + 1, none⟩ = some (.int .i64 x.2.1) := hc1 k x 1 _ hx rfl
        have p2 : w.cell? ⟨g1, o1 + k * 3 + 2, none⟩ = some (.int .i64 x.2.2) := hc1 k x 2 _ hx rfl
        have q0 : w.cell? ⟨g2, o2 + k * 3, none⟩ = some (.int .i64 y.1) := hc2 k y 0 _ hy rfl
        have q1 : w.cell? ⟨g2, o2 + k * 3 + 1, none⟩ = some (.int .i64 y.2.1) := hc2 k y 1 _ hy rfl
        have q2 : w.cell? ⟨g2, o2 + k * 3 + 2, none⟩ = some (.int .i64 y.2.2) := hc2 k y 2 _ hy rfl
        have HX := hide hx
        have HY := hide hy
        have HA := hide hA
        have HLT := hide hlt
        clear hx hy hA hc1 hc2 hv1 hv2 hk
        by_cases hxy : x = y
        · subst hxy
          go_wp2
          go_region
          go_wp2
          go_roundw
          case rel => exact ⟨k + 1, q + 1, HLT.out, by go_num, agree_step HA.out HX.out HY.out, rfl⟩
          case measure => have := HLT.out; simp [intOf]; omega
        · have HNE := hide (agree_not HX.out HY.out hxy)
          have hcase : x.1 ≠ y.1 ∨ (x.1 = y.1 ∧ x.2.1 ≠ y.2.1) ∨ (x.1 = y.1 ∧ x.2.1 = y.2.1 ∧ x.2.2 ≠ y.2.2) := by
            by_cases e1 : x.1 = y.1
            · by_cases e2 : x.2.1 = y.2.1
              · exact .inr (.inr ⟨e1, e2, fun e3 => hxy (Prod.ext e1 (Prod.ext e2 e3))⟩)
              · exact .inr (.inl ⟨e1, e2⟩)
            · exact .inl e1
          clear hxy
          rcases hcase with e1 | ⟨e1, e2⟩ | ⟨e1, e2, e3⟩
          all_goals
            go_wp2
            go_region
            go_wp2
            go_ret
            exact ⟨by rw [show decide (l = m) = false from decide_eq_false HNE.out]; rfl, q + 1, rfl⟩
      · have hz2 : decide ((k : Int) < (l.length : Int)) = false := by simp; omega
        obtain rfl : k = l.length := by omega
        have HE := hide (agree_end HLEN.out hA)
        clear hA hk hlt
        go_wp2
        go_ret
        exact ⟨by rw [show decide (l = m) = true from decide_eq_true HE.out]; rfl, q, rfl⟩
  · have hz : ((l.length : Int) != (m.length : Int)) = true := by simp; omega
    have hne : decide (l = m) = false := decide_eq_false fun e => hlen (by rw [e])
    have HNE := hide hne
    clear hlen hne
    go_enter Try.func60, Try.ntmps60
    go_wp2
    go_ret
    exact ⟨by rw [HNE.out]; rfl, 0, rfl⟩
theorem may_any (a b : Int) (w : World) : Calls Try.prog 53 #[.int .i64 a, .int .i64 b] w fun e w' => e = .returned (.bool (decide (1 ≤ a ∧ a ≤ b ∧ b ≤ 65537))) ∧ w = w' := by
  by_cases h1 : 1 ≤ a
  · by_cases h2 : a ≤ b
    · by_cases h3 : b ≤ 65537
      · have HR := hide (decide_eq_true (show 1 ≤ a ∧ a ≤ b ∧ b ≤ 65537 from ⟨h1, h2, h3⟩))
        rw [HR.out]
        go_enter Try.func53, Try.ntmps53
        go_wp2
        go_ret
        exact ⟨rfl, rfl⟩
      · have HR := hide (decide_eq_false (show ¬ (1 ≤ a ∧ a ≤ b ∧ b ≤ 65537) from fun h => h3 h.2.2))
        rw [HR.out]
        go_enter Try.func53, Try.ntmps53
        go_wp2
        go_ret
        exact ⟨rfl, rfl⟩
    · have HR := hide (decide_eq_false (show ¬ (1 ≤ a ∧ a ≤ b ∧ b ≤ 65537) from fun h => h2 h.2.1))
      rw [HR.out]
      go_enter Try.func53, Try.ntmps53
      go_wp2
      go_ret
      exact ⟨rfl, rfl⟩
  · have HR := hide (decide_eq_false (show ¬ (1 ≤ a ∧ a ≤ b ∧ b ≤ 65537) from fun h => h1 h.1))
    rw [HR.out]
    go_enter Try.func53, Try.ntmps53
    go_wp2
    go_ret
    exact ⟨rfl, rfl⟩
end Go.Proofs.Ytgiogmbopiblmaa
