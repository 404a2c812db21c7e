/- slices.Reverse and Same at changes. No condition but those written. -/
import Derived.Test.YtghcmakhfdnimaaDoorChg
namespace Go.Proofs.YtghcmakhfdnimaaDoor
open Go.RowKit
attribute [local go_sem 2000] neq_chg

/-- Equal as far as k. -/
def AgreeU {α : Type} (l m : List α) (k : Nat) : Prop := l.take k = m.take k
theorem agreeU_step {α : Type} {l m : List α} {k : Nat} {x : α} (h : AgreeU l m k) (h1 : l[k]? = some x) (h2 : m[k]? = some x) : AgreeU l m (k + 1) := by
  unfold AgreeU at *
  rw [List.take_add_one, List.take_add_one, h, h1, h2]
theorem agreeU_end {α : Type} {l m : List α} (hl : l.length = m.length) (h : AgreeU l m l.length) : l = m := by
  unfold AgreeU at h
  rw [List.take_length, hl, List.take_length] at h
  exact h
theorem agreeU_not {α : Type} {l m : List α} {k : Nat} {x y : α} (h1 : l[k]? = some x) (h2 : m[k]? = some y) (hn : x ≠ y) : l ≠ m := fun e => by
  rw [e, h2] at h1
  injection h1 with h1
  exact hn h1.symm
/-- Is it so? -/
noncomputable def isB (p : Prop) : Bool := @decide p (Classical.propDecidable p)
theorem isB_true {p : Prop} (h : p) : isB p = true := @decide_eq_true p (Classical.propDecidable p) h
theorem isB_false {p : Prop} (h : ¬ p) : isB p = false := @decide_eq_false p (Classical.propDecidable p) h

/-- What stands where the first k elements and the last k have changed places. -/
def Mid {α : Type} (l m : List α) (k : Nat) : Prop := m.length = l.length ∧ ∀ x, x < l.length → m[x]? = if x < k ∨ l.length ≤ x + k then l[l.length - 1 - x]? else l[x]?
theorem Mid.start {α : Type} (l : List α) : Mid l l 0 := ⟨rfl, fun x hx => by rw [if_neg (by omega)]⟩
theorem Mid.next {α : Type} {l m : List α} {k q : Nat} {x y : α} (h : Mid l m k) (hq : k < q) (hs : k + q + 1 = l.length) (hx : m[k]? = some x) (hy : m[q]? = some y) : Mid l ((m.set k y).set q x) (k + 1) := by
  refine ⟨by simp [h.1], fun z hz => ?_⟩
  have e1 := h.2 k (by omega)
  have e2 := h.2 q (by omega)
  rw [hx, if_neg (by omega)] at e1
  rw [hy, if_neg (by omega)] at e2
  have hz2 := h.2 z hz
  have hl := h.1
  by_cases h1 : z = q
  · subst h1
    rw [List.getElem?_set_self (by simp; omega), if_pos (by omega), e1]
    congr 1
    omega
  · rw [List.getElem?_set_ne (fun e => h1 e.symm)]
    by_cases h2 : z = k
    · subst h2
      rw [List.getElem?_set_self (by omega), if_pos (by omega), e2]
      congr 1
      omega
    · rw [List.getElem?_set_ne (fun e => h2 e.symm), hz2]
      by_cases h3 : z < k ∨ l.length ≤ z + k
      · rw [if_pos h3, if_pos (by omega)]
      · rw [if_neg h3, if_neg (by omega)]
theorem Mid.end_ {α : Type} {l m : List α} {k : Nat} (h : Mid l m k) (hk : l.length ≤ 2 * k + 1) : m = l.reverse := by
  refine List.ext_getElem? fun x => ?_
  by_cases hx : x < l.length
  · rw [h.2 x hx, List.getElem?_reverse hx]
    split
    · rfl
    · congr 1
      omega
  · rw [List.getElem?_eq_none (by rw [h.1]; omega), List.getElem?_eq_none (by simp; omega)]

set_option maxRecDepth 100000 in
theorem reverse_nil (v : Value) (w : World) (h : Sl w 51 9 v 0 []) : Calls Tryd.prog 49 #[v] w fun e w' => e = .returned (.tuple #[]) ∧ w = w' := by
  obtain ⟨A, c, rfl, _⟩ := h.form
  clear h
  go_enter Tryd.func49, Tryd.ntmps49
  go_wp2
  go_loopw [2, 3] (fun i j wr => i = .int .i64 0 ∧ j = .int .i64 (-1) ∧ wr = w) (fun _ _ _ => 0)
  case atStart => exact ⟨rfl, rfl, rfl⟩
  case round =>
    obtain ⟨rfl, rfl, rfl⟩ := hrel
    go_wp2
    go_end0
    exact ⟨rfl, rfl⟩
set_option maxRecDepth 100000 in
set_option maxHeartbeats 4000000 in
theorem reverse_some (l : List Chg) (v : Value) (w : World) (h : Sl w 51 9 v l.length (rows Chg.cells l)) (h0 : 0 < l.length) (hN : l.length ≤ 1000000) : Calls Tryd.prog 49 #[v] w
    fun e w' => e = .returned (.tuple #[]) ∧ Sl w' 51 9 v l.length (rows Chg.cells l.reverse) ∧ Only (fun b => v.ownBlock = some b) w w' := by
  obtain ⟨g, off, c, rfl, hc, hcm, _⟩ := h.atC h0
  have HOWN : Value.ownBlock (.slice (some ⟨g, off, none⟩) l.length c) = some g := rfl
  rw [show (fun b => Value.ownBlock (.slice (some ⟨g, off, none⟩) l.length c) = some b) = fun b => g = b from by funext b; rw [HOWN]; simp]
  clear HOWN
  have H := hide h
  have HN := hide hN
  clear h hN
  have hN := HN.out
  have hsub : (l.length : Int) - 1 = ((l.length - 1 : Nat) : Int) := by omega
  have HSUB := hide hsub
  clear hsub
  unfold maxLen at hcm
  go_enter Tryd.func49, Tryd.ntmps49
  go_wp2
  go_loopw [2, 3] (fun i j wr => ∃ (k q : Nat) (m : List Chg), i = .int .i64 (k : Int) ∧ j = .int .i64 (q : Int) ∧ k + q + 1 = l.length ∧ k ≤ q + 1 ∧ Mid l m k ∧ Sl wr 51 9 (.slice (some ⟨g, off, none⟩) l.length c) l.length (rows Chg.cells m) ∧ Only (fun b => g = b) w wr) (fun i _ _ => l.length - (intOf i).toNat)
  case atStart => exact ⟨0, l.length - 1, l, rfl, by rw [← HSUB.out], by omega, by omega, Mid.start l, H.out, Only.refl _ _⟩
  case round =>
    obtain ⟨k, q, m, rfl, rfl, hkq, hk1, hm, hsl, ho⟩ := hrel
    by_cases hlt : k < q
    · have hz : decide (k < q) = true := by simpa using hlt
      have hz2 : decide ((k : Int) < (q : Int)) = true := by simp; omega
      have hml := hm.1
      obtain ⟨x, hx⟩ : ∃ x, m[k]? = some x := ⟨_, List.getElem?_eq_getElem (by omega)⟩
      obtain ⟨y, hy⟩ : ∃ y, m[q]? = some y := ⟨_, List.getElem?_eq_getElem (by omega)⟩
      have hsl2 := hsl
      rw [← hml] at hsl2
      obtain ⟨g', off', c', hv, _, _, hgl, hfz, hat⟩ := hsl2.atC (by omega)
      obtain ⟨rfl, rfl, rfl⟩ : g = g' ∧ off = off' ∧ c = c' := by
        injection hv with e1 _ e2
        injection e1 with e1
        injection e1 with e3 e4
        exact ⟨e3, e4, e2⟩
      obtain ⟨p0, p1, p2, p3, p4, p5, p6, p7, p8⟩ := hat k x hx
      obtain ⟨q0, q1, q2, q3, q4, q5, q6, q7, q8⟩ := hat q y hy
      have hs1 := hsl2.putC (i := k) (by omega) y
      have hs2 := (show Sl _ _ _ (.slice (some ⟨g, off, none⟩) (m.set k y).length c) (m.set k y).length (rows Chg.cells (m.set k y)) by simpa using hs1).putC (i := q) (by simp; omega) x
      have ho2 := ((((((((((((((((((ho.setCell (p := ⟨g, off + k * 9, none⟩) (.inl rfl) (.int .i64 y.k)).setCell (p := ⟨g, off + k * 9 + 1, none⟩) (.inl rfl) (.int .i64 y.a)).setCell (p := ⟨g, off + k * 9 + 2, none⟩) (.inl rfl) (.int .i64 y.t)).setCell (p := ⟨g, off + k * 9 + 3, none⟩) (.inl rfl) (.int .i64 y.id)).setCell (p := ⟨g, off + k * 9 + 4, none⟩) (.inl rfl) (.int .i64 y.nm)).setCell (p := ⟨g, off + k * 9 + 5, none⟩) (.inl rfl) (.string y.tx)).setCell (p := ⟨g, off + k * 9 + 6, none⟩) (.inl rfl) (.int .i64 y.vk)).setCell (p := ⟨g, off + k * 9 + 7, none⟩) (.inl rfl) (.int .i64 y.vn)).setCell (p := ⟨g, off + k * 9 + 8, none⟩) (.inl rfl) (.bool y.had)).setCell (p := ⟨g, off + q * 9, none⟩) (.inl rfl) (.int .i64 x.k)).setCell (p := ⟨g, off + q * 9 + 1, none⟩) (.inl rfl) (.int .i64 x.a)).setCell (p := ⟨g, off + q * 9 + 2, none⟩) (.inl rfl) (.int .i64 x.t)).setCell (p := ⟨g, off + q * 9 + 3, none⟩) (.inl rfl) (.int .i64 x.id)).setCell (p := ⟨g, off + q * 9 + 4, none⟩) (.inl rfl) (.int .i64 x.nm)).setCell (p := ⟨g, off + q * 9 + 5, none⟩) (.inl rfl) (.string x.tx)).setCell (p := ⟨g, off + q * 9 + 6, none⟩) (.inl rfl) (.int .i64 x.vk)).setCell (p := ⟨g, off + q * 9 + 7, none⟩) (.inl rfl) (.int .i64 x.vn)).setCell (p := ⟨g, off + q * 9 + 8, none⟩) (.inl rfl) (.bool x.had)).drew
      have HS := hide (And.intro (Sl.drew hs2) ho2)
      have HM := hide (hm.next hlt hkq hx hy)
      have HML := hide hml
      have HLT := hide (And.intro hlt hkq)
      have hkl : k < l.length := by omega
      have hql : q < l.length := by omega
      have hq1 : 1 ≤ q := by omega
      clear hm hsl ho hx hy hsl2 hat hs1 hs2 ho2 hml hv
      go_wp2
      go_region
      go_wp2
      go_roundw
      case rel =>
        refine ⟨k + 1, q - 1, (m.set k y).set q x, by go_num, ?_, ?_, ?_, HM.out, ?_, HS.out.2⟩
        · congr 1
          omega
        · have := HLT.out; omega
        · have := HLT.out; omega
        · have hs := HS.out.1
          simpa [HML.out] using hs
      case measure => have := HLT.out; simp [intOf]; omega
    · have hz : decide (k < q) = false := by simpa using hlt
      have hz2 : decide ((k : Int) < (q : Int)) = false := by simp; omega
      have HE := hide (hm.end_ (by omega))
      have HS := hide (And.intro hsl ho)
      clear hm hsl ho
      go_wp2
      go_end0
      exact ⟨rfl, by rw [← HE.out]; exact HS.out.1, HS.out.2⟩
theorem reverse_any (l : List Chg) (v : Value) (w : World) (h : Sl w 51 9 v l.length (rows Chg.cells l)) (hN : l.length ≤ 1000000) : Calls Tryd.prog 49 #[v] w
    fun e w' => e = .returned (.tuple #[]) ∧ Sl w' 51 9 v l.length (rows Chg.cells l.reverse) ∧ Only (fun b => v.ownBlock = some b) w w' := by
  cases l with
  | nil =>
    refine (reverse_nil v w h).mono ?_
    rintro e w' ⟨rfl, rfl⟩
    exact ⟨rfl, h, Only.refl _ _⟩
  | cons x l => exact reverse_some (x :: l) v w h (by simp) hN

set_option maxRecDepth 100000 in
set_option maxHeartbeats 2000000 in
theorem same_chgs (l m : List Chg) (v1 v2 : Value) (w : World) (h1 : Rd w v1 9 l.length (rows Chg.cells l)) (h2 : Rd w v2 9 m.length (rows Chg.cells m)) (hl : l.length ≤ 1000000) (hm : m.length ≤ 1000000) :
    Calls Tryd.prog 36 #[v1, v2] w fun e w' => e = .returned (.bool (isB (l = m))) ∧ ∃ q, w' = w.drewN q := by
  obtain ⟨A1, c1, rfl, e1⟩ := id h1
  obtain ⟨A2, c2, rfl, e2⟩ := id h2
  clear e1 e2
  by_cases hlen : l.length = m.length
  · have hz : ((l.length : Int) != (m.length : Int)) = false := by simp [hlen]
    have HLEN := hide hlen
    have H1 := hide h1
    have H2 := hide h2
    clear hlen h1 h2
    go_enter Tryd.func36, Tryd.ntmps36
    go_wp2
    go_loopw [5] (fun i wr => ∃ k q : Nat, k ≤ l.length ∧ i = .int .i64 (k : Int) ∧ AgreeU l m k ∧ wr = w.drewN q) (fun i _ => l.length - (intOf i).toNat)
    case atStart => exact ⟨0, 0, Nat.zero_le _, rfl, rfl, rfl⟩
    case round =>
      obtain ⟨k, q, hk, rfl, hA, rfl⟩ := hrel
      by_cases hlt : k < l.length
      · have hz2 : decide ((k : Int) < (l.length : Int)) = true := by simp; omega
        obtain ⟨x, hx⟩ : ∃ x, l[k]? = some x := ⟨_, List.getElem?_eq_getElem hlt⟩
        have hltm : k < m.length := by have := HLEN.out; omega
        obtain ⟨y, hy⟩ : ∃ y, m[k]? = some y := ⟨_, List.getElem?_eq_getElem hltm⟩
        obtain ⟨g1, o1, d1, hv1, hc1⟩ := Rd.atC H1.out (by omega)
        obtain ⟨g2, o2, d2, hv2, hc2⟩ := Rd.atC H2.out (by omega)
        obtain ⟨rfl, rfl⟩ : A1 = some ⟨g1, o1, none⟩ ∧ c1 = d1 := by
          injection hv1 with e1 _ e2
          exact ⟨e1, e2⟩
        obtain ⟨rfl, rfl⟩ : A2 = some ⟨g2, o2, none⟩ ∧ c2 = d2 := by
          injection hv2 with e1 _ e2
          exact ⟨e1, e2⟩
        obtain ⟨p0, p1, p2, p3, p4, p5, p6, p7, p8⟩ := hc1 k x hx
        obtain ⟨q0, q1, q2, q3, q4, q5, q6, q7, q8⟩ := hc2 k y hy
        have HX := hide hx
        have HY := hide hy
        have HA := hide hA
        have HLT := hide hlt
        clear hx hy hA hc1 hc2 hv1 hv2 hk
        cases he : x.eqB y with
        | true =>
          obtain rfl := (Chg.eqB_iff x y).1 he
          go_wp2
          go_region
          go_wp2
          go_roundw
          case rel => exact ⟨k + 1, q + 1, HLT.out, by go_num, agreeU_step HA.out HX.out HY.out, rfl⟩
          case measure => have := HLT.out; simp [intOf]; omega
        | false =>
          have HNE := hide (agreeU_not HX.out HY.out fun e => by rw [(Chg.eqB_iff x y).2 e] at he; cases he)
          go_wp2
          go_region
          go_wp2
          go_ret
          exact ⟨by rw [isB_false HNE.out]; rfl, q + 1, rfl⟩
      · have hz2 : decide ((k : Int) < (l.length : Int)) = false := by simp; omega
        obtain rfl : k = l.length := by omega
        have HE := hide (agreeU_end HLEN.out hA)
        clear hA hk hlt
        go_wp2
        go_ret
        exact ⟨by rw [isB_true HE.out]; rfl, q, rfl⟩
  · have hz : ((l.length : Int) != (m.length : Int)) = true := by simp; omega
    have HNE := hide (isB_false fun e : l = m => hlen (by rw [e]))
    clear hlen
    go_enter Tryd.func36, Tryd.ntmps36
    go_wp2
    go_ret
    exact ⟨by rw [HNE.out]; rfl, 0, rfl⟩
end Go.Proofs.YtghcmakhfdnimaaDoor
