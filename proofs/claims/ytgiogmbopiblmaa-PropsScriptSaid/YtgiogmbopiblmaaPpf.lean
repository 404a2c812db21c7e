/- The first piece that ends behind a place: the search. No condition but those written. -/
import Derived.Test.YtgiogmbopiblmaaPpe
namespace Go.Proofs.Ytgiogmbopiblmaa
open Go.RowKit

theorem first1_any (f t : Nat) (A : Option Addr) (n c : Nat) (x : Int) (w : World) : Calls Try.prog 84 #[.agg #[.int .i64 (f : Int), .int .i64 (t : Int), .slice A n c], .int .i64 x] w fun e w' => e = .returned (.int .i64 (if (t : Int) ≤ x then -1 else 1)) ∧ Below w.heap.size w w' := by
  have HB := hide (below_box w (.cells #[.int .i64 (f : Int), .int .i64 (t : Int), .slice A n c] 73))
  by_cases h : (t : Int) ≤ x
  · rw [if_pos h]
    go_enter Try.func84, Try.ntmps84
    go_wp2
    go_ret
    exact ⟨rfl, HB.out⟩
  · rw [if_neg h]
    go_enter Try.func84, Try.ntmps84
    go_wp2
    go_ret
    exact ⟨rfl, HB.out⟩
theorem firstP_lt : ∀ (l : List Pc) (x i : Nat) (p : Pc), l[i]? = some p → i < firstP l x → p.to ≤ x
  | [], _, _, _, h, _ => by simp at h
  | z :: l, x, 0, p, h, hi => by
      unfold firstP at hi
      split at hi
      · rename_i hz
        simp at h
        exact h ▸ hz
      · omega
  | z :: l, x, i + 1, p, h, hi => by
      unfold firstP at hi
      split at hi
      · exact firstP_lt l x i p (by simpa using h) (by omega)
      · omega
theorem nf_ends : ∀ {l : List Pc} {b : Nat} {q : List Pr}, Nf b q l → ∀ (i : Nat) (p : Pc), l[i]? = some p → b < p.to ∧ ∀ (j : Nat) (z : Pc), i < j → l[j]? = some z → p.to < z.to
  | [], _, _, _, i, p, h => by simp at h
  | y :: l, b, q, hn, 0, p, h => by
      obtain ⟨h1, h2, _, _, h5⟩ := hn
      simp at h
      subst h
      refine ⟨by omega, fun j z hj hz => ?_⟩
      obtain ⟨k, rfl⟩ : ∃ k, j = k + 1 := ⟨j - 1, by omega⟩
      exact (nf_ends h5 k z (by simpa using hz)).1
  | y :: l, b, q, hn, i + 1, p, h => by
      obtain ⟨h1, h2, _, _, h5⟩ := hn
      have h6 := nf_ends h5 i p (by simpa using h)
      refine ⟨by omega, fun j z hj hz => ?_⟩
      obtain ⟨k, rfl⟩ : ∃ k, j = k + 1 := ⟨j - 1, by omega⟩
      exact h6.2 k z (by omega) (by simpa using hz)
theorem firstP_ge {l : List Pc} (_hn : Nf 0 [] l) {x i : Nat} {p : Pc} (h : l[i]? = some p) (hx : x < p.to) : firstP l x ≤ i := by
  rcases Nat.lt_or_ge i (firstP l x) with hi | hi
  · have := firstP_lt l x i p h hi
    omega
  · exact hi
theorem firstP_gt {l : List Pc} (hn : Nf 0 [] l) {x i : Nat} {p : Pc} (h : l[i]? = some p) (hx : p.to ≤ x) : i < firstP l x := by
  rcases Nat.lt_or_ge i (firstP l x) with hi | hi
  · exact hi
  · have hil := (List.getElem?_eq_some_iff.1 h).1
    obtain ⟨z, hz⟩ : ∃ z, l[firstP l x]? = some z := ⟨_, List.getElem?_eq_getElem (by omega)⟩
    have h1 := firstP_at l x z hz
    rcases Nat.lt_or_ge (firstP l x) i with h2 | h2
    · have := (nf_ends hn _ z hz).2 i p h2 h
      omega
    · have e : i = firstP l x := by omega
      rw [← e, h] at hz
      injection hz with hz
      subst hz
      omega
section
variable {w : World} {sv : Value} {L : List (Pc × Value)}
set_option maxRecDepth 100000 in
set_option maxHeartbeats 8000000 in
theorem bsf_any (h : PcsAt w sv L) (hn : Nf 0 [] (pcs L)) (x : Int) (hl : L.length ≤ 1000000) :
    Calls Try.prog 83 #[sv, .int .i64 x, .func (.func 84) #[] #[]] w fun e w' => ∃ b, e = .returned (.tuple #[.int .i64 (firstP (pcs L) x.toNat : Int), .bool b]) ∧ Below w.heap.size w w' := by
  obtain ⟨A, c, rfl, hx1⟩ := h.row.form
  clear hx1
  obtain ⟨n, hn0⟩ : ∃ n, n = L.length := ⟨_, rfl⟩
  rw [← hn0] at h ⊢
  have hl2 : (n : Int) ≤ 1000000 := by omega
  have hF := firstP_le (pcs L) x.toNat
  rw [show (pcs L).length = n by rw [hn0]; simp [pcs]] at hF
  obtain ⟨F, hFe⟩ : ∃ F, F = firstP (pcs L) x.toNat := ⟨_, rfl⟩
  rw [← hFe] at hF ⊢
  have H := hide h
  have HN := hide hn
  have HN0 := hide hn0
  have HFE := hide hFe
  have HFL := hide hF
  clear h hn hn0 hFe hl hF
  go_enter Try.func83, Try.ntmps83
  go_wp2
  go_loopw [9, 10] (fun iv jv wr => ∃ i j : Nat, iv = .int .i64 (i : Int) ∧ jv = .int .i64 (j : Int) ∧ i ≤ F ∧ F ≤ j ∧ j ≤ n ∧ Below w.heap.size w wr) (fun iv jv _ => (intOf jv).toNat - (intOf iv).toNat)
  case atStart => exact ⟨0, n, rfl, rfl, Nat.zero_le _, HFL.out, Nat.le_refl _, Below.refl _ _⟩
  case round =>
    obtain ⟨i, j, rfl, rfl, hi, hj, hjn, hb⟩ := hrel
    have HI := hide hi
    have HJ := hide hj
    have HJN := hide hjn
    have HB := hide hb
    by_cases hij : i < j
    · have z1 : decide ((i : Int) < (j : Int)) = true := by simp; omega
      have z2 : (i : Int) + (j : Int) ≤ 2000000 := by omega
      have z3 : decide (i < j) = true := by simpa using hij
      obtain ⟨m, hm⟩ : ∃ m, m = (i + j) / 2 := ⟨_, rfl⟩
      have z4 : ((i : Int) + (j : Int)) / 2 = (m : Int) := by omega
      have hmi : i ≤ m ∧ m < j := by omega
      have z5 : (m : Int) < (n : Int) := by omega
      have z6 : decide ((m : Int) < (n : Int)) = true := by simp; omega
      have z7 : decide (m < n) = true := by simp; omega
      obtain ⟨⟨⟨f, t, q⟩, pv⟩, hp⟩ : ∃ p, L[m]? = some p := ⟨_, List.getElem?_eq_getElem (by rw [← HN0.out]; omega)⟩
      have hpp : (pcs L)[m]? = some ⟨f, t, q⟩ := by unfold pcs; rw [List.getElem?_map, hp]; rfl
      obtain ⟨Ap, cp, rfl, hx3⟩ := Sl.form (show PrS w pv q from H.out.inn (⟨f, t, q⟩, pv) (List.mem_of_getElem? hp))
      clear hx3
      obtain ⟨g, off, c', hv1, hc1⟩ := Rd.fld pcC_len (H.out.row.rd.belowN hb) (by rw [← HN0.out]; omega)
      obtain ⟨rfl, rfl⟩ : A = some ⟨g, off, none⟩ ∧ c = c' := by
        injection hv1 with e1 _ e2
        exact ⟨e1, e2⟩
      have c0 : wr.cell? ⟨g, off + m * 3, none⟩ = some (.int .i64 (f : Int)) := hc1 m _ 0 _ hp rfl
      have c1 : wr.cell? ⟨g, off + m * 3 + 1, none⟩ = some (.int .i64 (t : Int)) := hc1 m _ 1 _ hp rfl
      have c2 : wr.cell? ⟨g, off + m * 3 + 2, none⟩ = some (.slice Ap q.length cp) := hc1 m _ 2 _ hp rfl
      have HPP := hide hpp
      have HMI := hide hmi
      have HT1 := hide (nf_ends HN.out m _ hpp).1
      have HC := hide (first1_any f t Ap q.length cp x wr)
      clear hi hj hjn hb hij hmi hpp hp hm hc1 hv1
      by_cases htx : (t : Int) ≤ x
      · have HTX := hide htx
        rw [if_pos htx] at HC
        clear htx
        go_wp2_with (go_at_call 84; (with_reducible refine Calls.mono HC.out ?_); rintro r w2 ⟨rfl, hb2⟩; have HB2 := hide (HB.out.trans (hb2.mono HB.out.size)); clear hb2)
        go_roundw
        case rel => exact ⟨m + 1, j, by go_num, rfl, by have := firstP_gt HN.out HPP.out (x := x.toNat) (show t ≤ x.toNat by have := HTX.out; omega); rw [HFE.out]; omega, HJ.out, HJN.out, HB2.out⟩
        case measure => have := HMI.out; simp [intOf]; omega
      · have HTX := hide htx
        rw [if_neg htx] at HC
        clear htx
        go_wp2_with (go_at_call 84; (with_reducible refine Calls.mono HC.out ?_); rintro r w2 ⟨rfl, hb2⟩; have HB2 := hide (HB.out.trans (hb2.mono HB.out.size)); clear hb2)
        go_roundw
        case rel => exact ⟨i, m, rfl, by go_num, HI.out, by have := firstP_ge HN.out HPP.out (x := x.toNat) (show x.toNat < t by have := HTX.out; have h1 : 0 < t := HT1.out; omega); rw [HFE.out]; exact this, by have := HMI.out; have := HJN.out; omega, HB2.out⟩
        case measure => have := HMI.out; simp [intOf]; omega
    · obtain rfl : i = F := by omega
      have z1 : decide ((i : Int) < (j : Int)) = false := by simp; omega
      have z3 : decide (i < j) = false := by simpa using hij
      by_cases hin : i < n
      · have z5 : (i : Int) < (n : Int) := by omega
        have z6 : decide ((i : Int) < (n : Int)) = true := by simp; omega
        have z7 : decide (i < n) = true := by simp; omega
        obtain ⟨⟨⟨f, t, q⟩, pv⟩, hp⟩ : ∃ p, L[i]? = some p := ⟨_, List.getElem?_eq_getElem (by rw [← HN0.out]; omega)⟩
        obtain ⟨Ap, cp, rfl, hx3⟩ := Sl.form (show PrS w pv q from H.out.inn (⟨f, t, q⟩, pv) (List.mem_of_getElem? hp))
        clear hx3
        obtain ⟨g, off, c', hv1, hc1⟩ := Rd.fld pcC_len (H.out.row.rd.belowN hb) (by rw [← HN0.out]; omega)
        obtain ⟨rfl, rfl⟩ : A = some ⟨g, off, none⟩ ∧ c = c' := by
          injection hv1 with e1 _ e2
          exact ⟨e1, e2⟩
        have c0 : wr.cell? ⟨g, off + i * 3, none⟩ = some (.int .i64 (f : Int)) := hc1 i _ 0 _ hp rfl
        have c1 : wr.cell? ⟨g, off + i * 3 + 1, none⟩ = some (.int .i64 (t : Int)) := hc1 i _ 1 _ hp rfl
        have c2 : wr.cell? ⟨g, off + i * 3 + 2, none⟩ = some (.slice Ap q.length cp) := hc1 i _ 2 _ hp rfl
        have HC := hide (first1_any f t Ap q.length cp x wr)
        obtain ⟨k, hk⟩ : ∃ k : Int, k = (if (t : Int) ≤ x then -1 else 1) := ⟨_, rfl⟩
        rw [← hk] at HC
        clear hi hj hjn hb hij hp hc1 hv1 hin hk
        go_wp2_with (go_at_call 84; (with_reducible refine Calls.mono HC.out ?_); rintro r w2 ⟨rfl, hb2⟩; have HB2 := hide (HB.out.trans (hb2.mono HB.out.size)); clear hb2)
        go_ret2
        exact ⟨_, rfl, HB2.out⟩
      · have z6 : decide ((i : Int) < (n : Int)) = false := by simp; omega
        have z7 : decide (i < n) = false := by simp; omega
        clear hi hj hjn hb hij hin
        go_wp2
        go_ret2
        exact ⟨_, rfl, HB.out⟩
theorem first_any (h : PcsAt w sv L) (hn : Nf 0 [] (pcs L)) (x : Int) (hl : L.length ≤ 1000000) :
    Calls Try.prog 72 #[sv, .int .i64 x] w fun e w' => e = .returned (.int .i64 (firstP (pcs L) x.toNat : Int)) ∧ Below w.heap.size w w' := by
  obtain ⟨A, c, rfl, hx1⟩ := h.row.form
  have HB := hide (bsf_any h hn x hl)
  clear h hn hx1
  go_enter Try.func72, Try.ntmps72
  go_wp2_with (go_at_call 83; (with_reducible refine Calls.mono HB.out ?_); rintro r w2 ⟨b, rfl, hb2⟩; have HB2 := hide hb2; clear hb2)
  go_ret
  exact ⟨rfl, HB2.out⟩
end
end Go.Proofs.Ytgiogmbopiblmaa
