/- Are there too many pieces, or too many properties in one. No condition but those written. -/
import Derived.Test.YtgiogmbopiblmaaPpg
namespace Go.Proofs.Ytgiogmbopiblmaa
open Go.RowKit

/-- Too many properties in a piece. -/
def fatP (p : Pc) : Bool := decide (64 < p.pr.length)
/-- Too many pieces, or too many properties in one. -/
def fullP (l : List Pc) : Bool := decide (1024 < l.length) || l.any fatP
theorem full1_any (f t : Int) (A : Option Addr) (n c : Nat) (w : World) (hn : n ≤ 1000000) : Calls Try.prog 76 #[.agg #[.int .i64 f, .int .i64 t, .slice A n c]] w fun e w' => e = .returned (.bool (decide (64 < n))) ∧ Below w.heap.size w w' := by
  have HB := hide (below_box w (.cells #[.int .i64 f, .int .i64 t, .slice A n c] 73))
  have hn2 : (n : Int) ≤ 1000000 := by omega
  by_cases h : 64 < n
  · have z1 : decide ((64 : Int) < (n : Int)) = true := by simp; omega
    have z2 : decide (64 < n) = true := by simpa using h
    rw [z2]
    clear h hn
    go_enter Try.func76, Try.ntmps76
    go_wp2
    go_ret
    exact ⟨rfl, HB.out⟩
  · have z1 : decide ((64 : Int) < (n : Int)) = false := by simp; omega
    have z2 : decide (64 < n) = false := by simpa using h
    rw [z2]
    clear h hn
    go_enter Try.func76, Try.ntmps76
    go_wp2
    go_ret
    exact ⟨rfl, HB.out⟩
section
variable {w : World} {sv : Value} {L : List (Pc × Value)}
set_option maxRecDepth 100000 in
set_option maxHeartbeats 4000000 in
theorem idxfat_any (h : PcsAt w sv L) (hl : L.length ≤ 1000000) (hq : ∀ p ∈ L, p.1.pr.length ≤ 1000000) :
    Calls Try.prog 90 #[sv, .func (.func 76) #[] #[]] w fun e w' => ∃ b : Int, e = .returned (.int .i64 b) ∧ decide (0 ≤ b) = (pcs L).any fatP ∧ Below w.heap.size w w' := by
  obtain ⟨A, c, rfl, hx1⟩ := h.row.form
  clear hx1
  obtain ⟨n, hn0⟩ : ∃ n, n = L.length := ⟨_, rfl⟩
  rw [← hn0] at h ⊢
  have hl2 : (n : Int) ≤ 1000000 := by omega
  have H := hide h
  have HN0 := hide hn0
  have HQ := hide hq
  clear h hn0 hl hq
  go_enter Try.func90, Try.ntmps90
  go_wp2
  go_loopw [8] (fun iv wr => ∃ i : Nat, iv = .int .i64 (i : Int) ∧ i ≤ n ∧ ((pcs L).take i).any fatP = false ∧ Below w.heap.size w wr) (fun iv _ => n - (intOf iv).toNat)
  case atStart => exact ⟨0, rfl, Nat.zero_le _, rfl, Below.refl _ _⟩
  case round =>
    obtain ⟨i, rfl, hin, ha, hb⟩ := hrel
    have HA := hide ha
    have HI := hide hin
    have HB := hide hb
    by_cases hij : i < n
    · have z1 : decide ((i : Int) < (n : Int)) = true := by simp; omega
      have z2 : (i : Int) < (n : Int) := by omega
      have z3 : decide (i < n) = true := by simpa using hij
      obtain ⟨⟨⟨f, t, q⟩, pv⟩, hp⟩ : ∃ p, L[i]? = some p := ⟨_, List.getElem?_eq_getElem (by rw [← HN0.out]; omega)⟩
      have hpp : (pcs L)[i]? = some ⟨f, t, q⟩ := by unfold pcs; rw [List.getElem?_map, hp]; rfl
      obtain ⟨Ap, cp, rfl, hx3⟩ := Sl.form (show PrS w pv q from H.out.inn (⟨f, t, q⟩, pv) (List.mem_of_getElem? hp))
      have hqq : q.length ≤ 1000000 := HQ.out _ (List.mem_of_getElem? hp)
      obtain ⟨g, off, c', hv1, hc1⟩ := Rd.fld pcC_len (H.out.row.rd.belowN hb) (by rw [← HN0.out]; omega)
      obtain ⟨rfl, rfl⟩ : A = some ⟨g, off, none⟩ ∧ c = c' := by
        injection hv1 with e1 _ e2
        exact ⟨e1, e2⟩
      have c0 : wr.cell? ⟨g, off + i * 3, none⟩ = some (.int .i64 (f : Int)) := hc1 i _ 0 _ hp rfl
      have c1 : wr.cell? ⟨g, off + i * 3 + 1, none⟩ = some (.int .i64 (t : Int)) := hc1 i _ 1 _ hp rfl
      have c2 : wr.cell? ⟨g, off + i * 3 + 2, none⟩ = some (.slice Ap q.length cp) := hc1 i _ 2 _ hp rfl
      have HPP := hide hpp
      have HLT := hide hij
      have HC := hide (full1_any (f : Int) (t : Int) Ap q.length cp wr hqq)
      obtain ⟨d, hd⟩ : ∃ d, d = decide (64 < q.length) := ⟨_, rfl⟩
      rw [← hd] at HC
      have HD := hide hd
      clear hx3 hqq hin ha hb hij hpp hp hc1 hv1 hd
      cases d with
      | true =>
        have HG := hide (show decide ((0 : Int) ≤ (i : Int)) = (pcs L).any fatP by
          have e1 : (pcs L).any fatP = true := List.any_eq_true.2 ⟨_, List.mem_of_getElem? HPP.out, HD.out.symm⟩
          rw [e1]
          simp)
        go_wp2_with (go_at_call 76; (with_reducible refine Calls.mono HC.out ?_); rintro r w2 ⟨rfl, hb2⟩; have HB2 := hide (HB.out.trans (hb2.mono HB.out.size)); clear hb2)
        go_ret
        exact ⟨_, rfl, HG.out, HB2.out⟩
      | false =>
        have HG := hide (show ((pcs L).take (i + 1)).any fatP = false by
          rw [List.take_add_one, HPP.out, List.any_append, HA.out]
          simpa [fatP] using HD.out.symm)
        go_wp2_with (go_at_call 76; (with_reducible refine Calls.mono HC.out ?_); rintro r w2 ⟨rfl, hb2⟩; have HB2 := hide (HB.out.trans (hb2.mono HB.out.size)); clear hb2)
        go_roundw
        case rel => exact ⟨i + 1, by go_num, HLT.out, HG.out, HB2.out⟩
        case measure => have := HLT.out; simp [intOf]; omega
    · obtain rfl : i = n := by omega
      have z1 : decide ((i : Int) < (i : Int)) = false := by simp
      have HG := hide (show decide ((0 : Int) ≤ -1) = (pcs L).any fatP by
        have e1 : (pcs L).take i = pcs L := List.take_of_length_le (by rw [HN0.out]; simp [pcs])
        have e2 := HA.out
        rw [e1] at e2
        rw [e2]
        rfl)
      clear hin ha hb hij
      go_wp2
      go_ret
      exact ⟨_, rfl, HG.out, HB.out⟩
theorem hasfat_any (h : PcsAt w sv L) (hl : L.length ≤ 1000000) (hq : ∀ p ∈ L, p.1.pr.length ≤ 1000000) :
    Calls Try.prog 75 #[sv, .func (.func 76) #[] #[]] w fun e w' => e = .returned (.bool ((pcs L).any fatP)) ∧ Below w.heap.size w w' := by
  obtain ⟨A, c, rfl, hx1⟩ := h.row.form
  have HB := hide (idxfat_any h hl hq)
  clear h hx1 hl hq
  go_enter Try.func75, Try.ntmps75
  go_wp2_with (go_at_call 90; (with_reducible refine Calls.mono HB.out ?_); rintro r w2 ⟨b, rfl, hd, hb2⟩; have HB2 := hide hb2; have HD := hide hd; clear hb2 hd)
  go_ret
  exact ⟨by rw [← HD.out]; rfl, HB2.out⟩
theorem full_any (h : PcsAt w sv L) (hl : L.length ≤ 1000000) (hq : ∀ p ∈ L, p.1.pr.length ≤ 1000000) :
    Calls Try.prog 48 #[sv] w fun e w' => e = .returned (.bool (fullP (pcs L))) ∧ Below w.heap.size w w' := by
  obtain ⟨A, c, rfl, hx1⟩ := h.row.form
  have HB := hide (hasfat_any h hl hq)
  have hpl : (pcs L).length = L.length := by simp [pcs]
  obtain ⟨n, hn0⟩ : ∃ n, n = L.length := ⟨_, rfl⟩
  unfold fullP
  rw [hpl]
  rw [← hn0] at HB hl ⊢
  obtain ⟨d, hd⟩ : ∃ d, d = (pcs L).any fatP := ⟨_, rfl⟩
  rw [← hd] at HB ⊢
  have hl2 : (n : Int) ≤ 1000000 := by omega
  clear h hx1 hq hpl hn0 hd
  by_cases hf : 1024 < n
  · have z1 : decide ((1024 : Int) < (n : Int)) = true := by simp; omega
    have z2 : decide (1024 < n) = true := by simpa using hf
    have z3 : (1024 : Int) < (n : Int) := by omega
    rw [z2]
    have HE := hide (Below.refl w.heap.size w)
    clear hf hl HB
    go_enter Try.func48, Try.ntmps48
    go_wp2
    go_ret
    exact ⟨rfl, HE.out⟩
  · have z1 : decide ((1024 : Int) < (n : Int)) = false := by simp; omega
    have z2 : decide (1024 < n) = false := by simpa using hf
    have z3 : ¬ (1024 : Int) < (n : Int) := by omega
    rw [z2, Bool.false_or]
    clear hf hl
    go_enter Try.func48, Try.ntmps48
    go_wp2_with (go_at_call 75; (with_reducible refine Calls.mono HB.out ?_); rintro r w2 ⟨rfl, hb2⟩; have HB2 := hide hb2; clear hb2)
    go_ret
    exact ⟨rfl, HB2.out⟩
end
end Go.Proofs.Ytgiogmbopiblmaa
