/- Over of a table at any input, in one form; Same at two states. No condition but those written. -/
import Derived.Test.YtdojcgefiekleaaDoorSdc
namespace Go.Proofs.YtdojcgefiekleaaDoor
open Go.RowKit

/-- The zero state. -/
def sta0 : Sta := ⟨[], 0, 0, false, 0, false⟩
/-- What Over answers: a fault and a state (with a fault: the zero state). -/
def overZ (T : Tb) (s : ByteArray) (a b : Int) (S : Sta) : Int × Sta := ((overR T s a b S).1, (overR T s a b S).2.getD sta0)
/-- A state as a value. -/
def staV (A : Option Addr) (c : Nat) (S : Sta) : Value := .agg #[.slice A S.opens.length c, .int .i64 S.under, .int .i64 S.inn, .bool S.comment, .int .i64 S.start, .bool S.quoted]
theorem overR_cases (T : Tb) (s : ByteArray) (a b : Int) (S : Sta) : (overR T s a b S = (5, none) ∧ charsL s.data.toList = none) ∨ (overR T s a b S = (3, none) ∧ ∃ L, charsL s.data.toList = some L ∧ (a < 0 ∨ b < a ∨ (L.length : Int) < b)) ∨ ∃ (L : List Nat) (i0 e0 : Nat), charsL s.data.toList = some L ∧ a = i0 ∧ b = e0 ∧ i0 ≤ e0 ∧ e0 ≤ L.length ∧ overR T s a b S = overE (overN T L (e0 - i0) i0 S) := by
  cases hc : charsL s.data.toList with
  | none => exact .inl ⟨by unfold overR; rw [hc], rfl⟩
  | some L =>
    by_cases hr : a < 0 ∨ b < a ∨ (L.length : Int) < b
    · exact .inr (.inl ⟨by unfold overR; rw [hc]; simp only []; rw [if_pos hr], L, rfl, hr⟩)
    · obtain ⟨i0, rfl⟩ : ∃ i : Nat, a = (i : Int) := ⟨a.toNat, by omega⟩
      obtain ⟨e0, rfl⟩ : ∃ i : Nat, b = (i : Int) := ⟨b.toNat, by omega⟩
      refine .inr (.inr ⟨L, i0, e0, rfl, rfl, rfl, by omega, by omega, ?_⟩)
      unfold overR overE
      rw [hc]
      simp only []
      rw [if_neg hr, show ((e0 : Int) - (i0 : Int)).toNat = e0 - i0 by omega, Int.toNat_natCast]
      cases overN T L (e0 - i0) i0 S <;> rfl
theorem OverRes.fine {r : Int × Option Sta} {w w' : World} {e : Ending} (h : OverRes r w e w') (h0 : ∀ S, r.2 = some S → r.1 = 0) : ∃ A c, e = .returned (.tuple #[staV A c (r.2.getD sta0), .int .i64 r.1]) ∧ Rd w' (.slice A (r.2.getD sta0).opens.length c) 1 (r.2.getD sta0).opens.length (zints (r.2.getD sta0).opens) ∧ Below w.heap.size w w' := by
  obtain ⟨hb, h1⟩ := h
  obtain ⟨c, o⟩ := r
  cases o with
  | none => exact ⟨none, 0, h1, Rd.nil _ _, hb⟩
  | some S =>
    obtain ⟨sv, rfl, hs, hg⟩ := h1
    obtain ⟨A, k, rfl, _⟩ := hs.form
    have := h0 S rfl
    simp only at this
    subst this
    exact ⟨A, k, rfl, hs.rd, hb⟩
section
variable {w : World} {p : TL} {T : Tb}
theorem over_any (h : TabAt w p T) (s : ByteArray) (hs : s.size ≤ 1000000000000) (hT : Tabs w) (a b : Int) (ov : Value) (S : Sta) (hov : Rd w ov 1 S.opens.length (zints S.opens)) (hol : S.opens.length ≤ 1000) (hu : -9223372036854775808 ≤ S.under ∧ S.under ≤ 9223372036854775807) :
    Calls Tryd.prog 25 #[.pointer (some ⟨p.t, 0, none⟩), .string s, .int .i64 a, .int .i64 b, .agg #[ov, .int .i64 S.under, .int .i64 S.inn, .bool S.comment, .int .i64 S.start, .bool S.quoted]] w fun e w' => ∃ A c, e = .returned (.tuple #[staV A c (overZ T s a b S).2, .int .i64 (overZ T s a b S).1]) ∧ Rd w' (.slice A (overZ T s a b S).2.opens.length c) 1 (overZ T s a b S).2.opens.length (zints (overZ T s a b S).2.opens) ∧ Below w.heap.size w w' := by
  have hf : ∃ A n c, ov = .slice A n c := by
    obtain ⟨A, c, h1, _⟩ := hov
    exact ⟨A, _, c, h1⟩
  rcases overR_cases T s a b S with ⟨h1, _⟩ | ⟨h1, _⟩ | ⟨L, i0, e0, hc, rfl, rfl, hi, he, h1⟩
  · refine (over_bad h s hs hT a b ov S hf (.inl (by rw [h1]))).mono fun e w' hr => hr.fine ?_
    rw [h1]
    intro S' e
    cases e
  · refine (over_bad h s hs hT a b ov S hf (.inr (by rw [h1]))).mono fun e w' hr => hr.fine ?_
    rw [h1]
    intro S' e
    cases e
  · refine (over_ok h s hs hT hc i0 e0 hi he ov S hov hol hu).mono fun e w' hr => hr.fine ?_
    rw [h1]
    unfold overE
    cases overN T L (e0 - i0) i0 S <;> simp
end
end Go.Proofs.YtdojcgefiekleaaDoor
