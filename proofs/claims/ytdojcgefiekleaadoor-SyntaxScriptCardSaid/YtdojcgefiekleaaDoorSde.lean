/- Same at two states; Over within a text. No condition but those written. -/
import Derived.Test.YtdojcgefiekleaaDoorSdd
import Derived.Test.YtdojcgefiekleaaDoorScn
namespace Go.Proofs.YtdojcgefiekleaaDoor
open Go.RowKit

theorem Blk.six {W : World} {g : Nat} {v : Value} {S : Sta} (h : Blk W g 50 (staC v S)) : W.cell? ⟨g, 0, none⟩ = some v ∧ W.cell? ⟨g, 1, none⟩ = some (.int .i64 S.under) ∧ W.cell? ⟨g, 2, none⟩ = some (.int .i64 S.inn) ∧ W.cell? ⟨g, 3, none⟩ = some (.bool S.comment) ∧ W.cell? ⟨g, 4, none⟩ = some (.int .i64 S.start) ∧ W.cell? ⟨g, 5, none⟩ = some (.bool S.quoted) :=
  ⟨h.cell 0, h.cell 1, h.cell 2, h.cell 3, h.cell 4, h.cell 5⟩
set_option maxRecDepth 100000 in
set_option maxHeartbeats 4000000 in
theorem same_sta (W : World) (S : Sta) (A B : Option Addr) (c d : Nat) (ha : Rd W (.slice A S.opens.length c) 1 S.opens.length (zints S.opens)) (hb : Rd W (.slice B S.opens.length d) 1 S.opens.length (zints S.opens)) (hl : S.opens.length ≤ 1000000) :
    Calls Tryd.prog 27 #[.agg #[.slice A S.opens.length c, .int .i64 S.under, .int .i64 S.inn, .bool S.comment, .int .i64 S.start, .bool S.quoted], .agg #[.slice B S.opens.length d, .int .i64 S.under, .int .i64 S.inn, .bool S.comment, .int .i64 S.start, .bool S.quoted]] W fun e w' => e = .returned (.bool true) ∧ Below W.heap.size W w' := by
  obtain ⟨w1, hw1⟩ : ∃ w1, w1 = (W.alloc (.cells #[.slice A S.opens.length c, .int .i64 S.under, .int .i64 S.inn, .bool S.comment, .int .i64 S.start, .bool S.quoted] 50)).alloc (.cells #[.slice B S.opens.length d, .int .i64 S.under, .int .i64 S.inn, .bool S.comment, .int .i64 S.start, .bool S.quoted] 50) := ⟨_, rfl⟩
  have hB : Below W.heap.size W w1 := by
    rw [hw1]
    exact ((Below.refl _ W).alloc (Nat.le_refl _) _).alloc (by simp) _
  have f0 : Blk w1 W.heap.size 50 (staC (.slice A S.opens.length c) S) := by
    rw [hw1]
    exact (Blk.new W 50 _).alloc _
  have f1 : Blk w1 (W.heap.size + 1) 50 (staC (.slice B S.opens.length d) S) := by
    rw [hw1]
    have := Blk.new (W.alloc (.cells #[.slice A S.opens.length c, .int .i64 S.under, .int .i64 S.inn, .bool S.comment, .int .i64 S.start, .bool S.quoted] 50)) 50 (staC (.slice B S.opens.length d) S)
    rwa [World.size_alloc] at this
  have HA := hide (ha.belowN hB)
  have HB := hide (hb.belowN hB)
  have HW := hide hw1
  have HBL := hide hB
  obtain ⟨a0, a1, a2, a3, a4, a5⟩ := f0.six
  obtain ⟨b0, b1, b2, b3, b4, b5⟩ := f1.six
  have HL := hide hl
  have hl2 : (S.opens.length : Int) ≤ 1000000 := by omega
  clear hw1 hB ha hb f0 f1 hl
  go_enter Tryd.func27, Tryd.ntmps27
  go_upto_region 1 with fail
  rw [← HW.out]
  go_wp2
  go_loopw [5] (fun i wr => ∃ k q : Nat, k ≤ S.opens.length ∧ i = .int .i64 (k : Int) ∧ wr = w1.drewN q) (fun i _ => S.opens.length - (intOf i).toNat)
  case atStart => exact ⟨0, 0, Nat.zero_le _, rfl, rfl⟩
  case round =>
    obtain ⟨k, q, hk, rfl, rfl⟩ := hrel
    by_cases hlt : k < S.opens.length
    · have hz2 : decide ((k : Int) < (S.opens.length : Int)) = true := by simp; omega
      have hz3 : (k : Int) < (S.opens.length : Int) := by omega
      obtain ⟨x, hx⟩ : ∃ x, S.opens[k]? = some x := ⟨_, List.getElem?_eq_getElem hlt⟩
      have hzx : (zints S.opens)[k]? = some (.int .i64 x) := by unfold zints; rw [List.getElem?_map, hx]; rfl
      obtain ⟨A', c', e1, -, e2⟩ := HA.out
      obtain ⟨g1, o1, rfl, e3⟩ := e2 (by omega)
      injection e1 with e4 _ e5
      subst e4 e5
      obtain ⟨B', d', e6, -, e7⟩ := HB.out
      obtain ⟨g2, o2, rfl, e8⟩ := e7 (by omega)
      injection e6 with e9 _ e10
      subst e9 e10
      have p0 : w1.cell? ⟨g1, o1 + k, none⟩ = some (.int .i64 x) := e3 k _ hzx
      have q0 : w1.cell? ⟨g2, o2 + k, none⟩ = some (.int .i64 x) := e8 k _ hzx
      have HK := hide hk
      have HLT := hide hlt
      clear hx hzx e3 e8 hk hlt e2 e7
      go_wp2
      go_region
      go_wp2
      go_roundw
      case rel => exact ⟨k + 1, q + 1, HLT.out, by go_num, rfl⟩
      case measure => have := HLT.out; simp [intOf]; omega
    · have hz2 : decide ((k : Int) < (S.opens.length : Int)) = false := by simp; omega
      obtain rfl : k = S.opens.length := by omega
      clear hk hlt
      go_wp2
      go_ret
      exact ⟨rfl, below_drewN HBL.out q⟩
/-- Within SyntaxOver: the table and the state that came in (also in a box of the call's own). -/
structure VOt (w0 w : World) (p : TL) (T : Tb) (A : Option Addr) (c : Nat) (S : Sta) : Prop where
  bel : Below w0.heap.size w0 w
  tab : TabAt w p T
  st : Blk w w0.heap.size 50 (staC (.slice A S.opens.length c) S)
  rd : Rd w (.slice A S.opens.length c) 1 S.opens.length (zints S.opens)
/-- A state in a box g. -/
structure WOt (w : World) (g : Nat) (A : Option Addr) (c : Nat) (S : Sta) : Prop where
  st : Blk w g 50 (staC (.slice A S.opens.length c) S)
  rd : Rd w (.slice A S.opens.length c) 1 S.opens.length (zints S.opens)
section
variable {w0 w w' : World} {p : TL} {T : Tb} {A : Option Addr} {c g : Nat} {S : Sta}
theorem VOt.below (h : VOt w0 w p T A c S) (hb : Below w.heap.size w w') : VOt w0 w' p T A c S := ⟨h.bel.trans (hb.mono h.bel.size), h.tab.below hb, h.st.below hb h.st.lt, h.rd.belowN hb⟩
theorem WOt.below (h : WOt w g A c S) (hb : Below w.heap.size w w') : WOt w' g A c S := ⟨h.st.below hb h.st.lt, h.rd.belowN hb⟩
theorem below_box (w : World) (o : Obj) : Below w.heap.size w (w.alloc o) := (Below.refl _ w).alloc (Nat.le_refl _) _
theorem WOt.new (h : Rd w (.slice A S.opens.length c) 1 S.opens.length (zints S.opens)) : WOt (w.alloc (.cells (staC (.slice A S.opens.length c) S) 50)) w.heap.size A c S := ⟨Blk.new _ _ _, h.belowN (below_box _ _)⟩
end
/-- A state and a fault are answered. -/
def OvP (W : World) (k : Int) (S : Sta) (e : Ending) (w' : World) : Prop := ∃ A c, e = .returned (.tuple #[.agg #[.slice A S.opens.length c, .int .i64 S.under, .int .i64 S.inn, .bool S.comment, .int .i64 S.start, .bool S.quoted], .int .i64 k]) ∧ Rd w' (.slice A S.opens.length c) 1 S.opens.length (zints S.opens) ∧ Below W.heap.size W w'
theorem over_in {w W : World} {p : TL} {T : Tb} {s : ByteArray} {L : List Nat} {S S1 : Sta} {k : Int} {A : Option Addr} {c i e : Nat} {x y : Int} (hT : Tabs w) (hW : Below w.heap.size w W) (h : TabAt W p T) (hs : s.size ≤ 300) (hc : charsL s.data.toList = some L) (hx : x = (i : Int)) (hy : y = (e : Int)) (hi : i ≤ e) (he : e ≤ L.length) (hr : Rd W (.slice A S.opens.length c) 1 S.opens.length (zints S.opens)) (hol : S.opens.length ≤ 1000) (hu : -9223372036854775808 ≤ S.under ∧ S.under ≤ 9223372036854775807) (h1 : (k, S1) = match overN T L (e - i) i S with | none => (12, sta0) | some S' => (0, S')) :
    Calls Tryd.prog 25 #[.pointer (some ⟨p.t, 0, none⟩),   .string s, .int .i64 x, .int .i64 y, .agg #[.slice A S.opens.length c, .int .i64 S.under, .int .i64 S.inn, .bool S.comment, .int .i64 S.start, .bool S.quoted]] W (OvP W k S1) := by
  subst hx hy
  have hz : overZ T s (i : Int) (e : Int) S = (k, S1) := by
    rw [h1]
    unfold overZ overR
    rw [hc]
    simp only []
    rw [if_neg (by omega), show ((e : Int) - (i : Int)).toNat = e - i by omega, Int.toNat_natCast]
    cases overN T L (e - i) i S <;> rfl
  refine (over_any h s (by omega) (hT.below hW) i e _ S hr hol hu).mono fun r w' => ?_
  rw [hz]
  rintro ⟨B, d, h2, h3, h4⟩
  exact ⟨B, d, h2, h3, h4⟩
/-- Ahead of the table: the state that came in, in a box. -/
structure UOt (w0 w : World) (A : Option Addr) (c : Nat) (S : Sta) : Prop where
  bel : Below w0.heap.size w0 w
  st : Blk w w0.heap.size 50 (staC (.slice A S.opens.length c) S)
  rd : Rd w (.slice A S.opens.length c) 1 S.opens.length (zints S.opens)
theorem UOt.below {w0 w w' : World} {A : Option Addr} {c : Nat} {S : Sta} (h : UOt w0 w A c S) (hb : Below w.heap.size w w') : UOt w0 w' A c S := ⟨h.bel.trans (hb.mono h.bel.size), h.st.below hb h.st.lt, h.rd.belowN hb⟩
theorem UOt.mk1 {w : World} {A : Option Addr} {c : Nat} {S : Sta} (h : Rd w (.slice A S.opens.length c) 1 S.opens.length (zints S.opens)) : UOt w (w.alloc (.cells (staC (.slice A S.opens.length c) S) 50)) A c S := ⟨below_box _ _, Blk.new _ _ _, h.belowN (below_box _ _)⟩
end Go.Proofs.YtdojcgefiekleaaDoor
