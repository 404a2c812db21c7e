/- New texts. No condition but those written. -/
import Derived.Test.YtnbhejbpofjamaaGreatDoorBgi
namespace Go.Proofs.YtnbhejbpofjamaaGreatDoor
open Go.RowKit

section
variable {W w w' : World} {b : Gb} {L : List Nat} {R : Heap}
theorem InsSt.of (h : TextAt W w b L R) (hT : Tabs W) : InsSt W b L R w := ⟨h, hT.below h.gap.own.bel⟩
/-- A text lies at tb, and reads as L. -/
def Txt (W w : World) (tb : Nat) (L : List Nat) (R : Heap) : Prop := ∃ b : Gb, b.tb = tb ∧ TextAt W w b L R
theorem insert_any {tb : Nat} (h : Txt W w tb L R) (hT : Tabs W) (x : Int) (s : ByteArray) (hs : s.size < 9223372036854775807) : Calls Tryz.prog 136 #[.pointer (some ⟨tb, 0, none⟩), .int .i64 x, .string s] w fun e w' => e = .returned (.int .i64 (insErr L x s)) ∧ Txt W w' tb (insL L x s) R := by
  obtain ⟨b, rfl, h⟩ := h
  by_cases he : insErr L x s = 0
  · have h2 := he
    unfold insErr at h2
    split at h2
    · cases h2
    · rename_i h3
      split at h2
      · cases h2
      · rename_i h4
        split at h2
        · cases h2
        · rename_i h5
          obtain ⟨a, rfl⟩ : ∃ a : Nat, x = (a : Int) + 1 := ⟨(x - 1).toNat, by omega⟩
          have hv : validS s = true := by simpa using h4
          refine (insert_ok (.of h hT) a (by omega) s hs (charsOf s) (charsOf_eq hv) (by rw [← lenS_eq]; omega)).mono ?_
          rintro e w' ⟨rfl, b', hb', ht⟩
          refine ⟨by rw [he], b', hb', ?_⟩
          unfold insL
          rw [if_pos he, show ((a : Int) + 1 - 1).toNat = a by omega]
          exact ht
  · refine (insert_bad (.of h hT) x s hs he).mono ?_
    rintro e w' ⟨rfl, ht⟩
    refine ⟨rfl, b, rfl, ?_⟩
    unfold insL
    rw [if_neg he]
    exact ht.1
/-- A text of nothing. -/
theorem gap_new (h : Own W w R) : TextAt W ((w.alloc (.cells #[] 21)).alloc (.cells #[.slice (some ⟨w.heap.size, 0, none⟩) 0 0, .int .i64 0, .int .i64 0, .slice none 0 0] 164)) ⟨w.heap.size + 1, w.heap.size, 0, 0, .slice none 0 0, ⟨[], 0, 0, []⟩⟩ [] R := by
  have hs : Sl (w.alloc (.cells #[] 21)) 21 1 (.slice (some ⟨w.heap.size, 0, none⟩) 0 0) 0 (runs []) := by
    have := Sl.new w 21 1 #[] 0 0 (Nat.le_refl _) (by unfold maxLen; omega) (by simp)
    exact this
  have h1 := h.new (.cells #[] 21) (a := .row 21 1 (.slice (some ⟨w.heap.size, 0, none⟩) 0 0) 0 (runs [])) ⟨rfl, hs⟩
  have h2 := h1.newCells 164 #[.slice (some ⟨w.heap.size, 0, none⟩) 0 0, .int .i64 0, .int .i64 0, .slice none 0 0]
  rw [show (w.alloc (.cells #[] 21)).heap.size = w.heap.size + 1 from Array.size_push ..] at h2
  refine ⟨⟨h2, RowOk.nil, Nat.le_refl _, Nat.le_refl _, Nat.zero_le _⟩, ⟨Nat.le_refl _, Nat.le_refl _, Nat.zero_le _, rfl, rfl, Nat.zero_le _, fun c hc => by simp at hc⟩⟩
def NewRes (W : World) (s : ByteArray) (R : Heap) (e : Ending) (w' : World) : Prop :=
  (validS s = false ∧ e = .returned (.tuple #[.pointer none, .int .i64 5]) ∧ Own W w' R) ∨
  (validS s = true ∧ ∃ tb, e = .returned (.tuple #[.pointer (some ⟨tb, 0, none⟩), .int .i64 (insErr [] 1 s)]) ∧ Txt W w' tb (insL [] 1 s) R)
set_option maxRecDepth 100000 in
set_option maxHeartbeats 4000000 in
theorem new_any (h : Own W w R) (hT : Tabs W) (s : ByteArray) (hs : s.size < 9223372036854775807) : Calls Tryz.prog 94 #[.string s] w (NewRes W s R) := by
  have HV := hide (valid_any s w (by omega) (hT.below h.bel))
  have H := hide h
  have HT := hide hT
  have HS := hide hs
  clear h hT hs
  cases hv : validS s with
  | false =>
    rw [hv] at HV
    have HVV := hide hv
    clear hv
    go_enter Tryz.func94, Tryz.ntmps94
    go_wp2_with fail
    refine (Calls.mono (HV.out)) ?_
    rintro r w2 ⟨rfl, hb⟩
    have HB := hide hb
    clear hb HV
    go_wp2
    go_ret2
    exact .inl ⟨HVV.out, rfl, H.out.below HB.out⟩
  | true =>
    rw [hv] at HV
    have HVV := hide hv
    clear hv
    go_enter Tryz.func94, Tryz.ntmps94
    go_wp2_with fail
    refine (Calls.mono (HV.out)) ?_
    rintro r w2 ⟨rfl, hb⟩
    have HG := hide (gap_new (H.out.below hb))
    clear hb HV H
    go_wp2_with fail
    refine Calls.mono (insert_any (tb := w2.heap.size + 1) ⟨_, rfl, HG.out⟩ HT.out 1 s HS.out) ?_
    rintro r w3 ⟨rfl, h3⟩
    have H3 := hide h3
    clear h3
    go_wp2
    go_ret2
    exact .inr ⟨HVV.out, _, rfl, H3.out⟩
end
end Go.Proofs.YtnbhejbpofjamaaGreatDoor
