/- The walk of Insert. No condition but those written. -/
import Derived.Test.YtbljppcaikhjhaaDoorGapG
namespace Go.Proofs.YtbljppcaikhjhaaDoor
open Go.RowKit

theorem iterPos_of {w : World} {g p : Nat} {s : ByteArray} (h : w.heap[g]? = some (.stringIter s p)) : w.iterPos g = p := by simp [World.iterPos, h]
theorem ins_any (F X : List Nat) (i : Nat) (v u : Value) (w : World) (h : IntSl w v F) (hx : IntSl w u X) (hne : ∀ g, v.ownBlock = some g → u.ownBlock ≠ some g) (hi : i ≤ F.length) (hl : F.length ≤ 1000000) (hX : X.length ≤ 1000000) :
    Calls Tryd.prog 43 #[v, .int .i64 (i : Int), u] w (InsRes w v (F.take i ++ X ++ F.drop i)) := by
  by_cases h0 : 0 < X.length
  · exact ins_some F X i v u w h hx hne hi hl hX h0
  · obtain rfl : X = [] := List.eq_nil_of_length_eq_zero (by omega)
    obtain ⟨A, c, rfl, _⟩ := hx.form
    exact ins_none F i v A c w h hi hl
theorem rows_apart {W w : World} {L : Heap} {T : TypeId} {v u : Value} {n m : Nat} {xs ys : List Value} (h : Own W w (rowOf T 1 v n xs ++ (rowOf T 1 u m ys ++ L))) : ∀ g, v.ownBlock = some g → u.ownBlock ≠ some g := by
  intro g hv hu
  have := h.nod
  rw [rowOf_some hv, rowOf_some hu] at this
  simp [Heap.blocks] at this
section
variable {W w w' : World} {b : Gb} {L : List Nat} {R : Heap}
/-- A text, and the tables of the library. -/
def InsSt (W : World) (b : Gb) (L : List Nat) (R : Heap) (w : World) : Prop := TextAt W w b L R ∧ Tabs w
theorem InsSt.below (h : InsSt W b L R w) (hb : Below w.heap.size w w') : InsSt W b L R w' := ⟨⟨h.1.gap.below hb, h.1.ok⟩, h.2.below hb⟩
theorem InsSt.none_ (h : InsSt W b L R w) : Calls Tryd.prog 37 #[.pointer (some ⟨b.tb, 0, none⟩)] w fun e w' => e = .returned (.bool false) ∧ InsSt W b L R w' :=
  (none_any h.1.gap).mono fun e w' hh => ⟨hh.1, hh.2 ▸ h⟩
theorem InsSt.size_ (h : InsSt W b L R w) : Calls Tryd.prog 16 #[.pointer (some ⟨b.tb, 0, none⟩)] w fun e w' => e = .returned (.int .i64 (L.length : Int)) ∧ InsSt W b L R w' :=
  (size_any h.1).mono fun e w' hh => ⟨hh.1, by obtain ⟨q, rfl⟩ := hh.2; exact h.below (below_drewN (Below.refl _ _) q)⟩
theorem InsSt.valid_ (h : InsSt W b L R w) (s : ByteArray) (hs : s.size < 9223372036854775807) : Calls Tryd.prog 36 #[.string s] w fun e w' => e = .returned (.bool (validS s)) ∧ InsSt W b L R w' :=
  (valid_any s w (by omega) h.2).mono fun e w' hh => ⟨hh.1, h.below hh.2⟩
theorem InsSt.len_ (h : InsSt W b L R w) (s : ByteArray) (hs : s.size < 9223372036854775807) : Calls Tryd.prog 39 #[.string s] w fun e w' => e = .returned (.int .i64 (lenS s : Int)) ∧ InsSt W b L R w' :=
  (len_any s w hs h.2).mono fun e w' hh => ⟨hh.1, h.below hh.2⟩

set_option maxRecDepth 100000 in
set_option maxHeartbeats 4000000 in
theorem insert_bad (h : InsSt W b L R w) (a : Int) (s : ByteArray) (hs : s.size < 9223372036854775807) (he : insErr L a s ≠ 0) : Calls Tryd.prog 21 #[.pointer (some ⟨b.tb, 0, none⟩), .int .i64 a, .string s] w fun e w' => e = .returned (.int .i64 (insErr L a s)) ∧ InsSt W b L R w' := by
  have H := hide h
  have hsz := h.1.ok.size
  have HLs := hide (show lenS s ≤ s.size from lenS_le s)
  have hls : lenS s < 9223372036854775807 := by have := lenS_le s; omega
  have HSZ := hide hs
  have hwl : IntKind.i64.wrap ((L.length : Int) + 1) = (L.length : Int) + 1 := IntWalk.i64_in _ (by omega)
  clear h
  by_cases h1 : a < 1
  · have HE := hide (show insErr L a s = 3 by unfold insErr; rw [if_pos (.inl h1)])
    have z1 : decide (a < 1) = true := by simpa using h1
    clear he h1
    go_enter Tryd.func21, Tryd.ntmps21
    go_wp2_with fail
    refine (Calls.mono (H.out.none_)) ?_
    rintro r w2 ⟨rfl, H2⟩
    have HH := hide H2
    clear H2
    go_wp2
    go_ret
    exact ⟨by rw [HE.out]; rfl, HH.out⟩
  · have z1 : decide (a < 1) = false := by simpa using h1
    by_cases h2 : (L.length : Int) + 1 < a
    · have HE := hide (show insErr L a s = 3 by unfold insErr; rw [if_pos (.inr h2)])
      have z2 : decide ((L.length : Int) + 1 < a) = true := by simpa using h2
      clear he h1 h2
      go_enter Tryd.func21, Tryd.ntmps21
      go_wp2_with fail
      refine (Calls.mono (H.out.none_)) ?_
      rintro r w2 ⟨rfl, H2⟩
      have HH := hide H2
      clear H2
      go_wp2_with fail
      refine (Calls.mono (HH.out.size_)) ?_
      rintro r w3 ⟨rfl, H3⟩
      have HH3 := hide H3
      clear H3
      go_wp2
      go_ret
      exact ⟨by rw [HE.out]; rfl, HH3.out⟩
    · have z2 : decide ((L.length : Int) + 1 < a) = false := by simpa using h2
      by_cases h3 : validS s = true
      · obtain ⟨n, hn⟩ : ∃ n, n = lenS s := ⟨_, rfl⟩
        have h4 : 65536 < L.length + n := by
          unfold insErr at he
          rw [if_neg (by omega), if_neg (by simp [h3]), ← hn] at he
          by_cases h4 : 65536 < L.length + n
          · exact h4
          · exact absurd (if_neg h4) he
        have HE := hide (show insErr L a s = 4 by unfold insErr; rw [if_neg (by omega), if_neg (by simp [h3]), ← hn, if_pos h4])
        have z4 : decide ((65536 : Int) - (L.length : Int) < (n : Int)) = true := by simp; omega
        have hw4 : IntKind.i64.wrap ((65536 : Int) - (L.length : Int)) = (65536 : Int) - (L.length : Int) := IntWalk.i64_in _ (by omega)
        have HV := hide (fun (w2 : World) (h2 : InsSt W b L R w2) => (show Calls Tryd.prog 36 #[.string s] w2 (fun e w' => e = .returned (.bool true) ∧ InsSt W b L R w') from h3 ▸ h2.valid_ s hs))
        have HL := hide (fun (w2 : World) (h2 : InsSt W b L R w2) => (show Calls Tryd.prog 39 #[.string s] w2 (fun e w' => e = .returned (.int .i64 (n : Int)) ∧ InsSt W b L R w') from hn ▸ h2.len_ s hs))
        rw [← hn] at hls
        clear he h1 h2 h3 h4 hn
        go_enter Tryd.func21, Tryd.ntmps21
        go_wp2_with fail
        refine (Calls.mono (H.out.none_)) ?_
        rintro r w2 ⟨rfl, H2⟩
        have HH := hide H2
        clear H2
        go_wp2_with fail
        refine (Calls.mono (HH.out.size_)) ?_
        rintro r w3 ⟨rfl, H3⟩
        have HH3 := hide H3
        clear H3
        go_wp2_with fail
        refine (Calls.mono (HV.out _ HH3.out)) ?_
        rintro r w4 ⟨rfl, H4⟩
        have HH4 := hide H4
        clear H4
        go_wp2_with fail
        refine (Calls.mono (HL.out _ HH4.out)) ?_
        rintro r w5 ⟨rfl, H5⟩
        have HH5 := hide H5
        clear H5
        go_wp2_with fail
        refine (Calls.mono (HH5.out.size_)) ?_
        rintro r w6 ⟨rfl, H6⟩
        have HH6 := hide H6
        clear H6
        go_wp2
        go_ret
        exact ⟨by rw [HE.out]; rfl, HH6.out⟩
      · have h3 : validS s = false := by simpa using h3
        have HE := hide (show insErr L a s = 5 by unfold insErr; rw [if_neg (by omega), if_pos h3])
        have HV := hide (fun (w2 : World) (h2 : InsSt W b L R w2) => (show Calls Tryd.prog 36 #[.string s] w2 (fun e w' => e = .returned (.bool false) ∧ InsSt W b L R w') from h3 ▸ h2.valid_ s hs))
        clear he h1 h2 h3
        go_enter Tryd.func21, Tryd.ntmps21
        go_wp2_with fail
        refine (Calls.mono (H.out.none_)) ?_
        rintro r w2 ⟨rfl, H2⟩
        have HH := hide H2
        clear H2
        go_wp2_with fail
        refine (Calls.mono (HH.out.size_)) ?_
        rintro r w3 ⟨rfl, H3⟩
        have HH3 := hide H3
        clear H3
        go_wp2_with fail
        refine (Calls.mono (HV.out _ HH3.out)) ?_
        rintro r w4 ⟨rfl, H4⟩
        have HH4 := hide H4
        clear H4
        go_wp2
        go_ret
        exact ⟨by rw [HE.out]; rfl, HH4.out⟩
end
end Go.Proofs.YtbljppcaikhjhaaDoor
