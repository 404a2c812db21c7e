/- The methods of a text, and the chapter's examples. No condition but those written. -/
import Derived.Test.YtbljppcaikhjhaaDoorGapM
namespace Go.Proofs.YtbljppcaikhjhaaDoor
open Go.RowKit

section
variable {W w w' : World} {tb : Nat} {L : List Nat} {R : Heap}
theorem Txt.drewN (h : Txt W w tb L R) (q : Nat) : Txt W (w.drewN q) tb L R := by
  obtain ⟨b, e, h⟩ := h
  exact ⟨b, e, h.gap.drewN q, h.ok⟩
theorem Txt.below (h : Txt W w tb L R) (hb : Below w.heap.size w w') : Txt W w' tb L R := by
  obtain ⟨b, e, h⟩ := h
  exact ⟨b, e, h.gap.below hb, h.ok⟩
theorem Txt.ok (h : Txt W w tb L R) : L.length ≤ 65536 ∧ ∀ c ∈ L, okc c := by
  obtain ⟨b, e, h⟩ := h
  exact ⟨h.ok.size, h.ok.okc⟩
theorem Txt.bel (h : Txt W w tb L R) : Below W.heap.size W w := by
  obtain ⟨b, e, h⟩ := h
  exact h.gap.own.bel
theorem txt_of {f : FuncId} {args : Array Value} {v : Value} (h : Txt W w tb L R) (hc : Calls Tryd.prog f args w (DrawsTo w v)) : Calls Tryd.prog f args w fun e w' => e = .returned v ∧ Txt W w' tb L R := by
  refine hc.mono ?_
  rintro e w' ⟨rfl, q, rfl⟩
  exact ⟨rfl, h.drewN q⟩
theorem size_txt (h : Txt W w tb L R) : Calls Tryd.prog 16 #[.pointer (some ⟨tb, 0, none⟩)] w fun e w' => e = .returned (.int .i64 (L.length : Int)) ∧ Txt W w' tb L R := by
  have h0 := h
  obtain ⟨b, rfl, h⟩ := h
  exact txt_of h0 (size_any h)
theorem all_txt (h : Txt W w tb L R) : Calls Tryd.prog 20 #[.pointer (some ⟨tb, 0, none⟩)] w fun e w' => e = .returned (.string (strOf L)) ∧ Txt W w' tb L R := by
  have h0 := h
  obtain ⟨b, rfl, h⟩ := h
  exact txt_of h0 (all_any h)
theorem slice_txt (h : Txt W w tb L R) (x y : Int) : Calls Tryd.prog 15 #[.pointer (some ⟨tb, 0, none⟩), .int .i64 x, .int .i64 y] w fun e w' => e = .returned (sliceR L x y) ∧ Txt W w' tb L R := by
  have h0 := h
  obtain ⟨b, rfl, h⟩ := h
  exact txt_of h0 (slice_any h x y)
theorem char_txt (h : Txt W w tb L R) (x : Int) : Calls Tryd.prog 26 #[.pointer (some ⟨tb, 0, none⟩), .int .i64 x] w fun e w' => e = .returned (.tuple #[.int .i64 (charR L x), .bool (decide (1 ≤ x ∧ x ≤ (L.length : Int)))]) ∧ Txt W w' tb L R := by
  have h0 := h
  obtain ⟨b, rfl, h⟩ := h
  exact txt_of h0 (char_any h x)
theorem line_txt (h : Txt W w tb L R) (x : Int) : Calls Tryd.prog 28 #[.pointer (some ⟨tb, 0, none⟩), .int .i64 x] w fun e w' => e = .returned (lineR L x) ∧ Txt W w' tb L R := by
  have h0 := h
  obtain ⟨b, rfl, h⟩ := h
  exact txt_of h0 (line_any h x)
theorem lines_txt (h : Txt W w tb L R) : Calls Tryd.prog 27 #[.pointer (some ⟨tb, 0, none⟩)] w fun e w' => e = .returned (.int .i64 (linesN L : Int)) ∧ Txt W w' tb L R := by
  have h0 := h
  obtain ⟨b, rfl, h⟩ := h
  refine (lines_any h).mono ?_
  rintro e w' ⟨rfl, rfl⟩
  exact ⟨rfl, h0⟩
theorem find_txt (h : Txt W w tb L R) (c lo hi : Int) : Calls Tryd.prog 24 #[.pointer (some ⟨tb, 0, none⟩), .int .i64 c, .int .i64 lo, .int .i64 hi] w fun e w' => ∃ v, e = .returned v ∧ FirstAt L c (max lo 1) (min hi ((L.length : Int) + 1)) v ∧ Txt W w' tb L R := by
  have h0 := h
  obtain ⟨b, rfl, h⟩ := h
  refine (find_any h c lo hi).mono ?_
  rintro e w' ⟨v, rfl, hv, q, rfl⟩
  exact ⟨v, rfl, hv, h0.drewN q⟩
theorem findback_txt (h : Txt W w tb L R) (c lo hi : Int) : Calls Tryd.prog 25 #[.pointer (some ⟨tb, 0, none⟩), .int .i64 c, .int .i64 lo, .int .i64 hi] w fun e w' => ∃ v, e = .returned v ∧ LastAt L c (max lo 1) (min (max hi 1) ((L.length : Int) + 1)) v ∧ Txt W w' tb L R := by
  have h0 := h
  obtain ⟨b, rfl, h⟩ := h
  refine (findback_any h c lo hi).mono ?_
  rintro e w' ⟨v, rfl, hv, q, rfl⟩
  exact ⟨v, rfl, hv, h0.drewN q⟩
def sAbc : ByteArray := ⟨#[97, 98, 99]⟩
def sX : ByteArray := ⟨#[120]⟩
/-- New, at a text that is valid and not too long. -/
theorem new_ok (h : Own W w R) (hT : Tabs W) (s : ByteArray) (hs : s.size < 9223372036854775807) (hv : validS s = true) (he : insErr [] 1 s = 0) : Calls Tryd.prog 14 #[.string s] w fun e w' => ∃ tb, e = .returned (.tuple #[.pointer (some ⟨tb, 0, none⟩), .int .i64 0]) ∧ Txt W w' tb (charsOf s) R := by
  refine (new_any h hT s hs).mono ?_
  rintro e w' (⟨h1, _⟩ | ⟨_, tb, rfl, ht⟩)
  · rw [hv] at h1
    cases h1
  · refine ⟨tb, by rw [he], ?_⟩
    unfold insL at ht
    rw [if_pos he] at ht
    simpa using ht
theorem lives_in {L' : List Nat} {x : Int} {s : ByteArray} (h : Txt W w tb L R) (hT : Tabs W) (hs : s.size < 9223372036854775807) (e1 : insErr L x s = 0) (e2 : insL L x s = L') : Calls Tryd.prog 21 #[.pointer (some ⟨tb, 0, none⟩), .int .i64 x, .string s] w fun e w' => e = .returned (.int .i64 0) ∧ Txt W w' tb L' R := by
  have := insert_any h hT x s hs
  rwa [e1, e2] at this
theorem lives_del {L' : List Nat} {x y : Int} (h : Txt W w tb L R) (e1 : delErr L x y = 0) (e2 : delL L x y = L') : Calls Tryd.prog 22 #[.pointer (some ⟨tb, 0, none⟩), .int .i64 x, .int .i64 y] w fun e w' => e = .returned (.int .i64 0) ∧ Txt W w' tb L' R := by
  have := delete_any h x y
  rwa [e1, e2] at this
theorem lives_all {s : ByteArray} (h : Txt W w tb L R) (e1 : strOf L = s) : Calls Tryd.prog 20 #[.pointer (some ⟨tb, 0, none⟩)] w fun e w' => e = .returned (.string s) ∧ Txt W w' tb L R := by
  have := all_txt h
  rwa [e1] at this
end
set_option maxRecDepth 100000 in
set_option maxHeartbeats 4000000 in
theorem lives_any (w : World) (hT : Tabs w) : Calls Tryd.prog 11 #[] w fun e w' => e = .returned (.bool true) ∧ Below w.heap.size w w' := by
  have HT := hide hT
  have HNEW := hide (show Calls Tryd.prog 14 #[.string ⟨#[97, 98, 99]⟩] w (fun e w' => ∃ tb, e = .returned (.tuple #[.pointer (some ⟨tb, 0, none⟩), .int .i64 0]) ∧ Txt w w' tb [97, 98, 99] []) from new_ok (Own.refl w) hT ⟨#[97, 98, 99]⟩ (by decide) (by kernel_rfl) (by kernel_rfl))
  clear hT
  go_enter Tryd.func11, Tryd.ntmps11
  go_wp2_with fail
  refine (Calls.mono (HNEW.out)) ?_
  rintro r w2 ⟨tb, rfl, h2⟩
  have H2 := hide h2
  clear h2 HNEW
  go_wp2_with fail
  refine Calls.mono (lives_in (L' := [97, 120, 98, 99]) H2.out HT.out (by decide) (by kernel_rfl) (by kernel_rfl)) ?_
  rintro r w3 ⟨rfl, h3⟩
  have H3 := hide h3
  clear h3 H2
  go_wp2_with fail
  refine Calls.mono (lives_del (L' := [97, 120, 99]) H3.out (by kernel_rfl) (by kernel_rfl)) ?_
  rintro r w4 ⟨rfl, h4⟩
  have H4 := hide h4
  clear h4 H3
  go_wp2_with fail
  refine Calls.mono (lives_all (s := ⟨#[97, 120, 99]⟩) H4.out (by kernel_rfl)) ?_
  rintro r w5 ⟨rfl, h5⟩
  have H5 := hide h5
  clear h5 H4
  go_wp2_with fail
  refine Calls.mono (size_txt H5.out) ?_
  rintro r w6 ⟨rfl, h6⟩
  have H6 := hide h6
  clear h6 H5
  go_wp2
  go_ret
  exact ⟨rfl, H6.out.bel⟩
end Go.Proofs.YtbljppcaikhjhaaDoor
