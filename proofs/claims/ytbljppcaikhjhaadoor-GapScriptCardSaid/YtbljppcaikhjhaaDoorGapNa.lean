/- GapNames: the walk. No condition but those written. -/
import Derived.Test.YtbljppcaikhjhaaDoorGapFu
namespace Go.Proofs.YtbljppcaikhjhaaDoor
open Go.RowKit

section
variable {W w w' : World} {tb : Nat} {L : List Nat} {R : Heap}
theorem lineat_txt (h : Txt W w tb L R) (x : Int) : Calls Tryd.prog 29 #[.pointer (some ⟨tb, 0, none⟩), .int .i64 x] w fun e w' => e = .returned (if 1 ≤ x ∧ x ≤ (L.length : Int) + 1 then .tuple #[.int .i64 (lineOf L x.toNat : Int), .bool true] else .tuple #[.int .i64 0, .bool false]) ∧ Txt W w' tb L R := by
  have h0 := h
  obtain ⟨b, rfl, h⟩ := h
  exact txt_of h0 (lineat_any h x)
theorem lines_same (h : Txt W w tb L R) : Calls Tryd.prog 27 #[.pointer (some ⟨tb, 0, none⟩)] w fun e w' => e = .returned (.int .i64 (linesN L : Int)) ∧ w = w' := by
  obtain ⟨b, rfl, h⟩ := h
  exact lines_any h
end
theorem new_lit (w : World) (hT : Tabs w) (s : ByteArray) (L : List Nat) (hs : s.size < 1000) (hv : validS s = true) (he : insErr [] 1 s = 0) (hL : charsOf s = L) : Calls Tryd.prog 14 #[.string s] w fun e w' => ∃ tb, e = .returned (.tuple #[.pointer (some ⟨tb, 0, none⟩), .int .i64 0]) ∧ Txt w w' tb L [] := by
  subst hL
  exact new_ok (Own.refl w) hT s (by omega) hv he
theorem new_ff (w : World) (hT : Tabs w) : Calls Tryd.prog 14 #[.string ⟨#[255]⟩] w fun e w' => e = .returned (.tuple #[.pointer none, .int .i64 5]) ∧ Below w.heap.size w w' := by
  refine (new_any (Own.refl w) hT ⟨#[255]⟩ (by decide)).mono ?_
  rintro e w' (⟨_, rfl, h⟩ | ⟨hv, _⟩)
  · exact ⟨rfl, h.bel⟩
  · exact absurd hv (by rw [show validS ⟨#[255]⟩ = false by kernel_rfl]; simp)
theorem new_long (w : World) (hT : Tabs w) (s : ByteArray) (hs : s.size < 1000000) (hv : validS s = true) (hl : 65536 < lenS s) : Calls Tryd.prog 14 #[.string s] w fun e w' => ∃ tb, e = .returned (.tuple #[.pointer (some ⟨tb, 0, none⟩), .int .i64 4]) ∧ Below w.heap.size w w' := by
  refine (new_any (Own.refl w) hT s (by omega)).mono ?_
  rintro e w' (⟨h, _⟩ | ⟨_, tb, rfl, h⟩)
  · rw [hv] at h
    cases h
  · refine ⟨tb, ?_, h.bel⟩
    rw [show insErr [] 1 s = 4 by unfold insErr; rw [if_neg (by simp), if_neg (by simp [hv]), if_pos (by simp; omega)]]
theorem Txt.on {W w w' : World} {tb : Nat} {L : List Nat} {R : Heap} (h : Txt W w tb L R) (hb : Below w.heap.size w w') : Txt W w' tb L R := h.below hb
theorem fst_lit : Fst [233, 8364, 128512] 8364 (-5) 99 ((([233, 8364, 128512] : List Nat).length : Int) + 1) 2 := by
  refine .inr ⟨by omega, by simp, ⟨by decide, by omega, by omega⟩, fun q h1 h2 hh => ?_⟩
  obtain rfl : q = 1 := by omega
  exact absurd hh.1 (by decide)
theorem lst_lit : Lst [233, 8364, 128512] 120 1 4 ((([233, 8364, 128512] : List Nat).length : Int) + 1) 0 := by
  refine .inl ⟨rfl, fun q h1 h2 hh => ?_⟩
  have : q = 1 ∨ q = 2 ∨ q = 3 := by simp at h2; omega
  rcases this with rfl | rfl | rfl <;> exact absurd hh.1 (by decide)
set_option maxRecDepth 100000 in
set_option maxHeartbeats 16000000 in
theorem names_walk (w : World) (hT : Tabs w) : Calls Tryd.prog 8 #[] w fun e w' => e = .returned (.bool true) ∧ Below w.heap.size w w' := by
  have HT := hide hT
  have HN1 := hide (new_lit w hT ⟨#[97, 10, 98]⟩ [97, 10, 98] (by decide) (by kernel_rfl) (by kernel_rfl) (by kernel_rfl))
  have HTI := hide (fun w => times_any ⟨#[120]⟩ 65537 w (by omega) (by decide))
  obtain ⟨Y, hY⟩ : ∃ Y, Y = timesB ⟨#[120]⟩ 65537 := ⟨_, rfl⟩
  rw [← hY] at HTI
  have HNY := hide (fun (w2 : World) (h2 : Tabs w2) => new_long w2 h2 Y (by rw [hY, size_x]; omega) (by rw [hY]; exact valid_x _) (by rw [hY, len_x]; omega))
  clear hT hY
  go_enter Tryd.func8, Tryd.ntmps8
  go_wp2_with fail
  refine (Calls.mono (HN1.out)) ?_
  rintro r w1 ⟨t, rfl, h1⟩
  have H1 := hide h1
  have HF := hide (new_ff w1 (HT.out.below h1.bel))
  clear h1 HN1
  go_wp2_with fail
  refine (Calls.mono (HF.out)) ?_
  rintro r w2 ⟨rfl, h2⟩
  have H2 := hide (H1.out.below h2)
  clear h2 HF H1
  go_wp2_with fail
  refine Calls.mono (HTI.out _) ?_
  rintro r w3 ⟨rfl, rfl⟩
  go_wp2_with fail
  refine (Calls.mono (HNY.out _ (HT.out.below H2.out.bel))) ?_
  rintro r w4 ⟨t3, rfl, h4⟩
  have H4 := hide (H2.out.below h4)
  clear h4 H2 HTI HNY
  go_wp2_with fail
  refine (Calls.mono (lives_any w4 (HT.out.below H4.out.bel))) ?_
  rintro r w5 ⟨rfl, h5⟩
  have H5 := hide (H4.out.below h5)
  clear h5 H4
  go_wp2_with fail
  refine Calls.mono (show Calls Tryd.prog 28 #[.pointer (some ⟨t, 0, none⟩), .int .i64 2] w5 (fun e w' => e = .returned (.tuple #[.int .i64 3, .int .i64 4, .bool true]) ∧ Txt w w' t [97, 10, 98] []) from (show lineR [97, 10, 98] 2 = .tuple #[.int .i64 3, .int .i64 4, .bool true] by kernel_rfl) ▸ line_txt H5.out 2) ?_
  rintro r w6 ⟨rfl, h6⟩
  have H6 := hide h6
  clear h6 H5
  go_wp2_with fail
  refine Calls.mono (show Calls Tryd.prog 29 #[.pointer (some ⟨t, 0, none⟩), .int .i64 2] w6 (fun e w' => e = .returned (.tuple #[.int .i64 1, .bool true]) ∧ Txt w w' t [97, 10, 98] []) from by have := lineat_txt H6.out 2; rw [if_pos (by simp)] at this; exact this) ?_
  rintro r w7 ⟨rfl, h7⟩
  have H7 := hide h7
  clear h7 H6
  go_wp2_with fail
  refine Calls.mono (show Calls Tryd.prog 28 #[.pointer (some ⟨t, 0, none⟩), .int .i64 3] w7 (fun e w' => e = .returned (.tuple #[.int .i64 0, .int .i64 0, .bool false]) ∧ Txt w w' t [97, 10, 98] []) from (show lineR [97, 10, 98] 3 = .tuple #[.int .i64 0, .int .i64 0, .bool false] by kernel_rfl) ▸ line_txt H7.out 3) ?_
  rintro r w8 ⟨rfl, h8⟩
  have H8 := hide h8
  clear h8 H7
  go_wp2_with fail
  refine (Calls.mono (new_lit w8 (HT.out.below H8.out.bel) ⟨#[195, 169, 226, 130, 172, 240, 159, 152, 128]⟩ [233, 8364, 128512] (by decide) (by kernel_rfl) (by kernel_rfl) (by kernel_rfl))) ?_
  rintro r w9 ⟨u, rfl, h9⟩
  have H9 := hide h9
  clear h9
  go_wp2_with fail
  refine Calls.mono (show Calls Tryd.prog 26 #[.pointer (some ⟨u, 0, none⟩), .int .i64 3] w9 (fun e w' => e = .returned (.tuple #[.int .i64 128512, .bool true]) ∧ Txt w8 w' u [233, 8364, 128512] []) from char_txt H9.out 3) ?_
  rintro r w10 ⟨rfl, h10⟩
  have H10 := hide h10
  clear h10 H9
  go_wp2_with fail
  refine Calls.mono (show Calls Tryd.prog 15 #[.pointer (some ⟨u, 0, none⟩), .int .i64 2, .int .i64 3] w10 (fun e w' => e = .returned (.tuple #[.string ⟨#[226, 130, 172]⟩, .int .i64 0]) ∧ Txt w8 w' u [233, 8364, 128512] []) from (show sliceR [233, 8364, 128512] 2 3 = .tuple #[.string ⟨#[226, 130, 172]⟩, .int .i64 0] by kernel_rfl) ▸ slice_txt H10.out 2 3) ?_
  rintro r w11 ⟨rfl, h11⟩
  have H11 := hide h11
  clear h11 H10
  go_wp2_with fail
  refine Calls.mono (show Calls Tryd.prog 24 #[.pointer (some ⟨u, 0, none⟩), .int .i64 8364, .int .i64 (-5), .int .i64 99] w11 (fun e w' => e = .returned (.tuple #[.int .i64 2, .bool true]) ∧ Txt w8 w' u [233, 8364, 128512] []) from (find_txt H11.out 8364 (-5) 99).mono fun e w' hh => by obtain ⟨v, rfl, hv, ht⟩ := hh; exact ⟨by rw [first_eq hv fst_lit]; rfl, ht⟩) ?_
  rintro r w12 ⟨rfl, h12⟩
  have H12 := hide h12
  clear h12 H11
  go_wp2_with fail
  refine Calls.mono (show Calls Tryd.prog 25 #[.pointer (some ⟨u, 0, none⟩), .int .i64 120, .int .i64 1, .int .i64 4] w12 (fun e w' => e = .returned (.tuple #[.int .i64 0, .bool false]) ∧ Txt w8 w' u [233, 8364, 128512] []) from (findback_txt H12.out 120 1 4).mono fun e w' hh => by obtain ⟨v, rfl, hv, ht⟩ := hh; exact ⟨by rw [last_eq hv lst_lit]; rfl, ht⟩) ?_
  rintro r w13 ⟨rfl, h13⟩
  have H13 := hide h13
  clear h13 H12
  go_wp2_with fail
  refine Calls.mono (show Calls Tryd.prog 27 #[.pointer (some ⟨t, 0, none⟩)] w13 (fun e w' => e = .returned (.int .i64 2) ∧ w13 = w') from lines_same (H8.out.below H13.out.bel)) ?_
  rintro r w14 ⟨rfl, rfl⟩
  go_wp2_with fail
  refine Calls.mono (show Calls Tryd.prog 16 #[.pointer (some ⟨u, 0, none⟩)] w13 (fun e w' => e = .returned (.int .i64 3) ∧ Txt w8 w' u [233, 8364, 128512] []) from size_txt H13.out) ?_
  rintro r w15 ⟨rfl, h15⟩
  have H15 := hide h15
  clear h15 H13
  go_wp2_with fail
  refine Calls.mono (show Calls Tryd.prog 21 #[.pointer (some ⟨u, 0, none⟩), .int .i64 5, .string ⟨#[]⟩] w15 (fun e w' => e = .returned (.int .i64 3) ∧ Txt w8 w' u [233, 8364, 128512] []) from insert_any H15.out (HT.out.below H8.out.bel) 5 ⟨#[]⟩ (by decide)) ?_
  rintro r w16 ⟨rfl, h16⟩
  have H16 := hide h16
  clear h16 H15
  go_wp2_with fail
  refine Calls.mono (show Calls Tryd.prog 21 #[.pointer (some ⟨u, 0, none⟩), .int .i64 5, .string ⟨#[255]⟩] w16 (fun e w' => e = .returned (.int .i64 3) ∧ Txt w8 w' u [233, 8364, 128512] []) from insert_any H16.out (HT.out.below H8.out.bel) 5 ⟨#[255]⟩ (by decide)) ?_
  rintro r w17 ⟨rfl, h17⟩
  have H17 := hide h17
  clear h17 H16
  go_wp2_with fail
  refine Calls.mono (show Calls Tryd.prog 21 #[.pointer (some ⟨u, 0, none⟩), .int .i64 4, .string ⟨#[255]⟩] w17 (fun e w' => e = .returned (.int .i64 5) ∧ Txt w8 w' u [233, 8364, 128512] []) from by
    have := insert_any H17.out (HT.out.below H8.out.bel) 4 ⟨#[255]⟩ (by decide)
    rwa [show insErr [233, 8364, 128512] 4 ⟨#[255]⟩ = 5 by kernel_rfl, show insL [233, 8364, 128512] 4 ⟨#[255]⟩ = [233, 8364, 128512] by kernel_rfl] at this) ?_
  rintro r w18 ⟨rfl, h18⟩
  have H18 := hide h18
  clear h18 H17
  go_wp2_with fail
  refine Calls.mono (show Calls Tryd.prog 22 #[.pointer (some ⟨u, 0, none⟩), .int .i64 3, .int .i64 2] w18 (fun e w' => e = .returned (.int .i64 3) ∧ Txt w8 w' u [233, 8364, 128512] []) from delete_any H18.out 3 2) ?_
  rintro r w19 ⟨rfl, h19⟩
  have H19 := hide h19
  clear h19 H18
  go_wp2
  go_ret
  exact ⟨rfl, H8.out.bel.trans (H19.out.bel.mono H8.out.bel.size)⟩
end Go.Proofs.YtbljppcaikhjhaaDoor
