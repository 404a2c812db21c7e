/- same: a text and the reference answer alike. No condition but those written. -/
import Derived.Test.YtbljppcaikhjhaaDoorRb
namespace Go.Proofs.YtbljppcaikhjhaaDoor
open Go.RowKit

section
variable {W w : World} {tb rb : Nat} {L : List Nat} {R : Heap}
set_option maxRecDepth 100000 in
set_option maxHeartbeats 16000000 in
theorem same_any (h : BothG W w tb L rb L R) (x y c : Int) : Calls Tryd.prog 33 #[.pointer (some ⟨tb, 0, none⟩), .pointer (some ⟨rb, 0, none⟩), .int .i64 x, .int .i64 y, .int .i64 c] w fun e w' => e = .returned (.bool true) ∧ BothG W w' tb L rb L R := by
  have H0 := hide h
  have h6 := h.ok.1
  have hok := h.ok.2
  obtain ⟨ca, hca⟩ : ∃ ca, ca = charR L x := ⟨_, rfl⟩
  obtain ⟨cb, hcb⟩ : ∃ cb : Bool, cb = decide (1 ≤ x ∧ x ≤ (L.length : Int)) := ⟨_, rfl⟩
  obtain ⟨ss, se, hss⟩ := sliceR_shape L x y
  obtain ⟨la, lb, lt, hl⟩ := lineR_shape L y
  obtain ⟨na, nt, hn⟩ := lineAt_shape L x
  obtain ⟨sa, hsa⟩ : ∃ sa, sa = strOf L := ⟨_, rfl⟩
  obtain ⟨n, hnn⟩ : ∃ n, n = L.length := ⟨_, rfl⟩
  obtain ⟨ln, hln⟩ : ∃ ln, ln = linesN L := ⟨_, rfl⟩
  have C1 := hide (fun w (h : BothG W w tb L rb L R) => hcb ▸ hca ▸ both_t h fun R' h1 => char_txt h1 x)
  have C2 := hide (fun w (h : BothG W w tb L rb L R) => hcb ▸ hca ▸ rchar_both h h6 x)
  have C3 := hide (fun w (h : BothG W w tb L rb L R) => hss ▸ both_t h fun R' h1 => slice_txt h1 x y)
  have C4 := hide (fun w (h : BothG W w tb L rb L R) => hss ▸ rslice_both h h6 hok x y)
  have C5 := hide (fun w (h : BothG W w tb L rb L R) => (show Calls Tryd.prog 24 #[.pointer (some ⟨tb, 0, none⟩), .int .i64 c, .int .i64 x, .int .i64 y] w (fun e w' => (∃ v, e = .returned v ∧ FirstAt L c (max x 1) (min y ((L.length : Int) + 1)) v) ∧ BothG W w' tb L rb L R) from
    both_t h fun R' h1 => (find_txt h1 c x y).mono fun e w' hh => by
      obtain ⟨v, a1, a2, a3⟩ := hh
      exact ⟨⟨v, a1, a2⟩, a3⟩))
  have C6 := hide (fun w (h : BothG W w tb L rb L R) v0 hv => rfind_both (x := c) (lo := x) (hi := y) (v0 := v0) h h6 hv)
  have C7 := hide (fun w (h : BothG W w tb L rb L R) => (show Calls Tryd.prog 25 #[.pointer (some ⟨tb, 0, none⟩), .int .i64 c, .int .i64 x, .int .i64 y] w (fun e w' => (∃ v, e = .returned v ∧ LastAt L c (max x 1) (min (max y 1) ((L.length : Int) + 1)) v) ∧ BothG W w' tb L rb L R) from
    both_t h fun R' h1 => (findback_txt h1 c x y).mono fun e w' hh => by
      obtain ⟨v, a1, a2, a3⟩ := hh
      exact ⟨⟨v, a1, a2⟩, a3⟩))
  have C8 := hide (fun w (h : BothG W w tb L rb L R) v0 hv => rfindback_both (x := c) (lo := x) (hi := y) (v0 := v0) h h6 hv)
  have C9 := hide (fun w (h : BothG W w tb L rb L R) => hl ▸ both_t h fun R' h1 => line_txt h1 y)
  have C10 := hide (fun w (h : BothG W w tb L rb L R) => hl ▸ rline_both h h6 y)
  have C11 := hide (fun w (h : BothG W w tb L rb L R) => (show Calls Tryd.prog 29 #[.pointer (some ⟨tb, 0, none⟩), .int .i64 x] w (fun e w' => e = .returned (.tuple #[.int .i64 na, .bool nt]) ∧ BothG W w' tb L rb L R) from by
    have := both_t h fun R' h1 => lineat_txt h1 x
    rwa [hn] at this))
  have C12 := hide (fun w (h : BothG W w tb L rb L R) => (show Calls Tryd.prog 52 #[.pointer (some ⟨rb, 0, none⟩), .int .i64 x] w (fun e w' => e = .returned (.tuple #[.int .i64 na, .bool nt]) ∧ BothG W w' tb L rb L R) from by
    have := rlineat_both h h6 x
    rwa [hn] at this))
  have C13 := hide (fun w tb R (h : BothG W w tb L rb L R) => hsa ▸ both_t h fun R' h1 => all_txt h1)
  have C14 := hide (fun w tb R (h : BothG W w tb L rb L R) => hsa ▸ rall_both h h6 hok)
  have C15 := hide (fun w (h : BothG W w tb L rb L R) => hnn ▸ both_t h fun R' h1 => size_txt h1)
  have C16 := hide (fun w (h : BothG W w tb L rb L R) => hnn ▸ rsize_both h h6)
  have C17 := hide (fun w (h : BothG W w tb L rb L R) => hln ▸ both_t h fun R' h1 => lines_txt h1)
  have C18 := hide (fun w (h : BothG W w tb L rb L R) => hln ▸ rlines_both h h6)
  have C19 := hide (fun w (h : BothG W w tb L rb L R) => copy_both h)
  clear h h6 hok hca hcb hss hl hn hsa hnn hln
  go_enter Tryd.func33, Tryd.ntmps33
  go_wp2_with fail
  refine Calls.mono (C1.out _ H0.out) ?_
  rintro r w1 ⟨rfl, h⟩
  have H1 := hide h
  clear h C1 H0
  go_wp2_with fail
  refine Calls.mono (C2.out _ H1.out) ?_
  rintro r w2 ⟨rfl, h⟩
  have H2 := hide h
  clear h C2 H1
  go_wp2_with fail
  refine Calls.mono (C3.out _ H2.out) ?_
  rintro r w3 ⟨rfl, h⟩
  have H3 := hide h
  clear h C3 H2
  go_wp2_with fail
  refine Calls.mono (C4.out _ H3.out) ?_
  rintro r w4 ⟨rfl, h⟩
  have H4 := hide h
  clear h C4 H3
  go_wp2_with fail
  refine Calls.mono (C5.out _ H4.out) ?_
  rintro r w5 ⟨⟨v, rfl, hv⟩, h⟩
  have H5 := hide h
  have C6 := hide (fun w h => C6.out w h v hv)
  obtain ⟨p1, p2, rfl⟩ := hv.shape
  clear h C5 H4 hv
  go_wp2_with fail
  refine Calls.mono (C6.out _ H5.out) ?_
  rintro r w6 ⟨rfl, h⟩
  have H6 := hide h
  clear h C6 H5
  go_wp2_with fail
  refine Calls.mono (C7.out _ H6.out) ?_
  rintro r w7 ⟨⟨v, rfl, hv⟩, h⟩
  have H7 := hide h
  have C8 := hide (fun w h => C8.out w h v hv)
  obtain ⟨q1, q2, rfl⟩ := hv.shape
  clear h C7 H6 hv
  go_wp2_with fail
  refine Calls.mono (C8.out _ H7.out) ?_
  rintro r w8 ⟨rfl, h⟩
  have H8 := hide h
  clear h C8 H7
  go_wp2_with fail
  refine Calls.mono (C9.out _ H8.out) ?_
  rintro r w9 ⟨rfl, h⟩
  have H9 := hide h
  clear h C9 H8
  go_wp2_with fail
  refine Calls.mono (C10.out _ H9.out) ?_
  rintro r w10 ⟨rfl, h⟩
  have H10 := hide h
  clear h C10 H9
  go_wp2_with fail
  refine Calls.mono (C11.out _ H10.out) ?_
  rintro r w11 ⟨rfl, h⟩
  have H11 := hide h
  clear h C11 H10
  go_wp2_with fail
  refine Calls.mono (C12.out _ H11.out) ?_
  rintro r w12 ⟨rfl, h⟩
  have H12 := hide h
  clear h C12 H11
  go_wp2_with fail
  refine Calls.mono (C13.out _ _ _ H12.out) ?_
  rintro r w13 ⟨rfl, h⟩
  have H13 := hide h
  clear h H12
  go_wp2_with fail
  refine Calls.mono (C14.out _ _ _ H13.out) ?_
  rintro r w14 ⟨rfl, h⟩
  have H14 := hide h
  clear h H13
  go_wp2_with fail
  refine Calls.mono (C15.out _ H14.out) ?_
  rintro r w15 ⟨rfl, h⟩
  have H15 := hide h
  clear h C15 H14
  go_wp2_with fail
  refine Calls.mono (C16.out _ H15.out) ?_
  rintro r w16 ⟨rfl, h⟩
  have H16 := hide h
  clear h C16 H15
  go_wp2_with fail
  refine Calls.mono (C17.out _ H16.out) ?_
  rintro r w17 ⟨rfl, h⟩
  have H17 := hide h
  clear h C17 H16
  go_wp2_with fail
  refine Calls.mono (C18.out _ H17.out) ?_
  rintro r w18 ⟨rfl, h⟩
  have H18 := hide h
  clear h C18 H17
  go_wp2_with fail
  refine Calls.mono (C19.out _ H18.out) ?_
  rintro r w19 ⟨t2, R1, rfl, h, hback⟩
  have H19 := hide h
  have HBK := hide hback
  clear h hback C19 H18
  go_wp2_with fail
  refine Calls.mono (C13.out _ _ _ H19.out) ?_
  rintro r w20 ⟨rfl, h⟩
  have H20 := hide h
  clear h C13 H19
  go_wp2_with fail
  refine Calls.mono (C14.out _ _ _ H20.out) ?_
  rintro r w21 ⟨rfl, h⟩
  have H21 := hide h
  clear h C14 H20
  go_wp2
  go_ret
  exact ⟨rfl, HBK.out _ H21.out⟩
end
end Go.Proofs.YtbljppcaikhjhaaDoor
