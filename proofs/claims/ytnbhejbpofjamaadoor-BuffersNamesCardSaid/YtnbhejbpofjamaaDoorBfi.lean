/- A set of buffers: Create. No condition but those written. -/
import Derived.Test.YtnbhejbpofjamaaDoorBfh
namespace Go.Proofs.YtnbhejbpofjamaaDoor
open Go.RowKit

/-- What Create leaves. -/
def Created (W : World) (sb : Nat) (s : Bst) (n : ByteArray) (R : Heap) (e : Ending) (w' : World) : Prop :=
  e = .returned (.tuple #[.int .i64 (if creE s n = 0 then (s.next : Int) else 0), .int .i64 (creE s n)]) ∧ ∃ s', SAt W w' sb s' R ∧ (creE s n ≠ 0 → s' = s) ∧ (creE s n = 0 → ∃ g bp, s' = addS s n g bp)
theorem Created.same {W w' : World} {sb : Nat} {s : Bst} {n : ByteArray} {R : Heap} {e0 : Int} (he : creE s n = e0) (h0 : e0 ≠ 0) (h : SAt W w' sb s R) : Created W sb s n R (.returned (.tuple #[.int .i64 0, .int .i64 e0])) w' := by
  subst he
  refine ⟨by rw [if_neg h0], s, h, fun _ => rfl, fun h1 => absurd h1 h0⟩
section
variable {W w w' : World} {b : Bb} {s : Bst} {R : Heap}
set_option maxRecDepth 100000 in
set_option maxHeartbeats 2000000 in
theorem create_any (h : BAt W w b s R) (hT : Tabs w) (ok : s.Ok) (hl : s.order.length ≤ 1000000) (hx : s.next ≤ 1000000) (n : ByteArray) (hs : n.size < 9223372036854775807) :
    Calls Tryd.prog 9 #[.pointer (some ⟨b.sb, 0, none⟩), .string n] w (Created W b.sb s n R) := by
  have HN := hide (bnone_any h)
  have HC := hide (chk_any n w hT hs)
  have H := hide h
  have HT := hide hT
  have HX := hide hx
  have HL := hide hl
  obtain ⟨ce, hce⟩ : ∃ ce, ce = chkE n := ⟨_, rfl⟩
  rw [← hce] at HC
  have HCE := hide hce
  have HF := hide ok.fresh
  obtain ⟨m, hm⟩ : ∃ m, m = s.all.length := ⟨_, rfl⟩
  have HM := hide hm
  clear h hT ok hl hx hs hm hce
  by_cases h0 : ce = 0
  · have y0 : (ce != 0) = false := by simp [h0]
    have H0 := hide h0
    clear h0
    go_enter Tryd.func9, Tryd.ntmps9
    go_wp2_with (first | (go_at_call 24; refine (Calls.mono HN.out) ?_; rintro e w' ⟨rfl, rfl⟩) | (go_at_call 25; refine (Calls.mono HC.out) ?_; rintro e w1 ⟨rfl, b1⟩))
    have HB1 := hide b1
    have H1 := hide (H.out.below b1)
    clear b1 HC HN
    refine (Calls.mono (find_any H1.out n)) ?_
    rintro e w2 ⟨b2, hr⟩
    have HB2 := hide (HB1.out.trans (b2.mono HB1.out.size))
    have H2 := hide (H1.out.below b2)
    clear b2
    rcases hr with ⟨rfl, hr⟩ | ⟨x, hx, hxn, rfl⟩
    · have HR := hide (hasN_false.2 hr)
      have c0 := H2.out.c0
      have hn := (H2.out.mb).len (P := Tryd.prog) Tryd.underlying43 3
      rw [show (nbPairs s.all).length = m by rw [HM.out]; simp [nbPairs]] at hn
      clear hr
      by_cases h2 : 200 ≤ m
      · have y2 : decide ((200 : Int) ≤ (m : Int)) = true := by simp; omega
        have HE := hide (show creE s n = 7 by
          unfold creE
          rw [if_neg (by rw [← HCE.out, H0.out]; simp), if_neg (by rw [HR.out]; simp), if_pos (by rw [← HM.out]; exact h2)])
        clear h2
        go_wp2_with fail
        go_ret2
        exact Created.same HE.out (by decide) ⟨b, rfl, H2.out⟩
      · have y2 : decide ((200 : Int) ≤ (m : Int)) = false := by simp; omega
        have HE := hide (show creE s n = 0 by
          unfold creE
          rw [if_neg (by rw [← HCE.out, H0.out]; simp), if_neg (by rw [HR.out]; simp), if_neg (by rw [← HM.out]; exact h2)])
        clear h2
        go_wp2_with fail
        refine (Calls.mono (add_any H2.out (HT.out.below HB2.out) HF.out HL.out HX.out n)) ?_
        rintro e w3 ⟨rfl, g, bp, h3⟩
        have H3 := hide h3
        clear h3
        go_wp2_with fail
        go_ret2
        exact ⟨by rw [HE.out, if_pos rfl]; rfl, _, H3.out, fun h9 => absurd HE.out h9, fun _ => ⟨g, bp, rfl⟩⟩
    · have HE := hide (show creE s n = 17 by
        unfold creE
        rw [if_neg (by rw [← HCE.out, H0.out]; simp), if_pos (hasN_true.2 ⟨x, hx, hxn⟩)])
      clear hx hxn
      go_wp2_with fail
      go_ret2
      exact Created.same HE.out (by decide) ⟨b, rfl, H2.out⟩
  · have y0 : (ce != 0) = true := by simp [h0]
    have HE := hide (show creE s n = ce by
      unfold creE
      rw [if_pos (by rw [← HCE.out]; exact h0), HCE.out])
    have H0 := hide h0
    clear h0
    go_enter Tryd.func9, Tryd.ntmps9
    go_wp2_with (first | (go_at_call 24; refine (Calls.mono HN.out) ?_; rintro e w' ⟨rfl, rfl⟩) | (go_at_call 25; refine (Calls.mono HC.out) ?_; rintro e w1 ⟨rfl, b1⟩))
    go_ret2
    exact Created.same HE.out H0.out ⟨b, rfl, H.out.below b1⟩
end
end Go.Proofs.YtnbhejbpofjamaaDoor
