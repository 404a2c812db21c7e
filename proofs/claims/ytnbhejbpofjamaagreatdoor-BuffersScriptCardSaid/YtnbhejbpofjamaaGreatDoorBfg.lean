/- A set of buffers: leave, Kill, Enter. No condition but those written. -/
import Derived.Test.YtnbhejbpofjamaaGreatDoorBfd
import Derived.Test.YtnbhejbpofjamaaGreatDoorBfe
namespace Go.Proofs.YtnbhejbpofjamaaGreatDoor
open Go.RowKit

/-- Where a number is in a list of numbers. -/
theorem idx_at {L : List Nat} {k : Nat} (h : k ∈ L) : ∃ i, i < L.length ∧ L[i]? = some k ∧ (∀ j, j < i → L[j]? ≠ some k) ∧ Lib.idxOf (L.map fun c : Nat => (c : Int)) (k : Int) = (i : Int) := by
  obtain ⟨i, hi⟩ := List.mem_iff_getElem?.1 h
  have key : ∃ i : Nat, L[i]? = some k ∧ ∀ j, j < i → L[j]? ≠ some k := by
    induction i using Nat.strongRecOn with
    | ind i ih =>
      by_cases hx : ∃ j, j < i ∧ L[j]? = some k
      · obtain ⟨j, hj, he⟩ := hx
        exact ih j hj he
      · exact ⟨i, hi, fun j hj he => hx ⟨j, hj, he⟩⟩
  obtain ⟨i, h1, h2⟩ := key
  have h3 := (List.getElem?_eq_some_iff.1 h1).1
  refine ⟨i, h3, h1, h2, ?_⟩
  have h4 := Lib.idxOf_hit (L.map fun c : Nat => (c : Int)) L.length i (k : Int) h3 (by simp) (by simp [List.getD, h1]) (fun j hj => by
    have h5 := h2 j hj
    obtain ⟨y, hy⟩ : ∃ y, L[j]? = some y := ⟨_, List.getElem?_eq_getElem (by omega)⟩
    rw [hy] at h5
    simp only [List.getD, List.getElem?_map, hy, Option.map_some, Option.getD_some]
    intro e
    exact h5 (by congr 1; omega))
  rw [List.take_of_length_le (by simp)] at h4
  exact h4
section
variable {W w w' : World} {b : Bb} {s : Bst} {R : Heap}
theorem index_any (L : List Nat) (v : Value) (w : World) (h : IntSl w v L) (k i : Nat) (hi : Lib.idxOf (L.map fun c : Nat => (c : Int)) (k : Int) = (i : Int)) (hp : 0 < L.length) : Calls Tryz.prog 90 #[v, .int .i64 (k : Int)] w fun e w' => e = .returned (.int .i64 (i : Int)) ∧ w = w' := by
  obtain ⟨g, off, c, rfl, hnc, hcm, hc, hfz, _⟩ := h.at_ hp
  refine (Tryz.slices_Index_int g off L.length c (L.map fun c : Nat => (c : Int)) (k : Int) w (by simp) (by unfold maxLen at hcm; omega) (fun j hj => ?_)).mono ?_
  · refine hc j _ ?_
    rw [List.length_map] at hj
    simp [ints, List.getD, hj]
  · rintro e w' ⟨rfl, rfl⟩
    rw [List.take_of_length_le (by simp), hi]
    exact ⟨rfl, rfl⟩
def SAt (W w : World) (sb : Nat) (s : Bst) (R : Heap) : Prop := ∃ b : Bb, b.sb = sb ∧ BAt W w b s R
theorem SAt.below {sb : Nat} (h : SAt W w sb s R) (hb : Below w.heap.size w w') : SAt W w' sb s R := by
  obtain ⟨b, h1, h2⟩ := h
  exact ⟨b, h1, h2.below hb⟩
theorem SAt.bel {sb : Nat} (h : SAt W w sb s R) : Below W.heap.size W w := by
  obtain ⟨b, _, h2⟩ := h
  exact h2.own.bel
set_option maxRecDepth 100000 in
theorem leave_any (h : BAt W w b s R) (k : Nat) (hk : k ∈ s.order) (hl : s.order.length ≤ 1000000) : Calls Tryz.prog 66 #[.pointer (some ⟨b.sb, 0, none⟩), .int .i64 (k : Int)] w fun e w' => e = .returned (.tuple #[]) ∧ SAt W w' b.sb (leaveS s k) R := by
  obtain ⟨i, hi, h1, h2, h3⟩ := idx_at hk
  have c1 := h.c1
  have HI := hide (index_any s.order b.ov w h.sl k i h3 (by omega))
  have hw1 : ((i : Int) + 1 + 9223372036854775808) % 18446744073709551616 - 9223372036854775808 = ((i + 1 : Nat) : Int) := by omega
  have HD := hide (del_any s.order i (i + 1) b.ov w h.sl (by omega) (by omega))
  rw [← erase_at h1 h2] at HD
  have H := hide h
  have hi6 : (i : Int) ≤ 1000000 := by omega
  clear h hk hi h1 h2 h3 hl
  go_enter Tryz.func66, Tryz.ntmps66
  go_wp2_with fail
  refine (Calls.mono HI.out) ?_
  rintro e w1 ⟨rfl, rfl⟩
  go_wp2_with fail
  rw [show (i : Int) + 1 = ((i + 1 : Nat) : Int) by omega]
  refine (Calls.mono HD.out) ?_
  rintro e w1 ⟨v', rfl, hs, ho, hv⟩
  obtain ⟨A', c', rfl, _, _⟩ := hs.form
  obtain ⟨x1, x2⟩ := H.out.reorder hs ho (.inl hv)
  have HF := hide x2
  have f1 := x1.frozen 1
  have d1 : w1.cell? ⟨b.sb, 1, none⟩ = some b.ov := (x1.cell 1).trans rfl
  clear hs ho hv x1 x2 HI HD
  go_wp2
  refine bodyPost_end (results_none rfl _ _ _) rfl ?_
  exact ⟨rfl, b.withOv (.slice A' (s.order.erase k).length c'), rfl, HF.out⟩
/-- What Enter leaves. -/
def Moved (W : World) (sb : Nat) (s t : Bst) (R : Heap) (e0 : Int) (e : Ending) (w' : World) : Prop := e = .returned (.int .i64 e0) ∧ ∃ s', SAt W w' sb s' R ∧ (e0 ≠ 0 → s' = s) ∧ (e0 = 0 → s' = t)
theorem known_split (s : Bst) (k : Int) : knownE s.all k = 0 ∨ knownE s.all k = 8 := by
  unfold knownE
  split
  · exact .inl rfl
  · exact .inr rfl
set_option maxRecDepth 100000 in
theorem enter_any (h : BAt W w b s R) (ok : s.Ok) (k : Int) : Calls Tryz.prog 38 #[.pointer (some ⟨b.sb, 0, none⟩), .int .i64 k] w (Moved W b.sb s (s.withCur k.toNat) R (knownE s.all k)) := by
  have HK := hide (known_any h k)
  rcases known_split s k with he | he
  · obtain ⟨j, rfl, _⟩ := known_nat ok he
    have hs := h.setCur j
    have HS := hide hs
    have f2 := h.sb.frozen 2
    have c2 := h.c2
    have HE := hide he
    rw [he] at HK ⊢
    clear h ok he hs
    go_enter Tryz.func38, Tryz.ntmps38
    go_wp2_with (go_at_call 46; refine (Calls.mono HK.out) ?_; rintro e w' ⟨rfl, rfl⟩)
    go_ret
    exact ⟨rfl, _, ⟨b, rfl, HS.out⟩, fun h0 => absurd rfl h0, fun _ => rfl⟩
  · have H := hide h
    rw [he] at HK ⊢
    clear h ok he
    go_enter Tryz.func38, Tryz.ntmps38
    go_wp2_with (go_at_call 46; refine (Calls.mono HK.out) ?_; rintro e w' ⟨rfl, rfl⟩)
    go_ret
    exact ⟨rfl, s, ⟨b, rfl, H.out⟩, fun _ => rfl, fun h0 => absurd h0 (by decide)⟩
set_option maxRecDepth 100000 in
set_option maxHeartbeats 2000000 in
theorem kill_any (h : BAt W w b s R) (ok : s.Ok) (k : Int) (hl : s.order.length ≤ 1000000) : Calls Tryz.prog 35 #[.pointer (some ⟨b.sb, 0, none⟩), .int .i64 k] w (Moved W b.sb s (kilS s k.toNat) R (kilE s k)) := by
  have HK := hide (known_any h k)
  have c0 := h.c0
  have hn := (h.mb).len (P := Tryz.prog) Tryz.underlying69 3
  rw [show (nbPairs s.all).length = s.all.length by simp [nbPairs]] at hn
  obtain ⟨m, hm⟩ : ∃ m, m = s.all.length := ⟨_, rfl⟩
  rw [← hm] at hn
  rcases known_split s k with he | he
  · rw [he] at HK
    by_cases h1 : s.all.length = 1
    · have HE := hide (show kilE s k = 9 by unfold kilE; rw [he, if_neg (by simp), if_pos h1])
      have H := hide h
      rw [HE.out]
      have y1 : (((m : Nat) : Int) == 1) = true := by simp; omega
      clear h ok he hl h1 hm
      go_enter Tryz.func35, Tryz.ntmps35
      go_wp2_with (go_at_call 46; refine (Calls.mono HK.out) ?_; rintro e w' ⟨rfl, rfl⟩)
      go_ret
      exact ⟨rfl, s, ⟨b, rfl, H.out⟩, fun _ => rfl, fun h0 => absurd h0 (by decide)⟩
    · have HE := hide (show kilE s k = 0 by unfold kilE; rw [he, if_neg (by simp), if_neg h1])
      obtain ⟨j, rfl, hj, _⟩ := known_nat ok he
      have y1 : (((m : Nat) : Int) == 1) = false := by simp; omega
      have HOK := hide ok
      obtain ⟨w4, hr, hm4, ho4⟩ := (h.mb).delete (P := Tryz.prog) (nb_keys s.all) Tryz.underlying69 Tryz.underlying3 (.int _ (j : Int)) 3 0
      rw [nb_del] at hm4
      have h4 := h.delNb (delB_sub s.all (j : Int)) ho4 hm4
      have HL := hide (leave_any h4 j hj hl)
      have HL1 := hide h1
      rw [HE.out]
      clear h ok he hl h1 hm hm4 ho4 h4
      go_enter Tryz.func35, Tryz.ntmps35
      go_wp2_with (first | (go_at_call 46; refine (Calls.mono HK.out) ?_; rintro e w' ⟨rfl, rfl⟩) | fail)
      refine (Calls.mono HL.out) ?_
      rintro e w5 ⟨rfl, b5, hb5, h5⟩
      have HH := hide h5
      have HB := hide hb5
      have d2 := h5.c2
      rw [hb5] at d2
      rw [show (leaveS (s.withAll (delB s.all (j : Int))) j).cur = s.cur from rfl] at d2
      obtain ⟨cu, hcu⟩ : ∃ cu, cu = s.cur := ⟨_, rfl⟩
      rw [← hcu] at d2
      have HCU := hide hcu
      by_cases hc : cu = j
      · have z1 : ((cu : Int) == (j : Int)) = true := by simp; omega
        have hlen := HOK.out.len
        have hle : (s.order.erase j).length = s.order.length - 1 := List.length_erase_of_mem hj
        have hpos : 0 < (s.order.erase j).length := by
          have h9 : 0 < s.order.length := List.length_pos_of_mem hj
          have := HL1.out
          omega
        obtain ⟨x, xs, hx⟩ : ∃ x xs, s.order.erase j = x :: xs := by
          cases e : s.order.erase j with
          | nil => rw [e] at hpos; simp at hpos
          | cons x xs => exact ⟨x, xs, rfl⟩
        obtain ⟨g, off, c, hv, hnc, hcm, hcc, hfz, _⟩ := h5.sl.at_ hpos
        have d1 := h5.c1
        rw [hb5, hv] at d1
        obtain ⟨n5, hn5⟩ : ∃ n, n = (leaveS (s.withAll (delB s.all (j : Int))) j).order.length := ⟨_, rfl⟩
        rw [← hn5] at d1
        have z2 : 0 < n5 := by rw [hn5]; exact hpos
        have d0 : w5.cell? ⟨g, off, none⟩ = some (.int .i64 (x : Int)) := hcc 0 _ (by rw [show (leaveS (s.withAll (delB s.all (j : Int))) j).order = x :: xs from hx]; rfl)
        have f2 := h5.sb.frozen 2
        rw [hb5] at f2
        have hs := h5.setCur x
        rw [hb5] at hs
        have HS := hide hs
        have HX := hide hx
        have HC := hide hc
        clear hlen hle hpos hv hnc hcm hcc hfz hn5 h5 hb5 hs hx hc hcu hj HK HL hr y1 hn c0
        go_wp2
        go_ret
        refine ⟨rfl, _, ⟨b5, HB.out, HS.out⟩, fun h0 => absurd rfl h0, fun _ => ?_⟩
        show _ = kilS s ((j : Int).toNat)
        unfold kilS Bst.withCur leaveS Bst.withAll
        rw [Int.toNat_natCast, if_pos (by rw [← HCU.out]; exact HC.out), HX.out]
        rfl
      · have z1 : ((cu : Int) == (j : Int)) = false := by simp; omega
        have HC := hide hc
        clear h5 hb5 hc hcu hj HK HL hr y1 hn c0
        go_wp2
        go_ret
        refine ⟨rfl, _, ⟨b5, HB.out, HH.out⟩, fun h0 => absurd rfl h0, fun _ => ?_⟩
        show _ = kilS s ((j : Int).toNat)
        unfold kilS leaveS Bst.withAll
        rw [Int.toNat_natCast, if_neg (by rw [← HCU.out]; exact HC.out)]
  · have HE := hide (show kilE s k = 8 by unfold kilE; rw [he, if_pos (by decide)])
    have H := hide h
    rw [HE.out]
    rw [he] at HK
    clear h ok he hl hm hn c0
    go_enter Tryz.func35, Tryz.ntmps35
    go_wp2_with (go_at_call 46; refine (Calls.mono HK.out) ?_; rintro e w' ⟨rfl, rfl⟩)
    go_ret
    exact ⟨rfl, s, ⟨b, rfl, H.out⟩, fun _ => rfl, fun h0 => absurd h0 (by decide)⟩
end
end Go.Proofs.YtnbhejbpofjamaaGreatDoor
