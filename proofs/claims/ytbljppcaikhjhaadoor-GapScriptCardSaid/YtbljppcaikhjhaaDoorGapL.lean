/- The walk of Delete where it deletes. No condition but those written. -/
import Derived.Test.YtbljppcaikhjhaaDoorGapK
namespace Go.Proofs.YtbljppcaikhjhaaDoor
open Go.RowKit

section
variable {W w w' : World} {b : Gb} {L : List Nat} {R : Heap}
set_option maxRecDepth 100000 in
set_option maxHeartbeats 4000000 in
theorem delete_ok (h : TextAt W w b L R) (a d : Nat) (x y : Int) (hx : x = (a : Int) + 1) (hy : y = (a : Int) + 1 + (d : Int)) (hl : a + d ≤ L.length) :
    Calls Tryd.prog 22 #[.pointer (some ⟨b.tb, 0, none⟩), .int .i64 x, .int .i64 y] w (InsOk W b (L.take a ++ L.drop (a + d)) R) := by
  have hsz := h.ok.size
  have HN := hide (none_any h.gap)
  have HS := hide (span_any h x y)
  rw [show spanB L x y = true by unfold spanB; simp; omega] at HS
  have hlen := b.g.len h.gap.le1 h.gap.le2
  rw [h.ok.chars] at hlen
  have hle1 := h.gap.le1
  have hle2 := h.gap.le2
  have HMV := hide (fun q => move_any (h.gap.drewN q) a (by omega))
  have HC := hide h.ok.chars
  have HOK := hide h.ok.okc
  have HF := hide h.ok.feed
  obtain ⟨e0, he0⟩ : ∃ e0, e0 = a + (b.g.en - b.g.st) := ⟨_, rfl⟩
  have HE0 := hide he0
  have HB0 := hide (show e0 + (L.length - a) = b.g.B.length by omega)
  have HL := hide hl
  have HSZ := hide hsz
  have hle0 : e0 ≤ 131104 := by have := h.gap.lim; omega
  have hd6 : d ≤ 65536 := by omega
  have ha6 : a ≤ 65536 := by omega
  have hw1 : IntKind.i64.wrap (x - 1) = (a : Int) := by rw [IntWalk.i64_in _ (by omega)]; omega
  have hw2 : IntKind.i64.wrap (y - x) = (d : Int) := by rw [IntWalk.i64_in _ (by omega)]; omega
  have hw3 : IntKind.i64.wrap ((e0 : Int) + (d : Int)) = (e0 : Int) + (d : Int) := IntWalk.i64_in _ (by omega)
  have HX := hide hx
  have HY := hide hy
  clear h hlen hle1 hle2 he0 hl hsz hx hy
  go_enter Tryd.func22, Tryd.ntmps22
  go_wp2_with fail
  refine (Calls.mono (HN.out)) ?_
  rintro r w2 ⟨rfl, rfl⟩
  go_wp2_with fail
  refine (Calls.mono (HS.out)) ?_
  rintro r w3 ⟨rfl, q, rfl⟩
  go_wp2_with fail
  refine (Calls.mono (HMV.out _)) ?_
  rintro r w4 ⟨rfl, B, H4, hBl, hBc⟩
  have hgb : GapAt W w4 ⟨b.tb, b.bb, b.bo, b.bc, b.fv, ⟨B, a, e0, b.g.F⟩⟩ R := by rw [HE0.out]; exact H4
  have hBt : B.take a = L.take a ∧ B.drop e0 = L.drop a := by
    rw [← HE0.out, HC.out] at hBc
    have k1 : a ≤ e0 := hgb.le1
    have k2 : e0 ≤ B.length := hgb.le2
    have k3 : (B.take a).length = a := by rw [List.length_take]; omega
    constructor
    · rw [← hBc, List.take_left' k3]
    · rw [← hBc, List.drop_left' k3]
  have hBl2 : e0 + (L.length - a) = B.length := by rw [hBl]; exact HB0.out
  obtain ⟨tb, htb⟩ : ∃ tb, tb = b.tb := ⟨_, rfl⟩
  have HTB := hide htb
  rw [HF.out] at hgb
  rw [← htb] at hgb ⊢
  generalize b.bb = bb at hgb
  generalize b.bo = bo at hgb
  generalize b.bc = bc at hgb
  generalize b.fv = fv at hgb
  have c2 := hgb.c2
  have f2 := hgb.blk.frozen 2
  have h5 := hgb.setEnd (e0 + d) (by show a ≤ e0 + d; have k1 : a ≤ e0 := hgb.le1; omega) (by show e0 + d ≤ B.length; have := HL.out; omega)
  have h5 : GapAt W (w4.setCell ⟨tb, 2, none⟩ (.int .i64 ((e0 : Int) + (d : Int)))) ⟨tb, bb, bo, bc, fv, ⟨B, a, e0 + d, feeds 1 L⟩⟩ R := h5
  obtain ⟨F, hFd⟩ : ∃ F, F = feeds 1 L := ⟨_, rfl⟩
  rw [← hFd] at h5
  have hBd : B.drop (e0 + d) = L.drop (a + d) := by rw [← List.drop_drop, hBt.2, List.drop_drop]
  have HBT := hide (And.intro hBt.1 hBd)
  have HFD := hide hFd
  have H5 := hide h5
  clear hgb H4 hBl hBc hBt hBl2 hBd hFd h5 htb HMV HF HC HB0 HE0
  go_upto_region 7 with fail
  generalize w4.setCell ⟨tb, 2, none⟩ (.int .i64 ((e0 : Int) + (d : Int))) = w5 at *
  obtain ⟨A, cf, hfv, _⟩ := H5.out.slF.form
  obtain ⟨m, hm⟩ : ∃ m, m = F.length := ⟨_, rfl⟩
  replace hfv : fv = .slice A m cf := by rw [hm]; exact hfv
  subst hfv
  have HM := hide hm
  obtain ⟨p, hp⟩ : ∃ p, p = (feeds 1 (L.take a)).length := ⟨_, rfl⟩
  obtain ⟨j, hj⟩ : ∃ j, j = (feeds 1 (L.take a ++ (L.drop a).take d)).length := ⟨_, rfl⟩
  have hla : (L.take a).length = a := by rw [List.length_take]; have := HL.out; omega
  have hld : ((L.drop a).take d).length = d := by rw [List.length_take, List.length_drop]; have := HL.out; omega
  have hsplit : L = L.take a ++ (L.drop a).take d ++ L.drop (a + d) := by rw [List.append_assoc, ← List.drop_drop, List.take_append_drop, List.take_append_drop]
  obtain ⟨k1, k2, k3, k4⟩ := feeds_count2 F (L.take a) ((L.drop a).take d) (L.drop (a + d)) L hsplit HFD.out
  have k5 := feeds_delete (L.take a) ((L.drop a).take d) (L.drop (a + d))
  rw [hla] at k1 k2
  rw [← hsplit, hld, ← HFD.out, ← hp, ← hj] at k5
  rw [hld, ← hj] at k2
  rw [← hp] at k1 k3
  rw [← hj] at k3 k4
  have HSO := hide (show F.Pairwise (· ≤ ·) by rw [HFD.out]; exact feeds_sorted 1 L)
  have hm6 : m ≤ 65536 := by rw [HM.out, HFD.out]; have := feeds_le 1 L; have := HSZ.out; omega
  have c3 := H5.out.c3
  have HB1 := hide (fun (w5 : World) (H5 : GapAt W w5 ⟨tb, bb, bo, bc, .slice A m cf, ⟨B, a, e0 + d, F⟩⟩ R) => (show Calls Tryd.prog 42 #[.slice A m cf, .int .i64 x] w5 (fun e w' => ∃ bl, e = .returned (.tuple #[.int .i64 (p : Int), .bool bl]) ∧ w'.cell? ⟨tb, 3, none⟩ = some (.slice A m cf) ∧ GapAt W w' ⟨tb, bb, bo, bc, .slice A m cf, ⟨B, a, e0 + d, F⟩⟩ R) from by
    have := bs_any F (a + 1) _ w5 H5.slF HSO.out (by have := HM.out; omega)
    rw [k1] at this
    rw [HX.out]
    refine this.mono ?_
    rintro e w' ⟨bl, rfl, q, rfl⟩
    exact ⟨bl, rfl, (H5.drewN q).c3, H5.drewN q⟩))
  have HB2 := hide (fun (w5 : World) (H5 : GapAt W w5 ⟨tb, bb, bo, bc, .slice A m cf, ⟨B, a, e0 + d, F⟩⟩ R) => (show Calls Tryd.prog 42 #[.slice A m cf, .int .i64 y] w5 (fun e w' => ∃ bl, e = .returned (.tuple #[.int .i64 (j : Int), .bool bl]) ∧ w'.cell? ⟨tb, 3, none⟩ = some (.slice A m cf) ∧ GapAt W w' ⟨tb, bb, bo, bc, .slice A m cf, ⟨B, a, e0 + d, F⟩⟩ R) from by
    have := bs_any F (a + 1 + d) _ w5 H5.slF HSO.out (by have := HM.out; omega)
    rw [k2] at this
    rw [HY.out]
    refine this.mono ?_
    rintro e w' ⟨bl, rfl, q, rfl⟩
    exact ⟨bl, rfl, (H5.drewN q).c3, H5.drewN q⟩))
  have HDL := hide (fun (w5 : World) (H5 : GapAt W w5 ⟨tb, bb, bo, bc, .slice A m cf, ⟨B, a, e0 + d, F⟩⟩ R) => del_any F p j (.slice A m cf) w5 H5.slF k3 k4)
  have HK5 := hide k5
  have HK3 := hide (And.intro k3 k4)
  have HXX := hide hsplit
  have HJ := hide hj
  clear k1 k2 k3 k4 k5 hsplit hm hp hj hla hld c2 f2
  go_wp2_with fail
  refine (Calls.mono (HB1.out _ H5.out)) ?_
  rintro r w6 ⟨bl, rfl, c3, h6⟩
  have H6 := hide h6
  clear h6
  go_wp2_with fail
  refine (Calls.mono (HB2.out _ H6.out)) ?_
  rintro r w7 ⟨bl2, rfl, c3, h7⟩
  have H7 := hide h7
  clear h7
  go_wp2_with fail
  refine (Calls.mono (HDL.out _ H7.out)) ?_
  rintro r w8 ⟨v', rfl, hs', ho', hv'⟩
  obtain ⟨A', c', rfl, _⟩ := hs'.form
  obtain ⟨hblk, hfin⟩ := H7.out.setF hs' ho' (.inl hv')
  have x3 : w8.cell? ⟨tb, 3, none⟩ = some (.slice A m cf) := by rw [hblk.cell]; rfl
  have f3 := hblk.frozen 3
  obtain ⟨G, hG⟩ : ∃ G, G = F.take p ++ F.drop j := ⟨_, rfl⟩
  rw [← hG] at hfin HK5 ⊢
  obtain ⟨n, hn⟩ : ∃ n, n = G.length := ⟨_, rfl⟩
  have HG := hide hG
  have HNN := hide hn
  rw [← hn] at hfin ⊢
  have HFIN := hide hfin
  clear hs' ho' hv' hfin hblk c3 hG hn HDL HB1 HB2
  have hpn : p ≤ n := by rw [HNN.out, HG.out, List.length_append, List.length_take]; have := HM.out; have := HK3.out; omega
  have hn6 : n ≤ 65536 := by
    rw [HNN.out, HG.out, List.length_append, List.length_take, List.length_drop]
    have := HM.out
    have := HK3.out
    omega
  have HGE := hide (show ∀ k z, p ≤ k → G[k]? = some z → d ≤ z ∧ z ≤ 65536 from fun k z hk hz => by
    have h2 : (F.take p).length = p := by rw [List.length_take]; have := HM.out; have := HK3.out; omega
    rw [HG.out, List.getElem?_append_right (by omega), h2] at hz
    have h3 := List.mem_of_getElem? hz
    have h4 : z ∈ (feeds 1 L).drop j := by rw [← HFD.out]; exact h3
    have h5 := (feeds_mem 1 L z (List.mem_of_mem_drop h4)).2
    have h6 := HSZ.out
    refine ⟨?_, by omega⟩
    have hla : (L.take a).length = a := by rw [List.length_take]; have := HL.out; omega
    have hld : ((L.drop a).take d).length = d := by rw [List.length_take, List.length_drop]; have := HL.out; omega
    have h7 : (feeds 1 L).drop j = feeds (1 + (a + d)) (L.drop (a + d)) := by
      conv => lhs; rw [HXX.out]
      rw [feeds_append 1 (_ ++ _), HJ.out, List.drop_left, List.length_append, hla, hld]
    rw [h7] at h4
    have := (feeds_mem _ _ z h4).1
    omega)
  go_wp2
  go_loopw [7] (fun t wr => ∃ k : Nat, t = .int .i64 (k : Int) ∧ p ≤ k ∧ k ≤ n ∧ GapAt W wr ⟨tb, bb, bo, bc, .slice A' n c', ⟨B, a, e0 + d, turnF (· - d) G p k⟩⟩ R) (fun t _ => n - (intOf t).toNat)
  case atStart => exact ⟨p, rfl, Nat.le_refl _, hpn, by rw [turnF_start]; exact HFIN.out⟩
  case round =>
    obtain ⟨k, rfl, hk1, hk2, hG⟩ := hrel
    have c3 := hG.c3
    have hbl : (turnF (· - d) G p k).length = n := by rw [HNN.out]; exact turnF_len hk1 (by rw [← HNN.out]; exact hk2)
    by_cases hkm : k < n
    · obtain ⟨z, hz⟩ : ∃ z, G[k]? = some z := ⟨_, List.getElem?_eq_getElem (by rw [← HNN.out]; exact hkm)⟩
      obtain ⟨hx5, hx6⟩ := HGE.out k z hk1 hz
      obtain ⟨g, off, c2, hv2, _, _, hcell, hfz, _⟩ := hG.slF.at_ (by show 0 < (turnF (· - d) G p k).length; omega)
      have hv2 : Value.slice A' n c' = .slice (some ⟨g, off, none⟩) (turnF (· - d) G p k).length c2 := hv2
      rw [hbl] at hv2
      injection hv2 with e1 _ e3
      subst e1 e3
      have hc := hcell k _ (by show (ints (turnF (· - d) G p k))[k]? = _; simp only [ints, List.getElem?_map]; rw [turnF_at hk1 (by rw [← HNN.out]; exact hkm), hz]; rfl)
      have hf := hfz (off + k)
      have hw : IntKind.i64.wrap ((z : Int) - (d : Int)) = ((z - d : Nat) : Int) := by rw [IntWalk.i64_in _ (by omega)]; omega
      have hk0 : (0 : Int) ≤ (k : Int) := by omega
      have hk3 : (k : Int) < (n : Int) := by omega
      have z5 : decide (k < n) = true := by simpa using hkm
      have hset := hG.setFeed (x := z - d) (k := k) (g := g) (off := off) (c := c') (by show Value.slice _ n c' = _; rw [hbl]) (by show k < (turnF (· - d) G p k).length; omega)
      have hset : GapAt W (wr.setCell ⟨g, off + k, none⟩ (.int .i64 ((z - d : Nat) : Int))) ⟨tb, bb, bo, bc, .slice (some ⟨g, off, none⟩) n c', ⟨B, a, e0 + d, (turnF (· - d) G p k).set k (z - d)⟩⟩ R := hset
      rw [turnF_step (f := (· - d)) hk1 hz] at hset
      have HSET := hide hset
      clear hset hG hcell hfz hbl hz hx5
      obtain ⟨zd, hzd⟩ : ∃ zd, zd = z - d := ⟨_, rfl⟩
      rw [← hzd] at hw HSET
      clear hzd
      go_wp2
      go_roundw
      case rel => exact ⟨k + 1, by go_num, by omega, by omega, HSET.out⟩
      case measure => simp [intOf]; omega
    · obtain rfl : k = n := by omega
      have z5 : decide (k < k) = false := by simp
      have hG2 : GapAt W wr ⟨tb, bb, bo, bc, .slice A' k c', ⟨B, a, e0 + d, feeds 1 (L.take a ++ L.drop (a + d))⟩⟩ R := by
        rw [← HK5.out, ← turnF_end, ← HNN.out]
        exact hG
      have HEND := hide (del_final hG2 HSZ.out HOK.out HL.out rfl HBT.out.1 HBT.out.2)
      clear hG hG2 hbl
      go_wp2
      go_ret
      exact ⟨rfl, _, HTB.out, HEND.out⟩
end
end Go.Proofs.YtbljppcaikhjhaaDoor
