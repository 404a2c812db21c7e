/- GapApart: the walk. No condition but those written. -/
import Derived.Test.YtbljppcaikhjhaaDoorGapNl
import Derived.Test.YtbljppcaikhjhaaDoorGapPw
namespace Go.Proofs.YtbljppcaikhjhaaDoor
open Go.RowKit

theorem two_new {W w : World} {t1 t2 : Nat} {L1 L2 : List Nat} (h : Two W w t1 L1 t2 L2) (hT : Tabs W) (s : ByteArray) (hs : s.size ≤ 300) (hv : validS s = true) : Calls Tryd.prog 14 #[.string s] w fun e w' => ∃ u, e = .returned (.tuple #[.pointer (some ⟨u, 0, none⟩), .int .i64 0]) ∧ Two W w' u (charsOf s) t1 L1 := by
  obtain ⟨b1, b2, R, e1, e2, h, k1, k2⟩ := h
  refine (new_yes h hT s hs hv).mono ?_
  rintro e w' ⟨u, he, b, hb, ht⟩
  exact ⟨u, he, b, b1, b2.heap ++ R, hb, e1, ht.gap.own, ht.gok, k1⟩
theorem two_do {W w : World} {t1 t2 : Nat} {L1 L2 : List Nat} {kd p q : Int} {tx : ByteArray} (h : Two W w t1 L1 t2 L2) (hT : Tabs W) (hs : tx.size ≤ 200) : Calls Tryd.prog 17 #[.pointer (some ⟨t1, 0, none⟩), .agg #[.int .i64 kd, .int .i64 p, .int .i64 q, .string tx]] w fun e w' => ∃ n, e = .returned (.int .i64 n) ∧ Two W w' t1 (Ac.act L1 ⟨kd, p, q, tx⟩) t2 L2 :=
  (h.of (P := fun e => e = .returned (.int .i64 (Ac.err L1 ⟨kd, p, q, tx⟩))) (fun _ hx => do_any hx hT ⟨kd, p, q, tx⟩ (show tx.size < 9223372036854775807 by omega))).mono fun e w' hh => ⟨_, hh.1, hh.2⟩
theorem two_all {W w : World} {t1 t2 : Nat} {L1 L2 : List Nat} (h : Two W w t1 L1 t2 L2) : Calls Tryd.prog 20 #[.pointer (some ⟨t1, 0, none⟩)] w fun e w' => e = .returned (.string (strOf L1)) ∧ Two W w' t1 L1 t2 L2 :=
  h.of fun _ hx => all_txt hx
theorem light_own {W w : World} {R : Heap} {n : Nat} {c : Nat} {A : Option Addr} {b : Bool} (h : Own W w R) (l : List Ac) (hr : Rd w (.slice A n c) 4 n (rows Ac.cells l)) (hn : n = l.length) (hm : l.length ≤ maxLen) (hb : lightB l = b) : Calls Tryd.prog 12 #[.slice A n c] w fun e w' => e = .returned (.bool b) ∧ Own W w' R := by
  subst hn hb
  exact (light_any l _ w hr hm).mono fun e w' hh => ⟨hh.1, hh.2 ▸ h⟩
set_option maxRecDepth 100000 in
set_option maxHeartbeats 16000000 in
theorem apart_walk (s : ByteArray) (l : List Ac) (v : Value) (kd p q : Int) (tx : ByteArray) (w : World) (hT : Tabs w) (hr : Rd w v 4 l.length (rows Ac.cells l)) (hm : l.length ≤ maxLen) (hs : s.size < 9223372036854775807) : Calls Tryd.prog 10 #[.string s, v, .agg #[.int .i64 kd, .int .i64 p, .int .i64 q, .string tx]] w fun e w' => e = .returned (.bool true) ∧ Below w.heap.size w w' := by
  have hB0 : Below w.heap.size w (w.alloc (.cells #[.int .i64 kd, .int .i64 p, .int .i64 q, .string tx] 31)) := (Below.refl _ _).alloc (Nat.le_refl _) _
  have hblk := Blk.new w 31 #[.int .i64 kd, .int .i64 p, .int .i64 q, .string tx]
  obtain ⟨W, hW⟩ : ∃ W, W = w.alloc (.cells #[.int .i64 kd, .int .i64 p, .int .i64 q, .string tx] 31) := ⟨_, rfl⟩
  rw [← hW] at hB0 hblk
  have HBC := hide (fun (w1 : World) (hb : Below W.heap.size W w1) => (show w1.cell? ⟨w.heap.size, 0, none⟩ = some (.int .i64 kd) ∧ w1.cell? ⟨w.heap.size, 1, none⟩ = some (.int .i64 p) ∧ w1.cell? ⟨w.heap.size, 2, none⟩ = some (.int .i64 q) ∧ w1.cell? ⟨w.heap.size, 3, none⟩ = some (.string tx) from by
    have h1 := hblk.below hb hblk.lt
    exact ⟨by rw [h1.cell]; rfl, by rw [h1.cell]; rfl, by rw [h1.cell]; rfl, by rw [h1.cell]; rfl⟩))
  have HEND := hide (fun (w1 : World) (hb : Below W.heap.size W w1) => (show Below w.heap.size w w1 from hB0.trans (hb.mono hB0.size)))
  have HT := hide (hT.below hB0)
  have HL := hide (show Calls Tryd.prog 11 #[] (w.alloc (.cells #[.int .i64 kd, .int .i64 p, .int .i64 q, .string tx] 31)) (fun e w' => e = .returned (.bool true) ∧ Below W.heap.size W w') from by
    rw [← hW]
    exact lives_any W (hT.below hB0))
  have HM := hide hm
  obtain ⟨A, c, rfl, _⟩ := id hr
  obtain ⟨N, hN⟩ : ∃ N, N = l.length := ⟨_, rfl⟩
  have HR := hide (show Rd W (.slice A N c) 4 N (rows Ac.cells l) by rw [hN]; exact hr.belowR hB0)
  rw [← hN]
  have HN := hide hN
  clear hr hm hT hW hblk hB0 hN
  by_cases h3 : 300 < s.size
  · have z1 : decide (300 < s.size) = true := by simpa using h3
    have z1' : decide ((300 : Int) < (s.size : Int)) = true := by simp; omega
    clear h3
    go_enter Tryd.func10, Tryd.ntmps10
    go_wp2_with fail
    refine (Calls.mono (HL.out)) ?_
    rintro r w2 ⟨rfl, h2⟩
    have H2 := hide (HEND.out _ h2)
    clear h2
    go_wp2
    go_ret
    exact ⟨rfl, H2.out⟩
  · have z1 : decide (300 < s.size) = false := by simpa using h3
    have z1' : decide ((300 : Int) < (s.size : Int)) = false := by simp; omega
    have HS := hide (show s.size ≤ 300 by omega)
    clear h3 hs
    cases hli : lightB l with
    | false =>
      have HLF := hide hli
      clear hli
      go_enter Tryd.func10, Tryd.ntmps10
      go_wp2_with fail
      refine (Calls.mono (HL.out)) ?_
      rintro r w2 ⟨rfl, h2⟩
      have H2 := hide ((Own.refl W).below h2)
      clear h2 HL
      go_wp2_with fail
      refine (Calls.mono (light_own H2.out l (HR.out.belowR H2.out.bel) HN.out HM.out HLF.out)) ?_
      rintro r w3 ⟨rfl, h3⟩
      have H3 := hide (HEND.out _ h3.bel)
      clear h3
      go_wp2
      go_ret
      exact ⟨rfl, H3.out⟩
    | true =>
      have HLF := hide hli
      have HLI := hide (lightB_iff.1 hli)
      clear hli
      cases hla : lightB [⟨kd, p, q, tx⟩] with
      | false =>
        have HLA := hide hla
        clear hla
        go_enter Tryd.func10, Tryd.ntmps10
        go_wp2_with fail
        refine (Calls.mono (HL.out)) ?_
        rintro r w2 ⟨rfl, h2⟩
        have H2 := hide ((Own.refl W).below h2)
        clear h2 HL
        go_wp2_with fail
        refine (Calls.mono (light_own H2.out l (HR.out.belowR H2.out.bel) HN.out HM.out HLF.out)) ?_
        rintro r w3 ⟨rfl, h3⟩
        have H3 := hide h3
        have HRA := hide (rd_elem w3 31 4 (Ac.cells ⟨kd, p, q, tx⟩) rfl)
        have HO3 := hide (h3.skip (.cells (Ac.cells ⟨kd, p, q, tx⟩).toArray 31))
        obtain ⟨b0, b1, b2, b3⟩ := HBC.out _ h3.bel
        clear h3
        go_wp2_with fail
        refine Calls.mono (light_own (R := []) HO3.out [⟨kd, p, q, tx⟩] (HRA.out) rfl (by simp [maxLen]) HLA.out) ?_
        rintro r w4 ⟨rfl, h4⟩
        have H4 := hide h4
        clear h4 b0 b1 b2 b3
        go_wp2
        go_ret
        exact ⟨rfl, HEND.out _ H4.out.bel⟩
      | true =>
        have HLA := hide hla
        have HTX := hide (show tx.size ≤ 200 from (lightB_iff.1 hla).1 ⟨kd, p, q, tx⟩ (List.mem_singleton.2 rfl))
        clear hla
        go_enter Tryd.func10, Tryd.ntmps10
        go_wp2_with fail
        refine (Calls.mono (HL.out)) ?_
        rintro r w2 ⟨rfl, h2⟩
        have H2 := hide ((Own.refl W).below h2)
        clear h2 HL
        go_wp2_with fail
        refine (Calls.mono (light_own H2.out l (HR.out.belowR H2.out.bel) HN.out HM.out HLF.out)) ?_
        rintro r w3 ⟨rfl, h3⟩
        have H3 := hide h3
        have HRA := hide (rd_elem w3 31 4 (Ac.cells ⟨kd, p, q, tx⟩) rfl)
        have HO3 := hide (h3.skip (.cells (Ac.cells ⟨kd, p, q, tx⟩).toArray 31))
        obtain ⟨b0, b1, b2, b3⟩ := HBC.out _ h3.bel
        clear h3
        go_wp2_with fail
        refine Calls.mono (light_own (R := []) HO3.out [⟨kd, p, q, tx⟩] (HRA.out) rfl (by simp [maxLen]) HLA.out) ?_
        rintro r w4 ⟨rfl, h4⟩
        have H4 := hide h4
        clear h4 b0 b1 b2 b3
        clear HLA HLF
        have HNA := hide slice_nil
        have HNB := hide char_nil
        have HNC := hide (find_nil p)
        have HND := hide (findback_nil p)
        have HNE := hide line_nil
        have HNF := hide lineat_nil
        have HNG := hide (insert_nil p tx)
        have HNH := hide (delete_nil p q)
        have HNI := hide size_nil
        have HNJ := hide lines_nil
        have HNK := hide all_nil
        have HNL := hide copy_nil
        obtain ⟨b0, b1, b2, b3⟩ := HBC.out _ H4.out.bel
        go_wp2_with fail
        refine Calls.mono (HNA.out _) ?_
        rintro r w90 ⟨rfl, rfl⟩
        go_wp2_with fail
        refine Calls.mono (HNB.out _) ?_
        rintro r w90 ⟨rfl, rfl⟩
        go_wp2_with fail
        refine Calls.mono (HNC.out _) ?_
        rintro r w90 ⟨rfl, rfl⟩
        go_wp2_with fail
        refine Calls.mono (HND.out _) ?_
        rintro r w90 ⟨rfl, rfl⟩
        go_wp2_with fail
        refine Calls.mono (HNE.out _) ?_
        rintro r w90 ⟨rfl, rfl⟩
        go_wp2_with fail
        refine Calls.mono (HNF.out _) ?_
        rintro r w90 ⟨rfl, rfl⟩
        go_wp2_with fail
        refine Calls.mono (HNG.out _) ?_
        rintro r w90 ⟨rfl, rfl⟩
        go_wp2_with fail
        refine Calls.mono (HNH.out _) ?_
        rintro r w90 ⟨rfl, rfl⟩
        go_wp2_with fail
        refine Calls.mono (HNI.out _) ?_
        rintro r w90 ⟨rfl, rfl⟩
        go_wp2_with fail
        refine Calls.mono (HNJ.out _) ?_
        rintro r w90 ⟨rfl, rfl⟩
        go_wp2_with fail
        refine Calls.mono (HNK.out _) ?_
        rintro r w90 ⟨rfl, rfl⟩
        go_wp2_with fail
        refine Calls.mono (HNL.out _) ?_
        rintro r w90 ⟨rfl, rfl⟩
        clear HNA HNB HNC HND HNE HNF HNG HNH HNI HNJ HNK HNL b0 b1 b2 b3
        go_wp2_with fail
        refine Calls.mono (new_short H4.out HT.out s HS.out) ?_
        rintro r w5 (⟨rfl, _, h5⟩ | ⟨tb, rfl, hv, h5⟩)
        · have H5 := hide h5
          clear h5
          go_wp2
          go_ret
          exact ⟨rfl, HEND.out _ H5.out.bel⟩
        · have H5 := hide h5
          have HV := hide hv
          clear h5 hv H4
          go_wp2_with fail
          refine Calls.mono (copy_any H5.out) ?_
          rintro r w6 ⟨t2, rfl, h6⟩
          have H6 := hide h6.flip
          clear h6 H5
          obtain ⟨L0, hL0⟩ : ∃ L0, L0 = charsOf s := ⟨_, rfl⟩
          have HL0 := hide hL0
          rw [← hL0] at H6
          have hN4 : N ≤ 40 := by have := HLI.out.2; have := HN.out; omega
          clear hL0
          go_wp2
          go_loopw [24] (fun t wr => ∃ (k : Nat) (L : List Nat), t = .int .i64 (k : Int) ∧ k ≤ N ∧ Two W wr t2 L tb L0) (fun t _ => N - (intOf t).toNat)
          case atStart => exact ⟨0, L0, rfl, Nat.zero_le _, H6.out⟩
          case round =>
            obtain ⟨k, L, rfl, hk, hX⟩ := hrel
            have HX := hide hX
            by_cases hlt : k < N
            · have y1 : decide (k < N) = true := by simpa using hlt
              have y2 : decide ((k : Int) < (N : Int)) = true := by simp; omega
              obtain ⟨g, off, rfl⟩ := HR.out.some_ (by omega)
              obtain ⟨x, hx⟩ : ∃ x, l[k]? = some x := ⟨_, List.getElem?_eq_getElem (by rw [← HN.out]; exact hlt)⟩
              obtain ⟨kd2, p2, q2, tx2⟩ := x
              obtain ⟨q0, q1, q2, q3⟩ := Rd.atA (HR.out.belowR hX.bel) hx
              have HTX2 := hide (show tx2.size ≤ 200 from HLI.out.1 _ (List.mem_of_getElem? hx))
              have HLT := hide hlt
              clear hx hX
              go_wp2_with fail
              refine (Calls.mono (two_do HX.out HT.out HTX2.out)) ?_
              rintro r w7 ⟨n7, rfl, h7⟩
              have H7 := hide h7
              clear h7 q0 q1 q2 q3
              go_wp2
              go_roundw
              case rel => exact ⟨k + 1, _, by go_num, HLT.out, H7.out⟩
              case measure => have := HLT.out; simp [intOf]; omega
            · have y1 : decide (k < N) = false := by simpa using hlt
              have y2 : decide ((k : Int) < (N : Int)) = false := by simp; omega
              clear hlt hX
              go_wp2_with fail
              refine (Calls.mono (two_all HX.out)) ?_
              rintro r w7 ⟨rfl, h7⟩
              have H7 := hide h7.flip
              clear h7
              obtain ⟨b0, b1, b2, b3⟩ := HBC.out _ H7.out.bel
              go_wp2_with fail
              refine (Calls.mono (two_do H7.out HT.out HTX.out)) ?_
              rintro r w8 ⟨n8, rfl, h8⟩
              have H8 := hide h8.flip
              clear h8 b0 b1 b2 b3
              go_wp2_with fail
              refine (Calls.mono (two_all H8.out)) ?_
              rintro r w9 ⟨rfl, h9⟩
              have H9 := hide h9.flip
              clear h9
              go_wp2_with fail
              refine (Calls.mono (two_new H9.out HT.out s HS.out HV.out)) ?_
              rintro r w10 ⟨u, rfl, h10⟩
              have H10 := hide h10
              clear h10
              rw [← HL0.out] at H10
              obtain ⟨b0, b1, b2, b3⟩ := HBC.out _ H10.out.bel
              go_wp2_with fail
              refine (Calls.mono (two_do H10.out HT.out HTX.out)) ?_
              rintro r w11 ⟨n11, rfl, h11⟩
              have H11 := hide h11.flip
              clear h11 b0 b1 b2 b3
              go_wp2_with fail
              refine (Calls.mono (two_all H11.out)) ?_
              rintro r w12 ⟨rfl, h12⟩
              have H12 := hide h12.flip
              clear h12
              go_wp2_with fail
              refine (Calls.mono (two_all H12.out)) ?_
              rintro r w13 ⟨rfl, h13⟩
              have H13 := hide h13
              clear h13
              go_wp2
              go_ret
              exact ⟨rfl, HEND.out _ H13.out.bel⟩
end Go.Proofs.YtbljppcaikhjhaaDoor
