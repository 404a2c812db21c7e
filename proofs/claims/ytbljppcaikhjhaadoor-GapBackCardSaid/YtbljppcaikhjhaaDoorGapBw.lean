/- GapBack: the walk. No condition but those written. -/
import Derived.Test.YtbljppcaikhjhaaDoorGapBk
namespace Go.Proofs.YtbljppcaikhjhaaDoor
open Go.RowKit

set_option maxRecDepth 100000 in
set_option maxHeartbeats 16000000 in
theorem back_walk (s : ByteArray) (x y : Int) (X : ByteArray) (w : World) (hT : Tabs w) (hs : s.size < 9223372036854775807) (hX : X.size < 9223372036854775807) : Calls Tryd.prog 4 #[.string s, .int .i64 x, .int .i64 y, .string X] w fun e w' => e = .returned (.bool true) ∧ Below w.heap.size w w' := by
  have HL := hide (lives_any w hT)
  have HT := hide hT
  by_cases h3 : 300 < s.size
  · have z1 : decide (300 < s.size) = true := by simpa using h3
    have z1' : decide ((300 : Int) < (s.size : Int)) = true := by simp; omega
    clear hT h3
    go_enter Tryd.func4, Tryd.ntmps4
    go_wp2_with fail
    refine (Calls.mono (HL.out)) ?_
    rintro r w2 ⟨rfl, h2⟩
    have H2 := hide h2
    clear h2
    go_wp2
    go_ret
    exact ⟨rfl, H2.out⟩
  · have z1 : decide (300 < s.size) = false := by simpa using h3
    have z1' : decide ((300 : Int) < (s.size : Int)) = false := by simp; omega
    have HS := hide (show s.size ≤ 300 by omega)
    by_cases h4 : 300 < X.size
    · have z2 : decide (300 < X.size) = true := by simpa using h4
      have z2' : decide ((300 : Int) < (X.size : Int)) = true := by simp; omega
      clear hT h3 h4
      go_enter Tryd.func4, Tryd.ntmps4
      go_wp2_with fail
      refine (Calls.mono (HL.out)) ?_
      rintro r w2 ⟨rfl, h2⟩
      have H2 := hide h2
      clear h2
      go_wp2
      go_ret
      exact ⟨rfl, H2.out⟩
    · have z2 : decide (300 < X.size) = false := by simpa using h4
      have z2' : decide ((300 : Int) < (X.size : Int)) = false := by simp; omega
      have hX3 : X.size ≤ 300 := by omega
      clear hT h3 h4 hs hX
      go_enter Tryd.func4, Tryd.ntmps4
      go_wp2_with fail
      refine (Calls.mono (HL.out)) ?_
      rintro r w2 ⟨rfl, h2⟩
      have H2 := hide ((Own.refl w).below h2)
      clear h2 HL
      go_wp2_with fail
      refine Calls.mono (new_short H2.out HT.out s HS.out) ?_
      rintro r w3 (⟨rfl, hv, h3⟩ | ⟨tb, rfl, hv, h3⟩)
      · have HV := hide (ref_valid s w w3 h3 HS.out hv)
        clear h3 hv H2
        go_wp2_with fail
        refine (Calls.mono (HV.out)) ?_
        rintro r w4 ⟨rfl, h4⟩
        have H4 := hide h4
        clear h4
        go_wp2
        go_ret
        exact ⟨rfl, H4.out.bel⟩
      · have H3 := hide h3
        have HSTR := hide (str_of_chars hv)
        clear h3 hv H2
        generalize charsOf s = L at *
        clear z1 z1' z2 z2'
        obtain ⟨n0, hn0⟩ : ∃ n0, n0 = L.length := ⟨_, rfl⟩
        have HSZ := hide (fun (w1 : World) (h1 : Txt w w1 tb L []) => (show Calls Tryd.prog 16 #[.pointer (some ⟨tb, 0, none⟩)] w1 (fun e w' => e = .returned (.int .i64 (n0 : Int)) ∧ Txt w w' tb L []) from hn0 ▸ size_txt h1))
        have HN0 := hide hn0
        clear hn0
        go_wp2_with fail
        refine (Calls.mono (HSZ.out _ H3.out)) ?_
        rintro r w4 ⟨rfl, h4⟩
        have HSZW := hide h4
        clear h4
        by_cases he : insErr L x X = 0
        · cases hsp : spanB L x y with
          | true =>
            -- inserted True, in range True
            have h3 := H3.out
            have hn := h3.ok.1
            have hok := h3.ok.2
            have hn0 := HN0.out
            have hn6 : n0 ≤ 65536 := by omega
            have HALL := hide (fun (w1 : World) (h1 : Txt w w1 tb L []) => (show Calls Tryd.prog 20 #[.pointer (some ⟨tb, 0, none⟩)] w1 (fun e w' => e = .returned (.string s) ∧ Txt w w' tb L []) from lives_all h1 HSTR.out))
            obtain ⟨hx1, hx2, hxv, hxl⟩ := insL_ok he
            obtain ⟨L1, hL1⟩ : ∃ L1, L1 = insL L x X := ⟨_, rfl⟩
            obtain ⟨m1, hm1⟩ : ∃ m1, m1 = L1.length := ⟨_, rfl⟩
            obtain ⟨k, hk⟩ : ∃ k, k = x + (m1 : Int) - (n0 : Int) := ⟨_, rfl⟩
            have hm6 : m1 ≤ 65536 + 65536 := by
              rw [hm1, hL1, hxl]
              have := lenS_le X
              have := lenS_eq X
              simp
              omega
            have hb := back_in (X := charsOf X) hx1 hx2 k (by rw [← hxl, ← hL1, ← hm1, ← hn0]; exact hk)
            rw [← hxl, ← hL1, str_of_chars hxv] at hb
            obtain ⟨hb1, hb2, hb3⟩ := hb
            have hwA : IntKind.i64.wrap (x + (m1 : Int)) = x + (m1 : Int) := IntWalk.i64_in _ (by omega)
            have hwB : IntKind.i64.wrap (x + (m1 : Int) - (n0 : Int)) = k := by rw [IntWalk.i64_in _ (by omega)]; exact hk.symm
            have HINS := hide (show Calls Tryd.prog 21 #[.pointer (some ⟨tb, 0, none⟩), .int .i64 x, .string X] w4 (fun e w' => e = .returned (.int .i64 0) ∧ Txt w w' tb L1 []) from lives_in (HSZW.out) HT.out (by omega) he hL1.symm)
            have HSZ1 := hide (fun (w1 : World) (h1 : Txt w w1 tb L1 []) => (show Calls Tryd.prog 16 #[.pointer (some ⟨tb, 0, none⟩)] w1 (fun e w' => e = .returned (.int .i64 (m1 : Int)) ∧ Txt w w' tb L1 []) from hm1 ▸ size_txt h1))
            have HSL1 := hide (fun (w1 : World) (h1 : Txt w w1 tb L1 []) => (show Calls Tryd.prog 15 #[.pointer (some ⟨tb, 0, none⟩), .int .i64 x, .int .i64 k] w1 (fun e w' => e = .returned (.tuple #[.string X, .int .i64 0]) ∧ Txt w w' tb L1 []) from hb1 ▸ slice_txt h1 x k))
            have HDE1 := hide (fun (w1 : World) (h1 : Txt w w1 tb L1 []) => (show Calls Tryd.prog 22 #[.pointer (some ⟨tb, 0, none⟩), .int .i64 x, .int .i64 k] w1 (fun e w' => e = .returned (.int .i64 0) ∧ Txt w w' tb L []) from lives_del h1 hb2 hb3))
            clear hx1 hx2 hxv hxl hL1 hm1 hk hb1 hb2 hb3
            obtain ⟨D, k1, k2, k3, k4, k5, k6⟩ := back_out hsp hok hn
            obtain ⟨sD, hsD⟩ : ∃ sD, sD = strOf D := ⟨_, rfl⟩
            obtain ⟨L2, hL2⟩ : ∃ L2, L2 = delL L x y := ⟨_, rfl⟩
            rw [← hsD] at k1 k2 k5 k6
            rw [← hL2] at k4 k5 k6
            have hb : 1 ≤ x ∧ x ≤ y ∧ y ≤ (L.length : Int) + 1 := by simpa [spanB] using hsp
            obtain ⟨dd, hdd⟩ : ∃ dd, dd = y - x := ⟨_, rfl⟩
            obtain ⟨z, hz⟩ : ∃ z, z = (n0 : Int) - dd := ⟨_, rfl⟩
            have hw1 : IntKind.i64.wrap (y - x) = dd := by rw [IntWalk.i64_in _ (by omega)]; exact hdd.symm
            have hw2 : IntKind.i64.wrap ((n0 : Int) - dd) = z := by rw [IntWalk.i64_in _ (by omega)]; exact hz.symm
            have hz2 : (L2.length : Int) = z := by rw [k4, hz, hdd, hn0]
            have HSL2 := hide (fun (w1 : World) (h1 : Txt w w1 tb L []) => (show Calls Tryd.prog 15 #[.pointer (some ⟨tb, 0, none⟩), .int .i64 x, .int .i64 y] w1 (fun e w' => e = .returned (.tuple #[.string sD, .int .i64 0]) ∧ Txt w w' tb L []) from k1 ▸ slice_txt h1 x y))
            have HDE2 := hide (fun (w1 : World) (h1 : Txt w w1 tb L []) => (show Calls Tryd.prog 22 #[.pointer (some ⟨tb, 0, none⟩), .int .i64 x, .int .i64 y] w1 (fun e w' => e = .returned (.int .i64 0) ∧ Txt w w' tb L2 []) from lives_del h1 k3 hL2.symm))
            have HSZ2 := hide (fun (w1 : World) (h1 : Txt w w1 tb L2 []) => (show Calls Tryd.prog 16 #[.pointer (some ⟨tb, 0, none⟩)] w1 (fun e w' => e = .returned (.int .i64 z) ∧ Txt w w' tb L2 []) from hz2 ▸ size_txt h1))
            have HIN2 := hide (fun (w1 : World) (h1 : Txt w w1 tb L2 []) => (show Calls Tryd.prog 21 #[.pointer (some ⟨tb, 0, none⟩), .int .i64 x, .string sD] w1 (fun e w' => e = .returned (.int .i64 0) ∧ Txt w w' tb L []) from lives_in h1 HT.out k2 k5 k6))
            clear hsp hok h3 k1 k2 k3 k4 k5 k6 hsD hL2 hb hdd hz hz2 he hn0 hn
            go_wp2_with fail
            refine (Calls.mono (HINS.out)) ?_
            rintro r w5 ⟨rfl, h5⟩
            have H5 := hide h5
            clear h5
            go_wp2_with fail
            refine (Calls.mono (HSZ1.out _ H5.out)) ?_
            rintro r w6 ⟨rfl, h6⟩
            have H6 := hide h6
            clear h6
            go_wp2_with fail
            refine (Calls.mono (HSL1.out _ H6.out)) ?_
            rintro r w7 ⟨rfl, h7⟩
            have H7 := hide h7
            clear h7
            go_wp2_with fail
            refine (Calls.mono (HSZ1.out _ H7.out)) ?_
            rintro r w8 ⟨rfl, h8⟩
            have H8 := hide h8
            clear h8
            go_wp2_with fail
            refine (Calls.mono (HDE1.out _ H8.out)) ?_
            rintro r w9 ⟨rfl, h9⟩
            have H9 := hide h9
            clear h9
            go_wp2_with fail
            refine (Calls.mono (HALL.out _ H9.out)) ?_
            rintro r w10 ⟨rfl, h10⟩
            have H10 := hide h10
            clear h10
            go_wp2_with fail
            refine (Calls.mono (HSL2.out _ H10.out)) ?_
            rintro r w11 ⟨rfl, h11⟩
            have H11 := hide h11
            clear h11
            go_wp2_with fail
            refine (Calls.mono (HDE2.out _ H11.out)) ?_
            rintro r w12 ⟨rfl, h12⟩
            have H12 := hide h12
            clear h12
            go_wp2_with fail
            refine (Calls.mono (HSZ2.out _ H12.out)) ?_
            rintro r w13 ⟨rfl, h13⟩
            have H13 := hide h13
            clear h13
            go_wp2_with fail
            refine (Calls.mono (HIN2.out _ H13.out)) ?_
            rintro r w14 ⟨rfl, h14⟩
            have H14 := hide h14
            clear h14
            go_wp2_with fail
            refine (Calls.mono (HALL.out _ H14.out)) ?_
            rintro r w15 ⟨rfl, h15⟩
            have H15 := hide h15
            clear h15
            go_wp2_with fail
            refine (Calls.mono (HSZ.out _ H15.out)) ?_
            rintro r w16 ⟨rfl, h16⟩
            have H16 := hide h16
            clear h16
            go_wp2
            go_ret
            exact ⟨rfl, H16.out.bel⟩
          | false =>
            -- inserted True, in range False
            have h3 := H3.out
            have hn := h3.ok.1
            have hok := h3.ok.2
            have hn0 := HN0.out
            have hn6 : n0 ≤ 65536 := by omega
            have HALL := hide (fun (w1 : World) (h1 : Txt w w1 tb L []) => (show Calls Tryd.prog 20 #[.pointer (some ⟨tb, 0, none⟩)] w1 (fun e w' => e = .returned (.string s) ∧ Txt w w' tb L []) from lives_all h1 HSTR.out))
            obtain ⟨hx1, hx2, hxv, hxl⟩ := insL_ok he
            obtain ⟨L1, hL1⟩ : ∃ L1, L1 = insL L x X := ⟨_, rfl⟩
            obtain ⟨m1, hm1⟩ : ∃ m1, m1 = L1.length := ⟨_, rfl⟩
            obtain ⟨k, hk⟩ : ∃ k, k = x + (m1 : Int) - (n0 : Int) := ⟨_, rfl⟩
            have hm6 : m1 ≤ 65536 + 65536 := by
              rw [hm1, hL1, hxl]
              have := lenS_le X
              have := lenS_eq X
              simp
              omega
            have hb := back_in (X := charsOf X) hx1 hx2 k (by rw [← hxl, ← hL1, ← hm1, ← hn0]; exact hk)
            rw [← hxl, ← hL1, str_of_chars hxv] at hb
            obtain ⟨hb1, hb2, hb3⟩ := hb
            have hwA : IntKind.i64.wrap (x + (m1 : Int)) = x + (m1 : Int) := IntWalk.i64_in _ (by omega)
            have hwB : IntKind.i64.wrap (x + (m1 : Int) - (n0 : Int)) = k := by rw [IntWalk.i64_in _ (by omega)]; exact hk.symm
            have HINS := hide (show Calls Tryd.prog 21 #[.pointer (some ⟨tb, 0, none⟩), .int .i64 x, .string X] w4 (fun e w' => e = .returned (.int .i64 0) ∧ Txt w w' tb L1 []) from lives_in (HSZW.out) HT.out (by omega) he hL1.symm)
            have HSZ1 := hide (fun (w1 : World) (h1 : Txt w w1 tb L1 []) => (show Calls Tryd.prog 16 #[.pointer (some ⟨tb, 0, none⟩)] w1 (fun e w' => e = .returned (.int .i64 (m1 : Int)) ∧ Txt w w' tb L1 []) from hm1 ▸ size_txt h1))
            have HSL1 := hide (fun (w1 : World) (h1 : Txt w w1 tb L1 []) => (show Calls Tryd.prog 15 #[.pointer (some ⟨tb, 0, none⟩), .int .i64 x, .int .i64 k] w1 (fun e w' => e = .returned (.tuple #[.string X, .int .i64 0]) ∧ Txt w w' tb L1 []) from hb1 ▸ slice_txt h1 x k))
            have HDE1 := hide (fun (w1 : World) (h1 : Txt w w1 tb L1 []) => (show Calls Tryd.prog 22 #[.pointer (some ⟨tb, 0, none⟩), .int .i64 x, .int .i64 k] w1 (fun e w' => e = .returned (.int .i64 0) ∧ Txt w w' tb L []) from lives_del h1 hb2 hb3))
            clear hx1 hx2 hxv hxl hL1 hm1 hk hb1 hb2 hb3
            have HSL2 := hide (fun (w1 : World) (h1 : Txt w w1 tb L []) => (show Calls Tryd.prog 15 #[.pointer (some ⟨tb, 0, none⟩), .int .i64 x, .int .i64 y] w1 (fun e w' => e = .returned (.tuple #[.string ⟨#[]⟩, .int .i64 3]) ∧ Txt w w' tb L []) from (show sliceR L x y = .tuple #[.string ⟨#[]⟩, .int .i64 3] from by unfold sliceR; simp [hsp]) ▸ slice_txt h1 x y))
            have HDE2 := hide (fun (w1 : World) (h1 : Txt w w1 tb L []) => (show Calls Tryd.prog 22 #[.pointer (some ⟨tb, 0, none⟩), .int .i64 x, .int .i64 y] w1 (fun e w' => e = .returned (.int .i64 3) ∧ Txt w w' tb L []) from (by have := delete_any h1 x y; unfold delErr delL at this; rw [hsp] at this; exact this)))
            clear hsp hok h3 he hn0 hn
            go_wp2_with fail
            refine (Calls.mono (HINS.out)) ?_
            rintro r w5 ⟨rfl, h5⟩
            have H5 := hide h5
            clear h5
            go_wp2_with fail
            refine (Calls.mono (HSZ1.out _ H5.out)) ?_
            rintro r w6 ⟨rfl, h6⟩
            have H6 := hide h6
            clear h6
            go_wp2_with fail
            refine (Calls.mono (HSL1.out _ H6.out)) ?_
            rintro r w7 ⟨rfl, h7⟩
            have H7 := hide h7
            clear h7
            go_wp2_with fail
            refine (Calls.mono (HSZ1.out _ H7.out)) ?_
            rintro r w8 ⟨rfl, h8⟩
            have H8 := hide h8
            clear h8
            go_wp2_with fail
            refine (Calls.mono (HDE1.out _ H8.out)) ?_
            rintro r w9 ⟨rfl, h9⟩
            have H9 := hide h9
            clear h9
            go_wp2_with fail
            refine (Calls.mono (HALL.out _ H9.out)) ?_
            rintro r w10 ⟨rfl, h10⟩
            have H10 := hide h10
            clear h10
            go_wp2_with fail
            refine (Calls.mono (HSL2.out _ H10.out)) ?_
            rintro r w11 ⟨rfl, h11⟩
            have H11 := hide h11
            clear h11
            go_wp2_with fail
            refine (Calls.mono (HDE2.out _ H11.out)) ?_
            rintro r w12 ⟨rfl, h12⟩
            have H12 := hide h12
            clear h12
            go_wp2_with fail
            refine (Calls.mono (HALL.out _ H12.out)) ?_
            rintro r w15 ⟨rfl, h15⟩
            have H15 := hide h15
            clear h15
            go_wp2_with fail
            refine (Calls.mono (HSZ.out _ H15.out)) ?_
            rintro r w16 ⟨rfl, h16⟩
            have H16 := hide h16
            clear h16
            go_wp2
            go_ret
            exact ⟨rfl, H16.out.bel⟩
        · cases hsp : spanB L x y with
          | true =>
            -- inserted False, in range True
            have h3 := H3.out
            have hn := h3.ok.1
            have hok := h3.ok.2
            have hn0 := HN0.out
            have hn6 : n0 ≤ 65536 := by omega
            have HALL := hide (fun (w1 : World) (h1 : Txt w w1 tb L []) => (show Calls Tryd.prog 20 #[.pointer (some ⟨tb, 0, none⟩)] w1 (fun e w' => e = .returned (.string s) ∧ Txt w w' tb L []) from lives_all h1 HSTR.out))
            obtain ⟨er, her⟩ : ∃ er, er = insErr L x X := ⟨_, rfl⟩
            have her0 : (er == 0) = false := by rw [her]; simpa using he
            have HINS := hide (show Calls Tryd.prog 21 #[.pointer (some ⟨tb, 0, none⟩), .int .i64 x, .string X] w4 (fun e w' => e = .returned (.int .i64 er) ∧ Txt w w' tb L []) from by
              have := insert_any HSZW.out HT.out x X (by omega)
              rwa [insL_bad he, ← her] at this)
            clear her
            obtain ⟨D, k1, k2, k3, k4, k5, k6⟩ := back_out hsp hok hn
            obtain ⟨sD, hsD⟩ : ∃ sD, sD = strOf D := ⟨_, rfl⟩
            obtain ⟨L2, hL2⟩ : ∃ L2, L2 = delL L x y := ⟨_, rfl⟩
            rw [← hsD] at k1 k2 k5 k6
            rw [← hL2] at k4 k5 k6
            have hb : 1 ≤ x ∧ x ≤ y ∧ y ≤ (L.length : Int) + 1 := by simpa [spanB] using hsp
            obtain ⟨dd, hdd⟩ : ∃ dd, dd = y - x := ⟨_, rfl⟩
            obtain ⟨z, hz⟩ : ∃ z, z = (n0 : Int) - dd := ⟨_, rfl⟩
            have hw1 : IntKind.i64.wrap (y - x) = dd := by rw [IntWalk.i64_in _ (by omega)]; exact hdd.symm
            have hw2 : IntKind.i64.wrap ((n0 : Int) - dd) = z := by rw [IntWalk.i64_in _ (by omega)]; exact hz.symm
            have hz2 : (L2.length : Int) = z := by rw [k4, hz, hdd, hn0]
            have HSL2 := hide (fun (w1 : World) (h1 : Txt w w1 tb L []) => (show Calls Tryd.prog 15 #[.pointer (some ⟨tb, 0, none⟩), .int .i64 x, .int .i64 y] w1 (fun e w' => e = .returned (.tuple #[.string sD, .int .i64 0]) ∧ Txt w w' tb L []) from k1 ▸ slice_txt h1 x y))
            have HDE2 := hide (fun (w1 : World) (h1 : Txt w w1 tb L []) => (show Calls Tryd.prog 22 #[.pointer (some ⟨tb, 0, none⟩), .int .i64 x, .int .i64 y] w1 (fun e w' => e = .returned (.int .i64 0) ∧ Txt w w' tb L2 []) from lives_del h1 k3 hL2.symm))
            have HSZ2 := hide (fun (w1 : World) (h1 : Txt w w1 tb L2 []) => (show Calls Tryd.prog 16 #[.pointer (some ⟨tb, 0, none⟩)] w1 (fun e w' => e = .returned (.int .i64 z) ∧ Txt w w' tb L2 []) from hz2 ▸ size_txt h1))
            have HIN2 := hide (fun (w1 : World) (h1 : Txt w w1 tb L2 []) => (show Calls Tryd.prog 21 #[.pointer (some ⟨tb, 0, none⟩), .int .i64 x, .string sD] w1 (fun e w' => e = .returned (.int .i64 0) ∧ Txt w w' tb L []) from lives_in h1 HT.out k2 k5 k6))
            clear hsp hok h3 k1 k2 k3 k4 k5 k6 hsD hL2 hb hdd hz hz2 he hn0 hn
            go_wp2_with fail
            refine (Calls.mono (HINS.out)) ?_
            rintro r w9 ⟨rfl, h9⟩
            have H9 := hide h9
            clear h9
            go_wp2_with fail
            refine (Calls.mono (HALL.out _ H9.out)) ?_
            rintro r w10 ⟨rfl, h10⟩
            have H10 := hide h10
            clear h10
            go_wp2_with fail
            refine (Calls.mono (HSL2.out _ H10.out)) ?_
            rintro r w11 ⟨rfl, h11⟩
            have H11 := hide h11
            clear h11
            go_wp2_with fail
            refine (Calls.mono (HDE2.out _ H11.out)) ?_
            rintro r w12 ⟨rfl, h12⟩
            have H12 := hide h12
            clear h12
            go_wp2_with fail
            refine (Calls.mono (HSZ2.out _ H12.out)) ?_
            rintro r w13 ⟨rfl, h13⟩
            have H13 := hide h13
            clear h13
            go_wp2_with fail
            refine (Calls.mono (HIN2.out _ H13.out)) ?_
            rintro r w14 ⟨rfl, h14⟩
            have H14 := hide h14
            clear h14
            go_wp2_with fail
            refine (Calls.mono (HALL.out _ H14.out)) ?_
            rintro r w15 ⟨rfl, h15⟩
            have H15 := hide h15
            clear h15
            go_wp2_with fail
            refine (Calls.mono (HSZ.out _ H15.out)) ?_
            rintro r w16 ⟨rfl, h16⟩
            have H16 := hide h16
            clear h16
            go_wp2
            go_ret
            exact ⟨rfl, H16.out.bel⟩
          | false =>
            -- inserted False, in range False
            have h3 := H3.out
            have hn := h3.ok.1
            have hok := h3.ok.2
            have hn0 := HN0.out
            have hn6 : n0 ≤ 65536 := by omega
            have HALL := hide (fun (w1 : World) (h1 : Txt w w1 tb L []) => (show Calls Tryd.prog 20 #[.pointer (some ⟨tb, 0, none⟩)] w1 (fun e w' => e = .returned (.string s) ∧ Txt w w' tb L []) from lives_all h1 HSTR.out))
            obtain ⟨er, her⟩ : ∃ er, er = insErr L x X := ⟨_, rfl⟩
            have her0 : (er == 0) = false := by rw [her]; simpa using he
            have HINS := hide (show Calls Tryd.prog 21 #[.pointer (some ⟨tb, 0, none⟩), .int .i64 x, .string X] w4 (fun e w' => e = .returned (.int .i64 er) ∧ Txt w w' tb L []) from by
              have := insert_any HSZW.out HT.out x X (by omega)
              rwa [insL_bad he, ← her] at this)
            clear her
            have HSL2 := hide (fun (w1 : World) (h1 : Txt w w1 tb L []) => (show Calls Tryd.prog 15 #[.pointer (some ⟨tb, 0, none⟩), .int .i64 x, .int .i64 y] w1 (fun e w' => e = .returned (.tuple #[.string ⟨#[]⟩, .int .i64 3]) ∧ Txt w w' tb L []) from (show sliceR L x y = .tuple #[.string ⟨#[]⟩, .int .i64 3] from by unfold sliceR; simp [hsp]) ▸ slice_txt h1 x y))
            have HDE2 := hide (fun (w1 : World) (h1 : Txt w w1 tb L []) => (show Calls Tryd.prog 22 #[.pointer (some ⟨tb, 0, none⟩), .int .i64 x, .int .i64 y] w1 (fun e w' => e = .returned (.int .i64 3) ∧ Txt w w' tb L []) from (by have := delete_any h1 x y; unfold delErr delL at this; rw [hsp] at this; exact this)))
            clear hsp hok h3 he hn0 hn
            go_wp2_with fail
            refine (Calls.mono (HINS.out)) ?_
            rintro r w9 ⟨rfl, h9⟩
            have H9 := hide h9
            clear h9
            go_wp2_with fail
            refine (Calls.mono (HALL.out _ H9.out)) ?_
            rintro r w10 ⟨rfl, h10⟩
            have H10 := hide h10
            clear h10
            go_wp2_with fail
            refine (Calls.mono (HSL2.out _ H10.out)) ?_
            rintro r w11 ⟨rfl, h11⟩
            have H11 := hide h11
            clear h11
            go_wp2_with fail
            refine (Calls.mono (HDE2.out _ H11.out)) ?_
            rintro r w12 ⟨rfl, h12⟩
            have H12 := hide h12
            clear h12
            go_wp2_with fail
            refine (Calls.mono (HALL.out _ H12.out)) ?_
            rintro r w15 ⟨rfl, h15⟩
            have H15 := hide h15
            clear h15
            go_wp2_with fail
            refine (Calls.mono (HSZ.out _ H15.out)) ?_
            rintro r w16 ⟨rfl, h16⟩
            have H16 := hide h16
            clear h16
            go_wp2
            go_ret
            exact ⟨rfl, H16.out.bel⟩
end Go.Proofs.YtbljppcaikhjhaaDoor
