/- GapLines: the walk. No condition but those written. -/
import Derived.Test.YtbljppcaikhjhaaDoorGapLi
import Derived.Laws.Concat
namespace Go.Proofs.YtbljppcaikhjhaaDoor
open Go.RowKit

theorem Rd.belowR {w w' : World} {v : Value} {k n : Nat} {xs : List Value} (h : Rd w v k n xs) (hb : Below w.heap.size w w') : Rd w' v k n xs := h.only (Only.of_below hb) fun _ _ f => f
theorem light_txt {W w : World} {R : Heap} (hb : Own W w R) (l : List Ac) (v : Value) (h : Rd W v 4 l.length (rows Ac.cells l)) (hn : l.length ≤ maxLen) (hW : Below W.heap.size W w) : Calls Tryd.prog 12 #[v] w fun e w' => e = .returned (.bool (lightB l)) ∧ Own W w' R :=
  (light_any l v w (h.belowR hW) hn).mono fun e w' hh => ⟨hh.1, hh.2 ▸ hb⟩
theorem lines_m {W w : World} {tb M : Nat} {L : List Nat} {R : Heap} (h : Txt W w tb L R) (hM : M = linesN L) : Calls Tryd.prog 27 #[.pointer (some ⟨tb, 0, none⟩)] w fun e w' => e = .returned (.int .i64 (M : Int)) ∧ Txt W w' tb L R := hM ▸ lines_txt h
theorem line_m {W w : World} {tb : Nat} {L : List Nat} {R : Heap} {x : Int} {v : Value} (h : Txt W w tb L R) (hv : lineR L x = v) : Calls Tryd.prog 28 #[.pointer (some ⟨tb, 0, none⟩), .int .i64 x] w fun e w' => e = .returned v ∧ Txt W w' tb L R := hv ▸ line_txt h x
theorem slice_m {W w : World} {tb : Nat} {L : List Nat} {R : Heap} {x y : Int} {v : Value} (h : Txt W w tb L R) (hv : sliceR L x y = v) : Calls Tryd.prog 15 #[.pointer (some ⟨tb, 0, none⟩), .int .i64 x, .int .i64 y] w fun e w' => e = .returned v ∧ Txt W w' tb L R := hv ▸ slice_txt h x y
theorem find_m {W w : World} {tb : Nat} {L : List Nat} {R : Heap} {c x y : Int} {u : Value} (h : Txt W w tb L R) (hv : ∀ v, FirstAt L c (max x 1) (min y ((L.length : Int) + 1)) v → v = u) : Calls Tryd.prog 24 #[.pointer (some ⟨tb, 0, none⟩), .int .i64 c, .int .i64 x, .int .i64 y] w fun e w' => e = .returned u ∧ Txt W w' tb L R :=
  (find_txt h c x y).mono fun e w' ⟨v, he, hf, ht⟩ => ⟨by rw [he, hv v hf], ht⟩
theorem lineat_m {W w : World} {tb : Nat} {L : List Nat} {R : Heap} {x : Int} {v : Value} (h : Txt W w tb L R) (hv : (if 1 ≤ x ∧ x ≤ (L.length : Int) + 1 then .tuple #[.int .i64 (lineOf L x.toNat : Int), .bool true] else .tuple #[.int .i64 0, .bool false]) = v) : Calls Tryd.prog 29 #[.pointer (some ⟨tb, 0, none⟩), .int .i64 x] w fun e w' => e = .returned v ∧ Txt W w' tb L R := by
  have h0 := h
  obtain ⟨b, rfl, h⟩ := h
  exact hv ▸ txt_of h0 (lineat_any h x)
theorem size_m {W w : World} {tb T : Nat} {L : List Nat} {R : Heap} (h : Txt W w tb L R) (hT : T = L.length) : Calls Tryd.prog 16 #[.pointer (some ⟨tb, 0, none⟩)] w fun e w' => e = .returned (.int .i64 (T : Int)) ∧ Txt W w' tb L R := hT ▸ size_txt h
theorem empty_app (b : ByteArray) : (⟨#[]⟩ : ByteArray) ++ b = b := by
  apply ByteArray.ext
  simp [ByteArray.data_append]
theorem strOf_ten : strOf [10] = ⟨#[10]⟩ := by decide
theorem line_strs {L : List Nat} {n : Nat} {all : ByteArray} {X : List Nat} (h1 : 1 ≤ n) (h2 : n ≤ linesN L) (hX : X = (L.drop (lineA L n - 1)).take (lineZ L n - lineA L n)) (ha1 : n = 1 → all = ⟨#[]⟩) (ha2 : 1 < n → all = strOf (upTo L (n - 1))) :
    (n = 1 → all ++ strOf X = strOf (upTo L n)) ∧ (1 < n → all ++ ⟨#[10]⟩ ++ strOf X = strOf (upTo L n)) := by
  refine ⟨fun h => ?_, fun h => ?_⟩
  · rw [ha1 h, empty_app, hX, h, upTo_first]
  · obtain ⟨m, rfl⟩ : ∃ m, n = m + 1 := ⟨n - 1, by omega⟩
    rw [ha2 h, hX, upTo_next (by omega) (by omega), strOf_append, strOf_append, strOf_ten, Nat.add_sub_cancel]
theorem next_val {L : List Nat} {n z M : Nat} (hM : M = linesN L) (hz : z = lineZ L n) (h1 : 1 ≤ n) (h2 : n ≤ M) : (z : Int) + 1 = if n + 1 ≤ M then (lineA L (n + 1) : Int) else (L.length : Int) + 2 := by
  subst hz
  split
  · have := (line_next (L := L) (n := n) h1 (by omega)).1
    omega
  · obtain rfl : n = linesN L := by omega
    rw [line_last]
    omega
set_option maxRecDepth 100000 in
set_option maxHeartbeats 16000000 in
theorem lines_walk (s : ByteArray) (l : List Ac) (v : Value) (x : Int) (w : World) (hT : Tabs w) (hr : Rd w v 4 l.length (rows Ac.cells l)) (hm : l.length ≤ maxLen) (hs : s.size < 9223372036854775807) : Calls Tryd.prog 7 #[.string s, v, .int .i64 x] w fun e w' => e = .returned (.bool true) ∧ Below w.heap.size w w' := by
  have HL := hide (lives_any w hT)
  have HT := hide hT
  have HR := hide hr
  have HM := hide hm
  obtain ⟨A, c, rfl, _⟩ := id hr
  clear hr hm
  by_cases h3 : 300 < s.size
  · have z1 : decide (300 < s.size) = true := by simpa using h3
    have z1' : decide ((300 : Int) < (s.size : Int)) = true := by simp; omega
    clear hT h3
    go_enter Tryd.func7, Tryd.ntmps7
    go_wp2_with fail
    refine (Calls.mono (HL.out)) ?_
    rintro r w2 ⟨rfl, h2⟩
    have H2 := hide h2
    clear h2
    go_wp2
    go_ret
    exact ⟨rfl, H2.out⟩
  · have z1 : decide (300 < s.size) = false := by simpa using h3
    have z1' : decide ((300 : Int) < (s.size : Int)) = false := by simp; omega
    have HS := hide (show s.size ≤ 300 by omega)
    clear hT h3 hs
    cases hli : lightB l with
    | false =>
      have HLF := hide hli
      clear hli
      go_enter Tryd.func7, Tryd.ntmps7
      go_wp2_with fail
      refine (Calls.mono (HL.out)) ?_
      rintro r w2 ⟨rfl, h2⟩
      have H2 := hide ((Own.refl w).below h2)
      clear h2 HL
      go_wp2_with fail
      refine Calls.mono (HLF.out ▸ light_txt H2.out l _ HR.out HM.out H2.out.bel) ?_
      rintro r w3 ⟨rfl, h3⟩
      have H3 := hide h3
      clear h3
      go_wp2
      go_ret
      exact ⟨rfl, H3.out.bel⟩
    | true =>
      have HLF := hide hli
      have HLI := hide (lightB_iff.1 hli)
      clear hli
      obtain ⟨N, hN⟩ : ∃ N, N = l.length := ⟨_, rfl⟩
      have hN4 : N ≤ 40 := by have := HLI.out.2; omega
      have HLT := hide (fun (w2 : World) (h2 : Own w w2 []) => (show Calls Tryd.prog 12 #[.slice A N c] w2 (fun e w' => e = .returned (.bool true) ∧ Own w w' []) from by
        have := light_txt h2 l _ HR.out HM.out h2.bel
        rwa [HLF.out, ← hN] at this))
      have HRN := hide (show Rd w (.slice A N c) 4 N (rows Ac.cells l) by rw [hN]; exact HR.out)
      rw [← hN]
      have HN := hide hN
      clear hN HR HM HLF
      go_enter Tryd.func7, Tryd.ntmps7
      go_wp2_with fail
      refine (Calls.mono (HL.out)) ?_
      rintro r w2 ⟨rfl, h2⟩
      have H2 := hide ((Own.refl w).below h2)
      clear h2 HL
      go_wp2_with fail
      refine (Calls.mono (HLT.out _ H2.out)) ?_
      rintro r w3 ⟨rfl, h3⟩
      have H3 := hide h3
      clear h3 H2 z1 z1'
      go_wp2_with fail
      refine Calls.mono (new_short H3.out HT.out s HS.out) ?_
      rintro r w4 (⟨rfl, _, h4⟩ | ⟨tb, rfl, _, h4⟩)
      · have H4 := hide h4
        clear h4
        go_wp2
        go_ret
        exact ⟨rfl, H4.out.bel⟩
      · have H4 := hide h4
        clear h4 H3
        generalize charsOf s = L0 at *
        go_wp2
        go_loopw [9] (fun t wr => ∃ (k : Nat) (L : List Nat), t = .int .i64 (k : Int) ∧ k ≤ N ∧ Txt w wr tb L []) (fun t _ => N - (intOf t).toNat)
        case atStart => exact ⟨0, L0, rfl, Nat.zero_le _, H4.out⟩
        case round =>
          obtain ⟨k, L, rfl, hk, hX⟩ := hrel
          by_cases hlt : k < N
          · have y1 : decide (k < N) = true := by simpa using hlt
            have y2 : decide ((k : Int) < (N : Int)) = true := by simp; omega
            obtain ⟨g, off, rfl⟩ := HRN.out.some_ (by omega)
            obtain ⟨a, ha⟩ : ∃ a, l[k]? = some a := ⟨_, List.getElem?_eq_getElem (by rw [← HN.out]; exact hlt)⟩
            have hA := Rd.atA (HRN.out.belowR hX.bel) ha
            obtain ⟨q0, q1, q2, q3⟩ := hA
            have HTX := hide (HLI.out.1 a (List.mem_of_getElem? ha))
            have HDO := hide (do_any hX HT.out a (by have := HTX.out; omega))
            clear ha hX
            go_wp2_with fail
            refine (Calls.mono (HDO.out)) ?_
            rintro r w5 ⟨rfl, h5⟩
            have H5 := hide h5
            clear h5 q0 q1 q2 q3
            go_wp2
            go_roundw
            case rel => exact ⟨k + 1, _, by go_num, by omega, H5.out⟩
            case measure => simp [intOf]; omega
          · have y1 : decide (k < N) = false := by simpa using hlt
            have y2 : decide ((k : Int) < (N : Int)) = false := by simp; omega
            have HX := hide hX
            clear hX
            obtain ⟨M, hM⟩ : ∃ M, M = linesN L := ⟨_, rfl⟩
            have HMM := hide hM
            have hM6 : M ≤ 65537 := by rw [hM]; have := linesN_le HX.out.ok.1; omega
            clear hM hk
            go_wp2
            obtain ⟨wo, rfl⟩ : ∃ wo : World, wo = wr := ⟨_, rfl⟩
            go_loopw [10, 11, 12] (fun a b t wr => ∃ (n : Nat) (all : ByteArray), a = .string all ∧ b = .int .i64 (if n ≤ M then (lineA L n : Int) else (L.length : Int) + 2) ∧ t = .int .i64 (n : Int) ∧ 1 ≤ n ∧ n ≤ M + 1 ∧ (n = 1 → all = ⟨#[]⟩) ∧ (1 < n → all = strOf (upTo L (n - 1))) ∧ Txt w wr tb L []) (fun _ _ t _ => M + 1 - (intOf t).toNat)
            case atStart => exact ⟨1, ⟨#[]⟩, rfl, by rw [if_pos (by have := HMM.out; unfold linesN at this; omega), line_first]; rfl, rfl, by omega, by have := HMM.out; unfold linesN at this; omega, fun _ => rfl, fun h => by omega, HX.out⟩
            case round =>
              obtain ⟨n, all, rfl, hbv, rfl, hn1, hn2, ha1, ha2, hY⟩ := hrel
              have HY := hide hY
              have HA1 := hide ha1
              have HA2 := hide ha2
              have HN1 := hide hn1
              have HLS := hide (lines_m HY.out HMM.out)
              clear hY ha1 ha2
              by_cases hlt : n ≤ M
              · have y1 : decide (n ≤ M) = true := by simpa using hlt
                have y2 : decide ((n : Int) ≤ (M : Int)) = true := by simp; omega
                rw [if_pos hlt] at hbv
                obtain ⟨a, ha⟩ : ∃ a, a = lineA L n := ⟨_, rfl⟩
                obtain ⟨z, hz⟩ : ∃ z, z = lineZ L n := ⟨_, rfl⟩
                obtain ⟨X, hXX⟩ : ∃ X, X = (L.drop (lineA L n - 1)).take (lineZ L n - lineA L n) := ⟨_, rfl⟩
                have hle : n ≤ linesN L := by rw [← HMM.out]; exact hlt
                have hsp := line_span hn1 hle
                have hL := HY.out.ok.1
                have HLI2 := hide (lineR_in hn1 hle)
                have HSL2 := hide (slice_line hn1 hle)
                have HFI2 := hide (fun v => find_line (v := v) hn1 hle)
                rw [← ha] at hbv hsp HLI2 HSL2 HFI2
                rw [← hz] at hsp HLI2 HSL2 HFI2
                rw [ha, hz, ← hXX, ← ha, ← hz] at HSL2
                subst hbv
                have hz1 : z ≤ 65537 := by omega
                have ha1 : a ≤ 65537 := by omega
                have hz0 : (0 : Int) ≤ (z : Int) := by omega
                have hn3 : n ≤ 65537 := by omega
                have HA := hide ha
                have HZ := hide hz
                have HXX := hide hXX
                have HLT := hide hlt
                have hXs : (strOf X).size ≤ 262144 := by
                  have h1 := strOf_size X
                  have h2 : X.length ≤ L.length := by rw [hXX, List.length_take, List.length_drop]; omega
                  omega
                have HUP := hide (line_strs (L := L) (n := n) (all := all) (X := X) HN1.out hle HXX.out HA1.out HA2.out)
                have hAs : all.size ≤ 262144 := by
                  by_cases h1 : n = 1
                  · rw [HA1.out h1]; decide
                  · rw [HA2.out (by omega)]
                    have h1 := strOf_size (upTo L (n - 1))
                    have h2 : (upTo L (n - 1)).length ≤ L.length := by unfold upTo; rw [List.length_take]; omega
                    omega
                have hss : ¬ (9223372036854775807 < all.size + (strOf X).size) := by omega
                have hss1 : ¬ (9223372036854775807 < all.size + 1) := by omega
                have hss2 : ¬ (9223372036854775807 < (all ++ ⟨#[10]⟩).size + (strOf X).size) := by rw [ByteArray.size_append]; have : (⟨#[10]⟩ : ByteArray).size = 1 := rfl; omega
                clear ha hz hXX hle hsp hL hlt hAs hXs
                by_cases h1 : n = 1
                · have k1 : decide (1 < n) = false := by simp; omega
                  have k2 : decide ((1 : Int) < (n : Int)) = false := by simp; omega
                  have HUP1 := hide (HUP.out.1 h1)
                  clear h1 hn1 hn2
                  go_wp2_with fail
                  refine (Calls.mono (HLS.out)) ?_
                  rintro r w5 ⟨rfl, h5⟩
                  have H5 := hide h5
                  clear h5 HY
                  go_wp2_with fail
                  refine Calls.mono (line_m H5.out HLI2.out) ?_
                  rintro r w6 ⟨rfl, h6⟩
                  have H6 := hide h6
                  clear h6 H5
                  go_wp2_with fail
                  refine Calls.mono (slice_m H6.out HSL2.out) ?_
                  rintro r w7 ⟨rfl, h7⟩
                  have H7 := hide h7
                  clear h7 H6
                  go_wp2_with fail
                  refine Calls.mono (find_m H7.out HFI2.out) ?_
                  rintro r w8 ⟨rfl, h8⟩
                  have H8 := hide h8
                  clear h8 H7
                  go_wp2
                  go_roundw
                  case rel => exact ⟨n + 1, _, rfl, congrArg (Value.int .i64) (next_val HMM.out HZ.out HN1.out HLT.out), by go_num, by omega, by have := HLT.out; omega, fun h => absurd h (by have := HN1.out; omega), fun _ => HUP1.out, H8.out⟩
                  case measure => have := HLT.out; simp [intOf]; omega
                · have k1 : decide (1 < n) = true := by simp; omega
                  have k2 : decide ((1 : Int) < (n : Int)) = true := by simp; omega
                  have HUP1 := hide (HUP.out.2 (by omega))
                  clear h1 hn1 hn2
                  go_wp2_with fail
                  refine (Calls.mono (HLS.out)) ?_
                  rintro r w5 ⟨rfl, h5⟩
                  have H5 := hide h5
                  clear h5 HY
                  go_wp2_with fail
                  refine Calls.mono (line_m H5.out HLI2.out) ?_
                  rintro r w6 ⟨rfl, h6⟩
                  have H6 := hide h6
                  clear h6 H5
                  go_wp2_with fail
                  refine Calls.mono (slice_m H6.out HSL2.out) ?_
                  rintro r w7 ⟨rfl, h7⟩
                  have H7 := hide h7
                  clear h7 H6
                  go_wp2_with fail
                  refine Calls.mono (find_m H7.out HFI2.out) ?_
                  rintro r w8 ⟨rfl, h8⟩
                  have H8 := hide h8
                  clear h8 H7
                  go_wp2
                  go_roundw
                  case rel => exact ⟨n + 1, _, rfl, congrArg (Value.int .i64) (next_val HMM.out HZ.out HN1.out HLT.out), by go_num, by omega, by have := HLT.out; omega, fun h => absurd h (by have := HN1.out; omega), fun _ => HUP1.out, H8.out⟩
                  case measure => have := HLT.out; simp [intOf]; omega
              · have y1 : decide (n ≤ M) = false := by simpa using hlt
                have y2 : decide ((n : Int) ≤ (M : Int)) = false := by simp; omega
                rw [if_neg hlt] at hbv
                obtain rfl : n = M + 1 := by omega
                obtain ⟨T, hT⟩ : ∃ T, T = L.length := ⟨_, rfl⟩
                have hL := HY.out.ok.1
                have HM1 := hide (show 1 ≤ M by have := HMM.out; unfold linesN at this; omega)
                have HALL := hide (show all = strOf L by rw [HA2.out (by have := HM1.out; omega), Nat.add_sub_cancel, HMM.out, upTo_last])
                rw [← hT] at hbv hL
                subst hbv
                have HTT := hide hT
                have HL1 := hide (lineR_out (L := L) (n := (M : Int) + 1) (.inr (by rw [← HMM.out]; omega)))
                have HL0 := hide (lineR_out (L := L) (n := 0) (.inl (by omega)))
                clear hlt hT hn1 hn2
                go_wp2_with fail
                refine (Calls.mono (HLS.out)) ?_
                rintro r w5 ⟨rfl, h5⟩
                have H5 := hide h5
                clear h5 HY
                have HALL5 := hide (fun (w1 : World) (h1 : Txt w w1 tb L []) => lives_all h1 HALL.out.symm)
                by_cases hx1 : x < 1
                · have k1 : decide (1 ≤ x) = false := by simp; omega
                  have HLAT := hide (show (if 1 ≤ x ∧ x ≤ (L.length : Int) + 1 then Value.tuple #[.int .i64 (lineOf L x.toNat : Int), .bool true] else .tuple #[.int .i64 0, .bool false]) = .tuple #[.int .i64 0, .bool false] from if_neg (by omega))
                  clear hx1
                  go_wp2_with fail
                  refine Calls.mono (lines_m H5.out HMM.out) ?_
                  rintro r w6 ⟨rfl, h6⟩
                  have H6 := hide h6
                  clear h6 H5
                  go_wp2_with fail
                  refine Calls.mono (line_m H6.out HL1.out) ?_
                  rintro r w7 ⟨rfl, h7⟩
                  have H7 := hide h7
                  clear h7 H6
                  go_wp2_with fail
                  refine Calls.mono (line_m H7.out HL0.out) ?_
                  rintro r w8 ⟨rfl, h8⟩
                  have H8 := hide h8
                  clear h8 H7
                  go_wp2_with fail
                  refine Calls.mono (lineat_m H8.out HLAT.out) ?_
                  rintro r w9 ⟨rfl, h9⟩
                  have H9 := hide h9
                  clear h9 H8
                  go_wp2_with fail
                  refine Calls.mono (HALL5.out _ H9.out) ?_
                  rintro r w10 ⟨rfl, h10⟩
                  have H10 := hide h10
                  clear h10 H9
                  go_wp2_with fail
                  refine Calls.mono (size_m H10.out HTT.out) ?_
                  rintro r w11 ⟨rfl, h11⟩
                  have H11 := hide h11
                  clear h11 H10
                  go_wp2
                  go_ret
                  exact ⟨rfl, H11.out.bel⟩
                · have k1 : decide (1 ≤ x) = true := by simp; omega
                  by_cases hx2 : (T : Int) + 1 < x
                  · have k2 : decide (x ≤ (T : Int) + 1) = false := by simp; omega
                    have HLAT := hide (show (if 1 ≤ x ∧ x ≤ (L.length : Int) + 1 then Value.tuple #[.int .i64 (lineOf L x.toNat : Int), .bool true] else .tuple #[.int .i64 0, .bool false]) = .tuple #[.int .i64 0, .bool false] from if_neg (by have := HTT.out; omega))
                    clear hx1 hx2
                    go_wp2_with fail
                    refine Calls.mono (lines_m H5.out HMM.out) ?_
                    rintro r w6 ⟨rfl, h6⟩
                    have H6 := hide h6
                    clear h6 H5
                    go_wp2_with fail
                    refine Calls.mono (line_m H6.out HL1.out) ?_
                    rintro r w7 ⟨rfl, h7⟩
                    have H7 := hide h7
                    clear h7 H6
                    go_wp2_with fail
                    refine Calls.mono (line_m H7.out HL0.out) ?_
                    rintro r w8 ⟨rfl, h8⟩
                    have H8 := hide h8
                    clear h8 H7
                    go_wp2_with fail
                    refine Calls.mono (lineat_m H8.out HLAT.out) ?_
                    rintro r w9 ⟨rfl, h9⟩
                    have H9 := hide h9
                    clear h9 H8
                    go_wp2_with fail
                    refine Calls.mono (HALL5.out _ H9.out) ?_
                    rintro r w10 ⟨rfl, h10⟩
                    have H10 := hide h10
                    clear h10 H9
                    go_wp2_with fail
                    refine Calls.mono (size_m H10.out HTT.out) ?_
                    rintro r w11 ⟨rfl, h11⟩
                    have H11 := hide h11
                    clear h11 H10
                    go_wp2_with fail
                    refine Calls.mono (size_m H11.out HTT.out) ?_
                    rintro r w12 ⟨rfl, h12⟩
                    have H12 := hide h12
                    clear h12 H11
                    go_wp2
                    go_ret
                    exact ⟨rfl, H12.out.bel⟩
                  · have k2 : decide (x ≤ (T : Int) + 1) = true := by simp; omega
                    obtain ⟨p, rfl⟩ : ∃ p : Nat, x = (p : Int) := ⟨x.toNat, by omega⟩
                    have hlo := lineOf_in (L := L) (k := p) (by omega) (by have := HTT.out; omega)
                    obtain ⟨n, hn⟩ : ∃ n, n = lineOf L p := ⟨_, rfl⟩
                    rw [← hn] at hlo
                    obtain ⟨a, ha⟩ : ∃ a, a = lineA L n := ⟨_, rfl⟩
                    obtain ⟨z, hz⟩ : ∃ z, z = lineZ L n := ⟨_, rfl⟩
                    have HLN := hide (lineR_in hlo.1 hlo.2.1)
                    rw [← ha, ← hz] at HLN hlo
                    have k3 : decide ((a : Int) ≤ (p : Int)) = true := by simp; omega
                    have k3n : decide (a ≤ p) = true := by simp; omega
                    have k4 : decide ((p : Int) ≤ (z : Int)) = true := by simp; omega
                    have k4n : decide (p ≤ z) = true := by simp; omega
                    have k1n : decide (1 ≤ p) = true := by simp; omega
                    have k2n : decide (p ≤ T + 1) = true := by simp; omega
                    have HLAT := hide (show (if 1 ≤ (p : Int) ∧ (p : Int) ≤ (L.length : Int) + 1 then Value.tuple #[.int .i64 (lineOf L (p : Int).toNat : Int), .bool true] else .tuple #[.int .i64 0, .bool false]) = .tuple #[.int .i64 (n : Int), .bool true] by rw [if_pos (by have := HTT.out; omega), Int.toNat_natCast, hn])
                    clear hx1 hx2 hlo hn ha hz
                    go_wp2_with fail
                    refine Calls.mono (lines_m H5.out HMM.out) ?_
                    rintro r w6 ⟨rfl, h6⟩
                    have H6 := hide h6
                    clear h6 H5
                    go_wp2_with fail
                    refine Calls.mono (line_m H6.out HL1.out) ?_
                    rintro r w7 ⟨rfl, h7⟩
                    have H7 := hide h7
                    clear h7 H6
                    go_wp2_with fail
                    refine Calls.mono (line_m H7.out HL0.out) ?_
                    rintro r w8 ⟨rfl, h8⟩
                    have H8 := hide h8
                    clear h8 H7
                    go_wp2_with fail
                    refine Calls.mono (lineat_m H8.out HLAT.out) ?_
                    rintro r w9 ⟨rfl, h9⟩
                    have H9 := hide h9
                    clear h9 H8
                    go_wp2_with fail
                    refine Calls.mono (HALL5.out _ H9.out) ?_
                    rintro r w10 ⟨rfl, h10⟩
                    have H10 := hide h10
                    clear h10 H9
                    go_wp2_with fail
                    refine Calls.mono (size_m H10.out HTT.out) ?_
                    rintro r w11 ⟨rfl, h11⟩
                    have H11 := hide h11
                    clear h11 H10
                    go_wp2_with fail
                    refine Calls.mono (size_m H11.out HTT.out) ?_
                    rintro r w12 ⟨rfl, h12⟩
                    have H12 := hide h12
                    clear h12 H11
                    go_wp2_with fail
                    refine Calls.mono (line_m H12.out HLN.out) ?_
                    rintro r w13 ⟨rfl, h13⟩
                    have H13 := hide h13
                    clear h13 H12
                    go_wp2
                    go_ret
                    exact ⟨rfl, H13.out.bel⟩
end Go.Proofs.YtbljppcaikhjhaaDoor
