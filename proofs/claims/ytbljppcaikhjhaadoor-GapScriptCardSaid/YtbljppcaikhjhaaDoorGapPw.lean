/- GapPlain: the walk. No condition but those written. -/
import Derived.Test.YtbljppcaikhjhaaDoorGapPl
namespace Go.Proofs.YtbljppcaikhjhaaDoor
open Go.RowKit

theorem do_m {W w : World} {tb : Nat} {L L' : List Nat} {R : Heap} {kd p q n : Int} {tx : ByteArray} (h : Txt W w tb L R) (hT : Tabs W) (hs : tx.size ≤ 200) (he : Ac.err L ⟨kd, p, q, tx⟩ = n) (hl : Ac.act L ⟨kd, p, q, tx⟩ = L') : Calls Tryd.prog 17 #[.pointer (some ⟨tb, 0, none⟩), .agg #[.int .i64 kd, .int .i64 p, .int .i64 q, .string tx]] w fun e w' => e = .returned (.int .i64 n) ∧ Txt W w' tb L' R := by
  subst he hl
  exact do_any h hT ⟨kd, p, q, tx⟩ (show tx.size < 9223372036854775807 by omega)
theorem slice_behind_t {L : List Nat} {x : Int} {T : Nat} (hT : T = L.length) (h1 : 1 ≤ x) (h2 : x ≤ (L.length : Int) + 1) : sliceR L x ((T : Int) + 1) = .tuple #[.string (strOf (L.drop (x - 1).toNat)), .int .i64 0] := hT ▸ slice_behind h1 h2
theorem slice_behind_no_t {L : List Nat} {x : Int} {T : Nat} (hT : T = L.length) (h : x < 1 ∨ (L.length : Int) + 1 < x) : sliceR L x ((T : Int) + 1) = .tuple #[.string ⟨#[]⟩, .int .i64 3] := hT ▸ slice_behind_no h
theorem Txt.drew {W w : World} {tb : Nat} {L : List Nat} {R : Heap} (h : Txt W w tb L R) : Txt W w.drew tb L R := h.below (Below.refl _ _).drew
theorem boxed {W w : World} {tb g : Nat} {L : List Nat} {kd p q : Int} {tx : ByteArray} (h : Txt W w tb L [(g, Ast.cells 31 #[.int .i64 kd, .int .i64 p, .int .i64 q, .string tx])]) : w.cell? ⟨g, 0, none⟩ = some (.int .i64 kd) ∧ w.cell? ⟨g, 1, none⟩ = some (.int .i64 p) ∧ w.cell? ⟨g, 2, none⟩ = some (.int .i64 q) ∧ w.cell? ⟨g, 3, none⟩ = some (.string tx) := by
  have hb := h.blk (List.mem_singleton.2 rfl)
  exact ⟨by rw [hb.cell]; rfl, by rw [hb.cell]; rfl, by rw [hb.cell]; rfl, by rw [hb.cell]; rfl⟩
theorem boxed12 {W w : World} {tb g : Nat} {L : List Nat} {kd p q : Int} {tx : ByteArray} (h : Txt W w tb L [(g, Ast.cells 31 #[.int .i64 kd, .int .i64 p, .int .i64 q, .string tx])]) : w.cell? ⟨g, 1, none⟩ = some (.int .i64 p) ∧ w.cell? ⟨g, 2, none⟩ = some (.int .i64 q) := ⟨(boxed h).2.1, (boxed h).2.2.1⟩
theorem len_m {W w : World} {tb : Nat} {L : List Nat} {R : Heap} {M : List Nat} {n : Nat} (h : Txt W w tb L R) {s : ByteArray} (hs : s = strOf M) (hok : ∀ c ∈ M, okc c) (hl : M.length ≤ 65536) (hn : n = M.length) : Calls Tryd.prog 19 #[.string s] w fun e w' => e = .returned (.int .i64 (n : Int)) ∧ Txt W w' tb L R := by
  subst hs hn
  have := strOf_size M
  refine (reflen_any (strOf M) w (by omega) (valid_str hok)).mono ?_
  rintro e w' ⟨rfl, hb⟩
  exact ⟨by rw [lenS_eq, chars_of_str hok], h.below hb⟩
theorem ref_yes (s : ByteArray) (w0 w : World) (h : Own w0 w []) (hs : s.size ≤ 300) (hv : validS s = true) : Calls Tryd.prog 13 #[.string s] w fun e w' => e = .returned (.bool true) ∧ Own w0 w' [] := by
  refine (refvalid_any s w (by omega)).mono ?_
  rintro e w' ⟨rfl, hb⟩
  exact ⟨by rw [hv], h.below hb⟩
theorem new_yes {W w : World} {R : Heap} (h : Own W w R) (hT : Tabs W) (s : ByteArray) (hs : s.size ≤ 300) (hv : validS s = true) : Calls Tryd.prog 14 #[.string s] w fun e w' => ∃ tb, e = .returned (.tuple #[.pointer (some ⟨tb, 0, none⟩), .int .i64 0]) ∧ Txt W w' tb (charsOf s) R := by
  refine (new_short h hT s hs).mono ?_
  rintro e w' (⟨_, h1, _⟩ | ⟨tb, he, _, ht⟩)
  · rw [hv] at h1
    cases h1
  · exact ⟨tb, he, ht⟩
set_option maxRecDepth 100000 in
set_option maxHeartbeats 16000000 in
theorem plain_walk (s : ByteArray) (l : List Ac) (v : Value) (w : World) (hT : Tabs w) (hr : Rd w v 4 l.length (rows Ac.cells l)) (hm : l.length ≤ maxLen) (hs : s.size < 9223372036854775807) : Calls Tryd.prog 3 #[.string s, v] w fun e w' => e = .returned (.bool true) ∧ Below w.heap.size w w' := by
  have HL := hide (lives_any w hT)
  have HT := hide hT
  have HR := hide hr
  have HM := hide hm
  obtain ⟨A, c, rfl, _⟩ := id hr
  clear hr hm
  by_cases h3 : 300 < s.size
  · have z1 : decide (300 < s.size) = true := by simpa using h3
    have z1' : decide ((300 : Int) < (s.size : Int)) = true := by simp; omega
    clear hT h3
    go_enter Tryd.func3, Tryd.ntmps3
    go_wp2_with fail
    refine (Calls.mono (HL.out)) ?_
    rintro r w2 ⟨rfl, h2⟩
    have H2 := hide h2
    clear h2
    go_wp2
    go_ret
    exact ⟨rfl, H2.out⟩
  · have z1 : decide (300 < s.size) = false := by simpa using h3
    have z1' : decide ((300 : Int) < (s.size : Int)) = false := by simp; omega
    have HS := hide (show s.size ≤ 300 by omega)
    clear hT h3 hs
    cases hli : lightB l with
    | false =>
      have HLF := hide hli
      clear hli
      go_enter Tryd.func3, Tryd.ntmps3
      go_wp2_with fail
      refine (Calls.mono (HL.out)) ?_
      rintro r w2 ⟨rfl, h2⟩
      have H2 := hide ((Own.refl w).below h2)
      clear h2 HL
      go_wp2_with fail
      refine Calls.mono (HLF.out ▸ light_txt H2.out l _ HR.out HM.out H2.out.bel) ?_
      rintro r w3 ⟨rfl, h3⟩
      have H3 := hide h3
      clear h3
      go_wp2
      go_ret
      exact ⟨rfl, H3.out.bel⟩
    | true =>
      have HLF := hide hli
      have HLI := hide (lightB_iff.1 hli)
      clear hli
      obtain ⟨N, hN⟩ : ∃ N, N = l.length := ⟨_, rfl⟩
      have hN4 : N ≤ 40 := by have := HLI.out.2; omega
      have HLT := hide (fun (w2 : World) (h2 : Own w w2 []) => (show Calls Tryd.prog 12 #[.slice A N c] w2 (fun e w' => e = .returned (.bool true) ∧ Own w w' []) from by
        have := light_txt h2 l _ HR.out HM.out h2.bel
        rwa [HLF.out, ← hN] at this))
      have HRN := hide (show Rd w (.slice A N c) 4 N (rows Ac.cells l) by rw [hN]; exact HR.out)
      rw [← hN]
      have HN := hide hN
      clear hN HR HM HLF
      cases hv : validS s with
      | false =>
        have HV := hide hv
        clear hv
        go_enter Tryd.func3, Tryd.ntmps3
        go_wp2_with fail
        refine (Calls.mono (HL.out)) ?_
        rintro r w2 ⟨rfl, h2⟩
        have H2 := hide ((Own.refl w).below h2)
        clear h2 HL
        go_wp2_with fail
        refine (Calls.mono (HLT.out _ H2.out)) ?_
        rintro r w3 ⟨rfl, h3⟩
        have H3 := hide h3
        clear h3 H2
        go_wp2_with fail
        refine (Calls.mono (ref_valid s w _ H3.out HS.out HV.out)) ?_
        rintro r w4 ⟨rfl, h4⟩
        have H4 := hide h4
        clear h4 H3
        go_wp2
        go_ret
        exact ⟨rfl, H4.out.bel⟩
      | true =>
        have HV := hide hv
        clear hv
        go_enter Tryd.func3, Tryd.ntmps3
        go_wp2_with fail
        refine (Calls.mono (HL.out)) ?_
        rintro r w2 ⟨rfl, h2⟩
        have H2 := hide ((Own.refl w).below h2)
        clear h2 HL
        go_wp2_with fail
        refine (Calls.mono (HLT.out _ H2.out)) ?_
        rintro r w3 ⟨rfl, h3⟩
        have H3 := hide h3
        clear h3 H2
        go_wp2_with fail
        refine (Calls.mono (ref_yes s w _ H3.out HS.out HV.out)) ?_
        rintro r w4 ⟨rfl, h4⟩
        have H4 := hide h4
        clear h4 H3
        go_wp2_with fail
        refine (Calls.mono (new_yes H4.out HT.out s HS.out HV.out)) ?_
        rintro r w5 ⟨tb, rfl, h5⟩
        have H5 := hide h5
        have HS0 := hide (str_of_chars HV.out)
        clear h5 H4 z1 z1'
        generalize charsOf s = L0 at *
        go_wp2
        go_loopw [7, 8] (fun p t wr => ∃ (k : Nat) (L : List Nat), p = .string (strOf L) ∧ t = .int .i64 (k : Int) ∧ k ≤ N ∧ Txt w wr tb L []) (fun _ t _ => N - (intOf t).toNat)
        case atStart => exact ⟨0, L0, congrArg Value.string HS0.out.symm, rfl, Nat.zero_le _, H5.out⟩
        case round =>
          obtain ⟨k, L, rfl, rfl, hk, hX⟩ := hrel
          by_cases hlt : k < N
          · have y1 : decide (k < N) = true := by simpa using hlt
            have y2 : decide ((k : Int) < (N : Int)) = true := by simp; omega
            obtain ⟨g, off, rfl⟩ := HRN.out.some_ (by omega)
            obtain ⟨a, ha⟩ : ∃ a, l[k]? = some a := ⟨_, List.getElem?_eq_getElem (by rw [← HN.out]; exact hlt)⟩
            obtain ⟨kd, p, q, tx⟩ := a
            have hA := Rd.atA (HRN.out.belowR hX.bel) ha
            obtain ⟨q0, q1, q2, q3⟩ := hA
            have HTX := hide (show tx.size ≤ 200 from HLI.out.1 _ (List.mem_of_getElem? ha))
            have HLL := hide hX.ok
            have HLT2 := hide hlt
            have HX := hide (hX.box 31 #[.int .i64 kd, .int .i64 p, .int .i64 q, .string tx])
            obtain ⟨T, hT⟩ : ∃ T, T = L.length := ⟨_, rfl⟩
            have hT6 : T ≤ 65536 := by have := HLL.out.1; omega
            have HTT := hide hT
            have hwT : IntKind.i64.wrap ((T : Int) + 1) = (T : Int) + 1 := IntWalk.i64_in _ (by omega)
            clear ha hX hT
            by_cases hin : p < 1 ∨ (L.length : Int) + 1 < p
            · have HS1 := hide (slice_ahead_no hin)
              have HS2 := hide (slice_behind_no_t HTT.out hin)
              have HDO := hide (Ac.out (a := ⟨kd, p, q, tx⟩) hin)
              clear hin
              obtain ⟨b0, b1, b2, b3⟩ := boxed HX.out
              go_wp2_with fail
              refine Calls.mono (slice_m HX.out HS1.out) ?_
              rintro r w6 ⟨rfl, h6⟩
              have H6 := hide h6
              clear h6 b0 b1 b2 b3 q0 q1 q2 q3 HX
              obtain ⟨b0, b1, b2, b3⟩ := boxed H6.out
              have HBX := hide (fun w' (h : Txt w w' tb L [(wr.heap.size, Ast.cells 31 #[.int .i64 kd, .int .i64 p, .int .i64 q, .string tx])]) => (boxed h).2.1)
              have HD := hide H6.out.drew
              go_wp2_with fail
              go_region_held3 (fun w' => w'.cell? ⟨wr.heap.size, 1, none⟩ = some (.int .i64 p))
                (first | exact HBX.out _ HD.out | exact HBX.out _ H7.out | exact HBX.out _ H8.out)
                ((first
                  | (go_at_call_of 16 (Value.pointer (some ⟨tb, 0, none⟩)); refine (size_m HD.out HTT.out).mono ?_; rintro e w7 ⟨rfl, h7⟩; have H7 := hide h7; clear h7)
                  | (go_at_call_of 15 (Value.pointer (some ⟨tb, 0, none⟩)); refine (slice_m H7.out HS2.out).mono ?_; rintro e w8 ⟨rfl, h8⟩; have H8 := hide h8; clear h8)))
              clear HBX HD
              clear b0 b1 b2 b3
              obtain ⟨b0, b1, b2, b3⟩ := boxed H8.out
              go_wp2_with fail
              refine Calls.mono (do_m H8.out HT.out HTX.out HDO.out.1 HDO.out.2) ?_
              rintro r w9 ⟨rfl, h9⟩
              have H9 := hide h9
              clear h9 b0 b1 b2 b3
              go_wp2_with fail
              refine Calls.mono (all_txt H9.out) ?_
              rintro r w10 ⟨rfl, h10⟩
              have H10 := hide h10
              clear h10 
              go_wp2
              go_roundw
              case rel => exact ⟨k + 1, L, rfl, by go_num, HLT2.out, H10.out.sub (List.nil_sublist _)⟩
              case measure => have := HLT2.out; simp [intOf]; omega
            · have hin1 : 1 ≤ p := by omega
              have hin2 : p ≤ (L.length : Int) + 1 := by omega
              have HS1 := hide (slice_ahead hin1 hin2)
              have HS2 := hide (slice_behind_t HTT.out hin1 hin2)
              have HP := hide (take_drop_str L (p - 1).toNat)
              have hsz := strOf_size (L.take (p - 1).toNat)
              have hsz2 := strOf_size (L.drop (p - 1).toNat)
              rw [List.length_take] at hsz
              rw [List.length_drop] at hsz2
              have hTT := HTT.out
              have hsa : (strOf (L.take (p - 1).toNat)).size ≤ 262144 := by omega
              have hsb : (strOf (L.drop (p - 1).toNat)).size ≤ 262144 := by omega
              clear hsz hsz2 hTT hin hin1 hin2
              by_cases he : Ac.err L ⟨kd, p, q, tx⟩ = 0
              · by_cases hi : pickZ kd 3 < 2
                · have HI := hide (show strOf (Ac.act L ⟨kd, p, q, tx⟩) = strOf (L.take (p - 1).toNat) ++ tx ++ strOf (L.drop (p - 1).toNat) from Ac.ins_ok he hi)
                  have HE := hide he
                  have HPK := hide (fun w => pick_any kd 3 w (by omega) (by omega))
                  obtain ⟨pk, hpk⟩ : ∃ pk, pk = pickZ kd 3 := ⟨_, rfl⟩
                  rw [← hpk] at hi HPK
                  have z3 : decide (pk < 2) = true := by simpa using hi
                  have z4 : (((0 : Int)) != 0) = false := by decide
                  obtain ⟨L', hL'⟩ : ∃ L', L' = Ac.act L ⟨kd, p, q, tx⟩ := ⟨_, rfl⟩
                  have HL' := hide hL'.symm
                  rw [← hL'] at HI
                  rw [HP.out]
                  generalize strOf (L.take (p - 1).toNat) = SA at *
                  generalize strOf (L.drop (p - 1).toNat) = SB at *
                  have htx := HTX.out
                  have hz1 : ¬ (9223372036854775807 < SA.size + SB.size) := by omega
                  have hz2 : ¬ (9223372036854775807 < SA.size + tx.size) := by omega
                  have hz3 : ¬ (9223372036854775807 < (SA ++ tx).size + SB.size) := by rw [ByteArray.size_append]; omega
                  clear hpk hi he hL' htx
                  obtain ⟨b0, b1, b2, b3⟩ := boxed HX.out
                  go_wp2_with fail
                  refine Calls.mono (slice_m HX.out HS1.out) ?_
                  rintro r w6 ⟨rfl, h6⟩
                  have H6 := hide h6
                  clear h6 b0 b1 b2 b3 q0 q1 q2 q3 HX
                  obtain ⟨b0, b1, b2, b3⟩ := boxed H6.out
                  have HBX := hide (fun w' (h : Txt w w' tb L [(wr.heap.size, Ast.cells 31 #[.int .i64 kd, .int .i64 p, .int .i64 q, .string tx])]) => (boxed h).2.1)
                  have HD := hide H6.out.drew
                  go_wp2_with fail
                  go_region_held3 (fun w' => w'.cell? ⟨wr.heap.size, 1, none⟩ = some (.int .i64 p))
                    (first | exact HBX.out _ HD.out | exact HBX.out _ H7.out | exact HBX.out _ H8.out)
                    ((first
                      | (go_at_call_of 16 (Value.pointer (some ⟨tb, 0, none⟩)); refine (size_m HD.out HTT.out).mono ?_; rintro e w7 ⟨rfl, h7⟩; have H7 := hide h7; clear h7)
                      | (go_at_call_of 15 (Value.pointer (some ⟨tb, 0, none⟩)); refine (slice_m H7.out HS2.out).mono ?_; rintro e w8 ⟨rfl, h8⟩; have H8 := hide h8; clear h8)))
                  clear HBX HD
                  clear b0 b1 b2 b3
                  obtain ⟨b0, b1, b2, b3⟩ := boxed H8.out
                  go_wp2_with fail
                  refine Calls.mono (do_m H8.out HT.out HTX.out HE.out HL'.out) ?_
                  rintro r w9 ⟨rfl, h9⟩
                  have H9 := hide h9
                  clear h9 b0 b1 b2 b3
                  obtain ⟨b0, b1, b2, b3⟩ := boxed H9.out
                  go_wp2_with fail
                  refine Calls.mono (HPK.out _) ?_
                  rintro r w99 ⟨rfl, rfl⟩
                  go_wp2_with fail
                  refine Calls.mono (lives_all H9.out HI.out) ?_
                  rintro r w10 ⟨rfl, h10⟩
                  have H10 := hide h10
                  clear h10 b0 b1 b2 b3
                  go_wp2
                  go_roundw
                  case rel => exact ⟨k + 1, L', congrArg Value.string HI.out.symm, by go_num, HLT2.out, H10.out.sub (List.nil_sublist _)⟩
                  case measure => have := HLT2.out; simp [intOf]; omega
                · obtain ⟨X, Z, hd1, hd2, hd3, hd4⟩ := (show ∃ M Z : List Nat, L.drop (p - 1).toNat = M ++ Z ∧ Ac.act L ⟨kd, p, q, tx⟩ = L.take (p - 1).toNat ++ Z ∧ (M.length : Int) = q - p ∧ sliceR (Ac.act L ⟨kd, p, q, tx⟩) p (((Ac.act L ⟨kd, p, q, tx⟩).length : Int) + 1) = .tuple #[.string (strOf Z), .int .i64 0] from Ac.del_ok he hi)
                  have HE := hide he
                  have HPK := hide (fun w => pick_any kd 3 w (by omega) (by omega))
                  obtain ⟨pk, hpk⟩ : ∃ pk, pk = pickZ kd 3 := ⟨_, rfl⟩
                  rw [← hpk] at hi HPK
                  have z3 : decide (pk < 2) = false := by simpa using hi
                  have hXZ : ∀ c ∈ X ++ Z, okc c := fun c hc => HLL.out.2 c (List.mem_of_mem_drop (hd1 ▸ hc))
                  have hXL : (X ++ Z).length ≤ T := by rw [← hd1, List.length_drop, HTT.out]; omega
                  obtain ⟨L', hL'⟩ : ∃ L', L' = Ac.act L ⟨kd, p, q, tx⟩ := ⟨_, rfl⟩
                  have HL' := hide hL'.symm
                  rw [← hL'] at hd2 hd4
                  obtain ⟨T', hT'⟩ : ∃ T', T' = L'.length := ⟨_, rfl⟩
                  have hTl : T' ≤ 65536 := by
                    rw [hT', hd2, List.length_append, List.length_take]
                    rw [List.length_append] at hXL
                    have h1 := congrArg List.length hd1
                    rw [List.length_drop, List.length_append] at h1
                    have h2 := HTT.out
                    omega
                  obtain ⟨m, hm⟩ : ∃ m, m = (X ++ Z).length := ⟨_, rfl⟩
                  obtain ⟨z, hz⟩ : ∃ z, z = Z.length := ⟨_, rfl⟩
                  have hmz : (m : Int) - (z : Int) = q - p := by rw [← hd3, hm, hz, List.length_append]; omega
                  have hm6 : m ≤ 65536 := by omega
                  have hz6 : z ≤ 65536 := by rw [List.length_append] at hXL; omega
                  have hwm : IntKind.i64.wrap ((m : Int) - (z : Int)) = q - p := by rw [IntWalk.i64_in _ (by omega)]; exact hmz
                  have hwq : IntKind.i64.wrap (q - p) = q - p := by rw [← hmz]; exact IntWalk.i64_in _ (by omega)
                  have hwT' : IntKind.i64.wrap ((T' : Int) + 1) = (T' : Int) + 1 := IntWalk.i64_in _ (by omega)
                  rw [← hT'] at hd4
                  have HS4 := hide hd4
                  have HT' := hide hT'
                  have HZ2 := hide (show ∀ c ∈ Z, okc c from fun c hc => hXZ c (List.mem_append_right _ hc))
                  have HXZ := hide hXZ
                  have HM := hide hm
                  have HZ := hide hz
                  have HA' := hide (show strOf L' = strOf (L.take (p - 1).toNat) ++ strOf Z by rw [hd2, strOf_append])
                  rw [HP.out]
                  rw [hd1] at HS2 HP hsb ⊢
                  have HB := hide (strOf_append X Z)
                  obtain ⟨SB, hSB⟩ : ∃ SB, SB = strOf (X ++ Z) := ⟨_, rfl⟩
                  obtain ⟨SZ, hSZ⟩ : ∃ SZ, SZ = strOf Z := ⟨_, rfl⟩
                  obtain ⟨SX, hSX⟩ : ∃ SX, SX = strOf X := ⟨_, rfl⟩
                  rw [← hSB] at HS2 HP HB hsb ⊢
                  rw [← hSZ] at HS4 HA' HB
                  rw [← hSX] at HB
                  have HSB := hide hSB
                  have HSZ := hide hSZ
                  clear hSB hSZ hSX
                  generalize strOf (L.take (p - 1).toNat) = SA at *
                  have hB : SB = SX ++ SZ := HB.out
                  have hsz : SX.size + SZ.size = SB.size := by rw [hB, ByteArray.size_append]
                  have hz1 : ¬ (9223372036854775807 < SA.size + SB.size) := by omega
                  have hz2 : ¬ (9223372036854775807 < SA.size + SZ.size) := by omega
                  have hg1 : decide ((SA ++ SB).size < SA.size) = false := by rw [ByteArray.size_append]; simp
                  have hg1' : decide (((SA ++ SB).size : Int) < (SA.size : Int)) = false := by rw [ByteArray.size_append]; simp; omega
                  have hg2 : decide (SB.size < SZ.size) = false := by simp; omega
                  have hg2' : decide ((SB.size : Int) < (SZ.size : Int)) = false := by simp; omega
                  have hcut1 : ∀ w, (Instr.slice 9 (.string (SA ++ SB)) (some (.int .i64 (SA.size : Int))) none none).run Tryd.prog w = .ok (.string SB) w := fun w => cut_at _ Tryd.underlying9 SA SB w
                  have hcut2 : ∀ w, (Instr.slice 9 (.string SB) (some (.int .i64 (SX.size : Int))) none none).run Tryd.prog w = .ok (.string SZ) w := fun w => by rw [hB]; exact cut_at _ Tryd.underlying9 SX SZ w
                  have hwc : IntKind.i64.wrap ((SB.size : Int) - (SZ.size : Int)) = (SX.size : Int) := by rw [show (SB.size : Int) - (SZ.size : Int) = (SX.size : Int) by omega]; exact IntWalk.i64_in _ (by omega)
                  clear hd1 hd2 hd3 hd4 hXZ hXL hm hz hmz hT' hL' he hi hpk hB
                  obtain ⟨b0, b1, b2, b3⟩ := boxed HX.out
                  go_wp2_with fail
                  refine Calls.mono (slice_m HX.out HS1.out) ?_
                  rintro r w6 ⟨rfl, h6⟩
                  have H6 := hide h6
                  clear h6 b0 b1 b2 b3 q0 q1 q2 q3 HX
                  obtain ⟨b0, b1, b2, b3⟩ := boxed H6.out
                  have HBX := hide (fun w' (h : Txt w w' tb L [(wr.heap.size, Ast.cells 31 #[.int .i64 kd, .int .i64 p, .int .i64 q, .string tx])]) => (boxed h).2.1)
                  have HD := hide H6.out.drew
                  go_wp2_with fail
                  go_region_held3 (fun w' => w'.cell? ⟨wr.heap.size, 1, none⟩ = some (.int .i64 p))
                    (first | exact HBX.out _ HD.out | exact HBX.out _ H7.out | exact HBX.out _ H8.out)
                    ((first
                      | (go_at_call_of 16 (Value.pointer (some ⟨tb, 0, none⟩)); refine (size_m HD.out HTT.out).mono ?_; rintro e w7 ⟨rfl, h7⟩; have H7 := hide h7; clear h7)
                      | (go_at_call_of 15 (Value.pointer (some ⟨tb, 0, none⟩)); refine (slice_m H7.out HS2.out).mono ?_; rintro e w8 ⟨rfl, h8⟩; have H8 := hide h8; clear h8)))
                  clear HBX HD
                  clear b0 b1 b2 b3
                  obtain ⟨b0, b1, b2, b3⟩ := boxed H8.out
                  go_wp2_with fail
                  refine Calls.mono (do_m H8.out HT.out HTX.out HE.out HL'.out) ?_
                  rintro r w9 ⟨rfl, h9⟩
                  have H9 := hide h9
                  clear h9 b0 b1 b2 b3
                  obtain ⟨b0, b1, b2, b3⟩ := boxed H9.out
                  go_wp2_with fail
                  refine Calls.mono (HPK.out _) ?_
                  rintro r w99 ⟨rfl, rfl⟩
                  have HBX := hide (fun w' (h : Txt w w' tb L' [(wr.heap.size, Ast.cells 31 #[.int .i64 kd, .int .i64 p, .int .i64 q, .string tx])]) => (boxed h).2.1)
                  have HD := hide H9.out.drew
                  go_wp2_with fail
                  go_region_held3 (fun w' => w'.cell? ⟨wr.heap.size, 1, none⟩ = some (.int .i64 p))
                    (first | exact HBX.out _ HD.out | exact HBX.out _ H10.out | exact HBX.out _ H11.out)
                    ((first
                      | (go_at_call_of 16 (Value.pointer (some ⟨tb, 0, none⟩)); refine (size_m HD.out HT'.out).mono ?_; rintro e w10 ⟨rfl, h10⟩; have H10 := hide h10; clear h10)
                      | (go_at_call_of 15 (Value.pointer (some ⟨tb, 0, none⟩)); refine (slice_m H10.out HS4.out).mono ?_; rintro e w11 ⟨rfl, h11⟩; have H11 := hide h11; clear h11)))
                  clear HBX HD
                  clear b0 b1 b2 b3
                  have HBX := hide (fun w' (h : Txt w w' tb L' [(wr.heap.size, Ast.cells 31 #[.int .i64 kd, .int .i64 p, .int .i64 q, .string tx])]) => boxed12 h)
                  have HD := hide H11.out.drew
                  go_wp2_with fail
                  go_region_held3 (fun w' => w'.cell? ⟨wr.heap.size, 1, none⟩ = some (.int .i64 p) ∧ w'.cell? ⟨wr.heap.size, 2, none⟩ = some (.int .i64 q))
                    (first | exact HBX.out _ HD.out | exact HBX.out _ H12.out | exact HBX.out _ H13.out)
                    ((first
                      | (go_at_call_of 19 (Value.string SB); refine (len_m HD.out HSB.out HXZ.out (by have := HM.out; omega) HM.out).mono ?_; rintro e w12 ⟨rfl, h12⟩; have H12 := hide h12; clear h12)
                      | (go_at_call_of 19 (Value.string SZ); refine (len_m H12.out HSZ.out HZ2.out (by have := HZ.out; omega) HZ.out).mono ?_; rintro e w13 ⟨rfl, h13⟩; have H13 := hide h13; clear h13)))
                  clear HBX
                  go_wp2_with fail
                  refine Calls.mono (lives_all H13.out HA'.out) ?_
                  rintro r w14 ⟨rfl, h14⟩
                  have H14 := hide h14
                  clear h14 
                  go_wp2
                  go_roundw
                  case rel => exact ⟨k + 1, L', congrArg Value.string HA'.out.symm, by go_num, HLT2.out, H14.out.sub (List.nil_sublist _)⟩
                  case measure => have := HLT2.out; simp [intOf]; omega
              · have HDO := hide (Ac.same_ he)
                obtain ⟨n, hn⟩ : ∃ n, n = Ac.err L ⟨kd, p, q, tx⟩ := ⟨_, rfl⟩
                have HE := hide hn.symm
                rw [← hn] at he
                have z3 : (n != 0) = true := by simpa using he
                rw [HP.out]
                generalize strOf (L.take (p - 1).toNat) = SA at *
                generalize strOf (L.drop (p - 1).toNat) = SB at *
                have hz1 : ¬ (9223372036854775807 < SA.size + SB.size) := by omega
                clear hn
                obtain ⟨b0, b1, b2, b3⟩ := boxed HX.out
                go_wp2_with fail
                refine Calls.mono (slice_m HX.out HS1.out) ?_
                rintro r w6 ⟨rfl, h6⟩
                have H6 := hide h6
                clear h6 b0 b1 b2 b3 q0 q1 q2 q3 HX
                obtain ⟨b0, b1, b2, b3⟩ := boxed H6.out
                have HBX := hide (fun w' (h : Txt w w' tb L [(wr.heap.size, Ast.cells 31 #[.int .i64 kd, .int .i64 p, .int .i64 q, .string tx])]) => (boxed h).2.1)
                have HD := hide H6.out.drew
                go_wp2_with fail
                go_region_held3 (fun w' => w'.cell? ⟨wr.heap.size, 1, none⟩ = some (.int .i64 p))
                  (first | exact HBX.out _ HD.out | exact HBX.out _ H7.out | exact HBX.out _ H8.out)
                  ((first
                    | (go_at_call_of 16 (Value.pointer (some ⟨tb, 0, none⟩)); refine (size_m HD.out HTT.out).mono ?_; rintro e w7 ⟨rfl, h7⟩; have H7 := hide h7; clear h7)
                    | (go_at_call_of 15 (Value.pointer (some ⟨tb, 0, none⟩)); refine (slice_m H7.out HS2.out).mono ?_; rintro e w8 ⟨rfl, h8⟩; have H8 := hide h8; clear h8)))
                clear HBX HD
                clear b0 b1 b2 b3
                obtain ⟨b0, b1, b2, b3⟩ := boxed H8.out
                go_wp2_with fail
                refine Calls.mono (do_m H8.out HT.out HTX.out HE.out HDO.out) ?_
                rintro r w9 ⟨rfl, h9⟩
                have H9 := hide h9
                clear h9 b0 b1 b2 b3
                go_wp2_with fail
                refine Calls.mono (lives_all H9.out HP.out) ?_
                rintro r w10 ⟨rfl, h10⟩
                have H10 := hide h10
                clear h10 
                go_wp2
                go_roundw
                case rel => exact ⟨k + 1, L, congrArg Value.string HP.out.symm, by go_num, HLT2.out, H10.out.sub (List.nil_sublist _)⟩
                case measure => have := HLT2.out; simp [intOf]; omega
          · have y1 : decide (k < N) = false := by simpa using hlt
            have y2 : decide ((k : Int) < (N : Int)) = false := by simp; omega
            have HX := hide hX
            have HLL := hide hX.ok
            obtain ⟨T, hT⟩ : ∃ T, T = L.length := ⟨_, rfl⟩
            have HTT := hide hT
            clear hX hT hlt
            go_wp2_with fail
            refine Calls.mono (all_txt HX.out) ?_
            rintro r w6 ⟨rfl, h6⟩
            have H6 := hide h6
            clear h6 HX
            go_wp2_with fail
            refine Calls.mono (size_m H6.out HTT.out) ?_
            rintro r w7 ⟨rfl, h7⟩
            have H7 := hide h7
            clear h7 H6
            go_wp2_with fail
            refine Calls.mono (len_m H7.out rfl HLL.out.2 HLL.out.1 HTT.out) ?_
            rintro r w8 ⟨rfl, h8⟩
            have H8 := hide h8
            clear h8 H7
            go_wp2
            go_ret
            exact ⟨rfl, H8.out.bel⟩
end Go.Proofs.YtbljppcaikhjhaaDoor
