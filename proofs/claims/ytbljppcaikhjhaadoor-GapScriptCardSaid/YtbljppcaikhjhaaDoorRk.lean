/- GapScript: the walk. No condition but those written. -/
import Derived.Test.YtbljppcaikhjhaaDoorRs
import Derived.Test.YtbljppcaikhjhaaDoorGapPw
namespace Go.Proofs.YtbljppcaikhjhaaDoor
open Go.RowKit

theorem Ac.err_ins {L : List Nat} {a : Ac} (h : pickZ a.kd 3 < 2) : a.err L = insErr L a.p a.tx ∧ a.act L = insL L a.p a.tx := by
  unfold Ac.err Ac.act
  rw [if_pos h, if_pos h]
  exact ⟨rfl, rfl⟩
theorem Ac.err_del {L : List Nat} {a : Ac} (h : ¬ pickZ a.kd 3 < 2) : a.err L = delErr L a.p a.q ∧ a.act L = delL L a.p a.q := by
  unfold Ac.err Ac.act
  rw [if_neg h, if_neg h]
  exact ⟨rfl, rfl⟩
theorem rnew_both {W w : World} {tb : Nat} {L : List Nat} {R : Heap} (h : Txt W w tb L R) (s : ByteArray) (hs : s.size ≤ 300) (hv : validS s = true) : Calls Tryd.prog 30 #[.string s] w fun e w' => ∃ rb, e = .returned (.tuple #[.pointer (some ⟨rb, 0, none⟩), .int .i64 0]) ∧ BothG W w' tb L rb (charsOf s) R := by
  obtain ⟨b, rfl, h⟩ := h
  refine (rnew_any h.gap.own s hs).mono ?_
  rintro e w' (⟨h1, _⟩ | ⟨_, rb, v, rfl, ht⟩)
  · rw [hv] at h1
    cases h1
  · refine ⟨rb, rfl, v, ⟨b, rfl, ⟨ht.own.perm ?_, h.gap.okf, h.gap.le1, h.gap.le2, h.gap.lim⟩, h.ok⟩, ht.ok⟩
    exact List.perm_append_comm_assoc _ _ _
theorem rnew_no {W w : World} {R : Heap} (h : Own W w R) (s : ByteArray) (hs : s.size ≤ 300) (hv : validS s = false) : Calls Tryd.prog 30 #[.string s] w fun e w' => e = .returned (.tuple #[.pointer none, .int .i64 5]) ∧ Own W w' R := by
  refine (rnew_any h s hs).mono ?_
  rintro e w' (⟨_, rfl, h2⟩ | ⟨h1, _⟩)
  · exact ⟨rfl, h2⟩
  · rw [hv] at h1
    cases h1
theorem new_no {W w : World} {R : Heap} (h : Own W w R) (hT : Tabs W) (s : ByteArray) (hs : s.size ≤ 300) (hv : validS s = false) : Calls Tryd.prog 14 #[.string s] w fun e w' => e = .returned (.tuple #[.pointer none, .int .i64 5]) ∧ Own W w' R := by
  refine (new_short h hT s hs).mono ?_
  rintro e w' (⟨rfl, _, h2⟩ | ⟨tb, _, h1, _⟩)
  · exact ⟨rfl, h2⟩
  · rw [hv] at h1
    cases h1
set_option maxRecDepth 100000 in
set_option maxHeartbeats 16000000 in
theorem script_walk (s : ByteArray) (l : List Ac) (v : Value) (x y c : Int) (w : World) (hT : Tabs w) (hr : Rd w v 4 l.length (rows Ac.cells l)) (hm : l.length ≤ maxLen) (hs : s.size < 9223372036854775807) : Calls Tryd.prog 9 #[.string s, v, .int .i64 x, .int .i64 y, .int .i64 c] w fun e w' => e = .returned (.bool true) ∧ Below w.heap.size w w' := by
  have HL := hide (lives_any w hT)
  have HT := hide hT
  have HR := hide hr
  have HM := hide hm
  obtain ⟨A, d, rfl, _⟩ := id hr
  clear hr hm
  by_cases h3 : 300 < s.size
  · have z1 : decide (300 < s.size) = true := by simpa using h3
    have z1' : decide ((300 : Int) < (s.size : Int)) = true := by simp; omega
    clear hT h3
    go_enter Tryd.func9, Tryd.ntmps9
    go_wp2_with fail
    refine (Calls.mono (HL.out)) ?_
    rintro r w2 ⟨rfl, h2⟩
    have H2 := hide h2
    clear h2
    go_wp2
    go_ret
    exact ⟨rfl, H2.out⟩
  have z1 : decide (300 < s.size) = false := by simpa using h3
  have z1' : decide ((300 : Int) < (s.size : Int)) = false := by simp; omega
  have HS := hide (show s.size ≤ 300 by omega)
  clear hT h3 hs
  cases hli : lightB l with
  | false =>
    have HLF := hide hli
    clear hli
    go_enter Tryd.func9, Tryd.ntmps9
    go_wp2_with fail
    refine (Calls.mono (HL.out)) ?_
    rintro r w2 ⟨rfl, h2⟩
    have H2 := hide ((Own.refl w).below h2)
    clear h2 HL
    go_wp2_with fail
    refine Calls.mono (HLF.out ▸ light_txt H2.out l _ HR.out HM.out H2.out.bel) ?_
    rintro r w3 ⟨rfl, h3⟩
    have H3 := hide h3
    clear h3
    go_wp2
    go_ret
    exact ⟨rfl, H3.out.bel⟩
  | true =>
    have HLF := hide hli
    have HLI := hide (lightB_iff.1 hli)
    clear hli
    obtain ⟨N, hN⟩ : ∃ N, N = l.length := ⟨_, rfl⟩
    have hN4 : N ≤ 40 := by have := HLI.out.2; omega
    have HLT := hide (fun (w2 : World) (h2 : Own w w2 []) => (show Calls Tryd.prog 12 #[.slice A N d] w2 (fun e w' => e = .returned (.bool true) ∧ Own w w' []) from by
      have := light_txt h2 l _ HR.out HM.out h2.bel
      rwa [HLF.out, ← hN] at this))
    have HRN := hide (show Rd w (.slice A N d) 4 N (rows Ac.cells l) by rw [hN]; exact HR.out)
    rw [← hN]
    have HN := hide hN
    clear hN HR HM HLF
    cases hv : validS s with
    | false =>
      have HV := hide hv
      clear hv
      go_enter Tryd.func9, Tryd.ntmps9
      go_wp2_with fail
      refine (Calls.mono (HL.out)) ?_
      rintro r w2 ⟨rfl, h2⟩
      have H2 := hide ((Own.refl w).below h2)
      clear h2 HL
      go_wp2_with fail
      refine (Calls.mono (HLT.out _ H2.out)) ?_
      rintro r w3 ⟨rfl, h3⟩
      have H3 := hide h3
      clear h3 H2
      go_wp2_with fail
      refine (Calls.mono (new_no H3.out HT.out s HS.out HV.out)) ?_
      rintro r w4 ⟨rfl, h4⟩
      have H4 := hide h4
      clear h4 H3
      go_wp2_with fail
      refine (Calls.mono (rnew_no H4.out s HS.out HV.out)) ?_
      rintro r w5 ⟨rfl, h5⟩
      have H5 := hide h5
      clear h5 H4
      go_wp2
      go_loopw [15] (fun t wr => t = .int .i64 0 ∧ wr = w5) (fun t _ => 0)
      case atStart => exact ⟨rfl, rfl⟩
      case round =>
        obtain ⟨rfl, rfl⟩ := hrel
        by_cases hlt : 0 < N
        · have y1 : decide (0 < N) = true := by simpa using hlt
          have y2 : decide ((0 : Int) < (N : Int)) = true := by simp; omega
          clear hlt
          go_wp2
          go_ret
          exact ⟨rfl, H5.out.bel⟩
        · have y1 : decide (0 < N) = false := by simpa using hlt
          have y2 : decide ((0 : Int) < (N : Int)) = false := by simp; omega
          clear hlt
          go_wp2
          go_ret
          exact ⟨rfl, H5.out.bel⟩
    | true =>
      have HV := hide hv
      clear hv
      go_enter Tryd.func9, Tryd.ntmps9
      go_wp2_with fail
      refine (Calls.mono (HL.out)) ?_
      rintro r w2 ⟨rfl, h2⟩
      have H2 := hide ((Own.refl w).below h2)
      clear h2 HL
      go_wp2_with fail
      refine (Calls.mono (HLT.out _ H2.out)) ?_
      rintro r w3 ⟨rfl, h3⟩
      have H3 := hide h3
      clear h3 H2
      go_wp2_with fail
      refine (Calls.mono (new_yes H3.out HT.out s HS.out HV.out)) ?_
      rintro r w4 ⟨tb, rfl, h4⟩
      have H4 := hide h4
      clear h4 H3
      go_wp2_with fail
      refine (Calls.mono (rnew_both H4.out s HS.out HV.out)) ?_
      rintro r w5 ⟨rb, rfl, h5⟩
      have H5 := hide h5
      clear h5 H4 z1 z1'
      generalize charsOf s = L0 at *
      go_wp2
      go_loopw [15] (fun t wr => ∃ (k : Nat) (L : List Nat), t = .int .i64 (k : Int) ∧ k ≤ N ∧ BothG w wr tb L rb L []) (fun t _ => N - (intOf t).toNat)
      case atStart => exact ⟨0, L0, rfl, Nat.zero_le _, H5.out⟩
      case round =>
        obtain ⟨k, L, rfl, hk, hX⟩ := hrel
        have HX := hide hX
        have h6 := hX.ok.1
        by_cases hlt : k < N
        · have y1 : decide (k < N) = true := by simpa using hlt
          have y2 : decide ((k : Int) < (N : Int)) = true := by simp; omega
          obtain ⟨g, off, rfl⟩ := HRN.out.some_ (by omega)
          obtain ⟨a, ha⟩ : ∃ a, l[k]? = some a := ⟨_, List.getElem?_eq_getElem (by rw [← HN.out]; exact hlt)⟩
          obtain ⟨kd, p, q, tx⟩ := a
          have HTX := hide (show tx.size ≤ 200 from HLI.out.1 _ (List.mem_of_getElem? ha))
          have HCE := hide (fun (w' : World) (hb : Below w.heap.size w w') => (show w'.cell? ⟨g, off + k * 4, none⟩ = some (.int .i64 kd) ∧ w'.cell? ⟨g, off + k * 4 + 1, none⟩ = some (.int .i64 p) ∧ w'.cell? ⟨g, off + k * 4 + 2, none⟩ = some (.int .i64 q) ∧ w'.cell? ⟨g, off + k * 4 + 3, none⟩ = some (.string tx) from by
            have hA := Rd.atA (HRN.out.belowR hb) ha
            exact ⟨hA.p0, hA.p1, hA.p2, hA.p3⟩))
          have HLT2 := hide hlt
          have HPK := hide (fun w => pick_any kd 3 w (by omega) (by omega))
          obtain ⟨e0, he0⟩ : ∃ e0, e0 = Ac.err L ⟨kd, p, q, tx⟩ := ⟨_, rfl⟩
          obtain ⟨L', hL'⟩ : ∃ L', L' = Ac.act L ⟨kd, p, q, tx⟩ := ⟨_, rfl⟩
          have HDO := hide (fun w' (h : BothG w w' tb L rb L' []) => (show Calls Tryd.prog 17 #[.pointer (some ⟨tb, 0, none⟩), .agg #[.int .i64 kd, .int .i64 p, .int .i64 q, .string tx]] w' (fun e w'' => e = .returned (.int .i64 e0) ∧ BothG w w'' tb L' rb L' []) from by
            rw [he0, hL']
            rw [hL'] at h
            exact do_both h HT.out ⟨kd, p, q, tx⟩ (show tx.size < 9223372036854775807 by have := HTX.out; omega)))
          have HSM := hide (fun w' (h : BothG w w' tb L' rb L' []) x y c => same_any h x y c)
          obtain ⟨q0, q1, q2, q3⟩ := HCE.out _ hX.bel
          clear hlt ha
          by_cases hi : pickZ kd 3 < 2
          · have HIN := hide (fun w' (h : BothG w w' tb L rb L []) => (show Calls Tryd.prog 31 #[.pointer (some ⟨rb, 0, none⟩), .int .i64 p, .string tx] w' (fun e w'' => e = .returned (.int .i64 e0) ∧ BothG w w'' tb L rb L' []) from by
              rw [he0, hL', (Ac.err_ins (L := L) (a := ⟨kd, p, q, tx⟩) hi).1, (Ac.err_ins (L := L) (a := ⟨kd, p, q, tx⟩) hi).2]
              exact rins_both h h6 p tx (by have := HTX.out; omega)))
            obtain ⟨pk, hpk⟩ : ∃ pk, pk = pickZ kd 3 := ⟨_, rfl⟩
            rw [← hpk] at hi HPK
            have z3 : decide (pk < 2) = true := by simpa using hi
            have HD := hide (hX.below (Below.refl _ _).drew)
            clear hpk hi he0 hL' hX
            go_wp2_with fail
            refine Calls.mono (HPK.out _) ?_
            rintro r w99 ⟨rfl, rfl⟩
            go_wp2_with fail
            go_region_held3 (fun w' => w'.cell? ⟨g, off + k * 4, none⟩ = some (.int .i64 kd) ∧ w'.cell? ⟨g, off + k * 4 + 1, none⟩ = some (.int .i64 p) ∧ w'.cell? ⟨g, off + k * 4 + 2, none⟩ = some (.int .i64 q) ∧ w'.cell? ⟨g, off + k * 4 + 3, none⟩ = some (.string tx))
              (first | exact HCE.out _ HD.out.bel | exact HCE.out _ H7.out.bel)
              ((first
                | (go_at_call 31; (with_reducible refine Calls.mono (HIN.out _ HD.out) ?_); rintro e w7 ⟨rfl, h7⟩; have H7 := hide h7; clear h7)))
            clear q0 q1 q2 q3
            have HE := hide (H7.out.below (Below.refl _ _).drew)
            obtain ⟨q0, q1, q2, q3⟩ := HCE.out _ H7.out.bel
            go_wp2_with fail
            go_region_held3 (fun w' => w'.cell? ⟨g, off + k * 4, none⟩ = some (.int .i64 kd) ∧ w'.cell? ⟨g, off + k * 4 + 1, none⟩ = some (.int .i64 p) ∧ w'.cell? ⟨g, off + k * 4 + 2, none⟩ = some (.int .i64 q) ∧ w'.cell? ⟨g, off + k * 4 + 3, none⟩ = some (.string tx))
              (first | exact HCE.out _ HE.out.bel | exact HCE.out _ H8.out.bel | exact HCE.out _ H9.out.bel | exact HCE.out _ H10.out.bel)
              ((first
                | (go_at_call 17; (with_reducible refine Calls.mono (HDO.out _ HE.out) ?_); rintro e w8 ⟨rfl, h8⟩; have H8 := hide h8; clear h8)
                | (go_at_call 33; (with_reducible refine Calls.mono (HSM.out _ H9.out p q 10) ?_); rintro e w10 ⟨rfl, h10⟩; have H10 := hide h10; clear h10)
                | (go_at_call 33; (with_reducible refine Calls.mono (HSM.out _ H8.out x y c) ?_); rintro e w9 ⟨rfl, h9⟩; have H9 := hide h9; clear h9)))
            clear q0 q1 q2 q3
            go_wp2
            go_roundw
            case rel => exact ⟨k + 1, L', by go_num, HLT2.out, H10.out⟩
            case measure => have := HLT2.out; simp [intOf]; omega
          · have HIN := hide (fun w' (h : BothG w w' tb L rb L []) => (show Calls Tryd.prog 32 #[.pointer (some ⟨rb, 0, none⟩), .int .i64 p, .int .i64 q] w' (fun e w'' => e = .returned (.int .i64 e0) ∧ BothG w w'' tb L rb L' []) from by
              rw [he0, hL', (Ac.err_del (L := L) (a := ⟨kd, p, q, tx⟩) hi).1, (Ac.err_del (L := L) (a := ⟨kd, p, q, tx⟩) hi).2]
              exact rdel_both h h6 p q))
            obtain ⟨pk, hpk⟩ : ∃ pk, pk = pickZ kd 3 := ⟨_, rfl⟩
            rw [← hpk] at hi HPK
            have z3 : decide (pk < 2) = false := by simpa using hi
            have HD := hide (hX.below (Below.refl _ _).drew)
            clear hpk hi he0 hL' hX
            go_wp2_with fail
            refine Calls.mono (HPK.out _) ?_
            rintro r w99 ⟨rfl, rfl⟩
            go_wp2_with fail
            go_region_held3 (fun w' => w'.cell? ⟨g, off + k * 4, none⟩ = some (.int .i64 kd) ∧ w'.cell? ⟨g, off + k * 4 + 1, none⟩ = some (.int .i64 p) ∧ w'.cell? ⟨g, off + k * 4 + 2, none⟩ = some (.int .i64 q) ∧ w'.cell? ⟨g, off + k * 4 + 3, none⟩ = some (.string tx))
              (first | exact HCE.out _ HD.out.bel | exact HCE.out _ H7.out.bel)
              ((first
                | (go_at_call 32; (with_reducible refine Calls.mono (HIN.out _ HD.out) ?_); rintro e w7 ⟨rfl, h7⟩; have H7 := hide h7; clear h7)))
            clear q0 q1 q2 q3
            have HE := hide (H7.out.below (Below.refl _ _).drew)
            obtain ⟨q0, q1, q2, q3⟩ := HCE.out _ H7.out.bel
            go_wp2_with fail
            go_region_held3 (fun w' => w'.cell? ⟨g, off + k * 4, none⟩ = some (.int .i64 kd) ∧ w'.cell? ⟨g, off + k * 4 + 1, none⟩ = some (.int .i64 p) ∧ w'.cell? ⟨g, off + k * 4 + 2, none⟩ = some (.int .i64 q) ∧ w'.cell? ⟨g, off + k * 4 + 3, none⟩ = some (.string tx))
              (first | exact HCE.out _ HE.out.bel | exact HCE.out _ H8.out.bel | exact HCE.out _ H9.out.bel | exact HCE.out _ H10.out.bel)
              ((first
                | (go_at_call 17; (with_reducible refine Calls.mono (HDO.out _ HE.out) ?_); rintro e w8 ⟨rfl, h8⟩; have H8 := hide h8; clear h8)
                | (go_at_call 33; (with_reducible refine Calls.mono (HSM.out _ H9.out p q 10) ?_); rintro e w10 ⟨rfl, h10⟩; have H10 := hide h10; clear h10)
                | (go_at_call 33; (with_reducible refine Calls.mono (HSM.out _ H8.out x y c) ?_); rintro e w9 ⟨rfl, h9⟩; have H9 := hide h9; clear h9)))
            clear q0 q1 q2 q3
            go_wp2
            go_roundw
            case rel => exact ⟨k + 1, L', by go_num, HLT2.out, H10.out⟩
            case measure => have := HLT2.out; simp [intOf]; omega
        · have y1 : decide (k < N) = false := by simpa using hlt
          have y2 : decide ((k : Int) < (N : Int)) = false := by simp; omega
          have HSM := hide (fun w' (h : BothG w w' tb L rb L []) x y c => same_any h x y c)
          clear hlt hX
          go_wp2_with fail
          refine Calls.mono (HSM.out _ HX.out x y c) ?_
          rintro r w7 ⟨rfl, h7⟩
          have H7 := hide h7
          clear h7
          go_wp2
          go_ret
          exact ⟨rfl, H7.out.bel⟩
end Go.Proofs.YtbljppcaikhjhaaDoor
