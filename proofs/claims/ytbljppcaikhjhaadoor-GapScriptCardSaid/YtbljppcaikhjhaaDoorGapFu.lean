/- GapFull: the walk. No condition but those written. -/
import Derived.Test.YtbljppcaikhjhaaDoorGapBk
import Derived.Test.YtbljppcaikhjhaaDoorTimes
namespace Go.Proofs.YtbljppcaikhjhaaDoor
open Go.RowKit

/-- What Pick returns. -/
def pickZ (n k : Int) : Int := if n.tmod k < 0 then n.tmod k + k else n.tmod k
theorem pickZ_ge {n k : Int} (hk : 0 < k) : 0 ≤ pickZ n k := by
  have := Int.lt_tmod_of_pos n hk
  unfold pickZ
  split <;> omega
theorem pickZ_lt {n k : Int} (hk : 0 < k) : pickZ n k < k := by
  have := Int.tmod_lt_of_pos n hk
  unfold pickZ
  split <;> omega
theorem pick_any (n k : Int) (w : World) (hk : 0 < k) (hk2 : k ≤ 100000) : Calls Tryd.prog 18 #[.int .i64 n, .int .i64 k] w fun e w' => e = .returned (.int .i64 (pickZ n k)) ∧ w = w' := by
  have hz : decide (k ≤ 0) = false := by simp; omega
  have b1 := Int.lt_tmod_of_pos n hk
  have b2 := Int.tmod_lt_of_pos n hk
  by_cases h : n.tmod k < 0
  · have hz2 : decide (n.tmod k < 0) = true := by simpa using h
    have HP := hide (show pickZ n k = n.tmod k + k by unfold pickZ; rw [if_pos h])
    go_enter Tryd.func18, Tryd.ntmps18
    go_wp2
    go_ret
    exact ⟨by rw [HP.out]; rfl, rfl⟩
  · have hz2 : decide (n.tmod k < 0) = false := by simpa using h
    have HP := hide (show pickZ n k = n.tmod k by unfold pickZ; rw [if_neg h])
    go_enter Tryd.func18, Tryd.ntmps18
    go_wp2
    go_ret
    exact ⟨by rw [HP.out]; rfl, rfl⟩
theorem point_y (l : List UInt8) : pointL (121 :: l) = (121, 1) := by
  unfold pointL
  simp only [List.length_cons, List.getD_cons_zero]
  unfold pointN
  simp
theorem chars_y (n : Nat) : charsL (List.replicate n 121) = some (List.replicate n 121) := by
  induction n with
  | zero => rfl
  | succ n ih =>
    rw [List.replicate_succ, charsL_step _ (by simp), point_y]
    simp [ih, List.replicate_succ]
theorem times_y (n : Nat) : (timesB ⟨#[121]⟩ n).data.toList = List.replicate n 121 := by
  unfold timesB
  simp [flat_rep]
theorem charsOf_y (n : Nat) : charsOf (timesB ⟨#[121]⟩ n) = List.replicate n 121 := by
  unfold charsOf
  rw [times_y, chars_y]
  rfl
theorem valid_y (n : Nat) : validS (timesB ⟨#[121]⟩ n) = true := by unfold validS; rw [times_y, chars_y]; rfl
theorem size_y (n : Nat) : (timesB ⟨#[121]⟩ n).size = n := by
  show (timesB ⟨#[121]⟩ n).data.size = n
  rw [← Array.length_toList, times_y, List.length_replicate]
theorem reflen_any (s : ByteArray) (w : World) (hs : s.size * 8 ≤ 140737488355328) (hv : validS s = true) : Calls Tryd.prog 19 #[.string s] w fun e w' => e = .returned (.int .i64 (lenS s : Int)) ∧ Below w.heap.size w w' := by
  have HE := hide (charsOf_eq hv)
  have HL := hide (show Calls Tryd.prog 35 #[.string s] w (fun e w' => ∃ A c, e = .returned (.tuple #[.slice A (lenS s) c, .int .i64 0]) ∧ Below w.heap.size w w') from by
    refine (list_any s w hs).mono ?_
    rintro e w' ⟨hb, hm⟩
    rw [charsOf_eq hv] at hm
    obtain ⟨v, rfl, hsl, _⟩ := hm
    obtain ⟨A, c, rfl, _⟩ := hsl.form
    exact ⟨A, c, rfl, hb⟩)
  clear hv
  go_enter Tryd.func19, Tryd.ntmps19
  go_wp2_with fail
  refine (Calls.mono (HL.out)) ?_
  rintro r w2 ⟨A, c, rfl, hb⟩
  have HB := hide hb
  clear hb
  go_wp2
  go_ret
  exact ⟨rfl, HB.out⟩
theorem valid_txt {W w : World} {tb : Nat} {L : List Nat} {R : Heap} (h : Txt W w tb L R) (s : ByteArray) (hs : s.size ≤ 300) : Calls Tryd.prog 13 #[.string s] w fun e w' => e = .returned (.bool (validS s)) ∧ Txt W w' tb L R :=
  (refvalid_any s w (by omega)).mono fun e w' hh => ⟨hh.1, h.below hh.2⟩
theorem len_txt {W w : World} {tb : Nat} {L : List Nat} {R : Heap} (h : Txt W w tb L R) (s : ByteArray) (hs : s.size ≤ 300) (hv : validS s = true) : Calls Tryd.prog 19 #[.string s] w fun e w' => e = .returned (.int .i64 (lenS s : Int)) ∧ Txt W w' tb L R :=
  (reflen_any s w (by omega) hv).mono fun e w' hh => ⟨hh.1, h.below hh.2⟩
/-- A text of y alone. -/
theorem new_y {w0 w : World} (h : Own w0 w []) (hT : Tabs w0) (n : Nat) (hn : n ≤ 65536) : Calls Tryd.prog 14 #[.string (timesB ⟨#[121]⟩ n)] w fun e w' => ∃ tb, e = .returned (.tuple #[.pointer (some ⟨tb, 0, none⟩), .int .i64 0]) ∧ Txt w0 w' tb (List.replicate n 121) [] := by
  have := new_ok h hT (timesB ⟨#[121]⟩ n) (by rw [size_y]; omega) (valid_y n) (by
    unfold insErr
    rw [if_neg (by simp), valid_y, if_neg (by simp), lenS_eq, charsOf_y, List.length_replicate, if_neg (by simp; omega)])
  rwa [charsOf_y] at this
theorem str_y (n : Nat) : strOf (List.replicate n 121) = timesB ⟨#[121]⟩ n := by
  rw [← charsOf_y, str_of_chars (valid_y n)]
set_option maxRecDepth 100000 in
set_option maxHeartbeats 16000000 in
theorem full_walk (a b : Int) (s : ByteArray) (w : World) (hT : Tabs w) (hs : s.size < 9223372036854775807) : Calls Tryd.prog 5 #[.int .i64 a, .int .i64 b, .string s] w fun e w' => e = .returned (.bool true) ∧ Below w.heap.size w w' := by
  have HL := hide (lives_any w hT)
  have HT := hide hT
  by_cases h3 : 300 < s.size
  · have z1 : decide (300 < s.size) = true := by simpa using h3
    have z1' : decide ((300 : Int) < (s.size : Int)) = true := by simp; omega
    clear hT h3
    go_enter Tryd.func5, Tryd.ntmps5
    go_wp2_with fail
    refine (Calls.mono (HL.out)) ?_
    rintro r w2 ⟨rfl, h2⟩
    have H2 := hide h2
    clear h2
    go_wp2
    go_ret
    exact ⟨rfl, H2.out⟩
  · have z1 : decide (300 < s.size) = false := by simpa using h3
    have z1' : decide ((300 : Int) < (s.size : Int)) = false := by simp; omega
    have HS := hide (show s.size ≤ 300 by omega)
    have p0 := pickZ_ge (n := a) (k := 400) (by omega)
    have p1 := pickZ_lt (n := a) (k := 400) (by omega)
    obtain ⟨n, hn⟩ : ∃ n : Nat, (n : Int) = 65536 - pickZ a 400 := ⟨(65536 - pickZ a 400).toNat, by omega⟩
    have hwn : IntKind.i64.wrap ((65536 : Int) - pickZ a 400) = (n : Int) := by rw [IntWalk.i64_in _ (by omega)]; exact hn.symm
    have hn6 : n ≤ 65536 := by omega
    have q0 := pickZ_ge (n := b) (k := (n : Int) + 1) (by omega)
    have q1 := pickZ_lt (n := b) (k := (n : Int) + 1) (by omega)
    obtain ⟨k, hk⟩ : ∃ k : Int, k = 1 + pickZ b ((n : Int) + 1) := ⟨_, rfl⟩
    have hwk : IntKind.i64.wrap ((1 : Int) + pickZ b ((n : Int) + 1)) = k := by rw [IntWalk.i64_in _ (by omega)]; exact hk.symm
    have hwn1 : IntKind.i64.wrap ((n : Int) + 1) = (n : Int) + 1 := IntWalk.i64_in _ (by omega)
    have hk1 : 1 ≤ k ∧ k ≤ (n : Int) + 1 := by omega
    have HPA := hide (fun w => pick_any a 400 w (by omega) (by omega))
    have HPB := hide (fun w => pick_any b ((n : Int) + 1) w (by omega) (by omega))
    obtain ⟨pa, hpa⟩ : ∃ pa, pa = pickZ a 400 := ⟨_, rfl⟩
    obtain ⟨pb, hpb⟩ : ∃ pb, pb = pickZ b ((n : Int) + 1) := ⟨_, rfl⟩
    rw [← hpa] at HPA hwn
    rw [← hpb] at HPB hwk
    have HTI := hide (fun w => times_any ⟨#[121]⟩ n w (by omega) (by show n * 1 ≤ _; omega))
    have HK := hide hk1
    obtain ⟨Y, hY⟩ : ∃ Y, Y = timesB ⟨#[121]⟩ n := ⟨_, rfl⟩
    rw [← hY] at HTI
    have HNY := hide (fun (w2 : World) (h2 : Own w w2 []) => (show Calls Tryd.prog 14 #[.string Y] w2 (fun e w' => ∃ tb, e = .returned (.tuple #[.pointer (some ⟨tb, 0, none⟩), .int .i64 0]) ∧ Txt w w' tb (List.replicate n 121) []) from hY ▸ new_y h2 hT n hn6))
    have HYS := hide (show strOf (List.replicate n 121) = Y by rw [hY, str_y])
    obtain ⟨L, hLL⟩ : ∃ L : List Nat, L = List.replicate n 121 := ⟨_, rfl⟩
    rw [← hLL] at HNY HYS
    have HLN := hide (show L.length = n by rw [hLL]; simp)
    clear hT h3 p0 p1 q0 q1 hk hn hpa hpb hY hLL hs hk1
    go_enter Tryd.func5, Tryd.ntmps5
    go_wp2_with fail
    refine (Calls.mono (HL.out)) ?_
    rintro r w2 ⟨rfl, h2⟩
    have H2 := hide ((Own.refl w).below h2)
    clear h2 HL
    go_wp2_with fail
    refine Calls.mono (HPA.out _) ?_
    rintro r w3 ⟨rfl, rfl⟩
    clear z1 z1'
    go_wp2_with fail
    refine Calls.mono (HTI.out _) ?_
    rintro r w3 ⟨rfl, rfl⟩
    go_wp2_with fail
    refine (Calls.mono (HNY.out _ H2.out)) ?_
    rintro r w4 ⟨tb, rfl, h4⟩
    have H4 := hide h4
    clear h4 H2
    go_wp2_with fail
    refine Calls.mono (HPB.out _) ?_
    rintro r w5 ⟨rfl, rfl⟩
    have HSZ := hide (fun (w1 : World) (L1 : List Nat) (m : Nat) (hm : L1.length = m) (h1 : Txt w w1 tb L1 []) => (show Calls Tryd.prog 16 #[.pointer (some ⟨tb, 0, none⟩)] w1 (fun e w' => e = .returned (.int .i64 (m : Int)) ∧ Txt w w' tb L1 []) from hm ▸ size_txt h1))
    cases hv : validS s with
    | false =>
      have hin : insErr L k s = 5 := by unfold insErr; rw [HLN.out, if_neg (by have := HK.out; omega), if_pos hv]
      have HIN := hide (show Calls Tryd.prog 21 #[.pointer (some ⟨tb, 0, none⟩), .int .i64 k, .string s] w4 (fun e w' => e = .returned (.int .i64 5) ∧ Txt w w' tb L []) from by
        have := insert_any H4.out HT.out k s (by have := HS.out; omega)
        rwa [insL_bad (by omega), hin] at this)
      have HV := hide (fun (w1 : World) (h1 : Txt w w1 tb L []) => (show Calls Tryd.prog 13 #[.string s] w1 (fun e w' => e = .returned (.bool false) ∧ Txt w w' tb L []) from hv ▸ valid_txt h1 s HS.out))
      clear hv hin
      go_wp2_with fail
      refine (Calls.mono (HIN.out)) ?_
      rintro r w6 ⟨rfl, h6⟩
      have H6 := hide h6
      clear h6
      go_wp2_with fail
      refine (Calls.mono (HV.out _ H6.out)) ?_
      rintro r w7 ⟨rfl, h7⟩
      have H7 := hide h7
      clear h7
      go_wp2_with fail
      refine (Calls.mono (HSZ.out _ _ n HLN.out H7.out)) ?_
      rintro r w8 ⟨rfl, h8⟩
      have H8 := hide h8
      clear h8
      go_wp2
      go_ret
      exact ⟨rfl, H8.out.bel⟩
    | true =>
      obtain ⟨m, hm⟩ : ∃ m, m = lenS s := ⟨_, rfl⟩
      have hm3 : m ≤ 300 := by rw [hm]; have := lenS_le s; have := HS.out; omega
      have hwm : IntKind.i64.wrap ((n : Int) + (m : Int)) = (n : Int) + (m : Int) := IntWalk.i64_in _ (by omega)
      by_cases hbig : 65536 < n + m
      · have z5 : decide (65536 < n + m) = true := by simpa using hbig
        have z6 : decide ((65536 : Int) < (n : Int) + (m : Int)) = true := by simp; omega
        have hin : insErr L k s = 4 := by unfold insErr; rw [HLN.out, if_neg (by have := HK.out; omega), if_neg (by simp [hv]), ← hm, if_pos hbig]
        have HIN := hide (show Calls Tryd.prog 21 #[.pointer (some ⟨tb, 0, none⟩), .int .i64 k, .string s] w4 (fun e w' => e = .returned (.int .i64 4) ∧ Txt w w' tb L []) from by
          have := insert_any H4.out HT.out k s (by have := HS.out; omega)
          rwa [insL_bad (by omega), hin] at this)
        have HV := hide (fun (w1 : World) (h1 : Txt w w1 tb L []) => (show Calls Tryd.prog 13 #[.string s] w1 (fun e w' => e = .returned (.bool true) ∧ Txt w w' tb L []) from hv ▸ valid_txt h1 s HS.out))
        have HLE := hide (fun (w1 : World) (h1 : Txt w w1 tb L []) => (show Calls Tryd.prog 19 #[.string s] w1 (fun e w' => e = .returned (.int .i64 (m : Int)) ∧ Txt w w' tb L []) from hm ▸ len_txt h1 s HS.out hv))
        have HALL := hide (fun (w1 : World) (h1 : Txt w w1 tb L []) => lives_all h1 HYS.out)
        clear hv hin hm hbig
        go_wp2_with fail
        refine (Calls.mono (HIN.out)) ?_
        rintro r w6 ⟨rfl, h6⟩
        have H6 := hide h6
        clear h6
        go_wp2_with fail
        refine (Calls.mono (HV.out _ H6.out)) ?_
        rintro r w7 ⟨rfl, h7⟩
        have H7 := hide h7
        clear h7
        go_wp2_with fail
        refine (Calls.mono (HLE.out _ H7.out)) ?_
        rintro r w8 ⟨rfl, h8⟩
        have H8 := hide h8
        clear h8
        go_wp2_with fail
        refine (Calls.mono (HSZ.out _ _ n HLN.out H8.out)) ?_
        rintro r w9 ⟨rfl, h9⟩
        have H9 := hide h9
        clear h9
        go_wp2_with fail
        refine (Calls.mono (HALL.out _ H9.out)) ?_
        rintro r w10 ⟨rfl, h10⟩
        have H10 := hide h10
        clear h10
        go_wp2_with fail
        refine Calls.mono (HTI.out _) ?_
        rintro r w11 ⟨rfl, rfl⟩
        go_wp2
        go_ret
        exact ⟨rfl, H10.out.bel⟩
      · have z5 : decide (65536 < n + m) = false := by simpa using hbig
        have z6 : decide ((65536 : Int) < (n : Int) + (m : Int)) = false := by simp; omega
        have hin : insErr L k s = 0 := by unfold insErr; rw [HLN.out, if_neg (by have := HK.out; omega), if_neg (by simp [hv]), ← hm, if_neg hbig]
        obtain ⟨_, _, _, hil⟩ := insL_ok hin
        obtain ⟨L1, hL1⟩ : ∃ L1, L1 = insL L k s := ⟨_, rfl⟩
        have hl1 : L1.length = n + m := by
          rw [hL1, hil, hm, lenS_eq]
          simp
          have := HLN.out
          have := HK.out
          omega
        have hb := (back_in (L := L) (X := charsOf s) (x := k) HK.out.1 (by have := HLN.out; have := HK.out; omega) (k + (m : Int)) (by rw [← hil, ← hL1, hl1, HLN.out]; omega)).1
        rw [← hil, ← hL1, str_of_chars hv] at hb
        have hwkm : IntKind.i64.wrap (k + (m : Int)) = k + (m : Int) := IntWalk.i64_in _ (by have := HK.out; omega)
        have HIN := hide (show Calls Tryd.prog 21 #[.pointer (some ⟨tb, 0, none⟩), .int .i64 k, .string s] w4 (fun e w' => e = .returned (.int .i64 0) ∧ Txt w w' tb L1 []) from lives_in H4.out HT.out (by have := HS.out; omega) hin hL1.symm)
        have HV := hide (fun (w1 : World) (h1 : Txt w w1 tb L1 []) => (show Calls Tryd.prog 13 #[.string s] w1 (fun e w' => e = .returned (.bool true) ∧ Txt w w' tb L1 []) from hv ▸ valid_txt h1 s HS.out))
        have HLE := hide (fun (w1 : World) (h1 : Txt w w1 tb L1 []) => (show Calls Tryd.prog 19 #[.string s] w1 (fun e w' => e = .returned (.int .i64 (m : Int)) ∧ Txt w w' tb L1 []) from hm ▸ len_txt h1 s HS.out hv))
        have HSL := hide (fun (w1 : World) (h1 : Txt w w1 tb L1 []) => (show Calls Tryd.prog 15 #[.pointer (some ⟨tb, 0, none⟩), .int .i64 k, .int .i64 (k + (m : Int))] w1 (fun e w' => e = .returned (.tuple #[.string s, .int .i64 0]) ∧ Txt w w' tb L1 []) from hb ▸ slice_txt h1 k (k + (m : Int))))
        have HS1 := hide (fun (w1 : World) (h1 : Txt w w1 tb L1 []) => (show Calls Tryd.prog 16 #[.pointer (some ⟨tb, 0, none⟩)] w1 (fun e w' => e = .returned (.int .i64 ((n : Int) + (m : Int))) ∧ Txt w w' tb L1 []) from (show ((L1.length : Nat) : Int) = (n : Int) + (m : Int) by rw [hl1]; rfl) ▸ size_txt h1))
        clear hv hin hm hbig hil hL1 hl1 hb
        go_wp2_with fail
        refine (Calls.mono (HIN.out)) ?_
        rintro r w6 ⟨rfl, h6⟩
        have H6 := hide h6
        clear h6
        go_wp2_with fail
        refine (Calls.mono (HV.out _ H6.out)) ?_
        rintro r w7 ⟨rfl, h7⟩
        have H7 := hide h7
        clear h7
        go_wp2_with fail
        refine (Calls.mono (HLE.out _ H7.out)) ?_
        rintro r w8 ⟨rfl, h8⟩
        have H8 := hide h8
        clear h8
        go_wp2_with fail
        refine (Calls.mono (HSL.out _ H8.out)) ?_
        rintro r w9 ⟨rfl, h9⟩
        have H9 := hide h9
        clear h9
        go_wp2_with fail
        refine (Calls.mono (HS1.out _ H9.out)) ?_
        rintro r w10 ⟨rfl, h10⟩
        have H10 := hide h10
        clear h10
        go_wp2
        go_ret
        exact ⟨rfl, H10.out.bel⟩
end Go.Proofs.YtbljppcaikhjhaaDoor
