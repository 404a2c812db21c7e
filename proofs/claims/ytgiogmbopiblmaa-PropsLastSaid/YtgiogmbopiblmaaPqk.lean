/- PropsFull: the walk. No condition but those written. -/
import Derived.Test.YtgiogmbopiblmaaPqj
namespace Go.Proofs.Ytgiogmbopiblmaa
open Go.RowKit

/-- copyistkit.Pick. -/
def pickZ (n k : Int) : Int := if n.tmod k < 0 then n.tmod k + k else n.tmod k
theorem pickZ_range (n : Int) {k : Int} (hk : 0 < k) : 0 ≤ pickZ n k ∧ pickZ n k < k := by
  have b1 := Int.lt_tmod_of_pos n hk
  have b2 := Int.tmod_lt_of_pos n hk
  unfold pickZ
  split <;> omega
theorem pick_any (n k : Int) (w : World) (hk : 0 < k) (hk2 : k ≤ 100000) : Calls Try.prog 11 #[.int .i64 n, .int .i64 k] w fun e w' => e = .returned (.int .i64 (pickZ n k)) ∧ w = w' := by
  have hz : decide (k ≤ 0) = false := by simp; omega
  have b1 := Int.lt_tmod_of_pos n hk
  have b2 := Int.tmod_lt_of_pos n hk
  by_cases h : n.tmod k < 0
  · have hz2 : decide (n.tmod k < 0) = true := by simpa using h
    have HP := hide (show pickZ n k = n.tmod k + k by unfold pickZ; rw [if_pos h])
    go_enter Try.func11, Try.ntmps11
    go_wp2
    go_ret
    exact ⟨by rw [HP.out]; rfl, rfl⟩
  · have hz2 : decide (n.tmod k < 0) = false := by simpa using h
    have HP := hide (show pickZ n k = n.tmod k by unfold pickZ; rw [if_neg h])
    go_enter Try.func11, Try.ntmps11
    go_wp2
    go_ret
    exact ⟨by rw [HP.out]; rfl, rfl⟩

section
variable {W w : World} {b : Nat} {P : List Pc}
theorem cov_range (a : Int) : ∀ (k m x : Nat), cov 1 ((List.range' m k).map (sq a)) x ≤ if 2 * m + 1 ≤ x then 1 else 0
  | 0, m, x => Nat.zero_le _
  | k + 1, m, x => by
      have ih := cov_range a k (m + 1) x
      rw [List.range'_succ, List.map_cons]
      unfold cov
      have e1 : (sq a m).lo = 2 * (m : Int) + 1 := rfl
      have e2 : (sq a m).hi = 2 * (m : Int) + 2 := rfl
      have e3 : (sq a m).pr.length = 1 := rfl
      rw [e1, e2, e3]
      by_cases h : 1 + (2 * (m : Int) + 1) - 1 ≤ (x : Int) ∧ (x : Int) < 1 + (2 * (m : Int) + 2) - 1
      · rw [if_pos h, if_pos (by omega)]
        rw [if_neg (by omega)] at ih
        omega
      · rw [if_neg h]
        by_cases h2 : 2 * (m + 1) + 1 ≤ x
        · rw [if_pos h2] at ih
          rw [if_pos (by omega)]
          omega
        · rw [if_neg h2] at ih
          omega
theorem sq_sns (a : Int) (n : Nat) (vs : Nat → Value) : sns ((List.range n).map fun i => (sq a i, vs i)) = (List.range n).map (sq a) := by simp [sns]
/-- The spans laid so far. -/
def SqAt (W w : World) (v : Value) (a : Int) (n : Nat) : Prop := ∃ S : List (Sn × Value), OutS W w v S ∧ sns S = (List.range n).map (sq a)
theorem obj_paste_sq {a : Int} (ha : 0 ≤ a) {v : Value} (h : Obj W w b []) (hs : SqAt W w v a 1024) : Calls Try.prog 17 #[.pointer (some ⟨b, 0, none⟩), .int .i64 1, v] w (ORes W w b (PQ a 0 1024) (.int .i64 0)) := by
  obtain ⟨S, h1, h2⟩ := hs
  have hl : S.length = 1024 := by rw [← sns_len, h2]; simp
  have hpr : ∀ s ∈ sns S, s.pr.length ≤ 1 := by
    rw [h2]
    intro s hs
    obtain ⟨k, _, rfl⟩ := List.mem_map.1 hs
    exact Nat.le_refl _
  have hcov : ∀ x, cov 1 (sns S) x ≤ 1 := fun x => by
    have := cov_range a 1024 0 x
    rw [h2, List.range_eq_range']
    split at this <;> omega
  have := obj_paste (D := 1) h (Good.nil 64) v S h1.inn.rd 1 hcov (by omega) (by omega) (fun s hs => Nat.le_trans (hpr s.1 (List.mem_map_of_mem hs)) (by omega))
  rw [h2, (full_paste ha).1, (full_paste ha).2] at this
  exact this
theorem obj_put2 (h : Obj W w b P) (hg : Good P 64) {Q : List Pc} {r a d n k v : Int} (e : putE P a d (n, k, v) = r ∧ putP P a d (n, k, v) = Q) : Calls Try.prog 13 #[.pointer (some ⟨b, 0, none⟩), .int .i64 a, .int .i64 d, .int .i64 n, .agg #[.int .i64 k, .int .i64 v]] w (ORes W w b Q (.int .i64 r)) := obj_put' h hg e
/-- The length of what List and Spans give. -/
theorem obj_listn (h : Obj W w b P) (hg : Good P 64) (x : Int) {n : Nat} (e : (denI P x).length = n) : Calls Try.prog 16 #[.pointer (some ⟨b, 0, none⟩), .int .i64 x] w fun e w' => ∃ A c, e = .returned (.slice A n c) ∧ Below w.heap.size w w' := by
  refine (obj_list h hg (by omega) x).mono ?_
  rintro r w' ⟨v, rfl, h2, _, hb⟩
  obtain ⟨A, c, rfl, _⟩ := Sl.form h2
  exact ⟨A, c, by rw [e], hb⟩
theorem obj_spansn (h : Obj W w b P) (hg : Good P 64) (x y : Int) {n : Nat} (e : (spP P x y 0).length = n) : Calls Try.prog 18 #[.pointer (some ⟨b, 0, none⟩), .int .i64 x, .int .i64 y] w fun e w' => ∃ A c, e = .returned (.slice A n c) ∧ Below w.heap.size w w' := by
  refine (obj_spans h hg (by omega) x y).mono ?_
  rintro r w' ⟨v, S, rfl, h2, h3⟩
  obtain ⟨A, c, rfl, _⟩ := h2.inn.row.form
  refine ⟨A, c, ?_, h2.bel⟩
  rw [← e, ← h3, sns_len]
theorem SqAt.below {w' : World} {v : Value} {a : Int} {n : Nat} (h : SqAt W w v a n) (hb : Below w.heap.size w w') : SqAt W w' v a n := by
  obtain ⟨S, h1, h2⟩ := h
  exact ⟨S, ⟨h1.bel.trans (hb.mono h1.bel.size), h1.inn.below hb, h1.own⟩, h2⟩
theorem gd_full3 {a s : Int} (ha : 0 ≤ a) (hs : 1 ≤ s) : Good (full3 a s [(a, 1, 1)]) 64 := full3_good ha hs (by simp [Asc17]) (fun z hz => by
  have : z = (a, 1, 1) := by simpa using hz
  subst this
  exact ha) (by simp) (by simp)
/-- A row of spans changes beside the object. -/
theorem Obj.beside {w' : World} {v : Value} {n : Nat} {xs : List Value} (h : Obj W w b P) (hs : Sl w 38 3 v n xs) (ho : Only (fun g => v.ownBlock = some g) w w') (hw : ∀ g, v.ownBlock = some g → W.heap.size ≤ g) : Obj W w' b P := by
  obtain ⟨⟨sv, L, h1, h2, h3⟩, h4⟩ := h
  refine ⟨⟨sv, L, h1.frame ho ?_ ?_, h2, h3⟩, h4.trans (ho.below h4.size hw)⟩
  · rintro g (rfl | hg) hv
    · exact Sl.ne_blk hs h1.box (by decide) hv
    · exact Sl.apart h1.inn.row hs (by decide) g hg hv
  · exact fun g hg v2 q hp e => Sl.apart hp hs (by decide) g e hg
theorem oneP_denI (q : List Pr) (x : Nat) : denI (oneP q) (x : Int) = if 2 ≤ x ∧ x < 4 then q else [] := by
  rw [denI_nat, oneP_den]
end
set_option maxRecDepth 100000 in
set_option maxHeartbeats 16000000 in
theorem full_walk (x0 x1 : Int) (w : World) : Calls Try.prog 3 #[.int .i64 x0, .int .i64 x1] w fun e w' => e = .returned (.bool true) ∧ Below w.heap.size w w' := by
  obtain ⟨i0, hi0, hz0, hz1, hz2⟩ := info_parts info_sn
  obtain ⟨a, hae⟩ : ∃ a, a = pickZ x0 1000 := ⟨_, rfl⟩
  obtain ⟨y, hye⟩ : ∃ y, y = pickZ x1 50 := ⟨_, rfl⟩
  have ra := pickZ_range x0 (k := 1000) (by omega)
  have ry := pickZ_range x1 (k := 50) (by omega)
  rw [← hae] at ra
  rw [← hye] at ry
  obtain ⟨ra1, ra2⟩ := ra
  obtain ⟨ry1, ry2⟩ := ry
  obtain ⟨s, hs⟩ : ∃ s, s = 1 + y := ⟨_, rfl⟩
  have hs1 : 1 ≤ s := by omega
  have hs2 : s ≤ 50 := by omega
  have wy : IntKind.i64.wrap (1 + y) = s := by rw [← hs]; exact IntWalk.i64_in _ (by omega)
  have HAE := hide hae
  have HYE := hide hye
  clear hae hye hs
  go_enter Try.func3, Try.ntmps3
  go_wp2_with fail
  refine (Calls.mono (lives_any w)) ?_
  rintro r w1 ⟨rfl, b1⟩
  have B1 := hide b1
  clear b1
  go_wp2_with fail
  refine (Calls.mono (pick_any x0 1000 w1 (by omega) (by omega))) ?_
  rintro r w2 ⟨rfl, rfl⟩
  rw [← HAE.out]
  go_wp2_with fail
  refine (Calls.mono (pick_any x1 50 w1 (by omega) (by omega))) ?_
  rintro r w2 ⟨rfl, rfl⟩
  rw [← HYE.out]
  go_wp2_with fail
  refine (Calls.mono (obj_new B1.out)) ?_
  rintro r w2 ⟨b, rfl, h2, b2⟩
  have H2 := hide h2
  clear h2
  clear b2
  go_wp2
  go_loopw [8] (fun iv wr => ∃ n : Nat, iv = .int .i64 (n : Int) ∧ n ≤ 64 ∧ Obj w wr b (oneP (qs a s n))) (fun iv _ => 64 - (intOf iv).toNat)
  case atStart => exact ⟨0, rfl, by omega, H2.out⟩
  case round =>
    obtain ⟨n, rfl, hn, hob⟩ := hrel
    have HO := hide hob
    have hn2 : (n : Int) ≤ 64 := by omega
    clear hob H2
    by_cases hlt : n < 64
    · have u1 : decide (n < 64) = true := by simpa using hlt
      have u2 : decide ((n : Int) < 64) = true := by simp; omega
      have u3 : (n : Int) < 64 := by omega
      have hm : 0 ≤ (n : Int) * s ∧ (n : Int) * s ≤ 3200 := ⟨Int.mul_nonneg (by omega) (by omega), by
        have h1 : (n : Int) * s ≤ 64 * s := Int.mul_le_mul_of_nonneg_right (by omega) (by omega)
        omega⟩
      obtain ⟨m, hme⟩ : ∃ m, m = (n : Int) * s := ⟨_, rfl⟩
      rw [← hme] at hm
      obtain ⟨hm1, hm2⟩ := hm
      have w1' : IntKind.i64.wrap ((n : Int) * s) = m := by rw [← hme]; exact IntWalk.i64_in _ (by omega)
      have w2' : IntKind.i64.wrap (a + m) = a + m := IntWalk.i64_in _ (by omega)
      have HP := hide (fun (w' : World) (hb : Below wr.heap.size wr w') => obj_put' (HO.out.below hb) (full_good ra1 hs1 n (by omega)) (full_put ra1 hs1 n hlt))
      rw [← hme] at HP
      have HLT := hide hlt
      clear hlt hn hme
      go_wp2_with fail
      refine (Calls.mono (int_any (n : Int) wr)) ?_
      rintro r w4 ⟨rfl, b4⟩
      have B4 := hide b4
      clear b4
      go_wp2_with fail
      refine (Calls.mono (HP.out _ B4.out)) ?_
      rintro r w5 ⟨rfl, h5, _⟩
      have H5 := hide h5
      clear h5
      go_wp2
      go_roundw
      case rel => exact ⟨n + 1, by go_num, HLT.out, H5.out⟩
      case measure => have := HLT.out; simp [intOf]; omega
    · obtain rfl : n = 64 := by omega
      have u2 : decide (((64 : Nat) : Int) < 64) = false := by simp
      clear hn hlt
      have w1' : IntKind.i64.wrap (64 * s) = 64 * s := IntWalk.i64_in _ (by omega)
      have w2' : IntKind.i64.wrap (a + 64 * s) = a + 64 * s := IntWalk.i64_in _ (by omega)
      go_wp2_with fail
      refine (Calls.mono (t_any wr)) ?_
      rintro r w4 ⟨rfl, b4⟩
      have H4 := hide (HO.out.below b4)
      clear b4
      go_wp2_with fail
      refine (Calls.mono (obj_put' H4.out (full_good ra1 hs1 64 (by omega)) (full_over ra1 hs1))) ?_
      rintro r w5 ⟨rfl, h5, _⟩
      have H5 := hide h5
      clear h5 H4
      go_wp2_with fail
      refine (Calls.mono (obj_listn H5.out (full_good ra1 hs1 64 (by omega)) 5 (n := 0) (by rw [show (5 : Int) = ((5 : Nat) : Int) from rfl, oneP_denI]; rfl))) ?_
      rintro r w6 ⟨A6, c6, rfl, b6⟩
      have H6 := hide (H5.out.below b6)
      clear b6 H5
      go_wp2_with fail
      refine (Calls.mono (obj_listn H6.out (full_good ra1 hs1 64 (by omega)) 3 (n := 64) (by rw [show (3 : Int) = ((3 : Nat) : Int) from rfl, oneP_denI]; exact qs_len _ _ _))) ?_
      rintro r w7 ⟨A7, c7, rfl, b7⟩
      have H7 := hide (H6.out.below b7)
      clear b7 H6
      go_wp2_with fail
      refine (Calls.mono (t_any w7)) ?_
      rintro r w8 ⟨rfl, b8⟩
      have H8 := hide (H7.out.below b8)
      clear b8 H7
      go_wp2_with fail
      refine (Calls.mono (obj_put' H8.out (full_good ra1 hs1 64 (by omega)) (full_again ra1))) ?_
      rintro r w9 ⟨rfl, h9, _⟩
      have H9 := hide h9
      clear h9 H8
      go_wp2_with fail
      refine (Calls.mono (t_any w9)) ?_
      rintro r w10 ⟨rfl, b10⟩
      have H10 := hide (H9.out.below b10)
      clear b10 H9
      go_wp2_with fail
      refine (Calls.mono (obj_put' H10.out (gd_full3 ra1 hs1) (full_last ra1 hs1))) ?_
      rintro r w11 ⟨rfl, h11, _⟩
      have H11 := hide h11.bel
      clear h11 H10 w1' w2'
      go_wp2_with fail
      refine (Calls.mono (obj_new H11.out)) ?_
      rintro r w12 ⟨d, rfl, h12, b12⟩
      have H12 := hide h12
      clear h12 b12 H11
      go_wp2
      have HL0 := hide (show SqAt w w12 (.slice none 0 0) a 0 from ⟨[], ⟨H12.out.bel, ⟨Sl.nil _ _ _, fun p hp => by cases hp⟩, fun g hg => by cases hg⟩, rfl⟩)
      obtain ⟨w13, rfl⟩ : ∃ x : World, x = wr := ⟨_, rfl⟩
      go_loopw [10, 11] (fun ov iv wr => ∃ n : Nat, iv = .int .i64 (n : Int) ∧ n ≤ 1024 ∧ Obj w wr d [] ∧ SqAt w wr ov a n) (fun _ iv _ => 1024 - (intOf iv).toNat)
      case atStart => exact ⟨0, rfl, by omega, H12.out, HL0.out⟩
      case round =>
        obtain ⟨n, rfl, hn, hob, hsq⟩ := hrel
        have HO2 := hide hob
        have HSQ := hide hsq
        have hn2 : (n : Int) ≤ 1024 := by omega
        clear hob HO HL0 H12
        by_cases hlt : n < 1024
        · have u1 : decide (n < 1024) = true := by simpa using hlt
          have u2 : decide ((n : Int) < 1024) = true := by simp; omega
          have u3 : (n : Int) < 1024 := by omega
          have v1 : IntKind.i64.wrap (2 * (n : Int)) = 2 * (n : Int) := IntWalk.i64_in _ (by omega)
          have v2 : IntKind.i64.wrap (2 * (n : Int) + 1) = 2 * (n : Int) + 1 := IntWalk.i64_in _ (by omega)
          have v3 : IntKind.i64.wrap (2 * (n : Int) + 2) = 2 * (n : Int) + 2 := IntWalk.i64_in _ (by omega)
          have HLT := hide hlt
          obtain ⟨S, hS, hSe⟩ := id hsq
          obtain ⟨A1, d1, rfl, _⟩ := hS.inn.row.form
          have HS := hide hS
          have HSE := hide hSe
          have hSl : S.length = n := by rw [← sns_len, hSe]; simp
          have hsb : S.length ≤ 1024 := by omega
          have HSL := hide hSl
          clear hlt hn hS hSe hsq hSl
          go_wp2_with fail
          refine (Calls.mono (int_any (n : Int) wr)) ?_
          rintro r w4 ⟨rfl, b4⟩
          have hbx := below_box w4 (.cells #[.int .i64 a, .int .i64 0, .int .i64 (n : Int)] 36)
          have HB5 := hide (b4.trans (hbx.mono b4.size))
          have HP5 := hide (show PrS (w4.alloc (.cells #[.int .i64 a, .int .i64 0, .int .i64 (n : Int)] 36)) (.slice (some ⟨w4.heap.size, 0, none⟩) 1 1) [(a, 0, (n : Int))] from by
            have := Sl.new w4 36 3 #[.int .i64 a, .int .i64 0, .int .i64 (n : Int)] 1 1 (Nat.le_refl _) (by unfold maxLen; omega) (by simp)
            exact this)
          have HSN := hide (show Sl ((w4.alloc (.cells #[.int .i64 a, .int .i64 0, .int .i64 (n : Int)] 36)).alloc (.cells (snC (sq a n, .slice (some ⟨w4.heap.size, 0, none⟩) 1 1)).toArray 38)) 38 3 (.slice A1 S.length d1) S.length (rows snC S) from (HS.out.inn.row.only (Only.of_below (F := fun _ => False) HB5.out) fun _ _ f => f).alloc _)
          have HRD := hide (show Rd ((w4.alloc (.cells #[.int .i64 a, .int .i64 0, .int .i64 (n : Int)] 36)).alloc (.cells (snC (sq a n, .slice (some ⟨w4.heap.size, 0, none⟩) 1 1)).toArray 38)) (.slice (some ⟨w4.heap.size + 1, 0, none⟩) 1 1) 3 1 (snC (sq a n, .slice (some ⟨w4.heap.size, 0, none⟩) 1 1)) from by
            have := rd_sn (w4.alloc (.cells #[.int .i64 a, .int .i64 0, .int .i64 (n : Int)] 36)) (sq a n, .slice (some ⟨w4.heap.size, 0, none⟩) 1 1)
            rw [World.size_alloc] at this
            exact this)
          clear b4 hbx
          go_wp2_with (at_builtin; refine wpList_append_sl rfl (.tmp 76) (.tmp 89) 34 rfl 38 i0 (.agg #[.int .i64 0, .int .i64 0, .slice none 0 0]) 3 40 Try.underlying34 hi0 hz0 hz1 hz2 rfl _ S.length (rows snC S) rfl HSN.out _ rfl 1 _ HRD.out (snC_one rfl) ?b1 ?b2 ?_)
          case b1 => unfold maxLen; omega
          case b2 => omega
          intro v3 w3 hs3 ho3 hv3
          obtain ⟨A3, c3, rfl, _⟩ := hs3.form
          have HM := hide (HS.out.more (s := sq a n) HB5.out HP5.out hs3 ho3 (by simpa using hv3))
          have HO3 := hide (((HO2.out.below HB5.out).below (below_box _ _)).beside HSN.out ho3 HS.out.own)
          clear hs3 ho3 hv3
          go_wp2
          go_roundw
          case rel => exact ⟨n + 1, by go_num, HLT.out, HO3.out, S ++ [(sq a n, .slice (some ⟨w4.heap.size, 0, none⟩) 1 1)], HM.out, by
            have e := HSE.out
            unfold sns at e ⊢
            rw [List.map_append, e, List.range_succ, List.map_append]
            rfl⟩
          case measure => have := HLT.out; simp [intOf]; omega
        · obtain rfl : n = 1024 := by omega
          have u2 : decide (((1024 : Nat) : Int) < 1024) = false := by simp
          obtain ⟨S, hS, hSe⟩ := id hsq
          obtain ⟨A1, d1, rfl, _⟩ := hS.inn.row.form
          have HPA := hide (obj_paste_sq ra1 HO2.out HSQ.out)
          clear hn hlt hsq HSQ hS hSe
          go_wp2_with fail
          refine (Calls.mono (HPA.out)) ?_
          rintro r w4 ⟨rfl, h4, _⟩
          have H4 := hide h4
          clear h4
          go_wp2_with fail
          refine (Calls.mono (t_any w4)) ?_
          rintro r w5 ⟨rfl, b5⟩
          have H5 := hide (H4.out.below b5)
          clear b5 H4
          go_wp2_with fail
          refine (Calls.mono (obj_put' H5.out (PQ_good ra1 1024 0 (by omega)) (full_far ra1))) ?_
          rintro r w6 ⟨rfl, h6, _⟩
          have H6 := hide h6
          clear h6 H5
          go_wp2_with fail
          refine (Calls.mono (obj_spansn H6.out (PQ_good ra1 1024 0 (by omega)) 1 30000 (spans_PQ a))) ?_
          rintro r w7 ⟨A7, c7, rfl, b7⟩
          have H7 := hide (H6.out.below b7)
          clear b7 H6
          go_wp2_with fail
          refine (Calls.mono (int_any 0 w7)) ?_
          rintro r w8 ⟨rfl, b8⟩
          have H8 := hide (H7.out.below b8)
          clear b8 H7
          go_wp2_with fail
          refine (Calls.mono (obj_put' H8.out (PQ_good ra1 1024 0 (by omega)) (few_put ra1))) ?_
          rintro r w9 ⟨rfl, h9, _⟩
          have H9 := hide h9
          clear h9 H8
          go_wp2_with fail
          refine (Calls.mono (obj_spansn H9.out (few_good ra1) 1 30000 (few_spans a))) ?_
          rintro r w10 ⟨A10, c10, rfl, b10⟩
          have H10 := hide (H9.out.below b10)
          clear b10 H9
          go_wp2_with fail
          refine (Calls.mono (t_any w10)) ?_
          rintro r w11 ⟨rfl, b11⟩
          have H11 := hide (H10.out.below b11)
          clear b11 H10
          go_wp2_with fail
          refine (Calls.mono (obj_put' H11.out (few_good ra1) (few_far ra1))) ?_
          rintro r w12 ⟨rfl, h12, _⟩
          have H12 := hide h12
          clear h12 H11
          go_wp2
          go_ret
          exact ⟨rfl, H12.out.bel⟩
end Go.Proofs.Ytgiogmbopiblmaa
