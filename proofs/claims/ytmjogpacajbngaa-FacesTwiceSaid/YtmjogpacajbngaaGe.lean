/- FacesTwice: the walk. No condition but those written. -/
import Derived.Test.YtmjogpacajbngaaGd
namespace Go.Proofs.Ytmjogpacajbngaa
open Go.RowKit

theorem tw_cells {W w' : World} {ga gd gl n : Nat} {a d : Att} {v : Value} {once : List ByteArray} {c1 c2 : Int} {b1 b2 b3 : Bool} (h : TwI W w' ga a v n once [(gl, .cells 26 #[.int .i64 c1, .int .i64 c2, .bool b1, .bool b2, .bool b3]), (gd, .cells 23 d.cells.toArray)]) : w'.cell? ⟨ga, 0, none⟩ = some (.int .i64 a.fo) ∧ w'.cell? ⟨ga, 1, none⟩ = some (.int .i64 a.ba) ∧ w'.cell? ⟨ga, 2, none⟩ = some (.int .i64 a.bo) ∧ w'.cell? ⟨ga, 3, none⟩ = some (.int .i64 a.un) ∧ w'.cell? ⟨ga, 4, none⟩ = some (.int .i64 a.iv) ∧ w'.cell? ⟨ga, 5, none⟩ = some (.string a.inh) ∧ w'.cell? ⟨gd, 0, none⟩ = some (.int .i64 d.fo) ∧ w'.cell? ⟨gd, 1, none⟩ = some (.int .i64 d.ba) ∧ w'.cell? ⟨gd, 2, none⟩ = some (.int .i64 d.bo) ∧ w'.cell? ⟨gd, 3, none⟩ = some (.int .i64 d.un) ∧ w'.cell? ⟨gd, 4, none⟩ = some (.int .i64 d.iv) ∧ w'.cell? ⟨gd, 5, none⟩ = some (.string d.inh) ∧ w'.cell? ⟨gl, 0, none⟩ = some (.int .i64 c1) ∧ w'.cell? ⟨gl, 1, none⟩ = some (.int .i64 c2) ∧ w'.cell? ⟨gl, 2, none⟩ = some (.bool b1) ∧ w'.cell? ⟨gl, 3, none⟩ = some (.bool b2) ∧ w'.cell? ⟨gl, 4, none⟩ = some (.bool b3) := by
  obtain ⟨a0, a1, a2, a3, a4, a5⟩ := h.att
  obtain ⟨d0, d1, d2, d3, d4, d5⟩ := Blk.att (a := d) (h.mem (g := gd) (t := 23) (by simp))
  have hl : Blk w' gl 26 #[.int .i64 c1, .int .i64 c2, .bool b1, .bool b2, .bool b3] := h.mem (by simp)
  exact ⟨a0, a1, a2, a3, a4, a5, d0, d1, d2, d3, d4, d5, by rw [hl.cell]; rfl, by rw [hl.cell]; rfl, by rw [hl.cell]; rfl, by rw [hl.cell]; rfl, by rw [hl.cell]; rfl⟩
set_option maxRecDepth 100000 in
set_option maxRecDepth 100000 in
set_option maxHeartbeats 16000000 in
theorem twice_walk {w : World} {A B : Option Addr} {n c m d : Nat} {la : List Fac} {l : List ByteArray} (h : Rd w (.slice A n c) 8 n (rows Fac.cells la)) (hq : Rd w (.slice B m d) 1 m (strs l)) : Calls Try.prog 8 #[.slice A n c, .slice B m d] w fun e w' => e = .returned (.bool true) ∧ Below w.heap.size w w' := by
  have hlen : l.length = m := by
    obtain ⟨_, _, _, h, _⟩ := hq
    simpa [strs] using h
  have HR := hide h
  have HQ0 := hide hq
  have HL := hide hlen
  clear h hq hlen
  go_enter Try.func8, Try.ntmps8
  go_wp2_with fail
  refine (Calls.mono (known_any _)) ?_
  rintro r w2 ⟨rfl, hb2⟩
  have B2 := hide hb2
  have HR2 := hide (HR.out.belowF hb2)
  clear hb2
  go_wp2_with fail
  refine (Calls.mono (long_any HR2.out)) ?_
  rintro r w3 ⟨rfl, rfl⟩
  cases hl : longF la with
  | true =>
    go_wp2
    go_ret
    exact ⟨rfl, B2.out⟩
  | false =>
    have HN := hide (longF_no hl)
    clear hl
    by_cases h12 : 12 < m
    · have y1 : decide (12 < m) = true := by simpa using h12
      have y2 : decide ((12 : Int) < (m : Int)) = true := by simp; omega
      go_wp2
      go_ret
      exact ⟨rfl, B2.out⟩
    have y1 : decide (12 < m) = false := by simpa using h12
    have y2 : decide ((12 : Int) < (m : Int)) = false := by simp; omega
    have HM := hide (show m ≤ 12 by omega)
    go_wp2_with fail
    refine (Calls.mono ((played_any HR2.out (by have := HN.out.1; have := rd_lenF HR2.out; omega) HN.out.2))) ?_
    rintro r w4 ⟨fb, mb, rfl, h4⟩
    have HG := hide (good_play good_new la)
    have H4 := hide h4
    clear h4 h12 y1 y2
    obtain ⟨D, hD⟩ : ∃ D, D = playF [(dflt, attZero)] la := ⟨_, rfl⟩
    rw [← hD] at H4 HG
    clear hD
    have B4 := hide (B2.out.trans (H4.out.bel.mono B2.out.size))
    have HQ4 := hide (HQ0.out.belowF B4.out)
    have HFa := hide (fun (w' : World) (hb : Below w4.heap.size w4 w') => (H4.out.below hb).fin)
    go_wp2_with fail
    go_loopw [7, 9] (fun t u wr => ∃ (k nO : Nat) (once : List ByteArray), u = .int .i64 (k : Int) ∧ k ≤ m ∧ TwI w4 wr w4.heap.size (accum D (l.take k)) t nO once [] ∧ nO ≤ k ∧ accum D once = accum D (l.take k)) (fun _ u _ => m - (intOf u).toNat)
    case atStart => exact ⟨0, 0, [], rfl, Nat.zero_le _, tw_start (Below.refl _ _), Nat.le_refl _, rfl⟩
    case round =>
      obtain ⟨k, nO, once, rfl, hk, hI, hnk, hac⟩ := hrel
      have HI := hide hI
      have HAC := hide hac
      have hm12 := HM.out
      obtain ⟨Ao, co, rfl, _⟩ := hI.sl.form
      clear hI hac
      by_cases hlt : k < m
      · have y1 : decide (k < m) = true := by simpa using hlt
        have y2 : decide ((k : Int) < (m : Int)) = true := by simp; omega
        obtain ⟨x, hx⟩ : ∃ x, l[k]? = some x := ⟨_, List.getElem?_eq_getElem (by rw [HL.out]; exact hlt)⟩
        obtain ⟨g, off, rfl, hcell⟩ := rd_str HQ4.out hx
        have HC := hide (show ∀ (j : Nat) (y : ByteArray), l[j]? = some y → ∀ w', Below w4.heap.size w4 w' → w'.cell? ⟨g, off + j, none⟩ = some (.string y) from fun j y hy w' hb => by
          obtain ⟨g', off', e, hcell⟩ := rd_str HQ4.out hy
          injection e with e
          injection e with e1 e2
          subst e1 e2
          exact (World.cell?_of_block (hb.block g (World.block_lt_of_cell? _ _ hcell))).trans hcell)
        have HX := hide hx
        have HLT := hide hlt
        have HNK := hide hnk
        have cx := HC.out k x hx wr HI.out.own.bel
        clear hcell hx
        go_wp2_with fail
        go_loopw [10, 11] (fun t u w' => ∃ j : Nat, u = .int .i64 (j : Int) ∧ j ≤ k ∧ t = .bool ((l.take j).any fun y => y == x) ∧ LaterW wr w') (fun _ u _ => k - (intOf u).toNat)
        case atStart => exact ⟨0, rfl, Nat.zero_le _, rfl, ⟨0, rfl⟩⟩
        case round =>
          obtain ⟨j, rfl, hj, rfl, q, rfl⟩ := hrel
          by_cases hjk : j < k
          · have z1 : decide (j < k) = true := by simpa using hjk
            have z2 : decide ((j : Int) < (k : Int)) = true := by simp; omega
            obtain ⟨y, hy⟩ : ∃ y, l[j]? = some y := ⟨_, List.getElem?_eq_getElem (by rw [HL.out]; omega)⟩
            have cy := HC.out j y hy wr HI.out.own.bel
            have HN2 := hide (any_next (p := fun y => y == x) hy)
            have HJ := hide hjk
            have hjm : j < m := by omega
            clear hy
            cases hs : (l.take j).any fun y => y == x with
            | true =>
              have HS := hide hs
              clear hs
              go_wp2
              go_region
              go_wp2
              go_roundw
              case rel => exact ⟨j + 1, by go_num, HJ.out, by rw [HN2.out, HS.out]; rfl, ⟨_, rfl⟩⟩
              case measure => have := HJ.out; simp [intOf]; omega
            | false =>
              have HS := hide hs
              clear hs
              cases he : y == x with
              | true =>
                have z3 : (y.toList == x.toList) = true := by rw [toList_beq]; exact he
                have HE := hide he
                clear he
                go_wp2
                go_region
                go_wp2
                go_roundw
                case rel => exact ⟨j + 1, by go_num, HJ.out, by rw [HN2.out, HS.out, HE.out]; rfl, ⟨_, rfl⟩⟩
                case measure => have := HJ.out; simp [intOf]; omega
              | false =>
                have z3 : (y.toList == x.toList) = false := by rw [toList_beq]; exact he
                have HE := hide he
                clear he
                go_wp2
                go_region
                go_wp2
                go_roundw
                case rel => exact ⟨j + 1, by go_num, HJ.out, by rw [HN2.out, HS.out, HE.out]; rfl, ⟨_, rfl⟩⟩
                case measure => have := HJ.out; simp [intOf]; omega
          · have z1 : decide (j < k) = false := by simpa using hjk
            have z2 : decide ((j : Int) < (k : Int)) = false := by simp; omega
            obtain rfl : k = j := by omega
            have H0 := hide (HI.out.below (below_later wr q))
            have cx2 := HC.out k x HX.out (wr.drewN q) H0.out.own.bel
            obtain ⟨F, hF⟩ : ∃ F, F = fullA D x := ⟨_, rfl⟩
            have HT := hide (show accum D (l.take (k + 1)) = over (accum D (l.take k)) F by
              rw [take_next HX.out, accum_snoc, hF])
            have HFX := hide hF
            have HFu := hide (show ∀ w', Below w4.heap.size w4 w' → Calls Try.prog 26 #[.pointer (some ⟨fb, 0, none⟩), .string x] w' (fun e w'' => e = .returned (.tuple #[F.val, .int .i64 (fullE D x)]) ∧ Below w'.heap.size w' w'') from fun w' hb => by
              have := full_any (HFa.out w' hb) HG.out.ch x
              rwa [← hF] at this)
            clear hF cx
            cases hk1 : (look D x).isSome with
            | false =>
              have hE : fullE D x = 8 := by
                unfold fullE
                rw [if_neg (by rw [hk1]; decide)]
              rw [hE] at HFu
              have HZ := hide (show F = attZero by rw [HFX.out]; exact fullA_no hk1)
              clear hE hk1
              go_wp2_with fail
              refine Calls.mono (HFu.out _ H0.out.own.bel) ?_
              rintro r w6 ⟨rfl, hb6⟩
              have H6 := hide ((H0.out.below hb6).box 23 F.cells.toArray)
              clear hb6 cx2
              obtain ⟨a0, a1, a2, a3, a4, a5⟩ := H6.out.att
              obtain ⟨f0, f1, f2, f3, f4, f5⟩ := Blk.att (a := F) (H6.out.mem (g := w6.heap.size) (t := 23) (by simp))
              go_wp2_with fail
              refine Calls.mono (over_any (accum D (l.take k)) F _) ?_
              rintro r w9 ⟨rfl, hb9⟩
              have H9 := hide (H6.out.below hb9)
              clear hb9 a0 a1 a2 a3 a4 a5 f0 f1 f2 f3 f4 f5
              obtain ⟨a0, a1, a2, a3, a4, a5⟩ := H9.out.att
              have z0 := H9.out.frz 0
              have z1 := H9.out.frz 1
              have z2 := H9.out.frz 2
              have z3 := H9.out.frz 3
              have z4 := H9.out.frz 4
              have z5 := H9.out.frz 5
              go_wp2
              go_roundw
              case rel => exact ⟨k + 1, nO, once, by go_num, HLT.out, by rw [HT.out]; exact (H9.out.six _).less (List.nil_sublist _), by have := HNK.out; omega, by rw [HT.out, HZ.out, over_zero]; exact HAC.out⟩
              case measure => have := HLT.out; simp [intOf]; omega
            | true =>
              have hE : fullE D x = 0 := by
                unfold fullE
                rw [if_pos hk1]
              rw [hE] at HFu
              clear hE hk1
              cases hs : (l.take k).any fun y => y == x with
              | true =>
                have HMM := hide (show x ∈ l.take k by
                  obtain ⟨y, hy, e⟩ := List.any_eq_true.1 hs
                  rw [← (MapKept.bytes_beq _ _).1 e]
                  exact hy)
                clear hs
                go_wp2_with fail
                refine Calls.mono (HFu.out _ H0.out.own.bel) ?_
                rintro r w6 ⟨rfl, hb6⟩
                have H6 := hide ((H0.out.below hb6).box 23 F.cells.toArray)
                clear hb6 cx2
                obtain ⟨a0, a1, a2, a3, a4, a5⟩ := H6.out.att
                obtain ⟨f0, f1, f2, f3, f4, f5⟩ := Blk.att (a := F) (H6.out.mem (g := w6.heap.size) (t := 23) (by simp))
                go_wp2_with fail
                refine Calls.mono (over_any (accum D (l.take k)) F _) ?_
                rintro r w9 ⟨rfl, hb9⟩
                have H9 := hide (H6.out.below hb9)
                clear hb9 a0 a1 a2 a3 a4 a5 f0 f1 f2 f3 f4 f5
                obtain ⟨a0, a1, a2, a3, a4, a5⟩ := H9.out.att
                have z0 := H9.out.frz 0
                have z1 := H9.out.frz 1
                have z2 := H9.out.frz 2
                have z3 := H9.out.frz 3
                have z4 := H9.out.frz 4
                have z5 := H9.out.frz 5
                go_wp2
                go_roundw
                case rel => exact ⟨k + 1, nO, once, by go_num, HLT.out, by rw [HT.out]; exact (H9.out.six _).less (List.nil_sublist _), by have := HNK.out; omega, by rw [HT.out, HFX.out, accum_mem HMM.out]; exact HAC.out⟩
                case measure => have := HLT.out; simp [intOf]; omega
              | false =>
                clear hs
                go_wp2_with fail
                refine Calls.mono (HFu.out _ H0.out.own.bel) ?_
                rintro r w6 ⟨rfl, hb6⟩
                have H6 := hide ((H0.out.below hb6).box 23 F.cells.toArray)
                clear hb6 cx2
                have cx6 := HC.out k x HX.out _ H6.out.own.bel
                have H7 := hide (H6.out.below ((Below.refl _ _).alloc (Nat.le_refl _) (.cells #[.string x] 9)))
                have HRD := hide (show Rd ((w6.alloc (.cells F.cells.toArray 23)).alloc (.cells #[.string x] 9)) (.slice (some ⟨w6.heap.size + 1, 0, none⟩) 1 1) 1 1 [.string x] by
                  have := rd_elem (w6.alloc (.cells F.cells.toArray 23)) 9 1 [.string x] rfl
                  rwa [World.size_alloc] at this)
                have hnk := HNK.out
                obtain ⟨i0, hi, hz0, hz1, hz2⟩ := info_parts info_str
                go_wp2_with (at_builtin; refine wpList_append_sl rfl (.tmp 66) (.tmp 71) 39 rfl 9 i0 _ 1 16 Try.underlying39 hi hz0 hz1 hz2 rfl (.slice Ao nO co) nO (strs once) rfl H7.out.sl _ rfl 1 [.string x] HRD.out (strs_one [x]) (by unfold maxLen; omega) (by omega) ?_; intro v' w8 hs8 ho8 hv8; have H8 := hide (H7.out.append hs8 ho8 hv8); obtain ⟨Ap, cp, rfl, _⟩ := hs8.form; clear hs8 ho8 hv8 cx6 hi hz0 hz1 hz2; obtain ⟨a0, a1, a2, a3, a4, a5⟩ := H8.out.att; obtain ⟨f0, f1, f2, f3, f4, f5⟩ := Blk.att (a := F) (H8.out.mem (g := w6.heap.size) (t := 23) (by simp)))
                refine Calls.mono (over_any (accum D (l.take k)) F _) ?_
                rintro r w9 ⟨rfl, hb9⟩
                have H9 := hide (H8.out.below hb9)
                clear hb9 a0 a1 a2 a3 a4 a5 f0 f1 f2 f3 f4 f5
                obtain ⟨a0, a1, a2, a3, a4, a5⟩ := H9.out.att
                have z0 := H9.out.frz 0
                have z1 := H9.out.frz 1
                have z2 := H9.out.frz 2
                have z3 := H9.out.frz 3
                have z4 := H9.out.frz 4
                have z5 := H9.out.frz 5
                go_wp2
                go_roundw
                case rel => exact ⟨k + 1, nO + 1, once ++ [x], by go_num, HLT.out, by rw [HT.out]; exact (H9.out.six _).less (List.nil_sublist _), by have := HNK.out; omega, by rw [HT.out, accum_snoc, HAC.out, HFX.out]⟩
                case measure => have := HLT.out; simp [intOf]; omega
      · have y1 : decide (k < m) = false := by simpa using hlt
        have y2 : decide ((k : Int) < (m : Int)) = false := by simp; omega
        obtain rfl : k = m := by omega
        have hT : l.take k = l := List.take_of_length_le (by rw [HL.out]; exact Nat.le_refl _)
        rw [hT] at HI HAC
        obtain ⟨a, ha⟩ : ∃ a, a = accum D l := ⟨_, rfl⟩
        rw [← ha] at HI HAC
        obtain ⟨dd, hdd⟩ : ∃ dd, dd = fullA D dflt := ⟨_, rfl⟩
        obtain ⟨c1, c2, b1, b2, b3, hlv⟩ : ∃ c1 c2 b1 b2 b3, lookV (over a dd) = .agg #[.int .i64 c1, .int .i64 c2, .bool b1, .bool b2, .bool b3] := ⟨_, _, _, _, _, rfl⟩
        have e2 : ∀ w, (binOp .eql 26 (.agg #[.int .i64 c1, .int .i64 c2, .bool b1, .bool b2, .bool b3]) (.agg #[.int .i64 c1, .int .i64 c2, .bool b1, .bool b2, .bool b3])).run Try.prog w = .ok (.bool true) w := fun w => by rw [eql_look]; simp
        have H26 := hide (fun w => (show Calls Try.prog 13 #[(over a dd).val] w (fun e w' => e = .returned (.agg #[.int .i64 c1, .int .i64 c2, .bool b1, .bool b2, .bool b3]) ∧ Below w.heap.size w w') from hlv ▸ look_any (over a dd) w))
        have HFd := hide (show ∀ w', Below w4.heap.size w4 w' → Calls Try.prog 26 #[.pointer (some ⟨fb, 0, none⟩), .string dflt] w' (fun e w'' => e = .returned (.tuple #[dd.val, .int .i64 0]) ∧ Below w'.heap.size w' w'') from fun w' hb => by
          have := full_any (HFa.out w' hb) HG.out.ch dflt
          rwa [← hdd, show fullE D dflt = 0 from by unfold fullE; rw [if_pos HG.out.d]] at this)
        have HRES := hide (show ∀ w', Below w4.heap.size w4 w' → ∀ (l' : List ByteArray) (v' : Value), Rd w' v' 1 l'.length (strs l') → l'.length ≤ 1000000 → accum D l' = a → Calls Try.prog 28 #[.pointer (some ⟨fb, 0, none⟩), v'] w' (fun e w'' => e = .returned (.agg #[.int .i64 c1, .int .i64 c2, .bool b1, .bool b2, .bool b3]) ∧ Below w'.heap.size w' w'') from fun w' hb l' v' hr hm' hacc => by
          have := resolve_any (HFa.out w' hb) HG.out.ch l' v' hr hm'
          rwa [hacc, ← hdd, hlv] at this)
        have HA2 := hide (show accum D (l ++ l) = a by rw [accum_twice, ha])
        have HA1 := hide ha.symm
        have HNO := hide (show once.length ≤ 1000000 by rw [HI.out.len]; omega)
        clear hlv hdd ha hT
        go_wp2_with fail
        refine Calls.mono (HFd.out _ HI.out.own.bel) ?_
        rintro r w6 ⟨rfl, hb6⟩
        have H6 := hide ((HI.out.below hb6).box 23 dd.cells.toArray)
        clear hb6
        go_wp2_with fail
        refine Calls.mono (HRES.out _ H6.out.own.bel l _ (by rw [HL.out]; exact HQ4.out.belowF H6.out.own.bel) (by rw [HL.out]; omega) HA1.out) ?_
        rintro r w7 ⟨rfl, hb7⟩
        have H7 := hide ((H6.out.below hb7).box 26 #[.int .i64 c1, .int .i64 c2, .bool b1, .bool b2, .bool b3])
        clear hb7
        go_wp2_with fail
        have HQ := hide (fun w' h => tw_cells (W := w4) (w' := w') (ga := w4.heap.size) (gd := w6.heap.size) (gl := w7.heap.size) (n := nO) (a := a) (d := dd) (v := .slice Ao nO co) (once := once) (c1 := c1) (c2 := c2) (b1 := b1) (b2 := b2) (b3 := b3) h)
        have B0 := hide (H7.out.below (Below.refl _ _).drew)
        obtain ⟨i0, hi, hz0, hz1, hz2⟩ := info_parts info_str
        refine wp_region_held_drew (S := fun w' => w'.cell? ⟨w4.heap.size, 0, none⟩ = some (.int .i64 a.fo) ∧ w'.cell? ⟨w4.heap.size, 1, none⟩ = some (.int .i64 a.ba) ∧ w'.cell? ⟨w4.heap.size, 2, none⟩ = some (.int .i64 a.bo) ∧ w'.cell? ⟨w4.heap.size, 3, none⟩ = some (.int .i64 a.un) ∧ w'.cell? ⟨w4.heap.size, 4, none⟩ = some (.int .i64 a.iv) ∧ w'.cell? ⟨w4.heap.size, 5, none⟩ = some (.string a.inh) ∧ w'.cell? ⟨w6.heap.size, 0, none⟩ = some (.int .i64 dd.fo) ∧ w'.cell? ⟨w6.heap.size, 1, none⟩ = some (.int .i64 dd.ba) ∧ w'.cell? ⟨w6.heap.size, 2, none⟩ = some (.int .i64 dd.bo) ∧ w'.cell? ⟨w6.heap.size, 3, none⟩ = some (.int .i64 dd.un) ∧ w'.cell? ⟨w6.heap.size, 4, none⟩ = some (.int .i64 dd.iv) ∧ w'.cell? ⟨w6.heap.size, 5, none⟩ = some (.string dd.inh) ∧ w'.cell? ⟨w7.heap.size, 0, none⟩ = some (.int .i64 c1) ∧ w'.cell? ⟨w7.heap.size, 1, none⟩ = some (.int .i64 c2) ∧ w'.cell? ⟨w7.heap.size, 2, none⟩ = some (.bool b1) ∧ w'.cell? ⟨w7.heap.size, 3, none⟩ = some (.bool b2) ∧ w'.cell? ⟨w7.heap.size, 4, none⟩ = some (.bool b3)) (by kernel_rfl) (by (try dsimp only); exact HQ.out _ B0.out) (fun hHeld => ?_)
        refine wpAnyH_take (i := 0) (oi := { dst := some 84, op := Op.move (Operand.tmp 5), type := 4, pos := "law.go:227", after := #[], guard := none }) (v := ?_) rfl (by kernel_rfl) (by kernel_rfl) (by kernel_rfl) (fun _ _ _ h => h) (Or.inl ⟨by rfl, ?_⟩) (by assumption) ?_
        rotate_left
        · intro w hSw
          (try dsimp only at hSw)
          go_simp
          all_goals with_reducible rfl
        simp only [Act.put, List.setIfInBounds_toArray, List.set_cons_zero, List.set_cons_succ]
        refine wpAnyH_take (i := 1) (oi := { dst := some 85, op := Op.move (Operand.tmp 84), type := 4, pos := "law.go:227", after := #[{ on := 0, ground := Ground.data }], guard := none }) (v := ?_) rfl (by kernel_rfl) (by kernel_rfl) (by kernel_rfl) (fun _ _ _ h => h) (Or.inl ⟨by rfl, ?_⟩) (by assumption) ?_
        rotate_left
        · intro w hSw
          (try dsimp only at hSw)
          go_simp
          all_goals with_reducible rfl
        simp only [Act.put, List.setIfInBounds_toArray, List.set_cons_zero, List.set_cons_succ]
        refine wpAnyH_take (i := 2) (oi := { dst := some 86, op := Op.move (Operand.tmp 15), type := 35, pos := "law.go:227", after := #[{ on := 1, ground := Ground.guard }], guard := some (1, true) }) (v := ?_) rfl (by kernel_rfl) (by kernel_rfl) (by kernel_rfl) (fun _ _ _ h => h) (Or.inl ⟨by rfl, ?_⟩) (by assumption) ?_
        rotate_left
        · intro w hSw
          (try dsimp only at hSw)
          go_simp
          all_goals with_reducible rfl
        simp only [Act.put, List.setIfInBounds_toArray, List.set_cons_zero, List.set_cons_succ]
        refine wpAnyH_take (i := 3) (oi := { dst := some 87, op := Op.binOp BinOp.eql 35 (Operand.tmp 86) (Operand.const (Value.int IntKind.i64 0)) 35, type := 4, pos := "law.go:227", after := #[{ on := 2, ground := Ground.data }, { on := 1, ground := Ground.guard }], guard := some (1, true) }) (v := ?_) rfl (by kernel_rfl) (by kernel_rfl) (by kernel_rfl) (fun _ _ _ h => h) (Or.inl ⟨by rfl, ?_⟩) (by assumption) ?_
        rotate_left
        · intro w hSw
          (try dsimp only at hSw)
          go_simp
          all_goals with_reducible rfl
        simp only [Act.put, List.setIfInBounds_toArray, List.set_cons_zero, List.set_cons_succ]
        refine wpAnyH_take (i := 4) (oi := { dst := some 88, op := Op.pick (Operand.tmp 85) (Operand.tmp 87) (Operand.const (Value.bool false)), type := 4, pos := "law.go:227", after := #[{ on := 1, ground := Ground.data }, { on := 3, ground := Ground.data }], guard := none }) (v := ?_) rfl (by kernel_rfl) (by kernel_rfl) (by kernel_rfl) (fun _ _ _ h => h) (Or.inl ⟨by rfl, ?_⟩) (by assumption) ?_
        rotate_left
        · intro w hSw
          (try dsimp only at hSw)
          go_simp
          all_goals with_reducible rfl
        simp only [Act.put, List.setIfInBounds_toArray, List.set_cons_zero, List.set_cons_succ]
        refine wpAnyH_take (i := 5) (oi := { dst := some 89, op := Op.move (Operand.tmp 88), type := 4, pos := "law.go:227", after := #[{ on := 4, ground := Ground.data }, { on := 1, ground := Ground.chain }], guard := none }) (v := ?_) rfl (by kernel_rfl) (by kernel_rfl) (by kernel_rfl) (fun _ _ _ h => h) (Or.inl ⟨by rfl, ?_⟩) (by assumption) ?_
        rotate_left
        · intro w hSw
          (try dsimp only at hSw)
          go_simp
          all_goals with_reducible rfl
        simp only [Act.put, List.setIfInBounds_toArray, List.set_cons_zero, List.set_cons_succ]
        refine wpAnyH_take (i := 6) (oi := { dst := some 90, op := Op.move (Operand.tmp 6), type := 30, pos := "law.go:227", after := #[{ on := 5, ground := Ground.guard }], guard := some (5, true) }) (v := ?_) rfl (by kernel_rfl) (by kernel_rfl) (by kernel_rfl) (fun _ _ _ h => h) (Or.inl ⟨by rfl, ?_⟩) (by assumption) ?_
        rotate_left
        · intro w hSw
          (try dsimp only at hSw)
          go_simp
          all_goals with_reducible rfl
        simp only [Act.put, List.setIfInBounds_toArray, List.set_cons_zero, List.set_cons_succ]
        refine wpAnyH_take (i := 7) (oi := { dst := some 91, op := Op.move (Operand.tmp 7), type := 39, pos := "law.go:227", after := #[{ on := 5, ground := Ground.guard }], guard := some (5, true) }) (v := ?_) rfl (by kernel_rfl) (by kernel_rfl) (by kernel_rfl) (fun _ _ _ h => h) (Or.inl ⟨by rfl, ?_⟩) (by assumption) ?_
        rotate_left
        · intro w hSw
          (try dsimp only at hSw)
          go_simp
          all_goals with_reducible rfl
        simp only [Act.put, List.setIfInBounds_toArray, List.set_cons_zero, List.set_cons_succ]
        refine wpAnyH_take (i := 9) (oi := { dst := some 93, op := Op.load 26 (Operand.tmp 16), type := 26, pos := "law.go:227", after := #[{ on := 5, ground := Ground.guard }], guard := some (5, true) }) (v := ?_) rfl (by kernel_rfl) (by kernel_rfl) (by kernel_rfl) (fun _ _ _ h => h) (Or.inl ⟨by rfl, ?_⟩) (by assumption) ?_
        rotate_left
        · intro w hSw
          (try dsimp only at hSw)
          go_simp
          all_goals with_reducible rfl
        simp only [Act.put, List.setIfInBounds_toArray, List.set_cons_zero, List.set_cons_succ]
        refine wpAnyH_ready (rs := [8]) (by kernel_rfl) (by simp) ?_
        refine AllReadyH.cons (o := { dst := some 92, op := Op.call { callee := Callee.value (Operand.func 28), args := #[Operand.tmp 90, Operand.tmp 91], argTypes := #[30, 39] }, type := 26, pos := "law.go:227", after := #[{ on := 6, ground := Ground.data }, { on := 7, ground := Ground.data }, { on := 5, ground := Ground.chain }, { on := 5, ground := Ground.guard }], guard := some (5, true) }) rfl (fun K hK => ?_) AllReadyH.nil
        go_simp
        go_at_call 28
        refine (HRES.out _ B0.out.own.bel once _ (by rw [B0.out.len]; exact B0.out.sl.rd) HNO.out HAC.out).mono ?_
        rintro r w8 ⟨rfl, hb⟩
        have C1 := hide (B0.out.below hb)
        clear hb
        refine hK.out _ _ (by (try dsimp only); exact HQ.out _ C1.out) (fun hHeld => ?_)
        clear hK K
        try simp only [Act.put, List.setIfInBounds_toArray, List.set_cons_zero, List.set_cons_succ]
        refine wpAnyH_take (i := 10) (oi := { dst := some 94, op := Op.binOp BinOp.eql 26 (Operand.tmp 92) (Operand.tmp 93) 26, type := 4, pos := "law.go:227", after := #[{ on := 8, ground := Ground.data }, { on := 9, ground := Ground.data }, { on := 5, ground := Ground.guard }], guard := some (5, true) }) (v := ?_) rfl (by kernel_rfl) (by kernel_rfl) (by kernel_rfl) (fun _ _ _ h => h) (Or.inl ⟨by rfl, ?_⟩) (by assumption) ?_
        rotate_left
        · intro w hSw
          (try dsimp only at hSw)
          go_simp
          all_goals with_reducible rfl
        simp only [Act.put, List.setIfInBounds_toArray, List.set_cons_zero, List.set_cons_succ]
        refine wpAnyH_take (i := 11) (oi := { dst := some 95, op := Op.pick (Operand.tmp 89) (Operand.tmp 94) (Operand.const (Value.bool false)), type := 4, pos := "law.go:227", after := #[{ on := 5, ground := Ground.data }, { on := 10, ground := Ground.data }], guard := none }) (v := ?_) rfl (by kernel_rfl) (by kernel_rfl) (by kernel_rfl) (fun _ _ _ h => h) (Or.inl ⟨by rfl, ?_⟩) (by assumption) ?_
        rotate_left
        · intro w hSw
          (try dsimp only at hSw)
          go_simp
          all_goals with_reducible rfl
        simp only [Act.put, List.setIfInBounds_toArray, List.set_cons_zero, List.set_cons_succ]
        refine wpAnyH_take (i := 12) (oi := { dst := some 96, op := Op.move (Operand.tmp 95), type := 4, pos := "law.go:227", after := #[{ on := 11, ground := Ground.data }, { on := 8, ground := Ground.chain }], guard := none }) (v := ?_) rfl (by kernel_rfl) (by kernel_rfl) (by kernel_rfl) (fun _ _ _ h => h) (Or.inl ⟨by rfl, ?_⟩) (by assumption) ?_
        rotate_left
        · intro w hSw
          (try dsimp only at hSw)
          go_simp
          all_goals with_reducible rfl
        simp only [Act.put, List.setIfInBounds_toArray, List.set_cons_zero, List.set_cons_succ]
        refine wpAnyH_take (i := 13) (oi := { dst := some 97, op := Op.load 23 (Operand.tmp 8), type := 23, pos := "law.go:227", after := #[{ on := 12, ground := Ground.guard }], guard := some (12, true) }) (v := ?_) rfl (by kernel_rfl) (by kernel_rfl) (by kernel_rfl) (fun _ _ _ h => h) (Or.inl ⟨by rfl, ?_⟩) (by assumption) ?_
        rotate_left
        · intro w hSw
          (try dsimp only at hSw)
          go_simp
          all_goals with_reducible rfl
        simp only [Act.put, List.setIfInBounds_toArray, List.set_cons_zero, List.set_cons_succ]
        refine wpAnyH_take (i := 14) (oi := { dst := some 98, op := Op.load 23 (Operand.tmp 14), type := 23, pos := "law.go:227", after := #[{ on := 12, ground := Ground.guard }], guard := some (12, true) }) (v := ?_) rfl (by kernel_rfl) (by kernel_rfl) (by kernel_rfl) (fun _ _ _ h => h) (Or.inl ⟨by rfl, ?_⟩) (by assumption) ?_
        rotate_left
        · intro w hSw
          (try dsimp only at hSw)
          go_simp
          all_goals with_reducible rfl
        simp only [Act.put, List.setIfInBounds_toArray, List.set_cons_zero, List.set_cons_succ]
        refine wpAnyH_take (i := 17) (oi := { dst := some 101, op := Op.load 26 (Operand.tmp 16), type := 26, pos := "law.go:227", after := #[{ on := 12, ground := Ground.guard }], guard := some (12, true) }) (v := ?_) rfl (by kernel_rfl) (by kernel_rfl) (by kernel_rfl) (fun _ _ _ h => h) (Or.inl ⟨by rfl, ?_⟩) (by assumption) ?_
        rotate_left
        · intro w hSw
          (try dsimp only at hSw)
          go_simp
          all_goals with_reducible rfl
        simp only [Act.put, List.setIfInBounds_toArray, List.set_cons_zero, List.set_cons_succ]
        refine wpAnyH_ready (rs := [15]) (by kernel_rfl) (by simp) ?_
        refine AllReadyH.cons (o := { dst := some 99, op := Op.call { callee := Callee.value (Operand.func 11), args := #[Operand.tmp 97, Operand.tmp 98], argTypes := #[23, 23] }, type := 23, pos := "law.go:227", after := #[{ on := 13, ground := Ground.data }, { on := 14, ground := Ground.data }, { on := 12, ground := Ground.chain }, { on := 12, ground := Ground.guard }], guard := some (12, true) }) rfl (fun K hK => ?_) AllReadyH.nil
        go_simp
        go_at_call 11
        refine (over_any a dd _).mono ?_
        rintro r w9 ⟨rfl, hb⟩
        have C2 := hide (C1.out.below hb)
        clear hb
        refine hK.out _ _ (by (try dsimp only); exact HQ.out _ C2.out) (fun hHeld => ?_)
        clear hK K
        try simp only [Act.put, List.setIfInBounds_toArray, List.set_cons_zero, List.set_cons_succ]
        refine wpAnyH_ready (rs := [16]) (by kernel_rfl) (by simp) ?_
        refine AllReadyH.cons (o := { dst := some 100, op := Op.call { callee := Callee.value (Operand.func 13), args := #[Operand.tmp 99], argTypes := #[23] }, type := 26, pos := "law.go:227", after := #[{ on := 15, ground := Ground.data }, { on := 15, ground := Ground.chain }, { on := 12, ground := Ground.guard }], guard := some (12, true) }) rfl (fun K hK => ?_) AllReadyH.nil
        go_simp
        go_at_call 13
        refine (H26.out _).mono ?_
        rintro r w10 ⟨rfl, hb⟩
        have C3 := hide (C2.out.below hb)
        clear hb
        refine hK.out _ _ (by (try dsimp only); exact HQ.out _ C3.out) (fun hHeld => ?_)
        clear hK K
        try simp only [Act.put, List.setIfInBounds_toArray, List.set_cons_zero, List.set_cons_succ]
        refine wpAnyH_take (i := 18) (oi := { dst := some 102, op := Op.binOp BinOp.eql 26 (Operand.tmp 100) (Operand.tmp 101) 26, type := 4, pos := "law.go:227", after := #[{ on := 16, ground := Ground.data }, { on := 17, ground := Ground.data }, { on := 12, ground := Ground.guard }], guard := some (12, true) }) (v := ?_) rfl (by kernel_rfl) (by kernel_rfl) (by kernel_rfl) (fun _ _ _ h => h) (Or.inl ⟨by rfl, ?_⟩) (by assumption) ?_
        rotate_left
        · intro w hSw
          (try dsimp only at hSw)
          go_simp
          all_goals with_reducible rfl
        simp only [Act.put, List.setIfInBounds_toArray, List.set_cons_zero, List.set_cons_succ]
        refine wpAnyH_take (i := 19) (oi := { dst := some 103, op := Op.pick (Operand.tmp 96) (Operand.tmp 102) (Operand.const (Value.bool false)), type := 4, pos := "law.go:227", after := #[{ on := 12, ground := Ground.data }, { on := 18, ground := Ground.data }], guard := none }) (v := ?_) rfl (by kernel_rfl) (by kernel_rfl) (by kernel_rfl) (fun _ _ _ h => h) (Or.inl ⟨by rfl, ?_⟩) (by assumption) ?_
        rotate_left
        · intro w hSw
          (try dsimp only at hSw)
          go_simp
          all_goals with_reducible rfl
        simp only [Act.put, List.setIfInBounds_toArray, List.set_cons_zero, List.set_cons_succ]
        refine wpAnyH_take (i := 20) (oi := { dst := some 104, op := Op.move (Operand.tmp 103), type := 4, pos := "law.go:227", after := #[{ on := 19, ground := Ground.data }, { on := 16, ground := Ground.chain }], guard := none }) (v := ?_) rfl (by kernel_rfl) (by kernel_rfl) (by kernel_rfl) (fun _ _ _ h => h) (Or.inl ⟨by rfl, ?_⟩) (by assumption) ?_
        rotate_left
        · intro w hSw
          (try dsimp only at hSw)
          go_simp
          all_goals with_reducible rfl
        simp only [Act.put, List.setIfInBounds_toArray, List.set_cons_zero, List.set_cons_succ]
        refine wpAnyH_take (i := 21) (oi := { dst := some 105, op := Op.move (Operand.tmp 6), type := 30, pos := "law.go:227", after := #[{ on := 20, ground := Ground.guard }], guard := some (20, true) }) (v := ?_) rfl (by kernel_rfl) (by kernel_rfl) (by kernel_rfl) (fun _ _ _ h => h) (Or.inl ⟨by rfl, ?_⟩) (by assumption) ?_
        rotate_left
        · intro w hSw
          (try dsimp only at hSw)
          go_simp
          all_goals with_reducible rfl
        simp only [Act.put, List.setIfInBounds_toArray, List.set_cons_zero, List.set_cons_succ]
        refine wpAnyH_take (i := 23) (oi := { dst := some 107, op := Op.move (Operand.tmp 1), type := 39, pos := "law.go:227", after := #[{ on := 20, ground := Ground.guard }], guard := some (20, true) }) (v := ?_) rfl (by kernel_rfl) (by kernel_rfl) (by kernel_rfl) (fun _ _ _ h => h) (Or.inl ⟨by rfl, ?_⟩) (by assumption) ?_
        rotate_left
        · intro w hSw
          (try dsimp only at hSw)
          go_simp
          all_goals with_reducible rfl
        simp only [Act.put, List.setIfInBounds_toArray, List.set_cons_zero, List.set_cons_succ]
        refine wpAnyH_take (i := 25) (oi := { dst := some 109, op := Op.move (Operand.tmp 1), type := 39, pos := "law.go:227", after := #[{ on := 20, ground := Ground.guard }], guard := some (20, true) }) (v := ?_) rfl (by kernel_rfl) (by kernel_rfl) (by kernel_rfl) (fun _ _ _ h => h) (Or.inl ⟨by rfl, ?_⟩) (by assumption) ?_
        rotate_left
        · intro w hSw
          (try dsimp only at hSw)
          go_simp
          all_goals with_reducible rfl
        simp only [Act.put, List.setIfInBounds_toArray, List.set_cons_zero, List.set_cons_succ]
        refine wpAnyH_take (i := 28) (oi := { dst := some 112, op := Op.load 26 (Operand.tmp 16), type := 26, pos := "law.go:227", after := #[{ on := 20, ground := Ground.guard }], guard := some (20, true) }) (v := ?_) rfl (by kernel_rfl) (by kernel_rfl) (by kernel_rfl) (fun _ _ _ h => h) (Or.inl ⟨by rfl, ?_⟩) (by assumption) ?_
        rotate_left
        · intro w hSw
          (try dsimp only at hSw)
          go_simp
          all_goals with_reducible rfl
        simp only [Act.put, List.setIfInBounds_toArray, List.set_cons_zero, List.set_cons_succ]
        have hb4 := hide ((Below.refl w10.heap.size w10).alloc (Nat.le_refl _) (.cells #[] 9))
        have C4 := hide (C3.out.below hb4.out)
        have HSN := hide (Sl.new w10 9 1 #[] 0 0 (Nat.le_refl _) (Nat.zero_le _) (Nat.le_refl _))
        refine wpAnyH_ready (rs := [22]) (by kernel_rfl) (by simp) ?_
        refine AllReadyH.cons (o := { dst := some 106, op := Op.buildSlice 39 0 #[], type := 39, pos := "law.go:227", after := #[{ on := 20, ground := Ground.guard }], guard := some (20, true) }) rfl (fun K hK => ?_) AllReadyH.nil
        go_simp
        refine hK.out _ _ (by (try dsimp only); exact HQ.out _ C4.out) (fun hHeld => ?_)
        clear hK K
        try simp only [Act.put, List.setIfInBounds_toArray, List.set_cons_zero, List.set_cons_succ]
        refine wpAnyH_ready (rs := [24]) (by kernel_rfl) (by simp) ?_
        refine AllReadyH.cons (o := { dst := some 108, op := Op.call { callee := Callee.builtin Builtin.append, args := #[Operand.tmp 106, Operand.tmp 107], argTypes := #[39, 39] }, type := 39, pos := "law.go:227", after := #[{ on := 22, ground := Ground.data }, { on := 23, ground := Ground.data }, { on := 20, ground := Ground.chain }, { on := 20, ground := Ground.guard }], guard := some (20, true) }) rfl (fun K hK => ?_) AllReadyH.nil
        refine step_append_w (by rfl) (.tmp 106) (.tmp 107) 39 rfl 9 i0 _ 1 16 Try.underlying39 hi hz0 hz1 hz2 rfl _ 0 [] rfl HSN.out _ rfl k (strs l) (HQ4.out.belowF C4.out.own.bel) (strs_one l) (by unfold maxLen; omega) (by omega) ?_
        intro v1 w11 hs1 ho1 hv1
        have hb5 := hide (hb4.out.trans (ho1.below (World.size_alloc _ _ ▸ Nat.le_succ _) fun i hi => by cases hi; exact Nat.le_refl _))
        have C5 := hide (C3.out.below hb5.out)
        have HS1 := hide hs1
        have HV1 := hide (show ∀ g, v1.ownBlock = some g → w10.heap.size ≤ g by
          intro g hg
          rcases hv1 with e | e
          · rw [e] at hg
            cases hg
            exact Nat.le_refl _
          · rw [e] at hg
            cases hg
            rw [World.size_alloc]
            exact Nat.le_succ _)
        clear hs1 ho1 hv1
        refine hK.out _ _ (by (try dsimp only); exact HQ.out _ C5.out) (fun hHeld => ?_)
        clear hK K
        try simp only [Act.put, List.setIfInBounds_toArray, List.set_cons_zero, List.set_cons_succ]
        refine wpAnyH_ready (rs := [26]) (by kernel_rfl) (by simp) ?_
        refine AllReadyH.cons (o := { dst := some 110, op := Op.call { callee := Callee.builtin Builtin.append, args := #[Operand.tmp 108, Operand.tmp 109], argTypes := #[39, 39] }, type := 39, pos := "law.go:227", after := #[{ on := 24, ground := Ground.data }, { on := 25, ground := Ground.data }, { on := 24, ground := Ground.chain }, { on := 20, ground := Ground.guard }], guard := some (20, true) }) rfl (fun K hK => ?_) AllReadyH.nil
        refine step_append_w (by rfl) (.tmp 108) (.tmp 109) 39 rfl 9 i0 _ 1 16 Try.underlying39 hi hz0 hz1 hz2 rfl v1 (0 + k) ([] ++ strs l) rfl HS1.out _ rfl k (strs l) (HQ4.out.belowF C5.out.own.bel) (strs_one l) (by unfold maxLen; omega) (by omega) ?_
        intro v2 w12 hs2 ho2 hv2
        have hb6 := hide (hb5.out.trans (ho2.below hb5.out.size fun i hi => HV1.out i hi))
        have C6 := hide (C3.out.below hb6.out)
        have HS2 := hide (show Rd w12 v2 1 (l ++ l).length (strs (l ++ l)) by
          have e : [] ++ strs l ++ strs l = strs (l ++ l) := by simp [strs]
          rw [e] at hs2
          have e2 : 0 + k + k = (l ++ l).length := by rw [List.length_append, HL.out]; omega
          rw [e2] at hs2
          exact hs2.rd)
        clear hs2 ho2 hv2
        refine hK.out _ _ (by (try dsimp only); exact HQ.out _ C6.out) (fun hHeld => ?_)
        clear hK K
        try simp only [Act.put, List.setIfInBounds_toArray, List.set_cons_zero, List.set_cons_succ]
        refine wpAnyH_ready (rs := [27]) (by kernel_rfl) (by simp) ?_
        refine AllReadyH.cons (o := { dst := some 111, op := Op.call { callee := Callee.value (Operand.func 28), args := #[Operand.tmp 105, Operand.tmp 110], argTypes := #[30, 39] }, type := 26, pos := "law.go:227", after := #[{ on := 21, ground := Ground.data }, { on := 26, ground := Ground.data }, { on := 26, ground := Ground.chain }, { on := 20, ground := Ground.guard }], guard := some (20, true) }) rfl (fun K hK => ?_) AllReadyH.nil
        go_simp
        go_at_call 28
        refine (HRES.out _ C6.out.own.bel (l ++ l) _ HS2.out (by rw [List.length_append, HL.out]; omega) HA2.out).mono ?_
        rintro r w13 ⟨rfl, hb⟩
        have C7 := hide (C6.out.below hb)
        clear hb
        refine hK.out _ _ (by (try dsimp only); exact HQ.out _ C7.out) (fun hHeld => ?_)
        clear hK K
        try simp only [Act.put, List.setIfInBounds_toArray, List.set_cons_zero, List.set_cons_succ]
        refine wpAnyH_take (i := 29) (oi := { dst := some 113, op := Op.binOp BinOp.eql 26 (Operand.tmp 111) (Operand.tmp 112) 26, type := 4, pos := "law.go:227", after := #[{ on := 27, ground := Ground.data }, { on := 28, ground := Ground.data }, { on := 20, ground := Ground.guard }], guard := some (20, true) }) (v := ?_) rfl (by kernel_rfl) (by kernel_rfl) (by kernel_rfl) (fun _ _ _ h => h) (Or.inl ⟨by rfl, ?_⟩) (by assumption) ?_
        rotate_left
        · intro w hSw
          (try dsimp only at hSw)
          go_simp
          all_goals with_reducible rfl
        simp only [Act.put, List.setIfInBounds_toArray, List.set_cons_zero, List.set_cons_succ]
        refine wpAnyH_take (i := 30) (oi := { dst := some 114, op := Op.pick (Operand.tmp 104) (Operand.tmp 113) (Operand.const (Value.bool false)), type := 4, pos := "law.go:227", after := #[{ on := 20, ground := Ground.data }, { on := 29, ground := Ground.data }], guard := none }) (v := ?_) rfl (by kernel_rfl) (by kernel_rfl) (by kernel_rfl) (fun _ _ _ h => h) (Or.inl ⟨by rfl, ?_⟩) (by assumption) ?_
        rotate_left
        · intro w hSw
          (try dsimp only at hSw)
          go_simp
          all_goals with_reducible rfl
        simp only [Act.put, List.setIfInBounds_toArray, List.set_cons_zero, List.set_cons_succ]
        refine wpAnyH_take (i := 31) (oi := { dst := some 4, op := Op.assign (Operand.tmp 114), type := 4, pos := "law.go:227", after := #[{ on := 30, ground := Ground.data }, { on := 27, ground := Ground.chain }, { on := 0, ground := Ground.phase }, { on := 1, ground := Ground.phase }, { on := 2, ground := Ground.phase }, { on := 3, ground := Ground.phase }, { on := 4, ground := Ground.phase }, { on := 5, ground := Ground.phase }, { on := 6, ground := Ground.phase }, { on := 7, ground := Ground.phase }, { on := 8, ground := Ground.phase }, { on := 9, ground := Ground.phase }, { on := 10, ground := Ground.phase }, { on := 11, ground := Ground.phase }, { on := 12, ground := Ground.phase }, { on := 13, ground := Ground.phase }, { on := 14, ground := Ground.phase }, { on := 15, ground := Ground.phase }, { on := 16, ground := Ground.phase }, { on := 17, ground := Ground.phase }, { on := 18, ground := Ground.phase }, { on := 19, ground := Ground.phase }, { on := 20, ground := Ground.phase }, { on := 21, ground := Ground.phase }, { on := 22, ground := Ground.phase }, { on := 23, ground := Ground.phase }, { on := 24, ground := Ground.phase }, { on := 25, ground := Ground.phase }, { on := 26, ground := Ground.phase }, { on := 27, ground := Ground.phase }, { on := 28, ground := Ground.phase }, { on := 29, ground := Ground.phase }, { on := 30, ground := Ground.phase }], guard := none }) (v := ?_) rfl (by kernel_rfl) (by kernel_rfl) (by kernel_rfl) (fun _ _ _ h => h) (Or.inl ⟨by rfl, ?_⟩) (by assumption) ?_
        rotate_left
        · intro w hSw
          (try dsimp only at hSw)
          go_simp
          all_goals with_reducible rfl
        simp only [Act.put, List.setIfInBounds_toArray, List.set_cons_zero, List.set_cons_succ]
        refine wpAnyH_done (by kernel_rfl) ?_ _
        go_wp2
        go_ret
        exact ⟨rfl, B4.out.trans (C7.out.own.bel.mono B4.out.size)⟩
end Go.Proofs.Ytmjogpacajbngaa
