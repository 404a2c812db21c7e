/- UndoNames returns true. No condition but those written. -/
import Derived.Test.YtghcmakhfdnimaaDoorUndNl
namespace Go.Proofs.YtghcmakhfdnimaaDoor
open Go.RowKit
attribute [local go_sem 2000] neq_chg

def badArr : Array Value := (rows Chg.cells badC).toArray
theorem bad_sl (w : World) : Sl (w.alloc (.cells badArr 51)) 51 9 (.slice (some ⟨w.heap.size, 0, none⟩) 7 7) badC.length (rows Chg.cells badC) := by
  have := Sl.new w 51 9 badArr 7 7 (by omega) (by simp [maxLen]) (by decide)
  exact this
theorem eq_chg (w : World) (c d : Chg) : (binOp .eql 51 c.val d.val).run Tryd.prog w = .ok (.bool (c.eqB d)) w := by
  go_simp
  unfold Chg.eqB
  repeat' split
  all_goals simp_all
attribute [local go_sem 2000] eq_chg
section
variable {W w : World} {b : Lb} {R : Heap}
theorem cost_q4 (h : LogAt W w b q4 R) : Calls Tryd.prog 26 #[.pointer (some ⟨b.lb, 0, none⟩)] w fun e w' => e = .returned (.int .i64 3) ∧ w = w' := by
  have h1 := cost_any h g4.lim1
  rw [show q4.cost = 3 by rw [q4_eq]] at h1
  exact h1
theorem many_q5 (h : LogAt W w b q4.clear R) : Calls Tryd.prog 24 #[.pointer (some ⟨b.lb, 0, none⟩)] w fun e w' => e = .returned (.int .i64 0) ∧ w = w' := by
  have h1 := many_any h g4.lim1 (by show (0 : Nat) ≤ 1000000; omega)
  rw [show (q4.clear.all.length : Int) = 0 from rfl] at h1
  exact h1
end
set_option maxRecDepth 100000 in
set_option maxHeartbeats 8000000 in
theorem names_walk (W : World) (hT : Rules W) : Calls Tryd.prog 6 #[] W fun e w' => e = .returned (.bool true) ∧ Below W.heap.size W w' := by
  have HT := hide hT
  clear hT
  go_enter Tryd.func6, Tryd.ntmps6
  go_wp2_with fail
  refine (new_bad 0 (by omega)).mono ?_
  rintro e w1 ⟨rfl, rfl⟩
  go_wp2_with fail
  refine (new_ok (Own.refl W) 3 (by omega) (by omega)).mono ?_
  rintro e w3 ⟨rfl, h3⟩
  obtain ⟨lb, hlb⟩ : ∃ lb, lb = W.heap.size := ⟨_, rfl⟩
  rw [← hlb] at h3 ⊢
  have H3 := hide h3
  clear h3 hlb
  go_wp2_with fail
  refine (lives_any _ (H3.out.rules HT.out)).mono ?_
  rintro e w4 ⟨rfl, hb4⟩
  have H4 := hide (H3.out.below hb4)
  clear H3 hb4
  go_wp2_with fail
  refine (insert_any 0 3 _).mono ?_
  rintro e w5 ⟨rfl, hb5⟩
  have H5 := hide (H4.out.below hb5)
  clear H4 hb5
  go_wp2_with fail
  refine (insert_any 3 2 _).mono ?_
  rintro e w6 ⟨rfl, hb6⟩
  have h6 := H5.out.below hb6
  have H6 := hide (h6.joinC ((Below.refl _ _).alloc (Nat.le_refl _) _) (bad_sl w6) (fun g e => by simp [Value.ownBlock] at e; omega))
  obtain ⟨gb, hgb⟩ : ∃ gb, gb = w6.heap.size := ⟨_, rfl⟩
  clear H5 hb6 h6
  rw [← hgb] at H6
  go_wp2
  rw [← hgb]
  clear hgb
  go_loopw [6] (fun i wr => ∃ (k : Nat) (bb : Lb), k ≤ 7 ∧ i = .int .i64 (k : Int) ∧ bb.lb = lb ∧ LogAt W wr bb (Lg.new 3) (chgRow (.slice (some ⟨gb, 0, none⟩) 7 7) badC ++ [])) (fun i _ => 7 - (intOf i).toNat)
  case atStart => exact ⟨0, _, by omega, rfl, rfl, H6.out⟩
  case round =>
    clear H6
    obtain ⟨k, ⟨lb1, gv1, ov1, gs1⟩, hk, rfl, e1, h⟩ := hrel
    obtain rfl : lb = lb1 := e1.symm
    have HS0 := hide ((Sized.new 3).small (by omega))
    have ok : RowOk (.slice (some ⟨gb, 0, none⟩) 7 7) badC.length := RowOk.some (g := gb) rfl
    by_cases hlt : k < 7
    · have y1 : decide (k < 7) = true := by simpa using hlt
      have y2 : decide ((k : Int) < 7) = true := by simp; omega
      have y3 : (k : Int) < 7 := by omega
      obtain ⟨c, hc⟩ : ∃ c, badC[k]? = some c := ⟨_, List.getElem?_eq_getElem (show k < badC.length from hlt)⟩
      have HCM := hide (List.mem_of_getElem? hc)
      have hat : ∀ w', LogAt W w' ⟨lb, gv1, ov1, gs1⟩ (Lg.new 3) (chgRow (.slice (some ⟨gb, 0, none⟩) 7 7) badC ++ []) → AtC w' gb (k * 9) c := fun w' h' => by
        obtain ⟨g, off, cp, hv, hat⟩ := Rd.atC (h'.rdC ok) (show 0 < badC.length by decide)
        injection hv with e1 _ _
        injection e1 with e1
        injection e1 with e1 e2
        subst e1 e2
        have := hat k c hc
        rw [Nat.zero_add] at this
        exact this
      have HAT := hide hat
      obtain ⟨p0, p1, p2, p3, p4, p5, p6, p7, p8⟩ := hat _ h
      have H := hide h
      have HLT := hide hlt
      have z0 : (c.check != 2) = false := by rw [bad_check c HCM.out]; rfl
      clear h hat hc ok hlt hk
      go_wp2_with fail
      refine (check_any c _ (H.out.rules HT.out) (by have := bad_size c HCM.out; omega)).mono ?_
      rintro e w7 ⟨rfl, hb7⟩
      have h7 := H.out.below hb7
      have H7 := hide h7
      clear p0 p1 p2 p3 p4 p5 p6 p7 p8 hb7 H
      obtain ⟨p0, p1, p2, p3, p4, p5, p6, p7, p8⟩ := HAT.out _ h7
      clear h7
      go_wp2_with fail
      refine (add_any H7.out g0 HS0.out HT.out c (by have := bad_size c HCM.out; omega)).mono ?_
      rintro e w8 ⟨rfl, ⟨lb8, gv8, ov8, gs8⟩, hb8, h8⟩
      obtain rfl : lb = lb8 := hb8.symm
      rw [bad_add _ HCM.out] at h8
      have H8 := hide h8
      clear h8 p0 p1 p2 p3 p4 p5 p6 p7 p8
      go_wp2
      go_roundw
      case rel => exact ⟨k + 1, ⟨lb, gv8, ov8, gs8⟩, HLT.out, by go_num, rfl, H8.out⟩
      case measure => have := HLT.out; simp [intOf]; omega
    · have y1 : decide (k < 7) = false := by simpa using hlt
      have y2 : decide ((k : Int) < 7) = false := by simp; omega
      have H := hide h.dropC
      clear h ok hlt hk
      go_wp2_with fail
      refine (remove_any 1 _ _).mono ?_
      rintro e w7 ⟨rfl, hb7⟩
      have H7 := hide (H.out.below hb7)
      clear hb7 H
      go_wp2_with fail
      refine (check_any ffC _ (H7.out.rules HT.out) (by decide)).mono ?_
      rw [ff_check]
      rintro e w8 ⟨rfl, hb8⟩
      have H8 := hide (H7.out.below hb8)
      clear hb8 H7
      go_wp2_with fail
      refine (add_any H8.out g0 HS0.out HT.out clnC (by decide)).mono ?_
      rintro e w9 ⟨rfl, ⟨lb9, gv9, ov9, gs9⟩, hb9, h9⟩
      obtain rfl : lb = lb9 := hb9.symm
      rw [cln_check]
      have H9 := hide (show LogAt W w9 ⟨lb, gv9, ov9, gs9⟩ q1 [] from h9)
      have HZ1 := hide (z1.small (by omega))
      clear h9 H8
      go_wp2_with fail
      refine (boundary_any H9.out g1 HZ1.out HT.out).mono ?_
      rintro e wa ⟨rfl, ⟨lba, gva, ova, gsa⟩, hba, ha⟩
      obtain rfl : lb = lba := hba.symm
      have HA := hide (show LogAt W wa ⟨lb, gva, ova, gsa⟩ q2 [] from ha)
      have HZ2 := hide (z2.small (by omega))
      clear ha H9
      go_wp2_with fail
      refine (remove_any 1 _ _).mono ?_
      rintro e wb ⟨rfl, hbb⟩
      have HB := hide (HA.out.below hbb)
      clear hbb HA
      go_wp2_with fail
      refine (add_any HB.out g2 HZ2.out HT.out xyC (by decide)).mono ?_
      rintro e wc ⟨rfl, ⟨lbc, gvc, ovc, gsc⟩, hbc, hc⟩
      obtain rfl : lb = lbc := hbc.symm
      rw [xy_check]
      have HC := hide (show LogAt W wc ⟨lb, gvc, ovc, gsc⟩ q3 [] from hc)
      have HZ3 := hide (z3.small (by omega))
      clear hc HB
      go_wp2_with fail
      refine (many_any HC.out g3.lim1 HZ3.out.many).mono ?_
      rintro e wd ⟨rfl, rfl⟩
      rw [q3_all]
      go_wp2_with fail
      refine (cost_any HC.out g3.lim1).mono ?_
      rintro e wd ⟨rfl, rfl⟩
      rw [show q3.cost = 4 by rw [q3_eq]]
      go_wp2_with fail
      refine (boundary_any HC.out g3 HZ3.out HT.out).mono ?_
      rintro e wd ⟨rfl, ⟨lbd, gvd, ovd, gsd⟩, hbd, hd⟩
      obtain rfl : lb = lbd := hbd.symm
      have HD := hide (show LogAt W wd ⟨lb, gvd, ovd, gsd⟩ q4 [] from hd)
      have HZ4 := hide (z4.small (by omega))
      clear hd HC
      go_wp2_with fail
      refine (chain_any HD.out g4.lim1).mono ?_
      rintro e we ⟨rfl, rfl⟩
      rw [show q4.chain = .returned (.tuple #[.int .i64 0, .bool false]) by rw [q4_eq]; rfl]
      go_wp2_with fail
      refine (all_any HD.out g4.lim1 HZ4.out).mono ?_
      rintro e we ⟨va, hs, rfl, hma, he, oka⟩
      rw [q4_all] at hma
      have HE := hide he
      have HMA := hide hma
      have OKA := hide oka
      clear he hma oka HD
      go_wp2_with fail
      refine (new_ok HE.out.own 1048576 (by omega) (by omega)).mono ?_
      rintro e wf ⟨rfl, hf⟩
      have HF := hide hf
      obtain ⟨lc, hlc⟩ : ∃ lc, lc = we.heap.size := ⟨_, rfl⟩
      rw [← hlc] at HF ⊢
      have OKL := hide HE.out.ok
      clear hf hlc HE
      go_wp2_with fail
      refine (times_any ⟨#[120]⟩ 65536 _ (by decide) (by decide)).mono ?_
      rintro e wg ⟨rfl, rfl⟩
      obtain ⟨tx, htx⟩ : ∃ tx, tx = timesB ⟨#[120]⟩ 65536 := ⟨_, rfl⟩
      have HVX := hide (show validS tx = true by rw [htx]; exact valid_x _)
      have HLX := hide (show lenS tx = 65536 by rw [htx]; exact len_x _)
      have HSX := hide (show tx.size = 65536 by rw [htx]; exact size_x _)
      rw [← htx]
      clear htx
      go_wp2
      go_loopw [15, 17] (fun er i wr => ∃ (k : Nat) (bb : Lb), k ≤ 15 ∧ er = .int .i64 0 ∧ i = .int .i64 (k : Int) ∧ bb.lb = lc ∧ LogAt W wr bb (bigL tx k) ((⟨lb, gvd, ovd, gsd⟩ : Lb).heap q4 ++ (gosHeap va hs ++ []))) (fun _ i _ => 15 - (intOf i).toNat)
      case atStart => exact ⟨0, _, by omega, rfl, rfl, rfl, by rw [← big_new]; exact HF.out⟩
      case round =>
        clear HF
        obtain ⟨k, ⟨lb2, gv2, ov2, gs2⟩, hk, rfl, rfl, e2, h⟩ := hrel
        obtain rfl : lc = lb2 := e2.symm
        have HG := hide (big_good (tx := tx) HLX.out k)
        have HSM := hide (big_small (tx := tx) HSX.out hk)
        have H := hide h
        have hz : (remC 1 tx).tx.size ≤ 1099511627776 := by show tx.size ≤ _; rw [HSX.out]; omega
        have HZ := hide hz
        by_cases hlt : k < 15
        · have y1 : decide (k < 15) = true := by simpa using hlt
          have y2 : decide ((k : Int) < 15) = true := by simp; omega
          have y3 : (k : Int) < 15 := by omega
          have HADD := hide (big_add (tx := tx) HVX.out HLX.out hlt)
          have HLT := hide hlt
          clear h hz hlt hk
          go_wp2_with fail
          refine (remove_any 1 tx _).mono ?_
          rintro e w7 ⟨rfl, hb7⟩
          have H7 := hide (H.out.below hb7)
          clear hb7 H
          go_wp2_with fail
          refine (add_any H7.out HG.out HSM.out HT.out (remC 1 tx) HZ.out).mono ?_
          rintro e w8 ⟨rfl, ⟨lb8, gv8, ov8, gs8⟩, hb8, h8⟩
          obtain rfl : lc = lb8 := hb8.symm
          rw [HADD.out] at h8
          rw [big_check HVX.out]
          have H8 := hide h8
          clear h8
          go_wp2
          go_roundw
          case rel => exact ⟨k + 1, ⟨lc, gv8, ov8, gs8⟩, HLT.out, rfl, by go_num, rfl, H8.out⟩
          case measure => have := HLT.out; simp [intOf]; omega
        · have y1 : decide (k < 15) = false := by simpa using hlt
          have y2 : decide ((k : Int) < 15) = false := by simp; omega
          obtain rfl : k = 15 := by omega
          clear h hz hlt hk
          go_wp2_with fail
          refine (cost_any H.out HG.out.lim1).mono ?_
          rintro e w7 ⟨rfl, rfl⟩
          rw [show (bigL tx 15).cost = 983055 from rfl]
          go_wp2_with fail
          refine (remove_any 1 tx _).mono ?_
          rintro e w8 ⟨rfl, hb8⟩
          have H8 := hide (H.out.below hb8)
          clear hb8 H
          go_wp2_with fail
          refine (add_any H8.out HG.out HSM.out HT.out (remC 1 tx) HZ.out).mono ?_
          rintro e w9 ⟨rfl, ⟨lb9, gv9, ov9, gs9⟩, hb9, h9⟩
          obtain rfl : lc = lb9 := hb9.symm
          rw [big_last HVX.out HLX.out] at h9
          rw [big_check HVX.out]
          have H9 := hide h9
          have HG1 := hide (big_good (tx := tx) HLX.out 1)
          have HS1 := hide (big_small (tx := tx) HSX.out (k := 1) (by omega))
          clear h9 H8
          go_wp2_with fail
          refine (cost_any H9.out HG1.out.lim1).mono ?_
          rintro e wa ⟨rfl, rfl⟩
          rw [show (bigL tx 1).cost = 65537 from rfl]
          go_wp2_with fail
          refine (many_any H9.out HG1.out.lim1 HS1.out.many).mono ?_
          rintro e wb ⟨rfl, rfl⟩
          rw [big_many (tx := tx) (k := 1) (by omega)]
          obtain ⟨x0, rfl⟩ : ∃ x0, hs = [(x0, [xyC])] := by
            have h1 := HMA.out
            match hs, h1 with
            | [(x0, l0)], h1 => exact ⟨x0, by simp at h1; rw [h1]⟩
          have hcell : ∀ (w' : World) (b' : Lb) (s' : Lg), LogAt W w' b' s' ((⟨lc, gv9, ov9, gs9⟩ : Lb).heap (bigL tx 1) ++ (gosHeap va [(x0, [xyC])] ++ [])) → RdG w' va [(x0, [xyC])] := fun w' b' s' h' => h'.own.rdG (v := va) (hs := [(x0, [xyC])]) (fun y hy => by simp only [List.mem_append]; exact .inr (.inr (.inl hy))) OKA.out
          have h10 := H9.out.flip OKL.out
          have hr0 := hcell _ _ _ h10
          obtain ⟨Av, cv, rfl, hz2⟩ := id hr0.hd
          have hx0 := hr0.at_ (k := 0) (x := (x0, [xyC])) rfl
          obtain ⟨ga, oa, rfl, -, B0, b0, ex0, rx0⟩ := hx0
          simp only at ex0 rx0
          subst ex0
          obtain ⟨gx, ox, cx, hvx, -⟩ := Rd.atC rx0 (show 0 < [xyC].length by decide)
          injection hvx with e1 _ e2
          subst e1 e2
          have hget : ∀ (w' : World) (b' : Lb) (s' : Lg), LogAt W w' b' s' ((⟨lc, gv9, ov9, gs9⟩ : Lb).heap (bigL tx 1) ++ (gosHeap (.slice (some ⟨ga, oa, none⟩) [(Value.slice (some ⟨gx, ox, none⟩) [xyC].length b0, [xyC])].length cv) [(.slice (some ⟨gx, ox, none⟩) [xyC].length b0, [xyC])] ++ [])) → w'.cell? ⟨ga, oa, none⟩ = some (.slice (some ⟨gx, ox, none⟩) 1 b0) ∧ w'.cell? ⟨gx, ox, none⟩ = some (.int .i64 xyC.k) ∧ w'.cell? ⟨gx, ox + 1, none⟩ = some (.int .i64 xyC.a) ∧ w'.cell? ⟨gx, ox + 2, none⟩ = some (.int .i64 xyC.t) ∧ w'.cell? ⟨gx, ox + 3, none⟩ = some (.int .i64 xyC.id) ∧ w'.cell? ⟨gx, ox + 4, none⟩ = some (.int .i64 xyC.nm) ∧ w'.cell? ⟨gx, ox + 5, none⟩ = some (.string xyC.tx) ∧ w'.cell? ⟨gx, ox + 6, none⟩ = some (.int .i64 xyC.vk) ∧ w'.cell? ⟨gx, ox + 7, none⟩ = some (.int .i64 xyC.vn) ∧ w'.cell? ⟨gx, ox + 8, none⟩ = some (.bool xyC.had) := fun w' b' s' h' => by
            have hr := hcell w' b' s' h'
            obtain ⟨g1, o1, e1, c1, B1, b1, e2, r1⟩ := hr.at_ (k := 0) (x := (.slice (some ⟨gx, ox, none⟩) [xyC].length b0, [xyC])) rfl
            injection e1 with e1
            injection e1 with e1 e3
            subst e1 e3
            refine ⟨c1, ?_⟩
            obtain ⟨g2, o2, c2, hv2, hat2⟩ := Rd.atC r1 (show 0 < [xyC].length by decide)
            injection hv2 with e1 _ _
            injection e1 with e1
            injection e1 with e1 e3
            subst e1 e3
            have := hat2 0 xyC rfl
            rw [Nat.zero_mul, Nat.add_zero] at this
            exact ⟨this.p0, this.p1, this.p2, this.p3, this.p4, this.p5, this.p6, this.p7, this.p8⟩
          have HGET := hide hget
          have H10 := hide h10.drew
          have hee : xyC.eqB (remC 1 ⟨#[120, 121]⟩) = true := (Chg.eqB_iff _ _).2 rfl
          clear hget hcell h10 hr0 hz2 rx0 HMA HG HSM H9 HZ HG1 HS1 OKL
          go_wp2_with fail
          go_region_held3 (fun w' => w'.cell? ⟨ga, oa, none⟩ = some (.slice (some ⟨gx, ox, none⟩) 1 b0) ∧ w'.cell? ⟨gx, ox, none⟩ = some (.int .i64 xyC.k) ∧ w'.cell? ⟨gx, ox + 1, none⟩ = some (.int .i64 xyC.a) ∧ w'.cell? ⟨gx, ox + 2, none⟩ = some (.int .i64 xyC.t) ∧ w'.cell? ⟨gx, ox + 3, none⟩ = some (.int .i64 xyC.id) ∧ w'.cell? ⟨gx, ox + 4, none⟩ = some (.int .i64 xyC.nm) ∧ w'.cell? ⟨gx, ox + 5, none⟩ = some (.string xyC.tx) ∧ w'.cell? ⟨gx, ox + 6, none⟩ = some (.int .i64 xyC.vk) ∧ w'.cell? ⟨gx, ox + 7, none⟩ = some (.int .i64 xyC.vn) ∧ w'.cell? ⟨gx, ox + 8, none⟩ = some (.bool xyC.had))
            (first | exact HGET.out _ _ _ H10.out | exact HGET.out _ _ _ H11.out | exact HGET.out _ _ _ H13.out)
            ((first
              | (go_at_call 29; refine (remove_any 1 _ _).mono ?_; rintro e w11 ⟨rfl, hb11⟩; have H11 := hide (H10.out.below hb11); clear hb11)
              | (go_at_call 26; refine (cost_q4 H11.out).mono ?_; rintro e w12 ⟨rfl, rfl⟩)
              | (go_at_call 31; refine (clear_any H11.out g4.lim1).mono ?_; rintro e w13 ⟨rfl, h13⟩; have H13 := hide h13; clear h13)
              | (go_at_call 24; refine (many_q5 H13.out).mono ?_; rintro e w14 ⟨rfl, rfl⟩)))
          go_wp2
          go_ret
          exact ⟨rfl, H13.out.own.bel⟩
end Go.Proofs.YtghcmakhfdnimaaDoor
