/- BuffersApart: the walk. No condition but those written. -/
import Derived.Test.YtnbhejbpofjamaaGreatDoorBno
import Derived.LaidEqlPtr
namespace Go.Proofs.YtnbhejbpofjamaaGreatDoor
open Go.RowKit

theorem rd_act (w : World) (a : Ab) : Rd (w.alloc (.cells #[.int .i64 a.k, .int .i64 a.id, .string a.n] 31)) (.slice (some ⟨w.heap.size, 0, none⟩) 1 1) 3 [a].length (rows Ab.cells [a]) := by
  have h := Sl.new w 31 3 #[.int .i64 a.k, .int .i64 a.id, .string a.n] 1 1 (Nat.le_refl _) (by unfold maxLen; omega) (by simp)
  exact h.rd
def fresh : ByteArray := ⟨#[102, 114, 101, 115, 104, 32, 98, 117, 102, 102, 101, 114]⟩
theorem chk_fresh : chkE fresh = 0 := by decide +kernel
theorem cre_fresh (s : Bst) : creE s fresh = 17 ∨ creE s fresh = 7 ∨ creE s fresh = 0 := by
  unfold creE
  rw [chk_fresh, if_neg (by decide)]
  split
  · exact .inl rfl
  · split
    · exact .inr (.inl rfl)
    · exact .inr (.inr rfl)
theorem findR_form (s : Bst) (n : ByteArray) : ∃ i b, findR s n = .tuple #[.int .i64 i, .bool b] := by
  unfold findR
  split
  · exact ⟨_, _, rfl⟩
  · exact ⟨_, _, rfl⟩
def ac8 (a : Ab) : Ab := ⟨8, a.id, a.n⟩
theorem ac8_p (a : Ab) : (ac8 a).p = 8 := rfl
theorem insT_other {s : Bst} {tx : Nat → Bz} {a : Ab} {y : Nb} (hb : (s.all.map Nb.b).Nodup) (hy : y ∈ s.all) (h : (y.id : Int) ≠ a.id) : insT s tx a y.b = tx y.b := by
  unfold insT
  cases hx : fndB s.all a.id with
  | none => rfl
  | some x =>
    obtain ⟨hm, hi⟩ := fndB_mem hx
    refine upd_miss _ _ fun e => h ?_
    have h1 := find_nodup Nb.b hb x hm
    have h2 := find_nodup Nb.b hb y hy
    rw [e, h1] at h2
    rw [← Option.some.inj h2]
    exact hi
theorem fresh_find {s : Bst} {g bp : Nat} (hn : hasN s.all fresh = false) : findR (addS s fresh g bp) fresh = .tuple #[.int .i64 (s.next : Int), .bool true] := by
  unfold findR
  rw [show (addS s fresh g bp).all = s.all ++ [⟨s.next, g, bp, fresh⟩] from rfl, List.find?_append, List.find?_eq_none.2 fun x hx => by simpa using hasN_false.1 hn x hx]
  simp
theorem fresh_get {s : Bst} {g bp : Nat} (ok : s.Ok) : fndB (addS s fresh g bp).all (s.next : Int) = some ⟨s.next, g, bp, fresh⟩ := by
  have h := ok.fresh
  unfold fndB at h ⊢
  rw [show (addS s fresh g bp).all = s.all ++ [⟨s.next, g, bp, fresh⟩] from rfl, List.find?_append, h]
  simp
theorem LZ.bblk {W w : World} {sb : Nat} {s : Bst} {tx : Nat → Bz} {k : Nat} {R : Heap} (h : LZ W w sb s tx k R) {x : Nb} (hx : x ∈ s.all) : ∃ cs, w.heap[x.b]? = some (.cells cs 104 (0, 0)) := by
  obtain ⟨z, E, e, _, ho⟩ := h.buf hx
  have hb : Blk w z.bp 104 (zCells z (tx x.b)) := ho.blk (by simp [zHeap])
  rw [← e]
  exact ⟨_, hb⟩
theorem buf_eql {w : World} {a b : Nat} (ha : ∃ cs, w.heap[a]? = some (.cells cs 104 (0, 0))) (hb : ∃ cs, w.heap[b]? = some (.cells cs 104 (0, 0))) (hne : a ≠ b) :
    (binOp .eql 39 (.pointer (some ⟨a, 0, none⟩)) (.pointer (some ⟨b, 0, none⟩))).run Tryz.prog w = .ok (.bool false) w := by
  obtain ⟨ca, ha⟩ := ha
  obtain ⟨cb, hb⟩ := hb
  obtain ⟨j, hj, hs⟩ : ∃ j, Tryz.prog.info? 104 = some j ∧ j.size = 19 := by
    have h : (Tryz.prog.info? 104).map (·.size) = some 19 := by kernel_rfl
    cases hi : Tryz.prog.info? 104 with
    | none => rw [hi] at h; cases h
    | some j => rw [hi] at h; exact ⟨j, rfl, Option.some.inj h⟩
  refine run_eql_ptr_other w Tryz.underlying39 hj (by rw [hs]; decide) (fun e => hne ?_) ha hb
  injection e
theorem str_nil : strOf [] = ⟨#[]⟩ := rfl
set_option maxRecDepth 100000 in
set_option maxHeartbeats 16000000 in
theorem apart_walk (l : List Ab) (A : Option Addr) (c : Nat) (a : Ab) (id : Int) (W : World) (hrd : Rd W (.slice A l.length c) 3 l.length (rows Ab.cells l)) (hm : l.length ≤ maxLen) (hR : Rules W) (hP : Pow W) :
    Calls Tryz.prog 7 #[.slice A l.length c, a.val, .int .i64 id] W fun e w' => e = .returned (.bool true) ∧ Below W.heap.size W w' := by
  have HBX := hide (below_box W (.cells #[.int .i64 a.k, .int .i64 a.id, .string a.n] 31))
  have HLV := hide (lives_any (W.alloc (.cells #[.int .i64 a.k, .int .i64 a.id, .string a.n] 31)) (hR.tabs.below HBX.out) (hP.below HBX.out))
  have HLI := hide (fun w1 (hb : Below W.heap.size W w1) => light_any l (.slice A l.length c) w1 (hrd.belowN hb) hm)
  have HRD := hide hrd
  have HR := hide hR
  obtain ⟨nn, hnn⟩ : ∃ nn, nn = l.length := ⟨_, rfl⟩
  rw [← hnn] at HRD HLI ⊢
  have HNN := hide hnn
  have hl2 : (nn : Int) ≤ 9223372036854775807 := by unfold maxLen at hm; omega
  obtain ⟨W1, hW1⟩ : ∃ q : World, q = W.alloc (.cells #[.int .i64 a.k, .int .i64 a.id, .string a.n] 31) := ⟨_, rfl⟩
  have HBC := Blk.new W 31 #[.int .i64 a.k, .int .i64 a.id, .string a.n]
  obtain ⟨bx, hbx⟩ : ∃ q, q = W.heap.size := ⟨_, rfl⟩
  rw [← hW1] at HBX HLV HBC
  rw [← hbx] at HBC
  have HAC := hide (fun (w' : World) (hb : Below W1.heap.size W1 w') => (show w'.cell? ⟨bx, 0, none⟩ = some (.int .i64 a.k) ∧ w'.cell? ⟨bx, 1, none⟩ = some (.int .i64 a.id) ∧ w'.cell? ⟨bx, 2, none⟩ = some (.string a.n) from
    ⟨((HBC.below hb HBC.lt).cell 0).trans rfl, ((HBC.below hb HBC.lt).cell 1).trans rfl, ((HBC.below hb HBC.lt).cell 2).trans rfl⟩))
  have HW1 := hide hW1
  have HBXE := hide hbx
  clear hrd hm hR hP hnn HBC
  go_enter Tryz.func7, Tryz.ntmps7
  go_upto_region 1 with fail
  try rw [← hW1]
  try rw [← hbx]
  clear hW1 hbx
  go_wp2_with fail
  refine Calls.mono HLV.out ?_
  rintro e w0 ⟨rfl, b0⟩
  have HB0 := hide b0
  have HB00 := hide (HBX.out.trans (b0.mono HBX.out.size))
  obtain ⟨q0, q1, q2⟩ := HAC.out w0 b0
  clear b0 HLV
  go_wp2_with fail
  refine Calls.mono (HLI.out _ HB00.out) ?_
  rintro e w1 ⟨rfl, rfl⟩
  clear HLI
  cases hli : lightB l with
  | false =>
    clear hli
    go_wp2_with fail
    go_ret
    exact ⟨rfl, HB00.out⟩
  | true =>
    have HLL := hide (lightB_iff.1 hli)
    clear hli
    have HLA := hide (light_any [a] (.slice (some ⟨w0.heap.size, 0, none⟩) 1 1) _ (rd_act w0 a) (by unfold maxLen; simp))
    go_wp2_with fail
    refine Calls.mono HLA.out ?_
    rintro e w1 ⟨rfl, rfl⟩
    clear HLA
    obtain ⟨w1, hw1⟩ : ∃ q : World, q = w0.alloc (.cells #[.int .i64 a.k, .int .i64 a.id, .string a.n] 31) := ⟨_, rfl⟩
    rw [← hw1]
    have HB1 := hide (show Below W.heap.size W w1 by rw [hw1]; exact HB00.out.alloc HB00.out.size _)
    have HW11 := hide (show Below W1.heap.size W1 w1 by rw [hw1]; exact HB0.out.alloc HB0.out.size _)
    clear hw1 q0 q1 q2
    cases hli : lightB [a] with
    | false =>
      clear hli
      go_wp2_with fail
      go_ret
      exact ⟨rfl, HB1.out⟩
    | true =>
      have HAN := hide ((lightB_iff.1 hli).1 a (by simp))
      clear hli
      have hn60 : (nn : Int) ≤ 60 := by have := HLL.out.2; have := HNN.out; omega
      clear hl2
      go_upto_region 12 with (first | (go_at_call 36; (with_reducible refine Calls.mono (create_nil _ _) ?_); rintro e9 w9 ⟨rfl, rfl⟩) | (go_at_call 17; (with_reducible refine Calls.mono (unique_nil _ _) ?_); rintro e9 w9 ⟨rfl, rfl⟩) | (go_at_call 13; (with_reducible refine Calls.mono (name_nil _ _) ?_); rintro e9 w9 ⟨rfl, rfl⟩) | (go_at_call 14; (with_reducible refine Calls.mono (find_nil _ _) ?_); rintro e9 w9 ⟨rfl, rfl⟩) | (go_at_call 35; (with_reducible refine Calls.mono (kill_nil _ _) ?_); rintro e9 w9 ⟨rfl, rfl⟩) | (go_at_call 37; (with_reducible refine Calls.mono (rename_nil _ _ _) ?_); rintro e9 w9 ⟨rfl, rfl⟩) | (go_at_call 38; (with_reducible refine Calls.mono (enter_nil _ _) ?_); rintro e9 w9 ⟨rfl, rfl⟩) | (go_at_call 39; (with_reducible refine Calls.mono (switch_nil _ _) ?_); rintro e9 w9 ⟨rfl, rfl⟩) | (go_at_call 40; (with_reducible refine Calls.mono (bury_nil _ _) ?_); rintro e9 w9 ⟨rfl, rfl⟩) | (go_at_call 16; (with_reducible refine Calls.mono (get_nil _ _) ?_); rintro e9 w9 ⟨rfl, rfl⟩) | (go_at_call 21; (with_reducible refine Calls.mono (current_nil _) ?_); rintro e9 w9 ⟨rfl, rfl⟩) | (go_at_call 26; (with_reducible refine Calls.mono (other_nil _) ?_); rintro e9 w1 ⟨rfl, b26⟩; have HB26 := hide b26; clear b26) | (go_at_call 12; (with_reducible refine Calls.mono (list_nil _) ?_); rintro e9 w9 ⟨rfl, rfl⟩) | (go_at_call 20; (with_reducible refine Calls.mono (many_nil _) ?_); rintro e9 w9 ⟨rfl, rfl⟩) | (go_at_call 34; (with_reducible refine Calls.mono (scopy_nil _) ?_); rintro e9 w9 ⟨rfl, rfl⟩))
      have HB1 := hide (HB1.out.trans (HB26.out.mono HB1.out.size))
      have HW11 := hide (HW11.out.trans (HB26.out.mono HW11.out.size))
      clear HB26
      have HR1 := hide (HR.out.below HB1.out)
      go_wp2_with fail
      refine Calls.mono (lz_new (Own.refl w1) HR1.out.tabs) ?_
      rintro e w2 ⟨sb, g0, b0, rfl, h1⟩
      have H1 := hide h1
      clear h1
      go_wp2_with fail
      go_loopw [17] (fun iv wr => ∃ (k : Nat) (s : Bst) (tx : Nat → Bz), k ≤ nn ∧ iv = .int .i64 (k : Int) ∧ LZ w1 wr sb s tx k []) (fun iv _ => nn - (intOf iv).toNat)
      case atStart => exact ⟨0, _, _, Nat.zero_le _, rfl, H1.out⟩
      case round =>
        obtain ⟨k, s, tx, hk, rfl, hz⟩ := hrel
        have HZ := hide hz
        have HK := hide hk
        clear hz
        by_cases hlt : k < nn
        · have y1 : decide (k < nn) = true := by simpa using hlt
          have y2 : decide ((k : Int) < (nn : Int)) = true := by simp; omega
          have y3 : (k : Int) < (nn : Int) := by omega
          obtain ⟨a3, ha⟩ : ∃ a3, l[k]? = some a3 := ⟨_, List.getElem?_eq_getElem (by rw [← HNN.out]; exact hlt)⟩
          obtain ⟨g, off, rfl, p0, p1, p2⟩ := (HRD.out.belowN (HB1.out.trans (HZ.out.bel.mono HB1.out.size))).act HNN.out ha
          have HDO := hide (do_any HZ.out HR1.out (by have := HLL.out.2; have := HNN.out; omega) a3 (HLL.out.1 a3 (List.mem_of_getElem? ha)))
          have HLT := hide hlt
          clear hlt hk ha
          go_wp2_with fail
          refine Calls.mono HDO.out ?_
          rintro e w3 ⟨rfl, s2, tx2, _, h2⟩
          have H2 := hide h2
          clear h2 p0 p1 p2
          go_wp2_with fail
          go_roundw
          case rel => exact ⟨k + 1, s2, tx2, HLT.out, by go_num, H2.out⟩
          case measure => have := HLT.out; simp [intOf]; omega
        · have y1 : decide (k < nn) = false := by simpa using hlt
          have y2 : decide ((k : Int) < (nn : Int)) = false := by simp; omega
          obtain rfl : k = nn := by omega
          have HOK := hide HZ.out.ok
          have HCP := hide (HZ.out.copy (by omega))
          have HLST := hide (fun (w' : World) (hb : Below w1.heap.size w1 w') => HAC.out w' (HW11.out.trans (hb.mono HW11.out.size)))
          clear hk hlt H1
          go_wp2_with fail
          refine Calls.mono HCP.out ?_
          rintro e w4 ⟨ob, sc, txc, HC, rfl, hsc, h4, hco⟩
          have HSC := hide hsc
          have HCO := hide hco
          have H4 := hide h4
          obtain ⟨xc, hxc, hxcm, hxci⟩ := order_has HOK.out HZ.out.cu
          obtain ⟨yc, hyc, hycm⟩ : ∃ yc, fndB sc.all (s.cur : Int) = some yc ∧ yc ∈ sc.all := by
            rcases hco.get (s.cur : Int) with ⟨h9, _⟩ | ⟨x9, y9, h9, h10, _⟩
            · rw [hxc] at h9; cases h9
            · exact ⟨y9, h10, (fndB_mem h10).1⟩
          have hne := h4.apart hsc hxcm hycm
          obtain ⟨HE, _, hlo⟩ := h4.flip hsc
          have hpe := buf_eql (hlo.bblk hycm) (h4.bblk hxcm) (fun e => hne e.symm)
          have HCU := hide h4.current
          have HGS := h4.get (s.cur : Int)
          rw [show getR s (s.cur : Int) = .pointer (some ⟨xc.b, 0, none⟩) from by unfold getR; rw [hxc]] at HGS
          have HGS := hide HGS
          have HGO := hlo.get (s.cur : Int)
          rw [show getR sc (s.cur : Int) = .pointer (some ⟨yc.b, 0, none⟩) from by unfold getR; rw [hyc]] at HGO
          have HGO := hide HGO
          have v1 : decide (yc.b = xc.b) = false := by simpa using fun e => hne e.symm
          have v2 : (yc.b == xc.b) = false := by simpa using fun e => hne e.symm
          have v3 : ¬ yc.b = xc.b := fun e => hne e.symm
          clear hsc h4 hco HCP hxc hxcm hxci hyc hycm hne hlo
          go_upto_region 20 with (first | (go_at_call 21; (with_reducible refine Calls.mono HCU.out ?_); rintro e9 w9 ⟨rfl, rfl⟩) | (go_at_call 16; (first | (with_reducible refine Calls.mono HGS.out ?_) | (with_reducible refine Calls.mono HGO.out ?_)); rintro e9 w9 ⟨rfl, rfl⟩))
          clear v1 v2 v3 HGS HGO hpe
          have HLS := hide (H4.out.listO (by omega))
          go_wp2_with fail
          refine Calls.mono HLS.out ?_
          rintro e w5 ⟨v5, rfl, s5, f5, b5⟩
          obtain ⟨A2, c2, rfl, _, _⟩ := Sl.form s5
          obtain ⟨m, hm⟩ : ∃ m, m = s.order.length := ⟨_, rfl⟩
          have H5 := H4.out.join b5 s5 f5
          have HWR := hide (Sl.rowOk s5)
          rw [← hm] at H5 HWR ⊢
          have H5 := hide H5
          have HM := hide hm
          have HWAS := hide (fun (w' : World) (s' : Bst) (tx' : Nat → Bz) (k' : Nat) (R' : Heap) (h' : LZ w1 w' sb s' tx' k' R') (hx : ∀ x, x ∈ rowOf 3 1 (.slice A2 m c2) m (ints s.order) → x ∈ R') => (show Sl w' 3 1 (.slice A2 m c2) m (ints s.order) from
            h'.rowSl hx (by rw [ints_size, HM.out, Nat.mul_one]) HWR.out))
          have HCU := hide H5.out.current
          have HM60 := hide (show s.order.length ≤ 1000000 from by have := HZ.out.len; omega)
          clear s5 f5 b5 HLS hm
          go_wp2_with fail
          refine Calls.mono HCU.out ?_
          rintro e w6 ⟨rfl, rfl⟩
          have HGT := H5.out.get id
          obtain ⟨H6, hH6, hlo⟩ := (H5.out.perm (List.perm_append_comm_assoc _ _ _)).flip HSC.out
          have HH6 := hide hH6
          have HDO := hide (do_any hlo HR1.out (by omega) a HAN.out)
          clear hH6 hlo HCU
          rcases nameR_form s id with ⟨hf, _, hg⟩ | ⟨x, hf, _, hg⟩
          · as_aux_lemma =>
              rw [hg] at HGT
              have HGT := hide HGT
              have HF := hide hf
              clear hf hg
              go_wp2_with fail
              refine Calls.mono HGT.out ?_
              rintro e w6 ⟨rfl, rfl⟩
              obtain ⟨w6, hw6⟩ : ∃ q : World, q = w5 := ⟨_, rfl⟩
              have HB56 := hide (show Below w5.heap.size w5 w6 from hw6 ▸ Below.refl _ _)
              subst hw6
              obtain ⟨q0, q1, q2⟩ := HLST.out w6 (H5.out.below HB56.out).bel
              obtain ⟨H9, hH9, hlo9⟩ := ((H5.out.below HB56.out).perm (List.perm_append_comm_assoc _ _ _)).flip HSC.out
              have HH9 := hide hH9
              have HDO9 := hide (do_any hlo9 HR1.out (by omega) a HAN.out)
              clear HDO HH6 hH9 hlo9
              go_wp2_with fail
              refine Calls.mono HDO9.out ?_
              rintro e w7 ⟨rfl, so, txo, _, h7⟩
              obtain ⟨HO, _, h8⟩ := h7.flip HH9.out
              have H8 := hide h8
              have HLS := hide (h8.listO (by omega))
              clear h7 h8 q0 q1 q2 HDO9
              go_wp2_with fail
              refine Calls.mono HLS.out ?_
              rintro e w8 ⟨v8, rfl, s8, f8, b8⟩
              obtain ⟨A8, c8, rfl, _, _⟩ := Sl.form s8
              have H9' := hide (H8.out.below b8)
              have HSM := hide (same_ints w8 s.order m m A8 A2 c8 c2 HM.out HM.out (by have h9 := Sl.rd s8; rwa [← HM.out] at h9) ((HWAS.out w8 _ _ _ _ H9'.out (fun x hx => List.mem_append_right _ (List.mem_append_left _ hx))).rd) HM60.out)
              rw [← HM.out]
              clear s8 f8 b8 HLS
              go_wp2_with fail
              refine Calls.mono HSM.out ?_
              rintro e w9 ⟨rfl, b9⟩
              have H10 := hide (H9'.out.below b9)
              have HCU := hide H10.out.current
              clear b9
              go_wp2_with fail
              refine Calls.mono HCU.out ?_
              rintro e w9 ⟨rfl, rfl⟩
              have H11 := H10
              obtain ⟨w10, hw10⟩ : ∃ q : World, q = w9 := ⟨_, rfl⟩
              subst hw10
              obtain ⟨q0, q1, q2⟩ := HLST.out w10 H11.out.bel
              have HD8 := hide (do_any H11.out HR1.out (by omega) (ac8 a) HAN.out)
              clear HCU HSM
              go_wp2_with fail
              refine Calls.mono HD8.out ?_
              rintro e w11 ⟨rfl, s3, tx3, hdr, h12⟩
              obtain ⟨e3, e4⟩ : s3 = s ∧ tx3 = insT s tx (ac8 a) := by
                unfold DoR at hdr
                rw [ac8_p, if_neg (by decide), if_neg (by decide), if_neg (by decide), if_neg (by decide), if_neg (by decide), if_pos rfl] at hdr
                exact hdr
              rw [e3, e4] at h12
              have H12 := hide h12
              obtain ⟨p0, p1, p2⟩ := HLST.out w11 h12.bel
              clear hdr h12 HD8 q0 q1 q2 e3 e4
              have HCR := hide (H12.out.create HR1.out.tabs (by omega) fresh (by decide))
              have HCF := hide (cre_fresh s)
              go_wp2_with fail
              refine Calls.mono HCR.out ?_
              rintro e w13 ⟨rfl, hc1, hc2⟩
              have HC1 := hide hc1
              have HC2 := hide hc2
              clear hc1 hc2 HCR p0 p1 p2
              rcases HCF.out with h0 | h0 | h0
              · have H14 := hide (HC1.out (by rw [h0]; decide))
                obtain ⟨fi, fb, hff⟩ := findR_form s fresh
                have HFD := H14.out.find fresh
                rw [hff] at HFD
                have HFD := hide HFD
                rw [h0, if_neg (by decide)]
                clear h0 hff
                go_wp2_with fail
                refine Calls.mono HFD.out ?_
                rintro e w14 ⟨rfl, b14⟩
                have H15 := hide (H14.out.below b14)
                clear b14
                go_wp2_with fail
                go_ret
                exact ⟨rfl, HB1.out.trans (H15.out.bel.mono HB1.out.size)⟩
              · have H14 := hide (HC1.out (by rw [h0]; decide))
                obtain ⟨fi, fb, hff⟩ := findR_form s fresh
                have HFD := H14.out.find fresh
                rw [hff] at HFD
                have HFD := hide HFD
                rw [h0, if_neg (by decide)]
                clear h0 hff
                go_wp2_with fail
                refine Calls.mono HFD.out ?_
                rintro e w14 ⟨rfl, b14⟩
                have H15 := hide (H14.out.below b14)
                clear b14
                go_wp2_with fail
                go_ret
                exact ⟨rfl, HB1.out.trans (H15.out.bel.mono HB1.out.size)⟩
              · obtain ⟨g5, bp5, _, h14⟩ := HC2.out h0
                have H14 := hide h14
                have HHN := hide (show hasN s.all fresh = false from by
                  have h9 := h0
                  unfold creE at h9
                  rw [chk_fresh, if_neg (by decide)] at h9
                  split at h9
                  · cases h9
                  · rename_i h8; simpa using h8)
                have HFD := h14.find fresh
                rw [fresh_find HHN.out] at HFD
                have HFD := hide HFD
                rw [h0, if_pos rfl]
                clear h0 h14
                go_wp2_with fail
                refine Calls.mono HFD.out ?_
                rintro e w14 ⟨rfl, b14⟩
                have H15 := hide (H14.out.below b14)
                have HG5 := H15.out.get (s.next : Int)
                rw [show getR (addS s fresh g5 bp5) (s.next : Int) = .pointer (some ⟨bp5, 0, none⟩) from by unfold getR; rw [fresh_get HOK.out]] at HG5
                have HG5 := hide HG5
                have HT5 := H15.out.text (x := ⟨s.next, g5, bp5, fresh⟩) (fndB_mem (fresh_get HOK.out)).1
                rw [show (upd _ bp5 (⟨[], 0, s.p, s.q, s.r⟩ : Bz) (Nb.b ⟨s.next, g5, bp5, fresh⟩)) = ⟨[], 0, s.p, s.q, s.r⟩ from upd_hit _ _ _, str_nil] at HT5
                have HT5 := hide HT5
                clear b14
                go_wp2_with fail
                refine Calls.mono HG5.out ?_
                rintro e w15 ⟨rfl, rfl⟩
                go_wp2_with fail
                refine Calls.mono HT5.out ?_
                rintro e w15 ⟨rfl, n5, rfl⟩
                obtain ⟨w15, hw15⟩ : ∃ q : World, q = w14.drewN n5 := ⟨_, rfl⟩
                rw [← hw15]
                have H16 := hide (show LZ w1 w15 sb (addS s fresh g5 bp5) _ _ _ from hw15 ▸ H15.out.below (below_drewN (Below.refl _ _) n5))
                have HG6 := H16.out.get (s.next : Int)
                rw [show getR (addS s fresh g5 bp5) (s.next : Int) = .pointer (some ⟨bp5, 0, none⟩) from by unfold getR; rw [fresh_get HOK.out]] at HG6
                have HG6 := hide HG6
                have HP6 := H16.out.point (x := ⟨s.next, g5, bp5, fresh⟩) (fndB_mem (fresh_get HOK.out)).1
                rw [show (upd _ bp5 (⟨[], 0, s.p, s.q, s.r⟩ : Bz) (Nb.b ⟨s.next, g5, bp5, fresh⟩)) = ⟨[], 0, s.p, s.q, s.r⟩ from upd_hit _ _ _] at HP6
                have HP6 := hide HP6
                clear hw15
                go_wp2_with fail
                refine Calls.mono HG6.out ?_
                rintro e w16 ⟨rfl, rfl⟩
                go_wp2_with fail
                refine Calls.mono HP6.out ?_
                rintro e w16 ⟨rfl, n6, rfl⟩
                go_wp2_with fail
                go_ret
                exact ⟨rfl, HB1.out.trans ((H16.out.below (below_drewN (Below.refl _ _) n6)).bel.mono HB1.out.size)⟩
          · as_aux_lemma =>
              rw [hg] at HGT
              have HGT := hide HGT
              have HF := hide hf
              clear hf hg
              go_wp2_with fail
              refine Calls.mono HGT.out ?_
              rintro e w6 ⟨rfl, rfl⟩
              obtain ⟨St, hSt⟩ : ∃ St, St = strOf (tx x.b).L := ⟨_, rfl⟩
              have HTX := hide (H5.out.text (fndB_mem HF.out).1)
              rw [← hSt] at HTX
              have HST := hide hSt
              have t2 : (St.toList == St.toList) = true := (Lib.bytes_beq_iff _ _).2 rfl
              clear hSt
              go_wp2_with fail
              refine Calls.mono HTX.out ?_
              rintro e w6 ⟨rfl, nq, rfl⟩
              obtain ⟨w6, hw6⟩ : ∃ q : World, q = w5.drewN nq := ⟨_, rfl⟩
              rw [← hw6]
              have HB56 := hide (show Below w5.heap.size w5 w6 from hw6 ▸ below_drewN (Below.refl _ _) nq)
              clear hw6 HTX
              obtain ⟨q0, q1, q2⟩ := HLST.out w6 (H5.out.below HB56.out).bel
              obtain ⟨H9, hH9, hlo9⟩ := ((H5.out.below HB56.out).perm (List.perm_append_comm_assoc _ _ _)).flip HSC.out
              have HH9 := hide hH9
              have HDO9 := hide (do_any hlo9 HR1.out (by omega) a HAN.out)
              clear HDO HH6 hH9 hlo9
              go_wp2_with fail
              refine Calls.mono HDO9.out ?_
              rintro e w7 ⟨rfl, so, txo, _, h7⟩
              obtain ⟨HO, _, h8⟩ := h7.flip HH9.out
              have H8 := hide h8
              have HLS := hide (h8.listO (by omega))
              clear h7 h8 q0 q1 q2 HDO9
              go_wp2_with fail
              refine Calls.mono HLS.out ?_
              rintro e w8 ⟨v8, rfl, s8, f8, b8⟩
              obtain ⟨A8, c8, rfl, _, _⟩ := Sl.form s8
              have H9' := hide (H8.out.below b8)
              have HSM := hide (same_ints w8 s.order m m A8 A2 c8 c2 HM.out HM.out (by have h9 := Sl.rd s8; rwa [← HM.out] at h9) ((HWAS.out w8 _ _ _ _ H9'.out (fun x hx => List.mem_append_right _ (List.mem_append_left _ hx))).rd) HM60.out)
              rw [← HM.out]
              clear s8 f8 b8 HLS
              go_wp2_with fail
              refine Calls.mono HSM.out ?_
              rintro e w9 ⟨rfl, b9⟩
              have H10 := hide (H9'.out.below b9)
              have HCU := hide H10.out.current
              clear b9
              go_wp2_with fail
              refine Calls.mono HCU.out ?_
              rintro e w9 ⟨rfl, rfl⟩
              have HTX := hide (H10.out.text (fndB_mem HF.out).1)
              rw [← HST.out] at HTX
              go_wp2_with fail
              refine Calls.mono HTX.out ?_
              rintro e w10 ⟨rfl, nq, rfl⟩
              obtain ⟨w10, hw10⟩ : ∃ q : World, q = w9.drewN nq := ⟨_, rfl⟩
              rw [← hw10]
              have H11 := hide (show LZ w1 w10 sb s tx k _ from hw10 ▸ H10.out.below (below_drewN (Below.refl _ _) nq))
              clear hw10 HTX
              obtain ⟨q0, q1, q2⟩ := HLST.out w10 H11.out.bel
              have HD8 := hide (do_any H11.out HR1.out (by omega) (ac8 a) HAN.out)
              clear HCU HSM
              go_wp2_with fail
              refine Calls.mono HD8.out ?_
              rintro e w11 ⟨rfl, s3, tx3, hdr, h12⟩
              obtain ⟨e3, e4⟩ : s3 = s ∧ tx3 = insT s tx (ac8 a) := by
                unfold DoR at hdr
                rw [ac8_p, if_neg (by decide), if_neg (by decide), if_neg (by decide), if_neg (by decide), if_neg (by decide), if_pos rfl] at hdr
                exact hdr
              rw [e3, e4] at h12
              have H12 := hide h12
              obtain ⟨p0, p1, p2⟩ := HLST.out w11 h12.bel
              clear hdr h12 HD8 q0 q1 q2 e3 e4
              by_cases hid : a.id = id
              · have u1 : (a.id == id) = true := by simpa using hid
                have u2 : decide (a.id = id) = true := by simpa using hid
                have u3 : (a.id != id) = false := by simp [hid]
                clear hid
                have HCR := hide (H12.out.create HR1.out.tabs (by omega) fresh (by decide))
                have HCF := hide (cre_fresh s)
                go_wp2_with fail
                refine Calls.mono HCR.out ?_
                rintro e w13 ⟨rfl, hc1, hc2⟩
                have HC1 := hide hc1
                have HC2 := hide hc2
                clear hc1 hc2 HCR p0 p1 p2
                rcases HCF.out with h0 | h0 | h0
                · have H14 := hide (HC1.out (by rw [h0]; decide))
                  obtain ⟨fi, fb, hff⟩ := findR_form s fresh
                  have HFD := H14.out.find fresh
                  rw [hff] at HFD
                  have HFD := hide HFD
                  rw [h0, if_neg (by decide)]
                  clear h0 hff
                  go_wp2_with fail
                  refine Calls.mono HFD.out ?_
                  rintro e w14 ⟨rfl, b14⟩
                  have H15 := hide (H14.out.below b14)
                  clear b14
                  go_wp2_with fail
                  go_ret
                  exact ⟨rfl, HB1.out.trans (H15.out.bel.mono HB1.out.size)⟩
                · have H14 := hide (HC1.out (by rw [h0]; decide))
                  obtain ⟨fi, fb, hff⟩ := findR_form s fresh
                  have HFD := H14.out.find fresh
                  rw [hff] at HFD
                  have HFD := hide HFD
                  rw [h0, if_neg (by decide)]
                  clear h0 hff
                  go_wp2_with fail
                  refine Calls.mono HFD.out ?_
                  rintro e w14 ⟨rfl, b14⟩
                  have H15 := hide (H14.out.below b14)
                  clear b14
                  go_wp2_with fail
                  go_ret
                  exact ⟨rfl, HB1.out.trans (H15.out.bel.mono HB1.out.size)⟩
                · obtain ⟨g5, bp5, _, h14⟩ := HC2.out h0
                  have H14 := hide h14
                  have HHN := hide (show hasN s.all fresh = false from by
                    have h9 := h0
                    unfold creE at h9
                    rw [chk_fresh, if_neg (by decide)] at h9
                    split at h9
                    · cases h9
                    · rename_i h8; simpa using h8)
                  have HFD := h14.find fresh
                  rw [fresh_find HHN.out] at HFD
                  have HFD := hide HFD
                  rw [h0, if_pos rfl]
                  clear h0 h14
                  go_wp2_with fail
                  refine Calls.mono HFD.out ?_
                  rintro e w14 ⟨rfl, b14⟩
                  have H15 := hide (H14.out.below b14)
                  have HG5 := H15.out.get (s.next : Int)
                  rw [show getR (addS s fresh g5 bp5) (s.next : Int) = .pointer (some ⟨bp5, 0, none⟩) from by unfold getR; rw [fresh_get HOK.out]] at HG5
                  have HG5 := hide HG5
                  have HT5 := H15.out.text (x := ⟨s.next, g5, bp5, fresh⟩) (fndB_mem (fresh_get HOK.out)).1
                  rw [show (upd _ bp5 (⟨[], 0, s.p, s.q, s.r⟩ : Bz) (Nb.b ⟨s.next, g5, bp5, fresh⟩)) = ⟨[], 0, s.p, s.q, s.r⟩ from upd_hit _ _ _, str_nil] at HT5
                  have HT5 := hide HT5
                  clear b14
                  go_wp2_with fail
                  refine Calls.mono HG5.out ?_
                  rintro e w15 ⟨rfl, rfl⟩
                  go_wp2_with fail
                  refine Calls.mono HT5.out ?_
                  rintro e w15 ⟨rfl, n5, rfl⟩
                  obtain ⟨w15, hw15⟩ : ∃ q : World, q = w14.drewN n5 := ⟨_, rfl⟩
                  rw [← hw15]
                  have H16 := hide (show LZ w1 w15 sb (addS s fresh g5 bp5) _ _ _ from hw15 ▸ H15.out.below (below_drewN (Below.refl _ _) n5))
                  have HG6 := H16.out.get (s.next : Int)
                  rw [show getR (addS s fresh g5 bp5) (s.next : Int) = .pointer (some ⟨bp5, 0, none⟩) from by unfold getR; rw [fresh_get HOK.out]] at HG6
                  have HG6 := hide HG6
                  have HP6 := H16.out.point (x := ⟨s.next, g5, bp5, fresh⟩) (fndB_mem (fresh_get HOK.out)).1
                  rw [show (upd _ bp5 (⟨[], 0, s.p, s.q, s.r⟩ : Bz) (Nb.b ⟨s.next, g5, bp5, fresh⟩)) = ⟨[], 0, s.p, s.q, s.r⟩ from upd_hit _ _ _] at HP6
                  have HP6 := hide HP6
                  clear hw15
                  go_wp2_with fail
                  refine Calls.mono HG6.out ?_
                  rintro e w16 ⟨rfl, rfl⟩
                  go_wp2_with fail
                  refine Calls.mono HP6.out ?_
                  rintro e w16 ⟨rfl, n6, rfl⟩
                  go_wp2_with fail
                  go_ret
                  exact ⟨rfl, HB1.out.trans ((H16.out.below (below_drewN (Below.refl _ _) n6)).bel.mono HB1.out.size)⟩
              · have u1 : (a.id == id) = false := by simpa using hid
                have u2 : decide (a.id = id) = false := by simpa using hid
                have u3 : (a.id != id) = true := by simpa using hid
                have HTX := H12.out.text (fndB_mem HF.out).1
                rw [insT_other (a := ac8 a) HZ.out.bn (fndB_mem HF.out).1 (by rw [(fndB_mem HF.out).2]; exact fun e => hid e.symm), ← HST.out] at HTX
                have HTX := hide HTX
                clear hid
                go_wp2_with fail
                refine Calls.mono HTX.out ?_
                rintro e w12 ⟨rfl, n12, rfl⟩
                obtain ⟨w12, hw12⟩ : ∃ q : World, q = w11.drewN n12 := ⟨_, rfl⟩
                rw [← hw12]
                have H13 := hide (show LZ w1 w12 sb s _ _ _ from hw12 ▸ H12.out.below (below_drewN (Below.refl _ _) n12))
                clear hw12 HTX
                have HCR := hide (H13.out.create HR1.out.tabs (by omega) fresh (by decide))
                have HCF := hide (cre_fresh s)
                go_wp2_with fail
                refine Calls.mono HCR.out ?_
                rintro e w13 ⟨rfl, hc1, hc2⟩
                have HC1 := hide hc1
                have HC2 := hide hc2
                clear hc1 hc2 HCR p0 p1 p2
                rcases HCF.out with h0 | h0 | h0
                · have H14 := hide (HC1.out (by rw [h0]; decide))
                  obtain ⟨fi, fb, hff⟩ := findR_form s fresh
                  have HFD := H14.out.find fresh
                  rw [hff] at HFD
                  have HFD := hide HFD
                  rw [h0, if_neg (by decide)]
                  clear h0 hff
                  go_wp2_with fail
                  refine Calls.mono HFD.out ?_
                  rintro e w14 ⟨rfl, b14⟩
                  have H15 := hide (H14.out.below b14)
                  clear b14
                  go_wp2_with fail
                  go_ret
                  exact ⟨rfl, HB1.out.trans (H15.out.bel.mono HB1.out.size)⟩
                · have H14 := hide (HC1.out (by rw [h0]; decide))
                  obtain ⟨fi, fb, hff⟩ := findR_form s fresh
                  have HFD := H14.out.find fresh
                  rw [hff] at HFD
                  have HFD := hide HFD
                  rw [h0, if_neg (by decide)]
                  clear h0 hff
                  go_wp2_with fail
                  refine Calls.mono HFD.out ?_
                  rintro e w14 ⟨rfl, b14⟩
                  have H15 := hide (H14.out.below b14)
                  clear b14
                  go_wp2_with fail
                  go_ret
                  exact ⟨rfl, HB1.out.trans (H15.out.bel.mono HB1.out.size)⟩
                · obtain ⟨g5, bp5, _, h14⟩ := HC2.out h0
                  have H14 := hide h14
                  have HHN := hide (show hasN s.all fresh = false from by
                    have h9 := h0
                    unfold creE at h9
                    rw [chk_fresh, if_neg (by decide)] at h9
                    split at h9
                    · cases h9
                    · rename_i h8; simpa using h8)
                  have HFD := h14.find fresh
                  rw [fresh_find HHN.out] at HFD
                  have HFD := hide HFD
                  rw [h0, if_pos rfl]
                  clear h0 h14
                  go_wp2_with fail
                  refine Calls.mono HFD.out ?_
                  rintro e w14 ⟨rfl, b14⟩
                  have H15 := hide (H14.out.below b14)
                  have HG5 := H15.out.get (s.next : Int)
                  rw [show getR (addS s fresh g5 bp5) (s.next : Int) = .pointer (some ⟨bp5, 0, none⟩) from by unfold getR; rw [fresh_get HOK.out]] at HG5
                  have HG5 := hide HG5
                  have HT5 := H15.out.text (x := ⟨s.next, g5, bp5, fresh⟩) (fndB_mem (fresh_get HOK.out)).1
                  rw [show (upd _ bp5 (⟨[], 0, s.p, s.q, s.r⟩ : Bz) (Nb.b ⟨s.next, g5, bp5, fresh⟩)) = ⟨[], 0, s.p, s.q, s.r⟩ from upd_hit _ _ _, str_nil] at HT5
                  have HT5 := hide HT5
                  clear b14
                  go_wp2_with fail
                  refine Calls.mono HG5.out ?_
                  rintro e w15 ⟨rfl, rfl⟩
                  go_wp2_with fail
                  refine Calls.mono HT5.out ?_
                  rintro e w15 ⟨rfl, n5, rfl⟩
                  obtain ⟨w15, hw15⟩ : ∃ q : World, q = w14.drewN n5 := ⟨_, rfl⟩
                  rw [← hw15]
                  have H16 := hide (show LZ w1 w15 sb (addS s fresh g5 bp5) _ _ _ from hw15 ▸ H15.out.below (below_drewN (Below.refl _ _) n5))
                  have HG6 := H16.out.get (s.next : Int)
                  rw [show getR (addS s fresh g5 bp5) (s.next : Int) = .pointer (some ⟨bp5, 0, none⟩) from by unfold getR; rw [fresh_get HOK.out]] at HG6
                  have HG6 := hide HG6
                  have HP6 := H16.out.point (x := ⟨s.next, g5, bp5, fresh⟩) (fndB_mem (fresh_get HOK.out)).1
                  rw [show (upd _ bp5 (⟨[], 0, s.p, s.q, s.r⟩ : Bz) (Nb.b ⟨s.next, g5, bp5, fresh⟩)) = ⟨[], 0, s.p, s.q, s.r⟩ from upd_hit _ _ _] at HP6
                  have HP6 := hide HP6
                  clear hw15
                  go_wp2_with fail
                  refine Calls.mono HG6.out ?_
                  rintro e w16 ⟨rfl, rfl⟩
                  go_wp2_with fail
                  refine Calls.mono HP6.out ?_
                  rintro e w16 ⟨rfl, n6, rfl⟩
                  go_wp2_with fail
                  go_ret
                  exact ⟨rfl, HB1.out.trans ((H16.out.below (below_drewN (Below.refl _ _) n6)).bel.mono HB1.out.size)⟩
end Go.Proofs.YtnbhejbpofjamaaGreatDoor
